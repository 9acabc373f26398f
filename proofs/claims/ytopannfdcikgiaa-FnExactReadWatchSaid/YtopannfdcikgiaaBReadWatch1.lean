/- Texts of this proof, one behind the other. -/
import Derived.Test.YtopannfdcikgiaaBC
import Derived.Test.YtopannfdcikgiaaProg
import Derived.KernelRfl
/- Words for the laws' own functions: sizes, marks. -/
namespace Go.Proofs.Ytopannfdcikgiaa.Sy
open Go Go.RowKit
set_option linter.unusedSimpArgs false
set_option linter.unusedVariables false
/-- What is left of n when m are taken; -1 when there are not so many. -/
def lf (n : Int) (m : Nat) : Int := if n - m < 0 then -1 else n - m
theorem lf_neg {n : Int} {m : Nat} : lf n m < 0 ↔ n < m := by unfold lf; split <;> omega
theorem lf_zero {n : Int} (h : 0 ≤ n) : lf n 0 = n := by unfold lf; rw [if_neg (by omega)]; simp
theorem lf_some {n : Int} {m : Nat} (h : ¬ lf n m < 0) : lf n m = n - m := by unfold lf at *; split at h <;> first | omega | (rw [if_neg ‹_›])
theorem lf_none {n : Int} {m : Nat} (h : lf n m < 0) : lf n m = -1 := by unfold lf at *; split at h <;> first | (rw [if_pos ‹_›]) | omega
theorem lf_le {n : Int} {m : Nat} (h : 0 ≤ n) : lf n m ≤ n := by unfold lf; split <;> omega
theorem lf_ge {n : Int} {m : Nat} : -1 ≤ lf n m := by unfold lf; split <;> omega
/-- Taken one after another. -/
theorem lf_seq {n : Int} {a b : Nat} (h : ¬ lf n a < 0) : lf (lf n a) b = lf n (a + b) := by
  rw [lf_some h]; unfold lf; simp only [Int.natCast_add]
  by_cases h2 : n - a - b < 0
  · rw [if_pos h2, if_pos (by omega)]
  · rw [if_neg h2, if_neg (by omega)]; omega
theorem lf_stop {n : Int} {a b : Nat} (h : lf n a < 0) : lf n (a + b) = -1 := by
  have := lf_neg.1 h
  unfold lf; rw [if_pos (by omega)]
def msL {α : Type} (f : α → Nat) (l : List α) : Nat := l.length + (l.map f).sum
def sumL {α : Type} (f : α → Nat) (l : List α) : Nat := (l.map f).sum
theorem sumL_snoc {α : Type} {f : α → Nat} {l : List α} {i : Nat} (h : i < l.length) : sumL f (l.take (i + 1)) = sumL f (l.take i) + f l[i] := by
  unfold sumL; rw [take_snoc h, List.map_append, List.sum_append]; simp
theorem sumL_take_le {α : Type} (f : α → Nat) (l : List α) (i : Nat) : sumL f (l.take i) ≤ sumL f l := by
  have : sumL f l = sumL f (l.take i) + sumL f (l.drop i) := by
    conv => lhs; rw [← List.take_append_drop i l]
    unfold sumL; rw [List.map_append, List.sum_append]
  omega
theorem sumL_mem {α : Type} {f : α → Nat} {l : List α} {x : α} (h : x ∈ l) : f x ≤ sumL f l := by
  induction l with
  | nil => simp at h
  | cons y l ih =>
    simp only [sumL, List.map_cons, List.sum_cons] at *
    rcases List.mem_cons.1 h with rfl | h
    · omega
    · have := ih h; omega
theorem fld_zero {z i : Nat} {v : GV} : fld 0 (atz z v i) = atz z v i := by
  cases v <;> rfl
theorem reps_enc {α : Type} (p : Pl α) (x : α) (n : Nat) : reps n (p.enc x) = p.cells (List.replicate n x) := by
  unfold reps
  induction n with
  | zero => rfl
  | succ n ih =>
    rw [List.replicate_succ, List.flatten_cons, ih, List.replicate_succ]; rfl
theorem fill_step {α : Type} {l : List α} {z : α} {i : Nat} (h : i < l.length) : (l.take i ++ List.replicate (l.length - i) z).set i l[i] = l.take (i + 1) ++ List.replicate (l.length - (i + 1)) z := by
  rw [take_snoc h, List.set_append_right _ _ (by simp; omega)]
  have e1 : i - (l.take i).length = 0 := by simp; omega
  rw [e1, show l.length - i = (l.length - (i + 1)) + 1 by omega, List.replicate_succ, List.set_cons_zero, List.append_assoc]
  rfl
theorem fill_len {α : Type} {l : List α} {z : α} {i : Nat} (h : i < l.length) : i < (l.take i ++ List.replicate (l.length - i) z).length := by simp; omega
theorem fill_end {α : Type} {l : List α} {z : α} : l.take l.length ++ List.replicate (l.length - l.length) z = l := by simp
/-- Marks of a row: each takes c numbers. -/
def mkF {α : Type} (e : Int → α) (c : Nat) (k : Int) (n : Nat) : List α := (List.range n).map fun j : Nat => e (k + c * j)
theorem mkF_length {α : Type} {e : Int → α} {c : Nat} {k : Int} {n : Nat} : (mkF e c k n).length = n := by simp [mkF]
theorem mkF_get {α : Type} {e : Int → α} {c : Nat} {k : Int} {n j : Nat} (h : j < (mkF e c k n).length) : (mkF e c k n)[j] = e (k + c * j) := by simp [mkF]
theorem mark_step {α : Type} {l : List α} {e : Int → α} {c : Nat} {k : Int} {i : Nat} (h : i < l.length) : ((mkF e c k l.length).take i ++ l.drop i).set i (e (k + c * i)) = (mkF e c k l.length).take (i + 1) ++ l.drop (i + 1) := by
  have hki : i < (mkF e c k l.length).length := by rw [mkF_length]; exact h
  rw [take_snoc hki, mkF_get, List.set_append_right _ _ (by simp [mkF_length]; omega)]
  have e1 : i - ((mkF e c k l.length).take i).length = 0 := by simp [mkF_length]; omega
  rw [e1, List.drop_eq_getElem_cons h, List.set_cons_zero, List.append_assoc]
  rfl
theorem mark_len {α : Type} {l : List α} {e : Int → α} {c : Nat} {k : Int} {i : Nat} : ((mkF e c k l.length).take i ++ l.drop i).length = l.length := by simp [mkF_length]; omega
theorem mark_end {α : Type} {l : List α} {e : Int → α} {c : Nat} {k : Int} : (mkF e c k l.length).take l.length ++ l.drop l.length = mkF e c k l.length := by
  rw [List.take_of_length_le (by rw [mkF_length]; omega)]; simp
namespace Hp
/-- Cells of an element that is in hand are written. -/
theorem sts {α : Type} {p : Pl α} {σ τ : St} {rs : List Thg} {v : GV} {L : List α} {j : Nat} {y : α} (H : Hp σ τ (ow p.kd v (L.set j y) :: rs)) (hj : j < L.length) (n k : Nat) (x : GV) (y' : α) (hx : x.cells.length = n) (hn : 0 < n) (hk : k + n ≤ p.z) (hy : p.enc y' = splice (p.enc y) k x.cells) :
    ∃ τ', stG n τ (fld k (atz p.z v j)) x = some (.tup [], τ') ∧ Hp σ τ' (ow p.kd v (L.set j y') :: rs) := by
  obtain ⟨τ', e, h⟩ := H.ste 0 rfl (j := j) (by simpa using hj) n k x y' hx hn hk (by rw [List.getElem_set_self]; exact hy)
  refine ⟨τ', e, ?_⟩
  have h : Hp σ τ' (ow p.kd v ((L.set j y).set j y') :: rs) := h
  rw [List.set_set] at h; exact h
end Hp
theorem set_self {α : Type} {l : List α} {i : Nat} (h : i < l.length) : l = l.set i l[i] := by rw [List.set_getElem_self]
/-- The text of a mark. -/
def figs (n : Nat) : List Int := if n = 0 then [] else figs (n / 10) ++ [48 + ((n % 10 : Nat) : Int)]
termination_by n
decreasing_by omega
def mtx (k : Int) : ByteArray := if k ≤ 0 then ⟨#[109, 48]⟩ else ⟨#[109]⟩ ++ txt (figs k.toNat)
abbrev n_l_markText : Nat := 129
def F_l_markText : Fn1 := ⟨20, [.t 2], (.seq (.reg [o 2 (.mov (.k (.str ⟨#[]⟩)))]) (.seq (.seq (.reg [o 4 (.mov (.t 0)), o 5 (.bin .leq (.t 4) (.k (.int .i64 0)))]) (.cnd (.t 5) (.seq (.reg [o 2 (.mov (.k (.str ⟨#[109, 48]⟩)))]) .ret) .skip)) (.seq (.reg [o 3 (.mov (.k (.str ⟨#[]⟩)))]) (.seq (.blk 0 (.lop (.seq (.seq (.reg [o 6 (.mov (.t 0)), o 7 (.bin .gtr (.t 6) (.k (.int .i64 0)))]) (.cnd (.t 7) .skip (.ext 0))) (.blk 1 (.seq (.reg [o 8 (.mov (.t 0)), o 9 (.bin .rem (.t 8) (.k (.int .i64 10))), o 10 (.bin .add (.k (.int .i64 48)) (.t 9)), o 11 (.cvi .u8 (.t 10)), o 12 (.lit 1 1 [(.int .u8 0)] [(0, 1, (.t 11))]), o 13 (.bts (.t 12)), o 14 (.mov (.t 3)), o 15 (.bin .add (.t 13) (.t 14)), o 3 (.mov (.t 15))]) (.reg [o 16 (.mov (.t 0)), o 17 (.bin .quo (.t 16) (.k (.int .i64 10))), o 0 (.mov (.t 17))])))))) (.seq (.reg [o 18 (.mov (.t 3)), o 19 (.bin .add (.k (.str ⟨#[109]⟩)) (.t 18)), o 2 (.mov (.t 19))]) .ret)))))⟩
theorem ir_l_markText : compFn Try.prog n_l_markText = some F_l_markText := by kernel_rfl
theorem figs_length (n : Nat) : (figs n).length ≤ n := by
  induction n using Nat.strongRecOn with
  | _ n ih =>
    unfold figs
    split
    · simp
    · have := ih (n / 10) (by omega)
      simp; omega
theorem txt_size (l : List Int) : (txt l).size = l.length := by simp [txt, ByteArray.size]
theorem figs_app (n : Nat) (h : 0 < n) (s : List Int) : figs (n / 10) ++ ((48 + ((n % 10 : Nat) : Int)) :: s) = figs n ++ s := by
  conv => rhs; unfold figs
  rw [if_neg (by omega)]; simp
theorem bts_new {τ : St} {n : Int} : ((elems (τ ++ [some (.row 1 [.int .u8 n])]) 1 (.sl τ.length 0 1)).bind fun r => (bytesOf r.2).map fun bs => GV.str ⟨bs.toArray⟩) = some (.str (txt [n])) := by
  refine bts_ok (.inr ⟨τ.length, 0, [.int .u8 n], rfl, by unfold rdB; simp [Blk.cells], by show 0 + 1 * 1 ≤ 1; omega, fun i x hx => ?_⟩)
  cases i with
  | zero => simp at hx; subst hx; rfl
  | succ i => simp at hx
theorem l_markText_ret (σ : St) (k : Int) (hk : k ≤ 4611686018427387904) : Ret Try.prog n_l_markText [gi k] σ (.str (mtx k)) σ := by
  refine ret_eq ir_l_markText (Nat.le_of_ble_eq_true rfl) trivial ?_
  simp +contextual (disch := omega) only [go_sem, Nat.reduceEqDiff, ↓reduceIte, Int.reduceEq, Int.reduceNeg, wrap_add, F_l_markText]
  refine ⟨fun h => ?_, fun h => ?_⟩
  · rw [mtx, if_pos (of_decide_eq_true h)]
  · have h := of_decide_eq_false h
    have hf := figs_length k.toNat
    refine vc_lop (fun q env τ => ∃ (s : List Int), env 0 = gi q ∧ q ≤ k.toNat ∧ env 3 = .str (txt s) ∧ figs q ++ s = figs k.toNat ∧ σ <+: τ) k.toNat ⟨[], by show gi k = _; rw [Int.toNat_of_nonneg (by omega)], Nat.le_refl _, rfl, by simp, List.prefix_refl _⟩ ?_
    rintro m env τ ⟨s, e0, hmk, e3, hs, hp⟩
    have hsl : s.length ≤ k.toNat := by have := congrArg List.length hs; simp at this; omega
    rcases Nat.eq_zero_or_pos m with rfl | hm
    · have hs' : s = figs k.toNat := by rw [← hs, figs]; simp
      have hsz : (⟨#[109]⟩ : ByteArray).size = 1 := rfl
      have hle : 1 + s.length ≤ 9223372036854775807 := by omega
      simp +contextual (disch := omega) only [go_sem, Nat.reduceEqDiff, ↓reduceIte, Int.reduceEq, Int.reduceNeg, wrap_add, e0, e3, hp, txt_size, hsz, hle, Int.natCast_zero, Int.lt_irrefl]
      rw [mtx, if_neg h, hs']
    · have hgt : decide (0 < (m : Int)) = true := by simp; omega
      have hle : 1 + s.length ≤ 9223372036854775807 := by omega
      have hm10 : (m : Int).tmod 10 = ((m % 10 : Nat) : Int) := by rw [Int.tmod_eq_emod_of_nonneg (by omega)]; omega
      have hd10 : (m : Int).tdiv 10 = ((m / 10 : Nat) : Int) := by rw [Int.tdiv_eq_ediv_of_nonneg (by omega)]; omega
      have h10 : ((10 : Int) = 0) = False := by simp
      have hw8 : IntKind.u8.wrap (48 + ((m % 10 : Nat) : Int)) = 48 + ((m % 10 : Nat) : Int) := wrap8 (by omega) (by omega)
      simp +contextual (disch := omega) only [go_sem, Nat.reduceEqDiff, ↓reduceIte, Int.reduceEq, Int.reduceNeg, wrap_add, e0, e3, hgt, h10, hm10, hd10, hw8, hle, bts_new, txt_size, ← txt_append]
      refine ⟨m / 10, by omega, _, rfl, by omega, rfl, ?_, pre_app hp _⟩
      rw [← hs, ← figs_app m hm]
end Go.Proofs.Ytopannfdcikgiaa.Sy

/- Contracts of the laws' own functions: sizes. -/
namespace Go.Proofs.Ytopannfdcikgiaa.Sy
open Go Go.RowKit
set_option linter.unusedSimpArgs false
set_option linter.unusedVariables false
def msString (s : ByteArray) : Nat := s.size
def wString (s : ByteArray) : Prop := s.size ≤ 9223372036854775807
def msIntS (l : List Int) : Nat := l.length
def wIntS (l : List Int) : Prop := l.length ≤ 9223372036854775807
def msTally (x : Tally) : Nat := x.obj.size
def wTally (x : Tally) : Prop := x.obj.size ≤ 9223372036854775807
def msLive (x : Live) : Nat := x.obj.size + x.key.size
def wLive (x : Live) : Prop := x.obj.size ≤ 9223372036854775807 ∧ x.key.size ≤ 9223372036854775807
def msCell (x : Cell) : Nat := x.obj.size
def wCell (x : Cell) : Prop := x.obj.size ≤ 9223372036854775807
def msEdit (x : Edit) : Nat := x.obj.size + x.key.size
def wEdit (x : Edit) : Prop := x.obj.size ≤ 9223372036854775807 ∧ x.key.size ≤ 9223372036854775807
def msWatch (x : Watch) : Nat := x.obj.size + x.key.size
def wWatch (x : Watch) : Prop := x.obj.size ≤ 9223372036854775807 ∧ x.key.size ≤ 9223372036854775807
def msClash (x : Clash) : Nat := x.obj.size + x.key.size
def wClash (x : Clash) : Prop := x.obj.size ≤ 9223372036854775807 ∧ x.key.size ≤ 9223372036854775807
def msFile (x : File) : Nat := x.text.size
def wFile (x : File) : Prop := x.text.size ≤ 9223372036854775807
def msLetter (x : Letter) : Nat := x.text.size
def wLetter (x : Letter) : Prop := x.text.size ≤ 9223372036854775807
def msEvent (x : Event) : Nat := msEdit x.edit
def wEvent (x : Event) : Prop := wEdit x.edit
def msAct (x : Act) : Nat := x.knew.length + x.obj.size + x.key.size
def wAct (x : Act) : Prop := x.knew.length ≤ 9223372036854775807 ∧ x.obj.size ≤ 9223372036854775807 ∧ x.key.size ≤ 9223372036854775807
instance : DecidableEq Act := fun a b => if h : a.dot = b.dot ∧ a.time = b.time ∧ a.knew = b.knew ∧ a.kind = b.kind ∧ a.obj = b.obj ∧ a.key = b.key ∧ a.val = b.val ∧ a.ref = b.ref then isTrue (by cases a; cases b; simp only at h; obtain ⟨rfl, rfl, rfl, rfl, rfl, rfl, rfl, rfl⟩ := h; rfl) else isFalse (fun e => h (by subst e; exact ⟨rfl, rfl, rfl, rfl, rfl, rfl, rfl, rfl⟩))
theorem Act.eq_iff {a b : Act} : a = b ↔ a.dot = b.dot ∧ a.time = b.time ∧ a.knew = b.knew ∧ a.kind = b.kind ∧ a.obj = b.obj ∧ a.key = b.key ∧ a.val = b.val ∧ a.ref = b.ref := ⟨fun h => by subst h; exact ⟨rfl, rfl, rfl, rfl, rfl, rfl, rfl, rfl⟩, fun h => by cases a; cases b; simp only at h; obtain ⟨rfl, rfl, rfl, rfl, rfl, rfl, rfl, rfl⟩ := h; rfl⟩
def msState (x : State) : Nat := x.know.length + (x.tallies.length + sumL msTally x.tallies) + (x.lives.length + sumL msLive x.lives) + (x.cells.length + sumL msCell x.cells)
def wState (x : State) : Prop := x.know.length ≤ 9223372036854775807 ∧ (x.tallies.length ≤ 9223372036854775807 ∧ ∀ y ∈ x.tallies, wTally y) ∧ (x.lives.length ≤ 9223372036854775807 ∧ ∀ y ∈ x.lives, wLive y) ∧ (x.cells.length ≤ 9223372036854775807 ∧ ∀ y ∈ x.cells, wCell y)
instance : DecidableEq State := fun a b => if h : a.know = b.know ∧ a.tallies = b.tallies ∧ a.lives = b.lives ∧ a.cells = b.cells then isTrue (by cases a; cases b; simp only at h; obtain ⟨rfl, rfl, rfl, rfl⟩ := h; rfl) else isFalse (fun e => h (by subst e; exact ⟨rfl, rfl, rfl, rfl⟩))
theorem State.eq_iff {a b : State} : a = b ↔ a.know = b.know ∧ a.tallies = b.tallies ∧ a.lives = b.lives ∧ a.cells = b.cells := ⟨fun h => by subst h; exact ⟨rfl, rfl, rfl, rfl⟩, fun h => by cases a; cases b; simp only at h; obtain ⟨rfl, rfl, rfl, rfl⟩ := h; rfl⟩
def msDelta (x : Delta) : Nat := x.base.length + x.know.length + (x.tallies.length + sumL msTally x.tallies) + (x.lives.length + sumL msLive x.lives) + x.dead.length + (x.cells.length + sumL msCell x.cells)
def wDelta (x : Delta) : Prop := x.base.length ≤ 9223372036854775807 ∧ x.know.length ≤ 9223372036854775807 ∧ (x.tallies.length ≤ 9223372036854775807 ∧ ∀ y ∈ x.tallies, wTally y) ∧ (x.lives.length ≤ 9223372036854775807 ∧ ∀ y ∈ x.lives, wLive y) ∧ x.dead.length ≤ 9223372036854775807 ∧ (x.cells.length ≤ 9223372036854775807 ∧ ∀ y ∈ x.cells, wCell y)
instance : DecidableEq Delta := fun a b => if h : a.base = b.base ∧ a.know = b.know ∧ a.tallies = b.tallies ∧ a.lives = b.lives ∧ a.dead = b.dead ∧ a.cells = b.cells then isTrue (by cases a; cases b; simp only at h; obtain ⟨rfl, rfl, rfl, rfl, rfl, rfl⟩ := h; rfl) else isFalse (fun e => h (by subst e; exact ⟨rfl, rfl, rfl, rfl, rfl, rfl⟩))
theorem Delta.eq_iff {a b : Delta} : a = b ↔ a.base = b.base ∧ a.know = b.know ∧ a.tallies = b.tallies ∧ a.lives = b.lives ∧ a.dead = b.dead ∧ a.cells = b.cells := ⟨fun h => by subst h; exact ⟨rfl, rfl, rfl, rfl, rfl, rfl⟩, fun h => by cases a; cases b; simp only at h; obtain ⟨rfl, rfl, rfl, rfl, rfl, rfl⟩ := h; rfl⟩
def msUnit (x : Unit_) : Nat := msAct x.act + msDelta x.delta
def wUnit (x : Unit_) : Prop := wAct x.act ∧ wDelta x.delta
instance : DecidableEq Unit_ := fun a b => if h : a.batch = b.batch ∧ a.act = b.act ∧ a.delta = b.delta then isTrue (by cases a; cases b; simp only at h; obtain ⟨rfl, rfl, rfl⟩ := h; rfl) else isFalse (fun e => h (by subst e; exact ⟨rfl, rfl, rfl⟩))
theorem Unit_.eq_iff {a b : Unit_} : a = b ↔ a.batch = b.batch ∧ a.act = b.act ∧ a.delta = b.delta := ⟨fun h => by subst h; exact ⟨rfl, rfl, rfl⟩, fun h => by cases a; cases b; simp only at h; obtain ⟨rfl, rfl, rfl⟩ := h; rfl⟩
def msLog (x : Log) : Nat := msState x.state + (x.units.length + sumL msUnit x.units) + (x.waits.length + sumL msUnit x.waits)
def wLog (x : Log) : Prop := wState x.state ∧ (x.units.length ≤ 9223372036854775807 ∧ ∀ y ∈ x.units, wUnit y) ∧ (x.waits.length ≤ 9223372036854775807 ∧ ∀ y ∈ x.waits, wUnit y)
instance : DecidableEq Log := fun a b => if h : a.rep = b.rep ∧ a.time = b.time ∧ a.state = b.state ∧ a.units = b.units ∧ a.waits = b.waits then isTrue (by cases a; cases b; simp only at h; obtain ⟨rfl, rfl, rfl, rfl, rfl⟩ := h; rfl) else isFalse (fun e => h (by subst e; exact ⟨rfl, rfl, rfl, rfl, rfl⟩))
theorem Log.eq_iff {a b : Log} : a = b ↔ a.rep = b.rep ∧ a.time = b.time ∧ a.state = b.state ∧ a.units = b.units ∧ a.waits = b.waits := ⟨fun h => by subst h; exact ⟨rfl, rfl, rfl, rfl, rfl⟩, fun h => by cases a; cases b; simp only at h; obtain ⟨rfl, rfl, rfl, rfl, rfl⟩ := h; rfl⟩
def msCommit (x : Commit) : Nat := x.ups.length + msState x.state
def wCommit (x : Commit) : Prop := x.ups.length ≤ 9223372036854775807 ∧ wState x.state
instance : DecidableEq Commit := fun a b => if h : a.id = b.id ∧ a.ups = b.ups ∧ a.state = b.state then isTrue (by cases a; cases b; simp only at h; obtain ⟨rfl, rfl, rfl⟩ := h; rfl) else isFalse (fun e => h (by subst e; exact ⟨rfl, rfl, rfl⟩))
theorem Commit.eq_iff {a b : Commit} : a = b ↔ a.id = b.id ∧ a.ups = b.ups ∧ a.state = b.state := ⟨fun h => by subst h; exact ⟨rfl, rfl, rfl⟩, fun h => by cases a; cases b; simp only at h; obtain ⟨rfl, rfl, rfl⟩ := h; rfl⟩
def msGraph (x : Graph) : Nat := (x.commits.length + sumL msCommit x.commits)
def wGraph (x : Graph) : Prop := (x.commits.length ≤ 9223372036854775807 ∧ ∀ y ∈ x.commits, wCommit y)
instance : DecidableEq Graph := fun a b => if h : a.commits = b.commits ∧ a.head = b.head then isTrue (by cases a; cases b; simp only at h; obtain ⟨rfl, rfl⟩ := h; rfl) else isFalse (fun e => h (by subst e; exact ⟨rfl, rfl⟩))
theorem Graph.eq_iff {a b : Graph} : a = b ↔ a.commits = b.commits ∧ a.head = b.head := ⟨fun h => by subst h; exact ⟨rfl, rfl⟩, fun h => by cases a; cases b; simp only at h; obtain ⟨rfl, rfl⟩ := h; rfl⟩
def msReplica (x : Replica) : Nat := msLog x.log + msGraph x.graph + msFile x.file + (x.out.length + sumL msUnit x.out)
def wReplica (x : Replica) : Prop := wLog x.log ∧ wGraph x.graph ∧ wFile x.file ∧ (x.out.length ≤ 9223372036854775807 ∧ ∀ y ∈ x.out, wUnit y)
instance : DecidableEq Replica := fun a b => if h : a.way = b.way ∧ a.log = b.log ∧ a.graph = b.graph ∧ a.file = b.file ∧ a.out = b.out then isTrue (by cases a; cases b; simp only at h; obtain ⟨rfl, rfl, rfl, rfl, rfl⟩ := h; rfl) else isFalse (fun e => h (by subst e; exact ⟨rfl, rfl, rfl, rfl, rfl⟩))
theorem Replica.eq_iff {a b : Replica} : a = b ↔ a.way = b.way ∧ a.log = b.log ∧ a.graph = b.graph ∧ a.file = b.file ∧ a.out = b.out := ⟨fun h => by subst h; exact ⟨rfl, rfl, rfl, rfl, rfl⟩, fun h => by cases a; cases b; simp only at h; obtain ⟨rfl, rfl, rfl, rfl, rfl⟩ := h; rfl⟩
def msWorld (x : World_) : Nat := (x.replicas.length + sumL msReplica x.replicas) + (x.net.length + sumL msLetter x.net) + x.codes.length + (x.synced.length + sumL msIntS x.synced)
def wWorld (x : World_) : Prop := (x.replicas.length ≤ 9223372036854775807 ∧ ∀ y ∈ x.replicas, wReplica y) ∧ (x.net.length ≤ 9223372036854775807 ∧ ∀ y ∈ x.net, wLetter y) ∧ x.codes.length ≤ 9223372036854775807 ∧ (x.synced.length ≤ 9223372036854775807 ∧ ∀ y ∈ x.synced, wIntS y)
instance : DecidableEq World_ := fun a b => if h : a.replicas = b.replicas ∧ a.net = b.net ∧ a.codes = b.codes ∧ a.synced = b.synced then isTrue (by cases a; cases b; simp only at h; obtain ⟨rfl, rfl, rfl, rfl⟩ := h; rfl) else isFalse (fun e => h (by subst e; exact ⟨rfl, rfl, rfl, rfl⟩))
theorem World_.eq_iff {a b : World_} : a = b ↔ a.replicas = b.replicas ∧ a.net = b.net ∧ a.codes = b.codes ∧ a.synced = b.synced := ⟨fun h => by subst h; exact ⟨rfl, rfl, rfl, rfl⟩, fun h => by cases a; cases b; simp only at h; obtain ⟨rfl, rfl, rfl, rfl⟩ := h; rfl⟩
def msScript (x : Script) : Nat := x.ways.length + (x.events.length + sumL msEvent x.events)
def wScript (x : Script) : Prop := x.ways.length ≤ 9223372036854775807 ∧ (x.events.length ≤ 9223372036854775807 ∧ ∀ y ∈ x.events, wEvent y)
instance : DecidableEq Script := fun a b => if h : a.ways = b.ways ∧ a.events = b.events ∧ a.calm = b.calm then isTrue (by cases a; cases b; simp only at h; obtain ⟨rfl, rfl, rfl⟩ := h; rfl) else isFalse (fun e => h (by subst e; exact ⟨rfl, rfl, rfl⟩))
theorem Script.eq_iff {a b : Script} : a = b ↔ a.ways = b.ways ∧ a.events = b.events ∧ a.calm = b.calm := ⟨fun h => by subst h; exact ⟨rfl, rfl, rfl⟩, fun h => by cases a; cases b; simp only at h; obtain ⟨rfl, rfl, rfl⟩ := h; rfl⟩
end Go.Proofs.Ytopannfdcikgiaa.Sy

/- Contracts: names, knowledge, acts. -/
namespace Go.Proofs.Ytopannfdcikgiaa.Sy
open Go Go.RowKit
set_option linter.unusedSimpArgs false
set_option linter.unusedVariables false
abbrev n_s_l01In : Nat := 62
def F_s_l01In : Fn1 := ⟨15, [.t 6], (.seq (.reg [o 6 (.mov (.k (.bool false)))]) (.seq (.reg [o 7 (.mov (.t 0)), o 8 (.mov (.t 1)), o 9 (.bin .geq (.t 7) (.t 8)), o 10 (.mov (.t 9)), og 11 10 true (.mov (.t 0)), og 12 10 true (.mov (.t 2)), og 13 10 true (.bin .leq (.t 11) (.t 12)), o 14 (.pick (.t 10) (.t 13) (.k (.bool false))), o 6 (.mov (.t 14))]) .ret))⟩
theorem ir_s_l01In : compFn Try.prog n_s_l01In = some F_s_l01In := by kernel_rfl
abbrev n_i_within : Nat := 65
def F_i_within : Fn1 := ⟨15, [.t 6], (.seq (.reg [o 6 (.mov (.k (.bool false)))]) (.seq (.reg [o 7 (.mov (.t 0)), o 8 (.mov (.t 1)), o 9 (.bin .geq (.t 7) (.t 8)), o 10 (.mov (.t 9)), og 11 10 true (.mov (.t 0)), og 12 10 true (.mov (.t 2)), og 13 10 true (.bin .leq (.t 11) (.t 12)), o 14 (.pick (.t 10) (.t 13) (.k (.bool false))), o 6 (.mov (.t 14))]) .ret))⟩
theorem ir_i_within : compFn Try.prog n_i_within = some F_i_within := by kernel_rfl
abbrev n_s_NameOk : Nat := 63
def F_s_NameOk : Fn1 := ⟨23, [.t 2], (.seq (.reg [o 2 (.mov (.k (.bool false)))]) (.seq (.seq (.reg [o 3 (.mov (.k (.int .i64 0)))]) (.blk 0 (.lop (.seq (.seq (.reg [o 4 (.mov (.t 3)), o 5 (.mov (.t 0)), o 6 (.len true (.t 5)), o 7 (.bin .lss (.t 4) (.t 6))]) (.cnd (.t 7) .skip (.ext 0))) (.seq (.blk 1 (.seq (.reg [o 10 (.mov (.t 0)), o 11 (.mov (.t 3)), o 12 (.idx (.t 10) (.t 11)), o 13 (.bin .lss (.t 12) (.k (.int .u8 97))), o 14 (.mov (.t 13)), og 15 14 false (.mov (.t 0)), og 16 14 false (.mov (.t 3)), og 17 14 false (.idx (.t 15) (.t 16)), og 18 14 false (.bin .gtr (.t 17) (.k (.int .u8 122))), o 19 (.pick (.t 14) (.k (.bool true)) (.t 18))]) (.cnd (.t 19) (.seq (.reg [o 2 (.mov (.k (.bool false)))]) .ret) .skip))) (.reg [o 8 (.mov (.t 3)), o 9 (.bin .add (.t 8) (.k (.int .i64 1))), o 3 (.mov (.t 9))])))))) (.seq (.reg [o 20 (.mov (.t 0)), o 21 (.len true (.t 20)), o 22 (.call 62 [(.t 21), (.k (.int .i64 1)), (.k (.int .i64 8))]), o 2 (.mov (.t 22))]) .ret)))⟩
theorem ir_s_NameOk : compFn Try.prog n_s_NameOk = some F_s_NameOk := by kernel_rfl
abbrev n_i_NameOk : Nat := 64
def F_i_NameOk : Fn1 := ⟨19, [.t 2], (.seq (.reg [o 2 (.mov (.k (.bool false)))]) (.seq (.seq (.reg [o 3 (.mov (.k (.int .i64 0)))]) (.blk 0 (.lop (.seq (.seq (.reg [o 4 (.mov (.t 3)), o 5 (.mov (.t 0)), o 6 (.len true (.t 5)), o 7 (.bin .lss (.t 4) (.t 6))]) (.cnd (.t 7) .skip (.ext 0))) (.seq (.blk 1 (.seq (.reg [o 10 (.mov (.t 0)), o 11 (.mov (.t 3)), o 12 (.idx (.t 10) (.t 11)), o 13 (.cvi .i64 (.t 12)), o 14 (.call 65 [(.t 13), (.k (.int .i64 97)), (.k (.int .i64 122))]), o 15 (.un .not (.t 14))]) (.cnd (.t 15) (.seq (.reg [o 2 (.mov (.k (.bool false)))]) .ret) .skip))) (.reg [o 8 (.mov (.t 3)), o 9 (.bin .add (.t 8) (.k (.int .i64 1))), o 3 (.mov (.t 9))])))))) (.seq (.reg [o 16 (.mov (.t 0)), o 17 (.len true (.t 16)), o 18 (.call 65 [(.t 17), (.k (.int .i64 1)), (.k (.int .i64 8))]), o 2 (.mov (.t 18))]) .ret)))⟩
theorem ir_i_NameOk : compFn Try.prog n_i_NameOk = some F_i_NameOk := by kernel_rfl
abbrev n_s_KnowOk : Nat := 66
def F_s_KnowOk : Fn1 := ⟨19, [.t 2], (.seq (.reg [o 2 (.mov (.k (.bool false)))]) (.seq (.seq (.reg [o 3 (.mov (.k (.int .i64 0)))]) (.blk 0 (.lop (.seq (.seq (.reg [o 4 (.mov (.t 3)), o 5 (.mov (.t 0)), o 6 (.len false (.t 5)), o 7 (.bin .lss (.t 4) (.t 6))]) (.cnd (.t 7) .skip (.ext 0))) (.seq (.blk 1 (.seq (.reg [o 10 (.mov (.t 0)), o 11 (.mov (.t 3)), o 12 (.iad 1 (.t 10) (.t 11)), o 13 (.ld false 1 (.t 12)), o 14 (.call 62 [(.t 13), (.k (.int .i64 0)), (.k (.int .i64 1000))]), o 15 (.un .not (.t 14))]) (.cnd (.t 15) (.seq (.reg [o 2 (.mov (.k (.bool false)))]) .ret) .skip))) (.reg [o 8 (.mov (.t 3)), o 9 (.bin .add (.t 8) (.k (.int .i64 1))), o 3 (.mov (.t 9))])))))) (.seq (.reg [o 16 (.mov (.t 0)), o 17 (.len false (.t 16)), o 18 (.bin .eql (.t 17) (.k (.int .i64 3))), o 2 (.mov (.t 18))]) .ret)))⟩
theorem ir_s_KnowOk : compFn Try.prog n_s_KnowOk = some F_s_KnowOk := by kernel_rfl
abbrev n_i_KnowOk : Nat := 68
def F_i_KnowOk : Fn1 := ⟨18, [.t 2], (.seq (.reg [o 2 (.mov (.k (.bool false)))]) (.seq (.seq (.reg [o 5 (.mov (.t 0)), o 6 (.len false (.t 5)), o 7 (.mov (.k (.int .i64 0)))]) (.blk 0 (.lop (.seq (.reg [o 8 (.bin .lss (.t 7) (.t 6))]) (.seq (.cnd (.t 8) .skip (.ext 0)) (.seq (.blk 1 (.seq (.reg [o 9 (.iad 1 (.t 5) (.t 7)), o 10 (.ld false 1 (.t 9)), o 4 (.mov (.t 10))]) (.seq (.reg [o 11 (.mov (.t 4)), o 12 (.call 65 [(.t 11), (.k (.int .i64 0)), (.k (.int .i64 1000))]), o 13 (.un .not (.t 12))]) (.cnd (.t 13) (.seq (.reg [o 2 (.mov (.k (.bool false)))]) .ret) .skip)))) (.reg [o 14 (.bin .add (.t 7) (.k (.int .i64 1))), o 7 (.mov (.t 14))]))))))) (.seq (.reg [o 15 (.mov (.t 0)), o 16 (.len false (.t 15)), o 17 (.bin .eql (.t 16) (.k (.int .i64 3))), o 2 (.mov (.t 17))]) .ret)))⟩
theorem ir_i_KnowOk : compFn Try.prog n_i_KnowOk = some F_i_KnowOk := by kernel_rfl
abbrev n_s_DotOk : Nat := 114
def F_s_DotOk : Fn1 := ⟨11, [.t 2], (.seq (.reg [o 1 (.box (.t 0)), o 2 (.mov (.k (.bool false)))]) (.seq (.reg [o 3 (.fad 0 (.t 1)), o 4 (.ld false 1 (.t 3)), o 5 (.call 62 [(.t 4), (.k (.int .i64 0)), (.k (.int .i64 2))]), o 6 (.mov (.t 5)), og 7 6 true (.fad 1 (.t 1)), og 8 6 true (.ld false 1 (.t 7)), og 9 6 true (.call 62 [(.t 8), (.k (.int .i64 1)), (.k (.int .i64 1000))]), o 10 (.pick (.t 6) (.t 9) (.k (.bool false))), o 2 (.mov (.t 10))]) .ret))⟩
theorem ir_s_DotOk : compFn Try.prog n_s_DotOk = some F_s_DotOk := by kernel_rfl
abbrev n_i_DotOk : Nat := 116
def F_i_DotOk : Fn1 := ⟨11, [.t 2], (.seq (.reg [o 1 (.box (.t 0)), o 2 (.mov (.k (.bool false)))]) (.seq (.reg [o 3 (.fad 0 (.t 1)), o 4 (.ld false 1 (.t 3)), o 5 (.call 65 [(.t 4), (.k (.int .i64 0)), (.k (.int .i64 2))]), o 6 (.mov (.t 5)), og 7 6 true (.fad 1 (.t 1)), og 8 6 true (.ld false 1 (.t 7)), og 9 6 true (.call 65 [(.t 8), (.k (.int .i64 1)), (.k (.int .i64 1000))]), o 10 (.pick (.t 6) (.t 9) (.k (.bool false))), o 2 (.mov (.t 10))]) .ret))⟩
theorem ir_i_DotOk : compFn Try.prog n_i_DotOk = some F_i_DotOk := by kernel_rfl
abbrev n_s_Knows : Nat := 84
def F_s_Knows : Fn1 := ⟨21, [.t 4], (.seq (.reg [o 3 (.box (.t 1)), o 4 (.mov (.k (.bool false)))]) (.seq (.drw [o 5 (.mov (.t 0)), o 6 (.call 66 [(.t 5)]), o 7 (.mov (.t 6)), og 8 7 true (.ld true 2 (.t 3)), og 9 7 true (.call 114 [(.t 8)]), o 10 (.pick (.t 7) (.t 9) (.k (.bool false))), o 11 (.mov (.t 10)), og 12 11 true (.fad 1 (.t 3)), og 13 11 true (.ld false 1 (.t 12)), og 14 11 true (.mov (.t 0)), og 15 11 true (.fad 0 (.t 3)), og 16 11 true (.ld false 1 (.t 15)), og 17 11 true (.iad 1 (.t 14) (.t 16)), og 18 11 true (.ld false 1 (.t 17))] [og 19 11 true (.bin .leq (.t 13) (.t 18)), o 20 (.pick (.t 11) (.t 19) (.k (.bool false))), o 4 (.mov (.t 20))]) .ret))⟩
theorem ir_s_Knows : compFn Try.prog n_s_Knows = some F_s_Knows := by kernel_rfl
abbrev n_i_Knows : Nat := 86
def F_i_Knows : Fn1 := ⟨21, [.t 4], (.seq (.reg [o 3 (.box (.t 1)), o 4 (.mov (.k (.bool false)))]) (.seq (.drw [o 5 (.mov (.t 0)), o 6 (.call 68 [(.t 5)]), o 7 (.mov (.t 6)), og 8 7 true (.ld true 2 (.t 3)), og 9 7 true (.call 116 [(.t 8)]), o 10 (.pick (.t 7) (.t 9) (.k (.bool false))), o 11 (.mov (.t 10)), og 12 11 true (.fad 1 (.t 3)), og 13 11 true (.ld false 1 (.t 12)), og 14 11 true (.mov (.t 0)), og 15 11 true (.fad 0 (.t 3)), og 16 11 true (.ld false 1 (.t 15)), og 17 11 true (.iad 1 (.t 14) (.t 16)), og 18 11 true (.ld false 1 (.t 17))] [og 19 11 true (.bin .leq (.t 13) (.t 18)), o 20 (.pick (.t 11) (.t 19) (.k (.bool false))), o 4 (.mov (.t 20))]) .ret))⟩
theorem ir_i_Knows : compFn Try.prog n_i_Knows = some F_i_Knows := by kernel_rfl
abbrev n_s_l05Keyed : Nat := 133
def F_s_l05Keyed : Fn1 := ⟨5, [.t 2], (.seq (.reg [o 2 (.mov (.k (.bool false)))]) (.seq (.reg [o 3 (.mov (.t 0)), o 4 (.call 62 [(.t 3), (.k (.int .i64 2)), (.k (.int .i64 5))]), o 2 (.mov (.t 4))]) .ret))⟩
theorem ir_s_l05Keyed : compFn Try.prog n_s_l05Keyed = some F_s_l05Keyed := by kernel_rfl
abbrev n_s_l05Valued : Nat := 134
def F_s_l05Valued : Fn1 := ⟨13, [.t 2], (.seq (.reg [o 2 (.mov (.k (.bool false)))]) (.seq (.reg [o 3 (.mov (.t 0)), o 4 (.bin .eql (.t 3) (.k (.int .i64 1))), o 5 (.mov (.t 4)), og 6 5 false (.mov (.t 0)), og 7 5 false (.bin .eql (.t 6) (.k (.int .i64 4))), o 8 (.pick (.t 5) (.k (.bool true)) (.t 7)), o 9 (.mov (.t 8)), og 10 9 false (.mov (.t 0)), og 11 9 false (.bin .eql (.t 10) (.k (.int .i64 6))), o 12 (.pick (.t 9) (.k (.bool true)) (.t 11)), o 2 (.mov (.t 12))]) .ret))⟩
theorem ir_s_l05Valued : compFn Try.prog n_s_l05Valued = some F_s_l05Valued := by kernel_rfl
abbrev n_i_hasKey : Nat := 135
def F_i_hasKey : Fn1 := ⟨5, [.t 2], (.seq (.reg [o 2 (.mov (.k (.bool false)))]) (.seq (.reg [o 3 (.mov (.t 0)), o 4 (.call 65 [(.t 3), (.k (.int .i64 2)), (.k (.int .i64 5))]), o 2 (.mov (.t 4))]) .ret))⟩
theorem ir_i_hasKey : compFn Try.prog n_i_hasKey = some F_i_hasKey := by kernel_rfl
abbrev n_i_hasVal : Nat := 136
def F_i_hasVal : Fn1 := ⟨13, [.t 2], (.seq (.reg [o 2 (.mov (.k (.bool false)))]) (.seq (.reg [o 3 (.mov (.t 0)), o 4 (.bin .eql (.t 3) (.k (.int .i64 1))), o 5 (.mov (.t 4)), og 6 5 false (.mov (.t 0)), og 7 5 false (.bin .eql (.t 6) (.k (.int .i64 4))), o 8 (.pick (.t 5) (.k (.bool true)) (.t 7)), o 9 (.mov (.t 8)), og 10 9 false (.mov (.t 0)), og 11 9 false (.bin .eql (.t 10) (.k (.int .i64 6))), o 12 (.pick (.t 9) (.k (.bool true)) (.t 11)), o 2 (.mov (.t 12))]) .ret))⟩
theorem ir_i_hasVal : compFn Try.prog n_i_hasVal = some F_i_hasVal := by kernel_rfl
abbrev n_s_l05Plain : Nat := 115
def F_s_l05Plain : Fn1 := ⟨45, [.t 8], (.seq (.reg [o 8 (.mov (.k (.bool false)))]) (.seq (.seq (.reg [o 9 (.mov (.t 0)), o 10 (.call 62 [(.t 9), (.k (.int .i64 1)), (.k (.int .i64 7))]), o 11 (.un .not (.t 10)), o 12 (.mov (.t 11)), og 13 12 false (.mov (.t 1)), og 14 12 false (.call 63 [(.t 13)]), og 15 12 false (.un .not (.t 14)), o 16 (.pick (.t 12) (.k (.bool true)) (.t 15)), o 17 (.mov (.t 16)), og 18 17 false (.mov (.t 0)), og 19 17 false (.call 133 [(.t 18)]), og 20 17 false (.mov (.t 19)), og 21 20 true (.mov (.t 2)), og 22 20 true (.call 63 [(.t 21)]), og 23 20 true (.un .not (.t 22)), og 24 17 false (.pick (.t 20) (.t 23) (.k (.bool false))), o 25 (.pick (.t 17) (.k (.bool true)) (.t 24)), o 26 (.mov (.t 25)), og 27 26 false (.mov (.t 0)), og 28 26 false (.call 133 [(.t 27)]), og 29 26 false (.un .not (.t 28)), og 30 26 false (.mov (.t 29)), og 31 30 true (.mov (.t 2)), og 32 30 true (.bin .neq (.t 31) (.k (.str ⟨#[]⟩))), og 33 26 false (.pick (.t 30) (.t 32) (.k (.bool false))), o 34 (.pick (.t 26) (.k (.bool true)) (.t 33))]) (.cnd (.t 34) (.seq (.reg [o 8 (.mov (.k (.bool false)))]) .ret) .skip)) (.seq (.reg [o 35 (.mov (.t 3)), o 36 (.bin .eql (.t 35) (.k (.int .i64 0))), o 37 (.mov (.t 36)), og 38 37 false (.mov (.t 0)), og 39 37 false (.call 134 [(.t 38)]), og 40 37 false (.mov (.t 39)), og 41 40 true (.mov (.t 3)), og 42 40 true (.call 62 [(.t 41), (.k (.int .i64 0)), (.k (.int .i64 999999))]), og 43 37 false (.pick (.t 40) (.t 42) (.k (.bool false))), o 44 (.pick (.t 37) (.k (.bool true)) (.t 43)), o 8 (.mov (.t 44))]) .ret)))⟩
theorem ir_s_l05Plain : compFn Try.prog n_s_l05Plain = some F_s_l05Plain := by kernel_rfl
abbrev n_i_wordsOk : Nat := 117
def F_i_wordsOk : Fn1 := ⟨46, [.t 8], (.seq (.reg [o 8 (.mov (.k (.bool false)))]) (.seq (.seq (.reg [o 10 (.mov (.t 0)), o 11 (.call 65 [(.t 10), (.k (.int .i64 1)), (.k (.int .i64 7))]), o 12 (.un .not (.t 11)), o 13 (.mov (.t 12)), og 14 13 false (.mov (.t 1)), og 15 13 false (.call 64 [(.t 14)]), og 16 13 false (.un .not (.t 15)), o 17 (.pick (.t 13) (.k (.bool true)) (.t 16))]) (.cnd (.t 17) (.seq (.reg [o 8 (.mov (.k (.bool false)))]) .ret) .skip)) (.seq (.reg [o 18 (.mov (.t 2)), o 19 (.bin .eql (.t 18) (.k (.str ⟨#[]⟩))), o 20 (.mov (.t 19)), og 21 20 true (.mov (.t 0)), og 22 20 true (.call 135 [(.t 21)]), og 23 20 true (.un .not (.t 22)), o 24 (.pick (.t 20) (.t 23) (.k (.bool false))), o 25 (.mov (.t 24)), og 26 25 false (.mov (.t 2)), og 27 25 false (.call 64 [(.t 26)]), og 28 25 false (.mov (.t 27)), og 29 28 true (.mov (.t 0)), og 30 28 true (.call 135 [(.t 29)]), og 31 25 false (.pick (.t 28) (.t 30) (.k (.bool false))), o 32 (.pick (.t 25) (.k (.bool true)) (.t 31)), o 9 (.mov (.t 32))]) (.seq (.reg [o 33 (.mov (.t 9)), o 34 (.mov (.t 33)), og 35 34 true (.mov (.t 3)), og 36 34 true (.bin .eql (.t 35) (.k (.int .i64 0))), og 37 34 true (.mov (.t 36)), og 38 37 false (.mov (.t 0)), og 39 37 false (.call 136 [(.t 38)]), og 40 37 false (.mov (.t 39)), og 41 40 true (.mov (.t 3)), og 42 40 true (.call 65 [(.t 41), (.k (.int .i64 0)), (.k (.int .i64 999999))]), og 43 37 false (.pick (.t 40) (.t 42) (.k (.bool false))), og 44 34 true (.pick (.t 37) (.k (.bool true)) (.t 43)), o 45 (.pick (.t 34) (.t 44) (.k (.bool false))), o 8 (.mov (.t 45))]) .ret))))⟩
theorem ir_i_wordsOk : compFn Try.prog n_i_wordsOk = some F_i_wordsOk := by kernel_rfl
abbrev n_s_ActOk : Nat := 83
def F_s_ActOk : Fn1 := ⟨71, [.t 2], (.seq (.reg [o 1 (.box (.t 0)), o 2 (.mov (.k (.bool false)))]) (.seq (.seq (.drw [o 3 (.fad 0 (.t 1)), o 4 (.ld true 2 (.t 3)), o 5 (.call 114 [(.t 4)]), o 6 (.un .not (.t 5)), o 7 (.mov (.t 6)), og 8 7 false (.fad 3 (.t 1)), og 9 7 false (.ld false 1 (.t 8)), og 10 7 false (.call 66 [(.t 9)]), og 11 7 false (.un .not (.t 10)), o 12 (.pick (.t 7) (.k (.bool true)) (.t 11)), o 13 (.mov (.t 12)), og 14 13 false (.fad 3 (.t 1)), og 15 13 false (.ld false 1 (.t 14)), og 16 13 false (.fad 0 (.t 1)), og 17 13 false (.fad 0 (.t 16)), og 18 13 false (.ld false 1 (.t 17)), og 19 13 false (.iad 1 (.t 15) (.t 18)), og 20 13 false (.ld false 1 (.t 19)), og 21 13 false (.fad 0 (.t 1)), og 22 13 false (.fad 1 (.t 21)), og 23 13 false (.ld false 1 (.t 22)), og 24 13 false (.bin .sub (.t 23) (.k (.int .i64 1))), og 25 13 false (.bin .neq (.t 20) (.t 24)), o 26 (.pick (.t 13) (.k (.bool true)) (.t 25)), o 27 (.mov (.t 26)), og 28 27 false (.fad 2 (.t 1)), og 29 27 false (.ld false 1 (.t 28)), og 30 27 false (.call 62 [(.t 29), (.k (.int .i64 1)), (.k (.int .i64 10000))]), og 31 27 false (.un .not (.t 30)), o 32 (.pick (.t 27) (.k (.bool true)) (.t 31)), o 33 (.mov (.t 32)), og 34 33 false (.fad 4 (.t 1)), og 35 33 false (.ld false 1 (.t 34)), og 36 33 false (.fad 5 (.t 1)), og 37 33 false (.ld false 1 (.t 36)), og 38 33 false (.fad 6 (.t 1)), og 39 33 false (.ld false 1 (.t 38)), og 40 33 false (.fad 7 (.t 1)), og 41 33 false (.ld false 1 (.t 40))] [og 42 33 false (.call 115 [(.t 35), (.t 37), (.t 39), (.t 41)]), og 43 33 false (.un .not (.t 42)), o 44 (.pick (.t 33) (.k (.bool true)) (.t 43))]) (.cnd (.t 44) (.seq (.reg [o 2 (.mov (.k (.bool false)))]) .ret) .skip)) (.seq (.seq (.reg [o 45 (.fad 4 (.t 1)), o 46 (.ld false 1 (.t 45))]) (.blk 0 (.seq (.reg [o 48 (.bin .eql (.t 46) (.k (.int .i64 7))), o 47 (.mov (.t 48))]) (.cnd (.t 47) (.seq (.reg [o 49 (.fad 3 (.t 1)), o 50 (.ld false 1 (.t 49)), o 51 (.fad 8 (.t 1)), o 52 (.ld true 2 (.t 51)), o 53 (.call 84 [(.t 50), (.t 52)]), o 2 (.mov (.t 53))]) .ret) (.seq (.reg [o 55 (.bin .eql (.t 46) (.k (.int .i64 6))), o 54 (.mov (.t 55))]) (.cnd (.t 54) (.seq (.reg [o 56 (.fad 8 (.t 1)), o 57 (.ld true 2 (.t 56)), o 58 (.build [(.int .i64 0), (.int .i64 0)] []), o 59 (.eqs false [.i .i64, .i .i64] (.t 57) (.t 58)), o 60 (.mov (.t 59)), og 61 60 false (.fad 3 (.t 1)), og 62 60 false (.ld false 1 (.t 61)), og 63 60 false (.fad 8 (.t 1)), og 64 60 false (.ld true 2 (.t 63)), og 65 60 false (.call 84 [(.t 62), (.t 64)]), o 66 (.pick (.t 60) (.k (.bool true)) (.t 65)), o 2 (.mov (.t 66))]) .ret) .skip)))))) (.seq (.reg [o 67 (.fad 8 (.t 1)), o 68 (.ld true 2 (.t 67)), o 69 (.build [(.int .i64 0), (.int .i64 0)] []), o 70 (.eqs false [.i .i64, .i .i64] (.t 68) (.t 69)), o 2 (.mov (.t 70))]) .ret))))⟩
theorem ir_s_ActOk : compFn Try.prog n_s_ActOk = some F_s_ActOk := by kernel_rfl
abbrev n_i_ActOk : Nat := 85
def F_i_ActOk : Fn1 := ⟨71, [.t 2], (.seq (.reg [o 1 (.box (.t 0)), o 2 (.mov (.k (.bool false)))]) (.seq (.seq (.drw [o 5 (.fad 0 (.t 1)), o 6 (.ld true 2 (.t 5)), o 7 (.call 116 [(.t 6)]), o 8 (.un .not (.t 7)), o 9 (.mov (.t 8)), og 10 9 false (.fad 3 (.t 1)), og 11 9 false (.ld false 1 (.t 10)), og 12 9 false (.call 68 [(.t 11)]), og 13 9 false (.un .not (.t 12)), o 14 (.pick (.t 9) (.k (.bool true)) (.t 13)), o 15 (.mov (.t 14)), og 16 15 false (.fad 3 (.t 1)), og 17 15 false (.ld false 1 (.t 16)), og 18 15 false (.fad 0 (.t 1)), og 19 15 false (.fad 0 (.t 18)), og 20 15 false (.ld false 1 (.t 19)), og 21 15 false (.iad 1 (.t 17) (.t 20)), og 22 15 false (.ld false 1 (.t 21)), og 23 15 false (.fad 0 (.t 1)), og 24 15 false (.fad 1 (.t 23)), og 25 15 false (.ld false 1 (.t 24))] [og 26 15 false (.bin .sub (.t 25) (.k (.int .i64 1))), og 27 15 false (.bin .neq (.t 22) (.t 26)), o 28 (.pick (.t 15) (.k (.bool true)) (.t 27)), o 29 (.mov (.t 28)), og 30 29 false (.fad 2 (.t 1)), og 31 29 false (.ld false 1 (.t 30)), og 32 29 false (.call 65 [(.t 31), (.k (.int .i64 1)), (.k (.int .i64 10000))]), og 33 29 false (.un .not (.t 32)), o 34 (.pick (.t 29) (.k (.bool true)) (.t 33))]) (.cnd (.t 34) (.seq (.reg [o 2 (.mov (.k (.bool false)))]) .ret) .skip)) (.seq (.reg [o 35 (.fad 8 (.t 1)), o 36 (.ld true 2 (.t 35)), o 37 (.build [(.int .i64 0), (.int .i64 0)] []), o 38 (.eqs false [.i .i64, .i .i64] (.t 36) (.t 37)), o 3 (.mov (.t 38))]) (.seq (.reg [o 39 (.mov (.t 3)), o 4 (.mov (.t 39))]) (.seq (.seq (.reg [o 40 (.fad 4 (.t 1)), o 41 (.ld false 1 (.t 40))]) (.blk 0 (.seq (.reg [o 43 (.bin .eql (.t 41) (.k (.int .i64 7))), o 42 (.mov (.t 43))]) (.cnd (.t 42) (.reg [o 44 (.fad 3 (.t 1)), o 45 (.ld false 1 (.t 44)), o 46 (.fad 8 (.t 1)), o 47 (.ld true 2 (.t 46)), o 48 (.call 86 [(.t 45), (.t 47)]), o 4 (.mov (.t 48))]) (.seq (.reg [o 50 (.bin .eql (.t 41) (.k (.int .i64 6))), o 49 (.mov (.t 50))]) (.cnd (.t 49) (.reg [o 51 (.mov (.t 3)), o 52 (.mov (.t 51)), og 53 52 false (.fad 3 (.t 1)), og 54 52 false (.ld false 1 (.t 53)), og 55 52 false (.fad 8 (.t 1)), og 56 52 false (.ld true 2 (.t 55)), og 57 52 false (.call 86 [(.t 54), (.t 56)]), o 58 (.pick (.t 52) (.k (.bool true)) (.t 57)), o 4 (.mov (.t 58))]) .skip)))))) (.seq (.reg [o 59 (.mov (.t 4)), o 60 (.mov (.t 59)), og 61 60 true (.fad 4 (.t 1)), og 62 60 true (.ld false 1 (.t 61)), og 63 60 true (.fad 5 (.t 1)), og 64 60 true (.ld false 1 (.t 63)), og 65 60 true (.fad 6 (.t 1)), og 66 60 true (.ld false 1 (.t 65)), og 67 60 true (.fad 7 (.t 1)), og 68 60 true (.ld false 1 (.t 67)), og 69 60 true (.call 117 [(.t 62), (.t 64), (.t 66), (.t 68)]), o 70 (.pick (.t 60) (.t 69) (.k (.bool false))), o 2 (.mov (.t 70))]) .ret))))))⟩
theorem ir_i_ActOk : compFn Try.prog n_i_ActOk = some F_i_ActOk := by kernel_rfl
/-- A call that tells a bool. -/
theorem by_bool {P : Program} {env : Env} {σ : St} {K : Kt} {r : List Op1} {d : Option Nat} {D : Bool} {f : Nat} {args : List GV} {b : Bool} (h : Ret P f args σ (.bool b) σ) (ht : b = true → vcOps D P r K (upo env d (.bool true)) σ) (hf : b = false → vcOps D P r K (upo env d (.bool false)) σ) : bindC D f args P r K env d σ := by
  cases b with
  | true => exact by_ret h (ht rfl)
  | false => exact by_ret h (hf rfl)
def inB (n a b : Int) : Bool := decide (a ≤ n) && decide (n ≤ b)
theorem inB_iff {n a b : Int} : inB n a b = true ↔ a ≤ n ∧ n ≤ b := by simp [inB]
theorem s_l01In_ret (σ : St) (n a b : Int) : Ret Try.prog n_s_l01In [gi n, gi a, gi b] σ (.bool (inB n a b)) σ := by
  refine ret_eq ir_s_l01In (Nat.le_of_ble_eq_true rfl) trivial ?_
  simp +contextual (disch := omega) only [go_sem, Nat.reduceEqDiff, ↓reduceIte, Int.reduceEq, Int.reduceNeg, wrap_add, F_s_l01In, inB]
theorem i_within_ret (σ : St) (n a b : Int) : Ret Try.prog n_i_within [gi n, gi a, gi b] σ (.bool (inB n a b)) σ := by
  refine ret_eq ir_i_within (Nat.le_of_ble_eq_true rfl) trivial ?_
  simp +contextual (disch := omega) only [go_sem, Nat.reduceEqDiff, ↓reduceIte, Int.reduceEq, Int.reduceNeg, wrap_add, F_i_within, inB]
/-! Texts, byte by byte. -/
def bl (s : ByteArray) : List UInt8 := s.data.toList
theorem bl_length (s : ByteArray) : (bl s).length = s.size := by
  unfold bl; rw [Array.length_toList]; rfl
theorem idx_at {s : ByteArray} {i : Nat} (hi : i < (bl s).length) : idxG (.str s) (some i) = some (.int .u8 (((bl s)[i].toNat : Nat) : Int)) := by
  have h2 : i < s.size := by rw [← bl_length]; exact hi
  have e : s[i]? = some (bl s)[i] := by
    rw [getElem?_pos s i h2]; rfl
  simp only [idxG, e, Option.map_some]; rfl
theorem u8_lt (b : UInt8) : b.toNat < 256 := b.toNat_lt
def lowB (b : UInt8) : Bool := inB (b.toNat : Int) 97 122
def nameOk (s : ByteArray) : Bool := (bl s).all lowB && inB s.size 1 8
theorem s_NameOk_ret (σ : St) (s : ByteArray) (hs : s.size ≤ 1099511627776) : Ret Try.prog n_s_NameOk [.str s] σ (.bool (nameOk s)) σ := by
  refine ret_eq ir_s_NameOk (Nat.le_of_ble_eq_true rfl) trivial ?_
  simp +contextual (disch := omega) only [go_sem, Nat.reduceEqDiff, ↓reduceIte, Int.reduceEq, Int.reduceNeg, wrap_add, F_s_NameOk]
  refine vc_for (bl s).length 3 (fun i env τ => env 0 = .str s ∧ ((bl s).take i).all lowB = true ∧ σ <+: τ) rfl ⟨rfl, rfl, List.prefix_refl _⟩ ?_ ?_
  · rintro i env τ hi e3 c0 ⟨e0, ha, hp⟩
    have hl := bl_length s
    rw [hl] at c0
    have hf := fun h => all_false_at (p := lowB) hi h
    have ht := take_all_succ hi ha
    simp +contextual (disch := omega) only [go_sem, Nat.reduceEqDiff, ↓reduceIte, Int.reduceEq, Int.reduceNeg, wrap_add, c0, e0, e3, idx_at hi, hp]
    simp only [lowB, inB, nameOk] at *
    generalize (((bl s)[i].toNat : Nat) : Int) = b at *
    grind
  · rintro env τ e3 c0 ⟨e0, ha, hp⟩
    rw [List.take_length] at ha
    rw [bl_length] at c0 e3
    simp +contextual (disch := omega) only [go_sem, Nat.reduceEqDiff, ↓reduceIte, Int.reduceEq, Int.reduceNeg, wrap_add, c0, e0, e3]
    refine by_ret (s_l01In_ret τ _ _ _) ?_
    simp +contextual (disch := omega) only [go_sem, Nat.reduceEqDiff, ↓reduceIte, Int.reduceEq, Int.reduceNeg, wrap_add, nameOk, ha, hp]
theorem i_NameOk_ret (σ : St) (s : ByteArray) (hs : s.size ≤ 1099511627776) : Ret Try.prog n_i_NameOk [.str s] σ (.bool (nameOk s)) σ := by
  refine ret_eq ir_i_NameOk (Nat.le_of_ble_eq_true rfl) trivial ?_
  simp +contextual (disch := omega) only [go_sem, Nat.reduceEqDiff, ↓reduceIte, Int.reduceEq, Int.reduceNeg, wrap_add, F_i_NameOk]
  refine vc_for (bl s).length 3 (fun i env τ => env 0 = .str s ∧ ((bl s).take i).all lowB = true ∧ σ <+: τ) rfl ⟨rfl, rfl, List.prefix_refl _⟩ ?_ ?_
  · rintro i env τ hi e3 c0 ⟨e0, ha, hp⟩
    have hl := bl_length s
    rw [hl] at c0
    have hf := fun h => all_false_at (p := lowB) hi h
    have ht := take_all_succ hi ha
    have h8 := u8_lt (bl s)[i]
    simp +contextual (disch := omega) only [go_sem, Nat.reduceEqDiff, ↓reduceIte, Int.reduceEq, Int.reduceNeg, wrap_add, c0, e0, e3, idx_at hi, cvi_int]
    refine by_bool (i_within_ret τ _ _ _) (fun h => ?_) (fun h => ?_)
    · simp +contextual (disch := omega) only [go_sem, Nat.reduceEqDiff, ↓reduceIte, Int.reduceEq, Int.reduceNeg, wrap_add, e0, e3, hp]
      exact ht h
    · simp +contextual (disch := omega) only [go_sem, Nat.reduceEqDiff, ↓reduceIte, Int.reduceEq, Int.reduceNeg, wrap_add, e0, e3, hp]
      simp [nameOk, hf h]
  · rintro env τ e3 c0 ⟨e0, ha, hp⟩
    rw [List.take_length] at ha
    rw [bl_length] at c0 e3
    simp +contextual (disch := omega) only [go_sem, Nat.reduceEqDiff, ↓reduceIte, Int.reduceEq, Int.reduceNeg, wrap_add, c0, e0, e3]
    refine by_ret (i_within_ret τ _ _ _) ?_
    simp +contextual (disch := omega) only [go_sem, Nat.reduceEqDiff, ↓reduceIte, Int.reduceEq, Int.reduceNeg, wrap_add, nameOk, ha, hp]
/-! Knowledge. -/
def seqB (n : Int) : Bool := inB n 0 1000
def okK (l : List Int) : Bool := l.all seqB && decide (l.length = 3)
theorem okK_len {l : List Int} (h : okK l = true) : l.length = 3 := by
  simp only [okK, Bool.and_eq_true, decide_eq_true_eq] at h
  exact h.2
theorem okK_mem {l : List Int} (h : okK l = true) {x : Int} (hx : x ∈ l) : 0 ≤ x ∧ x ≤ 1000 := by
  simp only [okK, Bool.and_eq_true, List.all_eq_true] at h
  exact inB_iff.1 (h.1 x hx)
theorem s_KnowOk_ret (σ : St) (v : GV) (l : List Int) (h : RS pI.kd σ v l) (hl : l.length ≤ 1099511627776) : Ret Try.prog n_s_KnowOk [v] σ (.bool (okK l)) σ := by
  refine ret_eq ir_s_KnowOk (Nat.le_of_ble_eq_true rfl) trivial ?_
  simp +contextual (disch := omega) only [go_sem, Nat.reduceEqDiff, ↓reduceIte, Int.reduceEq, Int.reduceNeg, wrap_add, F_s_KnowOk]
  refine vc_for l.length 3 (fun i env τ => env 0 = v ∧ (l.take i).all seqB = true ∧ σ <+: τ) rfl ⟨rfl, rfl, List.prefix_refl _⟩ ?_ ?_
  · rintro i env τ hi e3 c0 ⟨e0, ha, hp⟩
    have hf := fun h => all_false_at (p := seqB) hi h
    have ht := take_all_succ hi ha
    simp +contextual (disch := omega) only [go_sem, Nat.reduceEqDiff, ↓reduceIte, Int.reduceEq, Int.reduceNeg, wrap_add, c0, e0, e3, h.len, int_at (h.pre hp) hi]
    refine by_bool (s_l01In_ret τ _ _ _) (fun h => ?_) (fun h => ?_)
    · simp +contextual (disch := omega) only [go_sem, Nat.reduceEqDiff, ↓reduceIte, Int.reduceEq, Int.reduceNeg, wrap_add, e0, e3, hp]
      exact ht h
    · simp +contextual (disch := omega) only [go_sem, Nat.reduceEqDiff, ↓reduceIte, Int.reduceEq, Int.reduceNeg, wrap_add, e0, e3, hp]
      simp [okK, hf h]
  · rintro env τ e3 c0 ⟨e0, ha, hp⟩
    rw [List.take_length] at ha
    simp +contextual (disch := omega) only [go_sem, Nat.reduceEqDiff, ↓reduceIte, Int.reduceEq, Int.reduceNeg, wrap_add, c0, e0, e3, h.len, hp, okK, ha]
    exact len_beq
theorem i_KnowOk_ret (σ : St) (v : GV) (l : List Int) (h : RS pI.kd σ v l) (hl : l.length ≤ 1099511627776) : Ret Try.prog n_i_KnowOk [v] σ (.bool (okK l)) σ := by
  refine ret_eq ir_i_KnowOk (Nat.le_of_ble_eq_true rfl) trivial ?_
  simp +contextual (disch := omega) only [go_sem, Nat.reduceEqDiff, ↓reduceIte, Int.reduceEq, Int.reduceNeg, wrap_add, F_i_KnowOk, h.len]
  refine vc_for l.length 7 (fun i env τ => env 0 = v ∧ env 5 = v ∧ env 6 = gi l.length ∧ (l.take i).all seqB = true ∧ σ <+: τ) rfl ⟨rfl, rfl, rfl, rfl, List.prefix_refl _⟩ ?_ ?_
  · rintro i env τ hi e7 c0 ⟨e0, e5, e6, ha, hp⟩
    have hf := fun h => all_false_at (p := seqB) hi h
    have ht := take_all_succ hi ha
    simp +contextual (disch := omega) only [go_sem, Nat.reduceEqDiff, ↓reduceIte, Int.reduceEq, Int.reduceNeg, wrap_add, c0, e0, e5, e6, e7, h.len, int_at (h.pre hp) hi]
    refine by_bool (i_within_ret τ _ _ _) (fun h => ?_) (fun h => ?_)
    · simp +contextual (disch := omega) only [go_sem, Nat.reduceEqDiff, ↓reduceIte, Int.reduceEq, Int.reduceNeg, wrap_add, e0, e5, e6, e7, hp]
      exact ht h
    · simp +contextual (disch := omega) only [go_sem, Nat.reduceEqDiff, ↓reduceIte, Int.reduceEq, Int.reduceNeg, wrap_add, e0, e5, e6, e7, hp]
      simp [okK, hf h]
  · rintro env τ e7 c0 ⟨e0, e5, e6, ha, hp⟩
    rw [List.take_length] at ha
    simp +contextual (disch := omega) only [go_sem, Nat.reduceEqDiff, ↓reduceIte, Int.reduceEq, Int.reduceNeg, wrap_add, c0, e0, e5, e6, e7, h.len, hp, okK, ha]
    exact len_beq
def dotOk (d : Dot) : Bool := inB d.rep 0 2 && inB d.seq 1 1000
theorem dotOk_iff {d : Dot} : dotOk d = true ↔ (0 ≤ d.rep ∧ d.rep ≤ 2) ∧ 1 ≤ d.seq ∧ d.seq ≤ 1000 := by simp [dotOk, inB_iff]
theorem s_DotOk_ret (σ : St) (d : Dot) : Ret Try.prog n_s_DotOk [.agg [gi d.rep, gi d.seq]] σ (.bool (dotOk d)) σ := by
  refine ret_eq ir_s_DotOk (Nat.le_of_ble_eq_true rfl) trivial ?_
  simp +contextual (disch := omega) only [go_sem, Nat.reduceEqDiff, ↓reduceIte, Int.reduceEq, Int.reduceNeg, wrap_add, F_s_DotOk]
  refine by_bool (s_l01In_ret _ _ _ _) (fun h => ?_) (fun h => ?_)
  · simp +contextual (disch := omega) only [go_sem, Nat.reduceEqDiff, ↓reduceIte, Int.reduceEq, Int.reduceNeg, wrap_add, List.append_nil]
    refine by_ret (s_l01In_ret _ _ _ _) ?_
    simp +contextual (disch := omega) only [go_sem, Nat.reduceEqDiff, ↓reduceIte, Int.reduceEq, Int.reduceNeg, wrap_add, dotOk, h]
  · simp +contextual (disch := omega) only [go_sem, Nat.reduceEqDiff, ↓reduceIte, Int.reduceEq, Int.reduceNeg, wrap_add, dotOk, h]
theorem i_DotOk_ret (σ : St) (d : Dot) : Ret Try.prog n_i_DotOk [.agg [gi d.rep, gi d.seq]] σ (.bool (dotOk d)) σ := by
  refine ret_eq ir_i_DotOk (Nat.le_of_ble_eq_true rfl) trivial ?_
  simp +contextual (disch := omega) only [go_sem, Nat.reduceEqDiff, ↓reduceIte, Int.reduceEq, Int.reduceNeg, wrap_add, F_i_DotOk]
  refine by_bool (i_within_ret _ _ _ _) (fun h => ?_) (fun h => ?_)
  · simp +contextual (disch := omega) only [go_sem, Nat.reduceEqDiff, ↓reduceIte, Int.reduceEq, Int.reduceNeg, wrap_add, List.append_nil]
    refine by_ret (i_within_ret _ _ _ _) ?_
    simp +contextual (disch := omega) only [go_sem, Nat.reduceEqDiff, ↓reduceIte, Int.reduceEq, Int.reduceNeg, wrap_add, dotOk, h]
  · simp +contextual (disch := omega) only [go_sem, Nat.reduceEqDiff, ↓reduceIte, Int.reduceEq, Int.reduceNeg, wrap_add, dotOk, h]
def at0 (l : List Int) (r : Int) : Int := l.getD r.toNat 0
def knows (k : List Int) (d : Dot) : Bool := okK k && dotOk d && decide (d.seq ≤ at0 k d.rep)
theorem natOf_pos {k : IntKind} {n : Int} (h : 0 ≤ n) : natOf (some (.int k n)) = some n.toNat := by simp [natOf, h]
theorem rep_at {σ : St} {v : GV} {l : List Int} {r : Int} (h : RS pI.kd σ v l) (hk : okK l = true) (h0 : 0 ≤ r) (h2 : r ≤ 2) : (natOf (some (gi r)) = some r.toNat ∧ iadG 1 v (some r.toNat) = some (atz 1 v r.toNat)) ∧ ldG false 1 σ (atz 1 v r.toNat) = some (gi (at0 l r)) := by
  have hl := okK_len hk
  have hi : r.toNat < l.length := by omega
  have e := int_at h hi
  refine ⟨⟨natOf_pos h0, e.1⟩, ?_⟩
  rw [e.2, at0, List.getD_eq_getElem?_getD, List.getElem?_eq_getElem hi]; rfl
theorem s_Knows_ret (σ : St) (v : GV) (k : List Int) (d : Dot) (h : RS pI.kd σ v k) (hl : k.length ≤ 1099511627776) : Ret Try.prog n_s_Knows [v, .agg [gi d.rep, gi d.seq]] σ (.bool (knows k d)) σ := by
  refine ret_eq ir_s_Knows (Nat.le_of_ble_eq_true rfl) trivial ?_
  simp +contextual (disch := omega) only [go_sem, Nat.reduceEqDiff, ↓reduceIte, Int.reduceEq, Int.reduceNeg, wrap_add, F_s_Knows]
  have h1 := h.pre (pre1 σ (some (Blk.row 1 [gi d.rep, gi d.seq])))
  refine by_bool (s_KnowOk_ret _ v k h1 hl) (fun hk => ?_) (fun hk => ?_)
  · simp +contextual (disch := omega) only [go_sem, Nat.reduceEqDiff, ↓reduceIte, Int.reduceEq, Int.reduceNeg, wrap_add, List.append_nil]
    refine by_bool (s_DotOk_ret _ d) (fun hd => ?_) (fun hd => ?_)
    · have hd' := dotOk_iff.1 hd
      have hr := rep_at h1 hk hd'.1.1 hd'.1.2
      simp +contextual (disch := omega) only [go_sem, Nat.reduceEqDiff, ↓reduceIte, Int.reduceEq, Int.reduceNeg, wrap_add, hr, knows, hk, hd]
    · simp +contextual (disch := omega) only [go_sem, Nat.reduceEqDiff, ↓reduceIte, Int.reduceEq, Int.reduceNeg, wrap_add, knows, hk, hd]
  · simp +contextual (disch := omega) only [go_sem, Nat.reduceEqDiff, ↓reduceIte, Int.reduceEq, Int.reduceNeg, wrap_add, knows, hk]
theorem i_Knows_ret (σ : St) (v : GV) (k : List Int) (d : Dot) (h : RS pI.kd σ v k) (hl : k.length ≤ 1099511627776) : Ret Try.prog n_i_Knows [v, .agg [gi d.rep, gi d.seq]] σ (.bool (knows k d)) σ := by
  refine ret_eq ir_i_Knows (Nat.le_of_ble_eq_true rfl) trivial ?_
  simp +contextual (disch := omega) only [go_sem, Nat.reduceEqDiff, ↓reduceIte, Int.reduceEq, Int.reduceNeg, wrap_add, F_i_Knows]
  have h1 := h.pre (pre1 σ (some (Blk.row 1 [gi d.rep, gi d.seq])))
  refine by_bool (i_KnowOk_ret _ v k h1 hl) (fun hk => ?_) (fun hk => ?_)
  · simp +contextual (disch := omega) only [go_sem, Nat.reduceEqDiff, ↓reduceIte, Int.reduceEq, Int.reduceNeg, wrap_add, List.append_nil]
    refine by_bool (i_DotOk_ret _ d) (fun hd => ?_) (fun hd => ?_)
    · have hd' := dotOk_iff.1 hd
      have hr := rep_at h1 hk hd'.1.1 hd'.1.2
      simp +contextual (disch := omega) only [go_sem, Nat.reduceEqDiff, ↓reduceIte, Int.reduceEq, Int.reduceNeg, wrap_add, hr, knows, hk, hd]
    · simp +contextual (disch := omega) only [go_sem, Nat.reduceEqDiff, ↓reduceIte, Int.reduceEq, Int.reduceNeg, wrap_add, knows, hk, hd]
  · simp +contextual (disch := omega) only [go_sem, Nat.reduceEqDiff, ↓reduceIte, Int.reduceEq, Int.reduceNeg, wrap_add, knows, hk]
end Go.Proofs.Ytopannfdcikgiaa.Sy

/- Contracts: numbers and texts written down. -/
namespace Go.Proofs.Ytopannfdcikgiaa.Sy
open Go Go.RowKit
set_option linter.unusedSimpArgs false
set_option linter.unusedVariables false
abbrev n_s_l01Var : Nat := 71
def F_s_l01Var : Fn1 := ⟨22, [.t 2], (.seq (.reg [o 2 (.mov (.k (.str ⟨#[]⟩)))]) (.seq (.reg [o 4 (.lit 1 0 [] []), o 3 (.mov (.t 4))]) (.seq (.blk 0 (.lop (.seq (.seq (.reg [o 5 (.mov (.t 0)), o 6 (.bin .gtr (.t 5) (.k (.int .i64 127)))]) (.cnd (.t 6) .skip (.ext 0))) (.blk 1 (.seq (.reg [o 7 (.mov (.t 3)), o 8 (.mov (.t 0)), o 9 (.bin .rem (.t 8) (.k (.int .i64 128))), o 10 (.bin .add (.t 9) (.k (.int .i64 128))), o 11 (.cvi .u8 (.t 10)), o 12 (.lit 1 1 [(.int .u8 0)] [(0, 1, (.t 11))]), o 13 (.app 1 1 [(.int .u8 0)] (.t 7) (.t 12)), o 3 (.mov (.t 13))]) (.reg [o 14 (.mov (.t 0)), o 15 (.bin .quo (.t 14) (.k (.int .i64 128))), o 0 (.mov (.t 15))])))))) (.seq (.reg [o 16 (.mov (.t 3)), o 17 (.mov (.t 0)), o 18 (.cvi .u8 (.t 17)), o 19 (.lit 1 1 [(.int .u8 0)] [(0, 1, (.t 18))]), o 20 (.app 1 1 [(.int .u8 0)] (.t 16) (.t 19)), o 21 (.bts (.t 20)), o 2 (.mov (.t 21))]) .ret))))⟩
theorem ir_s_l01Var : compFn Try.prog n_s_l01Var = some F_s_l01Var := by kernel_rfl
abbrev n_s_l05Short : Nat := 72
def F_s_l05Short : Fn1 := ⟨8, [.t 2], (.seq (.reg [o 2 (.mov (.k (.str ⟨#[]⟩)))]) (.seq (.reg [o 3 (.mov (.t 0)), o 4 (.len true (.t 3)), o 5 (.call 71 [(.t 4)]), o 6 (.mov (.t 0)), o 7 (.bin .add (.t 5) (.t 6)), o 2 (.mov (.t 7))]) .ret))⟩
theorem ir_s_l05Short : compFn Try.prog n_s_l05Short = some F_s_l05Short := by kernel_rfl
abbrev n_i_VarText : Nat := 111
def F_i_VarText : Fn1 := ⟨26, [.t 2, .t 3], (.seq (.reg [o 2 (.mov (.k (.str ⟨#[]⟩))), o 3 (.mov (.k (.bool false)))]) (.seq (.seq (.reg [o 5 (.mov (.t 0)), o 6 (.call 65 [(.t 5), (.k (.int .i64 0)), (.k (.int .i64 1000000000))]), o 7 (.un .not (.t 6))]) (.cnd (.t 7) (.seq (.reg [o 2 (.mov (.k (.str ⟨#[]⟩))), o 3 (.mov (.k (.bool false)))]) .ret) .skip)) (.seq (.reg [o 8 (.lit 1 0 [] []), o 4 (.mov (.t 8))]) (.seq (.blk 0 (.lop (.seq (.seq (.reg [o 9 (.mov (.t 0)), o 10 (.bin .gtr (.t 9) (.k (.int .i64 127)))]) (.cnd (.t 10) .skip (.ext 0))) (.blk 1 (.seq (.reg [o 11 (.mov (.t 4)), o 12 (.mov (.t 0)), o 13 (.bin .rem (.t 12) (.k (.int .i64 128))), o 14 (.bin .add (.t 13) (.k (.int .i64 128))), o 15 (.cvi .u8 (.t 14)), o 16 (.lit 1 1 [(.int .u8 0)] [(0, 1, (.t 15))]), o 17 (.app 1 1 [(.int .u8 0)] (.t 11) (.t 16)), o 4 (.mov (.t 17))]) (.reg [o 18 (.mov (.t 0)), o 19 (.bin .quo (.t 18) (.k (.int .i64 128))), o 0 (.mov (.t 19))])))))) (.seq (.reg [o 20 (.mov (.t 4)), o 21 (.mov (.t 0)), o 22 (.cvi .u8 (.t 21)), o 23 (.lit 1 1 [(.int .u8 0)] [(0, 1, (.t 22))]), o 24 (.app 1 1 [(.int .u8 0)] (.t 20) (.t 23)), o 25 (.bts (.t 24)), o 2 (.mov (.t 25)), o 3 (.mov (.k (.bool true)))]) .ret)))))⟩
theorem ir_i_VarText : compFn Try.prog n_i_VarText = some F_i_VarText := by kernel_rfl
abbrev n_i_ShortText : Nat := 112
def F_i_ShortText : Fn1 := ⟨18, [.t 2, .t 3], (.seq (.reg [o 2 (.mov (.k (.str ⟨#[]⟩))), o 3 (.mov (.k (.bool false)))]) (.seq (.seq (.reg [o 6 (.mov (.t 0)), o 7 (.len true (.t 6)), o 8 (.bin .gtr (.t 7) (.k (.int .i64 20000)))]) (.cnd (.t 8) (.seq (.reg [o 2 (.mov (.k (.str ⟨#[]⟩))), o 3 (.mov (.k (.bool false)))]) .ret) .skip)) (.seq (.reg [o 10 (.mov (.t 0)), o 11 (.len true (.t 10)), o 12 (.call 111 [(.t 11)]), o 9 (.mov (.t 12)), o 13 (.ext 0 (.t 9)), o 14 (.ext 1 (.t 9)), o 4 (.mov (.t 13)), o 5 (.mov (.t 14))]) (.seq (.reg [o 15 (.mov (.t 4)), o 16 (.mov (.t 0)), o 17 (.bin .add (.t 15) (.t 16)), o 2 (.mov (.t 17)), o 3 (.mov (.k (.bool true)))]) .ret))))⟩
theorem ir_i_ShortText : compFn Try.prog n_i_ShortText = some F_i_ShortText := by kernel_rfl
abbrev n_i_varTexts : Nat := 73
def F_i_varTexts : Fn1 := ⟨24, [.t 2], (.seq (.reg [o 2 (.mov (.k (.str ⟨#[]⟩)))]) (.seq (.reg [o 3 (.mov (.k (.str ⟨#[]⟩)))]) (.seq (.seq (.reg [o 8 (.mov (.t 0)), o 9 (.len false (.t 8)), o 10 (.mov (.k (.int .i64 0)))]) (.blk 0 (.lop (.seq (.reg [o 11 (.bin .lss (.t 10) (.t 9))]) (.seq (.cnd (.t 11) .skip (.ext 0)) (.seq (.blk 1 (.seq (.reg [o 12 (.iad 1 (.t 8) (.t 10)), o 13 (.ld false 1 (.t 12)), o 5 (.mov (.t 13))]) (.seq (.reg [o 15 (.mov (.t 5)), o 16 (.call 111 [(.t 15)]), o 14 (.mov (.t 16)), o 17 (.ext 0 (.t 14)), o 18 (.ext 1 (.t 14)), o 6 (.mov (.t 17)), o 7 (.mov (.t 18))]) (.reg [o 19 (.mov (.t 3)), o 20 (.mov (.t 6)), o 21 (.bin .add (.t 19) (.t 20)), o 3 (.mov (.t 21))])))) (.reg [o 22 (.bin .add (.t 10) (.k (.int .i64 1))), o 10 (.mov (.t 22))]))))))) (.seq (.reg [o 23 (.mov (.t 3)), o 2 (.mov (.t 23))]) .ret))))⟩
theorem ir_i_varTexts : compFn Try.prog n_i_varTexts = some F_i_varTexts := by kernel_rfl
abbrev n_i_shortTexts : Nat := 74
def F_i_shortTexts : Fn1 := ⟨24, [.t 2], (.seq (.reg [o 2 (.mov (.k (.str ⟨#[]⟩)))]) (.seq (.reg [o 3 (.mov (.k (.str ⟨#[]⟩)))]) (.seq (.seq (.reg [o 8 (.mov (.t 0)), o 9 (.len false (.t 8)), o 10 (.mov (.k (.int .i64 0)))]) (.blk 0 (.lop (.seq (.reg [o 11 (.bin .lss (.t 10) (.t 9))]) (.seq (.cnd (.t 11) .skip (.ext 0)) (.seq (.blk 1 (.seq (.reg [o 12 (.iad 1 (.t 8) (.t 10)), o 13 (.ld false 1 (.t 12)), o 5 (.mov (.t 13))]) (.seq (.reg [o 15 (.mov (.t 5)), o 16 (.call 112 [(.t 15)]), o 14 (.mov (.t 16)), o 17 (.ext 0 (.t 14)), o 18 (.ext 1 (.t 14)), o 6 (.mov (.t 17)), o 7 (.mov (.t 18))]) (.reg [o 19 (.mov (.t 3)), o 20 (.mov (.t 6)), o 21 (.bin .add (.t 19) (.t 20)), o 3 (.mov (.t 21))])))) (.reg [o 22 (.bin .add (.t 10) (.k (.int .i64 1))), o 10 (.mov (.t 22))]))))))) (.seq (.reg [o 23 (.mov (.t 3)), o 2 (.mov (.t 23))]) .ret))))⟩
theorem ir_i_shortTexts : compFn Try.prog n_i_shortTexts = some F_i_shortTexts := by kernel_rfl
theorem vb_len5 (n : Nat) (h : n < 34359738368) : (vb n).length ≤ 5 := by
  have s1 : ∀ m, m ≤ 127 → (vb m).length = 1 := fun m hm => by rw [vb, if_neg (by omega)]; rfl
  have st : ∀ (c : Nat) (k : Nat), (∀ m, m < c → (vb m).length ≤ k) → 128 ≤ c → ∀ m, m < 128 * c → (vb m).length ≤ k + 1 := fun c k hk hc m hm => by
    by_cases hb : m > 127
    · rw [vb, if_pos hb, List.length_cons]
      have := hk (m / 128) (by omega); omega
    · have := s1 m (by omega); omega
  have h1 : ∀ m, m < 128 → (vb m).length ≤ 1 := fun m hm => by have := s1 m (by omega); omega
  have h2 := st 128 1 h1 (by omega)
  have h3 := st (128 * 128) 2 h2 (by omega)
  have h4 := st (128 * (128 * 128)) 3 h3 (by omega)
  exact st (128 * (128 * (128 * 128))) 4 h4 (by omega) n (by omega)
theorem u8_at {σ : St} {v : GV} {l : List Int} (h : RS pB.kd σ v l) : ((elems σ 1 v).bind fun r => (bytesOf r.2).map fun bs => GV.str ⟨bs.toArray⟩) = some (.str (txt l)) := bts_ok h
theorem Hp.app_u8 {σ τ : St} {rs : List Thg} {v : GV} {l : List Int} (H : Hp σ τ rs) (i : Nat) (hi : rs[i]? = some (ow pB.kd v l)) (x : Int) (hb : (l.length + 1) * 1 ≤ 140737488355328) : ∃ v' τ', appV 1 1 (τ ++ [some (.row 1 [.int .u8 x])]) v (.sl τ.length 0 1) = some (v', τ') ∧ Hp σ τ' (rs.set i (ow pB.kd v' (l ++ [x]))) := H.app1 i hi x (by decide) hb
theorem vb_step {m : Nat} (h : 127 < m) (a : List Int) : (a ++ [((m % 128 + 128 : Nat) : Int)]) ++ vb (m / 128) = a ++ vb m := by
  conv => rhs; rw [vb, if_pos h]
  simp
theorem s_l01Var_ret (σ : St) (n : Nat) (hn : n ≤ 1099511627776) : Ret Try.prog n_s_l01Var [gi n] σ (.str (txt (vb n))) σ := by
  refine ret_eq ir_s_l01Var (Nat.le_of_ble_eq_true rfl) trivial ?_
  simp +contextual (disch := omega) only [go_sem, Nat.reduceEqDiff, ↓reduceIte, Int.reduceEq, Int.reduceNeg, wrap_add, F_s_l01Var]
  refine vc_lop (fun k env τ => ∃ (v : GV) (acc : List Int), k ≤ n ∧ env 0 = gi k ∧ env 3 = v ∧ Hp σ τ [ow pB.kd v acc] ∧ acc.length + k ≤ n ∧ acc ++ vb k = vb n) n ⟨_, [], Nat.le_refl _, rfl, rfl, (Hp.refl σ).newNil pB.kd, by simp, rfl⟩ ?_
  rintro k env τ ⟨v, acc, hk, e0, e3, H, hacc, hv⟩
  by_cases hc : 127 < k
  · have d1 : decide (127 < (k : Int)) = true := decide_eq_true (by omega)
    have e1 : ((k % 128 : Nat) : Int) + 128 = ((k % 128 + 128 : Nat) : Int) := by omega
    obtain ⟨v', τ', e, H⟩ := H.app_u8 0 rfl (((k % 128 : Nat) : Int) + 128) (by omega)
    have hw : IntKind.u8.wrap (((k % 128 : Nat) : Int) + 128) = ((k % 128 : Nat) : Int) + 128 := wrap8 (by omega) (by omega)
    simp +contextual (disch := omega) only [go_sem, Nat.reduceEqDiff, ↓reduceIte, Int.reduceEq, Int.reduceNeg, wrap_add, e0, e3, d1, lit_ne, tmod128, tdiv128, hw, e]
    have H : Hp σ τ' [ow pB.kd v' (acc ++ [((k % 128 : Nat) : Int) + 128])] := H
    rw [e1] at H
    exact ⟨k / 128, by omega, v', acc ++ [((k % 128 + 128 : Nat) : Int)], by omega, rfl, rfl, H, by simp; omega, by rw [vb_step hc]; exact hv⟩
  · have d1 : decide (127 < (k : Int)) = false := decide_eq_false (by omega)
    have hw : IntKind.u8.wrap (k : Int) = k := wrap8 (by omega) (by omega)
    obtain ⟨v', τ', e, H⟩ := H.app_u8 0 rfl (k : Int) (by omega)
    have hs : vb k = [(k : Int)] := by rw [vb, if_neg hc]
    simp +contextual (disch := omega) only [go_sem, Nat.reduceEqDiff, ↓reduceIte, Int.reduceEq, Int.reduceNeg, wrap_add, e0, e3, d1, hw, e, u8_at (H.sl 0 rfl), H.sub]
    rw [← hs, hv]
theorem s_l05Short_ret (σ : St) (s : ByteArray) (hs : s.size ≤ 1099511627776) : Ret Try.prog n_s_l05Short [.str s] σ (.str (txt (vb s.size) ++ s)) σ := by
  have := vb_length s.size
  have hle : (vb s.size).length + s.size ≤ 9223372036854775807 := by omega
  refine ret_eq ir_s_l05Short (Nat.le_of_ble_eq_true rfl) trivial ?_
  simp +contextual (disch := omega) only [go_sem, Nat.reduceEqDiff, ↓reduceIte, Int.reduceEq, Int.reduceNeg, wrap_add, F_s_l05Short]
  refine by_ret (s_l01Var_ret σ s.size hs) ?_
  simp +contextual (disch := omega) only [go_sem, Nat.reduceEqDiff, ↓reduceIte, Int.reduceEq, Int.reduceNeg, wrap_add, txt_size, hle]
/-- The text of a number; nothing for one that has none. -/
def varTx (n : Int) : ByteArray := if inB n 0 1000000000 then txt (vb n.toNat) else ⟨#[]⟩
theorem varTx_size (n : Int) : (varTx n).size ≤ 5 := by
  unfold varTx
  split
  · rename_i h
    have := inB_iff.1 h
    rw [txt_size]; exact vb_len5 _ (by omega)
  · decide
theorem varTx_nat {n : Nat} (h : n ≤ 1000000000) : varTx n = txt (vb n) := by
  unfold varTx
  rw [if_pos (inB_iff.2 (by omega))]; rfl
def shortTx (s : ByteArray) : ByteArray := if s.size ≤ 20000 then txt (vb s.size) ++ s else ⟨#[]⟩
theorem shortTx_size (s : ByteArray) : (shortTx s).size ≤ 20005 := by
  unfold shortTx
  split
  · rw [ByteArray.size_append, txt_size]
    have := vb_len5 s.size (by omega); omega
  · decide
theorem i_VarText_ret (σ : St) (n : Int) : Ret Try.prog n_i_VarText [gi n] σ (.tup [.str (varTx n), .bool (inB n 0 1000000000)]) σ := by
  refine ret_eq ir_i_VarText (Nat.le_of_ble_eq_true rfl) (by intro v hv; simp at hv; rcases hv with rfl | rfl <;> trivial) ?_
  simp +contextual (disch := omega) only [go_sem, Nat.reduceEqDiff, ↓reduceIte, Int.reduceEq, Int.reduceNeg, wrap_add, F_i_VarText]
  refine by_bool (i_within_ret _ _ _ _) (fun hi => ?_) (fun hi => ?_)
  · have hn := inB_iff.1 hi
    obtain ⟨m, rfl⟩ : ∃ m : Nat, n = m := ⟨n.toNat, by omega⟩
    simp +contextual (disch := omega) only [go_sem, Nat.reduceEqDiff, ↓reduceIte, Int.reduceEq, Int.reduceNeg, wrap_add, List.append_nil]
    refine vc_lop (fun k env τ => ∃ (v : GV) (acc : List Int), k ≤ m ∧ env 0 = gi k ∧ env 4 = v ∧ Hp σ τ [ow pB.kd v acc] ∧ acc.length + k ≤ m ∧ acc ++ vb k = vb m) m ⟨_, [], Nat.le_refl _, rfl, rfl, (Hp.refl σ).newNil pB.kd, by simp, rfl⟩ ?_
    rintro k env τ ⟨v, acc, hk, e0, e4, H, hacc, hv⟩
    by_cases hc : 127 < k
    · have d1 : decide (127 < (k : Int)) = true := decide_eq_true (by omega)
      have e1 : ((k % 128 : Nat) : Int) + 128 = ((k % 128 + 128 : Nat) : Int) := by omega
      obtain ⟨v', τ', e, H⟩ := H.app_u8 0 rfl (((k % 128 : Nat) : Int) + 128) (by omega)
      have hw : IntKind.u8.wrap (((k % 128 : Nat) : Int) + 128) = ((k % 128 : Nat) : Int) + 128 := wrap8 (by omega) (by omega)
      simp +contextual (disch := omega) only [go_sem, Nat.reduceEqDiff, ↓reduceIte, Int.reduceEq, Int.reduceNeg, wrap_add, e0, e4, d1, lit_ne, tmod128, tdiv128, hw, e]
      have H : Hp σ τ' [ow pB.kd v' (acc ++ [((k % 128 : Nat) : Int) + 128])] := H
      rw [e1] at H
      exact ⟨k / 128, by omega, v', acc ++ [((k % 128 + 128 : Nat) : Int)], by omega, rfl, rfl, H, by simp; omega, by rw [vb_step hc]; exact hv⟩
    · have d1 : decide (127 < (k : Int)) = false := decide_eq_false (by omega)
      have hw : IntKind.u8.wrap (k : Int) = k := wrap8 (by omega) (by omega)
      obtain ⟨v', τ', e, H⟩ := H.app_u8 0 rfl (k : Int) (by omega)
      have hs : vb k = [(k : Int)] := by rw [vb, if_neg hc]
      simp +contextual (disch := omega) only [go_sem, Nat.reduceEqDiff, ↓reduceIte, Int.reduceEq, Int.reduceNeg, wrap_add, e0, e4, d1, hw, e, u8_at (H.sl 0 rfl), H.sub, tup2_ok, notTup, ← hs, hv]
      rw [hi, varTx_nat (by omega)]
  · simp +contextual (disch := omega) only [go_sem, Nat.reduceEqDiff, ↓reduceIte, Int.reduceEq, Int.reduceNeg, wrap_add, tup2_ok, notTup]
    rw [hi]
    simp [varTx, hi, tup2, notTup]
theorem i_ShortText_ret (σ : St) (s : ByteArray) (hs : s.size ≤ 1099511627776) : Ret Try.prog n_i_ShortText [.str s] σ (.tup [.str (shortTx s), .bool (decide (s.size ≤ 20000))]) σ := by
  refine ret_eq ir_i_ShortText (Nat.le_of_ble_eq_true rfl) (by intro v hv; simp at hv; rcases hv with rfl | rfl <;> trivial) ?_
  by_cases hc : s.size ≤ 20000
  · have d1 : decide (20000 < (s.size : Int)) = false := decide_eq_false (by omega)
    have h5 := vb_len5 s.size (by omega)
    have hle : (vb s.size).length + s.size ≤ 9223372036854775807 := by omega
    simp +contextual (disch := omega) only [go_sem, Nat.reduceEqDiff, ↓reduceIte, Int.reduceEq, Int.reduceNeg, wrap_add, F_i_ShortText, d1]
    refine by_ret (i_VarText_ret σ s.size) ?_
    simp +contextual (disch := omega) only [go_sem, Nat.reduceEqDiff, ↓reduceIte, Int.reduceEq, Int.reduceNeg, wrap_add, varTx_nat (show s.size ≤ 1000000000 by omega), txt_size, hle, tup2_ok, notTup]
    simp [shortTx, hc, tup2, notTup]
  · have d1 : decide (20000 < (s.size : Int)) = true := decide_eq_true (by omega)
    simp +contextual (disch := omega) only [go_sem, Nat.reduceEqDiff, ↓reduceIte, Int.reduceEq, Int.reduceNeg, wrap_add, F_i_ShortText, d1]
    simp [shortTx, hc, tup2, notTup]
/-- Texts one behind the other. -/
def catS (l : List ByteArray) : ByteArray := l.foldl (· ++ ·) ⟨#[]⟩
theorem catS_snoc (l : List ByteArray) (s : ByteArray) : catS (l ++ [s]) = catS l ++ s := by simp [catS]
theorem catS_size {l : List ByteArray} {k : Nat} (h : ∀ s ∈ l, s.size ≤ k) : (catS l).size ≤ l.length * k := by
  have key : ∀ (l : List ByteArray) (a : ByteArray), (∀ s ∈ l, s.size ≤ k) → (l.foldl (· ++ ·) a).size ≤ a.size + l.length * k := by
    intro l
    induction l with
    | nil => intro a _; simp
    | cons s l ih =>
      intro a hs
      have h1 := ih (a ++ s) fun x hx => hs x (List.mem_cons_of_mem _ hx)
      have h2 := hs s List.mem_cons_self
      rw [ByteArray.size_append] at h1
      simp only [List.foldl_cons, List.length_cons, Nat.add_mul] at *
      omega
  have := key l ⟨#[]⟩ h
  have e : (⟨#[]⟩ : ByteArray).size = 0 := rfl
  unfold catS; omega
theorem map_snoc {α β : Type} {f : α → β} {l : List α} {i : Nat} (h : i < l.length) : (l.take (i + 1)).map f = (l.take i).map f ++ [f l[i]] := by rw [take_snoc h, List.map_append]; rfl
theorem i_varTexts_ret (σ : St) (v : GV) (l : List Int) (h : RS pI.kd σ v l) (hl : l.length ≤ 1099511627776) : Ret Try.prog n_i_varTexts [v] σ (.str (catS (l.map varTx))) σ := by
  refine ret_eq ir_i_varTexts (Nat.le_of_ble_eq_true rfl) trivial ?_
  simp +contextual (disch := omega) only [go_sem, Nat.reduceEqDiff, ↓reduceIte, Int.reduceEq, Int.reduceNeg, wrap_add, F_i_varTexts, h.len]
  refine vc_for l.length 10 (fun i env τ => env 8 = v ∧ env 9 = gi l.length ∧ env 3 = .str (catS ((l.take i).map varTx)) ∧ σ <+: τ) rfl ⟨rfl, rfl, rfl, List.prefix_refl _⟩ ?_ ?_
  · rintro i env τ hi e10 c0 ⟨e8, e9, e3, hp⟩
    have hsz : (catS ((l.take i).map varTx)).size ≤ i * 5 := by
      have := catS_size (l := (l.take i).map varTx) (k := 5) (by intro s hs; obtain ⟨x, _, rfl⟩ := List.mem_map.1 hs; exact varTx_size x)
      rw [List.length_map, List.length_take] at this; omega
    have hv := varTx_size l[i]
    have hle : (catS ((l.take i).map varTx)).size + (varTx l[i]).size ≤ 9223372036854775807 := by omega
    simp +contextual (disch := omega) only [go_sem, Nat.reduceEqDiff, ↓reduceIte, Int.reduceEq, Int.reduceNeg, wrap_add, c0, e8, e9, e3, e10, int_at (h.pre hp) hi]
    refine by_ret (i_VarText_ret τ l[i]) ?_
    simp +contextual (disch := omega) only [go_sem, Nat.reduceEqDiff, ↓reduceIte, Int.reduceEq, Int.reduceNeg, wrap_add, e8, e9, e3, e10, hle, hp, map_snoc hi, catS_snoc]
  · rintro env τ e10 c0 ⟨e8, e9, e3, hp⟩
    rw [List.take_length] at e3
    simp +contextual (disch := omega) only [go_sem, Nat.reduceEqDiff, ↓reduceIte, Int.reduceEq, Int.reduceNeg, wrap_add, c0, e8, e9, e3, e10, hp]
theorem i_shortTexts_ret (σ : St) (v : GV) (l : List ByteArray) (h : RS pS.kd σ v l) (hl : l.length ≤ 1099511627776) (hs : ∀ s ∈ l, s.size ≤ 1099511627776) : Ret Try.prog n_i_shortTexts [v] σ (.str (catS (l.map shortTx))) σ := by
  refine ret_eq ir_i_shortTexts (Nat.le_of_ble_eq_true rfl) trivial ?_
  simp +contextual (disch := omega) only [go_sem, Nat.reduceEqDiff, ↓reduceIte, Int.reduceEq, Int.reduceNeg, wrap_add, F_i_shortTexts, h.len]
  refine vc_for l.length 10 (fun i env τ => env 8 = v ∧ env 9 = gi l.length ∧ env 3 = .str (catS ((l.take i).map shortTx)) ∧ σ <+: τ) rfl ⟨rfl, rfl, rfl, List.prefix_refl _⟩ ?_ ?_
  · rintro i env τ hi e10 c0 ⟨e8, e9, e3, hp⟩
    have hsz : (catS ((l.take i).map shortTx)).size ≤ i * 20005 := by
      have := catS_size (l := (l.take i).map shortTx) (k := 20005) (by intro s hs; obtain ⟨x, _, rfl⟩ := List.mem_map.1 hs; exact shortTx_size x)
      rw [List.length_map, List.length_take] at this
      have : min i l.length = i := by omega
      simp_all
    have hv := shortTx_size l[i]
    have hle : (catS ((l.take i).map shortTx)).size + (shortTx l[i]).size ≤ 9223372036854775807 := by omega
    simp +contextual (disch := omega) only [go_sem, Nat.reduceEqDiff, ↓reduceIte, Int.reduceEq, Int.reduceNeg, wrap_add, c0, e8, e9, e3, e10, str_at (h.pre hp) hi]
    refine by_ret (i_ShortText_ret τ l[i] (hs _ (List.getElem_mem hi))) ?_
    simp +contextual (disch := omega) only [go_sem, Nat.reduceEqDiff, ↓reduceIte, Int.reduceEq, Int.reduceNeg, wrap_add, e8, e9, e3, e10, hle, hp, map_snoc hi, catS_snoc]
  · rintro env τ e10 c0 ⟨e8, e9, e3, hp⟩
    rw [List.take_length] at e3
    simp +contextual (disch := omega) only [go_sem, Nat.reduceEqDiff, ↓reduceIte, Int.reduceEq, Int.reduceNeg, wrap_add, c0, e8, e9, e3, e10, hp]
end Go.Proofs.Ytopannfdcikgiaa.Sy

/- Contracts: watches. -/
namespace Go.Proofs.Ytopannfdcikgiaa.Sy
open Go Go.RowKit
set_option linter.unusedSimpArgs false
set_option linter.unusedVariables false
abbrev n_s_WatchOk : Nat := 16
def F_s_WatchOk : Fn1 := ⟨22, [.t 2], (.seq (.reg [o 1 (.box (.t 0)), o 2 (.mov (.k (.bool false)))]) (.seq (.seq (.reg [o 3 (.fad 0 (.t 1)), o 4 (.ld false 1 (.t 3)), o 5 (.call 62 [(.t 4), (.k (.int .i64 1)), (.k (.int .i64 4))]), o 6 (.un .not (.t 5)), o 7 (.mov (.t 6)), og 8 7 false (.fad 1 (.t 1)), og 9 7 false (.ld false 1 (.t 8)), og 10 7 false (.call 63 [(.t 9)]), og 11 7 false (.un .not (.t 10)), o 12 (.pick (.t 7) (.k (.bool true)) (.t 11))]) (.cnd (.t 12) (.seq (.reg [o 2 (.mov (.k (.bool false)))]) .ret) .skip)) (.seq (.seq (.reg [o 13 (.fad 0 (.t 1)), o 14 (.ld false 1 (.t 13)), o 15 (.bin .eql (.t 14) (.k (.int .i64 3)))]) (.cnd (.t 15) (.seq (.reg [o 16 (.fad 2 (.t 1)), o 17 (.ld false 1 (.t 16)), o 18 (.call 63 [(.t 17)]), o 2 (.mov (.t 18))]) .ret) .skip)) (.seq (.reg [o 19 (.fad 2 (.t 1)), o 20 (.ld false 1 (.t 19)), o 21 (.bin .eql (.t 20) (.k (.str ⟨#[]⟩))), o 2 (.mov (.t 21))]) .ret))))⟩
theorem ir_s_WatchOk : compFn Try.prog n_s_WatchOk = some F_s_WatchOk := by kernel_rfl
abbrev n_i_WatchOk : Nat := 18
def F_i_WatchOk : Fn1 := ⟨24, [.t 2], (.seq (.reg [o 1 (.box (.t 0)), o 2 (.mov (.k (.bool false)))]) (.seq (.reg [o 4 (.fad 2 (.t 1)), o 5 (.ld false 1 (.t 4)), o 6 (.bin .eql (.t 5) (.k (.str ⟨#[]⟩))), o 3 (.mov (.t 6))]) (.seq (.seq (.reg [o 7 (.fad 0 (.t 1)), o 8 (.ld false 1 (.t 7)), o 9 (.bin .eql (.t 8) (.k (.int .i64 3)))]) (.cnd (.t 9) (.reg [o 10 (.fad 2 (.t 1)), o 11 (.ld false 1 (.t 10)), o 12 (.call 64 [(.t 11)]), o 3 (.mov (.t 12))]) .skip)) (.seq (.reg [o 13 (.fad 0 (.t 1)), o 14 (.ld false 1 (.t 13)), o 15 (.call 65 [(.t 14), (.k (.int .i64 1)), (.k (.int .i64 4))]), o 16 (.mov (.t 15)), og 17 16 true (.fad 1 (.t 1)), og 18 16 true (.ld false 1 (.t 17)), og 19 16 true (.call 64 [(.t 18)]), o 20 (.pick (.t 16) (.t 19) (.k (.bool false))), o 21 (.mov (.t 20)), og 22 21 true (.mov (.t 3)), o 23 (.pick (.t 21) (.t 22) (.k (.bool false))), o 2 (.mov (.t 23))]) .ret))))⟩
theorem ir_i_WatchOk : compFn Try.prog n_i_WatchOk = some F_i_WatchOk := by kernel_rfl
abbrev n_s_WatchText : Nat := 23
def F_s_WatchText : Fn1 := ⟨17, [.t 2], (.seq (.reg [o 1 (.box (.t 0)), o 2 (.mov (.k (.str ⟨#[]⟩)))]) (.seq (.seq (.reg [o 3 (.ld true 3 (.t 1)), o 4 (.call 16 [(.t 3)]), o 5 (.un .not (.t 4))]) (.cnd (.t 5) (.seq (.reg [o 2 (.mov (.k (.str ⟨#[]⟩)))]) .ret) .skip)) (.seq (.drw [o 6 (.fad 0 (.t 1)), o 7 (.ld false 1 (.t 6)), o 8 (.call 71 [(.t 7)]), o 9 (.fad 1 (.t 1)), o 10 (.ld false 1 (.t 9)), o 11 (.call 72 [(.t 10)]), o 12 (.bin .add (.t 8) (.t 11)), o 13 (.fad 2 (.t 1)), o 14 (.ld false 1 (.t 13))] [o 15 (.call 72 [(.t 14)]), o 16 (.bin .add (.t 12) (.t 15)), o 2 (.mov (.t 16))]) .ret)))⟩
theorem ir_s_WatchText : compFn Try.prog n_s_WatchText = some F_s_WatchText := by kernel_rfl
abbrev n_i_WatchText : Nat := 24
def F_i_WatchText : Fn1 := ⟨17, [.t 2], (.seq (.reg [o 1 (.box (.t 0)), o 2 (.mov (.k (.str ⟨#[]⟩)))]) (.seq (.seq (.reg [o 3 (.ld true 3 (.t 1)), o 4 (.call 18 [(.t 3)]), o 5 (.un .not (.t 4))]) (.cnd (.t 5) (.seq (.reg [o 2 (.mov (.k (.str ⟨#[]⟩)))]) .ret) .skip)) (.seq (.drw [o 6 (.fad 0 (.t 1)), o 7 (.ld false 1 (.t 6)), o 8 (.lit 1 1 [(.int .i64 0)] [(0, 1, (.t 7))]), o 9 (.call 73 [(.t 8)]), o 10 (.fad 1 (.t 1)), o 11 (.ld false 1 (.t 10)), o 12 (.fad 2 (.t 1)), o 13 (.ld false 1 (.t 12)), o 14 (.lit 1 2 [(.str ⟨#[]⟩), (.str ⟨#[]⟩)] [(0, 1, (.t 11)), (1, 1, (.t 13))])] [o 15 (.call 74 [(.t 14)]), o 16 (.bin .add (.t 9) (.t 15)), o 2 (.mov (.t 16))]) .ret)))⟩
theorem ir_i_WatchText : compFn Try.prog n_i_WatchText = some F_i_WatchText := by kernel_rfl
def watchKey (w : Watch) : Bool := if w.kind == 3 then nameOk w.key else decide (w.key = ⟨#[]⟩)
def watchOk (w : Watch) : Bool := inB w.kind 1 4 && (nameOk w.obj && watchKey w)
theorem s_WatchOk_ret (σ : St) (w : Watch) (ho : w.obj.size ≤ 1099511627776) (hk : w.key.size ≤ 1099511627776) : Ret Try.prog n_s_WatchOk [.agg [gi w.kind, .str w.obj, .str w.key]] σ (.bool (watchOk w)) σ := by
  refine ret_eq ir_s_WatchOk (Nat.le_of_ble_eq_true rfl) trivial ?_
  simp +contextual (disch := omega) only [go_sem, Nat.reduceEqDiff, ↓reduceIte, Int.reduceEq, Int.reduceNeg, wrap_add, F_s_WatchOk]
  refine by_bool (s_l01In_ret _ _ _ _) (fun h1 => ?_) (fun h1 => ?_)
  · simp +contextual (disch := omega) only [go_sem, Nat.reduceEqDiff, ↓reduceIte, Int.reduceEq, Int.reduceNeg, wrap_add, List.append_nil]
    refine by_bool (s_NameOk_ret _ w.obj ho) (fun h2 => ?_) (fun h2 => ?_)
    · cases h3 : (w.kind == 3) with
      | true =>
        simp +contextual (disch := omega) only [go_sem, Nat.reduceEqDiff, ↓reduceIte, Int.reduceEq, Int.reduceNeg, wrap_add, h3]
        refine by_ret (s_NameOk_ret _ w.key hk) ?_
        simp +contextual (disch := omega) only [go_sem, Nat.reduceEqDiff, ↓reduceIte, Int.reduceEq, Int.reduceNeg, wrap_add, watchOk, watchKey, h1, h2, h3]
      | false => simp +contextual (disch := omega) only [go_sem, Nat.reduceEqDiff, ↓reduceIte, Int.reduceEq, Int.reduceNeg, wrap_add, h3, watchOk, watchKey, h1, h2]
    · simp +contextual (disch := omega) only [go_sem, Nat.reduceEqDiff, ↓reduceIte, Int.reduceEq, Int.reduceNeg, wrap_add, watchOk, h1, h2]
  · simp +contextual (disch := omega) only [go_sem, Nat.reduceEqDiff, ↓reduceIte, Int.reduceEq, Int.reduceNeg, wrap_add, watchOk, h1]
theorem i_WatchOk_ret (σ : St) (w : Watch) (ho : w.obj.size ≤ 1099511627776) (hk : w.key.size ≤ 1099511627776) : Ret Try.prog n_i_WatchOk [.agg [gi w.kind, .str w.obj, .str w.key]] σ (.bool (watchOk w)) σ := by
  refine ret_eq ir_i_WatchOk (Nat.le_of_ble_eq_true rfl) trivial ?_
  cases h3 : (w.kind == 3) with
  | true =>
    simp +contextual (disch := omega) only [go_sem, Nat.reduceEqDiff, ↓reduceIte, Int.reduceEq, Int.reduceNeg, wrap_add, F_i_WatchOk, h3]
    refine by_bool (i_NameOk_ret _ w.key hk) (fun h4 => ?_) (fun h4 => ?_)
    · simp +contextual (disch := omega) only [go_sem, Nat.reduceEqDiff, ↓reduceIte, Int.reduceEq, Int.reduceNeg, wrap_add, List.append_nil]
      refine by_bool (i_within_ret _ _ _ _) (fun h1 => ?_) (fun h1 => ?_)
      · simp +contextual (disch := omega) only [go_sem, Nat.reduceEqDiff, ↓reduceIte, Int.reduceEq, Int.reduceNeg, wrap_add, List.append_nil]
        refine by_bool (i_NameOk_ret _ w.obj ho) (fun h2 => ?_) (fun h2 => ?_)
        · simp +contextual (disch := omega) only [go_sem, Nat.reduceEqDiff, ↓reduceIte, Int.reduceEq, Int.reduceNeg, wrap_add, watchOk, watchKey, h1, h2, h3, h4]
        · simp +contextual (disch := omega) only [go_sem, Nat.reduceEqDiff, ↓reduceIte, Int.reduceEq, Int.reduceNeg, wrap_add, watchOk, watchKey, h1, h2, h3, h4]
      · simp +contextual (disch := omega) only [go_sem, Nat.reduceEqDiff, ↓reduceIte, Int.reduceEq, Int.reduceNeg, wrap_add, watchOk, h1]
    · simp +contextual (disch := omega) only [go_sem, Nat.reduceEqDiff, ↓reduceIte, Int.reduceEq, Int.reduceNeg, wrap_add, List.append_nil]
      refine by_bool (i_within_ret _ _ _ _) (fun h1 => ?_) (fun h1 => ?_)
      · simp +contextual (disch := omega) only [go_sem, Nat.reduceEqDiff, ↓reduceIte, Int.reduceEq, Int.reduceNeg, wrap_add, List.append_nil]
        refine by_bool (i_NameOk_ret _ w.obj ho) (fun h2 => ?_) (fun h2 => ?_)
        · simp +contextual (disch := omega) only [go_sem, Nat.reduceEqDiff, ↓reduceIte, Int.reduceEq, Int.reduceNeg, wrap_add, watchOk, watchKey, h1, h2, h3, h4]
        · simp +contextual (disch := omega) only [go_sem, Nat.reduceEqDiff, ↓reduceIte, Int.reduceEq, Int.reduceNeg, wrap_add, watchOk, watchKey, h1, h2, h3, h4]
      · simp +contextual (disch := omega) only [go_sem, Nat.reduceEqDiff, ↓reduceIte, Int.reduceEq, Int.reduceNeg, wrap_add, watchOk, h1]
  | false =>
    simp +contextual (disch := omega) only [go_sem, Nat.reduceEqDiff, ↓reduceIte, Int.reduceEq, Int.reduceNeg, wrap_add, F_i_WatchOk, h3]
    refine by_bool (i_within_ret _ _ _ _) (fun h1 => ?_) (fun h1 => ?_)
    · simp +contextual (disch := omega) only [go_sem, Nat.reduceEqDiff, ↓reduceIte, Int.reduceEq, Int.reduceNeg, wrap_add, List.append_nil]
      refine by_bool (i_NameOk_ret _ w.obj ho) (fun h2 => ?_) (fun h2 => ?_)
      · simp +contextual (disch := omega) only [go_sem, Nat.reduceEqDiff, ↓reduceIte, Int.reduceEq, Int.reduceNeg, wrap_add, watchOk, watchKey, h1, h2, h3]
      · simp +contextual (disch := omega) only [go_sem, Nat.reduceEqDiff, ↓reduceIte, Int.reduceEq, Int.reduceNeg, wrap_add, watchOk, watchKey, h1, h2, h3]
    · simp +contextual (disch := omega) only [go_sem, Nat.reduceEqDiff, ↓reduceIte, Int.reduceEq, Int.reduceNeg, wrap_add, watchOk, h1]
theorem nameOk_size {s : ByteArray} (h : nameOk s = true) : 1 ≤ s.size ∧ s.size ≤ 8 := by
  simp only [nameOk, Bool.and_eq_true] at h
  have := inB_iff.1 h.2; omega
theorem watchOk_iff {w : Watch} (h : watchOk w = true) : (1 ≤ w.kind ∧ w.kind ≤ 4) ∧ w.obj.size ≤ 8 ∧ w.key.size ≤ 8 := by
  simp only [watchOk, Bool.and_eq_true] at h
  obtain ⟨h1, h2, h3⟩ := h
  refine ⟨inB_iff.1 h1, (nameOk_size h2).2, ?_⟩
  unfold watchKey at h3
  split at h3
  · exact (nameOk_size h3).2
  · rw [of_decide_eq_true h3]; decide
def watchTx (w : Watch) : ByteArray := if watchOk w then varTx w.kind ++ (shortTx w.obj ++ shortTx w.key) else ⟨#[]⟩
theorem s_WatchText_ret (σ : St) (w : Watch) (hl : msWatch w ≤ 1099511627776) : Ret Try.prog n_s_WatchText [.agg [gi w.kind, .str w.obj, .str w.key]] σ (.str (watchTx w)) σ := by
  unfold msWatch at hl
  refine ret_eq ir_s_WatchText (Nat.le_of_ble_eq_true rfl) trivial ?_
  simp +contextual (disch := omega) only [go_sem, Nat.reduceEqDiff, ↓reduceIte, Int.reduceEq, Int.reduceNeg, wrap_add, F_s_WatchText]
  refine by_bool (s_WatchOk_ret _ w (by omega) (by omega)) (fun h => ?_) (fun h => ?_)
  · have hw := watchOk_iff h
    obtain ⟨m, hm⟩ : ∃ m : Nat, w.kind = m := ⟨w.kind.toNat, by omega⟩
    have v1 := vb_len5 m (by omega)
    have v2 := vb_len5 w.obj.size (by omega)
    have v3 := vb_len5 w.key.size (by omega)
    simp +contextual (disch := omega) only [go_sem, Nat.reduceEqDiff, ↓reduceIte, Int.reduceEq, Int.reduceNeg, wrap_add, hm]
    refine by_ret (s_l01Var_ret _ m (by omega)) ?_
    simp +contextual (disch := omega) only [go_sem, Nat.reduceEqDiff, ↓reduceIte, Int.reduceEq, Int.reduceNeg, wrap_add, List.append_nil]
    refine by_ret (s_l05Short_ret _ w.obj (by omega)) ?_
    have hle : (vb m).length + ((vb w.obj.size).length + w.obj.size) ≤ 9223372036854775807 := by omega
    simp +contextual (disch := omega) only [go_sem, Nat.reduceEqDiff, ↓reduceIte, Int.reduceEq, Int.reduceNeg, wrap_add, ByteArray.size_append, txt_size, hle]
    refine by_ret (s_l05Short_ret _ w.key (by omega)) ?_
    have hle : (vb m).length + ((vb w.obj.size).length + w.obj.size) + ((vb w.key.size).length + w.key.size) ≤ 9223372036854775807 := by omega
    simp +contextual (disch := omega) only [go_sem, Nat.reduceEqDiff, ↓reduceIte, Int.reduceEq, Int.reduceNeg, wrap_add, ByteArray.size_append, txt_size, hle]
    rw [watchTx, if_pos h, hm, varTx_nat (by omega), shortTx, if_pos (by omega), shortTx, if_pos (by omega), ByteArray.append_assoc]
  · simp +contextual (disch := omega) only [go_sem, Nat.reduceEqDiff, ↓reduceIte, Int.reduceEq, Int.reduceNeg, wrap_add, watchTx, h]
theorem i_WatchText_ret (σ : St) (w : Watch) (hl : msWatch w ≤ 1099511627776) : Ret Try.prog n_i_WatchText [.agg [gi w.kind, .str w.obj, .str w.key]] σ (.str (watchTx w)) σ := by
  unfold msWatch at hl
  refine ret_eq ir_i_WatchText (Nat.le_of_ble_eq_true rfl) trivial ?_
  simp +contextual (disch := omega) only [go_sem, Nat.reduceEqDiff, ↓reduceIte, Int.reduceEq, Int.reduceNeg, wrap_add, F_i_WatchText]
  refine by_bool (i_WatchOk_ret _ w (by omega) (by omega)) (fun h => ?_) (fun h => ?_)
  · have hw := watchOk_iff h
    have v1 := varTx_size w.kind
    have v2 := shortTx_size w.obj
    have v3 := shortTx_size w.key
    have c1 : catS [varTx w.kind] = varTx w.kind := ByteArray.empty_append
    have c2 : catS [shortTx w.obj, shortTx w.key] = shortTx w.obj ++ shortTx w.key := by show ⟨#[]⟩ ++ shortTx w.obj ++ shortTx w.key = _; rw [show (⟨#[]⟩ : ByteArray) ++ shortTx w.obj = shortTx w.obj from ByteArray.empty_append]
    simp +contextual (disch := omega) only [go_sem, Nat.reduceEqDiff, ↓reduceIte, Int.reduceEq, Int.reduceNeg, wrap_add, List.append_nil]
    refine by_ret (i_varTexts_ret _ _ [w.kind] (RS_lit _ [w.kind] rfl rfl rfl) (by simp)) ?_
    simp +contextual (disch := omega) only [go_sem, Nat.reduceEqDiff, ↓reduceIte, Int.reduceEq, Int.reduceNeg, wrap_add, c1]
    refine by_ret (i_shortTexts_ret _ _ [w.obj, w.key] (RS_lit _ [w.obj, w.key] rfl rfl rfl) (by simp) (by simp; omega)) ?_
    have hle : (varTx w.kind).size + ((shortTx w.obj).size + (shortTx w.key).size) ≤ 9223372036854775807 := by omega
    simp +contextual (disch := omega) only [go_sem, Nat.reduceEqDiff, ↓reduceIte, Int.reduceEq, Int.reduceNeg, wrap_add, c2, ByteArray.size_append, hle, watchTx, h, pre_app pre2]
  · simp +contextual (disch := omega) only [go_sem, Nat.reduceEqDiff, ↓reduceIte, Int.reduceEq, Int.reduceNeg, wrap_add, watchTx, h]
end Go.Proofs.Ytopannfdcikgiaa.Sy

/- Numbers and texts read: plain. -/
namespace Go.Proofs.Ytopannfdcikgiaa.Sy
open Go Go.RowKit
set_option linter.unusedSimpArgs false
set_option linter.unusedVariables false
/-- What digits of seven bits come to, the lowest first. -/
def vval : List UInt8 → Nat
  | [] => 0
  | b :: r => b.toNat % 128 + 128 * vval r
/-- The digits of a number, at most so many: all above 127 but the last. -/
def rdv : Nat → List UInt8 → Option (List UInt8)
  | 0, _ => none
  | _, [] => none
  | f + 1, b :: r => if b.toNat ≤ 127 then some [b] else (rdv f r).map (b :: ·)
theorem rdv_app : ∀ {pre r : List UInt8} {f : Nat}, (∀ b ∈ pre, 127 < b.toNat) → pre.length ≤ f → rdv f (pre ++ r) = (rdv (f - pre.length) r).map (pre ++ ·)
  | [], r, f, _, _ => by simp
  | b :: pre, r, 0, _, h => by simp at h
  | b :: pre, r, f + 1, h, hl => by
    have hb : ¬ b.toNat ≤ 127 := by have := h b List.mem_cons_self; omega
    simp only [List.cons_append, rdv, if_neg hb, List.length_cons, Nat.add_sub_add_right]
    rw [rdv_app (fun x hx => h x (List.mem_cons_of_mem _ hx)) (by simpa using hl), Option.map_map]
    rfl
theorem vval_app : ∀ (pre r : List UInt8), vval (pre ++ r) = vval pre + 128 ^ pre.length * vval r
  | [], r => by simp [vval]
  | b :: pre, r => by
    simp only [List.cons_append, vval, List.length_cons, vval_app pre r, Nat.pow_succ, Nat.mul_add]
    rw [← Nat.mul_assoc, Nat.mul_comm 128 (128 ^ pre.length)]
    omega
theorem vval_lt : ∀ (l : List UInt8), vval l < 128 ^ l.length
  | [] => by simp [vval]
  | b :: r => by
    have := vval_lt r
    simp only [vval, List.length_cons, Nat.pow_succ]
    omega
theorem rdv_len : ∀ {f : Nat} {l ds : List UInt8}, rdv f l = some ds → ds.length ≤ f ∧ ds ≠ [] ∧ ds <+: l
  | 0, _, _, h => by simp [rdv] at h
  | f + 1, [], _, h => by simp [rdv] at h
  | f + 1, b :: r, ds, h => by
    simp only [rdv] at h
    split at h
    · injection h with h; subst h; exact ⟨by simp, by simp, ⟨r, rfl⟩⟩
    · obtain ⟨d, hd, rfl⟩ := Option.map_eq_some_iff.1 h
      obtain ⟨h1, h2, t, h3⟩ := rdv_len hd
      exact ⟨by simp; omega, by simp, ⟨t, by rw [← h3]; rfl⟩⟩
def nats (l : List UInt8) : List Int := l.map fun b => ((b.toNat : Nat) : Int)
/-- A number is written in one way alone. -/
theorem rdv_vb : ∀ {f : Nat} {l ds : List UInt8}, rdv f l = some ds → (vb (vval ds) = nats ds ↔ (ds.length = 1 ∨ ds.getLast? ≠ some 0))
  | 0, _, _, h => by simp [rdv] at h
  | f + 1, [], _, h => by simp [rdv] at h
  | f + 1, b :: r, ds, h => by
    simp only [rdv] at h
    split at h
    · rename_i hb
      injection h with h; subst h
      have e : vval [b] = b.toNat := by simp only [vval]; omega
      rw [e, vb, if_neg (by omega)]
      simp [nats]
    · rename_i hb
      obtain ⟨d, hd, rfl⟩ := Option.map_eq_some_iff.1 h
      have ih := rdv_vb hd
      obtain ⟨_, hne, _⟩ := rdv_len hd
      have h8 := b.toNat_lt
      have hl : (b :: d).getLast? = d.getLast? := by
        cases d with
        | nil => exact absurd rfl hne
        | cons x d => simp [List.getLast?_cons_cons]
      have h1 : (b :: d).length ≠ 1 := by cases d with | nil => exact absurd rfl hne | cons x d => simp
      rw [hl]
      simp only [h1, false_or]
      have hv : vval (b :: d) = b.toNat % 128 + 128 * vval d := rfl
      rcases Nat.eq_zero_or_pos (vval d) with h0 | h0
      · -- no digits behind: written otherwise
        have hlast : d.getLast? = some 0 := by
          have key : ∀ {f : Nat} {l d : List UInt8}, rdv f l = some d → vval d = 0 → d.getLast? = some 0 := by
            intro f
            induction f with
            | zero => intro l d h; simp [rdv] at h
            | succ f ihf =>
              intro l d h h0
              cases l with
              | nil => simp [rdv] at h
              | cons x l =>
                simp only [rdv] at h
                split at h
                · rename_i hx
                  injection h with h; subst h
                  simp only [vval] at h0
                  have : x.toNat = 0 := by omega
                  have : x = 0 := UInt8.toNat_inj.1 this
                  subst this; rfl
                · obtain ⟨d', hd', rfl⟩ := Option.map_eq_some_iff.1 h
                  obtain ⟨_, hne', _⟩ := rdv_len hd'
                  simp only [vval] at h0
                  have := ihf hd' (by omega)
                  cases d' with
                  | nil => exact absurd rfl hne'
                  | cons y d' => rw [List.getLast?_cons_cons]; exact this
          exact key hd h0
        constructor
        · intro hvb
          rw [hv, h0, Nat.mul_zero, Nat.add_zero, vb, if_neg (by omega)] at hvb
          have := congrArg List.length hvb
          simp [nats] at this
          exact absurd this hne
        · intro h; exact absurd hlast h
      · have hgt : vval (b :: d) > 127 := by rw [hv]; omega
        rw [vb, if_pos hgt, hv]
        have e1 : (b.toNat % 128 + 128 * vval d) % 128 + 128 = b.toNat := by omega
        have e2 : (b.toNat % 128 + 128 * vval d) / 128 = vval d := by omega
        rw [e1, e2]
        have e3 : nats (b :: d) = ((b.toNat : Nat) : Int) :: nats d := rfl
        rw [e3, List.cons.injEq]
        simp only [true_and]
        rw [ih]
        constructor
        · rintro (h | h)
          · cases d with
            | nil => exact absurd rfl hne
            | cons x d =>
              cases d with
              | nil =>
                intro e
                simp at e
                subst e
                simp [vval] at h0
              | cons y d => simp at h
          · exact h
        · exact .inr
theorem txt_nats (l : List UInt8) : txt (nats l) = ⟨l.toArray⟩ := by
  unfold txt nats
  rw [List.map_map]
  congr 1
  congr 1
  conv => rhs; rw [← List.map_id l]
  refine List.map_congr_left fun b _ => ?_
  simp
def U8 (l : List Int) : Prop := ∀ x ∈ l, 0 ≤ x ∧ x < 256
theorem nats_u8 (l : List UInt8) : U8 (nats l) := fun x hx => by
  obtain ⟨b, _, rfl⟩ := List.mem_map.1 hx
  have := b.toNat_lt
  omega
theorem vb_u8 (n : Nat) : U8 (vb n) := by
  induction n using Nat.strongRecOn with
  | _ n ih =>
    intro x hx
    rw [vb] at hx
    split at hx
    · rcases List.mem_cons.1 hx with rfl | hx
      · omega
      · exact ih (n / 128) (by omega) x hx
    · simp at hx; omega
theorem txt_inj_u8 {a b : List Int} (ha : U8 a) (hb : U8 b) (h : txt a = txt b) : a = b := by
  have key : ∀ {a b : List Int}, U8 a → U8 b → (a.map fun n => UInt8.ofNat n.toNat) = (b.map fun n => UInt8.ofNat n.toNat) → a = b := by
    intro a
    induction a with
    | nil => intro b _ _ h; cases b with
      | nil => rfl
      | cons y b => simp at h
    | cons x a ih =>
      intro b ha hb h
      cases b with
      | nil => simp at h
      | cons y b =>
        simp only [List.map_cons, List.cons.injEq] at h
        have hx := ha x List.mem_cons_self
        have hy := hb y List.mem_cons_self
        have e := congrArg UInt8.toNat h.1
        simp only [UInt8.toNat_ofNat'] at e
        rw [ih (fun z hz => ha z (List.mem_cons_of_mem _ hz)) (fun z hz => hb z (List.mem_cons_of_mem _ hz)) h.2]
        congr 1
        omega
  refine key ha hb ?_
  have := congrArg bl h
  exact this
/-- A number of a text, and the place behind it. -/
def readVar (t : ByteArray) (p : Nat) : Option (Nat × Nat) := (rdv 5 ((bl t).drop p)).bind fun ds => if vval ds ≤ 1000000000 ∧ (ds.length = 1 ∨ ds.getLast? ≠ some 0) then some (vval ds, p + ds.length) else none
def readVarI (t : ByteArray) (p : Int) : Option (Nat × Nat) := if inB p 0 t.size then readVar t p.toNat else none
def cutT (t : ByteArray) (a b : Nat) : ByteArray := t.extract a b
theorem bl_ext {s t : ByteArray} (h : bl s = bl t) : s = t := ByteArray.ext (Array.ext' h)
theorem bl_mk (l : List UInt8) : bl ⟨l.toArray⟩ = l := rfl
theorem bl_append (s t : ByteArray) : bl (s ++ t) = bl s ++ bl t := by
  unfold bl; rw [ByteArray.data_append, Array.toList_append]
theorem bl_cut (t : ByteArray) (a b : Nat) : bl (t.extract a b) = ((bl t).drop a).take (b - a) := by
  unfold bl
  rw [ByteArray.data_extract, Array.toList_extract]
  first | done | rfl
theorem readVar_spec {t : ByteArray} {p n q : Nat} (h : readVar t p = some (n, q)) : n ≤ 1000000000 ∧ p < q ∧ q ≤ p + 5 ∧ q ≤ t.size ∧ t.extract p q = txt (vb n) := by
  unfold readVar at h
  obtain ⟨ds, hds, h⟩ := Option.bind_eq_some_iff.1 h
  split at h
  · rename_i hc
    injection h with h
    injection h with h1 h2
    subst h1 h2
    obtain ⟨hl, hne, r, hr⟩ := rdv_len hds
    have hpos : 0 < ds.length := List.length_pos_iff.2 hne
    have hsz : p + ds.length ≤ t.size := by
      have := congrArg List.length hr
      rw [List.length_append, List.length_drop, bl_length] at this
      omega
    refine ⟨hc.1, by omega, by omega, hsz, ?_⟩
    rw [(rdv_vb hds).2 hc.2, txt_nats]
    apply bl_ext
    rw [bl_cut, bl_mk ds, ← hr, Nat.add_sub_cancel_left, List.take_left]
  · cases h
/-- A text of a text, and the place behind it. -/
def readShort (t : ByteArray) (p : Nat) : Option (ByteArray × Nat) := (readVar t p).bind fun r => if r.1 ≤ 20000 ∧ r.1 + r.2 ≤ t.size then some (t.extract r.2 (r.2 + r.1), r.2 + r.1) else none
def readShortI (t : ByteArray) (p : Int) : Option (ByteArray × Nat) := if inB p 0 t.size then readShort t p.toNat else none
theorem extract_split (t : ByteArray) {a b c : Nat} (h1 : a ≤ b) (h2 : b ≤ c) : t.extract a c = t.extract a b ++ t.extract b c := by
  apply bl_ext
  rw [bl_append, bl_cut, bl_cut, bl_cut]
  rw [show c - a = (b - a) + (c - b) by omega, List.take_add, List.drop_drop, show a + (b - a) = b by omega]
theorem extract_size' (t : ByteArray) {a b : Nat} (h2 : b ≤ t.size) : (t.extract a b).size = b - a := by
  rw [← bl_length, bl_cut, List.length_take, List.length_drop, bl_length]; omega
theorem readShort_spec {t s : ByteArray} {p q : Nat} (h : readShort t p = some (s, q)) : s.size ≤ 20000 ∧ p < q ∧ q ≤ t.size ∧ t.extract p q = shortTx s := by
  unfold readShort at h
  obtain ⟨⟨n, m⟩, hv, h⟩ := Option.bind_eq_some_iff.1 h
  simp only at h
  split at h
  · rename_i hc
    injection h with h
    injection h with h1 h2
    subst h1 h2
    obtain ⟨h1, h2, h3, h4, h5⟩ := readVar_spec hv
    have hsz : (t.extract m (m + n)).size = n := by rw [extract_size' t (by omega)]; omega
    refine ⟨by omega, by omega, by omega, ?_⟩
    rw [extract_split t (b := m) (by omega) (by omega), h5, shortTx, if_pos (by omega), hsz]
  · cases h
/-- A watch read. -/
def readWatch (t : ByteArray) : Option Watch := (readVar t 0).bind fun k => (readShort t k.2).bind fun o => (readShort t o.2).bind fun y => if watchTx ⟨k.1, o.1, y.1⟩ = t then some ⟨k.1, o.1, y.1⟩ else none
theorem readWatch_end {t : ByteArray} {k a b c : Nat} {o y : ByteArray} (h1 : readVar t 0 = some (k, a)) (h2 : readShort t a = some (o, b)) (h3 : readShort t b = some (y, c)) (h : watchTx ⟨k, o, y⟩ = t) : watchOk ⟨k, o, y⟩ = true ∧ c = t.size := by
  obtain ⟨k1, k2, k3, k4, k5⟩ := readVar_spec h1
  obtain ⟨o1, o2, o3, o4⟩ := readShort_spec h2
  obtain ⟨y1, y2, y3, y4⟩ := readShort_spec h3
  cases hw : watchOk ⟨k, o, y⟩ with
  | false =>
    rw [watchTx, hw] at h
    have : t.size = 0 := by rw [← h]; rfl
    omega
  | true =>
    refine ⟨rfl, ?_⟩
    rw [watchTx, if_pos hw] at h
    have e : t.extract 0 c = t := by
      rw [extract_split t (b := a) (by omega) (by omega), extract_split t (a := a) (b := b) (by omega) (by omega), k5, o4, y4, ← varTx_nat k1]
      exact h
    have := congrArg ByteArray.size e
    rw [extract_size' t y3] at this
    omega
end Go.Proofs.Ytopannfdcikgiaa.Sy

/- The cursor of a draw: a thing of our own that may move. -/
namespace Go.Proofs.Ytopannfdcikgiaa.Sy
open Go Go.RowKit
set_option linter.unusedSimpArgs false
set_option linter.unusedVariables false
def crs (c v : GV) (n : Nat) : Thg := ⟨fun σ fp => ∃ g i h, c = .ptr g 0 ∧ fp = [g] ∧ i ≤ n ∧ bk σ g = some (.row 1 [v, gi (i : Nat), gi h]), fun ⟨g, i, h, h1, h2, h3, h4⟩ hf => ⟨g, i, h, h1, h2, h3, by rw [hf g (by rw [h2]; exact List.mem_cons_self)]; exact h4⟩⟩
theorem st_blk {n z g off : Nat} {σ : St} {cs : List GV} {x : GV} (hB : bk σ g = some (.row z cs)) (h1 : off + n ≤ cs.length) (h2 : 0 < n) (h3 : x.cells.length = n) : stG n σ (.ptr g off) x = some (.tup [], σ.set g (some (.row z (splice cs off x.cells)))) := by
  simp only [stG, bk_some.1 hB]
  rw [if_pos ⟨h1, h2, h3⟩]
theorem bk_set {σ : St} {g z : Nat} {cs cs' : List GV} (hB : bk σ g = some (.row z cs)) : bk (σ.set g (some (.row z cs'))) g = some (.row z cs') := bk_some.2 (by rw [List.getElem?_set_self (bk_lt hB)])
theorem rd_blk {σ : St} {g z : Nat} {cs : List GV} (hB : bk σ g = some (.row z cs)) : rdB σ g = some cs := by
  unfold rdB; rw [bk_some.1 hB]; rfl
theorem byte_at {σ : St} {v : GV} {l : List Int} (h : RS pB.kd σ v l) {i : Nat} (hi : i < l.length) : iadG 1 v (some i) = some (atz 1 v i) ∧ ldG false 1 σ (atz 1 v i) = some (.int .u8 l[i]) := ⟨RdN.iad h hi, RdN.ld h hi (by decide)⟩
theorem shr_ex (b : Int) (hb : 0 ≤ b) : ∃ f : Int → Int, ∀ a, binG .shr (.int .i64 a) (.int .u64 b) = some (.int .i64 (f a)) := ⟨fun a => a.fdiv (2 ^ min b.toNat IntKind.i64.bits), fun a => by simp only [binG, shiftG]; rw [if_neg (by omega)]⟩
theorem xor_ex : ∃ f : Int → Int → Int, ∀ a b, binG .xor (.int .i64 a) (.int .i64 b) = some (.int .i64 (f a b)) := ⟨fun a b => IntKind.i64.wrap (BitVec.ofInt IntKind.i64.bits a ^^^ BitVec.ofInt IntKind.i64.bits b).toNat, fun a b => rfl⟩
theorem and_ex (m : Nat) (hm : m < 2 ^ 62) : ∃ f : Int → Int, (∀ a, binG .and (.int .i64 a) (.int .i64 (m : Nat)) = some (.int .i64 (f a))) ∧ ∀ a, 0 ≤ f a ∧ f a ≤ m := by
  refine ⟨fun a => IntKind.i64.wrap (BitVec.ofInt IntKind.i64.bits a &&& BitVec.ofInt IntKind.i64.bits (m : Nat)).toNat, fun a => rfl, fun a => ?_⟩
  have h1 : (BitVec.ofInt IntKind.i64.bits a &&& BitVec.ofInt IntKind.i64.bits (m : Nat)).toNat ≤ m := by
    rw [BitVec.toNat_and]
    refine Nat.le_trans Nat.and_le_right ?_
    rw [BitVec.toNat_ofInt]
    show ((m : Int) % ((2 ^ 64 : Nat) : Int)).toNat ≤ m
    omega
  show 0 ≤ IntKind.i64.wrap _ ∧ IntKind.i64.wrap _ ≤ _
  rw [wrap_add (by omega) (by omega)]
  omega
@[go_sem] theorem bit_tup {l : List GV} : (GV.tup l).bit = none := (rfl)
/-- Memory only grows. -/
theorem vcOps_len {P : Program} {D : Bool} {os : List Op1} : ∀ {K : Env → St → Prop} {env : Env} {σ : St}, vcOps D P os K env σ → vcOps D P os (fun env' σ' => K env' σ' ∧ σ.length ≤ σ'.length) env σ := by
  induction os with
  | nil => intro K env σ h; exact ⟨h, Nat.le_refl _⟩
  | cons o r ih =>
    intro K env σ h
    simp only [vcOps] at h ⊢
    split at h
    · rename_i hw
      rw [if_pos hw]
      obtain ⟨v, σ', hs, hp, hk⟩ := h
      refine ⟨v, σ', hs, hp, vcOps_mono (ih hk) fun env' σ1 hq => ⟨hq.1, ?_⟩⟩
      have := step_len hs
      omega
    · rename_i hw
      rw [if_neg hw]
      exact ih h
theorem vc_len {P : Program} {d : Cd} : ∀ {Q : Ex → Env → St → Prop} {env : Env} {σ : St}, vc P d Q env σ → vc P d (fun e env' σ' => Q e env' σ' ∧ σ.length ≤ σ'.length) env σ := by
  induction d with
  | skip => intro Q env σ h; exact ⟨h, Nat.le_refl _⟩
  | reg ops => intro Q env σ h; exact vcOps_len h
  | drw xs ys =>
    intro Q env σ h
    refine vcOps_mono (vcOps_len h) fun env1 σ1 h1 => vcOps_mono (vcOps_len h1.1) fun env2 σ2 h2 => ⟨h2.1, ?_⟩
    have := h1.2
    have := h2.2
    omega
  | seq a b iha ihb =>
    intro Q env σ h
    refine vc_mono (d := a) (iha h) fun e env1 σ1 he => ?_
    cases e with
    | nxt => exact vc_mono (ihb he.1) fun e env2 σ2 h2 => ⟨h2.1, Nat.le_trans he.2 h2.2⟩
    | ext j => exact he
    | ret => exact he
  | cnd c a b iha ihb =>
    intro Q env σ h
    obtain ⟨t, ht, h1, h2⟩ := h
    exact ⟨t, ht, fun e => iha (h1 e), fun e => ihb (h2 e)⟩
  | blk id a ih =>
    intro Q env σ h
    refine vc_mono (d := a) (ih h) fun e env1 σ1 he => ?_
    cases e with
    | nxt => exact he
    | ext j =>
      obtain ⟨h1, h2⟩ := he
      simp only at h1 ⊢
      split at h1
      · rename_i hj; rw [if_pos hj]; exact ⟨h1, h2⟩
      · rename_i hj; rw [if_neg hj]; exact ⟨h1, h2⟩
    | ret => exact he
  | lop a ih =>
    intro Q env σ h
    obtain ⟨I, μ, hI, hs⟩ := h
    refine ⟨fun env1 σ1 => I env1 σ1 ∧ σ.length ≤ σ1.length, μ, ⟨hI, Nat.le_refl _⟩, fun env1 σ1 hi => vc_mono (ih (hs env1 σ1 hi.1)) fun e env2 σ2 he => ?_⟩
    cases e with
    | nxt => exact ⟨⟨he.1.1, Nat.le_trans hi.2 he.2⟩, he.1.2⟩
    | ext j => exact ⟨he.1, Nat.le_trans hi.2 he.2⟩
    | ret => exact ⟨he.1, Nat.le_trans hi.2 he.2⟩
  | ext id => intro Q env σ h; exact ⟨h, Nat.le_refl _⟩
  | ret => intro Q env σ h; exact ⟨h, Nat.le_refl _⟩
theorem ret_dr {P : Program} {f : Nat} {F : Fn1} {args : List GV} {σ : St} {Post : GV → St → Prop} (hF : compFn P f = some F) (hl : args.length ≤ F.n)
    (h : vc P F.c (fun e env τ => isOut e = true ∧ ∃ r, resG env τ F.rs = some r ∧ Post r τ) (env0 args) σ) : ∃ r τ, Ret P f args σ r τ ∧ Post r τ :=
  ret_mut hF hl (vc_mono (vc_len h) fun e env τ he => ⟨he.1.1, by obtain ⟨⟨_, r, h1, h2⟩, h3⟩ := he; exact ⟨r, h1, h3, h2⟩⟩)
theorem Ret.le {P : Program} {f : Nat} {args : List GV} {σ τ : St} {r : GV} (h : Ret P f args σ r τ) : σ.length ≤ τ.length := h.2.1
/-- A cursor moves. -/
theorem Hp.crs {σ τ : St} {rs : List Thg} (H : Hp σ τ rs) {k : Nat} {c v : GV} {n : Nat} (hk : rs[k]? = some (crs c v n)) : ∃ (g i : Nat) (h : Int), c = .ptr g 0 ∧ i ≤ n ∧ bk τ g = some (.row 1 [v, gi i, gi h]) ∧ ∀ (i' : Nat) (h' : Int), i' ≤ n → Hp σ (τ.set g (some (.row 1 [v, gi i', gi h']))) rs := by
  obtain ⟨a, ⟨g, i, h, rfl, rfl, hi, hB⟩, hnd, hbd, ht⟩ := (H.pick k hk).turn
  refine ⟨g, i, h, rfl, hi, hB, fun i' h' hi' => ?_⟩
  have := Hp.unpick (i := k) (ht (τ' := τ.set g (some (.row 1 [v, gi i', gi h']))) (r' := Sy.crs (.ptr g 0) v n) (a' := [g]) ⟨by simp, fun g' h => .inl h, by simp, fun g' h h' => bk_set_ne fun e => h' (by rw [e]; exact List.mem_cons_self)⟩ ⟨g, i', h', rfl, rfl, hi', bk_set hB⟩) (List.getElem?_eq_some_iff.1 hk).1
  obtain ⟨h1, h2⟩ := List.getElem?_eq_some_iff.1 hk
  rw [← h2, List.set_getElem_self] at this
  exact this
theorem Hp.ptCur {σ τ : St} {rs : List Thg} {g n : Nat} {v : GV} {h : Int} (H : Hp σ τ (Sy.pt 1 g [v, gi 0, gi h] :: rs)) : Hp σ τ (Sy.crs (.ptr g 0) v n :: rs) :=
  H.conv fun fp ⟨h1, h2⟩ => ⟨g, 0, h, rfl, h1, Nat.zero_le _, h2⟩
end Go.Proofs.Ytopannfdcikgiaa.Sy

/- Contracts: numbers and texts read; watches read. -/
namespace Go.Proofs.Ytopannfdcikgiaa.Sy
open Go Go.RowKit
set_option linter.unusedSimpArgs false
set_option linter.unusedVariables false
set_option maxRecDepth 4000
abbrev n_s_ReadVar : Nat := 88
def F_s_ReadVar : Fn1 := ⟨58, [.t 4, .t 5, .t 6], (.seq (.reg [o 4 (.mov (.k (.int .i64 0))), o 5 (.mov (.k (.int .i64 0))), o 6 (.mov (.k (.bool false)))]) (.seq (.seq (.reg [o 10 (.mov (.t 1)), o 11 (.mov (.t 0)), o 12 (.len true (.t 11)), o 13 (.call 62 [(.t 10), (.k (.int .i64 0)), (.t 12)]), o 14 (.un .not (.t 13))]) (.cnd (.t 14) (.seq (.reg [o 4 (.mov (.k (.int .i64 0))), o 5 (.mov (.k (.int .i64 0))), o 6 (.mov (.k (.bool false)))]) .ret) .skip)) (.seq (.reg [o 7 (.mov (.k (.int .i64 0)))]) (.seq (.reg [o 8 (.mov (.k (.int .i64 1)))]) (.seq (.seq (.reg [o 15 (.mov (.t 1)), o 9 (.mov (.t 15))]) (.blk 0 (.lop (.seq (.seq (.reg [o 16 (.mov (.t 9)), o 17 (.mov (.t 0)), o 18 (.len true (.t 17)), o 19 (.bin .lss (.t 16) (.t 18)), o 20 (.mov (.t 19)), og 21 20 true (.mov (.t 9)), og 22 20 true (.mov (.t 1)), og 23 20 true (.bin .add (.t 22) (.k (.int .i64 5))), og 24 20 true (.bin .lss (.t 21) (.t 23)), o 25 (.pick (.t 20) (.t 24) (.k (.bool false)))]) (.cnd (.t 25) .skip (.ext 0))) (.seq (.blk 1 (.seq (.reg [o 28 (.mov (.t 7)), o 29 (.mov (.t 0)), o 30 (.mov (.t 9)), o 31 (.idx (.t 29) (.t 30)), o 32 (.cvi .i64 (.t 31)), o 33 (.bin .rem (.t 32) (.k (.int .i64 128))), o 34 (.mov (.t 8)), o 35 (.bin .mul (.t 33) (.t 34)), o 36 (.bin .add (.t 28) (.t 35)), o 7 (.mov (.t 36))]) (.seq (.reg [o 37 (.mov (.t 8)), o 38 (.bin .mul (.t 37) (.k (.int .i64 128))), o 8 (.mov (.t 38))]) (.seq (.reg [o 39 (.mov (.t 0)), o 40 (.mov (.t 9)), o 41 (.idx (.t 39) (.t 40)), o 42 (.bin .lss (.t 41) (.k (.int .u8 128)))]) (.cnd (.t 42) (.seq (.seq (.drw [] [o 43 (.mov (.t 7)), o 44 (.bin .gtr (.t 43) (.k (.int .i64 1000000000))), o 45 (.mov (.t 44)), og 46 45 false (.mov (.t 7)), og 47 45 false (.call 71 [(.t 46)]), og 48 45 false (.mov (.t 0)), og 49 45 false (.mov (.t 1)), og 50 45 false (.mov (.t 9)), og 51 45 false (.bin .add (.t 50) (.k (.int .i64 1))), og 52 45 false (.cutS (.t 48) (some (.t 49)) (some (.t 51))), og 53 45 false (.bin .neq (.t 47) (.t 52)), o 54 (.pick (.t 45) (.k (.bool true)) (.t 53))]) (.cnd (.t 54) (.seq (.reg [o 4 (.mov (.k (.int .i64 0))), o 5 (.mov (.k (.int .i64 0))), o 6 (.mov (.k (.bool false)))]) .ret) .skip)) (.seq (.reg [o 55 (.mov (.t 7)), o 56 (.mov (.t 9)), o 57 (.bin .add (.t 56) (.k (.int .i64 1))), o 4 (.mov (.t 55)), o 5 (.mov (.t 57)), o 6 (.mov (.k (.bool true)))]) .ret)) .skip))))) (.reg [o 26 (.mov (.t 9)), o 27 (.bin .add (.t 26) (.k (.int .i64 1))), o 9 (.mov (.t 27))])))))) (.seq (.reg [o 4 (.mov (.k (.int .i64 0))), o 5 (.mov (.k (.int .i64 0))), o 6 (.mov (.k (.bool false)))]) .ret))))))⟩
theorem ir_s_ReadVar : compFn Try.prog n_s_ReadVar = some F_s_ReadVar := by kernel_rfl
abbrev n_i_ReadVar : Nat := 118
def F_i_ReadVar : Fn1 := ⟨57, [.t 4, .t 5, .t 6], (.seq (.reg [o 4 (.mov (.k (.int .i64 0))), o 5 (.mov (.k (.int .i64 0))), o 6 (.mov (.k (.bool false)))]) (.seq (.seq (.reg [o 10 (.mov (.t 1)), o 11 (.mov (.t 0)), o 12 (.len true (.t 11)), o 13 (.call 65 [(.t 10), (.k (.int .i64 0)), (.t 12)]), o 14 (.un .not (.t 13))]) (.cnd (.t 14) (.seq (.reg [o 4 (.mov (.k (.int .i64 0))), o 5 (.mov (.k (.int .i64 0))), o 6 (.mov (.k (.bool false)))]) .ret) .skip)) (.seq (.reg [o 7 (.mov (.k (.int .i64 0)))]) (.seq (.seq (.reg [o 8 (.mov (.k (.int .i64 0)))]) (.blk 0 (.lop (.seq (.seq (.reg [o 15 (.mov (.t 8)), o 16 (.bin .lss (.t 15) (.k (.int .i64 5))), o 17 (.mov (.t 16)), og 18 17 true (.mov (.t 1)), og 19 17 true (.mov (.t 8)), og 20 17 true (.bin .add (.t 18) (.t 19)), og 21 17 true (.mov (.t 0)), og 22 17 true (.len true (.t 21)), og 23 17 true (.bin .lss (.t 20) (.t 22)), o 24 (.pick (.t 17) (.t 23) (.k (.bool false)))]) (.cnd (.t 24) .skip (.ext 0))) (.seq (.blk 1 (.seq (.reg [o 27 (.mov (.t 0)), o 28 (.mov (.t 1)), o 29 (.mov (.t 8)), o 30 (.bin .add (.t 28) (.t 29)), o 31 (.idx (.t 27) (.t 30)), o 32 (.cvi .i64 (.t 31)), o 9 (.mov (.t 32))]) (.seq (.reg [o 33 (.mov (.t 7)), o 34 (.mov (.t 9)), o 35 (.bin .rem (.t 34) (.k (.int .i64 128))), o 36 (.mov (.t 8)), o 37 (.bin .mul (.k (.int .i64 7)) (.t 36)), o 38 (.bin .shl (.t 35) (.t 37)), o 39 (.bin .add (.t 33) (.t 38)), o 7 (.mov (.t 39))]) (.seq (.seq (.reg [o 40 (.mov (.t 9)), o 41 (.bin .gtr (.t 40) (.k (.int .i64 127)))]) (.cnd (.t 41) (.ext 1) .skip)) (.seq (.seq (.reg [o 42 (.mov (.t 8)), o 43 (.bin .gtr (.t 42) (.k (.int .i64 0))), o 44 (.mov (.t 43)), og 45 44 true (.mov (.t 9)), og 46 44 true (.bin .eql (.t 45) (.k (.int .i64 0))), o 47 (.pick (.t 44) (.t 46) (.k (.bool false))), o 48 (.mov (.t 47)), og 49 48 false (.mov (.t 7)), og 50 48 false (.bin .gtr (.t 49) (.k (.int .i64 1000000000))), o 51 (.pick (.t 48) (.k (.bool true)) (.t 50))]) (.cnd (.t 51) (.seq (.reg [o 4 (.mov (.k (.int .i64 0))), o 5 (.mov (.k (.int .i64 0))), o 6 (.mov (.k (.bool false)))]) .ret) .skip)) (.seq (.reg [o 52 (.mov (.t 7)), o 53 (.mov (.t 1)), o 54 (.mov (.t 8)), o 55 (.bin .add (.t 53) (.t 54)), o 56 (.bin .add (.t 55) (.k (.int .i64 1))), o 4 (.mov (.t 52)), o 5 (.mov (.t 56)), o 6 (.mov (.k (.bool true)))]) .ret)))))) (.reg [o 25 (.mov (.t 8)), o 26 (.bin .add (.t 25) (.k (.int .i64 1))), o 8 (.mov (.t 26))])))))) (.seq (.reg [o 4 (.mov (.k (.int .i64 0))), o 5 (.mov (.k (.int .i64 0))), o 6 (.mov (.k (.bool false)))]) .ret)))))⟩
theorem ir_i_ReadVar : compFn Try.prog n_i_ReadVar = some F_i_ReadVar := by kernel_rfl
abbrev n_s_ReadShort : Nat := 89
def F_s_ReadShort : Fn1 := ⟨40, [.t 4, .t 5, .t 6], (.seq (.reg [o 4 (.mov (.k (.str ⟨#[]⟩))), o 5 (.mov (.k (.int .i64 0))), o 6 (.mov (.k (.bool false)))]) (.seq (.reg [o 11 (.mov (.t 0)), o 12 (.mov (.t 1)), o 13 (.call 88 [(.t 11), (.t 12)]), o 10 (.mov (.t 13)), o 14 (.ext 0 (.t 10)), o 15 (.ext 1 (.t 10)), o 16 (.ext 2 (.t 10)), o 7 (.mov (.t 14)), o 8 (.mov (.t 15)), o 9 (.mov (.t 16))]) (.seq (.seq (.reg [o 17 (.mov (.t 9)), o 18 (.un .not (.t 17)), o 19 (.mov (.t 18)), og 20 19 false (.mov (.t 7)), og 21 19 false (.bin .gtr (.t 20) (.k (.int .i64 20000))), o 22 (.pick (.t 19) (.k (.bool true)) (.t 21)), o 23 (.mov (.t 22)), og 24 23 false (.mov (.t 7)), og 25 23 false (.mov (.t 0)), og 26 23 false (.len true (.t 25)), og 27 23 false (.mov (.t 8)), og 28 23 false (.bin .sub (.t 26) (.t 27)), og 29 23 false (.bin .gtr (.t 24) (.t 28)), o 30 (.pick (.t 23) (.k (.bool true)) (.t 29))]) (.cnd (.t 30) (.seq (.reg [o 4 (.mov (.k (.str ⟨#[]⟩))), o 5 (.mov (.k (.int .i64 0))), o 6 (.mov (.k (.bool false)))]) .ret) .skip)) (.seq (.reg [o 31 (.mov (.t 0)), o 32 (.mov (.t 8)), o 33 (.mov (.t 8)), o 34 (.mov (.t 7)), o 35 (.bin .add (.t 33) (.t 34)), o 36 (.cutS (.t 31) (some (.t 32)) (some (.t 35))), o 37 (.mov (.t 8)), o 38 (.mov (.t 7)), o 39 (.bin .add (.t 37) (.t 38)), o 4 (.mov (.t 36)), o 5 (.mov (.t 39)), o 6 (.mov (.k (.bool true)))]) .ret))))⟩
theorem ir_s_ReadShort : compFn Try.prog n_s_ReadShort = some F_s_ReadShort := by kernel_rfl
abbrev n_i_ReadShort : Nat := 119
def F_i_ReadShort : Fn1 := ⟨40, [.t 4, .t 5, .t 6], (.seq (.reg [o 4 (.mov (.k (.str ⟨#[]⟩))), o 5 (.mov (.k (.int .i64 0))), o 6 (.mov (.k (.bool false)))]) (.seq (.reg [o 11 (.mov (.t 0)), o 12 (.mov (.t 1)), o 13 (.call 118 [(.t 11), (.t 12)]), o 10 (.mov (.t 13)), o 14 (.ext 0 (.t 10)), o 15 (.ext 1 (.t 10)), o 16 (.ext 2 (.t 10)), o 7 (.mov (.t 14)), o 8 (.mov (.t 15)), o 9 (.mov (.t 16))]) (.seq (.seq (.reg [o 17 (.mov (.t 9)), o 18 (.un .not (.t 17)), o 19 (.mov (.t 18)), og 20 19 false (.mov (.t 7)), og 21 19 false (.bin .gtr (.t 20) (.k (.int .i64 20000))), o 22 (.pick (.t 19) (.k (.bool true)) (.t 21)), o 23 (.mov (.t 22)), og 24 23 false (.mov (.t 7)), og 25 23 false (.mov (.t 0)), og 26 23 false (.len true (.t 25)), og 27 23 false (.mov (.t 8)), og 28 23 false (.bin .sub (.t 26) (.t 27)), og 29 23 false (.bin .gtr (.t 24) (.t 28)), o 30 (.pick (.t 23) (.k (.bool true)) (.t 29))]) (.cnd (.t 30) (.seq (.reg [o 4 (.mov (.k (.str ⟨#[]⟩))), o 5 (.mov (.k (.int .i64 0))), o 6 (.mov (.k (.bool false)))]) .ret) .skip)) (.seq (.reg [o 31 (.mov (.t 0)), o 32 (.mov (.t 8)), o 33 (.mov (.t 8)), o 34 (.mov (.t 7)), o 35 (.bin .add (.t 33) (.t 34)), o 36 (.cutS (.t 31) (some (.t 32)) (some (.t 35))), o 37 (.mov (.t 8)), o 38 (.mov (.t 7)), o 39 (.bin .add (.t 37) (.t 38)), o 4 (.mov (.t 36)), o 5 (.mov (.t 39)), o 6 (.mov (.k (.bool true)))]) .ret))))⟩
theorem ir_i_ReadShort : compFn Try.prog n_i_ReadShort = some F_i_ReadShort := by kernel_rfl
abbrev n_impl_scan_number : Nat := 90
def F_impl_scan_number : Fn1 := ⟨35, [.t 2], (.seq (.reg [o 2 (.mov (.k (.int .i64 0)))]) (.seq (.drw [o 7 (.mov (.t 0)), o 8 (.nck (.t 7)), o 9 (.fad 0 (.t 8)), o 10 (.ld false 1 (.t 9)), o 11 (.mov (.t 0)), o 12 (.nck (.t 11)), o 13 (.fad 1 (.t 12)), o 14 (.ld false 1 (.t 13))] [o 15 (.call 118 [(.t 10), (.t 14)]), o 6 (.mov (.t 15)), o 16 (.ext 0 (.t 6)), o 17 (.ext 1 (.t 6)), o 18 (.ext 2 (.t 6)), o 3 (.mov (.t 16)), o 4 (.mov (.t 17)), o 5 (.mov (.t 18))]) (.seq (.seq (.reg [o 19 (.mov (.t 0)), o 20 (.nck (.t 19)), o 21 (.fad 2 (.t 20)), o 22 (.ld false 1 (.t 21)), o 23 (.mov (.t 22)), og 24 23 false (.mov (.t 5)), og 25 23 false (.un .not (.t 24)), o 26 (.pick (.t 23) (.k (.bool true)) (.t 25))]) (.cnd (.t 26) (.seq (.reg [o 27 (.mov (.t 0)), o 28 (.nck (.t 27)), o 29 (.fad 2 (.t 28)), on (.st 1 (.t 29) (.k (.bool true)))]) (.seq (.reg [o 2 (.mov (.k (.int .i64 0)))]) .ret)) .skip)) (.seq (.reg [o 30 (.mov (.t 0)), o 31 (.mov (.t 4)), o 32 (.nck (.t 30)), o 33 (.fad 1 (.t 32)), on (.st 1 (.t 33) (.t 31))]) (.seq (.reg [o 34 (.mov (.t 3)), o 2 (.mov (.t 34))]) .ret)))))⟩
theorem ir_impl_scan_number : compFn Try.prog n_impl_scan_number = some F_impl_scan_number := by kernel_rfl
abbrev n_impl_scan_short : Nat := 91
def F_impl_scan_short : Fn1 := ⟨35, [.t 2], (.seq (.reg [o 2 (.mov (.k (.str ⟨#[]⟩)))]) (.seq (.drw [o 7 (.mov (.t 0)), o 8 (.nck (.t 7)), o 9 (.fad 0 (.t 8)), o 10 (.ld false 1 (.t 9)), o 11 (.mov (.t 0)), o 12 (.nck (.t 11)), o 13 (.fad 1 (.t 12)), o 14 (.ld false 1 (.t 13))] [o 15 (.call 119 [(.t 10), (.t 14)]), o 6 (.mov (.t 15)), o 16 (.ext 0 (.t 6)), o 17 (.ext 1 (.t 6)), o 18 (.ext 2 (.t 6)), o 3 (.mov (.t 16)), o 4 (.mov (.t 17)), o 5 (.mov (.t 18))]) (.seq (.seq (.reg [o 19 (.mov (.t 0)), o 20 (.nck (.t 19)), o 21 (.fad 2 (.t 20)), o 22 (.ld false 1 (.t 21)), o 23 (.mov (.t 22)), og 24 23 false (.mov (.t 5)), og 25 23 false (.un .not (.t 24)), o 26 (.pick (.t 23) (.k (.bool true)) (.t 25))]) (.cnd (.t 26) (.seq (.reg [o 27 (.mov (.t 0)), o 28 (.nck (.t 27)), o 29 (.fad 2 (.t 28)), on (.st 1 (.t 29) (.k (.bool true)))]) (.seq (.reg [o 2 (.mov (.k (.str ⟨#[]⟩)))]) .ret)) .skip)) (.seq (.reg [o 30 (.mov (.t 0)), o 31 (.mov (.t 4)), o 32 (.nck (.t 30)), o 33 (.fad 1 (.t 32)), on (.st 1 (.t 33) (.t 31))]) (.seq (.reg [o 34 (.mov (.t 3)), o 2 (.mov (.t 34))]) .ret)))))⟩
theorem ir_impl_scan_short : compFn Try.prog n_impl_scan_short = some F_impl_scan_short := by kernel_rfl
def rvG : Option (Nat × Nat) → GV
  | none => .tup [gi 0, gi 0, .bool false]
  | some (n, q) => .tup [gi n, gi q, .bool true]
theorem rvG_lt (m : Nat) (r : Option (Nat × Nat)) : vLt m (rvG r) := by
  cases r with
  | none => intro v hv; simp at hv; rcases hv with rfl | rfl | rfl <;> trivial
  | some q => intro v hv; simp at hv; rcases hv with rfl | rfl | rfl <;> trivial
theorem readVar_nil {t : ByteArray} {p k : Nat} {pre : List UInt8} (hp : (bl t).drop p = pre ++ (bl t).drop (p + k)) (hl : pre.length = k) (h7 : ∀ b ∈ pre, 127 < b.toNat) (hk : k ≤ 5) (he : p + k = t.size ∨ k = 5) : readVar t p = none := by
  unfold readVar
  rw [hp, rdv_app h7 (by omega)]
  have : rdv (5 - pre.length) ((bl t).drop (p + k)) = none := by
    rcases he with he | he
    · rw [he, ← bl_length, List.drop_length]
      cases 5 - pre.length <;> rfl
    · rw [hl, he]; rfl
  rw [this]; rfl
theorem readVar_one {t : ByteArray} {p k : Nat} {pre : List UInt8} (hp : (bl t).drop p = pre ++ (bl t).drop (p + k)) (hl : pre.length = k) (h7 : ∀ b ∈ pre, 127 < b.toNat) (hk : k < 5) (hi : p + k < (bl t).length) (hb : (bl t)[p + k].toNat ≤ 127) :
    readVar t p = (if vval (pre ++ [(bl t)[p + k]]) ≤ 1000000000 ∧ (k = 0 ∨ (bl t)[p + k] ≠ 0) then some (vval (pre ++ [(bl t)[p + k]]), p + k + 1) else none) ∧ rdv 5 ((bl t).drop p) = some (pre ++ [(bl t)[p + k]]) := by
  have e : rdv 5 ((bl t).drop p) = some (pre ++ [(bl t)[p + k]]) := by
    rw [hp, rdv_app h7 (by omega), List.drop_eq_getElem_cons hi]
    obtain ⟨f, hf⟩ : ∃ f, 5 - pre.length = f + 1 := ⟨4 - pre.length, by omega⟩
    rw [hf, rdv, if_pos hb]; rfl
  refine ⟨?_, e⟩
  unfold readVar
  rw [e]
  simp only [Option.bind_some, List.length_append, List.length_singleton, hl, List.getLast?_append, List.getLast?_singleton, Option.some_or, ne_eq, Option.some.injEq]
  have : (k + 1 = 1 ∨ ¬(bl t)[p + k] = 0) ↔ (k = 0 ∨ ¬(bl t)[p + k] = 0) := by simp
  simp only [this]
  rw [show p + (k + 1) = p + k + 1 by omega]
theorem drop_step {t : ByteArray} {p k : Nat} {pre : List UInt8} (hp : (bl t).drop p = pre ++ (bl t).drop (p + k)) (hi : p + k < (bl t).length) : (bl t).drop p = (pre ++ [(bl t)[p + k]]) ++ (bl t).drop (p + (k + 1)) := by
  rw [hp, List.drop_eq_getElem_cons hi, List.append_assoc]; rfl
theorem vval_snoc {pre : List UInt8} {b : UInt8} {k : Nat} (hl : pre.length = k) : vval (pre ++ [b]) = vval pre + b.toNat % 128 * 128 ^ k := by
  rw [vval_app, hl]; simp only [vval]; rw [Nat.mul_comm]; simp
theorem pow_bd {k : Nat} (hk : k ≤ 4) : 128 ^ k ≤ 268435456 := by
  have : 128 ^ k ≤ 128 ^ 4 := Nat.pow_le_pow_right (by omega) hk
  exact this
theorem s_ReadVar_ret (σ : St) (t : ByteArray) (p : Int) (ht : t.size ≤ 1099511627776) : Ret Try.prog n_s_ReadVar [.str t, gi p] σ (rvG (readVarI t p)) σ := by
  refine ret_eq ir_s_ReadVar (Nat.le_of_ble_eq_true rfl) (rvG_lt _ _) ?_
  simp +contextual (disch := omega) only [go_sem, Nat.reduceEqDiff, ↓reduceIte, Int.reduceEq, Int.reduceNeg, wrap_add, F_s_ReadVar]
  refine by_bool (s_l01In_ret _ _ _ _) (fun h => ?_) (fun h => ?_)
  rotate_left
  · simp +contextual (disch := omega) only [go_sem, Nat.reduceEqDiff, ↓reduceIte, Int.reduceEq, Int.reduceNeg, wrap_add, List.append_nil]
    simp [readVarI, h, rvG]
  have hpb := inB_iff.1 h
  obtain ⟨p, rfl⟩ : ∃ q : Nat, p = q := ⟨p.toNat, by omega⟩
  have hrv : readVarI t p = readVar t p := by simp [readVarI, h]
  rw [hrv]
  have hbl := bl_length t
  simp +contextual (disch := omega) only [go_sem, Nat.reduceEqDiff, ↓reduceIte, Int.reduceEq, Int.reduceNeg, wrap_add, List.append_nil]
  refine vc_lop (fun m env τ => ∃ (k i v : Nat) (pre : List UInt8) (sc : Nat), m = 5 - k ∧ k ≤ 5 ∧ i = p + k ∧ v = vval pre ∧ env 0 = .str t ∧ env 1 = gi p ∧ env 9 = gi i ∧ env 7 = gi v ∧ env 8 = gi sc ∧ sc = 128 ^ k ∧ pre.length = k ∧ (∀ b ∈ pre, 127 < b.toNat) ∧ (bl t).drop p = pre ++ (bl t).drop (p + k) ∧ σ <+: τ) 5 ⟨0, p, 0, [], 1, rfl, by omega, rfl, rfl, rfl, rfl, rfl, rfl, rfl, rfl, rfl, by simp, by simp, List.prefix_refl _⟩ ?_
  rintro m env τ ⟨k, i, v, pre, sc, rfl, hk, hik, hv, e0, e1, e9, e7, e8, hsc, hl, h7, hd, hp⟩
  have hvl := vval_lt pre
  rw [hl, ← hv] at hvl
  by_cases hc1 : i < t.size
  · have d1 : decide ((i : Int) < (t.size : Int)) = true := decide_eq_true (by omega)
    by_cases hc2 : k < 5
    · have d2 : decide ((i : Int) < (p : Int) + 5) = true := decide_eq_true (by omega)
      have hi : i < (bl t).length := by omega
      have hpw := pow_bd (k := k) (by omega)
      rw [← hsc] at hpw hvl
      have hi' : p + k < (bl t).length := by omega
      have hbi : (bl t)[p + k] = (bl t)[i] := by congr 1; exact hik.symm
      have h8 := u8_lt (bl t)[i]
      obtain ⟨B, hB⟩ : ∃ B, B = (bl t)[i].toNat := ⟨_, rfl⟩
      obtain ⟨r, hr0⟩ : ∃ r, r = B % 128 := ⟨_, rfl⟩
      obtain ⟨q, hq0⟩ : ∃ q, q = r * sc := ⟨_, rfl⟩
      obtain ⟨nv, hnv⟩ : ∃ nv, nv = vval (pre ++ [(bl t)[i]]) := ⟨_, rfl⟩
      have hq : q ≤ 127 * 268435456 := by rw [hq0]; exact Nat.mul_le_mul (by omega) hpw
      have hvs : nv = v + q := by rw [hnv, vval_snoc hl, hq0, hr0, hB, hsc, hv]
      have hix := idx_at hi
      rw [← hB] at hix
      have t1 : ((B : Nat) : Int).tmod 128 = (r : Int) := by rw [tmod128, hr0]
      have t2 : (r : Int) * (sc : Int) = (q : Int) := by rw [hq0]; simp
      have t3 : (v : Int) + (q : Int) = (nv : Int) := by rw [hvs]; simp
      have hvb : nv ≤ 1099511627776 := by omega
      have hd' := drop_step hd hi'
      rw [hbi] at hd'
      by_cases hb : B ≤ 127
      · have d3 : decide ((B : Int) < 128) = true := decide_eq_true (by omega)
        obtain ⟨hr, hds⟩ := readVar_one hd hl h7 hc2 hi' (by rw [hbi, ← hB]; exact hb)
        have hcan := rdv_vb hds
        rw [hbi, ← hnv] at hcan hr
        rw [← hik] at hr
        by_cases hbig : nv ≤ 1000000000
        · have d4 : decide (1000000000 < (nv : Int)) = false := decide_eq_false (by omega)
          have n1 : natOf (some (.int .i64 ((p : Nat) : Int))) = some p := natOf_nat
          have n2 : natOf (some (.int .i64 ((i : Int) + 1))) = some (i + 1) := natOf_nat (n := i + 1)
          have hcut : cutSG (.str t) (some (.int .i64 ((p : Nat) : Int))) (some (.int .i64 ((i : Int) + 1))) = some (.str (t.extract p (i + 1))) := by
            simp only [cutSG, bndG, n1, n2, Option.bind_some]
            rw [if_pos (by omega)]
            simp only [Option.bind_some]
            rw [if_pos (by omega)]
            simp only [Option.bind_some]
          have hex : t.extract p (i + 1) = txt (nats (pre ++ [(bl t)[i]])) := by
            rw [txt_nats]
            apply bl_ext
            rw [bl_cut, bl_mk (pre ++ _), hd', List.take_left' (by simp [hl]; omega)]
          simp +contextual (disch := omega) only [go_sem, Nat.reduceEqDiff, ↓reduceIte, Int.reduceEq, Int.reduceNeg, wrap_add, e0, e1, e9, e7, e8, d1, d2, hix, cvi_int, lit_ne, t1, t2, t3, d3, d4, hcut]
          refine by_ret (s_l01Var_ret _ _ hvb) ?_
          by_cases hw : k = 0 ∨ (bl t)[i] ≠ 0
          · have hv : vb nv = nats (pre ++ [(bl t)[i]]) := hcan.2 (by simpa [hl] using hw)
            have d5 : decide (txt (vb nv) = t.extract p (i + 1)) = true := decide_eq_true (by rw [hex, hv])
            simp +contextual (disch := omega) only [go_sem, Nat.reduceEqDiff, ↓reduceIte, Int.reduceEq, Int.reduceNeg, wrap_add, hcut, d5, e0, e1, e9, e7, e8]
            rw [hr, if_pos ⟨hbig, hw⟩]
            exact ⟨by simp [rvG, tup3, notTup], hp⟩
          · have d5 : decide (txt (vb nv) = t.extract p (i + 1)) = false := by
              refine decide_eq_false fun e => hw ?_
              rw [hex] at e
              have : vb nv = nats (pre ++ [(bl t)[i]]) := txt_inj_u8 (vb_u8 _) (nats_u8 _) e
              have := hcan.1 this
              simpa [hl] using this
            simp +contextual (disch := omega) only [go_sem, Nat.reduceEqDiff, ↓reduceIte, Int.reduceEq, Int.reduceNeg, wrap_add, hcut, d5, e0, e1, e9, e7, e8]
            rw [hr, if_neg (fun h => hw h.2)]
            exact ⟨by simp [rvG, tup3, notTup], hp⟩
        · have d4 : decide (1000000000 < (nv : Int)) = true := decide_eq_true (by omega)
          simp +contextual (disch := omega) only [go_sem, Nat.reduceEqDiff, ↓reduceIte, Int.reduceEq, Int.reduceNeg, wrap_add, e0, e1, e9, e7, e8, d1, d2, hix, cvi_int, lit_ne, t1, t2, t3, d3, d4]
          rw [hr, if_neg (fun h => hbig h.1)]
          exact ⟨by simp [rvG, tup3, notTup], hp⟩
      · have d3 : decide ((B : Int) < 128) = false := decide_eq_false (by omega)
        obtain ⟨sc', hsc'⟩ : ∃ s, s = sc * 128 := ⟨_, rfl⟩
        have t4 : (sc : Int) * 128 = (sc' : Int) := by rw [hsc']; simp
        simp +contextual (disch := omega) only [go_sem, Nat.reduceEqDiff, ↓reduceIte, Int.reduceEq, Int.reduceNeg, wrap_add, e0, e1, e9, e7, e8, d1, d2, hix, cvi_int, lit_ne, t1, t2, t3, t4, d3]
        refine ⟨4 - k, by omega, k + 1, i + 1, nv, pre ++ [(bl t)[i]], sc', by omega, by omega, by omega, hnv, by omega, rfl, rfl, ?_, by simp [hl], ?_, by simpa using hd', hp⟩
        · rw [hsc', hsc, Nat.pow_succ]
        · intro b hb'
          rcases List.mem_append.1 hb' with h | h
          · exact h7 b h
          · simp at h; subst h; omega
    · have d2 : decide ((i : Int) < (p : Int) + 5) = false := decide_eq_false (by omega)
      simp +contextual (disch := omega) only [go_sem, Nat.reduceEqDiff, ↓reduceIte, Int.reduceEq, Int.reduceNeg, wrap_add, e0, e1, e9, e7, e8, d1, d2]
      rw [readVar_nil hd hl h7 hk (.inr (by omega))]
      exact ⟨by simp [rvG, tup3, notTup], hp⟩
  · have d1 : decide ((i : Int) < (t.size : Int)) = false := decide_eq_false (by omega)
    have : p + k = t.size := by
      have := congrArg List.length hd
      simp only [List.length_drop, List.length_append, hl] at this
      omega
    simp +contextual (disch := omega) only [go_sem, Nat.reduceEqDiff, ↓reduceIte, Int.reduceEq, Int.reduceNeg, wrap_add, e0, e1, e9, e7, e8, d1]
    rw [readVar_nil hd hl h7 hk (.inl this)]
    exact ⟨by simp [rvG, tup3, notTup], hp⟩
theorem shl_at {r k : Nat} (hr : r ≤ 127) (hk : k ≤ 4) : shiftG .shl .i64 (r : Int) (7 * (k : Int)) = some (.int .i64 ((r * 128 ^ k : Nat) : Int)) := by
  have hp := pow_bd hk
  have h1 : r * 128 ^ k ≤ 127 * 268435456 := Nat.mul_le_mul hr hp
  unfold shiftG
  rw [if_neg (by omega)]
  have e1 : min (7 * (k : Int)).toNat IntKind.i64.bits = 7 * k := by show min _ 64 = _; omega
  have e2 : (r : Int) * 2 ^ (7 * k) = ((r * 128 ^ k : Nat) : Int) := by
    rw [Int.pow_mul]; simp
  simp only [e1, e2]
  rw [wrap_add (by omega) (by omega)]
set_option maxHeartbeats 2000000 in
theorem i_ReadVar_ret (σ : St) (t : ByteArray) (p : Int) (ht : t.size ≤ 1099511627776) : Ret Try.prog n_i_ReadVar [.str t, gi p] σ (rvG (readVarI t p)) σ := by
  refine ret_eq ir_i_ReadVar (Nat.le_of_ble_eq_true rfl) (rvG_lt _ _) ?_
  simp +contextual (disch := omega) only [go_sem, Nat.reduceEqDiff, ↓reduceIte, Int.reduceEq, Int.reduceNeg, wrap_add, F_i_ReadVar]
  refine by_bool (i_within_ret _ _ _ _) (fun h => ?_) (fun h => ?_)
  rotate_left
  · simp +contextual (disch := omega) only [go_sem, Nat.reduceEqDiff, ↓reduceIte, Int.reduceEq, Int.reduceNeg, wrap_add, List.append_nil]
    simp [readVarI, h, rvG]
  have hpb := inB_iff.1 h
  obtain ⟨p, rfl⟩ : ∃ q : Nat, p = q := ⟨p.toNat, by omega⟩
  have hrv : readVarI t p = readVar t p := by simp [readVarI, h]
  rw [hrv]
  have hbl := bl_length t
  simp +contextual (disch := omega) only [go_sem, Nat.reduceEqDiff, ↓reduceIte, Int.reduceEq, Int.reduceNeg, wrap_add, List.append_nil]
  refine vc_lopJ (fun m env τ => ∃ (k v : Nat) (pre : List UInt8), m = 5 - k ∧ k ≤ 5 ∧ v = vval pre ∧ env 0 = .str t ∧ env 1 = gi p ∧ env 8 = gi k ∧ env 7 = gi v ∧ pre.length = k ∧ (∀ b ∈ pre, 127 < b.toNat) ∧ (bl t).drop p = pre ++ (bl t).drop (p + k) ∧ σ <+: τ) 5 ⟨0, 0, [], rfl, by omega, rfl, rfl, rfl, rfl, rfl, rfl, by simp, by simp, List.prefix_refl _⟩ ?_
  rintro J hJ m env τ ⟨k, v, pre, rfl, hk, hv, e0, e1, e8, e7, hl, h7, hd, hp⟩
  have hvl := vval_lt pre
  rw [hl, ← hv] at hvl
  by_cases hc2 : k < 5
  · have d2 : decide ((k : Int) < 5) = true := decide_eq_true (by omega)
    by_cases hc1 : p + k < t.size
    · have d1 : decide ((p : Int) + (k : Int) < (t.size : Int)) = true := decide_eq_true (by omega)
      have hi : p + k < (bl t).length := by omega
      have hpw := pow_bd (k := k) (by omega)
      have h8 := u8_lt (bl t)[p + k]
      obtain ⟨B, hB⟩ : ∃ B, B = (bl t)[p + k].toNat := ⟨_, rfl⟩
      obtain ⟨r, hr0⟩ : ∃ r, r = B % 128 := ⟨_, rfl⟩
      obtain ⟨q, hq0⟩ : ∃ q, q = r * 128 ^ k := ⟨_, rfl⟩
      obtain ⟨nv, hnv⟩ : ∃ nv, nv = vval (pre ++ [(bl t)[p + k]]) := ⟨_, rfl⟩
      have hq : q ≤ 127 * 268435456 := by rw [hq0]; exact Nat.mul_le_mul (by omega) hpw
      have hvs : nv = v + q := by rw [hnv, vval_snoc hl, hq0, hr0, hB, hv]
      have hn1 : natOf (some (gi ((p : Int) + (k : Int)))) = some (p + k) := natOf_nat (n := p + k)
      have hix := idx_at hi
      rw [← hB] at hix
      have t1 : ((B : Nat) : Int).tmod 128 = (r : Int) := by rw [tmod128, hr0]
      have t2 : shiftG .shl .i64 (r : Int) (7 * (k : Int)) = some (.int .i64 (q : Int)) := by rw [hq0]; exact shl_at (by omega) (by omega)
      have t3 : (v : Int) + (q : Int) = (nv : Int) := by rw [hvs]; simp
      have hvb : nv ≤ 1099511627776 := by omega
      have hd' := drop_step hd hi
      by_cases hb : B ≤ 127
      · have d3 : decide (127 < (B : Int)) = false := decide_eq_false (by omega)
        obtain ⟨hr, hds⟩ := readVar_one hd hl h7 hc2 hi (by rw [← hB]; exact hb)
        rw [← hnv] at hr
        have hz : (bl t)[p + k] = 0 ↔ B = 0 := by
          rw [hB]
          constructor
          · intro e; rw [e]; rfl
          · intro e; exact UInt8.toNat_inj.1 e
        by_cases hw : k = 0 ∨ (bl t)[p + k] ≠ 0
        · by_cases hbig : nv ≤ 1000000000
          · have d4 : decide (1000000000 < (nv : Int)) = false := decide_eq_false (by omega)
            rw [hr, if_pos ⟨hbig, hw⟩]
            by_cases hk0 : k = 0
            · have d5 : decide (0 < (k : Int)) = false := decide_eq_false (by omega)
              simp +contextual (disch := omega) only [go_sem, Nat.reduceEqDiff, ↓reduceIte, Int.reduceEq, Int.reduceNeg, wrap_add, e0, e1, e8, e7, d1, d2, hn1, hix, cvi_int, lit_ne, t1, t2, t3, d3, d4, d5]
              exact ⟨by simp [rvG, tup3, notTup], hp⟩
            · have d5 : decide (0 < (k : Int)) = true := decide_eq_true (by omega)
              have d6 : ((B : Int) == 0) = false := by
                have : B ≠ 0 := fun e => (hw.resolve_left hk0) (hz.2 e)
                simp; exact this
              simp +contextual (disch := omega) only [go_sem, Nat.reduceEqDiff, ↓reduceIte, Int.reduceEq, Int.reduceNeg, wrap_add, e0, e1, e8, e7, d1, d2, hn1, hix, cvi_int, lit_ne, t1, t2, t3, d3, d4, d5, d6]
              exact ⟨by simp [rvG, tup3, notTup], hp⟩
          · have d4 : decide (1000000000 < (nv : Int)) = true := decide_eq_true (by omega)
            rw [hr, if_neg (fun h => hbig h.1)]
            by_cases hk0 : k = 0
            · have d5 : decide (0 < (k : Int)) = false := decide_eq_false (by omega)
              simp +contextual (disch := omega) only [go_sem, Nat.reduceEqDiff, ↓reduceIte, Int.reduceEq, Int.reduceNeg, wrap_add, e0, e1, e8, e7, d1, d2, hn1, hix, cvi_int, lit_ne, t1, t2, t3, d3, d4, d5]
              exact ⟨by simp [rvG, tup3, notTup], hp⟩
            · have d5 : decide (0 < (k : Int)) = true := decide_eq_true (by omega)
              cases d6 : ((B : Int) == 0) with
              | false =>
                simp +contextual (disch := omega) only [go_sem, Nat.reduceEqDiff, ↓reduceIte, Int.reduceEq, Int.reduceNeg, wrap_add, e0, e1, e8, e7, d1, d2, hn1, hix, cvi_int, lit_ne, t1, t2, t3, d3, d4, d5, d6]
                exact ⟨by simp [rvG, tup3, notTup], hp⟩
              | true =>
                simp +contextual (disch := omega) only [go_sem, Nat.reduceEqDiff, ↓reduceIte, Int.reduceEq, Int.reduceNeg, wrap_add, e0, e1, e8, e7, d1, d2, hn1, hix, cvi_int, lit_ne, t1, t2, t3, d3, d4, d5, d6]
                exact ⟨by simp [rvG, tup3, notTup], hp⟩
        · rw [hr, if_neg (fun h => hw h.2)]
          have hk0 : k ≠ 0 := fun e => hw (.inl e)
          have hB0 : B = 0 := hz.1 (Classical.byContradiction fun e => hw (.inr e))
          have d5 : decide (0 < (k : Int)) = true := decide_eq_true (by omega)
          have d6 : ((B : Int) == 0) = true := by rw [hB0]; rfl
          simp +contextual (disch := omega) only [go_sem, Nat.reduceEqDiff, ↓reduceIte, Int.reduceEq, Int.reduceNeg, wrap_add, e0, e1, e8, e7, d1, d2, hn1, hix, cvi_int, lit_ne, t1, t2, t3, d3, d5, d6]
          exact ⟨by simp [rvG, tup3, notTup], hp⟩
      · have d3 : decide (127 < (B : Int)) = true := decide_eq_true (by omega)
        simp +contextual (disch := omega) only [go_sem, Nat.reduceEqDiff, ↓reduceIte, Int.reduceEq, Int.reduceNeg, wrap_add, e0, e1, e8, e7, d1, d2, hn1, hix, cvi_int, lit_ne, t1, t2, t3, d3]
        refine ⟨4 - k, by omega, hJ _ _ _ ⟨k + 1, nv, pre ++ [(bl t)[p + k]], by omega, by omega, hnv, ?_, ?_, ?_, ?_, by simp [hl], fun b hb' => ?_, by simpa using hd', hp⟩⟩
        · simp +contextual (disch := omega) only [go_sem, Nat.reduceEqDiff, ↓reduceIte, Int.reduceEq, Int.reduceNeg, wrap_add, e0]
        · simp +contextual (disch := omega) only [go_sem, Nat.reduceEqDiff, ↓reduceIte, Int.reduceEq, Int.reduceNeg, wrap_add, e1]
        · simp +contextual (disch := omega) only [go_sem, Nat.reduceEqDiff, ↓reduceIte, Int.reduceEq, Int.reduceNeg, wrap_add, e8]
        · simp +contextual (disch := omega) only [go_sem, Nat.reduceEqDiff, ↓reduceIte, Int.reduceEq, Int.reduceNeg, wrap_add, e7]
        rcases List.mem_append.1 hb' with h | h
        · exact h7 b h
        · simp at h; subst h; omega
    · have d1 : decide ((p : Int) + (k : Int) < (t.size : Int)) = false := decide_eq_false (by omega)
      have : p + k = t.size := by
        have := congrArg List.length hd
        simp only [List.length_drop, List.length_append, hl] at this
        omega
      simp +contextual (disch := omega) only [go_sem, Nat.reduceEqDiff, ↓reduceIte, Int.reduceEq, Int.reduceNeg, wrap_add, e0, e1, e8, e7, d1, d2]
      rw [readVar_nil hd hl h7 hk (.inl this)]
      exact ⟨by simp [rvG, tup3, notTup], hp⟩
  · have d2 : decide ((k : Int) < 5) = false := decide_eq_false (by omega)
    simp +contextual (disch := omega) only [go_sem, Nat.reduceEqDiff, ↓reduceIte, Int.reduceEq, Int.reduceNeg, wrap_add, e0, e1, e8, e7, d2]
    rw [readVar_nil hd hl h7 hk (.inr (by omega))]
    exact ⟨by simp [rvG, tup3, notTup], hp⟩
def rsG : Option (ByteArray × Nat) → GV
  | none => .tup [.str ⟨#[]⟩, gi 0, .bool false]
  | some (n, q) => .tup [.str n, gi q, .bool true]
theorem rsG_lt (m : Nat) (r : Option (ByteArray × Nat)) : vLt m (rsG r) := by
  cases r with
  | none => intro v hv; simp at hv; rcases hv with rfl | rfl | rfl <;> trivial
  | some q => intro v hv; simp at hv; rcases hv with rfl | rfl | rfl <;> trivial
theorem cut_at {t : ByteArray} {a n : Nat} (h : n + a ≤ t.size) : cutSG (.str t) (some (gi a)) (some (gi ((a : Int) + (n : Int)))) = some (.str (t.extract a (a + n))) := by
  have n1 : natOf (some (gi ((a : Nat) : Int))) = some a := natOf_nat
  have n2 : natOf (some (gi ((a : Int) + (n : Int)))) = some (a + n) := natOf_nat (n := a + n)
  simp only [cutSG, bndG, n1, n2, Option.bind_some]
  rw [if_pos (by omega)]
  simp only [Option.bind_some]
  rw [if_pos (by omega)]
  simp only [Option.bind_some]
theorem s_ReadShort_ret (σ : St) (t : ByteArray) (p : Int) (ht : t.size ≤ 1099511627776) : Ret Try.prog n_s_ReadShort [.str t, gi p] σ (rsG (readShortI t p)) σ := by
  refine ret_eq ir_s_ReadShort (Nat.le_of_ble_eq_true rfl) (rsG_lt _ _) ?_
  simp +contextual (disch := omega) only [go_sem, Nat.reduceEqDiff, ↓reduceIte, Int.reduceEq, Int.reduceNeg, wrap_add, F_s_ReadShort]
  refine by_ret (s_ReadVar_ret σ t p ht) ?_
  have hz : readShortI t p = (readVarI t p).bind fun r => if r.1 ≤ 20000 ∧ r.1 + r.2 ≤ t.size then some (t.extract r.2 (r.2 + r.1), r.2 + r.1) else none := by
    unfold readShortI readVarI readShort
    split <;> rfl
  rw [hz]
  cases hv : readVarI t p with
  | none =>
    simp +contextual (disch := omega) only [go_sem, Nat.reduceEqDiff, ↓reduceIte, Int.reduceEq, Int.reduceNeg, wrap_add, rvG, Option.bind_none]
    simp [rsG, tup3, notTup]
  | some r =>
    obtain ⟨n, q⟩ := r
    have hb : n ≤ 1000000000 ∧ q ≤ t.size := by
      unfold readVarI at hv
      split at hv
      · have := readVar_spec hv; omega
      · cases hv
    by_cases h1 : n ≤ 20000
    · have d1 : decide (20000 < (n : Int)) = false := decide_eq_false (by omega)
      by_cases h2 : n + q ≤ t.size
      · have d2 : decide ((t.size : Int) - (q : Int) < (n : Int)) = false := decide_eq_false (by omega)
        simp +contextual (disch := omega) only [go_sem, Nat.reduceEqDiff, ↓reduceIte, Int.reduceEq, Int.reduceNeg, wrap_add, rvG, d1, d2, cut_at h2, Option.bind_some]
        rw [if_pos ⟨h1, h2⟩]
        simp [rsG, tup3, notTup]
      · have d2 : decide ((t.size : Int) - (q : Int) < (n : Int)) = true := decide_eq_true (by omega)
        simp +contextual (disch := omega) only [go_sem, Nat.reduceEqDiff, ↓reduceIte, Int.reduceEq, Int.reduceNeg, wrap_add, rvG, d1, d2, Option.bind_some]
        rw [if_neg (fun h => h2 h.2)]
        simp [rsG, tup3, notTup]
    · have d1 : decide (20000 < (n : Int)) = true := decide_eq_true (by omega)
      simp +contextual (disch := omega) only [go_sem, Nat.reduceEqDiff, ↓reduceIte, Int.reduceEq, Int.reduceNeg, wrap_add, rvG, d1, Option.bind_some]
      rw [if_neg (fun h => h1 h.1)]
      simp [rsG, tup3, notTup]
theorem i_ReadShort_ret (σ : St) (t : ByteArray) (p : Int) (ht : t.size ≤ 1099511627776) : Ret Try.prog n_i_ReadShort [.str t, gi p] σ (rsG (readShortI t p)) σ := by
  refine ret_eq ir_i_ReadShort (Nat.le_of_ble_eq_true rfl) (rsG_lt _ _) ?_
  simp +contextual (disch := omega) only [go_sem, Nat.reduceEqDiff, ↓reduceIte, Int.reduceEq, Int.reduceNeg, wrap_add, F_i_ReadShort]
  refine by_ret (i_ReadVar_ret σ t p ht) ?_
  have hz : readShortI t p = (readVarI t p).bind fun r => if r.1 ≤ 20000 ∧ r.1 + r.2 ≤ t.size then some (t.extract r.2 (r.2 + r.1), r.2 + r.1) else none := by
    unfold readShortI readVarI readShort
    split <;> rfl
  rw [hz]
  cases hv : readVarI t p with
  | none =>
    simp +contextual (disch := omega) only [go_sem, Nat.reduceEqDiff, ↓reduceIte, Int.reduceEq, Int.reduceNeg, wrap_add, rvG, Option.bind_none]
    simp [rsG, tup3, notTup]
  | some r =>
    obtain ⟨n, q⟩ := r
    have hb : n ≤ 1000000000 ∧ q ≤ t.size := by
      unfold readVarI at hv
      split at hv
      · have := readVar_spec hv; omega
      · cases hv
    by_cases h1 : n ≤ 20000
    · have d1 : decide (20000 < (n : Int)) = false := decide_eq_false (by omega)
      by_cases h2 : n + q ≤ t.size
      · have d2 : decide ((t.size : Int) - (q : Int) < (n : Int)) = false := decide_eq_false (by omega)
        simp +contextual (disch := omega) only [go_sem, Nat.reduceEqDiff, ↓reduceIte, Int.reduceEq, Int.reduceNeg, wrap_add, rvG, d1, d2, cut_at h2, Option.bind_some]
        rw [if_pos ⟨h1, h2⟩]
        simp [rsG, tup3, notTup]
      · have d2 : decide ((t.size : Int) - (q : Int) < (n : Int)) = true := decide_eq_true (by omega)
        simp +contextual (disch := omega) only [go_sem, Nat.reduceEqDiff, ↓reduceIte, Int.reduceEq, Int.reduceNeg, wrap_add, rvG, d1, d2, Option.bind_some]
        rw [if_neg (fun h => h2 h.2)]
        simp [rsG, tup3, notTup]
    · have d1 : decide (20000 < (n : Int)) = true := decide_eq_true (by omega)
      simp +contextual (disch := omega) only [go_sem, Nat.reduceEqDiff, ↓reduceIte, Int.reduceEq, Int.reduceNeg, wrap_add, rvG, d1, Option.bind_some]
      rw [if_neg (fun h => h1 h.1)]
      simp [rsG, tup3, notTup]
/-! A scan. -/
def okA (t : ByteArray) (at_ : Int) : Prop := 0 ≤ at_ ∧ at_ ≤ t.size
theorem scan_number_ret {σ0 σ : St} {rs : List Thg} {g : Nat} {t : ByteArray} {p : Int} {bad : Bool} (H : Hp σ0 σ rs) (i : Nat) (hi : rs[i]? = some (pt 1 g [.str t, gi p, .bool bad])) (ht : t.size ≤ 1099511627776) :
    ∃ τ, Ret Try.prog n_impl_scan_number [.ptr g 0] σ (gi (if bad then 0 else match readVarI t p with | some r => (r.1 : Int) | none => 0)) τ ∧
      Hp σ0 τ (rs.set i (pt 1 g [.str t, gi (if bad then p else match readVarI t p with | some r => (r.2 : Int) | none => p), .bool (bad || (readVarI t p).isNone)])) := by
  have key : ∃ r τ, Ret Try.prog n_impl_scan_number [.ptr g 0] σ r τ ∧ r = gi (if bad then 0 else match readVarI t p with | some r => (r.1 : Int) | none => 0) ∧
      Hp σ0 τ (rs.set i (pt 1 g [.str t, gi (if bad then p else match readVarI t p with | some r => (r.2 : Int) | none => p), .bool (bad || (readVarI t p).isNone)])) := by
    refine ret_dr ir_impl_scan_number (Nat.le_of_ble_eq_true rfl) ?_
    have z := H.pt i hi
    simp +contextual (disch := omega) only [go_sem, Nat.reduceEqDiff, ↓reduceIte, Int.reduceEq, Int.reduceNeg, wrap_add, F_impl_scan_number, ld_ptr z]
    refine by_ret (i_ReadVar_ret σ t p ht) ?_
    cases bad with
    | true =>
      obtain ⟨τ, e, H1, _⟩ := H.st i hi 1 2 (.bool true) rfl (by decide) (by simp)
      cases hv : readVarI t p with
      | none =>
        simp +contextual (disch := omega) only [go_sem, Nat.reduceEqDiff, ↓reduceIte, Int.reduceEq, Int.reduceNeg, wrap_add, rvG, ld_ptr z, e]
        exact ⟨_, rfl, rfl, H1⟩
      | some r =>
        obtain ⟨n, q⟩ := r
        simp +contextual (disch := omega) only [go_sem, Nat.reduceEqDiff, ↓reduceIte, Int.reduceEq, Int.reduceNeg, wrap_add, rvG, ld_ptr z, e]
        exact ⟨_, rfl, rfl, H1⟩
    | false =>
      cases hv : readVarI t p with
      | none =>
        obtain ⟨τ, e, H1, _⟩ := H.st i hi 1 2 (.bool true) rfl (by decide) (by simp)
        simp +contextual (disch := omega) only [go_sem, Nat.reduceEqDiff, ↓reduceIte, Int.reduceEq, Int.reduceNeg, wrap_add, rvG, ld_ptr z, e]
        exact ⟨_, rfl, rfl, H1⟩
      | some r =>
        obtain ⟨n, q⟩ := r
        obtain ⟨τ, e, H1, _⟩ := H.st i hi 1 1 (gi q) rfl (by decide) (by simp)
        simp +contextual (disch := omega) only [go_sem, Nat.reduceEqDiff, ↓reduceIte, Int.reduceEq, Int.reduceNeg, wrap_add, rvG, ld_ptr z, e]
        exact ⟨_, rfl, rfl, H1⟩
  obtain ⟨r, τ, R, rfl, H⟩ := key
  exact ⟨τ, R, H⟩
theorem scan_short_ret {σ0 σ : St} {rs : List Thg} {g : Nat} {t : ByteArray} {p : Int} {bad : Bool} (H : Hp σ0 σ rs) (i : Nat) (hi : rs[i]? = some (pt 1 g [.str t, gi p, .bool bad])) (ht : t.size ≤ 1099511627776) :
    ∃ τ, Ret Try.prog n_impl_scan_short [.ptr g 0] σ (.str (if bad then ⟨#[]⟩ else match readShortI t p with | some r => r.1 | none => ⟨#[]⟩)) τ ∧
      Hp σ0 τ (rs.set i (pt 1 g [.str t, gi (if bad then p else match readShortI t p with | some r => (r.2 : Int) | none => p), .bool (bad || (readShortI t p).isNone)])) := by
  have key : ∃ r τ, Ret Try.prog n_impl_scan_short [.ptr g 0] σ r τ ∧ r = .str (if bad then ⟨#[]⟩ else match readShortI t p with | some r => r.1 | none => ⟨#[]⟩) ∧
      Hp σ0 τ (rs.set i (pt 1 g [.str t, gi (if bad then p else match readShortI t p with | some r => (r.2 : Int) | none => p), .bool (bad || (readShortI t p).isNone)])) := by
    refine ret_dr ir_impl_scan_short (Nat.le_of_ble_eq_true rfl) ?_
    have z := H.pt i hi
    simp +contextual (disch := omega) only [go_sem, Nat.reduceEqDiff, ↓reduceIte, Int.reduceEq, Int.reduceNeg, wrap_add, F_impl_scan_short, ld_ptr z]
    refine by_ret (i_ReadShort_ret σ t p ht) ?_
    cases bad with
    | true =>
      obtain ⟨τ, e, H1, _⟩ := H.st i hi 1 2 (.bool true) rfl (by decide) (by simp)
      cases hv : readShortI t p with
      | none =>
        simp +contextual (disch := omega) only [go_sem, Nat.reduceEqDiff, ↓reduceIte, Int.reduceEq, Int.reduceNeg, wrap_add, rsG, ld_ptr z, e]
        exact ⟨_, rfl, rfl, H1⟩
      | some r =>
        obtain ⟨n, q⟩ := r
        simp +contextual (disch := omega) only [go_sem, Nat.reduceEqDiff, ↓reduceIte, Int.reduceEq, Int.reduceNeg, wrap_add, rsG, ld_ptr z, e]
        exact ⟨_, rfl, rfl, H1⟩
    | false =>
      cases hv : readShortI t p with
      | none =>
        obtain ⟨τ, e, H1, _⟩ := H.st i hi 1 2 (.bool true) rfl (by decide) (by simp)
        simp +contextual (disch := omega) only [go_sem, Nat.reduceEqDiff, ↓reduceIte, Int.reduceEq, Int.reduceNeg, wrap_add, rsG, ld_ptr z, e]
        exact ⟨_, rfl, rfl, H1⟩
      | some r =>
        obtain ⟨n, q⟩ := r
        obtain ⟨τ, e, H1, _⟩ := H.st i hi 1 1 (gi q) rfl (by decide) (by simp)
        simp +contextual (disch := omega) only [go_sem, Nat.reduceEqDiff, ↓reduceIte, Int.reduceEq, Int.reduceNeg, wrap_add, rsG, ld_ptr z, e]
        exact ⟨_, rfl, rfl, H1⟩
  obtain ⟨r, τ, R, rfl, H⟩ := key
  exact ⟨τ, R, H⟩
end Go.Proofs.Ytopannfdcikgiaa.Sy

/- Contracts: watches read. -/
namespace Go.Proofs.Ytopannfdcikgiaa.Sy
open Go Go.RowKit
set_option linter.unusedSimpArgs false
set_option linter.unusedVariables false
set_option maxRecDepth 4000
abbrev n_s_ReadWatch : Nat := 46
def F_s_ReadWatch : Fn1 := ⟨60, [.c 2 true 3, .t 3], (.seq (.reg [o 2 (.new [(.int .i64 0), (.str ⟨#[]⟩), (.str ⟨#[]⟩)]), o 3 (.mov (.k (.bool false)))]) (.seq (.reg [o 15 (.mov (.t 0)), o 16 (.call 88 [(.t 15), (.k (.int .i64 0))]), o 14 (.mov (.t 16)), o 17 (.ext 0 (.t 14)), o 18 (.ext 1 (.t 14)), o 19 (.ext 2 (.t 14)), o 4 (.mov (.t 17)), o 5 (.mov (.t 18)), o 6 (.mov (.t 19))]) (.seq (.seq (.reg [o 20 (.mov (.t 6)), o 21 (.un .not (.t 20))]) (.cnd (.t 21) (.seq (.reg [o 22 (.build [(.int .i64 0), (.str ⟨#[]⟩), (.str ⟨#[]⟩)] []), on (.st 3 (.t 2) (.t 22)), o 3 (.mov (.k (.bool false)))]) .ret) .skip)) (.seq (.reg [o 24 (.mov (.t 0)), o 25 (.mov (.t 5)), o 26 (.call 89 [(.t 24), (.t 25)]), o 23 (.mov (.t 26)), o 27 (.ext 0 (.t 23)), o 28 (.ext 1 (.t 23)), o 29 (.ext 2 (.t 23)), o 7 (.mov (.t 27)), o 8 (.mov (.t 28)), o 9 (.mov (.t 29))]) (.seq (.seq (.reg [o 30 (.mov (.t 9)), o 31 (.un .not (.t 30))]) (.cnd (.t 31) (.seq (.reg [o 32 (.build [(.int .i64 0), (.str ⟨#[]⟩), (.str ⟨#[]⟩)] []), on (.st 3 (.t 2) (.t 32)), o 3 (.mov (.k (.bool false)))]) .ret) .skip)) (.seq (.reg [o 34 (.mov (.t 0)), o 35 (.mov (.t 8)), o 36 (.call 89 [(.t 34), (.t 35)]), o 33 (.mov (.t 36)), o 37 (.ext 0 (.t 33)), o 38 (.ext 1 (.t 33)), o 39 (.ext 2 (.t 33)), o 10 (.mov (.t 37)), o 11 (.mov (.t 38)), o 12 (.mov (.t 39))]) (.seq (.reg [o 40 (.mov (.t 4)), o 41 (.mov (.t 7)), o 42 (.mov (.t 10)), o 43 (.build [(.int .i64 0), (.str ⟨#[]⟩), (.str ⟨#[]⟩)] [(0, 1, (.t 40)), (1, 1, (.t 41)), (2, 1, (.t 42))]), o 13 (.new [(.int .i64 0), (.str ⟨#[]⟩), (.str ⟨#[]⟩)]), on (.st 3 (.t 13) (.t 43))]) (.seq (.seq (.reg [o 44 (.mov (.t 12)), o 45 (.un .not (.t 44)), o 46 (.mov (.t 45)), og 47 46 false (.mov (.t 11)), og 48 46 false (.mov (.t 0)), og 49 46 false (.len true (.t 48)), og 50 46 false (.bin .neq (.t 47) (.t 49)), o 51 (.pick (.t 46) (.k (.bool true)) (.t 50)), o 52 (.mov (.t 51)), og 53 52 false (.ld true 3 (.t 13)), og 54 52 false (.call 23 [(.t 53)]), og 55 52 false (.mov (.t 0)), og 56 52 false (.bin .neq (.t 54) (.t 55)), o 57 (.pick (.t 52) (.k (.bool true)) (.t 56))]) (.cnd (.t 57) (.seq (.reg [o 58 (.build [(.int .i64 0), (.str ⟨#[]⟩), (.str ⟨#[]⟩)] []), on (.st 3 (.t 2) (.t 58)), o 3 (.mov (.k (.bool false)))]) .ret) .skip)) (.seq (.reg [o 59 (.ld true 3 (.t 13)), on (.st 3 (.t 2) (.t 59)), o 3 (.mov (.k (.bool true)))]) .ret)))))))))⟩
theorem ir_s_ReadWatch : compFn Try.prog n_s_ReadWatch = some F_s_ReadWatch := by kernel_rfl
abbrev n_i_ReadWatch : Nat := 47
def F_i_ReadWatch : Fn1 := ⟨36, [.c 2 true 3, .t 3], (.seq (.reg [o 2 (.new [(.int .i64 0), (.str ⟨#[]⟩), (.str ⟨#[]⟩)]), o 3 (.mov (.k (.bool false)))]) (.seq (.reg [o 6 (.mov (.t 0)), o 7 (.build [(.str ⟨#[]⟩), (.int .i64 0), (.bool false)] [(0, 1, (.t 6))]), o 8 (.box (.t 7)), o 4 (.mov (.t 8))]) (.seq (.reg [o 9 (.build [(.int .i64 0), (.str ⟨#[]⟩), (.str ⟨#[]⟩)] []), o 5 (.new [(.int .i64 0), (.str ⟨#[]⟩), (.str ⟨#[]⟩)]), on (.st 3 (.t 5) (.t 9))]) (.seq (.reg [o 10 (.mov (.t 4)), o 11 (.call 90 [(.t 10)]), o 12 (.fad 0 (.t 5)), on (.st 1 (.t 12) (.t 11))]) (.seq (.reg [o 13 (.mov (.t 4)), o 14 (.call 91 [(.t 13)]), o 15 (.fad 1 (.t 5)), on (.st 1 (.t 15) (.t 14))]) (.seq (.reg [o 16 (.mov (.t 4)), o 17 (.call 91 [(.t 16)]), o 18 (.fad 2 (.t 5)), on (.st 1 (.t 18) (.t 17))]) (.seq (.seq (.reg [o 19 (.mov (.t 4)), o 20 (.nck (.t 19)), o 21 (.fad 2 (.t 20)), o 22 (.ld false 1 (.t 21)), o 23 (.mov (.t 22)), og 24 23 false (.ld true 3 (.t 5)), og 25 23 false (.call 18 [(.t 24)]), og 26 23 false (.un .not (.t 25)), o 27 (.pick (.t 23) (.k (.bool true)) (.t 26)), o 28 (.mov (.t 27)), og 29 28 false (.ld true 3 (.t 5)), og 30 28 false (.call 24 [(.t 29)]), og 31 28 false (.mov (.t 0)), og 32 28 false (.bin .neq (.t 30) (.t 31)), o 33 (.pick (.t 28) (.k (.bool true)) (.t 32))]) (.cnd (.t 33) (.seq (.reg [o 34 (.build [(.int .i64 0), (.str ⟨#[]⟩), (.str ⟨#[]⟩)] []), on (.st 3 (.t 2) (.t 34)), o 3 (.mov (.k (.bool false)))]) .ret) .skip)) (.seq (.reg [o 35 (.ld true 3 (.t 5)), on (.st 3 (.t 2) (.t 35)), o 3 (.mov (.k (.bool true)))]) .ret))))))))⟩
theorem ir_i_ReadWatch : compFn Try.prog n_i_ReadWatch = some F_i_ReadWatch := by kernel_rfl
def rwG : Option Watch → GV
  | none => .tup [.agg [gi 0, .str ⟨#[]⟩, .str ⟨#[]⟩], .bool false]
  | some w => .tup [.agg [gi w.kind, .str w.obj, .str w.key], .bool true]
theorem rwG_lt (m : Nat) (r : Option Watch) : vLt m (rwG r) := by
  cases r with
  | none => intro v hv; simp at hv; rcases hv with rfl | rfl <;> simp [cLt, sLt]
  | some q => intro v hv; simp at hv; rcases hv with rfl | rfl <;> simp [cLt, sLt]
theorem readVarI_nat {t : ByteArray} {p : Nat} (h : p ≤ t.size) : readVarI t p = readVar t p := by
  unfold readVarI
  rw [if_pos (inB_iff.2 (by omega))]; rfl
theorem readShortI_nat {t : ByteArray} {p : Nat} (h : p ≤ t.size) : readShortI t p = readShort t p := by
  unfold readShortI
  rw [if_pos (inB_iff.2 (by omega))]; rfl
theorem s_ReadWatch_ret (σ : St) (t : ByteArray) (ht : t.size ≤ 1099511627776) : Ret Try.prog n_s_ReadWatch [.str t] σ (rwG (readWatch t)) σ := by
  refine ret_eq ir_s_ReadWatch (Nat.le_of_ble_eq_true rfl) (rwG_lt _ _) ?_
  simp +contextual (disch := omega) only [go_sem, Nat.reduceEqDiff, ↓reduceIte, Int.reduceEq, Int.reduceNeg, wrap_add, F_s_ReadWatch]
  refine by_ret (s_ReadVar_ret _ t 0 ht) ?_
  have e0 : readVarI t 0 = readVar t 0 := readVarI_nat (p := 0) (Nat.zero_le _)
  rw [e0]
  unfold readWatch
  cases h1 : readVar t 0 with
  | none =>
    simp +contextual (disch := omega) only [go_sem, Nat.reduceEqDiff, ↓reduceIte, Int.reduceEq, Int.reduceNeg, wrap_add, rvG, Option.bind_none]
    simp [rwG, tup2, notTup]
  | some r1 =>
    obtain ⟨k, a⟩ := r1
    obtain ⟨k1, k2, k3, k4, k5⟩ := readVar_spec h1
    simp +contextual (disch := omega) only [go_sem, Nat.reduceEqDiff, ↓reduceIte, Int.reduceEq, Int.reduceNeg, wrap_add, rvG, Option.bind_some]
    refine by_ret (s_ReadShort_ret _ t a ht) ?_
    rw [readShortI_nat k4]
    cases h2 : readShort t a with
    | none =>
      simp +contextual (disch := omega) only [go_sem, Nat.reduceEqDiff, ↓reduceIte, Int.reduceEq, Int.reduceNeg, wrap_add, rsG, Option.bind_none]
      simp [rwG, tup2, notTup]
    | some r2 =>
      obtain ⟨o, b⟩ := r2
      obtain ⟨o1, o2, o3, o4⟩ := readShort_spec h2
      simp +contextual (disch := omega) only [go_sem, Nat.reduceEqDiff, ↓reduceIte, Int.reduceEq, Int.reduceNeg, wrap_add, rsG, Option.bind_some]
      refine by_ret (s_ReadShort_ret _ t b ht) ?_
      rw [readShortI_nat o3]
      cases h3 : readShort t b with
      | none =>
        simp +contextual (disch := omega) only [go_sem, Nat.reduceEqDiff, ↓reduceIte, Int.reduceEq, Int.reduceNeg, wrap_add, rsG, Option.bind_none]
        simp [rwG, tup2, notTup]
      | some r3 =>
        obtain ⟨y, c⟩ := r3
        obtain ⟨y1, y2, y3, y4⟩ := readShort_spec h3
        by_cases hc : c = t.size
        · have d1 : ((c : Int) != (t.size : Int)) = false := by rw [hc]; simp
          simp +contextual (disch := omega) only [go_sem, Nat.reduceEqDiff, ↓reduceIte, Int.reduceEq, Int.reduceNeg, wrap_add, rsG, Option.bind_some, d1]
          refine by_ret (s_WatchText_ret _ ⟨k, o, y⟩ (by unfold msWatch; simp only; omega)) ?_
          by_cases hw : watchTx ⟨k, o, y⟩ = t
          · have d2 : decide (watchTx ⟨k, o, y⟩ = t) = true := decide_eq_true hw
            simp +contextual (disch := omega) only [go_sem, Nat.reduceEqDiff, ↓reduceIte, Int.reduceEq, Int.reduceNeg, wrap_add, d2]
            rw [if_pos hw]
            simp [rwG, tup2, notTup]
          · have d2 : decide (watchTx ⟨k, o, y⟩ = t) = false := decide_eq_false hw
            simp +contextual (disch := omega) only [go_sem, Nat.reduceEqDiff, ↓reduceIte, Int.reduceEq, Int.reduceNeg, wrap_add, d2]
            rw [if_neg hw]
            simp [rwG, tup2, notTup]
        · have d1 : ((c : Int) != (t.size : Int)) = true := by simp; omega
          have hw : ¬ watchTx ⟨k, o, y⟩ = t := fun e => hc (readWatch_end h1 h2 h3 e).2
          simp +contextual (disch := omega) only [go_sem, Nat.reduceEqDiff, ↓reduceIte, Int.reduceEq, Int.reduceNeg, wrap_add, rsG, Option.bind_some, d1]
          rw [if_neg hw]
          simp [rwG, tup2, notTup]
theorem i_ReadWatch_ret (σ : St) (t : ByteArray) (ht : t.size ≤ 1099511627776) : Ret Try.prog n_i_ReadWatch [.str t] σ (rwG (readWatch t)) σ := by
  refine ret_eq ir_i_ReadWatch (Nat.le_of_ble_eq_true rfl) (rwG_lt _ _) ?_
  have H := (((Hp.refl σ).new 1 [gi 0, .str ⟨#[]⟩, .str ⟨#[]⟩]).new 1 [.str t, gi 0, .bool false]).new 1 [gi 0, .str ⟨#[]⟩, .str ⟨#[]⟩]
  simp +contextual (disch := omega) only [go_sem, Nat.reduceEqDiff, ↓reduceIte, Int.reduceEq, Int.reduceNeg, wrap_add, F_i_ReadWatch]
  obtain ⟨τ1, R1, H1⟩ := scan_number_ret H 1 rfl ht
  have e0 : readVarI t 0 = readVar t 0 := readVarI_nat (p := 0) (Nat.zero_le _)
  rw [e0] at H1 R1
  refine by_mut R1 ?_
  simp only [Bool.false_eq_true, if_false, Bool.false_or, List.set_cons_zero, List.set_cons_succ] at H1 ⊢
  generalize hb4 : (σ ++ [some (Blk.row 1 [gi 0, GV.str ⟨#[]⟩, GV.str ⟨#[]⟩])]).length = b4 at *
  generalize hb5 : (σ ++ [some (Blk.row 1 [gi 0, GV.str ⟨#[]⟩, GV.str ⟨#[]⟩])] ++ [some (Blk.row 1 [GV.str t, gi 0, GV.bool false])]).length = b5 at *
  generalize hb2 : σ.length = b2 at *
  unfold readWatch
  cases h1 : readVar t 0 with
  | none =>
    rw [h1] at H1
    simp only [Option.isNone_none] at H1
    obtain ⟨τ2, e2, H2, _⟩ := H1.st 0 rfl 1 0 (gi 0) rfl (by decide) (by simp)
    simp only [List.set_cons_zero, List.set_cons_succ, splice_succ, splice_cons, splice_nil, GV.cells, Nat.reduceAdd, List.cons_append, List.nil_append] at H2
    simp +contextual (disch := omega) only [go_sem, Nat.reduceEqDiff, ↓reduceIte, Int.reduceEq, Int.reduceNeg, wrap_add, e2]
    obtain ⟨τ3, R3, H3⟩ := scan_short_ret H2 1 rfl ht
    refine by_mut R3 ?_
    simp only [if_true, Bool.true_or, List.set_cons_zero, List.set_cons_succ] at H3 ⊢
    obtain ⟨τ4, e4, H4, _⟩ := H3.st 0 rfl 1 1 (.str ⟨#[]⟩) rfl (by decide) (by simp)
    simp only [List.set_cons_zero, List.set_cons_succ, splice_succ, splice_cons, splice_nil, GV.cells, Nat.reduceAdd, List.cons_append, List.nil_append] at H4
    simp +contextual (disch := omega) only [go_sem, Nat.reduceEqDiff, ↓reduceIte, Int.reduceEq, Int.reduceNeg, wrap_add, e4]
    obtain ⟨τ5, R5, H5⟩ := scan_short_ret H4 1 rfl ht
    refine by_mut R5 ?_
    simp only [if_true, Bool.true_or, List.set_cons_zero, List.set_cons_succ] at H5 ⊢
    obtain ⟨τ6, e6, H6, _⟩ := H5.st 0 rfl 1 2 (.str ⟨#[]⟩) rfl (by decide) (by simp)
    simp only [List.set_cons_zero, List.set_cons_succ, splice_succ, splice_cons, splice_nil, GV.cells, Nat.reduceAdd, List.cons_append, List.nil_append] at H6
    obtain ⟨τ7, e7, H7, _⟩ := H6.st 2 rfl 3 0 (.agg [gi 0, .str ⟨#[]⟩, .str ⟨#[]⟩]) rfl (by decide) (by simp)
    simp only [List.set_cons_zero, List.set_cons_succ, splice_succ, splice_cons, splice_nil, GV.cells, Nat.reduceAdd, List.cons_append, List.nil_append] at H7
    simp +contextual (disch := omega) only [go_sem, Nat.reduceEqDiff, ↓reduceIte, Int.reduceEq, Int.reduceNeg, wrap_add, e6, ld_ptr (H6.pt 1 rfl), e7, ld_ptr (H7.pt 2 rfl)]
    refine ⟨by simp [rwG, tup2, notTup], H7.sub⟩
  | some r1 =>
    obtain ⟨k, a⟩ := r1
    obtain ⟨k1, k2, k3, k4, k5⟩ := readVar_spec h1
    rw [h1] at H1
    simp only [Option.isNone_some] at H1
    obtain ⟨τ2, e2, H2, _⟩ := H1.st 0 rfl 1 0 (gi k) rfl (by decide) (by simp)
    simp only [List.set_cons_zero, List.set_cons_succ, splice_succ, splice_cons, splice_nil, GV.cells, Nat.reduceAdd, List.cons_append, List.nil_append] at H2
    simp +contextual (disch := omega) only [go_sem, Nat.reduceEqDiff, ↓reduceIte, Int.reduceEq, Int.reduceNeg, wrap_add, e2]
    obtain ⟨τ3, R3, H3⟩ := scan_short_ret H2 1 rfl ht
    rw [readShortI_nat k4] at R3 H3
    refine by_mut R3 ?_
    simp only [Bool.false_eq_true, if_false, Bool.false_or, List.set_cons_zero, List.set_cons_succ] at H3 ⊢
    cases h2 : readShort t a with
    | none =>
      rw [h2] at H3
      simp only [Option.isNone_none] at H3
      obtain ⟨τ4, e4, H4, _⟩ := H3.st 0 rfl 1 1 (.str ⟨#[]⟩) rfl (by decide) (by simp)
      simp only [List.set_cons_zero, List.set_cons_succ, splice_succ, splice_cons, splice_nil, GV.cells, Nat.reduceAdd, List.cons_append, List.nil_append] at H4
      simp +contextual (disch := omega) only [go_sem, Nat.reduceEqDiff, ↓reduceIte, Int.reduceEq, Int.reduceNeg, wrap_add, e4]
      obtain ⟨τ5, R5, H5⟩ := scan_short_ret H4 1 rfl ht
      refine by_mut R5 ?_
      simp only [if_true, Bool.true_or, List.set_cons_zero, List.set_cons_succ] at H5 ⊢
      obtain ⟨τ6, e6, H6, _⟩ := H5.st 0 rfl 1 2 (.str ⟨#[]⟩) rfl (by decide) (by simp)
      simp only [List.set_cons_zero, List.set_cons_succ, splice_succ, splice_cons, splice_nil, GV.cells, Nat.reduceAdd, List.cons_append, List.nil_append] at H6
      obtain ⟨τ7, e7, H7, _⟩ := H6.st 2 rfl 3 0 (.agg [gi 0, .str ⟨#[]⟩, .str ⟨#[]⟩]) rfl (by decide) (by simp)
      simp only [List.set_cons_zero, List.set_cons_succ, splice_succ, splice_cons, splice_nil, GV.cells, Nat.reduceAdd, List.cons_append, List.nil_append] at H7
      simp +contextual (disch := omega) only [go_sem, Nat.reduceEqDiff, ↓reduceIte, Int.reduceEq, Int.reduceNeg, wrap_add, e6, ld_ptr (H6.pt 1 rfl), e7, ld_ptr (H7.pt 2 rfl), Option.bind_none]
      refine ⟨by simp [rwG, tup2, notTup], H7.sub⟩
    | some r2 =>
      obtain ⟨o, b⟩ := r2
      obtain ⟨o1, o2, o3, o4⟩ := readShort_spec h2
      rw [h2] at H3
      simp only [Option.isNone_some] at H3
      obtain ⟨τ4, e4, H4, _⟩ := H3.st 0 rfl 1 1 (.str o) rfl (by decide) (by simp)
      simp only [List.set_cons_zero, List.set_cons_succ, splice_succ, splice_cons, splice_nil, GV.cells, Nat.reduceAdd, List.cons_append, List.nil_append] at H4
      simp +contextual (disch := omega) only [go_sem, Nat.reduceEqDiff, ↓reduceIte, Int.reduceEq, Int.reduceNeg, wrap_add, e4]
      obtain ⟨τ5, R5, H5⟩ := scan_short_ret H4 1 rfl ht
      rw [readShortI_nat o3] at R5 H5
      refine by_mut R5 ?_
      simp only [Bool.false_eq_true, if_false, Bool.false_or, List.set_cons_zero, List.set_cons_succ] at H5 ⊢
      cases h3 : readShort t b with
      | none =>
        rw [h3] at H5
        simp only [Option.isNone_none] at H5
        obtain ⟨τ6, e6, H6, _⟩ := H5.st 0 rfl 1 2 (.str ⟨#[]⟩) rfl (by decide) (by simp)
        simp only [List.set_cons_zero, List.set_cons_succ, splice_succ, splice_cons, splice_nil, GV.cells, Nat.reduceAdd, List.cons_append, List.nil_append] at H6
        obtain ⟨τ7, e7, H7, _⟩ := H6.st 2 rfl 3 0 (.agg [gi 0, .str ⟨#[]⟩, .str ⟨#[]⟩]) rfl (by decide) (by simp)
        simp only [List.set_cons_zero, List.set_cons_succ, splice_succ, splice_cons, splice_nil, GV.cells, Nat.reduceAdd, List.cons_append, List.nil_append] at H7
        simp +contextual (disch := omega) only [go_sem, Nat.reduceEqDiff, ↓reduceIte, Int.reduceEq, Int.reduceNeg, wrap_add, e6, ld_ptr (H6.pt 1 rfl), e7, ld_ptr (H7.pt 2 rfl), Option.bind_none, Option.bind_some]
        refine ⟨by simp [rwG, tup2, notTup], H7.sub⟩
      | some r3 =>
        obtain ⟨y, c⟩ := r3
        obtain ⟨y1, y2, y3, y4⟩ := readShort_spec h3
        rw [h3] at H5
        simp only [Option.isNone_some] at H5
        obtain ⟨τ6, e6, H6, _⟩ := H5.st 0 rfl 1 2 (.str y) rfl (by decide) (by simp)
        simp only [List.set_cons_zero, List.set_cons_succ, splice_succ, splice_cons, splice_nil, GV.cells, Nat.reduceAdd, List.cons_append, List.nil_append] at H6
        have z5 : rdB τ6 b5 = some [gi k, .str o, .str y] := H6.pt 0 rfl
        have hms : msWatch ⟨k, o, y⟩ ≤ 1099511627776 := by unfold msWatch; simp only; omega
        simp +contextual (disch := omega) only [go_sem, Nat.reduceEqDiff, ↓reduceIte, Int.reduceEq, Int.reduceNeg, wrap_add, e6, ld_ptr (H6.pt 1 rfl), ld_ptr z5]
        obtain ⟨τ7, e7, H7, _⟩ := H6.st 2 rfl 3 0 (.agg [gi 0, .str ⟨#[]⟩, .str ⟨#[]⟩]) rfl (by decide) (by simp)
        simp only [List.set_cons_zero, List.set_cons_succ, splice_succ, splice_cons, splice_nil, GV.cells, Nat.reduceAdd, List.cons_append, List.nil_append] at H7
        refine by_bool (i_WatchOk_ret _ ⟨k, o, y⟩ (by simp only; omega) (by simp only; omega)) (fun hok => ?_) (fun hok => ?_)
        rotate_left
        · have hw : ¬ watchTx ⟨k, o, y⟩ = t := fun e => by
            have := (readWatch_end h1 h2 h3 e).1
            rw [hok] at this; cases this
          simp +contextual (disch := omega) only [go_sem, Nat.reduceEqDiff, ↓reduceIte, Int.reduceEq, Int.reduceNeg, wrap_add, e7, ld_ptr (H7.pt 2 rfl), Option.bind_some]
          rw [if_neg hw]
          refine ⟨by simp [rwG, tup2, notTup], H7.sub⟩
        simp +contextual (disch := omega) only [go_sem, Nat.reduceEqDiff, ↓reduceIte, Int.reduceEq, Int.reduceNeg, wrap_add, ld_ptr z5]
        refine by_ret (i_WatchText_ret _ ⟨k, o, y⟩ hms) ?_
        by_cases hw : watchTx ⟨k, o, y⟩ = t
        · have d2 : decide (watchTx ⟨k, o, y⟩ = t) = true := decide_eq_true hw
          obtain ⟨τ8, e8, H8, _⟩ := H6.st 2 rfl 3 0 (.agg [gi k, .str o, .str y]) rfl (by decide) (by simp)
          simp only [List.set_cons_zero, List.set_cons_succ, splice_succ, splice_cons, splice_nil, GV.cells, Nat.reduceAdd, List.cons_append, List.nil_append] at H8
          simp +contextual (disch := omega) only [go_sem, Nat.reduceEqDiff, ↓reduceIte, Int.reduceEq, Int.reduceNeg, wrap_add, d2, ld_ptr z5, e8, ld_ptr (H8.pt 2 rfl), Option.bind_some]
          rw [if_pos hw]
          refine ⟨by simp [rwG, tup2, notTup], H8.sub⟩
        · have d2 : decide (watchTx ⟨k, o, y⟩ = t) = false := decide_eq_false hw
          simp +contextual (disch := omega) only [go_sem, Nat.reduceEqDiff, ↓reduceIte, Int.reduceEq, Int.reduceNeg, wrap_add, d2, e7, ld_ptr (H7.pt 2 rfl), Option.bind_some]
          rw [if_neg hw]
          refine ⟨by simp [rwG, tup2, notTup], H7.sub⟩
end Go.Proofs.Ytopannfdcikgiaa.Sy

/- Contracts of the laws' own functions: HeqWatch. -/
namespace Go.Proofs.Ytopannfdcikgiaa.Sy
open Go Go.RowKit
set_option linter.unusedSimpArgs false
set_option linter.unusedVariables false
abbrev n_l_eqWatch : Nat := 48
def F_l_eqWatch : Fn1 := ⟨20, [.t 4], (.seq (.reg [o 2 (.box (.t 0)), o 3 (.box (.t 1)), o 4 (.mov (.k (.bool false)))]) (.seq (.seq (.reg [o 5 (.fad 0 (.t 2)), o 6 (.ld false 1 (.t 5)), o 7 (.fad 0 (.t 3)), o 8 (.ld false 1 (.t 7)), o 9 (.bin .neq (.t 6) (.t 8))]) (.cnd (.t 9) (.seq (.reg [o 4 (.mov (.k (.bool false)))]) .ret) .skip)) (.seq (.seq (.reg [o 10 (.fad 1 (.t 2)), o 11 (.ld false 1 (.t 10)), o 12 (.fad 1 (.t 3)), o 13 (.ld false 1 (.t 12)), o 14 (.bin .neq (.t 11) (.t 13))]) (.cnd (.t 14) (.seq (.reg [o 4 (.mov (.k (.bool false)))]) .ret) .skip)) (.seq (.seq (.reg [o 15 (.fad 2 (.t 2)), o 16 (.ld false 1 (.t 15)), o 17 (.fad 2 (.t 3)), o 18 (.ld false 1 (.t 17)), o 19 (.bin .neq (.t 16) (.t 18))]) (.cnd (.t 19) (.seq (.reg [o 4 (.mov (.k (.bool false)))]) .ret) .skip)) (.seq (.reg [o 4 (.mov (.k (.bool true)))]) .ret)))))⟩
theorem ir_l_eqWatch : compFn Try.prog n_l_eqWatch = some F_l_eqWatch := by kernel_rfl
theorem l_eqWatch_ret (σ : St) (x y : Watch) : Ret Try.prog n_l_eqWatch [.agg [.int .i64 x.kind, .str x.obj, .str x.key], .agg [.int .i64 y.kind, .str y.obj, .str y.key]] σ (.bool (decide (x = y))) σ := by
  refine ret_eq ir_l_eqWatch (Nat.le_of_ble_eq_true rfl) trivial ?_
  simp +contextual (disch := omega) only [go_sem, Nat.reduceEqDiff, ↓reduceIte, Int.reduceEq, Int.reduceNeg, wrap_add, F_l_eqWatch, List.append_nil]
  refine ⟨fun hn => ?_, fun hn => ?_⟩
  · simp only [Watch.eq_iff]; simp at hn ⊢; simp [hn]
  have q0 : x.kind = y.kind := by simpa using hn
  refine ⟨fun hn => ?_, fun hn => ?_⟩
  · simp only [Watch.eq_iff]; simp at hn ⊢; simp [hn]
  have q1 : x.obj = y.obj := by simpa using hn
  refine ⟨fun hn => ?_, fun hn => ?_⟩
  · simp only [Watch.eq_iff]; simp at hn ⊢; simp [hn]
  have q2 : x.key = y.key := by simpa using hn
  simp only [Watch.eq_iff, q0, q1, q2, and_self, decide_true]
end Go.Proofs.Ytopannfdcikgiaa.Sy

/- From what an argument can hold to sizes. -/
namespace Go.Proofs.Ytopannfdcikgiaa.Sy
open Go Go.RowKit
theorem zStrS_w {x : List ByteArray} (h : ((x).length ≤ 9223372036854775807 ∧ ∀ y4 ∈ x, (y4).size ≤ 9223372036854775807)) : x.length ≤ 9223372036854775807 ∧ ∀ y ∈ x, wString y := ⟨h.1, fun y hy => h.2 y hy⟩
theorem zIntSS_w {x : List (List Int)} (h : ((x).length ≤ 9223372036854775807 ∧ ∀ y5 ∈ x, ((y5).length ≤ 9223372036854775807 ∧ ∀ y4 ∈ y5, I64 (y4)))) : x.length ≤ 9223372036854775807 ∧ ∀ y ∈ x, wIntS y := ⟨h.1, fun y hy => (h.2 y hy).1⟩
theorem zTally_w {x : Tally} (h : zTally x) : wTally x := h.1
theorem zTallyS_w {x : List Tally} (h : ((x).length ≤ 9223372036854775807 ∧ ∀ y6 ∈ x, zTally (y6))) : x.length ≤ 9223372036854775807 ∧ ∀ y ∈ x, wTally y := ⟨h.1, fun y hy => zTally_w (h.2 y hy)⟩
theorem zLive_w {x : Live} (h : zLive x) : wLive x := ⟨h.2.1, h.2.2.1⟩
theorem zLiveS_w {x : List Live} (h : ((x).length ≤ 9223372036854775807 ∧ ∀ y5 ∈ x, zLive (y5))) : x.length ≤ 9223372036854775807 ∧ ∀ y ∈ x, wLive y := ⟨h.1, fun y hy => zLive_w (h.2 y hy)⟩
theorem zCell_w {x : Cell} (h : zCell x) : wCell x := h.1
theorem zCellS_w {x : List Cell} (h : ((x).length ≤ 9223372036854775807 ∧ ∀ y5 ∈ x, zCell (y5))) : x.length ≤ 9223372036854775807 ∧ ∀ y ∈ x, wCell y := ⟨h.1, fun y hy => zCell_w (h.2 y hy)⟩
theorem zEdit_w {x : Edit} (h : zEdit x) : wEdit x := ⟨h.2.1, h.2.2.1⟩
theorem zEditS_w {x : List Edit} (h : ((x).length ≤ 9223372036854775807 ∧ ∀ y5 ∈ x, zEdit (y5))) : x.length ≤ 9223372036854775807 ∧ ∀ y ∈ x, wEdit y := ⟨h.1, fun y hy => zEdit_w (h.2 y hy)⟩
theorem zWatch_w {x : Watch} (h : zWatch x) : wWatch x := ⟨h.2.1, h.2.2⟩
theorem zWatchS_w {x : List Watch} (h : ((x).length ≤ 9223372036854775807 ∧ ∀ y6 ∈ x, zWatch (y6))) : x.length ≤ 9223372036854775807 ∧ ∀ y ∈ x, wWatch y := ⟨h.1, fun y hy => zWatch_w (h.2 y hy)⟩
theorem zClash_w {x : Clash} (h : zClash x) : wClash x := ⟨h.1, h.2⟩
theorem zClashS_w {x : List Clash} (h : ((x).length ≤ 9223372036854775807 ∧ ∀ y6 ∈ x, zClash (y6))) : x.length ≤ 9223372036854775807 ∧ ∀ y ∈ x, wClash y := ⟨h.1, fun y hy => zClash_w (h.2 y hy)⟩
theorem zFile_w {x : File} (h : zFile x) : wFile x := h.1
theorem zFileS_w {x : List File} (h : ((x).length ≤ 9223372036854775807 ∧ ∀ y5 ∈ x, zFile (y5))) : x.length ≤ 9223372036854775807 ∧ ∀ y ∈ x, wFile y := ⟨h.1, fun y hy => zFile_w (h.2 y hy)⟩
theorem zLetter_w {x : Letter} (h : zLetter x) : wLetter x := h.2
theorem zLetterS_w {x : List Letter} (h : ((x).length ≤ 9223372036854775807 ∧ ∀ y7 ∈ x, zLetter (y7))) : x.length ≤ 9223372036854775807 ∧ ∀ y ∈ x, wLetter y := ⟨h.1, fun y hy => zLetter_w (h.2 y hy)⟩
theorem zEvent_w {x : Event} (h : zEvent x) : wEvent x := zEdit_w h.2.2.2
theorem zEventS_w {x : List Event} (h : ((x).length ≤ 9223372036854775807 ∧ ∀ y6 ∈ x, zEvent (y6))) : x.length ≤ 9223372036854775807 ∧ ∀ y ∈ x, wEvent y := ⟨h.1, fun y hy => zEvent_w (h.2 y hy)⟩
theorem zAct_w {x : Act} (h : zAct x) : wAct x := ⟨h.2.2.1.1, h.2.2.2.2.1, h.2.2.2.2.2.1⟩
theorem zActS_w {x : List Act} (h : ((x).length ≤ 9223372036854775807 ∧ ∀ y4 ∈ x, zAct (y4))) : x.length ≤ 9223372036854775807 ∧ ∀ y ∈ x, wAct y := ⟨h.1, fun y hy => zAct_w (h.2 y hy)⟩
theorem zState_w {x : State} (h : zState x) : wState x := ⟨h.1.1, zTallyS_w h.2.1, zLiveS_w h.2.2.1, zCellS_w h.2.2.2⟩
theorem zStateS_w {x : List State} (h : ((x).length ≤ 9223372036854775807 ∧ ∀ y6 ∈ x, zState (y6))) : x.length ≤ 9223372036854775807 ∧ ∀ y ∈ x, wState y := ⟨h.1, fun y hy => zState_w (h.2 y hy)⟩
theorem zDelta_w {x : Delta} (h : zDelta x) : wDelta x := ⟨h.1.1, h.2.1.1, zTallyS_w h.2.2.1, zLiveS_w h.2.2.2.1, h.2.2.2.2.1.1, zCellS_w h.2.2.2.2.2⟩
theorem zDeltaS_w {x : List Delta} (h : ((x).length ≤ 9223372036854775807 ∧ ∀ y6 ∈ x, zDelta (y6))) : x.length ≤ 9223372036854775807 ∧ ∀ y ∈ x, wDelta y := ⟨h.1, fun y hy => zDelta_w (h.2 y hy)⟩
theorem zUnit__w {x : Unit_} (h : zUnit_ x) : wUnit x := ⟨zAct_w h.2.1, zDelta_w h.2.2⟩
theorem zUnitS_w {x : List Unit_} (h : ((x).length ≤ 9223372036854775807 ∧ ∀ y6 ∈ x, zUnit_ (y6))) : x.length ≤ 9223372036854775807 ∧ ∀ y ∈ x, wUnit y := ⟨h.1, fun y hy => zUnit__w (h.2 y hy)⟩
theorem zLog_w {x : Log} (h : zLog x) : wLog x := ⟨zState_w h.2.2.1, zUnitS_w h.2.2.2.1, zUnitS_w h.2.2.2.2⟩
theorem zLogS_w {x : List Log} (h : ((x).length ≤ 9223372036854775807 ∧ ∀ y4 ∈ x, zLog (y4))) : x.length ≤ 9223372036854775807 ∧ ∀ y ∈ x, wLog y := ⟨h.1, fun y hy => zLog_w (h.2 y hy)⟩
theorem zCommit_w {x : Commit} (h : zCommit x) : wCommit x := ⟨h.2.1.1, zState_w h.2.2⟩
theorem zCommitS_w {x : List Commit} (h : ((x).length ≤ 9223372036854775807 ∧ ∀ y7 ∈ x, zCommit (y7))) : x.length ≤ 9223372036854775807 ∧ ∀ y ∈ x, wCommit y := ⟨h.1, fun y hy => zCommit_w (h.2 y hy)⟩
theorem zGraph_w {x : Graph} (h : zGraph x) : wGraph x := zCommitS_w h.1
theorem zGraphS_w {x : List Graph} (h : ((x).length ≤ 9223372036854775807 ∧ ∀ y6 ∈ x, zGraph (y6))) : x.length ≤ 9223372036854775807 ∧ ∀ y ∈ x, wGraph y := ⟨h.1, fun y hy => zGraph_w (h.2 y hy)⟩
theorem zReplica_w {x : Replica} (h : zReplica x) : wReplica x := ⟨zLog_w h.2.1, zGraph_w h.2.2.1, zFile_w h.2.2.2.1, zUnitS_w h.2.2.2.2⟩
theorem zReplicaS_w {x : List Replica} (h : ((x).length ≤ 9223372036854775807 ∧ ∀ y8 ∈ x, zReplica (y8))) : x.length ≤ 9223372036854775807 ∧ ∀ y ∈ x, wReplica y := ⟨h.1, fun y hy => zReplica_w (h.2 y hy)⟩
theorem zWorld__w {x : World_} (h : zWorld_ x) : wWorld x := ⟨zReplicaS_w h.1, zLetterS_w h.2.1, h.2.2.1.1, zIntSS_w h.2.2.2⟩
theorem zWorldS_w {x : List World_} (h : ((x).length ≤ 9223372036854775807 ∧ ∀ y7 ∈ x, zWorld_ (y7))) : x.length ≤ 9223372036854775807 ∧ ∀ y ∈ x, wWorld y := ⟨h.1, fun y hy => zWorld__w (h.2 y hy)⟩
theorem zScript_w {x : Script} (h : zScript x) : wScript x := ⟨h.1.1, zEventS_w h.2.1⟩
theorem zScriptS_w {x : List Script} (h : ((x).length ≤ 9223372036854775807 ∧ ∀ y7 ∈ x, zScript (y7))) : x.length ≤ 9223372036854775807 ∧ ∀ y ∈ x, wScript y := ⟨h.1, fun y hy => zScript_w (h.2 y hy)⟩
end Go.Proofs.Ytopannfdcikgiaa.Sy

/- The law of ReadWatch. -/
namespace Go.Proofs.Ytopannfdcikgiaa.Sy
open Go Go.RowKit
set_option linter.unusedSimpArgs false
set_option linter.unusedVariables false
set_option maxRecDepth 4000
abbrev n_l_FnExactReadWatch : Nat := 10
def F_l_FnExactReadWatch : Fn1 := ⟨29, [.t 2], (.seq (.reg [o 2 (.mov (.k (.bool false)))]) (.seq (.seq (.reg [o 7 (.mov (.t 0)), o 8 (.len true (.t 7)), o 9 (.bin .gtr (.t 8) (.k (.int .i64 1048576)))]) (.cnd (.t 9) (.seq (.reg [o 2 (.mov (.k (.bool true)))]) .ret) .skip)) (.seq (.reg [o 11 (.mov (.t 0)), o 12 (.call 46 [(.t 11)]), o 10 (.mov (.t 12)), o 13 (.ext 0 (.t 10)), o 14 (.ext 1 (.t 10)), o 3 (.new [(.int .i64 0), (.str ⟨#[]⟩), (.str ⟨#[]⟩)]), on (.st 3 (.t 3) (.t 13)), o 4 (.mov (.t 14))]) (.seq (.reg [o 16 (.mov (.t 0)), o 17 (.call 47 [(.t 16)]), o 15 (.mov (.t 17)), o 18 (.ext 0 (.t 15)), o 19 (.ext 1 (.t 15)), o 5 (.new [(.int .i64 0), (.str ⟨#[]⟩), (.str ⟨#[]⟩)]), on (.st 3 (.t 5) (.t 18)), o 6 (.mov (.t 19))]) (.seq (.seq (.reg [o 20 (.ld true 3 (.t 5)), o 21 (.ld true 3 (.t 3)), o 22 (.call 48 [(.t 20), (.t 21)]), o 23 (.un .not (.t 22)), o 24 (.mov (.t 23)), og 25 24 false (.mov (.t 6)), og 26 24 false (.mov (.t 4)), og 27 24 false (.eqb true (.t 25) (.t 26)), o 28 (.pick (.t 24) (.k (.bool true)) (.t 27))]) (.cnd (.t 28) (.seq (.reg [o 2 (.mov (.k (.bool false)))]) .ret) .skip)) (.seq (.reg [o 2 (.mov (.k (.bool true)))]) .ret))))))⟩
theorem ir_l_FnExactReadWatch : compFn Try.prog n_l_FnExactReadWatch = some F_l_FnExactReadWatch := by kernel_rfl
theorem rwG_is (r : Option Watch) : ∃ (w : Watch) (b : Bool), rwG r = .tup [.agg [gi w.kind, .str w.obj, .str w.key], .bool b] ∧ (w.obj.size + w.key.size ≤ 0 ∨ r = some w) := by
  cases r with
  | none => exact ⟨⟨0, ⟨#[]⟩, ⟨#[]⟩⟩, false, rfl, .inl (by decide)⟩
  | some w => exact ⟨w, true, rfl, .inr rfl⟩
theorem readWatch_ok {t : ByteArray} {w : Watch} (h : readWatch t = some w) : w.obj.size + w.key.size ≤ 40000 := by
  unfold readWatch at h
  obtain ⟨k, hk, h⟩ := Option.bind_eq_some_iff.1 h
  obtain ⟨o, ho, h⟩ := Option.bind_eq_some_iff.1 h
  obtain ⟨y, hy, h⟩ := Option.bind_eq_some_iff.1 h
  split at h
  · injection h with h
    subst h
    have h1 := (readShort_spec (s := o.1) (q := o.2) ho).1
    have h2 := (readShort_spec (s := y.1) (q := y.2) hy).1
    simp only; omega
  · cases h
theorem law_ReadWatch (σ : St) (x0 : ByteArray) (hw0 : x0.size ≤ 9223372036854775807) : ∃ r τ, Ret Try.prog n_l_FnExactReadWatch [.str x0] σ r τ ∧ r = .bool true := by
  refine ret_law ir_l_FnExactReadWatch (Nat.le_of_ble_eq_true rfl) ?_
  simp +contextual (disch := omega) only [go_sem, Nat.reduceEqDiff, ↓reduceIte, Int.reduceEq, Int.reduceNeg, wrap_add, F_l_FnExactReadWatch]
  intro hn
  have hn := of_decide_eq_false hn
  obtain ⟨w, b, e, _⟩ := rwG_is (readWatch x0)
  refine by_ret (s_ReadWatch_ret _ x0 (by omega)) ?_
  simp +contextual (disch := omega) only [go_sem, Nat.reduceEqDiff, ↓reduceIte, Int.reduceEq, Int.reduceNeg, wrap_add, e]
  refine by_ret (i_ReadWatch_ret _ x0 (by omega)) ?_
  simp +contextual (disch := omega) only [go_sem, Nat.reduceEqDiff, ↓reduceIte, Int.reduceEq, Int.reduceNeg, wrap_add, e]
  refine by_ret (l_eqWatch_ret _ w w) ?_
  simp +contextual (disch := omega) only [go_sem, Nat.reduceEqDiff, ↓reduceIte, Int.reduceEq, Int.reduceNeg, wrap_add, decide_true, eq_self, beq_self_eq_true, Bool.true_bne, bne_self_eq_false, Bool.xor_true]
  simp
end Go.Proofs.Ytopannfdcikgiaa.Sy

