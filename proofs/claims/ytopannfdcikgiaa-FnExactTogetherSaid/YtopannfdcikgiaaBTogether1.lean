/- Texts of this proof, one behind the other. -/
import Derived.Test.YtopannfdcikgiaaBB
import Derived.Test.YtopannfdcikgiaaProg
import Derived.KernelRfl
/- Words for the laws' own functions: sizes, marks. -/
namespace Go.Proofs.Ytopannfdcikgiaa.Sy
open Go Go.RowKit
set_option linter.unusedSimpArgs false
set_option linter.unusedVariables false
/-- What is left of n when m are taken; -1 when there are not so many. -/
def lf (n : Int) (m : Nat) : Int := if n - m < 0 then -1 else n - m
theorem lf_neg {n : Int} {m : Nat} : lf n m < 0 ↔ n < m := by unfold lf; split <;> omega
theorem lf_zero {n : Int} (h : 0 ≤ n) : lf n 0 = n := by unfold lf; rw [if_neg (by omega)]; simp
theorem lf_some {n : Int} {m : Nat} (h : ¬ lf n m < 0) : lf n m = n - m := by unfold lf at *; split at h <;> first | omega | (rw [if_neg ‹_›])
theorem lf_none {n : Int} {m : Nat} (h : lf n m < 0) : lf n m = -1 := by unfold lf at *; split at h <;> first | (rw [if_pos ‹_›]) | omega
theorem lf_le {n : Int} {m : Nat} (h : 0 ≤ n) : lf n m ≤ n := by unfold lf; split <;> omega
theorem lf_ge {n : Int} {m : Nat} : -1 ≤ lf n m := by unfold lf; split <;> omega
/-- Taken one after another. -/
theorem lf_seq {n : Int} {a b : Nat} (h : ¬ lf n a < 0) : lf (lf n a) b = lf n (a + b) := by
  rw [lf_some h]; unfold lf; simp only [Int.natCast_add]
  by_cases h2 : n - a - b < 0
  · rw [if_pos h2, if_pos (by omega)]
  · rw [if_neg h2, if_neg (by omega)]; omega
theorem lf_stop {n : Int} {a b : Nat} (h : lf n a < 0) : lf n (a + b) = -1 := by
  have := lf_neg.1 h
  unfold lf; rw [if_pos (by omega)]
def msL {α : Type} (f : α → Nat) (l : List α) : Nat := l.length + (l.map f).sum
def sumL {α : Type} (f : α → Nat) (l : List α) : Nat := (l.map f).sum
theorem sumL_snoc {α : Type} {f : α → Nat} {l : List α} {i : Nat} (h : i < l.length) : sumL f (l.take (i + 1)) = sumL f (l.take i) + f l[i] := by
  unfold sumL; rw [take_snoc h, List.map_append, List.sum_append]; simp
theorem sumL_take_le {α : Type} (f : α → Nat) (l : List α) (i : Nat) : sumL f (l.take i) ≤ sumL f l := by
  have : sumL f l = sumL f (l.take i) + sumL f (l.drop i) := by
    conv => lhs; rw [← List.take_append_drop i l]
    unfold sumL; rw [List.map_append, List.sum_append]
  omega
theorem sumL_mem {α : Type} {f : α → Nat} {l : List α} {x : α} (h : x ∈ l) : f x ≤ sumL f l := by
  induction l with
  | nil => simp at h
  | cons y l ih =>
    simp only [sumL, List.map_cons, List.sum_cons] at *
    rcases List.mem_cons.1 h with rfl | h
    · omega
    · have := ih h; omega
theorem fld_zero {z i : Nat} {v : GV} : fld 0 (atz z v i) = atz z v i := by
  cases v <;> rfl
theorem reps_enc {α : Type} (p : Pl α) (x : α) (n : Nat) : reps n (p.enc x) = p.cells (List.replicate n x) := by
  unfold reps
  induction n with
  | zero => rfl
  | succ n ih =>
    rw [List.replicate_succ, List.flatten_cons, ih, List.replicate_succ]; rfl
theorem fill_step {α : Type} {l : List α} {z : α} {i : Nat} (h : i < l.length) : (l.take i ++ List.replicate (l.length - i) z).set i l[i] = l.take (i + 1) ++ List.replicate (l.length - (i + 1)) z := by
  rw [take_snoc h, List.set_append_right _ _ (by simp; omega)]
  have e1 : i - (l.take i).length = 0 := by simp; omega
  rw [e1, show l.length - i = (l.length - (i + 1)) + 1 by omega, List.replicate_succ, List.set_cons_zero, List.append_assoc]
  rfl
theorem fill_len {α : Type} {l : List α} {z : α} {i : Nat} (h : i < l.length) : i < (l.take i ++ List.replicate (l.length - i) z).length := by simp; omega
theorem fill_end {α : Type} {l : List α} {z : α} : l.take l.length ++ List.replicate (l.length - l.length) z = l := by simp
/-- Marks of a row: each takes c numbers. -/
def mkF {α : Type} (e : Int → α) (c : Nat) (k : Int) (n : Nat) : List α := (List.range n).map fun j : Nat => e (k + c * j)
theorem mkF_length {α : Type} {e : Int → α} {c : Nat} {k : Int} {n : Nat} : (mkF e c k n).length = n := by simp [mkF]
theorem mkF_get {α : Type} {e : Int → α} {c : Nat} {k : Int} {n j : Nat} (h : j < (mkF e c k n).length) : (mkF e c k n)[j] = e (k + c * j) := by simp [mkF]
theorem mark_step {α : Type} {l : List α} {e : Int → α} {c : Nat} {k : Int} {i : Nat} (h : i < l.length) : ((mkF e c k l.length).take i ++ l.drop i).set i (e (k + c * i)) = (mkF e c k l.length).take (i + 1) ++ l.drop (i + 1) := by
  have hki : i < (mkF e c k l.length).length := by rw [mkF_length]; exact h
  rw [take_snoc hki, mkF_get, List.set_append_right _ _ (by simp [mkF_length]; omega)]
  have e1 : i - ((mkF e c k l.length).take i).length = 0 := by simp [mkF_length]; omega
  rw [e1, List.drop_eq_getElem_cons h, List.set_cons_zero, List.append_assoc]
  rfl
theorem mark_len {α : Type} {l : List α} {e : Int → α} {c : Nat} {k : Int} {i : Nat} : ((mkF e c k l.length).take i ++ l.drop i).length = l.length := by simp [mkF_length]; omega
theorem mark_end {α : Type} {l : List α} {e : Int → α} {c : Nat} {k : Int} : (mkF e c k l.length).take l.length ++ l.drop l.length = mkF e c k l.length := by
  rw [List.take_of_length_le (by rw [mkF_length]; omega)]; simp
namespace Hp
/-- Cells of an element that is in hand are written. -/
theorem sts {α : Type} {p : Pl α} {σ τ : St} {rs : List Thg} {v : GV} {L : List α} {j : Nat} {y : α} (H : Hp σ τ (ow p.kd v (L.set j y) :: rs)) (hj : j < L.length) (n k : Nat) (x : GV) (y' : α) (hx : x.cells.length = n) (hn : 0 < n) (hk : k + n ≤ p.z) (hy : p.enc y' = splice (p.enc y) k x.cells) :
    ∃ τ', stG n τ (fld k (atz p.z v j)) x = some (.tup [], τ') ∧ Hp σ τ' (ow p.kd v (L.set j y') :: rs) := by
  obtain ⟨τ', e, h⟩ := H.ste 0 rfl (j := j) (by simpa using hj) n k x y' hx hn hk (by rw [List.getElem_set_self]; exact hy)
  refine ⟨τ', e, ?_⟩
  have h : Hp σ τ' (ow p.kd v ((L.set j y).set j y') :: rs) := h
  rw [List.set_set] at h; exact h
end Hp
theorem set_self {α : Type} {l : List α} {i : Nat} (h : i < l.length) : l = l.set i l[i] := by rw [List.set_getElem_self]
/-- The text of a mark. -/
def figs (n : Nat) : List Int := if n = 0 then [] else figs (n / 10) ++ [48 + ((n % 10 : Nat) : Int)]
termination_by n
decreasing_by omega
def mtx (k : Int) : ByteArray := if k ≤ 0 then ⟨#[109, 48]⟩ else ⟨#[109]⟩ ++ txt (figs k.toNat)
abbrev n_l_markText : Nat := 129
def F_l_markText : Fn1 := ⟨20, [.t 2], (.seq (.reg [o 2 (.mov (.k (.str ⟨#[]⟩)))]) (.seq (.seq (.reg [o 4 (.mov (.t 0)), o 5 (.bin .leq (.t 4) (.k (.int .i64 0)))]) (.cnd (.t 5) (.seq (.reg [o 2 (.mov (.k (.str ⟨#[109, 48]⟩)))]) .ret) .skip)) (.seq (.reg [o 3 (.mov (.k (.str ⟨#[]⟩)))]) (.seq (.blk 0 (.lop (.seq (.seq (.reg [o 6 (.mov (.t 0)), o 7 (.bin .gtr (.t 6) (.k (.int .i64 0)))]) (.cnd (.t 7) .skip (.ext 0))) (.blk 1 (.seq (.reg [o 8 (.mov (.t 0)), o 9 (.bin .rem (.t 8) (.k (.int .i64 10))), o 10 (.bin .add (.k (.int .i64 48)) (.t 9)), o 11 (.cvi .u8 (.t 10)), o 12 (.lit 1 1 [(.int .u8 0)] [(0, 1, (.t 11))]), o 13 (.bts (.t 12)), o 14 (.mov (.t 3)), o 15 (.bin .add (.t 13) (.t 14)), o 3 (.mov (.t 15))]) (.reg [o 16 (.mov (.t 0)), o 17 (.bin .quo (.t 16) (.k (.int .i64 10))), o 0 (.mov (.t 17))])))))) (.seq (.reg [o 18 (.mov (.t 3)), o 19 (.bin .add (.k (.str ⟨#[109]⟩)) (.t 18)), o 2 (.mov (.t 19))]) .ret)))))⟩
theorem ir_l_markText : compFn Try.prog n_l_markText = some F_l_markText := by kernel_rfl
theorem figs_length (n : Nat) : (figs n).length ≤ n := by
  induction n using Nat.strongRecOn with
  | _ n ih =>
    unfold figs
    split
    · simp
    · have := ih (n / 10) (by omega)
      simp; omega
theorem txt_size (l : List Int) : (txt l).size = l.length := by simp [txt, ByteArray.size]
theorem figs_app (n : Nat) (h : 0 < n) (s : List Int) : figs (n / 10) ++ ((48 + ((n % 10 : Nat) : Int)) :: s) = figs n ++ s := by
  conv => rhs; unfold figs
  rw [if_neg (by omega)]; simp
theorem bts_new {τ : St} {n : Int} : ((elems (τ ++ [some (.row 1 [.int .u8 n])]) 1 (.sl τ.length 0 1)).bind fun r => (bytesOf r.2).map fun bs => GV.str ⟨bs.toArray⟩) = some (.str (txt [n])) := by
  refine bts_ok (.inr ⟨τ.length, 0, [.int .u8 n], rfl, by unfold rdB; simp [Blk.cells], by show 0 + 1 * 1 ≤ 1; omega, fun i x hx => ?_⟩)
  cases i with
  | zero => simp at hx; subst hx; rfl
  | succ i => simp at hx
theorem l_markText_ret (σ : St) (k : Int) (hk : k ≤ 4611686018427387904) : Ret Try.prog n_l_markText [gi k] σ (.str (mtx k)) σ := by
  refine ret_eq ir_l_markText (Nat.le_of_ble_eq_true rfl) trivial ?_
  simp +contextual (disch := omega) only [go_sem, Nat.reduceEqDiff, ↓reduceIte, Int.reduceEq, Int.reduceNeg, wrap_add, F_l_markText]
  refine ⟨fun h => ?_, fun h => ?_⟩
  · rw [mtx, if_pos (of_decide_eq_true h)]
  · have h := of_decide_eq_false h
    have hf := figs_length k.toNat
    refine vc_lop (fun q env τ => ∃ (s : List Int), env 0 = gi q ∧ q ≤ k.toNat ∧ env 3 = .str (txt s) ∧ figs q ++ s = figs k.toNat ∧ σ <+: τ) k.toNat ⟨[], by show gi k = _; rw [Int.toNat_of_nonneg (by omega)], Nat.le_refl _, rfl, by simp, List.prefix_refl _⟩ ?_
    rintro m env τ ⟨s, e0, hmk, e3, hs, hp⟩
    have hsl : s.length ≤ k.toNat := by have := congrArg List.length hs; simp at this; omega
    rcases Nat.eq_zero_or_pos m with rfl | hm
    · have hs' : s = figs k.toNat := by rw [← hs, figs]; simp
      have hsz : (⟨#[109]⟩ : ByteArray).size = 1 := rfl
      have hle : 1 + s.length ≤ 9223372036854775807 := by omega
      simp +contextual (disch := omega) only [go_sem, Nat.reduceEqDiff, ↓reduceIte, Int.reduceEq, Int.reduceNeg, wrap_add, e0, e3, hp, txt_size, hsz, hle, Int.natCast_zero, Int.lt_irrefl]
      rw [mtx, if_neg h, hs']
    · have hgt : decide (0 < (m : Int)) = true := by simp; omega
      have hle : 1 + s.length ≤ 9223372036854775807 := by omega
      have hm10 : (m : Int).tmod 10 = ((m % 10 : Nat) : Int) := by rw [Int.tmod_eq_emod_of_nonneg (by omega)]; omega
      have hd10 : (m : Int).tdiv 10 = ((m / 10 : Nat) : Int) := by rw [Int.tdiv_eq_ediv_of_nonneg (by omega)]; omega
      have h10 : ((10 : Int) = 0) = False := by simp
      have hw8 : IntKind.u8.wrap (48 + ((m % 10 : Nat) : Int)) = 48 + ((m % 10 : Nat) : Int) := wrap8 (by omega) (by omega)
      simp +contextual (disch := omega) only [go_sem, Nat.reduceEqDiff, ↓reduceIte, Int.reduceEq, Int.reduceNeg, wrap_add, e0, e3, hgt, h10, hm10, hd10, hw8, hle, bts_new, txt_size, ← txt_append]
      refine ⟨m / 10, by omega, _, rfl, by omega, rfl, ?_, pre_app hp _⟩
      rw [← hs, ← figs_app m hm]
end Go.Proofs.Ytopannfdcikgiaa.Sy

/- Contracts of the laws' own functions: sizes. -/
namespace Go.Proofs.Ytopannfdcikgiaa.Sy
open Go Go.RowKit
set_option linter.unusedSimpArgs false
set_option linter.unusedVariables false
def msString (s : ByteArray) : Nat := s.size
def wString (s : ByteArray) : Prop := s.size ≤ 9223372036854775807
def msIntS (l : List Int) : Nat := l.length
def wIntS (l : List Int) : Prop := l.length ≤ 9223372036854775807
def msTally (x : Tally) : Nat := x.obj.size
def wTally (x : Tally) : Prop := x.obj.size ≤ 9223372036854775807
def msLive (x : Live) : Nat := x.obj.size + x.key.size
def wLive (x : Live) : Prop := x.obj.size ≤ 9223372036854775807 ∧ x.key.size ≤ 9223372036854775807
def msCell (x : Cell) : Nat := x.obj.size
def wCell (x : Cell) : Prop := x.obj.size ≤ 9223372036854775807
def msEdit (x : Edit) : Nat := x.obj.size + x.key.size
def wEdit (x : Edit) : Prop := x.obj.size ≤ 9223372036854775807 ∧ x.key.size ≤ 9223372036854775807
def msWatch (x : Watch) : Nat := x.obj.size + x.key.size
def wWatch (x : Watch) : Prop := x.obj.size ≤ 9223372036854775807 ∧ x.key.size ≤ 9223372036854775807
def msClash (x : Clash) : Nat := x.obj.size + x.key.size
def wClash (x : Clash) : Prop := x.obj.size ≤ 9223372036854775807 ∧ x.key.size ≤ 9223372036854775807
def msFile (x : File) : Nat := x.text.size
def wFile (x : File) : Prop := x.text.size ≤ 9223372036854775807
def msLetter (x : Letter) : Nat := x.text.size
def wLetter (x : Letter) : Prop := x.text.size ≤ 9223372036854775807
def msEvent (x : Event) : Nat := msEdit x.edit
def wEvent (x : Event) : Prop := wEdit x.edit
def msAct (x : Act) : Nat := x.knew.length + x.obj.size + x.key.size
def wAct (x : Act) : Prop := x.knew.length ≤ 9223372036854775807 ∧ x.obj.size ≤ 9223372036854775807 ∧ x.key.size ≤ 9223372036854775807
instance : DecidableEq Act := fun a b => if h : a.dot = b.dot ∧ a.time = b.time ∧ a.knew = b.knew ∧ a.kind = b.kind ∧ a.obj = b.obj ∧ a.key = b.key ∧ a.val = b.val ∧ a.ref = b.ref then isTrue (by cases a; cases b; simp only at h; obtain ⟨rfl, rfl, rfl, rfl, rfl, rfl, rfl, rfl⟩ := h; rfl) else isFalse (fun e => h (by subst e; exact ⟨rfl, rfl, rfl, rfl, rfl, rfl, rfl, rfl⟩))
theorem Act.eq_iff {a b : Act} : a = b ↔ a.dot = b.dot ∧ a.time = b.time ∧ a.knew = b.knew ∧ a.kind = b.kind ∧ a.obj = b.obj ∧ a.key = b.key ∧ a.val = b.val ∧ a.ref = b.ref := ⟨fun h => by subst h; exact ⟨rfl, rfl, rfl, rfl, rfl, rfl, rfl, rfl⟩, fun h => by cases a; cases b; simp only at h; obtain ⟨rfl, rfl, rfl, rfl, rfl, rfl, rfl, rfl⟩ := h; rfl⟩
def msState (x : State) : Nat := x.know.length + (x.tallies.length + sumL msTally x.tallies) + (x.lives.length + sumL msLive x.lives) + (x.cells.length + sumL msCell x.cells)
def wState (x : State) : Prop := x.know.length ≤ 9223372036854775807 ∧ (x.tallies.length ≤ 9223372036854775807 ∧ ∀ y ∈ x.tallies, wTally y) ∧ (x.lives.length ≤ 9223372036854775807 ∧ ∀ y ∈ x.lives, wLive y) ∧ (x.cells.length ≤ 9223372036854775807 ∧ ∀ y ∈ x.cells, wCell y)
instance : DecidableEq State := fun a b => if h : a.know = b.know ∧ a.tallies = b.tallies ∧ a.lives = b.lives ∧ a.cells = b.cells then isTrue (by cases a; cases b; simp only at h; obtain ⟨rfl, rfl, rfl, rfl⟩ := h; rfl) else isFalse (fun e => h (by subst e; exact ⟨rfl, rfl, rfl, rfl⟩))
theorem State.eq_iff {a b : State} : a = b ↔ a.know = b.know ∧ a.tallies = b.tallies ∧ a.lives = b.lives ∧ a.cells = b.cells := ⟨fun h => by subst h; exact ⟨rfl, rfl, rfl, rfl⟩, fun h => by cases a; cases b; simp only at h; obtain ⟨rfl, rfl, rfl, rfl⟩ := h; rfl⟩
def msDelta (x : Delta) : Nat := x.base.length + x.know.length + (x.tallies.length + sumL msTally x.tallies) + (x.lives.length + sumL msLive x.lives) + x.dead.length + (x.cells.length + sumL msCell x.cells)
def wDelta (x : Delta) : Prop := x.base.length ≤ 9223372036854775807 ∧ x.know.length ≤ 9223372036854775807 ∧ (x.tallies.length ≤ 9223372036854775807 ∧ ∀ y ∈ x.tallies, wTally y) ∧ (x.lives.length ≤ 9223372036854775807 ∧ ∀ y ∈ x.lives, wLive y) ∧ x.dead.length ≤ 9223372036854775807 ∧ (x.cells.length ≤ 9223372036854775807 ∧ ∀ y ∈ x.cells, wCell y)
instance : DecidableEq Delta := fun a b => if h : a.base = b.base ∧ a.know = b.know ∧ a.tallies = b.tallies ∧ a.lives = b.lives ∧ a.dead = b.dead ∧ a.cells = b.cells then isTrue (by cases a; cases b; simp only at h; obtain ⟨rfl, rfl, rfl, rfl, rfl, rfl⟩ := h; rfl) else isFalse (fun e => h (by subst e; exact ⟨rfl, rfl, rfl, rfl, rfl, rfl⟩))
theorem Delta.eq_iff {a b : Delta} : a = b ↔ a.base = b.base ∧ a.know = b.know ∧ a.tallies = b.tallies ∧ a.lives = b.lives ∧ a.dead = b.dead ∧ a.cells = b.cells := ⟨fun h => by subst h; exact ⟨rfl, rfl, rfl, rfl, rfl, rfl⟩, fun h => by cases a; cases b; simp only at h; obtain ⟨rfl, rfl, rfl, rfl, rfl, rfl⟩ := h; rfl⟩
def msUnit (x : Unit_) : Nat := msAct x.act + msDelta x.delta
def wUnit (x : Unit_) : Prop := wAct x.act ∧ wDelta x.delta
instance : DecidableEq Unit_ := fun a b => if h : a.batch = b.batch ∧ a.act = b.act ∧ a.delta = b.delta then isTrue (by cases a; cases b; simp only at h; obtain ⟨rfl, rfl, rfl⟩ := h; rfl) else isFalse (fun e => h (by subst e; exact ⟨rfl, rfl, rfl⟩))
theorem Unit_.eq_iff {a b : Unit_} : a = b ↔ a.batch = b.batch ∧ a.act = b.act ∧ a.delta = b.delta := ⟨fun h => by subst h; exact ⟨rfl, rfl, rfl⟩, fun h => by cases a; cases b; simp only at h; obtain ⟨rfl, rfl, rfl⟩ := h; rfl⟩
def msLog (x : Log) : Nat := msState x.state + (x.units.length + sumL msUnit x.units) + (x.waits.length + sumL msUnit x.waits)
def wLog (x : Log) : Prop := wState x.state ∧ (x.units.length ≤ 9223372036854775807 ∧ ∀ y ∈ x.units, wUnit y) ∧ (x.waits.length ≤ 9223372036854775807 ∧ ∀ y ∈ x.waits, wUnit y)
instance : DecidableEq Log := fun a b => if h : a.rep = b.rep ∧ a.time = b.time ∧ a.state = b.state ∧ a.units = b.units ∧ a.waits = b.waits then isTrue (by cases a; cases b; simp only at h; obtain ⟨rfl, rfl, rfl, rfl, rfl⟩ := h; rfl) else isFalse (fun e => h (by subst e; exact ⟨rfl, rfl, rfl, rfl, rfl⟩))
theorem Log.eq_iff {a b : Log} : a = b ↔ a.rep = b.rep ∧ a.time = b.time ∧ a.state = b.state ∧ a.units = b.units ∧ a.waits = b.waits := ⟨fun h => by subst h; exact ⟨rfl, rfl, rfl, rfl, rfl⟩, fun h => by cases a; cases b; simp only at h; obtain ⟨rfl, rfl, rfl, rfl, rfl⟩ := h; rfl⟩
def msCommit (x : Commit) : Nat := x.ups.length + msState x.state
def wCommit (x : Commit) : Prop := x.ups.length ≤ 9223372036854775807 ∧ wState x.state
instance : DecidableEq Commit := fun a b => if h : a.id = b.id ∧ a.ups = b.ups ∧ a.state = b.state then isTrue (by cases a; cases b; simp only at h; obtain ⟨rfl, rfl, rfl⟩ := h; rfl) else isFalse (fun e => h (by subst e; exact ⟨rfl, rfl, rfl⟩))
theorem Commit.eq_iff {a b : Commit} : a = b ↔ a.id = b.id ∧ a.ups = b.ups ∧ a.state = b.state := ⟨fun h => by subst h; exact ⟨rfl, rfl, rfl⟩, fun h => by cases a; cases b; simp only at h; obtain ⟨rfl, rfl, rfl⟩ := h; rfl⟩
def msGraph (x : Graph) : Nat := (x.commits.length + sumL msCommit x.commits)
def wGraph (x : Graph) : Prop := (x.commits.length ≤ 9223372036854775807 ∧ ∀ y ∈ x.commits, wCommit y)
instance : DecidableEq Graph := fun a b => if h : a.commits = b.commits ∧ a.head = b.head then isTrue (by cases a; cases b; simp only at h; obtain ⟨rfl, rfl⟩ := h; rfl) else isFalse (fun e => h (by subst e; exact ⟨rfl, rfl⟩))
theorem Graph.eq_iff {a b : Graph} : a = b ↔ a.commits = b.commits ∧ a.head = b.head := ⟨fun h => by subst h; exact ⟨rfl, rfl⟩, fun h => by cases a; cases b; simp only at h; obtain ⟨rfl, rfl⟩ := h; rfl⟩
def msReplica (x : Replica) : Nat := msLog x.log + msGraph x.graph + msFile x.file + (x.out.length + sumL msUnit x.out)
def wReplica (x : Replica) : Prop := wLog x.log ∧ wGraph x.graph ∧ wFile x.file ∧ (x.out.length ≤ 9223372036854775807 ∧ ∀ y ∈ x.out, wUnit y)
instance : DecidableEq Replica := fun a b => if h : a.way = b.way ∧ a.log = b.log ∧ a.graph = b.graph ∧ a.file = b.file ∧ a.out = b.out then isTrue (by cases a; cases b; simp only at h; obtain ⟨rfl, rfl, rfl, rfl, rfl⟩ := h; rfl) else isFalse (fun e => h (by subst e; exact ⟨rfl, rfl, rfl, rfl, rfl⟩))
theorem Replica.eq_iff {a b : Replica} : a = b ↔ a.way = b.way ∧ a.log = b.log ∧ a.graph = b.graph ∧ a.file = b.file ∧ a.out = b.out := ⟨fun h => by subst h; exact ⟨rfl, rfl, rfl, rfl, rfl⟩, fun h => by cases a; cases b; simp only at h; obtain ⟨rfl, rfl, rfl, rfl, rfl⟩ := h; rfl⟩
def msWorld (x : World_) : Nat := (x.replicas.length + sumL msReplica x.replicas) + (x.net.length + sumL msLetter x.net) + x.codes.length + (x.synced.length + sumL msIntS x.synced)
def wWorld (x : World_) : Prop := (x.replicas.length ≤ 9223372036854775807 ∧ ∀ y ∈ x.replicas, wReplica y) ∧ (x.net.length ≤ 9223372036854775807 ∧ ∀ y ∈ x.net, wLetter y) ∧ x.codes.length ≤ 9223372036854775807 ∧ (x.synced.length ≤ 9223372036854775807 ∧ ∀ y ∈ x.synced, wIntS y)
instance : DecidableEq World_ := fun a b => if h : a.replicas = b.replicas ∧ a.net = b.net ∧ a.codes = b.codes ∧ a.synced = b.synced then isTrue (by cases a; cases b; simp only at h; obtain ⟨rfl, rfl, rfl, rfl⟩ := h; rfl) else isFalse (fun e => h (by subst e; exact ⟨rfl, rfl, rfl, rfl⟩))
theorem World_.eq_iff {a b : World_} : a = b ↔ a.replicas = b.replicas ∧ a.net = b.net ∧ a.codes = b.codes ∧ a.synced = b.synced := ⟨fun h => by subst h; exact ⟨rfl, rfl, rfl, rfl⟩, fun h => by cases a; cases b; simp only at h; obtain ⟨rfl, rfl, rfl, rfl⟩ := h; rfl⟩
def msScript (x : Script) : Nat := x.ways.length + (x.events.length + sumL msEvent x.events)
def wScript (x : Script) : Prop := x.ways.length ≤ 9223372036854775807 ∧ (x.events.length ≤ 9223372036854775807 ∧ ∀ y ∈ x.events, wEvent y)
instance : DecidableEq Script := fun a b => if h : a.ways = b.ways ∧ a.events = b.events ∧ a.calm = b.calm then isTrue (by cases a; cases b; simp only at h; obtain ⟨rfl, rfl, rfl⟩ := h; rfl) else isFalse (fun e => h (by subst e; exact ⟨rfl, rfl, rfl⟩))
theorem Script.eq_iff {a b : Script} : a = b ↔ a.ways = b.ways ∧ a.events = b.events ∧ a.calm = b.calm := ⟨fun h => by subst h; exact ⟨rfl, rfl, rfl⟩, fun h => by cases a; cases b; simp only at h; obtain ⟨rfl, rfl, rfl⟩ := h; rfl⟩
end Go.Proofs.Ytopannfdcikgiaa.Sy

/- Contracts: names, knowledge, acts. -/
namespace Go.Proofs.Ytopannfdcikgiaa.Sy
open Go Go.RowKit
set_option linter.unusedSimpArgs false
set_option linter.unusedVariables false
abbrev n_s_l01In : Nat := 62
def F_s_l01In : Fn1 := ⟨15, [.t 6], (.seq (.reg [o 6 (.mov (.k (.bool false)))]) (.seq (.reg [o 7 (.mov (.t 0)), o 8 (.mov (.t 1)), o 9 (.bin .geq (.t 7) (.t 8)), o 10 (.mov (.t 9)), og 11 10 true (.mov (.t 0)), og 12 10 true (.mov (.t 2)), og 13 10 true (.bin .leq (.t 11) (.t 12)), o 14 (.pick (.t 10) (.t 13) (.k (.bool false))), o 6 (.mov (.t 14))]) .ret))⟩
theorem ir_s_l01In : compFn Try.prog n_s_l01In = some F_s_l01In := by kernel_rfl
abbrev n_i_within : Nat := 65
def F_i_within : Fn1 := ⟨15, [.t 6], (.seq (.reg [o 6 (.mov (.k (.bool false)))]) (.seq (.reg [o 7 (.mov (.t 0)), o 8 (.mov (.t 1)), o 9 (.bin .geq (.t 7) (.t 8)), o 10 (.mov (.t 9)), og 11 10 true (.mov (.t 0)), og 12 10 true (.mov (.t 2)), og 13 10 true (.bin .leq (.t 11) (.t 12)), o 14 (.pick (.t 10) (.t 13) (.k (.bool false))), o 6 (.mov (.t 14))]) .ret))⟩
theorem ir_i_within : compFn Try.prog n_i_within = some F_i_within := by kernel_rfl
abbrev n_s_NameOk : Nat := 63
def F_s_NameOk : Fn1 := ⟨23, [.t 2], (.seq (.reg [o 2 (.mov (.k (.bool false)))]) (.seq (.seq (.reg [o 3 (.mov (.k (.int .i64 0)))]) (.blk 0 (.lop (.seq (.seq (.reg [o 4 (.mov (.t 3)), o 5 (.mov (.t 0)), o 6 (.len true (.t 5)), o 7 (.bin .lss (.t 4) (.t 6))]) (.cnd (.t 7) .skip (.ext 0))) (.seq (.blk 1 (.seq (.reg [o 10 (.mov (.t 0)), o 11 (.mov (.t 3)), o 12 (.idx (.t 10) (.t 11)), o 13 (.bin .lss (.t 12) (.k (.int .u8 97))), o 14 (.mov (.t 13)), og 15 14 false (.mov (.t 0)), og 16 14 false (.mov (.t 3)), og 17 14 false (.idx (.t 15) (.t 16)), og 18 14 false (.bin .gtr (.t 17) (.k (.int .u8 122))), o 19 (.pick (.t 14) (.k (.bool true)) (.t 18))]) (.cnd (.t 19) (.seq (.reg [o 2 (.mov (.k (.bool false)))]) .ret) .skip))) (.reg [o 8 (.mov (.t 3)), o 9 (.bin .add (.t 8) (.k (.int .i64 1))), o 3 (.mov (.t 9))])))))) (.seq (.reg [o 20 (.mov (.t 0)), o 21 (.len true (.t 20)), o 22 (.call 62 [(.t 21), (.k (.int .i64 1)), (.k (.int .i64 8))]), o 2 (.mov (.t 22))]) .ret)))⟩
theorem ir_s_NameOk : compFn Try.prog n_s_NameOk = some F_s_NameOk := by kernel_rfl
abbrev n_i_NameOk : Nat := 64
def F_i_NameOk : Fn1 := ⟨19, [.t 2], (.seq (.reg [o 2 (.mov (.k (.bool false)))]) (.seq (.seq (.reg [o 3 (.mov (.k (.int .i64 0)))]) (.blk 0 (.lop (.seq (.seq (.reg [o 4 (.mov (.t 3)), o 5 (.mov (.t 0)), o 6 (.len true (.t 5)), o 7 (.bin .lss (.t 4) (.t 6))]) (.cnd (.t 7) .skip (.ext 0))) (.seq (.blk 1 (.seq (.reg [o 10 (.mov (.t 0)), o 11 (.mov (.t 3)), o 12 (.idx (.t 10) (.t 11)), o 13 (.cvi .i64 (.t 12)), o 14 (.call 65 [(.t 13), (.k (.int .i64 97)), (.k (.int .i64 122))]), o 15 (.un .not (.t 14))]) (.cnd (.t 15) (.seq (.reg [o 2 (.mov (.k (.bool false)))]) .ret) .skip))) (.reg [o 8 (.mov (.t 3)), o 9 (.bin .add (.t 8) (.k (.int .i64 1))), o 3 (.mov (.t 9))])))))) (.seq (.reg [o 16 (.mov (.t 0)), o 17 (.len true (.t 16)), o 18 (.call 65 [(.t 17), (.k (.int .i64 1)), (.k (.int .i64 8))]), o 2 (.mov (.t 18))]) .ret)))⟩
theorem ir_i_NameOk : compFn Try.prog n_i_NameOk = some F_i_NameOk := by kernel_rfl
abbrev n_s_KnowOk : Nat := 66
def F_s_KnowOk : Fn1 := ⟨19, [.t 2], (.seq (.reg [o 2 (.mov (.k (.bool false)))]) (.seq (.seq (.reg [o 3 (.mov (.k (.int .i64 0)))]) (.blk 0 (.lop (.seq (.seq (.reg [o 4 (.mov (.t 3)), o 5 (.mov (.t 0)), o 6 (.len false (.t 5)), o 7 (.bin .lss (.t 4) (.t 6))]) (.cnd (.t 7) .skip (.ext 0))) (.seq (.blk 1 (.seq (.reg [o 10 (.mov (.t 0)), o 11 (.mov (.t 3)), o 12 (.iad 1 (.t 10) (.t 11)), o 13 (.ld false 1 (.t 12)), o 14 (.call 62 [(.t 13), (.k (.int .i64 0)), (.k (.int .i64 1000))]), o 15 (.un .not (.t 14))]) (.cnd (.t 15) (.seq (.reg [o 2 (.mov (.k (.bool false)))]) .ret) .skip))) (.reg [o 8 (.mov (.t 3)), o 9 (.bin .add (.t 8) (.k (.int .i64 1))), o 3 (.mov (.t 9))])))))) (.seq (.reg [o 16 (.mov (.t 0)), o 17 (.len false (.t 16)), o 18 (.bin .eql (.t 17) (.k (.int .i64 3))), o 2 (.mov (.t 18))]) .ret)))⟩
theorem ir_s_KnowOk : compFn Try.prog n_s_KnowOk = some F_s_KnowOk := by kernel_rfl
abbrev n_i_KnowOk : Nat := 68
def F_i_KnowOk : Fn1 := ⟨18, [.t 2], (.seq (.reg [o 2 (.mov (.k (.bool false)))]) (.seq (.seq (.reg [o 5 (.mov (.t 0)), o 6 (.len false (.t 5)), o 7 (.mov (.k (.int .i64 0)))]) (.blk 0 (.lop (.seq (.reg [o 8 (.bin .lss (.t 7) (.t 6))]) (.seq (.cnd (.t 8) .skip (.ext 0)) (.seq (.blk 1 (.seq (.reg [o 9 (.iad 1 (.t 5) (.t 7)), o 10 (.ld false 1 (.t 9)), o 4 (.mov (.t 10))]) (.seq (.reg [o 11 (.mov (.t 4)), o 12 (.call 65 [(.t 11), (.k (.int .i64 0)), (.k (.int .i64 1000))]), o 13 (.un .not (.t 12))]) (.cnd (.t 13) (.seq (.reg [o 2 (.mov (.k (.bool false)))]) .ret) .skip)))) (.reg [o 14 (.bin .add (.t 7) (.k (.int .i64 1))), o 7 (.mov (.t 14))]))))))) (.seq (.reg [o 15 (.mov (.t 0)), o 16 (.len false (.t 15)), o 17 (.bin .eql (.t 16) (.k (.int .i64 3))), o 2 (.mov (.t 17))]) .ret)))⟩
theorem ir_i_KnowOk : compFn Try.prog n_i_KnowOk = some F_i_KnowOk := by kernel_rfl
abbrev n_s_DotOk : Nat := 114
def F_s_DotOk : Fn1 := ⟨11, [.t 2], (.seq (.reg [o 1 (.box (.t 0)), o 2 (.mov (.k (.bool false)))]) (.seq (.reg [o 3 (.fad 0 (.t 1)), o 4 (.ld false 1 (.t 3)), o 5 (.call 62 [(.t 4), (.k (.int .i64 0)), (.k (.int .i64 2))]), o 6 (.mov (.t 5)), og 7 6 true (.fad 1 (.t 1)), og 8 6 true (.ld false 1 (.t 7)), og 9 6 true (.call 62 [(.t 8), (.k (.int .i64 1)), (.k (.int .i64 1000))]), o 10 (.pick (.t 6) (.t 9) (.k (.bool false))), o 2 (.mov (.t 10))]) .ret))⟩
theorem ir_s_DotOk : compFn Try.prog n_s_DotOk = some F_s_DotOk := by kernel_rfl
abbrev n_i_DotOk : Nat := 116
def F_i_DotOk : Fn1 := ⟨11, [.t 2], (.seq (.reg [o 1 (.box (.t 0)), o 2 (.mov (.k (.bool false)))]) (.seq (.reg [o 3 (.fad 0 (.t 1)), o 4 (.ld false 1 (.t 3)), o 5 (.call 65 [(.t 4), (.k (.int .i64 0)), (.k (.int .i64 2))]), o 6 (.mov (.t 5)), og 7 6 true (.fad 1 (.t 1)), og 8 6 true (.ld false 1 (.t 7)), og 9 6 true (.call 65 [(.t 8), (.k (.int .i64 1)), (.k (.int .i64 1000))]), o 10 (.pick (.t 6) (.t 9) (.k (.bool false))), o 2 (.mov (.t 10))]) .ret))⟩
theorem ir_i_DotOk : compFn Try.prog n_i_DotOk = some F_i_DotOk := by kernel_rfl
abbrev n_s_Knows : Nat := 84
def F_s_Knows : Fn1 := ⟨21, [.t 4], (.seq (.reg [o 3 (.box (.t 1)), o 4 (.mov (.k (.bool false)))]) (.seq (.drw [o 5 (.mov (.t 0)), o 6 (.call 66 [(.t 5)]), o 7 (.mov (.t 6)), og 8 7 true (.ld true 2 (.t 3)), og 9 7 true (.call 114 [(.t 8)]), o 10 (.pick (.t 7) (.t 9) (.k (.bool false))), o 11 (.mov (.t 10)), og 12 11 true (.fad 1 (.t 3)), og 13 11 true (.ld false 1 (.t 12)), og 14 11 true (.mov (.t 0)), og 15 11 true (.fad 0 (.t 3)), og 16 11 true (.ld false 1 (.t 15)), og 17 11 true (.iad 1 (.t 14) (.t 16)), og 18 11 true (.ld false 1 (.t 17))] [og 19 11 true (.bin .leq (.t 13) (.t 18)), o 20 (.pick (.t 11) (.t 19) (.k (.bool false))), o 4 (.mov (.t 20))]) .ret))⟩
theorem ir_s_Knows : compFn Try.prog n_s_Knows = some F_s_Knows := by kernel_rfl
abbrev n_i_Knows : Nat := 86
def F_i_Knows : Fn1 := ⟨21, [.t 4], (.seq (.reg [o 3 (.box (.t 1)), o 4 (.mov (.k (.bool false)))]) (.seq (.drw [o 5 (.mov (.t 0)), o 6 (.call 68 [(.t 5)]), o 7 (.mov (.t 6)), og 8 7 true (.ld true 2 (.t 3)), og 9 7 true (.call 116 [(.t 8)]), o 10 (.pick (.t 7) (.t 9) (.k (.bool false))), o 11 (.mov (.t 10)), og 12 11 true (.fad 1 (.t 3)), og 13 11 true (.ld false 1 (.t 12)), og 14 11 true (.mov (.t 0)), og 15 11 true (.fad 0 (.t 3)), og 16 11 true (.ld false 1 (.t 15)), og 17 11 true (.iad 1 (.t 14) (.t 16)), og 18 11 true (.ld false 1 (.t 17))] [og 19 11 true (.bin .leq (.t 13) (.t 18)), o 20 (.pick (.t 11) (.t 19) (.k (.bool false))), o 4 (.mov (.t 20))]) .ret))⟩
theorem ir_i_Knows : compFn Try.prog n_i_Knows = some F_i_Knows := by kernel_rfl
abbrev n_s_l05Keyed : Nat := 133
def F_s_l05Keyed : Fn1 := ⟨5, [.t 2], (.seq (.reg [o 2 (.mov (.k (.bool false)))]) (.seq (.reg [o 3 (.mov (.t 0)), o 4 (.call 62 [(.t 3), (.k (.int .i64 2)), (.k (.int .i64 5))]), o 2 (.mov (.t 4))]) .ret))⟩
theorem ir_s_l05Keyed : compFn Try.prog n_s_l05Keyed = some F_s_l05Keyed := by kernel_rfl
abbrev n_s_l05Valued : Nat := 134
def F_s_l05Valued : Fn1 := ⟨13, [.t 2], (.seq (.reg [o 2 (.mov (.k (.bool false)))]) (.seq (.reg [o 3 (.mov (.t 0)), o 4 (.bin .eql (.t 3) (.k (.int .i64 1))), o 5 (.mov (.t 4)), og 6 5 false (.mov (.t 0)), og 7 5 false (.bin .eql (.t 6) (.k (.int .i64 4))), o 8 (.pick (.t 5) (.k (.bool true)) (.t 7)), o 9 (.mov (.t 8)), og 10 9 false (.mov (.t 0)), og 11 9 false (.bin .eql (.t 10) (.k (.int .i64 6))), o 12 (.pick (.t 9) (.k (.bool true)) (.t 11)), o 2 (.mov (.t 12))]) .ret))⟩
theorem ir_s_l05Valued : compFn Try.prog n_s_l05Valued = some F_s_l05Valued := by kernel_rfl
abbrev n_i_hasKey : Nat := 135
def F_i_hasKey : Fn1 := ⟨5, [.t 2], (.seq (.reg [o 2 (.mov (.k (.bool false)))]) (.seq (.reg [o 3 (.mov (.t 0)), o 4 (.call 65 [(.t 3), (.k (.int .i64 2)), (.k (.int .i64 5))]), o 2 (.mov (.t 4))]) .ret))⟩
theorem ir_i_hasKey : compFn Try.prog n_i_hasKey = some F_i_hasKey := by kernel_rfl
abbrev n_i_hasVal : Nat := 136
def F_i_hasVal : Fn1 := ⟨13, [.t 2], (.seq (.reg [o 2 (.mov (.k (.bool false)))]) (.seq (.reg [o 3 (.mov (.t 0)), o 4 (.bin .eql (.t 3) (.k (.int .i64 1))), o 5 (.mov (.t 4)), og 6 5 false (.mov (.t 0)), og 7 5 false (.bin .eql (.t 6) (.k (.int .i64 4))), o 8 (.pick (.t 5) (.k (.bool true)) (.t 7)), o 9 (.mov (.t 8)), og 10 9 false (.mov (.t 0)), og 11 9 false (.bin .eql (.t 10) (.k (.int .i64 6))), o 12 (.pick (.t 9) (.k (.bool true)) (.t 11)), o 2 (.mov (.t 12))]) .ret))⟩
theorem ir_i_hasVal : compFn Try.prog n_i_hasVal = some F_i_hasVal := by kernel_rfl
abbrev n_s_l05Plain : Nat := 115
def F_s_l05Plain : Fn1 := ⟨45, [.t 8], (.seq (.reg [o 8 (.mov (.k (.bool false)))]) (.seq (.seq (.reg [o 9 (.mov (.t 0)), o 10 (.call 62 [(.t 9), (.k (.int .i64 1)), (.k (.int .i64 7))]), o 11 (.un .not (.t 10)), o 12 (.mov (.t 11)), og 13 12 false (.mov (.t 1)), og 14 12 false (.call 63 [(.t 13)]), og 15 12 false (.un .not (.t 14)), o 16 (.pick (.t 12) (.k (.bool true)) (.t 15)), o 17 (.mov (.t 16)), og 18 17 false (.mov (.t 0)), og 19 17 false (.call 133 [(.t 18)]), og 20 17 false (.mov (.t 19)), og 21 20 true (.mov (.t 2)), og 22 20 true (.call 63 [(.t 21)]), og 23 20 true (.un .not (.t 22)), og 24 17 false (.pick (.t 20) (.t 23) (.k (.bool false))), o 25 (.pick (.t 17) (.k (.bool true)) (.t 24)), o 26 (.mov (.t 25)), og 27 26 false (.mov (.t 0)), og 28 26 false (.call 133 [(.t 27)]), og 29 26 false (.un .not (.t 28)), og 30 26 false (.mov (.t 29)), og 31 30 true (.mov (.t 2)), og 32 30 true (.bin .neq (.t 31) (.k (.str ⟨#[]⟩))), og 33 26 false (.pick (.t 30) (.t 32) (.k (.bool false))), o 34 (.pick (.t 26) (.k (.bool true)) (.t 33))]) (.cnd (.t 34) (.seq (.reg [o 8 (.mov (.k (.bool false)))]) .ret) .skip)) (.seq (.reg [o 35 (.mov (.t 3)), o 36 (.bin .eql (.t 35) (.k (.int .i64 0))), o 37 (.mov (.t 36)), og 38 37 false (.mov (.t 0)), og 39 37 false (.call 134 [(.t 38)]), og 40 37 false (.mov (.t 39)), og 41 40 true (.mov (.t 3)), og 42 40 true (.call 62 [(.t 41), (.k (.int .i64 0)), (.k (.int .i64 999999))]), og 43 37 false (.pick (.t 40) (.t 42) (.k (.bool false))), o 44 (.pick (.t 37) (.k (.bool true)) (.t 43)), o 8 (.mov (.t 44))]) .ret)))⟩
theorem ir_s_l05Plain : compFn Try.prog n_s_l05Plain = some F_s_l05Plain := by kernel_rfl
abbrev n_i_wordsOk : Nat := 117
def F_i_wordsOk : Fn1 := ⟨46, [.t 8], (.seq (.reg [o 8 (.mov (.k (.bool false)))]) (.seq (.seq (.reg [o 10 (.mov (.t 0)), o 11 (.call 65 [(.t 10), (.k (.int .i64 1)), (.k (.int .i64 7))]), o 12 (.un .not (.t 11)), o 13 (.mov (.t 12)), og 14 13 false (.mov (.t 1)), og 15 13 false (.call 64 [(.t 14)]), og 16 13 false (.un .not (.t 15)), o 17 (.pick (.t 13) (.k (.bool true)) (.t 16))]) (.cnd (.t 17) (.seq (.reg [o 8 (.mov (.k (.bool false)))]) .ret) .skip)) (.seq (.reg [o 18 (.mov (.t 2)), o 19 (.bin .eql (.t 18) (.k (.str ⟨#[]⟩))), o 20 (.mov (.t 19)), og 21 20 true (.mov (.t 0)), og 22 20 true (.call 135 [(.t 21)]), og 23 20 true (.un .not (.t 22)), o 24 (.pick (.t 20) (.t 23) (.k (.bool false))), o 25 (.mov (.t 24)), og 26 25 false (.mov (.t 2)), og 27 25 false (.call 64 [(.t 26)]), og 28 25 false (.mov (.t 27)), og 29 28 true (.mov (.t 0)), og 30 28 true (.call 135 [(.t 29)]), og 31 25 false (.pick (.t 28) (.t 30) (.k (.bool false))), o 32 (.pick (.t 25) (.k (.bool true)) (.t 31)), o 9 (.mov (.t 32))]) (.seq (.reg [o 33 (.mov (.t 9)), o 34 (.mov (.t 33)), og 35 34 true (.mov (.t 3)), og 36 34 true (.bin .eql (.t 35) (.k (.int .i64 0))), og 37 34 true (.mov (.t 36)), og 38 37 false (.mov (.t 0)), og 39 37 false (.call 136 [(.t 38)]), og 40 37 false (.mov (.t 39)), og 41 40 true (.mov (.t 3)), og 42 40 true (.call 65 [(.t 41), (.k (.int .i64 0)), (.k (.int .i64 999999))]), og 43 37 false (.pick (.t 40) (.t 42) (.k (.bool false))), og 44 34 true (.pick (.t 37) (.k (.bool true)) (.t 43)), o 45 (.pick (.t 34) (.t 44) (.k (.bool false))), o 8 (.mov (.t 45))]) .ret))))⟩
theorem ir_i_wordsOk : compFn Try.prog n_i_wordsOk = some F_i_wordsOk := by kernel_rfl
abbrev n_s_ActOk : Nat := 83
def F_s_ActOk : Fn1 := ⟨71, [.t 2], (.seq (.reg [o 1 (.box (.t 0)), o 2 (.mov (.k (.bool false)))]) (.seq (.seq (.drw [o 3 (.fad 0 (.t 1)), o 4 (.ld true 2 (.t 3)), o 5 (.call 114 [(.t 4)]), o 6 (.un .not (.t 5)), o 7 (.mov (.t 6)), og 8 7 false (.fad 3 (.t 1)), og 9 7 false (.ld false 1 (.t 8)), og 10 7 false (.call 66 [(.t 9)]), og 11 7 false (.un .not (.t 10)), o 12 (.pick (.t 7) (.k (.bool true)) (.t 11)), o 13 (.mov (.t 12)), og 14 13 false (.fad 3 (.t 1)), og 15 13 false (.ld false 1 (.t 14)), og 16 13 false (.fad 0 (.t 1)), og 17 13 false (.fad 0 (.t 16)), og 18 13 false (.ld false 1 (.t 17)), og 19 13 false (.iad 1 (.t 15) (.t 18)), og 20 13 false (.ld false 1 (.t 19)), og 21 13 false (.fad 0 (.t 1)), og 22 13 false (.fad 1 (.t 21)), og 23 13 false (.ld false 1 (.t 22)), og 24 13 false (.bin .sub (.t 23) (.k (.int .i64 1))), og 25 13 false (.bin .neq (.t 20) (.t 24)), o 26 (.pick (.t 13) (.k (.bool true)) (.t 25)), o 27 (.mov (.t 26)), og 28 27 false (.fad 2 (.t 1)), og 29 27 false (.ld false 1 (.t 28)), og 30 27 false (.call 62 [(.t 29), (.k (.int .i64 1)), (.k (.int .i64 10000))]), og 31 27 false (.un .not (.t 30)), o 32 (.pick (.t 27) (.k (.bool true)) (.t 31)), o 33 (.mov (.t 32)), og 34 33 false (.fad 4 (.t 1)), og 35 33 false (.ld false 1 (.t 34)), og 36 33 false (.fad 5 (.t 1)), og 37 33 false (.ld false 1 (.t 36)), og 38 33 false (.fad 6 (.t 1)), og 39 33 false (.ld false 1 (.t 38)), og 40 33 false (.fad 7 (.t 1)), og 41 33 false (.ld false 1 (.t 40))] [og 42 33 false (.call 115 [(.t 35), (.t 37), (.t 39), (.t 41)]), og 43 33 false (.un .not (.t 42)), o 44 (.pick (.t 33) (.k (.bool true)) (.t 43))]) (.cnd (.t 44) (.seq (.reg [o 2 (.mov (.k (.bool false)))]) .ret) .skip)) (.seq (.seq (.reg [o 45 (.fad 4 (.t 1)), o 46 (.ld false 1 (.t 45))]) (.blk 0 (.seq (.reg [o 48 (.bin .eql (.t 46) (.k (.int .i64 7))), o 47 (.mov (.t 48))]) (.cnd (.t 47) (.seq (.reg [o 49 (.fad 3 (.t 1)), o 50 (.ld false 1 (.t 49)), o 51 (.fad 8 (.t 1)), o 52 (.ld true 2 (.t 51)), o 53 (.call 84 [(.t 50), (.t 52)]), o 2 (.mov (.t 53))]) .ret) (.seq (.reg [o 55 (.bin .eql (.t 46) (.k (.int .i64 6))), o 54 (.mov (.t 55))]) (.cnd (.t 54) (.seq (.reg [o 56 (.fad 8 (.t 1)), o 57 (.ld true 2 (.t 56)), o 58 (.build [(.int .i64 0), (.int .i64 0)] []), o 59 (.eqs false [.i .i64, .i .i64] (.t 57) (.t 58)), o 60 (.mov (.t 59)), og 61 60 false (.fad 3 (.t 1)), og 62 60 false (.ld false 1 (.t 61)), og 63 60 false (.fad 8 (.t 1)), og 64 60 false (.ld true 2 (.t 63)), og 65 60 false (.call 84 [(.t 62), (.t 64)]), o 66 (.pick (.t 60) (.k (.bool true)) (.t 65)), o 2 (.mov (.t 66))]) .ret) .skip)))))) (.seq (.reg [o 67 (.fad 8 (.t 1)), o 68 (.ld true 2 (.t 67)), o 69 (.build [(.int .i64 0), (.int .i64 0)] []), o 70 (.eqs false [.i .i64, .i .i64] (.t 68) (.t 69)), o 2 (.mov (.t 70))]) .ret))))⟩
theorem ir_s_ActOk : compFn Try.prog n_s_ActOk = some F_s_ActOk := by kernel_rfl
abbrev n_i_ActOk : Nat := 85
def F_i_ActOk : Fn1 := ⟨71, [.t 2], (.seq (.reg [o 1 (.box (.t 0)), o 2 (.mov (.k (.bool false)))]) (.seq (.seq (.drw [o 5 (.fad 0 (.t 1)), o 6 (.ld true 2 (.t 5)), o 7 (.call 116 [(.t 6)]), o 8 (.un .not (.t 7)), o 9 (.mov (.t 8)), og 10 9 false (.fad 3 (.t 1)), og 11 9 false (.ld false 1 (.t 10)), og 12 9 false (.call 68 [(.t 11)]), og 13 9 false (.un .not (.t 12)), o 14 (.pick (.t 9) (.k (.bool true)) (.t 13)), o 15 (.mov (.t 14)), og 16 15 false (.fad 3 (.t 1)), og 17 15 false (.ld false 1 (.t 16)), og 18 15 false (.fad 0 (.t 1)), og 19 15 false (.fad 0 (.t 18)), og 20 15 false (.ld false 1 (.t 19)), og 21 15 false (.iad 1 (.t 17) (.t 20)), og 22 15 false (.ld false 1 (.t 21)), og 23 15 false (.fad 0 (.t 1)), og 24 15 false (.fad 1 (.t 23)), og 25 15 false (.ld false 1 (.t 24)), og 26 15 false (.bin .sub (.t 25) (.k (.int .i64 1)))] [og 27 15 false (.bin .neq (.t 22) (.t 26)), o 28 (.pick (.t 15) (.k (.bool true)) (.t 27)), o 29 (.mov (.t 28)), og 30 29 false (.fad 2 (.t 1)), og 31 29 false (.ld false 1 (.t 30)), og 32 29 false (.call 65 [(.t 31), (.k (.int .i64 1)), (.k (.int .i64 10000))]), og 33 29 false (.un .not (.t 32)), o 34 (.pick (.t 29) (.k (.bool true)) (.t 33))]) (.cnd (.t 34) (.seq (.reg [o 2 (.mov (.k (.bool false)))]) .ret) .skip)) (.seq (.reg [o 35 (.fad 8 (.t 1)), o 36 (.ld true 2 (.t 35)), o 37 (.build [(.int .i64 0), (.int .i64 0)] []), o 38 (.eqs false [.i .i64, .i .i64] (.t 36) (.t 37)), o 3 (.mov (.t 38))]) (.seq (.reg [o 39 (.mov (.t 3)), o 4 (.mov (.t 39))]) (.seq (.seq (.reg [o 40 (.fad 4 (.t 1)), o 41 (.ld false 1 (.t 40))]) (.blk 0 (.seq (.reg [o 43 (.bin .eql (.t 41) (.k (.int .i64 7))), o 42 (.mov (.t 43))]) (.cnd (.t 42) (.reg [o 44 (.fad 3 (.t 1)), o 45 (.ld false 1 (.t 44)), o 46 (.fad 8 (.t 1)), o 47 (.ld true 2 (.t 46)), o 48 (.call 86 [(.t 45), (.t 47)]), o 4 (.mov (.t 48))]) (.seq (.reg [o 50 (.bin .eql (.t 41) (.k (.int .i64 6))), o 49 (.mov (.t 50))]) (.cnd (.t 49) (.reg [o 51 (.mov (.t 3)), o 52 (.mov (.t 51)), og 53 52 false (.fad 3 (.t 1)), og 54 52 false (.ld false 1 (.t 53)), og 55 52 false (.fad 8 (.t 1)), og 56 52 false (.ld true 2 (.t 55)), og 57 52 false (.call 86 [(.t 54), (.t 56)]), o 58 (.pick (.t 52) (.k (.bool true)) (.t 57)), o 4 (.mov (.t 58))]) .skip)))))) (.seq (.reg [o 59 (.mov (.t 4)), o 60 (.mov (.t 59)), og 61 60 true (.fad 4 (.t 1)), og 62 60 true (.ld false 1 (.t 61)), og 63 60 true (.fad 5 (.t 1)), og 64 60 true (.ld false 1 (.t 63)), og 65 60 true (.fad 6 (.t 1)), og 66 60 true (.ld false 1 (.t 65)), og 67 60 true (.fad 7 (.t 1)), og 68 60 true (.ld false 1 (.t 67)), og 69 60 true (.call 117 [(.t 62), (.t 64), (.t 66), (.t 68)]), o 70 (.pick (.t 60) (.t 69) (.k (.bool false))), o 2 (.mov (.t 70))]) .ret))))))⟩
theorem ir_i_ActOk : compFn Try.prog n_i_ActOk = some F_i_ActOk := by kernel_rfl
/-- A call that tells a bool. -/
theorem by_bool {P : Program} {env : Env} {σ : St} {K : Kt} {r : List Op1} {d : Option Nat} {D : Bool} {f : Nat} {args : List GV} {b : Bool} (h : Ret P f args σ (.bool b) σ) (ht : b = true → vcOps D P r K (upo env d (.bool true)) σ) (hf : b = false → vcOps D P r K (upo env d (.bool false)) σ) : bindC D f args P r K env d σ := by
  cases b with
  | true => exact by_ret h (ht rfl)
  | false => exact by_ret h (hf rfl)
def inB (n a b : Int) : Bool := decide (a ≤ n) && decide (n ≤ b)
theorem inB_iff {n a b : Int} : inB n a b = true ↔ a ≤ n ∧ n ≤ b := by simp [inB]
theorem s_l01In_ret (σ : St) (n a b : Int) : Ret Try.prog n_s_l01In [gi n, gi a, gi b] σ (.bool (inB n a b)) σ := by
  refine ret_eq ir_s_l01In (Nat.le_of_ble_eq_true rfl) trivial ?_
  simp +contextual (disch := omega) only [go_sem, Nat.reduceEqDiff, ↓reduceIte, Int.reduceEq, Int.reduceNeg, wrap_add, F_s_l01In, inB]
theorem i_within_ret (σ : St) (n a b : Int) : Ret Try.prog n_i_within [gi n, gi a, gi b] σ (.bool (inB n a b)) σ := by
  refine ret_eq ir_i_within (Nat.le_of_ble_eq_true rfl) trivial ?_
  simp +contextual (disch := omega) only [go_sem, Nat.reduceEqDiff, ↓reduceIte, Int.reduceEq, Int.reduceNeg, wrap_add, F_i_within, inB]
/-! Texts, byte by byte. -/
def bl (s : ByteArray) : List UInt8 := s.data.toList
theorem bl_length (s : ByteArray) : (bl s).length = s.size := by
  unfold bl; rw [Array.length_toList]; rfl
theorem idx_at {s : ByteArray} {i : Nat} (hi : i < (bl s).length) : idxG (.str s) (some i) = some (.int .u8 (((bl s)[i].toNat : Nat) : Int)) := by
  have h2 : i < s.size := by rw [← bl_length]; exact hi
  have e : s[i]? = some (bl s)[i] := by
    rw [getElem?_pos s i h2]; rfl
  simp only [idxG, e, Option.map_some]; rfl
theorem u8_lt (b : UInt8) : b.toNat < 256 := b.toNat_lt
def lowB (b : UInt8) : Bool := inB (b.toNat : Int) 97 122
def nameOk (s : ByteArray) : Bool := (bl s).all lowB && inB s.size 1 8
theorem s_NameOk_ret (σ : St) (s : ByteArray) (hs : s.size ≤ 1099511627776) : Ret Try.prog n_s_NameOk [.str s] σ (.bool (nameOk s)) σ := by
  refine ret_eq ir_s_NameOk (Nat.le_of_ble_eq_true rfl) trivial ?_
  simp +contextual (disch := omega) only [go_sem, Nat.reduceEqDiff, ↓reduceIte, Int.reduceEq, Int.reduceNeg, wrap_add, F_s_NameOk]
  refine vc_for (bl s).length 3 (fun i env τ => env 0 = .str s ∧ ((bl s).take i).all lowB = true ∧ σ <+: τ) rfl ⟨rfl, rfl, List.prefix_refl _⟩ ?_ ?_
  · rintro i env τ hi e3 c0 ⟨e0, ha, hp⟩
    have hl := bl_length s
    rw [hl] at c0
    have hf := fun h => all_false_at (p := lowB) hi h
    have ht := take_all_succ hi ha
    simp +contextual (disch := omega) only [go_sem, Nat.reduceEqDiff, ↓reduceIte, Int.reduceEq, Int.reduceNeg, wrap_add, c0, e0, e3, idx_at hi, hp]
    simp only [lowB, inB, nameOk] at *
    generalize (((bl s)[i].toNat : Nat) : Int) = b at *
    grind
  · rintro env τ e3 c0 ⟨e0, ha, hp⟩
    rw [List.take_length] at ha
    rw [bl_length] at c0 e3
    simp +contextual (disch := omega) only [go_sem, Nat.reduceEqDiff, ↓reduceIte, Int.reduceEq, Int.reduceNeg, wrap_add, c0, e0, e3]
    refine by_ret (s_l01In_ret τ _ _ _) ?_
    simp +contextual (disch := omega) only [go_sem, Nat.reduceEqDiff, ↓reduceIte, Int.reduceEq, Int.reduceNeg, wrap_add, nameOk, ha, hp]
theorem i_NameOk_ret (σ : St) (s : ByteArray) (hs : s.size ≤ 1099511627776) : Ret Try.prog n_i_NameOk [.str s] σ (.bool (nameOk s)) σ := by
  refine ret_eq ir_i_NameOk (Nat.le_of_ble_eq_true rfl) trivial ?_
  simp +contextual (disch := omega) only [go_sem, Nat.reduceEqDiff, ↓reduceIte, Int.reduceEq, Int.reduceNeg, wrap_add, F_i_NameOk]
  refine vc_for (bl s).length 3 (fun i env τ => env 0 = .str s ∧ ((bl s).take i).all lowB = true ∧ σ <+: τ) rfl ⟨rfl, rfl, List.prefix_refl _⟩ ?_ ?_
  · rintro i env τ hi e3 c0 ⟨e0, ha, hp⟩
    have hl := bl_length s
    rw [hl] at c0
    have hf := fun h => all_false_at (p := lowB) hi h
    have ht := take_all_succ hi ha
    have h8 := u8_lt (bl s)[i]
    simp +contextual (disch := omega) only [go_sem, Nat.reduceEqDiff, ↓reduceIte, Int.reduceEq, Int.reduceNeg, wrap_add, c0, e0, e3, idx_at hi, cvi_int]
    refine by_bool (i_within_ret τ _ _ _) (fun h => ?_) (fun h => ?_)
    · simp +contextual (disch := omega) only [go_sem, Nat.reduceEqDiff, ↓reduceIte, Int.reduceEq, Int.reduceNeg, wrap_add, e0, e3, hp]
      exact ht h
    · simp +contextual (disch := omega) only [go_sem, Nat.reduceEqDiff, ↓reduceIte, Int.reduceEq, Int.reduceNeg, wrap_add, e0, e3, hp]
      simp [nameOk, hf h]
  · rintro env τ e3 c0 ⟨e0, ha, hp⟩
    rw [List.take_length] at ha
    rw [bl_length] at c0 e3
    simp +contextual (disch := omega) only [go_sem, Nat.reduceEqDiff, ↓reduceIte, Int.reduceEq, Int.reduceNeg, wrap_add, c0, e0, e3]
    refine by_ret (i_within_ret τ _ _ _) ?_
    simp +contextual (disch := omega) only [go_sem, Nat.reduceEqDiff, ↓reduceIte, Int.reduceEq, Int.reduceNeg, wrap_add, nameOk, ha, hp]
/-! Knowledge. -/
def seqB (n : Int) : Bool := inB n 0 1000
def okK (l : List Int) : Bool := l.all seqB && decide (l.length = 3)
theorem okK_len {l : List Int} (h : okK l = true) : l.length = 3 := by
  simp only [okK, Bool.and_eq_true, decide_eq_true_eq] at h
  exact h.2
theorem okK_mem {l : List Int} (h : okK l = true) {x : Int} (hx : x ∈ l) : 0 ≤ x ∧ x ≤ 1000 := by
  simp only [okK, Bool.and_eq_true, List.all_eq_true] at h
  exact inB_iff.1 (h.1 x hx)
theorem s_KnowOk_ret (σ : St) (v : GV) (l : List Int) (h : RS pI.kd σ v l) (hl : l.length ≤ 1099511627776) : Ret Try.prog n_s_KnowOk [v] σ (.bool (okK l)) σ := by
  refine ret_eq ir_s_KnowOk (Nat.le_of_ble_eq_true rfl) trivial ?_
  simp +contextual (disch := omega) only [go_sem, Nat.reduceEqDiff, ↓reduceIte, Int.reduceEq, Int.reduceNeg, wrap_add, F_s_KnowOk]
  refine vc_for l.length 3 (fun i env τ => env 0 = v ∧ (l.take i).all seqB = true ∧ σ <+: τ) rfl ⟨rfl, rfl, List.prefix_refl _⟩ ?_ ?_
  · rintro i env τ hi e3 c0 ⟨e0, ha, hp⟩
    have hf := fun h => all_false_at (p := seqB) hi h
    have ht := take_all_succ hi ha
    simp +contextual (disch := omega) only [go_sem, Nat.reduceEqDiff, ↓reduceIte, Int.reduceEq, Int.reduceNeg, wrap_add, c0, e0, e3, h.len, int_at (h.pre hp) hi]
    refine by_bool (s_l01In_ret τ _ _ _) (fun h => ?_) (fun h => ?_)
    · simp +contextual (disch := omega) only [go_sem, Nat.reduceEqDiff, ↓reduceIte, Int.reduceEq, Int.reduceNeg, wrap_add, e0, e3, hp]
      exact ht h
    · simp +contextual (disch := omega) only [go_sem, Nat.reduceEqDiff, ↓reduceIte, Int.reduceEq, Int.reduceNeg, wrap_add, e0, e3, hp]
      simp [okK, hf h]
  · rintro env τ e3 c0 ⟨e0, ha, hp⟩
    rw [List.take_length] at ha
    simp +contextual (disch := omega) only [go_sem, Nat.reduceEqDiff, ↓reduceIte, Int.reduceEq, Int.reduceNeg, wrap_add, c0, e0, e3, h.len, hp, okK, ha]
    exact len_beq
theorem i_KnowOk_ret (σ : St) (v : GV) (l : List Int) (h : RS pI.kd σ v l) (hl : l.length ≤ 1099511627776) : Ret Try.prog n_i_KnowOk [v] σ (.bool (okK l)) σ := by
  refine ret_eq ir_i_KnowOk (Nat.le_of_ble_eq_true rfl) trivial ?_
  simp +contextual (disch := omega) only [go_sem, Nat.reduceEqDiff, ↓reduceIte, Int.reduceEq, Int.reduceNeg, wrap_add, F_i_KnowOk, h.len]
  refine vc_for l.length 7 (fun i env τ => env 0 = v ∧ env 5 = v ∧ env 6 = gi l.length ∧ (l.take i).all seqB = true ∧ σ <+: τ) rfl ⟨rfl, rfl, rfl, rfl, List.prefix_refl _⟩ ?_ ?_
  · rintro i env τ hi e7 c0 ⟨e0, e5, e6, ha, hp⟩
    have hf := fun h => all_false_at (p := seqB) hi h
    have ht := take_all_succ hi ha
    simp +contextual (disch := omega) only [go_sem, Nat.reduceEqDiff, ↓reduceIte, Int.reduceEq, Int.reduceNeg, wrap_add, c0, e0, e5, e6, e7, h.len, int_at (h.pre hp) hi]
    refine by_bool (i_within_ret τ _ _ _) (fun h => ?_) (fun h => ?_)
    · simp +contextual (disch := omega) only [go_sem, Nat.reduceEqDiff, ↓reduceIte, Int.reduceEq, Int.reduceNeg, wrap_add, e0, e5, e6, e7, hp]
      exact ht h
    · simp +contextual (disch := omega) only [go_sem, Nat.reduceEqDiff, ↓reduceIte, Int.reduceEq, Int.reduceNeg, wrap_add, e0, e5, e6, e7, hp]
      simp [okK, hf h]
  · rintro env τ e7 c0 ⟨e0, e5, e6, ha, hp⟩
    rw [List.take_length] at ha
    simp +contextual (disch := omega) only [go_sem, Nat.reduceEqDiff, ↓reduceIte, Int.reduceEq, Int.reduceNeg, wrap_add, c0, e0, e5, e6, e7, h.len, hp, okK, ha]
    exact len_beq
def dotOk (d : Dot) : Bool := inB d.rep 0 2 && inB d.seq 1 1000
theorem dotOk_iff {d : Dot} : dotOk d = true ↔ (0 ≤ d.rep ∧ d.rep ≤ 2) ∧ 1 ≤ d.seq ∧ d.seq ≤ 1000 := by simp [dotOk, inB_iff]
theorem s_DotOk_ret (σ : St) (d : Dot) : Ret Try.prog n_s_DotOk [.agg [gi d.rep, gi d.seq]] σ (.bool (dotOk d)) σ := by
  refine ret_eq ir_s_DotOk (Nat.le_of_ble_eq_true rfl) trivial ?_
  simp +contextual (disch := omega) only [go_sem, Nat.reduceEqDiff, ↓reduceIte, Int.reduceEq, Int.reduceNeg, wrap_add, F_s_DotOk]
  refine by_bool (s_l01In_ret _ _ _ _) (fun h => ?_) (fun h => ?_)
  · simp +contextual (disch := omega) only [go_sem, Nat.reduceEqDiff, ↓reduceIte, Int.reduceEq, Int.reduceNeg, wrap_add, List.append_nil]
    refine by_ret (s_l01In_ret _ _ _ _) ?_
    simp +contextual (disch := omega) only [go_sem, Nat.reduceEqDiff, ↓reduceIte, Int.reduceEq, Int.reduceNeg, wrap_add, dotOk, h]
  · simp +contextual (disch := omega) only [go_sem, Nat.reduceEqDiff, ↓reduceIte, Int.reduceEq, Int.reduceNeg, wrap_add, dotOk, h]
theorem i_DotOk_ret (σ : St) (d : Dot) : Ret Try.prog n_i_DotOk [.agg [gi d.rep, gi d.seq]] σ (.bool (dotOk d)) σ := by
  refine ret_eq ir_i_DotOk (Nat.le_of_ble_eq_true rfl) trivial ?_
  simp +contextual (disch := omega) only [go_sem, Nat.reduceEqDiff, ↓reduceIte, Int.reduceEq, Int.reduceNeg, wrap_add, F_i_DotOk]
  refine by_bool (i_within_ret _ _ _ _) (fun h => ?_) (fun h => ?_)
  · simp +contextual (disch := omega) only [go_sem, Nat.reduceEqDiff, ↓reduceIte, Int.reduceEq, Int.reduceNeg, wrap_add, List.append_nil]
    refine by_ret (i_within_ret _ _ _ _) ?_
    simp +contextual (disch := omega) only [go_sem, Nat.reduceEqDiff, ↓reduceIte, Int.reduceEq, Int.reduceNeg, wrap_add, dotOk, h]
  · simp +contextual (disch := omega) only [go_sem, Nat.reduceEqDiff, ↓reduceIte, Int.reduceEq, Int.reduceNeg, wrap_add, dotOk, h]
def at0 (l : List Int) (r : Int) : Int := l.getD r.toNat 0
def knows (k : List Int) (d : Dot) : Bool := okK k && dotOk d && decide (d.seq ≤ at0 k d.rep)
theorem natOf_pos {k : IntKind} {n : Int} (h : 0 ≤ n) : natOf (some (.int k n)) = some n.toNat := by simp [natOf, h]
theorem rep_at {σ : St} {v : GV} {l : List Int} {r : Int} (h : RS pI.kd σ v l) (hk : okK l = true) (h0 : 0 ≤ r) (h2 : r ≤ 2) : (natOf (some (gi r)) = some r.toNat ∧ iadG 1 v (some r.toNat) = some (atz 1 v r.toNat)) ∧ ldG false 1 σ (atz 1 v r.toNat) = some (gi (at0 l r)) := by
  have hl := okK_len hk
  have hi : r.toNat < l.length := by omega
  have e := int_at h hi
  refine ⟨⟨natOf_pos h0, e.1⟩, ?_⟩
  rw [e.2, at0, List.getD_eq_getElem?_getD, List.getElem?_eq_getElem hi]; rfl
theorem s_Knows_ret (σ : St) (v : GV) (k : List Int) (d : Dot) (h : RS pI.kd σ v k) (hl : k.length ≤ 1099511627776) : Ret Try.prog n_s_Knows [v, .agg [gi d.rep, gi d.seq]] σ (.bool (knows k d)) σ := by
  refine ret_eq ir_s_Knows (Nat.le_of_ble_eq_true rfl) trivial ?_
  simp +contextual (disch := omega) only [go_sem, Nat.reduceEqDiff, ↓reduceIte, Int.reduceEq, Int.reduceNeg, wrap_add, F_s_Knows]
  have h1 := h.pre (pre1 σ (some (Blk.row 1 [gi d.rep, gi d.seq])))
  refine by_bool (s_KnowOk_ret _ v k h1 hl) (fun hk => ?_) (fun hk => ?_)
  · simp +contextual (disch := omega) only [go_sem, Nat.reduceEqDiff, ↓reduceIte, Int.reduceEq, Int.reduceNeg, wrap_add, List.append_nil]
    refine by_bool (s_DotOk_ret _ d) (fun hd => ?_) (fun hd => ?_)
    · have hd' := dotOk_iff.1 hd
      have hr := rep_at h1 hk hd'.1.1 hd'.1.2
      simp +contextual (disch := omega) only [go_sem, Nat.reduceEqDiff, ↓reduceIte, Int.reduceEq, Int.reduceNeg, wrap_add, hr, knows, hk, hd]
    · simp +contextual (disch := omega) only [go_sem, Nat.reduceEqDiff, ↓reduceIte, Int.reduceEq, Int.reduceNeg, wrap_add, knows, hk, hd]
  · simp +contextual (disch := omega) only [go_sem, Nat.reduceEqDiff, ↓reduceIte, Int.reduceEq, Int.reduceNeg, wrap_add, knows, hk]
theorem i_Knows_ret (σ : St) (v : GV) (k : List Int) (d : Dot) (h : RS pI.kd σ v k) (hl : k.length ≤ 1099511627776) : Ret Try.prog n_i_Knows [v, .agg [gi d.rep, gi d.seq]] σ (.bool (knows k d)) σ := by
  refine ret_eq ir_i_Knows (Nat.le_of_ble_eq_true rfl) trivial ?_
  simp +contextual (disch := omega) only [go_sem, Nat.reduceEqDiff, ↓reduceIte, Int.reduceEq, Int.reduceNeg, wrap_add, F_i_Knows]
  have h1 := h.pre (pre1 σ (some (Blk.row 1 [gi d.rep, gi d.seq])))
  refine by_bool (i_KnowOk_ret _ v k h1 hl) (fun hk => ?_) (fun hk => ?_)
  · simp +contextual (disch := omega) only [go_sem, Nat.reduceEqDiff, ↓reduceIte, Int.reduceEq, Int.reduceNeg, wrap_add, List.append_nil]
    refine by_bool (i_DotOk_ret _ d) (fun hd => ?_) (fun hd => ?_)
    · have hd' := dotOk_iff.1 hd
      have hr := rep_at h1 hk hd'.1.1 hd'.1.2
      simp +contextual (disch := omega) only [go_sem, Nat.reduceEqDiff, ↓reduceIte, Int.reduceEq, Int.reduceNeg, wrap_add, hr, knows, hk, hd]
    · simp +contextual (disch := omega) only [go_sem, Nat.reduceEqDiff, ↓reduceIte, Int.reduceEq, Int.reduceNeg, wrap_add, knows, hk, hd]
  · simp +contextual (disch := omega) only [go_sem, Nat.reduceEqDiff, ↓reduceIte, Int.reduceEq, Int.reduceNeg, wrap_add, knows, hk]
end Go.Proofs.Ytopannfdcikgiaa.Sy

/- Contracts: acts. -/
namespace Go.Proofs.Ytopannfdcikgiaa.Sy
open Go Go.RowKit
set_option linter.unusedSimpArgs false
set_option linter.unusedVariables false
@[go_sem] theorem bit_tup {vs : List GV} : (GV.tup vs).bit = none := (rfl)
def keyed (k : Int) : Bool := inB k 2 5
def valued (k : Int) : Bool := k == 1 || k == 4 || k == 6
def noS : ByteArray := ⟨#[]⟩
theorem s_Keyed_ret (σ : St) (k : Int) : Ret Try.prog n_s_l05Keyed [gi k] σ (.bool (keyed k)) σ := by
  refine ret_eq ir_s_l05Keyed (Nat.le_of_ble_eq_true rfl) trivial ?_
  simp +contextual (disch := omega) only [go_sem, Nat.reduceEqDiff, ↓reduceIte, Int.reduceEq, Int.reduceNeg, wrap_add, F_s_l05Keyed]
  refine by_ret (s_l01In_ret _ _ _ _) ?_
  simp +contextual (disch := omega) only [go_sem, Nat.reduceEqDiff, ↓reduceIte, Int.reduceEq, Int.reduceNeg, wrap_add, keyed]
theorem i_hasKey_ret (σ : St) (k : Int) : Ret Try.prog n_i_hasKey [gi k] σ (.bool (keyed k)) σ := by
  refine ret_eq ir_i_hasKey (Nat.le_of_ble_eq_true rfl) trivial ?_
  simp +contextual (disch := omega) only [go_sem, Nat.reduceEqDiff, ↓reduceIte, Int.reduceEq, Int.reduceNeg, wrap_add, F_i_hasKey]
  refine by_ret (i_within_ret _ _ _ _) ?_
  simp +contextual (disch := omega) only [go_sem, Nat.reduceEqDiff, ↓reduceIte, Int.reduceEq, Int.reduceNeg, wrap_add, keyed]
theorem s_Valued_ret (σ : St) (k : Int) : Ret Try.prog n_s_l05Valued [gi k] σ (.bool (valued k)) σ := by
  refine ret_eq ir_s_l05Valued (Nat.le_of_ble_eq_true rfl) trivial ?_
  simp +contextual (disch := omega) only [go_sem, Nat.reduceEqDiff, ↓reduceIte, Int.reduceEq, Int.reduceNeg, wrap_add, F_s_l05Valued, valued]
  grind
theorem i_hasVal_ret (σ : St) (k : Int) : Ret Try.prog n_i_hasVal [gi k] σ (.bool (valued k)) σ := by
  refine ret_eq ir_i_hasVal (Nat.le_of_ble_eq_true rfl) trivial ?_
  simp +contextual (disch := omega) only [go_sem, Nat.reduceEqDiff, ↓reduceIte, Int.reduceEq, Int.reduceNeg, wrap_add, F_i_hasVal, valued]
  grind
def valOk (kind val : Int) : Bool := val == 0 || valued kind && inB val 0 999999
def plainOk (kind : Int) (obj key : ByteArray) (val : Int) : Bool := inB kind 1 7 && (nameOk obj && ((if keyed kind then nameOk key else decide (key = noS)) && valOk kind val))
theorem s_Plain_ret (σ : St) (kind : Int) (obj key : ByteArray) (val : Int) (ho : obj.size ≤ 1099511627776) (hk : key.size ≤ 1099511627776) : Ret Try.prog n_s_l05Plain [gi kind, .str obj, .str key, gi val] σ (.bool (plainOk kind obj key val)) σ := by
  refine ret_eq ir_s_l05Plain (Nat.le_of_ble_eq_true rfl) trivial ?_
  simp +contextual (disch := omega) only [go_sem, Nat.reduceEqDiff, ↓reduceIte, Int.reduceEq, Int.reduceNeg, wrap_add, F_s_l05Plain]
  refine by_bool (s_l01In_ret _ _ _ _) (fun h1 => ?_) (fun h1 => ?_)
  · simp +contextual (disch := omega) only [go_sem, Nat.reduceEqDiff, ↓reduceIte, Int.reduceEq, Int.reduceNeg, wrap_add, List.append_nil]
    refine by_bool (s_NameOk_ret _ obj ho) (fun h2 => ?_) (fun h2 => ?_)
    · simp +contextual (disch := omega) only [go_sem, Nat.reduceEqDiff, ↓reduceIte, Int.reduceEq, Int.reduceNeg, wrap_add, List.append_nil]
      refine by_bool (s_Keyed_ret _ _) (fun h3 => ?_) (fun h3 => ?_)
      · simp +contextual (disch := omega) only [go_sem, Nat.reduceEqDiff, ↓reduceIte, Int.reduceEq, Int.reduceNeg, wrap_add, List.append_nil]
        refine by_bool (s_NameOk_ret _ key hk) (fun h4 => ?_) (fun h4 => ?_)
        · simp +contextual (disch := omega) only [go_sem, Nat.reduceEqDiff, ↓reduceIte, Int.reduceEq, Int.reduceNeg, wrap_add, List.append_nil]
          refine by_bool (s_Keyed_ret _ _) (fun h3 => ?_) (fun h3' => by rw [h3] at h3'; cases h3')
          simp +contextual (disch := omega) only [go_sem, Nat.reduceEqDiff, ↓reduceIte, Int.reduceEq, Int.reduceNeg, wrap_add, List.append_nil]
          cases hv : (val == 0) with
          | true => simp +contextual (disch := omega) only [go_sem, Nat.reduceEqDiff, ↓reduceIte, Int.reduceEq, Int.reduceNeg, wrap_add, plainOk, h1, h2, h3, h4, valOk, hv, Bool.true_or]
          | false =>
            simp +contextual (disch := omega) only [go_sem, Nat.reduceEqDiff, ↓reduceIte, Int.reduceEq, Int.reduceNeg, wrap_add, hv]
            refine by_bool (s_Valued_ret _ _) (fun h5 => ?_) (fun h5 => ?_)
            · simp +contextual (disch := omega) only [go_sem, Nat.reduceEqDiff, ↓reduceIte, Int.reduceEq, Int.reduceNeg, wrap_add, List.append_nil]
              refine by_ret (s_l01In_ret _ _ _ _) ?_
              simp +contextual (disch := omega) only [go_sem, Nat.reduceEqDiff, ↓reduceIte, Int.reduceEq, Int.reduceNeg, wrap_add, plainOk, h1, h2, h3, h4, h5, valOk, hv, Bool.false_or]
            · simp +contextual (disch := omega) only [go_sem, Nat.reduceEqDiff, ↓reduceIte, Int.reduceEq, Int.reduceNeg, wrap_add, plainOk, h1, h2, h3, h4, h5, valOk, hv, Bool.false_or]
        · simp +contextual (disch := omega) only [go_sem, Nat.reduceEqDiff, ↓reduceIte, Int.reduceEq, Int.reduceNeg, wrap_add, plainOk, h1, h2, h3, h4]
      · simp +contextual (disch := omega) only [go_sem, Nat.reduceEqDiff, ↓reduceIte, Int.reduceEq, Int.reduceNeg, wrap_add, List.append_nil]
        refine by_bool (s_Keyed_ret _ _) (fun h3' => by rw [h3] at h3'; cases h3') (fun h3 => ?_)
        simp +contextual (disch := omega) only [go_sem, Nat.reduceEqDiff, ↓reduceIte, Int.reduceEq, Int.reduceNeg, wrap_add, List.append_nil]
        cases hq : decide (key = noS) with
        | false =>
          have hq' : decide (key = { data := #[] }) = false := hq
          simp +contextual (disch := omega) only [go_sem, Nat.reduceEqDiff, ↓reduceIte, Int.reduceEq, Int.reduceNeg, wrap_add, hq', plainOk, h1, h2, h3, hq]
        | true =>
          have hq' : decide (key = { data := #[] }) = true := hq
          simp +contextual (disch := omega) only [go_sem, Nat.reduceEqDiff, ↓reduceIte, Int.reduceEq, Int.reduceNeg, wrap_add, hq']
          cases hv : (val == 0) with
          | true => simp +contextual (disch := omega) only [go_sem, Nat.reduceEqDiff, ↓reduceIte, Int.reduceEq, Int.reduceNeg, wrap_add, plainOk, h1, h2, h3, hq, valOk, hv, Bool.true_or]
          | false =>
            simp +contextual (disch := omega) only [go_sem, Nat.reduceEqDiff, ↓reduceIte, Int.reduceEq, Int.reduceNeg, wrap_add, hv]
            refine by_bool (s_Valued_ret _ _) (fun h5 => ?_) (fun h5 => ?_)
            · simp +contextual (disch := omega) only [go_sem, Nat.reduceEqDiff, ↓reduceIte, Int.reduceEq, Int.reduceNeg, wrap_add, List.append_nil]
              refine by_ret (s_l01In_ret _ _ _ _) ?_
              simp +contextual (disch := omega) only [go_sem, Nat.reduceEqDiff, ↓reduceIte, Int.reduceEq, Int.reduceNeg, wrap_add, plainOk, h1, h2, h3, hq, h5, valOk, hv, Bool.false_or]
            · simp +contextual (disch := omega) only [go_sem, Nat.reduceEqDiff, ↓reduceIte, Int.reduceEq, Int.reduceNeg, wrap_add, plainOk, h1, h2, h3, hq, h5, valOk, hv, Bool.false_or]
    · simp +contextual (disch := omega) only [go_sem, Nat.reduceEqDiff, ↓reduceIte, Int.reduceEq, Int.reduceNeg, wrap_add, plainOk, h1, h2]
  · simp +contextual (disch := omega) only [go_sem, Nat.reduceEqDiff, ↓reduceIte, Int.reduceEq, Int.reduceNeg, wrap_add, plainOk, h1]
theorem i_wordsOk_ret (σ : St) (kind : Int) (obj key : ByteArray) (val : Int) (ho : obj.size ≤ 1099511627776) (hk : key.size ≤ 1099511627776) : Ret Try.prog n_i_wordsOk [gi kind, .str obj, .str key, gi val] σ (.bool (plainOk kind obj key val)) σ := by
  have ne : nameOk noS = false := by decide
  refine ret_eq ir_i_wordsOk (Nat.le_of_ble_eq_true rfl) trivial ?_
  simp +contextual (disch := omega) only [go_sem, Nat.reduceEqDiff, ↓reduceIte, Int.reduceEq, Int.reduceNeg, wrap_add, F_i_wordsOk]
  refine by_bool (i_within_ret _ _ _ _) (fun h1 => ?_) (fun h1 => ?_)
  · simp +contextual (disch := omega) only [go_sem, Nat.reduceEqDiff, ↓reduceIte, Int.reduceEq, Int.reduceNeg, wrap_add, List.append_nil]
    refine by_bool (i_NameOk_ret _ obj ho) (fun h2 => ?_) (fun h2 => ?_)
    · simp +contextual (disch := omega) only [go_sem, Nat.reduceEqDiff, ↓reduceIte, Int.reduceEq, Int.reduceNeg, wrap_add, List.append_nil]
      cases hq : decide (key = noS) with
      | true =>
        have hq' : decide (key = { data := #[] }) = true := hq
        have hkn : nameOk key = false := by rw [of_decide_eq_true hq]; exact ne
        simp +contextual (disch := omega) only [go_sem, Nat.reduceEqDiff, ↓reduceIte, Int.reduceEq, Int.reduceNeg, wrap_add, hq']
        refine by_bool (i_hasKey_ret _ _) (fun h3 => ?_) (fun h3 => ?_)
        · simp +contextual (disch := omega) only [go_sem, Nat.reduceEqDiff, ↓reduceIte, Int.reduceEq, Int.reduceNeg, wrap_add, List.append_nil]
          refine by_bool (i_NameOk_ret _ key hk) (fun h4 => by rw [hkn] at h4; cases h4) (fun h4 => ?_)
          simp +contextual (disch := omega) only [go_sem, Nat.reduceEqDiff, ↓reduceIte, Int.reduceEq, Int.reduceNeg, wrap_add, plainOk, h1, h2, h3, h4]
        · simp +contextual (disch := omega) only [go_sem, Nat.reduceEqDiff, ↓reduceIte, Int.reduceEq, Int.reduceNeg, wrap_add, List.append_nil]
          cases hv : (val == 0) with
          | true => simp +contextual (disch := omega) only [go_sem, Nat.reduceEqDiff, ↓reduceIte, Int.reduceEq, Int.reduceNeg, wrap_add, plainOk, h1, h2, h3, hq, valOk, hv, Bool.true_or]
          | false =>
            simp +contextual (disch := omega) only [go_sem, Nat.reduceEqDiff, ↓reduceIte, Int.reduceEq, Int.reduceNeg, wrap_add, hv]
            refine by_bool (i_hasVal_ret _ _) (fun h5 => ?_) (fun h5 => ?_)
            · simp +contextual (disch := omega) only [go_sem, Nat.reduceEqDiff, ↓reduceIte, Int.reduceEq, Int.reduceNeg, wrap_add, List.append_nil]
              refine by_ret (i_within_ret _ _ _ _) ?_
              simp +contextual (disch := omega) only [go_sem, Nat.reduceEqDiff, ↓reduceIte, Int.reduceEq, Int.reduceNeg, wrap_add, plainOk, h1, h2, h3, hq, h5, valOk, hv, Bool.false_or]
            · simp +contextual (disch := omega) only [go_sem, Nat.reduceEqDiff, ↓reduceIte, Int.reduceEq, Int.reduceNeg, wrap_add, plainOk, h1, h2, h3, hq, h5, valOk, hv, Bool.false_or]
      | false =>
        have hq' : decide (key = { data := #[] }) = false := hq
        simp +contextual (disch := omega) only [go_sem, Nat.reduceEqDiff, ↓reduceIte, Int.reduceEq, Int.reduceNeg, wrap_add, hq']
        refine by_bool (i_NameOk_ret _ key hk) (fun h4 => ?_) (fun h4 => ?_)
        · simp +contextual (disch := omega) only [go_sem, Nat.reduceEqDiff, ↓reduceIte, Int.reduceEq, Int.reduceNeg, wrap_add, List.append_nil]
          refine by_bool (i_hasKey_ret _ _) (fun h3 => ?_) (fun h3 => ?_)
          · simp +contextual (disch := omega) only [go_sem, Nat.reduceEqDiff, ↓reduceIte, Int.reduceEq, Int.reduceNeg, wrap_add, List.append_nil]
            cases hv : (val == 0) with
            | true => simp +contextual (disch := omega) only [go_sem, Nat.reduceEqDiff, ↓reduceIte, Int.reduceEq, Int.reduceNeg, wrap_add, plainOk, h1, h2, h3, h4, valOk, hv, Bool.true_or]
            | false =>
              simp +contextual (disch := omega) only [go_sem, Nat.reduceEqDiff, ↓reduceIte, Int.reduceEq, Int.reduceNeg, wrap_add, hv]
              refine by_bool (i_hasVal_ret _ _) (fun h5 => ?_) (fun h5 => ?_)
              · simp +contextual (disch := omega) only [go_sem, Nat.reduceEqDiff, ↓reduceIte, Int.reduceEq, Int.reduceNeg, wrap_add, List.append_nil]
                refine by_ret (i_within_ret _ _ _ _) ?_
                simp +contextual (disch := omega) only [go_sem, Nat.reduceEqDiff, ↓reduceIte, Int.reduceEq, Int.reduceNeg, wrap_add, plainOk, h1, h2, h3, h4, h5, valOk, hv, Bool.false_or]
              · simp +contextual (disch := omega) only [go_sem, Nat.reduceEqDiff, ↓reduceIte, Int.reduceEq, Int.reduceNeg, wrap_add, plainOk, h1, h2, h3, h4, h5, valOk, hv, Bool.false_or]
          · simp +contextual (disch := omega) only [go_sem, Nat.reduceEqDiff, ↓reduceIte, Int.reduceEq, Int.reduceNeg, wrap_add, plainOk, h1, h2, h3, hq]
        · simp +contextual (disch := omega) only [go_sem, Nat.reduceEqDiff, ↓reduceIte, Int.reduceEq, Int.reduceNeg, wrap_add, List.append_nil]
          cases h3 : keyed kind <;> simp +contextual (disch := omega) only [go_sem, Nat.reduceEqDiff, ↓reduceIte, Int.reduceEq, Int.reduceNeg, wrap_add, plainOk, h1, h2, h3, h4, hq]
    · simp +contextual (disch := omega) only [go_sem, Nat.reduceEqDiff, ↓reduceIte, Int.reduceEq, Int.reduceNeg, wrap_add, plainOk, h1, h2]
  · simp +contextual (disch := omega) only [go_sem, Nat.reduceEqDiff, ↓reduceIte, Int.reduceEq, Int.reduceNeg, wrap_add, plainOk, h1]
/-! Acts. -/
def d0 : Dot := ⟨0, 0⟩
def refOk (a : Act) : Bool := if a.kind == 7 then knows a.knew a.ref else if a.kind == 6 then decide (a.ref = d0) || knows a.knew a.ref else decide (a.ref = d0)
def actHead (a : Act) : Bool := dotOk a.dot && (okK a.knew && (decide (at0 a.knew a.dot.rep = a.dot.seq - 1) && inB a.time 1 10000))
def actOk (a : Act) : Bool := actHead a && (plainOk a.kind a.obj a.key a.val && refOk a)
theorem s_ActOk_ret (σ : St) (cs : List GV) (a : Act) (hR : kAct.R σ a cs) (hl : msAct a ≤ 1099511627776) : Ret Try.prog n_s_ActOk [.agg cs] σ (.bool (actOk a)) σ := by
  obtain ⟨v, rfl, h⟩ := hR
  unfold msAct at hl
  have h1 := h.pre (pre1 σ (some (Blk.row 1 [.int .i64 a.dot.rep, .int .i64 a.dot.seq, .int .i64 a.time, v, .int .i64 a.kind, .str a.obj, .str a.key, .int .i64 a.val, .int .i64 a.ref.rep, .int .i64 a.ref.seq])))
  refine ret_eq ir_s_ActOk (Nat.le_of_ble_eq_true rfl) trivial ?_
  simp +contextual (disch := omega) only [go_sem, Nat.reduceEqDiff, ↓reduceIte, Int.reduceEq, Int.reduceNeg, wrap_add, F_s_ActOk]
  refine by_bool (s_DotOk_ret _ a.dot) (fun hd => ?_) (fun hd => ?_)
  · simp +contextual (disch := omega) only [go_sem, Nat.reduceEqDiff, ↓reduceIte, Int.reduceEq, Int.reduceNeg, wrap_add, List.append_nil]
    refine by_bool (s_KnowOk_ret _ v a.knew h1 (by omega)) (fun hk => ?_) (fun hk => ?_)
    · have hd' := dotOk_iff.1 hd
      have hr := rep_at h1 hk hd'.1.1 hd'.1.2
      cases he : (at0 a.knew a.dot.rep == a.dot.seq - 1) with
      | false =>
        have he' : decide (at0 a.knew a.dot.rep = a.dot.seq - 1) = false := he
        simp +contextual (disch := omega) only [go_sem, Nat.reduceEqDiff, ↓reduceIte, Int.reduceEq, Int.reduceNeg, wrap_add, hr, bne, he, actOk, actHead, hd, hk, he']
      | true =>
        have he' : decide (at0 a.knew a.dot.rep = a.dot.seq - 1) = true := he
        simp +contextual (disch := omega) only [go_sem, Nat.reduceEqDiff, ↓reduceIte, Int.reduceEq, Int.reduceNeg, wrap_add, hr, bne, he]
        refine by_bool (s_l01In_ret _ _ _ _) (fun ht => ?_) (fun ht => ?_)
        · have hh : actHead a = true := by simp only [actHead, hd, hk, he', ht, Bool.and_self]
          simp +contextual (disch := omega) only [go_sem, Nat.reduceEqDiff, ↓reduceIte, Int.reduceEq, Int.reduceNeg, wrap_add, List.append_nil]
          refine by_bool (s_Plain_ret _ _ _ _ _ (by omega) (by omega)) (fun hp => ?_) (fun hp => ?_)
          · simp +contextual (disch := omega) only [go_sem, Nat.reduceEqDiff, ↓reduceIte, Int.reduceEq, Int.reduceNeg, wrap_add, List.append_nil]
            cases h7 : (a.kind == 7) with
            | true =>
              simp +contextual (disch := omega) only [go_sem, Nat.reduceEqDiff, ↓reduceIte, Int.reduceEq, Int.reduceNeg, wrap_add, h7]
              refine by_ret (s_Knows_ret _ v a.knew a.ref h1 (by omega)) ?_
              simp +contextual (disch := omega) only [go_sem, Nat.reduceEqDiff, ↓reduceIte, Int.reduceEq, Int.reduceNeg, wrap_add, actOk, hh, hp, refOk, h7]
            | false =>
              cases h6 : (a.kind == 6) with
              | false =>
                simp +contextual (disch := omega) only [go_sem, Nat.reduceEqDiff, ↓reduceIte, Int.reduceEq, Int.reduceNeg, wrap_add, h7, h6, actOk, hh, hp, refOk, d0]
                rfl
              | true =>
                simp +contextual (disch := omega) only [go_sem, Nat.reduceEqDiff, ↓reduceIte, Int.reduceEq, Int.reduceNeg, wrap_add, h7, h6]
                cases hz : decide (a.ref = d0) with
                | true =>
                  have hz' : decide (a.ref = { rep := 0, seq := 0 }) = true := hz
                  simp +contextual (disch := omega) only [go_sem, Nat.reduceEqDiff, ↓reduceIte, Int.reduceEq, Int.reduceNeg, wrap_add, hz', actOk, hh, hp, refOk, h7, h6, hz, Bool.true_or]
                | false =>
                  have hz' : decide (a.ref = { rep := 0, seq := 0 }) = false := hz
                  simp +contextual (disch := omega) only [go_sem, Nat.reduceEqDiff, ↓reduceIte, Int.reduceEq, Int.reduceNeg, wrap_add, hz']
                  refine by_ret (s_Knows_ret _ v a.knew a.ref h1 (by omega)) ?_
                  simp +contextual (disch := omega) only [go_sem, Nat.reduceEqDiff, ↓reduceIte, Int.reduceEq, Int.reduceNeg, wrap_add, actOk, hh, hp, refOk, h7, h6, hz, Bool.false_or]
          · simp +contextual (disch := omega) only [go_sem, Nat.reduceEqDiff, ↓reduceIte, Int.reduceEq, Int.reduceNeg, wrap_add, actOk, hh, hp]
        · simp +contextual (disch := omega) only [go_sem, Nat.reduceEqDiff, ↓reduceIte, Int.reduceEq, Int.reduceNeg, wrap_add, actOk, actHead, hd, hk, he', ht]
    · simp +contextual (disch := omega) only [go_sem, Nat.reduceEqDiff, ↓reduceIte, Int.reduceEq, Int.reduceNeg, wrap_add, actOk, actHead, hd, hk]
  · simp +contextual (disch := omega) only [go_sem, Nat.reduceEqDiff, ↓reduceIte, Int.reduceEq, Int.reduceNeg, wrap_add, actOk, actHead, hd]
theorem i_ActOk_ret (σ : St) (cs : List GV) (a : Act) (hR : kAct.R σ a cs) (hl : msAct a ≤ 1099511627776) : Ret Try.prog n_i_ActOk [.agg cs] σ (.bool (actOk a)) σ := by
  obtain ⟨v, rfl, h⟩ := hR
  unfold msAct at hl
  have h1 := h.pre (pre1 σ (some (Blk.row 1 [.int .i64 a.dot.rep, .int .i64 a.dot.seq, .int .i64 a.time, v, .int .i64 a.kind, .str a.obj, .str a.key, .int .i64 a.val, .int .i64 a.ref.rep, .int .i64 a.ref.seq])))
  refine ret_eq ir_i_ActOk (Nat.le_of_ble_eq_true rfl) trivial ?_
  simp +contextual (disch := omega) only [go_sem, Nat.reduceEqDiff, ↓reduceIte, Int.reduceEq, Int.reduceNeg, wrap_add, F_i_ActOk]
  refine by_bool (i_DotOk_ret _ a.dot) (fun hd => ?_) (fun hd => ?_)
  · simp +contextual (disch := omega) only [go_sem, Nat.reduceEqDiff, ↓reduceIte, Int.reduceEq, Int.reduceNeg, wrap_add, List.append_nil]
    refine by_bool (i_KnowOk_ret _ v a.knew h1 (by omega)) (fun hk => ?_) (fun hk => ?_)
    · have hd' := dotOk_iff.1 hd
      have hr := rep_at h1 hk hd'.1.1 hd'.1.2
      cases he : (at0 a.knew a.dot.rep == a.dot.seq - 1) with
      | false =>
        have he' : decide (at0 a.knew a.dot.rep = a.dot.seq - 1) = false := he
        simp +contextual (disch := omega) only [go_sem, Nat.reduceEqDiff, ↓reduceIte, Int.reduceEq, Int.reduceNeg, wrap_add, hr, bne, he, actOk, actHead, hd, hk, he']
      | true =>
        have he' : decide (at0 a.knew a.dot.rep = a.dot.seq - 1) = true := he
        simp +contextual (disch := omega) only [go_sem, Nat.reduceEqDiff, ↓reduceIte, Int.reduceEq, Int.reduceNeg, wrap_add, hr, bne, he]
        refine by_bool (i_within_ret _ _ _ _) (fun ht => ?_) (fun ht => ?_)
        · have hh : actHead a = true := by simp only [actHead, hd, hk, he', ht, Bool.and_self]
          have fin : ∀ b : Bool, refOk a = b → actOk a = (plainOk a.kind a.obj a.key a.val && b) := fun b hb => by rw [actOk, hh, hb]; rfl
          cases h7 : (a.kind == 7) with
          | true =>
            simp +contextual (disch := omega) only [go_sem, Nat.reduceEqDiff, ↓reduceIte, Int.reduceEq, Int.reduceNeg, wrap_add, h7]
            refine by_bool (i_Knows_ret _ v a.knew a.ref h1 (by omega)) (fun hq => ?_) (fun hq => ?_)
            · simp +contextual (disch := omega) only [go_sem, Nat.reduceEqDiff, ↓reduceIte, Int.reduceEq, Int.reduceNeg, wrap_add, List.append_nil]
              refine by_ret (i_wordsOk_ret _ _ _ _ _ (by omega) (by omega)) ?_
              simp +contextual (disch := omega) only [go_sem, Nat.reduceEqDiff, ↓reduceIte, Int.reduceEq, Int.reduceNeg, wrap_add, fin true (by simp [refOk, h7, hq])]
            · simp +contextual (disch := omega) only [go_sem, Nat.reduceEqDiff, ↓reduceIte, Int.reduceEq, Int.reduceNeg, wrap_add, fin false (by simp [refOk, h7, hq])]
          | false =>
            cases h6 : (a.kind == 6) with
            | false =>
              cases hz : decide (a.ref = d0) with
              | true =>
                have hz' : decide (a.ref = { rep := 0, seq := 0 }) = true := hz
                simp +contextual (disch := omega) only [go_sem, Nat.reduceEqDiff, ↓reduceIte, Int.reduceEq, Int.reduceNeg, wrap_add, h7, h6, hz']
                refine by_ret (i_wordsOk_ret _ _ _ _ _ (by omega) (by omega)) ?_
                simp +contextual (disch := omega) only [go_sem, Nat.reduceEqDiff, ↓reduceIte, Int.reduceEq, Int.reduceNeg, wrap_add, fin true (by simp [refOk, h7, h6, hz])]
              | false =>
                have hz' : decide (a.ref = { rep := 0, seq := 0 }) = false := hz
                simp +contextual (disch := omega) only [go_sem, Nat.reduceEqDiff, ↓reduceIte, Int.reduceEq, Int.reduceNeg, wrap_add, h7, h6, hz', fin false (by simp [refOk, h7, h6, hz])]
            | true =>
              cases hz : decide (a.ref = d0) with
              | true =>
                have hz' : decide (a.ref = { rep := 0, seq := 0 }) = true := hz
                simp +contextual (disch := omega) only [go_sem, Nat.reduceEqDiff, ↓reduceIte, Int.reduceEq, Int.reduceNeg, wrap_add, h7, h6, hz']
                refine by_ret (i_wordsOk_ret _ _ _ _ _ (by omega) (by omega)) ?_
                simp +contextual (disch := omega) only [go_sem, Nat.reduceEqDiff, ↓reduceIte, Int.reduceEq, Int.reduceNeg, wrap_add, fin true (by simp [refOk, h7, h6, hz])]
              | false =>
                have hz' : decide (a.ref = { rep := 0, seq := 0 }) = false := hz
                simp +contextual (disch := omega) only [go_sem, Nat.reduceEqDiff, ↓reduceIte, Int.reduceEq, Int.reduceNeg, wrap_add, h7, h6, hz']
                refine by_bool (i_Knows_ret _ v a.knew a.ref h1 (by omega)) (fun hq => ?_) (fun hq => ?_)
                · simp +contextual (disch := omega) only [go_sem, Nat.reduceEqDiff, ↓reduceIte, Int.reduceEq, Int.reduceNeg, wrap_add, List.append_nil]
                  refine by_ret (i_wordsOk_ret _ _ _ _ _ (by omega) (by omega)) ?_
                  simp +contextual (disch := omega) only [go_sem, Nat.reduceEqDiff, ↓reduceIte, Int.reduceEq, Int.reduceNeg, wrap_add, fin true (by simp [refOk, h7, h6, hz, hq])]
                · simp +contextual (disch := omega) only [go_sem, Nat.reduceEqDiff, ↓reduceIte, Int.reduceEq, Int.reduceNeg, wrap_add, fin false (by simp [refOk, h7, h6, hz, hq])]
        · simp +contextual (disch := omega) only [go_sem, Nat.reduceEqDiff, ↓reduceIte, Int.reduceEq, Int.reduceNeg, wrap_add, actOk, actHead, hd, hk, he', ht]
    · simp +contextual (disch := omega) only [go_sem, Nat.reduceEqDiff, ↓reduceIte, Int.reduceEq, Int.reduceNeg, wrap_add, actOk, actHead, hd, hk]
  · simp +contextual (disch := omega) only [go_sem, Nat.reduceEqDiff, ↓reduceIte, Int.reduceEq, Int.reduceNeg, wrap_add, actOk, actHead, hd]
end Go.Proofs.Ytopannfdcikgiaa.Sy

/- Contracts: acts that know nothing of each other. -/
namespace Go.Proofs.Ytopannfdcikgiaa.Sy
open Go Go.RowKit
set_option linter.unusedSimpArgs false
set_option linter.unusedVariables false
abbrev n_s_Together : Nat := 42
def F_s_Together : Fn1 := ⟨34, [.t 4], (.seq (.reg [o 2 (.box (.t 0)), o 3 (.box (.t 1)), o 4 (.mov (.k (.bool false)))]) (.seq (.reg [o 5 (.ld true 10 (.t 2)), o 6 (.call 83 [(.t 5)]), o 7 (.mov (.t 6)), og 8 7 true (.ld true 10 (.t 3)), og 9 7 true (.call 83 [(.t 8)]), o 10 (.pick (.t 7) (.t 9) (.k (.bool false))), o 11 (.mov (.t 10)), og 12 11 true (.fad 0 (.t 2)), og 13 11 true (.ld true 2 (.t 12)), og 14 11 true (.fad 0 (.t 3)), og 15 11 true (.ld true 2 (.t 14)), og 16 11 true (.eqs true [.i .i64, .i .i64] (.t 13) (.t 15)), o 17 (.pick (.t 11) (.t 16) (.k (.bool false))), o 18 (.mov (.t 17)), og 19 18 true (.fad 3 (.t 2)), og 20 18 true (.ld false 1 (.t 19)), og 21 18 true (.fad 0 (.t 3)), og 22 18 true (.ld true 2 (.t 21)), og 23 18 true (.call 84 [(.t 20), (.t 22)]), og 24 18 true (.un .not (.t 23)), o 25 (.pick (.t 18) (.t 24) (.k (.bool false))), o 26 (.mov (.t 25)), og 27 26 true (.fad 3 (.t 3)), og 28 26 true (.ld false 1 (.t 27)), og 29 26 true (.fad 0 (.t 2)), og 30 26 true (.ld true 2 (.t 29)), og 31 26 true (.call 84 [(.t 28), (.t 30)]), og 32 26 true (.un .not (.t 31)), o 33 (.pick (.t 26) (.t 32) (.k (.bool false))), o 4 (.mov (.t 33))]) .ret))⟩
theorem ir_s_Together : compFn Try.prog n_s_Together = some F_s_Together := by kernel_rfl
abbrev n_i_Together : Nat := 44
def F_i_Together : Fn1 := ⟨34, [.t 4], (.seq (.reg [o 2 (.box (.t 0)), o 3 (.box (.t 1)), o 4 (.mov (.k (.bool false)))]) (.seq (.reg [o 5 (.ld true 10 (.t 2)), o 6 (.call 85 [(.t 5)]), o 7 (.mov (.t 6)), og 8 7 true (.ld true 10 (.t 3)), og 9 7 true (.call 85 [(.t 8)]), o 10 (.pick (.t 7) (.t 9) (.k (.bool false))), o 11 (.mov (.t 10)), og 12 11 true (.fad 0 (.t 2)), og 13 11 true (.ld true 2 (.t 12)), og 14 11 true (.fad 0 (.t 3)), og 15 11 true (.ld true 2 (.t 14)), og 16 11 true (.eqs true [.i .i64, .i .i64] (.t 13) (.t 15)), o 17 (.pick (.t 11) (.t 16) (.k (.bool false))), o 18 (.mov (.t 17)), og 19 18 true (.fad 3 (.t 2)), og 20 18 true (.ld false 1 (.t 19)), og 21 18 true (.fad 0 (.t 3)), og 22 18 true (.ld true 2 (.t 21)), og 23 18 true (.call 86 [(.t 20), (.t 22)]), og 24 18 true (.un .not (.t 23)), o 25 (.pick (.t 18) (.t 24) (.k (.bool false))), o 26 (.mov (.t 25)), og 27 26 true (.fad 3 (.t 3)), og 28 26 true (.ld false 1 (.t 27)), og 29 26 true (.fad 0 (.t 2)), og 30 26 true (.ld true 2 (.t 29)), og 31 26 true (.call 86 [(.t 28), (.t 30)]), og 32 26 true (.un .not (.t 31)), o 33 (.pick (.t 26) (.t 32) (.k (.bool false))), o 4 (.mov (.t 33))]) .ret))⟩
theorem ir_i_Together : compFn Try.prog n_i_Together = some F_i_Together := by kernel_rfl
def together (a b : Act) : Bool := actOk a && (actOk b && (!decide (a.dot = b.dot) && (!knows a.knew b.dot && !knows b.knew a.dot)))
theorem s_Together_ret (σ : St) (cs : List GV) (a : Act) (hR : kAct.R σ a cs) (ds : List GV) (b : Act) (hS : kAct.R σ b ds) (hl : msAct a ≤ 1099511627776) (hm : msAct b ≤ 1099511627776) : Ret Try.prog n_s_Together [.agg cs, .agg ds] σ (.bool (together a b)) σ := by
  have lc := kAct.len hR
  have ld := kAct.len hS
  have hR0 := hR
  have hS0 := hS
  obtain ⟨v, rfl, h⟩ := hR
  obtain ⟨u, rfl, k⟩ := hS
  have hR1 := kAct.pre hR0 (pre2 (x := some (Blk.row 1 [.int .i64 a.dot.rep, .int .i64 a.dot.seq, .int .i64 a.time, v, .int .i64 a.kind, .str a.obj, .str a.key, .int .i64 a.val, .int .i64 a.ref.rep, .int .i64 a.ref.seq])) (y := some (Blk.row 1 [.int .i64 b.dot.rep, .int .i64 b.dot.seq, .int .i64 b.time, u, .int .i64 b.kind, .str b.obj, .str b.key, .int .i64 b.val, .int .i64 b.ref.rep, .int .i64 b.ref.seq])))
  have hS1 := kAct.pre hS0 (pre2 (x := some (Blk.row 1 [.int .i64 a.dot.rep, .int .i64 a.dot.seq, .int .i64 a.time, v, .int .i64 a.kind, .str a.obj, .str a.key, .int .i64 a.val, .int .i64 a.ref.rep, .int .i64 a.ref.seq])) (y := some (Blk.row 1 [.int .i64 b.dot.rep, .int .i64 b.dot.seq, .int .i64 b.time, u, .int .i64 b.kind, .str b.obj, .str b.key, .int .i64 b.val, .int .i64 b.ref.rep, .int .i64 b.ref.seq])))
  have h1 := h.pre (pre2 (x := some (Blk.row 1 [.int .i64 a.dot.rep, .int .i64 a.dot.seq, .int .i64 a.time, v, .int .i64 a.kind, .str a.obj, .str a.key, .int .i64 a.val, .int .i64 a.ref.rep, .int .i64 a.ref.seq])) (y := some (Blk.row 1 [.int .i64 b.dot.rep, .int .i64 b.dot.seq, .int .i64 b.time, u, .int .i64 b.kind, .str b.obj, .str b.key, .int .i64 b.val, .int .i64 b.ref.rep, .int .i64 b.ref.seq])))
  have k1 := k.pre (pre2 (x := some (Blk.row 1 [.int .i64 a.dot.rep, .int .i64 a.dot.seq, .int .i64 a.time, v, .int .i64 a.kind, .str a.obj, .str a.key, .int .i64 a.val, .int .i64 a.ref.rep, .int .i64 a.ref.seq])) (y := some (Blk.row 1 [.int .i64 b.dot.rep, .int .i64 b.dot.seq, .int .i64 b.time, u, .int .i64 b.kind, .str b.obj, .str b.key, .int .i64 b.val, .int .i64 b.ref.rep, .int .i64 b.ref.seq])))
  have ha : a.knew.length ≤ 1099511627776 := by unfold msAct at hl; omega
  have hb : b.knew.length ≤ 1099511627776 := by unfold msAct at hm; omega
  refine ret_eq ir_s_Together (Nat.le_of_ble_eq_true rfl) trivial ?_
  simp +contextual (disch := omega) only [go_sem, Nat.reduceEqDiff, ↓reduceIte, Int.reduceEq, Int.reduceNeg, wrap_add, F_s_Together]
  refine by_bool (s_ActOk_ret _ _ a hR1 hl) (fun h2 => ?_) (fun h2 => ?_)
  · simp +contextual (disch := omega) only [go_sem, Nat.reduceEqDiff, ↓reduceIte, Int.reduceEq, Int.reduceNeg, wrap_add, List.append_nil]
    refine by_bool (s_ActOk_ret _ _ b hS1 hm) (fun h3 => ?_) (fun h3 => ?_)
    · cases hd : decide (a.dot = b.dot) with
      | true => simp +contextual (disch := omega) only [go_sem, Nat.reduceEqDiff, ↓reduceIte, Int.reduceEq, Int.reduceNeg, wrap_add, hd, together, h2, h3]
      | false =>
        simp +contextual (disch := omega) only [go_sem, Nat.reduceEqDiff, ↓reduceIte, Int.reduceEq, Int.reduceNeg, wrap_add, hd]
        refine by_bool (s_Knows_ret _ v a.knew b.dot h1 ha) (fun h4 => ?_) (fun h4 => ?_)
        · simp +contextual (disch := omega) only [go_sem, Nat.reduceEqDiff, ↓reduceIte, Int.reduceEq, Int.reduceNeg, wrap_add, together, h2, h3, hd, h4]
        · simp +contextual (disch := omega) only [go_sem, Nat.reduceEqDiff, ↓reduceIte, Int.reduceEq, Int.reduceNeg, wrap_add, List.append_nil]
          refine by_ret (s_Knows_ret _ u b.knew a.dot k1 hb) ?_
          simp +contextual (disch := omega) only [go_sem, Nat.reduceEqDiff, ↓reduceIte, Int.reduceEq, Int.reduceNeg, wrap_add, together, h2, h3, hd, h4]
    · simp +contextual (disch := omega) only [go_sem, Nat.reduceEqDiff, ↓reduceIte, Int.reduceEq, Int.reduceNeg, wrap_add, together, h2, h3]
  · simp +contextual (disch := omega) only [go_sem, Nat.reduceEqDiff, ↓reduceIte, Int.reduceEq, Int.reduceNeg, wrap_add, together, h2]
theorem i_Together_ret (σ : St) (cs : List GV) (a : Act) (hR : kAct.R σ a cs) (ds : List GV) (b : Act) (hS : kAct.R σ b ds) (hl : msAct a ≤ 1099511627776) (hm : msAct b ≤ 1099511627776) : Ret Try.prog n_i_Together [.agg cs, .agg ds] σ (.bool (together a b)) σ := by
  have lc := kAct.len hR
  have ld := kAct.len hS
  have hR0 := hR
  have hS0 := hS
  obtain ⟨v, rfl, h⟩ := hR
  obtain ⟨u, rfl, k⟩ := hS
  have hR1 := kAct.pre hR0 (pre2 (x := some (Blk.row 1 [.int .i64 a.dot.rep, .int .i64 a.dot.seq, .int .i64 a.time, v, .int .i64 a.kind, .str a.obj, .str a.key, .int .i64 a.val, .int .i64 a.ref.rep, .int .i64 a.ref.seq])) (y := some (Blk.row 1 [.int .i64 b.dot.rep, .int .i64 b.dot.seq, .int .i64 b.time, u, .int .i64 b.kind, .str b.obj, .str b.key, .int .i64 b.val, .int .i64 b.ref.rep, .int .i64 b.ref.seq])))
  have hS1 := kAct.pre hS0 (pre2 (x := some (Blk.row 1 [.int .i64 a.dot.rep, .int .i64 a.dot.seq, .int .i64 a.time, v, .int .i64 a.kind, .str a.obj, .str a.key, .int .i64 a.val, .int .i64 a.ref.rep, .int .i64 a.ref.seq])) (y := some (Blk.row 1 [.int .i64 b.dot.rep, .int .i64 b.dot.seq, .int .i64 b.time, u, .int .i64 b.kind, .str b.obj, .str b.key, .int .i64 b.val, .int .i64 b.ref.rep, .int .i64 b.ref.seq])))
  have h1 := h.pre (pre2 (x := some (Blk.row 1 [.int .i64 a.dot.rep, .int .i64 a.dot.seq, .int .i64 a.time, v, .int .i64 a.kind, .str a.obj, .str a.key, .int .i64 a.val, .int .i64 a.ref.rep, .int .i64 a.ref.seq])) (y := some (Blk.row 1 [.int .i64 b.dot.rep, .int .i64 b.dot.seq, .int .i64 b.time, u, .int .i64 b.kind, .str b.obj, .str b.key, .int .i64 b.val, .int .i64 b.ref.rep, .int .i64 b.ref.seq])))
  have k1 := k.pre (pre2 (x := some (Blk.row 1 [.int .i64 a.dot.rep, .int .i64 a.dot.seq, .int .i64 a.time, v, .int .i64 a.kind, .str a.obj, .str a.key, .int .i64 a.val, .int .i64 a.ref.rep, .int .i64 a.ref.seq])) (y := some (Blk.row 1 [.int .i64 b.dot.rep, .int .i64 b.dot.seq, .int .i64 b.time, u, .int .i64 b.kind, .str b.obj, .str b.key, .int .i64 b.val, .int .i64 b.ref.rep, .int .i64 b.ref.seq])))
  have ha : a.knew.length ≤ 1099511627776 := by unfold msAct at hl; omega
  have hb : b.knew.length ≤ 1099511627776 := by unfold msAct at hm; omega
  refine ret_eq ir_i_Together (Nat.le_of_ble_eq_true rfl) trivial ?_
  simp +contextual (disch := omega) only [go_sem, Nat.reduceEqDiff, ↓reduceIte, Int.reduceEq, Int.reduceNeg, wrap_add, F_i_Together]
  refine by_bool (i_ActOk_ret _ _ a hR1 hl) (fun h2 => ?_) (fun h2 => ?_)
  · simp +contextual (disch := omega) only [go_sem, Nat.reduceEqDiff, ↓reduceIte, Int.reduceEq, Int.reduceNeg, wrap_add, List.append_nil]
    refine by_bool (i_ActOk_ret _ _ b hS1 hm) (fun h3 => ?_) (fun h3 => ?_)
    · cases hd : decide (a.dot = b.dot) with
      | true => simp +contextual (disch := omega) only [go_sem, Nat.reduceEqDiff, ↓reduceIte, Int.reduceEq, Int.reduceNeg, wrap_add, hd, together, h2, h3]
      | false =>
        simp +contextual (disch := omega) only [go_sem, Nat.reduceEqDiff, ↓reduceIte, Int.reduceEq, Int.reduceNeg, wrap_add, hd]
        refine by_bool (i_Knows_ret _ v a.knew b.dot h1 ha) (fun h4 => ?_) (fun h4 => ?_)
        · simp +contextual (disch := omega) only [go_sem, Nat.reduceEqDiff, ↓reduceIte, Int.reduceEq, Int.reduceNeg, wrap_add, together, h2, h3, hd, h4]
        · simp +contextual (disch := omega) only [go_sem, Nat.reduceEqDiff, ↓reduceIte, Int.reduceEq, Int.reduceNeg, wrap_add, List.append_nil]
          refine by_ret (i_Knows_ret _ u b.knew a.dot k1 hb) ?_
          simp +contextual (disch := omega) only [go_sem, Nat.reduceEqDiff, ↓reduceIte, Int.reduceEq, Int.reduceNeg, wrap_add, together, h2, h3, hd, h4]
    · simp +contextual (disch := omega) only [go_sem, Nat.reduceEqDiff, ↓reduceIte, Int.reduceEq, Int.reduceNeg, wrap_add, together, h2, h3]
  · simp +contextual (disch := omega) only [go_sem, Nat.reduceEqDiff, ↓reduceIte, Int.reduceEq, Int.reduceNeg, wrap_add, together, h2]
end Go.Proofs.Ytopannfdcikgiaa.Sy

/- Contracts of the laws' own functions: HeqDot. -/
namespace Go.Proofs.Ytopannfdcikgiaa.Sy
open Go Go.RowKit
set_option linter.unusedSimpArgs false
set_option linter.unusedVariables false
abbrev n_l_eqDot : Nat := 87
def F_l_eqDot : Fn1 := ⟨15, [.t 4], (.seq (.reg [o 2 (.box (.t 0)), o 3 (.box (.t 1)), o 4 (.mov (.k (.bool false)))]) (.seq (.seq (.reg [o 5 (.fad 0 (.t 2)), o 6 (.ld false 1 (.t 5)), o 7 (.fad 0 (.t 3)), o 8 (.ld false 1 (.t 7)), o 9 (.bin .neq (.t 6) (.t 8))]) (.cnd (.t 9) (.seq (.reg [o 4 (.mov (.k (.bool false)))]) .ret) .skip)) (.seq (.seq (.reg [o 10 (.fad 1 (.t 2)), o 11 (.ld false 1 (.t 10)), o 12 (.fad 1 (.t 3)), o 13 (.ld false 1 (.t 12)), o 14 (.bin .neq (.t 11) (.t 13))]) (.cnd (.t 14) (.seq (.reg [o 4 (.mov (.k (.bool false)))]) .ret) .skip)) (.seq (.reg [o 4 (.mov (.k (.bool true)))]) .ret))))⟩
theorem ir_l_eqDot : compFn Try.prog n_l_eqDot = some F_l_eqDot := by kernel_rfl
theorem l_eqDot_ret (σ : St) (x y : Dot) : Ret Try.prog n_l_eqDot [.agg [.int .i64 x.rep, .int .i64 x.seq], .agg [.int .i64 y.rep, .int .i64 y.seq]] σ (.bool (decide (x = y))) σ := by
  refine ret_eq ir_l_eqDot (Nat.le_of_ble_eq_true rfl) trivial ?_
  simp +contextual (disch := omega) only [go_sem, Nat.reduceEqDiff, ↓reduceIte, Int.reduceEq, Int.reduceNeg, wrap_add, F_l_eqDot, List.append_nil]
  refine ⟨fun hn => ?_, fun hn => ?_⟩
  · simp only [Dot.eq_iff]; simp at hn ⊢; simp [hn]
  have q0 : x.rep = y.rep := by simpa using hn
  refine ⟨fun hn => ?_, fun hn => ?_⟩
  · simp only [Dot.eq_iff]; simp at hn ⊢; simp [hn]
  have q1 : x.seq = y.seq := by simpa using hn
  simp only [Dot.eq_iff, q0, q1, and_self, decide_true]
end Go.Proofs.Ytopannfdcikgiaa.Sy

/- Contracts of the laws' own functions: HeqIntS. -/
namespace Go.Proofs.Ytopannfdcikgiaa.Sy
open Go Go.RowKit
set_option linter.unusedSimpArgs false
set_option linter.unusedVariables false
abbrev n_l_eqIntS : Nat := 22
def F_l_eqIntS : Fn1 := ⟨26, [.t 4], (.seq (.reg [o 4 (.mov (.k (.bool false)))]) (.seq (.seq (.reg [o 6 (.mov (.t 0)), o 7 (.len false (.t 6)), o 8 (.mov (.t 1)), o 9 (.len false (.t 8)), o 10 (.bin .neq (.t 7) (.t 9))]) (.cnd (.t 10) (.seq (.reg [o 4 (.mov (.k (.bool false)))]) .ret) .skip)) (.seq (.seq (.reg [o 5 (.mov (.k (.int .i64 0)))]) (.blk 0 (.lop (.seq (.seq (.reg [o 11 (.mov (.t 5)), o 12 (.mov (.t 0)), o 13 (.len false (.t 12)), o 14 (.bin .lss (.t 11) (.t 13))]) (.cnd (.t 14) .skip (.ext 0))) (.seq (.blk 1 (.seq (.drw [o 17 (.mov (.t 0)), o 18 (.mov (.t 5)), o 19 (.iad 1 (.t 17) (.t 18)), o 20 (.ld false 1 (.t 19)), o 21 (.mov (.t 1)), o 22 (.mov (.t 5)), o 23 (.iad 1 (.t 21) (.t 22)), o 24 (.ld false 1 (.t 23))] [o 25 (.bin .neq (.t 20) (.t 24))]) (.cnd (.t 25) (.seq (.reg [o 4 (.mov (.k (.bool false)))]) .ret) .skip))) (.reg [o 15 (.mov (.t 5)), o 16 (.bin .add (.t 15) (.k (.int .i64 1))), o 5 (.mov (.t 16))])))))) (.seq (.reg [o 4 (.mov (.k (.bool true)))]) .ret))))⟩
theorem ir_l_eqIntS : compFn Try.prog n_l_eqIntS = some F_l_eqIntS := by kernel_rfl
theorem l_eqIntS_ret (σ : St) (v u : GV) (l m : List Int) (hv : RS pI.kd σ v l) (hu : RS pI.kd σ u m) (hl : l.length ≤ 1099511627776) : Ret Try.prog n_l_eqIntS [v, u] σ (.bool (decide (l = m))) σ := by
  refine ret_eq ir_l_eqIntS (Nat.le_of_ble_eq_true rfl) trivial ?_
  simp +contextual (disch := omega) only [go_sem, Nat.reduceEqDiff, ↓reduceIte, Int.reduceEq, Int.reduceNeg, wrap_add, F_l_eqIntS, hv.len, hu.len]
  refine ⟨fun hn => ?_, fun hn => ?_⟩
  · have : l ≠ m := fun h => by subst h; simp at hn
    simp [this]
  have hlm : l.length = m.length := by have h2 : (l.length : Int) = m.length := by simpa using hn
                                       omega
  refine vc_for l.length 5 (fun i env τ => env 0 = v ∧ env 1 = u ∧ l.take i = m.take i ∧ σ <+: τ) rfl ⟨rfl, rfl, rfl, List.prefix_refl _⟩ ?_ ?_
  · rintro i env τ hi e5 c0 ⟨e0, e1, he, hp⟩
    have hj : i < m.length := by omega
    have h1 := hv.pre hp
    have h2 := hu.pre hp
    have hne : l[i] ≠ m[i] → l ≠ m := fun h h' => h (by subst h'; rfl)
    have hst : l[i] = m[i] → l.take (i + 1) = m.take (i + 1) := fun h => by rw [take_snoc hi, take_snoc hj, he, h]
    simp +contextual (disch := omega) only [go_sem, Nat.reduceEqDiff, ↓reduceIte, Int.reduceEq, Int.reduceNeg, wrap_add, c0, e0, e1, e5, hv.len, hu.len, int_at h1 hi, int_at h2 hj, hp]
    refine ⟨fun h => ?_, fun h => ?_⟩
    · simp [hne (by simpa using h)]
    · simpa using hst (by simpa using h)
  · rintro env τ e5 c0 ⟨e0, e1, he, hp⟩
    rw [List.take_length, hlm, List.take_length] at he
    simp +contextual (disch := omega) only [go_sem, Nat.reduceEqDiff, ↓reduceIte, Int.reduceEq, Int.reduceNeg, wrap_add, c0, e0, e1, e5, hv.len, hu.len, hp]
    simp [he]
end Go.Proofs.Ytopannfdcikgiaa.Sy

/- Contracts of the laws' own functions: HeqAct. -/
namespace Go.Proofs.Ytopannfdcikgiaa.Sy
open Go Go.RowKit
set_option linter.unusedSimpArgs false
set_option linter.unusedVariables false
abbrev n_l_eqAct : Nat := 45
def F_l_eqAct : Fn1 := ⟨48, [.t 4], (.seq (.reg [o 2 (.box (.t 0)), o 3 (.box (.t 1)), o 4 (.mov (.k (.bool false)))]) (.seq (.seq (.reg [o 5 (.fad 0 (.t 2)), o 6 (.ld true 2 (.t 5)), o 7 (.fad 0 (.t 3)), o 8 (.ld true 2 (.t 7)), o 9 (.call 87 [(.t 6), (.t 8)]), o 10 (.un .not (.t 9))]) (.cnd (.t 10) (.seq (.reg [o 4 (.mov (.k (.bool false)))]) .ret) .skip)) (.seq (.seq (.reg [o 11 (.fad 2 (.t 2)), o 12 (.ld false 1 (.t 11)), o 13 (.fad 2 (.t 3)), o 14 (.ld false 1 (.t 13)), o 15 (.bin .neq (.t 12) (.t 14))]) (.cnd (.t 15) (.seq (.reg [o 4 (.mov (.k (.bool false)))]) .ret) .skip)) (.seq (.seq (.reg [o 16 (.fad 3 (.t 2)), o 17 (.ld false 1 (.t 16)), o 18 (.fad 3 (.t 3)), o 19 (.ld false 1 (.t 18)), o 20 (.call 22 [(.t 17), (.t 19)]), o 21 (.un .not (.t 20))]) (.cnd (.t 21) (.seq (.reg [o 4 (.mov (.k (.bool false)))]) .ret) .skip)) (.seq (.seq (.reg [o 22 (.fad 4 (.t 2)), o 23 (.ld false 1 (.t 22)), o 24 (.fad 4 (.t 3)), o 25 (.ld false 1 (.t 24)), o 26 (.bin .neq (.t 23) (.t 25))]) (.cnd (.t 26) (.seq (.reg [o 4 (.mov (.k (.bool false)))]) .ret) .skip)) (.seq (.seq (.reg [o 27 (.fad 5 (.t 2)), o 28 (.ld false 1 (.t 27)), o 29 (.fad 5 (.t 3)), o 30 (.ld false 1 (.t 29)), o 31 (.bin .neq (.t 28) (.t 30))]) (.cnd (.t 31) (.seq (.reg [o 4 (.mov (.k (.bool false)))]) .ret) .skip)) (.seq (.seq (.reg [o 32 (.fad 6 (.t 2)), o 33 (.ld false 1 (.t 32)), o 34 (.fad 6 (.t 3)), o 35 (.ld false 1 (.t 34)), o 36 (.bin .neq (.t 33) (.t 35))]) (.cnd (.t 36) (.seq (.reg [o 4 (.mov (.k (.bool false)))]) .ret) .skip)) (.seq (.seq (.reg [o 37 (.fad 7 (.t 2)), o 38 (.ld false 1 (.t 37)), o 39 (.fad 7 (.t 3)), o 40 (.ld false 1 (.t 39)), o 41 (.bin .neq (.t 38) (.t 40))]) (.cnd (.t 41) (.seq (.reg [o 4 (.mov (.k (.bool false)))]) .ret) .skip)) (.seq (.seq (.reg [o 42 (.fad 8 (.t 2)), o 43 (.ld true 2 (.t 42)), o 44 (.fad 8 (.t 3)), o 45 (.ld true 2 (.t 44)), o 46 (.call 87 [(.t 43), (.t 45)]), o 47 (.un .not (.t 46))]) (.cnd (.t 47) (.seq (.reg [o 4 (.mov (.k (.bool false)))]) .ret) .skip)) (.seq (.reg [o 4 (.mov (.k (.bool true)))]) .ret))))))))))⟩
theorem ir_l_eqAct : compFn Try.prog n_l_eqAct = some F_l_eqAct := by kernel_rfl
theorem l_eqAct_ret (σ : St) (cs ds : List GV) (x y : Act) (hx : kAct.R σ x cs) (hy : kAct.R σ y ds) (hl : msAct x ≤ 1099511627776) : Ret Try.prog n_l_eqAct [.agg cs, .agg ds] σ (.bool (decide (x = y))) σ := by
  obtain ⟨v2, rfl, q2_⟩ := hx
  obtain ⟨u2, rfl, p2_⟩ := hy
  unfold msAct at hl
  refine ret_eq ir_l_eqAct (Nat.le_of_ble_eq_true rfl) trivial ?_
  simp +contextual (disch := omega) only [go_sem, Nat.reduceEqDiff, ↓reduceIte, Int.reduceEq, Int.reduceNeg, wrap_add, F_l_eqAct, List.append_nil]
  refine by_ret (l_eqDot_ret _ x.dot y.dot) ?_
  simp +contextual (disch := omega) only [go_sem, Nat.reduceEqDiff, ↓reduceIte, Int.reduceEq, Int.reduceNeg, wrap_add, List.append_nil]
  refine ⟨fun hn => ?_, fun hn => ?_⟩
  · simp only [Act.eq_iff]; simp at hn ⊢; simp [hn]
  have q0 : x.dot = y.dot := by simpa using hn
  refine ⟨fun hn => ?_, fun hn => ?_⟩
  · simp only [Act.eq_iff]; simp at hn ⊢; simp [hn]
  have q1 : x.time = y.time := by simpa using hn
  refine by_ret (l_eqIntS_ret _ v2 u2 x.knew y.knew (q2_.pre pre2) (p2_.pre pre2) (by omega)) ?_
  simp +contextual (disch := omega) only [go_sem, Nat.reduceEqDiff, ↓reduceIte, Int.reduceEq, Int.reduceNeg, wrap_add, List.append_nil]
  refine ⟨fun hn => ?_, fun hn => ?_⟩
  · simp only [Act.eq_iff]; simp at hn ⊢; simp [hn]
  have q2 : x.knew = y.knew := by simpa using hn
  refine ⟨fun hn => ?_, fun hn => ?_⟩
  · simp only [Act.eq_iff]; simp at hn ⊢; simp [hn]
  have q3 : x.kind = y.kind := by simpa using hn
  refine ⟨fun hn => ?_, fun hn => ?_⟩
  · simp only [Act.eq_iff]; simp at hn ⊢; simp [hn]
  have q4 : x.obj = y.obj := by simpa using hn
  refine ⟨fun hn => ?_, fun hn => ?_⟩
  · simp only [Act.eq_iff]; simp at hn ⊢; simp [hn]
  have q5 : x.key = y.key := by simpa using hn
  refine ⟨fun hn => ?_, fun hn => ?_⟩
  · simp only [Act.eq_iff]; simp at hn ⊢; simp [hn]
  have q6 : x.val = y.val := by simpa using hn
  refine by_ret (l_eqDot_ret _ x.ref y.ref) ?_
  simp +contextual (disch := omega) only [go_sem, Nat.reduceEqDiff, ↓reduceIte, Int.reduceEq, Int.reduceNeg, wrap_add, List.append_nil]
  refine ⟨fun hn => ?_, fun hn => ?_⟩
  · simp only [Act.eq_iff]; simp at hn ⊢; simp [hn]
  have q7 : x.ref = y.ref := by simpa using hn
  simp only [Act.eq_iff, q0, q1, q2, q3, q4, q5, q6, q7, and_self, decide_true]
end Go.Proofs.Ytopannfdcikgiaa.Sy

/- Contracts of the laws' own functions: HszIntS. -/
namespace Go.Proofs.Ytopannfdcikgiaa.Sy
open Go Go.RowKit
set_option linter.unusedSimpArgs false
set_option linter.unusedVariables false
abbrev n_l_szIntS : Nat := 75
def F_l_szIntS : Fn1 := ⟨12, [.t 4], (.seq (.reg [o 4 (.mov (.k (.int .i64 0)))]) (.seq (.reg [o 5 (.mov (.t 1)), o 6 (.mov (.t 0)), o 7 (.len false (.t 6)), o 8 (.bin .sub (.t 5) (.t 7)), o 1 (.mov (.t 8))]) (.seq (.seq (.reg [o 9 (.mov (.t 1)), o 10 (.bin .lss (.t 9) (.k (.int .i64 0)))]) (.cnd (.t 10) (.seq (.reg [o 4 (.mov (.k (.int .i64 (-1))))]) .ret) .skip)) (.seq (.reg [o 11 (.mov (.t 1)), o 4 (.mov (.t 11))]) .ret))))⟩
theorem ir_l_szIntS : compFn Try.prog n_l_szIntS = some F_l_szIntS := by kernel_rfl
theorem l_szIntS_ret (σ : St) (v : GV) (l : List Int) (hR : RS pI.kd σ v l) (n : Int) (hw : l.length ≤ 9223372036854775807) (h0 : 0 ≤ n) (h1 : n ≤ 1099511627776) : Ret Try.prog n_l_szIntS [v, gi n] σ (gi (lf n l.length)) σ := by
  refine ret_eq ir_l_szIntS (Nat.le_of_ble_eq_true rfl) trivial ?_
  simp +contextual (disch := omega) only [go_sem, Nat.reduceEqDiff, ↓reduceIte, Int.reduceEq, Int.reduceNeg, wrap_add, F_l_szIntS, hR.len]
  refine ⟨fun h => ?_, fun h => ?_⟩
  · rw [lf, if_pos (of_decide_eq_true h)]
  · rw [lf, if_neg (of_decide_eq_false h)]
end Go.Proofs.Ytopannfdcikgiaa.Sy

/- Contracts of the laws' own functions: HszAct. -/
namespace Go.Proofs.Ytopannfdcikgiaa.Sy
open Go Go.RowKit
set_option linter.unusedSimpArgs false
set_option linter.unusedVariables false
abbrev n_l_szAct : Nat := 41
def F_l_szAct : Fn1 := ⟨26, [.t 4], (.seq (.reg [o 2 (.box (.t 0)), o 4 (.mov (.k (.int .i64 0)))]) (.seq (.reg [o 5 (.fad 3 (.t 2)), o 6 (.ld false 1 (.t 5)), o 7 (.mov (.t 1)), o 8 (.call 75 [(.t 6), (.t 7)]), o 1 (.mov (.t 8))]) (.seq (.seq (.reg [o 9 (.mov (.t 1)), o 10 (.bin .lss (.t 9) (.k (.int .i64 0)))]) (.cnd (.t 10) (.seq (.reg [o 4 (.mov (.k (.int .i64 (-1))))]) .ret) .skip)) (.seq (.reg [o 11 (.mov (.t 1)), o 12 (.fad 5 (.t 2)), o 13 (.ld false 1 (.t 12)), o 14 (.len true (.t 13)), o 15 (.bin .sub (.t 11) (.t 14)), o 1 (.mov (.t 15))]) (.seq (.seq (.reg [o 16 (.mov (.t 1)), o 17 (.bin .lss (.t 16) (.k (.int .i64 0)))]) (.cnd (.t 17) (.seq (.reg [o 4 (.mov (.k (.int .i64 (-1))))]) .ret) .skip)) (.seq (.reg [o 18 (.mov (.t 1)), o 19 (.fad 6 (.t 2)), o 20 (.ld false 1 (.t 19)), o 21 (.len true (.t 20)), o 22 (.bin .sub (.t 18) (.t 21)), o 1 (.mov (.t 22))]) (.seq (.seq (.reg [o 23 (.mov (.t 1)), o 24 (.bin .lss (.t 23) (.k (.int .i64 0)))]) (.cnd (.t 24) (.seq (.reg [o 4 (.mov (.k (.int .i64 (-1))))]) .ret) .skip)) (.seq (.reg [o 25 (.mov (.t 1)), o 4 (.mov (.t 25))]) .ret))))))))⟩
theorem ir_l_szAct : compFn Try.prog n_l_szAct = some F_l_szAct := by kernel_rfl
theorem l_szAct_ret (σ : St) (cs : List GV) (x : Act) (hR : kAct.R σ x cs) (n : Int) (hw : wAct x) (h0 : 0 ≤ n) (h1 : n ≤ 1099511627776) : Ret Try.prog n_l_szAct [.agg cs, gi n] σ (gi (lf n (msAct x))) σ := by
  obtain ⟨v2, rfl, q2⟩ := hR
  obtain ⟨w0, w1, w2⟩ := hw
  refine ret_eq ir_l_szAct (Nat.le_of_ble_eq_true rfl) trivial ?_
  simp +contextual (disch := omega) only [go_sem, Nat.reduceEqDiff, ↓reduceIte, Int.reduceEq, Int.reduceNeg, wrap_add, F_l_szAct, List.append_nil]
  refine by_ret (l_szIntS_ret _ v2 x.knew (q2.pre (pre1 _ _)) (n) w0 (by omega) (by omega)) ?_
  simp +contextual (disch := omega) only [go_sem, Nat.reduceEqDiff, ↓reduceIte, Int.reduceEq, Int.reduceNeg, wrap_add, List.append_nil]
  have g0 := @lf_le (n) (x.knew.length) (by omega)
  refine ⟨fun hn => ?_, fun hn => ?_⟩
  · have hn := of_decide_eq_true hn
    have hn := lf_neg.1 hn
    unfold msAct lf; rw [if_pos (by omega)]
  have hn := of_decide_eq_false hn
  have f0 := lf_some hn
  try simp (disch := omega) only [wrap_add]
  refine ⟨fun hn => ?_, fun hn => ?_⟩
  · have hn := of_decide_eq_true hn
    unfold msAct lf; rw [if_pos (by omega)]
  have hn := of_decide_eq_false hn
  try simp (disch := omega) only [wrap_add]
  refine ⟨fun hn => ?_, fun hn => ?_⟩
  · have hn := of_decide_eq_true hn
    unfold msAct lf; rw [if_pos (by omega)]
  have hn := of_decide_eq_false hn
  try simp (disch := omega) only [wrap_add]
  unfold msAct; rw [show lf n (x.knew.length + x.obj.size + x.key.size) = n - ((x.knew.length + x.obj.size + x.key.size : Nat) : Int) by unfold lf; rw [if_neg (by omega)]]; try omega
end Go.Proofs.Ytopannfdcikgiaa.Sy

/- Contracts of the laws' own functions: records of our own. -/
namespace Go.Proofs.Ytopannfdcikgiaa.Sy
open Go Go.RowKit
set_option linter.unusedSimpArgs false
set_option linter.unusedVariables false
theorem Hp.ownAct {σ τ : St} {rs : List Thg} {x : Act} {v2 : GV} (H : Hp σ τ (ow pI.kd v2 x.knew :: rs)) : Hp σ τ (own kAct ((GV.int .i64 x.dot.rep) :: (GV.int .i64 x.dot.seq) :: (GV.int .i64 x.time) :: v2 :: (GV.int .i64 x.kind) :: (GV.str x.obj) :: (GV.str x.key) :: (GV.int .i64 x.val) :: (GV.int .i64 x.ref.rep) :: (GV.int .i64 x.ref.seq) :: []) x :: rs) := by
  refine (H).conv ?_
  intro fp h0
  exact ⟨v2, fp, rfl, h0, rfl⟩
theorem Hp.splitAct {σ τ : St} {rs : List Thg} {x : Act} {cs : List GV} (H : Hp σ τ (own kAct cs x :: rs)) : ∃ v2, cs = (GV.int .i64 x.dot.rep) :: (GV.int .i64 x.dot.seq) :: (GV.int .i64 x.time) :: v2 :: (GV.int .i64 x.kind) :: (GV.str x.obj) :: (GV.str x.key) :: (GV.int .i64 x.val) :: (GV.int .i64 x.ref.rep) :: (GV.int .i64 x.ref.seq) :: [] ∧ Hp σ τ (ow pI.kd v2 x.knew :: rs) := by
  obtain ⟨h, fp, ⟨a, b, ⟨v2, f0, rfl, h0, rfl⟩, hs, rfl⟩, hn, hb⟩ := H
  exact ⟨v2, rfl, h, _, ⟨_, _, h0, hs, rfl⟩, by simpa [List.append_assoc] using hn, by simpa [List.append_assoc] using hb⟩
theorem Hp.ownState {σ τ : St} {rs : List Thg} {x : State} {v0 : GV} {v1 : GV} {v2 : GV} {v3 : GV} (H : Hp σ τ (ow pI.kd v0 x.know :: ow pTally.kd v1 x.tallies :: ow pLive.kd v2 x.lives :: ow pCell.kd v3 x.cells :: rs)) : Hp σ τ (own kState (v0 :: v1 :: v2 :: v3 :: []) x :: rs) := by
  refine (H.join.join.join).conv ?_
  rintro fp ⟨_, f3, ⟨_, f2, ⟨f0, f1, h0, h1, rfl⟩, h2, rfl⟩, h3, rfl⟩
  exact ⟨v0, v1, v2, v3, f0, f1, f2, f3, rfl, h0, h1, h2, h3, by simp [List.append_assoc]⟩
theorem Hp.splitState {σ τ : St} {rs : List Thg} {x : State} {cs : List GV} (H : Hp σ τ (own kState cs x :: rs)) : ∃ v0 v1 v2 v3, cs = v0 :: v1 :: v2 :: v3 :: [] ∧ Hp σ τ (ow pI.kd v0 x.know :: ow pTally.kd v1 x.tallies :: ow pLive.kd v2 x.lives :: ow pCell.kd v3 x.cells :: rs) := by
  obtain ⟨h, fp, ⟨a, b, ⟨v0, v1, v2, v3, f0, f1, f2, f3, rfl, h0, h1, h2, h3, rfl⟩, hs, rfl⟩, hn, hb⟩ := H
  exact ⟨v0, v1, v2, v3, rfl, h, _, ⟨_, _, h0, ⟨_, _, h1, ⟨_, _, h2, ⟨_, _, h3, hs, rfl⟩, rfl⟩, rfl⟩, rfl⟩, by simpa [List.append_assoc] using hn, by simpa [List.append_assoc] using hb⟩
theorem Hp.ownDelta {σ τ : St} {rs : List Thg} {x : Delta} {v0 : GV} {v1 : GV} {v2 : GV} {v3 : GV} {v4 : GV} {v5 : GV} (H : Hp σ τ (ow pI.kd v0 x.base :: ow pI.kd v1 x.know :: ow pTally.kd v2 x.tallies :: ow pLive.kd v3 x.lives :: ow pDot.kd v4 x.dead :: ow pCell.kd v5 x.cells :: rs)) : Hp σ τ (own kDelta (v0 :: v1 :: v2 :: v3 :: v4 :: v5 :: []) x :: rs) := by
  refine (H.join.join.join.join.join).conv ?_
  rintro fp ⟨_, f5, ⟨_, f4, ⟨_, f3, ⟨_, f2, ⟨f0, f1, h0, h1, rfl⟩, h2, rfl⟩, h3, rfl⟩, h4, rfl⟩, h5, rfl⟩
  exact ⟨v0, v1, v2, v3, v4, v5, f0, f1, f2, f3, f4, f5, rfl, h0, h1, h2, h3, h4, h5, by simp [List.append_assoc]⟩
theorem Hp.splitDelta {σ τ : St} {rs : List Thg} {x : Delta} {cs : List GV} (H : Hp σ τ (own kDelta cs x :: rs)) : ∃ v0 v1 v2 v3 v4 v5, cs = v0 :: v1 :: v2 :: v3 :: v4 :: v5 :: [] ∧ Hp σ τ (ow pI.kd v0 x.base :: ow pI.kd v1 x.know :: ow pTally.kd v2 x.tallies :: ow pLive.kd v3 x.lives :: ow pDot.kd v4 x.dead :: ow pCell.kd v5 x.cells :: rs) := by
  obtain ⟨h, fp, ⟨a, b, ⟨v0, v1, v2, v3, v4, v5, f0, f1, f2, f3, f4, f5, rfl, h0, h1, h2, h3, h4, h5, rfl⟩, hs, rfl⟩, hn, hb⟩ := H
  exact ⟨v0, v1, v2, v3, v4, v5, rfl, h, _, ⟨_, _, h0, ⟨_, _, h1, ⟨_, _, h2, ⟨_, _, h3, ⟨_, _, h4, ⟨_, _, h5, hs, rfl⟩, rfl⟩, rfl⟩, rfl⟩, rfl⟩, rfl⟩, by simpa [List.append_assoc] using hn, by simpa [List.append_assoc] using hb⟩
theorem Hp.ownUnit_ {σ τ : St} {rs : List Thg} {x : Unit_} {v1 : List GV} {v2 : List GV} (H : Hp σ τ (own kAct v1 x.act :: own kDelta v2 x.delta :: rs)) : Hp σ τ (own kUnit_ ((GV.bool x.batch) :: v1 ++ (v2 ++ ([]))) x :: rs) := by
  refine (H.join).conv ?_
  rintro fp ⟨f0, f1, h0, h1, rfl⟩
  exact ⟨v1, v2, f0, f1, rfl, h0, h1, by simp [List.append_assoc]⟩
theorem Hp.splitUnit_ {σ τ : St} {rs : List Thg} {x : Unit_} {cs : List GV} (H : Hp σ τ (own kUnit_ cs x :: rs)) : ∃ v1 v2, cs = (GV.bool x.batch) :: v1 ++ (v2 ++ ([])) ∧ Hp σ τ (own kAct v1 x.act :: own kDelta v2 x.delta :: rs) := by
  obtain ⟨h, fp, ⟨a, b, ⟨v1, v2, f0, f1, rfl, h0, h1, rfl⟩, hs, rfl⟩, hn, hb⟩ := H
  exact ⟨v1, v2, rfl, h, _, ⟨_, _, h0, ⟨_, _, h1, hs, rfl⟩, rfl⟩, by simpa [List.append_assoc] using hn, by simpa [List.append_assoc] using hb⟩
theorem Hp.ownLog {σ τ : St} {rs : List Thg} {x : Log} {v2 : List GV} {v3 : GV} {v4 : GV} (H : Hp σ τ (own kState v2 x.state :: ow kUnit_ v3 x.units :: ow kUnit_ v4 x.waits :: rs)) : Hp σ τ (own kLog ((GV.int .i64 x.rep) :: (GV.int .i64 x.time) :: v2 ++ (v3 :: v4 :: [])) x :: rs) := by
  refine (H.join.join).conv ?_
  rintro fp ⟨_, f2, ⟨f0, f1, h0, h1, rfl⟩, h2, rfl⟩
  exact ⟨v2, v3, v4, f0, f1, f2, rfl, h0, h1, h2, by simp [List.append_assoc]⟩
theorem Hp.splitLog {σ τ : St} {rs : List Thg} {x : Log} {cs : List GV} (H : Hp σ τ (own kLog cs x :: rs)) : ∃ v2 v3 v4, cs = (GV.int .i64 x.rep) :: (GV.int .i64 x.time) :: v2 ++ (v3 :: v4 :: []) ∧ Hp σ τ (own kState v2 x.state :: ow kUnit_ v3 x.units :: ow kUnit_ v4 x.waits :: rs) := by
  obtain ⟨h, fp, ⟨a, b, ⟨v2, v3, v4, f0, f1, f2, rfl, h0, h1, h2, rfl⟩, hs, rfl⟩, hn, hb⟩ := H
  exact ⟨v2, v3, v4, rfl, h, _, ⟨_, _, h0, ⟨_, _, h1, ⟨_, _, h2, hs, rfl⟩, rfl⟩, rfl⟩, by simpa [List.append_assoc] using hn, by simpa [List.append_assoc] using hb⟩
theorem Hp.ownCommit {σ τ : St} {rs : List Thg} {x : Commit} {v1 : GV} {v2 : List GV} (H : Hp σ τ (ow pI.kd v1 x.ups :: own kState v2 x.state :: rs)) : Hp σ τ (own kCommit ((GV.int .i64 x.id.rep) :: (GV.int .i64 x.id.seq) :: v1 :: v2 ++ ([])) x :: rs) := by
  refine (H.join).conv ?_
  rintro fp ⟨f0, f1, h0, h1, rfl⟩
  exact ⟨v1, v2, f0, f1, rfl, h0, h1, by simp [List.append_assoc]⟩
theorem Hp.splitCommit {σ τ : St} {rs : List Thg} {x : Commit} {cs : List GV} (H : Hp σ τ (own kCommit cs x :: rs)) : ∃ v1 v2, cs = (GV.int .i64 x.id.rep) :: (GV.int .i64 x.id.seq) :: v1 :: v2 ++ ([]) ∧ Hp σ τ (ow pI.kd v1 x.ups :: own kState v2 x.state :: rs) := by
  obtain ⟨h, fp, ⟨a, b, ⟨v1, v2, f0, f1, rfl, h0, h1, rfl⟩, hs, rfl⟩, hn, hb⟩ := H
  exact ⟨v1, v2, rfl, h, _, ⟨_, _, h0, ⟨_, _, h1, hs, rfl⟩, rfl⟩, by simpa [List.append_assoc] using hn, by simpa [List.append_assoc] using hb⟩
theorem Hp.ownGraph {σ τ : St} {rs : List Thg} {x : Graph} {v0 : GV} (H : Hp σ τ (ow kCommit v0 x.commits :: rs)) : Hp σ τ (own kGraph (v0 :: (GV.int .i64 x.head) :: []) x :: rs) := by
  refine (H).conv ?_
  intro fp h0
  exact ⟨v0, fp, rfl, h0, rfl⟩
theorem Hp.splitGraph {σ τ : St} {rs : List Thg} {x : Graph} {cs : List GV} (H : Hp σ τ (own kGraph cs x :: rs)) : ∃ v0, cs = v0 :: (GV.int .i64 x.head) :: [] ∧ Hp σ τ (ow kCommit v0 x.commits :: rs) := by
  obtain ⟨h, fp, ⟨a, b, ⟨v0, f0, rfl, h0, rfl⟩, hs, rfl⟩, hn, hb⟩ := H
  exact ⟨v0, rfl, h, _, ⟨_, _, h0, hs, rfl⟩, by simpa [List.append_assoc] using hn, by simpa [List.append_assoc] using hb⟩
theorem Hp.ownReplica {σ τ : St} {rs : List Thg} {x : Replica} {v1 : List GV} {v2 : List GV} {v4 : GV} (H : Hp σ τ (own kLog v1 x.log :: own kGraph v2 x.graph :: ow kUnit_ v4 x.out :: rs)) : Hp σ τ (own kReplica ((GV.int .i64 x.way) :: v1 ++ (v2 ++ ((GV.str x.file.text) :: (GV.int .i64 x.file.synced) :: v4 :: []))) x :: rs) := by
  refine (H.join.join).conv ?_
  rintro fp ⟨_, f2, ⟨f0, f1, h0, h1, rfl⟩, h2, rfl⟩
  exact ⟨v1, v2, v4, f0, f1, f2, rfl, h0, h1, h2, by simp [List.append_assoc]⟩
theorem Hp.splitReplica {σ τ : St} {rs : List Thg} {x : Replica} {cs : List GV} (H : Hp σ τ (own kReplica cs x :: rs)) : ∃ v1 v2 v4, cs = (GV.int .i64 x.way) :: v1 ++ (v2 ++ ((GV.str x.file.text) :: (GV.int .i64 x.file.synced) :: v4 :: [])) ∧ Hp σ τ (own kLog v1 x.log :: own kGraph v2 x.graph :: ow kUnit_ v4 x.out :: rs) := by
  obtain ⟨h, fp, ⟨a, b, ⟨v1, v2, v4, f0, f1, f2, rfl, h0, h1, h2, rfl⟩, hs, rfl⟩, hn, hb⟩ := H
  exact ⟨v1, v2, v4, rfl, h, _, ⟨_, _, h0, ⟨_, _, h1, ⟨_, _, h2, hs, rfl⟩, rfl⟩, rfl⟩, by simpa [List.append_assoc] using hn, by simpa [List.append_assoc] using hb⟩
theorem Hp.ownWorld_ {σ τ : St} {rs : List Thg} {x : World_} {v0 : GV} {v1 : GV} {v2 : GV} {v3 : GV} (H : Hp σ τ (ow kReplica v0 x.replicas :: ow pLetter.kd v1 x.net :: ow pI.kd v2 x.codes :: ow (Kd.sl pI.kd) v3 x.synced :: rs)) : Hp σ τ (own kWorld_ (v0 :: v1 :: v2 :: v3 :: []) x :: rs) := by
  refine (H.join.join.join).conv ?_
  rintro fp ⟨_, f3, ⟨_, f2, ⟨f0, f1, h0, h1, rfl⟩, h2, rfl⟩, h3, rfl⟩
  exact ⟨v0, v1, v2, v3, f0, f1, f2, f3, rfl, h0, h1, h2, h3, by simp [List.append_assoc]⟩
theorem Hp.splitWorld_ {σ τ : St} {rs : List Thg} {x : World_} {cs : List GV} (H : Hp σ τ (own kWorld_ cs x :: rs)) : ∃ v0 v1 v2 v3, cs = v0 :: v1 :: v2 :: v3 :: [] ∧ Hp σ τ (ow kReplica v0 x.replicas :: ow pLetter.kd v1 x.net :: ow pI.kd v2 x.codes :: ow (Kd.sl pI.kd) v3 x.synced :: rs) := by
  obtain ⟨h, fp, ⟨a, b, ⟨v0, v1, v2, v3, f0, f1, f2, f3, rfl, h0, h1, h2, h3, rfl⟩, hs, rfl⟩, hn, hb⟩ := H
  exact ⟨v0, v1, v2, v3, rfl, h, _, ⟨_, _, h0, ⟨_, _, h1, ⟨_, _, h2, ⟨_, _, h3, hs, rfl⟩, rfl⟩, rfl⟩, rfl⟩, by simpa [List.append_assoc] using hn, by simpa [List.append_assoc] using hb⟩
theorem Hp.ownScript {σ τ : St} {rs : List Thg} {x : Script} {v0 : GV} {v1 : GV} (H : Hp σ τ (ow pI.kd v0 x.ways :: ow pEvent.kd v1 x.events :: rs)) : Hp σ τ (own kScript (v0 :: v1 :: (GV.bool x.calm) :: []) x :: rs) := by
  refine (H.join).conv ?_
  rintro fp ⟨f0, f1, h0, h1, rfl⟩
  exact ⟨v0, v1, f0, f1, rfl, h0, h1, by simp [List.append_assoc]⟩
theorem Hp.splitScript {σ τ : St} {rs : List Thg} {x : Script} {cs : List GV} (H : Hp σ τ (own kScript cs x :: rs)) : ∃ v0 v1, cs = v0 :: v1 :: (GV.bool x.calm) :: [] ∧ Hp σ τ (ow pI.kd v0 x.ways :: ow pEvent.kd v1 x.events :: rs) := by
  obtain ⟨h, fp, ⟨a, b, ⟨v0, v1, f0, f1, rfl, h0, h1, rfl⟩, hs, rfl⟩, hn, hb⟩ := H
  exact ⟨v0, v1, rfl, h, _, ⟨_, _, h0, ⟨_, _, h1, hs, rfl⟩, rfl⟩, by simpa [List.append_assoc] using hn, by simpa [List.append_assoc] using hb⟩
end Go.Proofs.Ytopannfdcikgiaa.Sy

/- Contracts of the laws' own functions: HtoDot. -/
namespace Go.Proofs.Ytopannfdcikgiaa.Sy
open Go Go.RowKit
set_option linter.unusedSimpArgs false
set_option linter.unusedVariables false
abbrev n_l_toDot : Nat := 55
def F_l_toDot : Fn1 := ⟨11, [.c 2 true 2], (.seq (.reg [o 1 (.box (.t 0)), o 2 (.new [(.int .i64 0), (.int .i64 0)])]) (.seq (.reg [o 3 (.new [(.int .i64 0), (.int .i64 0)])]) (.seq (.reg [o 4 (.fad 0 (.t 1)), o 5 (.ld false 1 (.t 4)), o 6 (.fad 0 (.t 3)), on (.st 1 (.t 6) (.t 5))]) (.seq (.reg [o 7 (.fad 1 (.t 1)), o 8 (.ld false 1 (.t 7)), o 9 (.fad 1 (.t 3)), on (.st 1 (.t 9) (.t 8))]) (.seq (.reg [o 10 (.ld true 2 (.t 3)), on (.st 2 (.t 2) (.t 10))]) .ret)))))⟩
theorem ir_l_toDot : compFn Try.prog n_l_toDot = some F_l_toDot := by kernel_rfl
theorem l_toDot_ret (σ : St) (x : Dot) : Ret Try.prog n_l_toDot [.agg [.int .i64 x.rep, .int .i64 x.seq]] σ (.agg [.int .i64 x.rep, .int .i64 x.seq]) σ := by
  refine ret_eq ir_l_toDot (Nat.le_of_ble_eq_true rfl) (by simp [vLt, cLt, sLt]) ?_
  simp +contextual (disch := omega) only [go_sem, Nat.reduceEqDiff, ↓reduceIte, Int.reduceEq, Int.reduceNeg, wrap_add, F_l_toDot]
end Go.Proofs.Ytopannfdcikgiaa.Sy

/- Contracts of the laws' own functions: HtoIntS. -/
namespace Go.Proofs.Ytopannfdcikgiaa.Sy
open Go Go.RowKit
set_option linter.unusedSimpArgs false
set_option linter.unusedVariables false
abbrev n_l_toIntS : Nat := 20
def F_l_toIntS : Fn1 := ⟨22, [.t 2], (.seq (.reg [o 2 (.mov (.k .nilS))]) (.seq (.reg [o 5 (.mov (.t 0)), o 6 (.len false (.t 5)), o 7 (.mks 1 8 [(.int .i64 0)] (.t 6) (.t 6)), o 3 (.mov (.t 7))]) (.seq (.seq (.reg [o 4 (.mov (.k (.int .i64 0)))]) (.blk 0 (.lop (.seq (.seq (.reg [o 8 (.mov (.t 4)), o 9 (.mov (.t 0)), o 10 (.len false (.t 9)), o 11 (.bin .lss (.t 8) (.t 10))]) (.cnd (.t 11) .skip (.ext 0))) (.seq (.blk 1 (.reg [o 14 (.mov (.t 3)), o 15 (.mov (.t 4)), o 16 (.mov (.t 0)), o 17 (.mov (.t 4)), o 18 (.iad 1 (.t 16) (.t 17)), o 19 (.ld false 1 (.t 18)), o 20 (.iad 1 (.t 14) (.t 15)), on (.st 1 (.t 20) (.t 19))])) (.reg [o 12 (.mov (.t 4)), o 13 (.bin .add (.t 12) (.k (.int .i64 1))), o 4 (.mov (.t 13))])))))) (.seq (.reg [o 21 (.mov (.t 3)), o 2 (.mov (.t 21))]) .ret))))⟩
theorem ir_l_toIntS : compFn Try.prog n_l_toIntS = some F_l_toIntS := by kernel_rfl
theorem l_toIntS_ret (σ : St) (v : GV) (l : List Int) (hR : RS pI.kd σ v l) (hl : l.length ≤ 1099511627776) : ∃ r τ, Ret Try.prog n_l_toIntS [v] σ r τ ∧ Hp σ τ [ow pI.kd r l] := by
  refine ret_hp (rs := fun r => [ow pI.kd r l]) ir_l_toIntS (Nat.le_of_ble_eq_true rfl) ?_
  have hmk : ∀ ze, mksG 1 8 ze σ (some l.length) (some l.length) = some (.sl σ.length 0 l.length, σ ++ [some (.row 1 (reps l.length ze))]) := fun ze => mks_ok (by omega)
  simp +contextual (disch := omega) only [go_sem, Nat.reduceEqDiff, ↓reduceIte, Int.reduceEq, Int.reduceNeg, wrap_add, F_l_toIntS, hR.len, hmk]
  have H0 := ((Hp.refl σ).new 1 (reps l.length (pI.enc 0))).toRow 0 (p := pI) rfl (List.replicate l.length 0) rfl (reps_enc _ _ _) l.length (by simp)
  refine vc_for l.length 4 (fun i env τ => env 0 = v ∧ env 3 = .sl σ.length 0 l.length ∧ Hp σ τ [ow pI.kd (.sl σ.length 0 l.length) (l.take i ++ List.replicate (l.length - i) 0)]) rfl ⟨rfl, rfl, by rw [List.take_zero, List.nil_append, Nat.sub_zero]; exact H0⟩ ?_ ?_
  · rintro i env τ hi e4 c0 ⟨e0, e3, H⟩
    have h1 := hR.pre H.sub
    have h2 := H.sl 0 rfl
    have hj := fill_len (z := (0 : Int)) hi
    obtain ⟨τ', es, H'⟩ := H.stw 0 rfl hj 1 (.int .i64 l[i]) l[i] rfl rfl (by decide)
    rw [fill_step hi] at H'
    have es : stG 1 τ (atz 1 (.sl σ.length 0 l.length) i) (.int .i64 l[i]) = some (.tup [], τ') := es
    simp +contextual (disch := omega) only [go_sem, Nat.reduceEqDiff, ↓reduceIte, Int.reduceEq, Int.reduceNeg, wrap_add, e0, e3, e4, c0, hR.len, int_at h1 hi, int_at h2 hj, es]
    exact H'
  · rintro env τ e4 c0 ⟨e0, e3, H⟩
    rw [fill_end] at H
    simp +contextual (disch := omega) only [go_sem, Nat.reduceEqDiff, ↓reduceIte, Int.reduceEq, Int.reduceNeg, wrap_add, e0, e3, e4, c0, hR.len]
    exact ⟨_, rfl, H⟩
end Go.Proofs.Ytopannfdcikgiaa.Sy

/- Contracts of the laws' own functions: HtoAct. -/
namespace Go.Proofs.Ytopannfdcikgiaa.Sy
open Go Go.RowKit
set_option linter.unusedSimpArgs false
set_option linter.unusedVariables false
abbrev n_l_toAct : Nat := 43
def F_l_toAct : Fn1 := ⟨32, [.c 2 true 10], (.seq (.reg [o 1 (.box (.t 0)), o 2 (.new [(.int .i64 0), (.int .i64 0), (.int .i64 0), .nilS, (.int .i64 0), (.str ⟨#[]⟩), (.str ⟨#[]⟩), (.int .i64 0), (.int .i64 0), (.int .i64 0)])]) (.seq (.reg [o 3 (.new [(.int .i64 0), (.int .i64 0), (.int .i64 0), .nilS, (.int .i64 0), (.str ⟨#[]⟩), (.str ⟨#[]⟩), (.int .i64 0), (.int .i64 0), (.int .i64 0)])]) (.seq (.reg [o 4 (.fad 0 (.t 1)), o 5 (.ld true 2 (.t 4)), o 6 (.call 55 [(.t 5)]), o 7 (.fad 0 (.t 3)), on (.st 2 (.t 7) (.t 6))]) (.seq (.reg [o 8 (.fad 2 (.t 1)), o 9 (.ld false 1 (.t 8)), o 10 (.fad 2 (.t 3)), on (.st 1 (.t 10) (.t 9))]) (.seq (.reg [o 11 (.fad 3 (.t 1)), o 12 (.ld false 1 (.t 11)), o 13 (.call 20 [(.t 12)]), o 14 (.fad 3 (.t 3)), on (.st 1 (.t 14) (.t 13))]) (.seq (.reg [o 15 (.fad 4 (.t 1)), o 16 (.ld false 1 (.t 15)), o 17 (.fad 4 (.t 3)), on (.st 1 (.t 17) (.t 16))]) (.seq (.reg [o 18 (.fad 5 (.t 1)), o 19 (.ld false 1 (.t 18)), o 20 (.fad 5 (.t 3)), on (.st 1 (.t 20) (.t 19))]) (.seq (.reg [o 21 (.fad 6 (.t 1)), o 22 (.ld false 1 (.t 21)), o 23 (.fad 6 (.t 3)), on (.st 1 (.t 23) (.t 22))]) (.seq (.reg [o 24 (.fad 7 (.t 1)), o 25 (.ld false 1 (.t 24)), o 26 (.fad 7 (.t 3)), on (.st 1 (.t 26) (.t 25))]) (.seq (.reg [o 27 (.fad 8 (.t 1)), o 28 (.ld true 2 (.t 27)), o 29 (.call 55 [(.t 28)]), o 30 (.fad 8 (.t 3)), on (.st 2 (.t 30) (.t 29))]) (.seq (.reg [o 31 (.ld true 10 (.t 3)), on (.st 10 (.t 2) (.t 31))]) .ret)))))))))))⟩
theorem ir_l_toAct : compFn Try.prog n_l_toAct = some F_l_toAct := by kernel_rfl
theorem l_toAct_ret (σ : St) (cs : List GV) (x : Act) (hR : kAct.R σ x cs) (hl : msAct x ≤ 1099511627776) : ∃ r τ, Ret Try.prog n_l_toAct [.agg cs] σ r τ ∧ σ <+: τ ∧ ∃ ds, r = .agg ds ∧ Hp σ τ [own kAct ds x] := by
  have hlen := kAct.len hR
  have hlen : cs.length = 10 := hlen
  obtain ⟨v2, rfl, q2⟩ := hR
  unfold msAct at hl
  refine ret_new ir_l_toAct (Nat.le_of_ble_eq_true rfl) ?_
  simp +contextual (disch := omega) only [go_sem, Nat.reduceEqDiff, ↓reduceIte, Int.reduceEq, Int.reduceNeg, wrap_add, F_l_toAct, List.append_nil]
  refine by_ret (l_toDot_ret _ x.dot) ?_
  simp +contextual (disch := omega) only [go_sem, Nat.reduceEqDiff, ↓reduceIte, Int.reduceEq, Int.reduceNeg, wrap_add, List.append_nil]
  have H := (((Hp.refl σ).new 1 ((GV.int .i64 x.dot.rep) :: (GV.int .i64 x.dot.seq) :: (GV.int .i64 x.time) :: v2 :: (GV.int .i64 x.kind) :: (GV.str x.obj) :: (GV.str x.key) :: (GV.int .i64 x.val) :: (GV.int .i64 x.ref.rep) :: (GV.int .i64 x.ref.seq) :: [])).new 1 [(GV.int .i64 0), (GV.int .i64 0), (GV.int .i64 0), GV.nilS, (GV.int .i64 0), (GV.str ⟨#[]⟩), (GV.str ⟨#[]⟩), (GV.int .i64 0), (GV.int .i64 0), (GV.int .i64 0)]).new 1 [(GV.int .i64 x.dot.rep), (GV.int .i64 x.dot.seq), (GV.int .i64 x.time), GV.nilS, (GV.int .i64 0), (GV.str ⟨#[]⟩), (GV.str ⟨#[]⟩), (GV.int .i64 0), (GV.int .i64 0), (GV.int .i64 0)]
  obtain ⟨r2, τ2, R2, K2⟩ := l_toIntS_ret _ v2 x.knew (q2.pre H.sub) (by omega)
  refine by_hp R2 K2 ?_
  have e2 := (K2.sl 0 rfl).cell
  have H := H.add K2
  try simp only [go_sem] at H
  try simp +contextual (disch := omega) only [go_sem, Nat.reduceEqDiff, ↓reduceIte, Int.reduceEq, Int.reduceNeg, wrap_add, List.append_nil, ld_ptr (H.pt 3 rfl), ld_ptr (H.pt 1 rfl)]
  obtain ⟨_, es, H, _⟩ := H.st 1 rfl 1 3 (r2) (by rw [e2]; rfl) (by decide) (Nat.le_of_ble_eq_true rfl)
  try simp only [go_sem, List.set_cons_zero, List.set_cons_succ, e2] at H
  try simp +contextual (disch := omega) only [go_sem, Nat.reduceEqDiff, ↓reduceIte, Int.reduceEq, Int.reduceNeg, wrap_add, List.append_nil, es, ld_ptr (H.pt 3 rfl), ld_ptr (H.pt 1 rfl)]
  try simp +contextual (disch := omega) only [go_sem, Nat.reduceEqDiff, ↓reduceIte, Int.reduceEq, Int.reduceNeg, wrap_add, List.append_nil, ld_ptr (H.pt 3 rfl), ld_ptr (H.pt 1 rfl)]
  obtain ⟨_, es, H, _⟩ := H.st 1 rfl 1 4 (.int .i64 x.kind) (rfl) (by decide) (Nat.le_of_ble_eq_true rfl)
  try simp only [go_sem, List.set_cons_zero, List.set_cons_succ] at H
  try simp +contextual (disch := omega) only [go_sem, Nat.reduceEqDiff, ↓reduceIte, Int.reduceEq, Int.reduceNeg, wrap_add, List.append_nil, es, ld_ptr (H.pt 3 rfl), ld_ptr (H.pt 1 rfl)]
  try simp +contextual (disch := omega) only [go_sem, Nat.reduceEqDiff, ↓reduceIte, Int.reduceEq, Int.reduceNeg, wrap_add, List.append_nil, ld_ptr (H.pt 3 rfl), ld_ptr (H.pt 1 rfl)]
  obtain ⟨_, es, H, _⟩ := H.st 1 rfl 1 5 (.str x.obj) (rfl) (by decide) (Nat.le_of_ble_eq_true rfl)
  try simp only [go_sem, List.set_cons_zero, List.set_cons_succ] at H
  try simp +contextual (disch := omega) only [go_sem, Nat.reduceEqDiff, ↓reduceIte, Int.reduceEq, Int.reduceNeg, wrap_add, List.append_nil, es, ld_ptr (H.pt 3 rfl), ld_ptr (H.pt 1 rfl)]
  try simp +contextual (disch := omega) only [go_sem, Nat.reduceEqDiff, ↓reduceIte, Int.reduceEq, Int.reduceNeg, wrap_add, List.append_nil, ld_ptr (H.pt 3 rfl), ld_ptr (H.pt 1 rfl)]
  obtain ⟨_, es, H, _⟩ := H.st 1 rfl 1 6 (.str x.key) (rfl) (by decide) (Nat.le_of_ble_eq_true rfl)
  try simp only [go_sem, List.set_cons_zero, List.set_cons_succ] at H
  try simp +contextual (disch := omega) only [go_sem, Nat.reduceEqDiff, ↓reduceIte, Int.reduceEq, Int.reduceNeg, wrap_add, List.append_nil, es, ld_ptr (H.pt 3 rfl), ld_ptr (H.pt 1 rfl)]
  try simp +contextual (disch := omega) only [go_sem, Nat.reduceEqDiff, ↓reduceIte, Int.reduceEq, Int.reduceNeg, wrap_add, List.append_nil, ld_ptr (H.pt 3 rfl), ld_ptr (H.pt 1 rfl)]
  obtain ⟨_, es, H, _⟩ := H.st 1 rfl 1 7 (.int .i64 x.val) (rfl) (by decide) (Nat.le_of_ble_eq_true rfl)
  try simp only [go_sem, List.set_cons_zero, List.set_cons_succ] at H
  try simp +contextual (disch := omega) only [go_sem, Nat.reduceEqDiff, ↓reduceIte, Int.reduceEq, Int.reduceNeg, wrap_add, List.append_nil, es, ld_ptr (H.pt 3 rfl), ld_ptr (H.pt 1 rfl)]
  refine by_ret (l_toDot_ret _ x.ref) ?_
  try simp +contextual (disch := omega) only [go_sem, Nat.reduceEqDiff, ↓reduceIte, Int.reduceEq, Int.reduceNeg, wrap_add, List.append_nil, ld_ptr (H.pt 3 rfl), ld_ptr (H.pt 1 rfl)]
  obtain ⟨_, es, H, _⟩ := H.st 1 rfl 2 8 (.agg [.int .i64 x.ref.rep, .int .i64 x.ref.seq]) (rfl) (by decide) (Nat.le_of_ble_eq_true rfl)
  try simp only [go_sem, List.set_cons_zero, List.set_cons_succ] at H
  try simp +contextual (disch := omega) only [go_sem, Nat.reduceEqDiff, ↓reduceIte, Int.reduceEq, Int.reduceNeg, wrap_add, List.append_nil, es, ld_ptr (H.pt 3 rfl), ld_ptr (H.pt 1 rfl)]
  obtain ⟨_, es, H, _⟩ := H.st 2 rfl 10 0 (.agg ((GV.int .i64 x.dot.rep) :: (GV.int .i64 x.dot.seq) :: (GV.int .i64 x.time) :: r2 :: (GV.int .i64 x.kind) :: (GV.str x.obj) :: (GV.str x.key) :: (GV.int .i64 x.val) :: (GV.int .i64 x.ref.rep) :: (GV.int .i64 x.ref.seq) :: [])) (rfl) (by decide) (Nat.le_of_ble_eq_true rfl)
  try simp only [go_sem, List.set_cons_zero, List.set_cons_succ] at H
  try simp +contextual (disch := omega) only [go_sem, Nat.reduceEqDiff, ↓reduceIte, Int.reduceEq, Int.reduceNeg, wrap_add, List.append_nil, es, ld_ptr (H.pt 2 rfl)]
  have h0 := H.sub
  have H := H
  try simp only [List.eraseIdx_cons_succ, List.eraseIdx_cons_zero] at H
  exact ⟨_, rfl, h0, _, rfl, H.ownAct.one⟩
end Go.Proofs.Ytopannfdcikgiaa.Sy

/- From what an argument can hold to sizes. -/
namespace Go.Proofs.Ytopannfdcikgiaa.Sy
open Go Go.RowKit
theorem zStrS_w {x : List ByteArray} (h : ((x).length ≤ 9223372036854775807 ∧ ∀ y4 ∈ x, (y4).size ≤ 9223372036854775807)) : x.length ≤ 9223372036854775807 ∧ ∀ y ∈ x, wString y := ⟨h.1, fun y hy => h.2 y hy⟩
theorem zIntSS_w {x : List (List Int)} (h : ((x).length ≤ 9223372036854775807 ∧ ∀ y5 ∈ x, ((y5).length ≤ 9223372036854775807 ∧ ∀ y4 ∈ y5, I64 (y4)))) : x.length ≤ 9223372036854775807 ∧ ∀ y ∈ x, wIntS y := ⟨h.1, fun y hy => (h.2 y hy).1⟩
theorem zTally_w {x : Tally} (h : zTally x) : wTally x := h.1
theorem zTallyS_w {x : List Tally} (h : ((x).length ≤ 9223372036854775807 ∧ ∀ y6 ∈ x, zTally (y6))) : x.length ≤ 9223372036854775807 ∧ ∀ y ∈ x, wTally y := ⟨h.1, fun y hy => zTally_w (h.2 y hy)⟩
theorem zLive_w {x : Live} (h : zLive x) : wLive x := ⟨h.2.1, h.2.2.1⟩
theorem zLiveS_w {x : List Live} (h : ((x).length ≤ 9223372036854775807 ∧ ∀ y5 ∈ x, zLive (y5))) : x.length ≤ 9223372036854775807 ∧ ∀ y ∈ x, wLive y := ⟨h.1, fun y hy => zLive_w (h.2 y hy)⟩
theorem zCell_w {x : Cell} (h : zCell x) : wCell x := h.1
theorem zCellS_w {x : List Cell} (h : ((x).length ≤ 9223372036854775807 ∧ ∀ y5 ∈ x, zCell (y5))) : x.length ≤ 9223372036854775807 ∧ ∀ y ∈ x, wCell y := ⟨h.1, fun y hy => zCell_w (h.2 y hy)⟩
theorem zEdit_w {x : Edit} (h : zEdit x) : wEdit x := ⟨h.2.1, h.2.2.1⟩
theorem zEditS_w {x : List Edit} (h : ((x).length ≤ 9223372036854775807 ∧ ∀ y5 ∈ x, zEdit (y5))) : x.length ≤ 9223372036854775807 ∧ ∀ y ∈ x, wEdit y := ⟨h.1, fun y hy => zEdit_w (h.2 y hy)⟩
theorem zWatch_w {x : Watch} (h : zWatch x) : wWatch x := ⟨h.2.1, h.2.2⟩
theorem zWatchS_w {x : List Watch} (h : ((x).length ≤ 9223372036854775807 ∧ ∀ y6 ∈ x, zWatch (y6))) : x.length ≤ 9223372036854775807 ∧ ∀ y ∈ x, wWatch y := ⟨h.1, fun y hy => zWatch_w (h.2 y hy)⟩
theorem zClash_w {x : Clash} (h : zClash x) : wClash x := ⟨h.1, h.2⟩
theorem zClashS_w {x : List Clash} (h : ((x).length ≤ 9223372036854775807 ∧ ∀ y6 ∈ x, zClash (y6))) : x.length ≤ 9223372036854775807 ∧ ∀ y ∈ x, wClash y := ⟨h.1, fun y hy => zClash_w (h.2 y hy)⟩
theorem zFile_w {x : File} (h : zFile x) : wFile x := h.1
theorem zFileS_w {x : List File} (h : ((x).length ≤ 9223372036854775807 ∧ ∀ y5 ∈ x, zFile (y5))) : x.length ≤ 9223372036854775807 ∧ ∀ y ∈ x, wFile y := ⟨h.1, fun y hy => zFile_w (h.2 y hy)⟩
theorem zLetter_w {x : Letter} (h : zLetter x) : wLetter x := h.2
theorem zLetterS_w {x : List Letter} (h : ((x).length ≤ 9223372036854775807 ∧ ∀ y7 ∈ x, zLetter (y7))) : x.length ≤ 9223372036854775807 ∧ ∀ y ∈ x, wLetter y := ⟨h.1, fun y hy => zLetter_w (h.2 y hy)⟩
theorem zEvent_w {x : Event} (h : zEvent x) : wEvent x := zEdit_w h.2.2.2
theorem zEventS_w {x : List Event} (h : ((x).length ≤ 9223372036854775807 ∧ ∀ y6 ∈ x, zEvent (y6))) : x.length ≤ 9223372036854775807 ∧ ∀ y ∈ x, wEvent y := ⟨h.1, fun y hy => zEvent_w (h.2 y hy)⟩
theorem zAct_w {x : Act} (h : zAct x) : wAct x := ⟨h.2.2.1.1, h.2.2.2.2.1, h.2.2.2.2.2.1⟩
theorem zActS_w {x : List Act} (h : ((x).length ≤ 9223372036854775807 ∧ ∀ y4 ∈ x, zAct (y4))) : x.length ≤ 9223372036854775807 ∧ ∀ y ∈ x, wAct y := ⟨h.1, fun y hy => zAct_w (h.2 y hy)⟩
theorem zState_w {x : State} (h : zState x) : wState x := ⟨h.1.1, zTallyS_w h.2.1, zLiveS_w h.2.2.1, zCellS_w h.2.2.2⟩
theorem zStateS_w {x : List State} (h : ((x).length ≤ 9223372036854775807 ∧ ∀ y6 ∈ x, zState (y6))) : x.length ≤ 9223372036854775807 ∧ ∀ y ∈ x, wState y := ⟨h.1, fun y hy => zState_w (h.2 y hy)⟩
theorem zDelta_w {x : Delta} (h : zDelta x) : wDelta x := ⟨h.1.1, h.2.1.1, zTallyS_w h.2.2.1, zLiveS_w h.2.2.2.1, h.2.2.2.2.1.1, zCellS_w h.2.2.2.2.2⟩
theorem zDeltaS_w {x : List Delta} (h : ((x).length ≤ 9223372036854775807 ∧ ∀ y6 ∈ x, zDelta (y6))) : x.length ≤ 9223372036854775807 ∧ ∀ y ∈ x, wDelta y := ⟨h.1, fun y hy => zDelta_w (h.2 y hy)⟩
theorem zUnit__w {x : Unit_} (h : zUnit_ x) : wUnit x := ⟨zAct_w h.2.1, zDelta_w h.2.2⟩
theorem zUnitS_w {x : List Unit_} (h : ((x).length ≤ 9223372036854775807 ∧ ∀ y6 ∈ x, zUnit_ (y6))) : x.length ≤ 9223372036854775807 ∧ ∀ y ∈ x, wUnit y := ⟨h.1, fun y hy => zUnit__w (h.2 y hy)⟩
theorem zLog_w {x : Log} (h : zLog x) : wLog x := ⟨zState_w h.2.2.1, zUnitS_w h.2.2.2.1, zUnitS_w h.2.2.2.2⟩
theorem zLogS_w {x : List Log} (h : ((x).length ≤ 9223372036854775807 ∧ ∀ y4 ∈ x, zLog (y4))) : x.length ≤ 9223372036854775807 ∧ ∀ y ∈ x, wLog y := ⟨h.1, fun y hy => zLog_w (h.2 y hy)⟩
theorem zCommit_w {x : Commit} (h : zCommit x) : wCommit x := ⟨h.2.1.1, zState_w h.2.2⟩
theorem zCommitS_w {x : List Commit} (h : ((x).length ≤ 9223372036854775807 ∧ ∀ y7 ∈ x, zCommit (y7))) : x.length ≤ 9223372036854775807 ∧ ∀ y ∈ x, wCommit y := ⟨h.1, fun y hy => zCommit_w (h.2 y hy)⟩
theorem zGraph_w {x : Graph} (h : zGraph x) : wGraph x := zCommitS_w h.1
theorem zGraphS_w {x : List Graph} (h : ((x).length ≤ 9223372036854775807 ∧ ∀ y6 ∈ x, zGraph (y6))) : x.length ≤ 9223372036854775807 ∧ ∀ y ∈ x, wGraph y := ⟨h.1, fun y hy => zGraph_w (h.2 y hy)⟩
theorem zReplica_w {x : Replica} (h : zReplica x) : wReplica x := ⟨zLog_w h.2.1, zGraph_w h.2.2.1, zFile_w h.2.2.2.1, zUnitS_w h.2.2.2.2⟩
theorem zReplicaS_w {x : List Replica} (h : ((x).length ≤ 9223372036854775807 ∧ ∀ y8 ∈ x, zReplica (y8))) : x.length ≤ 9223372036854775807 ∧ ∀ y ∈ x, wReplica y := ⟨h.1, fun y hy => zReplica_w (h.2 y hy)⟩
theorem zWorld__w {x : World_} (h : zWorld_ x) : wWorld x := ⟨zReplicaS_w h.1, zLetterS_w h.2.1, h.2.2.1.1, zIntSS_w h.2.2.2⟩
theorem zWorldS_w {x : List World_} (h : ((x).length ≤ 9223372036854775807 ∧ ∀ y7 ∈ x, zWorld_ (y7))) : x.length ≤ 9223372036854775807 ∧ ∀ y ∈ x, wWorld y := ⟨h.1, fun y hy => zWorld__w (h.2 y hy)⟩
theorem zScript_w {x : Script} (h : zScript x) : wScript x := ⟨h.1.1, zEventS_w h.2.1⟩
theorem zScriptS_w {x : List Script} (h : ((x).length ≤ 9223372036854775807 ∧ ∀ y7 ∈ x, zScript (y7))) : x.length ≤ 9223372036854775807 ∧ ∀ y ∈ x, wScript y := ⟨h.1, fun y hy => zScript_w (h.2 y hy)⟩
end Go.Proofs.Ytopannfdcikgiaa.Sy

/- The law of Together. -/
namespace Go.Proofs.Ytopannfdcikgiaa.Sy
open Go Go.RowKit
set_option linter.unusedSimpArgs false
set_option linter.unusedVariables false
set_option maxRecDepth 4000
abbrev n_l_FnExactTogether : Nat := 9
def F_l_FnExactTogether : Fn1 := ⟨45, [.t 4], (.seq (.reg [o 2 (.box (.t 0)), o 3 (.box (.t 1)), o 4 (.mov (.k (.bool false)))]) (.seq (.reg [o 5 (.mov (.k (.int .i64 1048576)))]) (.seq (.reg [o 10 (.ld true 10 (.t 2)), o 11 (.mov (.t 5)), o 12 (.call 41 [(.t 10), (.t 11)]), o 5 (.mov (.t 12))]) (.seq (.seq (.reg [o 13 (.mov (.t 5)), o 14 (.bin .lss (.t 13) (.k (.int .i64 0)))]) (.cnd (.t 14) (.seq (.reg [o 4 (.mov (.k (.bool true)))]) .ret) .skip)) (.seq (.reg [o 15 (.ld true 10 (.t 3)), o 16 (.mov (.t 5)), o 17 (.call 41 [(.t 15), (.t 16)]), o 5 (.mov (.t 17))]) (.seq (.seq (.reg [o 18 (.mov (.t 5)), o 19 (.bin .lss (.t 18) (.k (.int .i64 0)))]) (.cnd (.t 19) (.seq (.reg [o 4 (.mov (.k (.bool true)))]) .ret) .skip)) (.seq (.drw [o 20 (.ld true 10 (.t 2)), o 21 (.call 43 [(.t 20)]), o 22 (.ld true 10 (.t 3))] [o 23 (.call 43 [(.t 22)]), o 24 (.call 42 [(.t 21), (.t 23)]), o 6 (.mov (.t 24))]) (.seq (.reg [o 25 (.ld true 10 (.t 2)), o 26 (.call 43 [(.t 25)]), o 7 (.new [(.int .i64 0), (.int .i64 0), (.int .i64 0), .nilS, (.int .i64 0), (.str ⟨#[]⟩), (.str ⟨#[]⟩), (.int .i64 0), (.int .i64 0), (.int .i64 0)]), on (.st 10 (.t 7) (.t 26))]) (.seq (.reg [o 27 (.ld true 10 (.t 3)), o 28 (.call 43 [(.t 27)]), o 8 (.new [(.int .i64 0), (.int .i64 0), (.int .i64 0), .nilS, (.int .i64 0), (.str ⟨#[]⟩), (.str ⟨#[]⟩), (.int .i64 0), (.int .i64 0), (.int .i64 0)]), on (.st 10 (.t 8) (.t 28))]) (.seq (.reg [o 29 (.ld true 10 (.t 7)), o 30 (.ld true 10 (.t 8)), o 31 (.call 44 [(.t 29), (.t 30)]), o 9 (.mov (.t 31))]) (.seq (.seq (.reg [o 32 (.mov (.t 9)), o 33 (.mov (.t 6)), o 34 (.eqb true (.t 32) (.t 33))]) (.cnd (.t 34) (.seq (.reg [o 4 (.mov (.k (.bool false)))]) .ret) .skip)) (.seq (.seq (.drw [o 35 (.ld true 10 (.t 7)), o 36 (.ld true 10 (.t 2)), o 37 (.call 43 [(.t 36)])] [o 38 (.call 45 [(.t 35), (.t 37)]), o 39 (.un .not (.t 38))]) (.cnd (.t 39) (.seq (.reg [o 4 (.mov (.k (.bool false)))]) .ret) .skip)) (.seq (.seq (.drw [o 40 (.ld true 10 (.t 8)), o 41 (.ld true 10 (.t 3)), o 42 (.call 43 [(.t 41)])] [o 43 (.call 45 [(.t 40), (.t 42)]), o 44 (.un .not (.t 43))]) (.cnd (.t 44) (.seq (.reg [o 4 (.mov (.k (.bool false)))]) .ret) .skip)) (.seq (.reg [o 4 (.mov (.k (.bool true)))]) .ret))))))))))))))⟩
theorem ir_l_FnExactTogether : compFn Try.prog n_l_FnExactTogether = some F_l_FnExactTogether := by kernel_rfl
theorem law_Together (σ : St) (cs0 : List GV) (x0 : Act) (hR0 : eAct.R σ x0 cs0) (hw0 : zAct x0) (cs1 : List GV) (x1 : Act) (hR1 : eAct.R σ x1 cs1) (hw1 : zAct x1) : ∃ r τ, Ret Try.prog n_l_FnExactTogether [.agg cs0, .agg cs1] σ r τ ∧ r = .bool true := by
  have hR0 := brAct hR0
  have hl0 := kAct.len hR0
  have hw0 := zAct_w hw0
  have hR1 := brAct hR1
  have hl1 := kAct.len hR1
  have hw1 := zAct_w hw1
  refine ret_law ir_l_FnExactTogether (Nat.le_of_ble_eq_true rfl) ?_
  have hB : σ <+: σ ++ [some (Blk.row 1 (cs0))] ++ [some (Blk.row 1 (cs1))] := pre2
  have hb0 : rdB (σ ++ [some (Blk.row 1 (cs0))] ++ [some (Blk.row 1 (cs1))]) (σ).length = some (cs0) := box_rd2 (List.prefix_refl _)
  have hs0 : (seg cs0 0 10).bind (mkv true) = some (.agg cs0) := seg_full hl0
  have hb1 : rdB (σ ++ [some (Blk.row 1 (cs0))] ++ [some (Blk.row 1 (cs1))]) (σ ++ [some (Blk.row 1 (cs0))]).length = some (cs1) := box_rd (List.prefix_refl _)
  have hs1 : (seg cs1 0 10).bind (mkv true) = some (.agg cs1) := seg_full hl1
  simp +contextual (disch := omega) only [go_sem, Nat.reduceEqDiff, ↓reduceIte, Int.reduceEq, Int.reduceNeg, wrap_add, F_l_FnExactTogether, ld_ptr (rdB_pre (List.prefix_refl _) hb0), hs0, ld_ptr (rdB_pre (List.prefix_refl _) hb1), hs1, List.append_nil]
  refine by_ret (l_szAct_ret _ cs0 x0 (kAct.pre hR0 (hB.trans (List.prefix_refl _))) (1048576) hw0 (by omega) (by omega)) ?_
  have ge0 := @lf_ge (1048576) (msAct x0)
  have gm0 := @lf_le (1048576) (msAct x0) (by omega)
  try simp +contextual (disch := omega) only [go_sem, Nat.reduceEqDiff, ↓reduceIte, Int.reduceEq, Int.reduceNeg, wrap_add, List.append_nil, ite_self, ne_eq, not_true_eq_false, bne_self_eq_false, beq_self_eq_true, ld_ptr (rdB_pre (List.prefix_refl _) hb0), hs0, ld_ptr (rdB_pre (List.prefix_refl _) hb1), hs1]
  refine ⟨fun _ => hB.length_le, fun hn => ?_⟩
  have hn := of_decide_eq_false hn
  have hf0 := lf_some hn
  have hu0 : msAct x0 ≤ 1048576 := by omega
  try simp +contextual (disch := omega) only [go_sem, Nat.reduceEqDiff, ↓reduceIte, Int.reduceEq, Int.reduceNeg, wrap_add, List.append_nil, ite_self, ne_eq, not_true_eq_false, bne_self_eq_false, beq_self_eq_true, ld_ptr (rdB_pre (List.prefix_refl _) hb0), hs0, ld_ptr (rdB_pre (List.prefix_refl _) hb1), hs1]
  refine by_ret (l_szAct_ret _ cs1 x1 (kAct.pre hR1 (hB.trans (List.prefix_refl _))) (lf (1048576) (msAct x0)) hw1 (by omega) (by omega)) ?_
  have ge1 := @lf_ge (lf (1048576) (msAct x0)) (msAct x1)
  have gm1 := @lf_le (lf (1048576) (msAct x0)) (msAct x1) (by omega)
  try simp +contextual (disch := omega) only [go_sem, Nat.reduceEqDiff, ↓reduceIte, Int.reduceEq, Int.reduceNeg, wrap_add, List.append_nil, ite_self, ne_eq, not_true_eq_false, bne_self_eq_false, beq_self_eq_true, ld_ptr (rdB_pre (List.prefix_refl _) hb0), hs0, ld_ptr (rdB_pre (List.prefix_refl _) hb1), hs1]
  refine ⟨fun _ => hB.length_le, fun hn => ?_⟩
  have hn := of_decide_eq_false hn
  have hf1 := lf_some hn
  have hu1 : msAct x1 ≤ 1048576 := by omega
  try simp +contextual (disch := omega) only [go_sem, Nat.reduceEqDiff, ↓reduceIte, Int.reduceEq, Int.reduceNeg, wrap_add, List.append_nil, ite_self, ne_eq, not_true_eq_false, bne_self_eq_false, beq_self_eq_true, ld_ptr (rdB_pre (List.prefix_refl _) hb0), hs0, ld_ptr (rdB_pre (List.prefix_refl _) hb1), hs1]
  have H := Hp.refl (σ ++ [some (Blk.row 1 (cs0))] ++ [some (Blk.row 1 (cs1))])
  try simp +contextual (disch := omega) only [go_sem, Nat.reduceEqDiff, ↓reduceIte, Int.reduceEq, Int.reduceNeg, wrap_add, List.append_nil, ite_self, ne_eq, not_true_eq_false, bne_self_eq_false, beq_self_eq_true, ld_ptr (rdB_pre H.sub hb0), hs0, ld_ptr (rdB_pre H.sub hb1), hs1]
  obtain ⟨_, τ1, R1, _, d1, rfl, K1⟩ := l_toAct_ret _ cs0 x0 (kAct.pre hR0 (hB.trans H.sub)) (by omega)
  refine by_hp R1 K1 ?_
  have H := H.add K1
  try simp only [List.cons_append, List.nil_append] at H
  have g1 := seg_full (kAct.len (K1.rd 0 rfl))
  have g1 : (seg d1 0 10).bind (mkv true) = some (.agg d1) := g1
  have gl1 : d1.length = 10 := kAct.len (K1.rd 0 rfl)
  try simp +contextual (disch := omega) only [go_sem, Nat.reduceEqDiff, ↓reduceIte, Int.reduceEq, Int.reduceNeg, wrap_add, List.append_nil, ite_self, ne_eq, not_true_eq_false, bne_self_eq_false, beq_self_eq_true, ld_ptr (rdB_pre H.sub hb0), hs0, ld_ptr (rdB_pre H.sub hb1), hs1, g1]
  obtain ⟨_, τ2, R2, _, d2, rfl, K2⟩ := l_toAct_ret _ cs1 x1 (kAct.pre hR1 (hB.trans H.sub)) (by omega)
  refine by_hp R2 K2 ?_
  have H := H.add K2
  try simp only [List.cons_append, List.nil_append] at H
  have g2 := seg_full (kAct.len (K2.rd 0 rfl))
  have g2 : (seg d2 0 10).bind (mkv true) = some (.agg d2) := g2
  have gl2 : d2.length = 10 := kAct.len (K2.rd 0 rfl)
  try simp +contextual (disch := omega) only [go_sem, Nat.reduceEqDiff, ↓reduceIte, Int.reduceEq, Int.reduceNeg, wrap_add, List.append_nil, ite_self, ne_eq, not_true_eq_false, bne_self_eq_false, beq_self_eq_true, ld_ptr (rdB_pre H.sub hb0), hs0, ld_ptr (rdB_pre H.sub hb1), hs1, g1, g2]
  refine by_ret (s_Together_ret _ d1 x0 (H.rd 1 rfl) d2 x1 (H.rd 0 rfl) (by omega) (by omega)) ?_
  have hpw := H.sub
  have H := H.restart
  try simp +contextual (disch := omega) only [go_sem, Nat.reduceEqDiff, ↓reduceIte, Int.reduceEq, Int.reduceNeg, wrap_add, List.append_nil, ite_self, ne_eq, not_true_eq_false, bne_self_eq_false, beq_self_eq_true, ld_ptr (rdB_pre (hpw.trans H.sub) hb0), hs0, ld_ptr (rdB_pre (hpw.trans H.sub) hb1), hs1, g1, g2]
  obtain ⟨_, τ4, R4, _, d4, rfl, K4⟩ := l_toAct_ret _ cs0 x0 (kAct.pre hR0 (hB.trans (hpw.trans H.sub))) (by omega)
  refine by_hp R4 K4 ?_
  have H := H.add K4
  try simp only [List.cons_append, List.nil_append] at H
  have g4 := seg_full (kAct.len (K4.rd 0 rfl))
  have g4 : (seg d4 0 10).bind (mkv true) = some (.agg d4) := g4
  have gl4 : d4.length = 10 := kAct.len (K4.rd 0 rfl)
  try simp +contextual (disch := omega) only [go_sem, Nat.reduceEqDiff, ↓reduceIte, Int.reduceEq, Int.reduceNeg, wrap_add, List.append_nil, ite_self, ne_eq, not_true_eq_false, bne_self_eq_false, beq_self_eq_true, ld_ptr (rdB_pre (hpw.trans H.sub) hb0), hs0, ld_ptr (rdB_pre (hpw.trans H.sub) hb1), hs1, g1, g2, g4]
  have H := H.new 1 d4
  try simp +contextual (disch := omega) only [go_sem, Nat.reduceEqDiff, ↓reduceIte, Int.reduceEq, Int.reduceNeg, wrap_add, List.append_nil, ite_self, ne_eq, not_true_eq_false, bne_self_eq_false, beq_self_eq_true, ld_ptr (rdB_pre (hpw.trans H.sub) hb0), hs0, ld_ptr (rdB_pre (hpw.trans H.sub) hb1), hs1, ld_ptr (H.pt 0 rfl), g1, g2, g4, splice_full (cs := [(GV.int .i64 0), (GV.int .i64 0), (GV.int .i64 0), GV.nilS, (GV.int .i64 0), (GV.str ⟨#[]⟩), (GV.str ⟨#[]⟩), (GV.int .i64 0), (GV.int .i64 0), (GV.int .i64 0)]) gl4 rfl, gl4]
  obtain ⟨_, τ5, R5, _, d5, rfl, K5⟩ := l_toAct_ret _ cs1 x1 (kAct.pre hR1 (hB.trans (hpw.trans H.sub))) (by omega)
  refine by_hp R5 K5 ?_
  have H := H.add K5
  try simp only [List.cons_append, List.nil_append] at H
  have g5 := seg_full (kAct.len (K5.rd 0 rfl))
  have g5 : (seg d5 0 10).bind (mkv true) = some (.agg d5) := g5
  have gl5 : d5.length = 10 := kAct.len (K5.rd 0 rfl)
  try simp +contextual (disch := omega) only [go_sem, Nat.reduceEqDiff, ↓reduceIte, Int.reduceEq, Int.reduceNeg, wrap_add, List.append_nil, ite_self, ne_eq, not_true_eq_false, bne_self_eq_false, beq_self_eq_true, ld_ptr (rdB_pre (hpw.trans H.sub) hb0), hs0, ld_ptr (rdB_pre (hpw.trans H.sub) hb1), hs1, ld_ptr (H.pt 1 rfl), g1, g2, g4, g5]
  have H := H.new 1 d5
  try simp +contextual (disch := omega) only [go_sem, Nat.reduceEqDiff, ↓reduceIte, Int.reduceEq, Int.reduceNeg, wrap_add, List.append_nil, ite_self, ne_eq, not_true_eq_false, bne_self_eq_false, beq_self_eq_true, ld_ptr (rdB_pre (hpw.trans H.sub) hb0), hs0, ld_ptr (rdB_pre (hpw.trans H.sub) hb1), hs1, ld_ptr (H.pt 0 rfl), ld_ptr (H.pt 2 rfl), g1, g2, g4, g5, splice_full (cs := [(GV.int .i64 0), (GV.int .i64 0), (GV.int .i64 0), GV.nilS, (GV.int .i64 0), (GV.str ⟨#[]⟩), (GV.str ⟨#[]⟩), (GV.int .i64 0), (GV.int .i64 0), (GV.int .i64 0)]) gl5 rfl, gl5]
  refine by_ret (i_Together_ret _ d4 x0 (H.rd 3 rfl) d5 x1 (H.rd 1 rfl) (by omega) (by omega)) ?_
  try simp +contextual (disch := omega) only [go_sem, Nat.reduceEqDiff, ↓reduceIte, Int.reduceEq, Int.reduceNeg, wrap_add, List.append_nil, ite_self, ne_eq, not_true_eq_false, bne_self_eq_false, beq_self_eq_true, ld_ptr (rdB_pre (hpw.trans H.sub) hb0), hs0, ld_ptr (rdB_pre (hpw.trans H.sub) hb1), hs1, ld_ptr (H.pt 0 rfl), ld_ptr (H.pt 2 rfl), g1, g2, g4, g5]
  try simp +contextual (disch := omega) only [go_sem, Nat.reduceEqDiff, ↓reduceIte, Int.reduceEq, Int.reduceNeg, wrap_add, List.append_nil, ite_self, ne_eq, not_true_eq_false, bne_self_eq_false, beq_self_eq_true, ld_ptr (rdB_pre (hpw.trans H.sub) hb0), hs0, ld_ptr (rdB_pre (hpw.trans H.sub) hb1), hs1, ld_ptr (H.pt 0 rfl), ld_ptr (H.pt 2 rfl), g1, g2, g4, g5]
  try simp +contextual (disch := omega) only [go_sem, Nat.reduceEqDiff, ↓reduceIte, Int.reduceEq, Int.reduceNeg, wrap_add, List.append_nil, ite_self, ne_eq, not_true_eq_false, bne_self_eq_false, beq_self_eq_true, ld_ptr (rdB_pre (hpw.trans H.sub) hb0), hs0, ld_ptr (rdB_pre (hpw.trans H.sub) hb1), hs1, ld_ptr (H.pt 0 rfl), ld_ptr (H.pt 2 rfl), g1, g2, g4, g5]
  obtain ⟨_, τ7, R7, _, d7, rfl, K7⟩ := l_toAct_ret _ cs0 x0 (kAct.pre hR0 (hB.trans (hpw.trans H.sub))) (by omega)
  refine by_hp R7 K7 ?_
  have H := H.add K7
  try simp only [List.cons_append, List.nil_append] at H
  have g7 := seg_full (kAct.len (K7.rd 0 rfl))
  have g7 : (seg d7 0 10).bind (mkv true) = some (.agg d7) := g7
  have gl7 : d7.length = 10 := kAct.len (K7.rd 0 rfl)
  try simp +contextual (disch := omega) only [go_sem, Nat.reduceEqDiff, ↓reduceIte, Int.reduceEq, Int.reduceNeg, wrap_add, List.append_nil, ite_self, ne_eq, not_true_eq_false, bne_self_eq_false, beq_self_eq_true, ld_ptr (rdB_pre (hpw.trans H.sub) hb0), hs0, ld_ptr (rdB_pre (hpw.trans H.sub) hb1), hs1, ld_ptr (H.pt 1 rfl), ld_ptr (H.pt 3 rfl), g1, g2, g4, g5, g7]
  refine by_ret (l_eqAct_ret _ _ _ _ _ (H.rd 4 rfl) (H.rd 0 rfl) (by omega)) ?_
  try simp +contextual (disch := omega) only [go_sem, Nat.reduceEqDiff, ↓reduceIte, Int.reduceEq, Int.reduceNeg, wrap_add, List.append_nil, ite_self, ne_eq, not_true_eq_false, bne_self_eq_false, beq_self_eq_true, ld_ptr (rdB_pre (hpw.trans H.sub) hb0), hs0, ld_ptr (rdB_pre (hpw.trans H.sub) hb1), hs1, ld_ptr (H.pt 1 rfl), ld_ptr (H.pt 3 rfl), g1, g2, g4, g5, g7, decide_true, eq_self]
  try simp +contextual (disch := omega) only [go_sem, Nat.reduceEqDiff, ↓reduceIte, Int.reduceEq, Int.reduceNeg, wrap_add, List.append_nil, ite_self, ne_eq, not_true_eq_false, bne_self_eq_false, beq_self_eq_true, ld_ptr (rdB_pre (hpw.trans H.sub) hb0), hs0, ld_ptr (rdB_pre (hpw.trans H.sub) hb1), hs1, ld_ptr (H.pt 1 rfl), ld_ptr (H.pt 3 rfl), g1, g2, g4, g5, g7]
  obtain ⟨_, τ8, R8, _, d8, rfl, K8⟩ := l_toAct_ret _ cs1 x1 (kAct.pre hR1 (hB.trans (hpw.trans H.sub))) (by omega)
  refine by_hp R8 K8 ?_
  have H := H.add K8
  try simp only [List.cons_append, List.nil_append] at H
  have g8 := seg_full (kAct.len (K8.rd 0 rfl))
  have g8 : (seg d8 0 10).bind (mkv true) = some (.agg d8) := g8
  have gl8 : d8.length = 10 := kAct.len (K8.rd 0 rfl)
  try simp +contextual (disch := omega) only [go_sem, Nat.reduceEqDiff, ↓reduceIte, Int.reduceEq, Int.reduceNeg, wrap_add, List.append_nil, ite_self, ne_eq, not_true_eq_false, bne_self_eq_false, beq_self_eq_true, ld_ptr (rdB_pre (hpw.trans H.sub) hb0), hs0, ld_ptr (rdB_pre (hpw.trans H.sub) hb1), hs1, ld_ptr (H.pt 2 rfl), ld_ptr (H.pt 4 rfl), g1, g2, g4, g5, g7, g8]
  refine by_ret (l_eqAct_ret _ _ _ _ _ (H.rd 3 rfl) (H.rd 0 rfl) (by omega)) ?_
  try simp +contextual (disch := omega) only [go_sem, Nat.reduceEqDiff, ↓reduceIte, Int.reduceEq, Int.reduceNeg, wrap_add, List.append_nil, ite_self, ne_eq, not_true_eq_false, bne_self_eq_false, beq_self_eq_true, ld_ptr (rdB_pre (hpw.trans H.sub) hb0), hs0, ld_ptr (rdB_pre (hpw.trans H.sub) hb1), hs1, ld_ptr (H.pt 2 rfl), ld_ptr (H.pt 4 rfl), g1, g2, g4, g5, g7, g8, decide_true, eq_self]
  exact (hB.trans (hpw.trans H.sub)).length_le
end Go.Proofs.Ytopannfdcikgiaa.Sy

