/- Texts of this proof, one behind the other. -/
import Derived.Test.YtopannfdcikgiaaBB
import Derived.Test.YtopannfdcikgiaaProg
import Derived.KernelRfl
/- Words for the laws' own functions: sizes, marks. -/
namespace Go.Proofs.Ytopannfdcikgiaa.Sy
open Go Go.RowKit
set_option linter.unusedSimpArgs false
set_option linter.unusedVariables false
/-- What is left of n when m are taken; -1 when there are not so many. -/
def lf (n : Int) (m : Nat) : Int := if n - m < 0 then -1 else n - m
theorem lf_neg {n : Int} {m : Nat} : lf n m < 0 ↔ n < m := by unfold lf; split <;> omega
theorem lf_zero {n : Int} (h : 0 ≤ n) : lf n 0 = n := by unfold lf; rw [if_neg (by omega)]; simp
theorem lf_some {n : Int} {m : Nat} (h : ¬ lf n m < 0) : lf n m = n - m := by unfold lf at *; split at h <;> first | omega | (rw [if_neg ‹_›])
theorem lf_none {n : Int} {m : Nat} (h : lf n m < 0) : lf n m = -1 := by unfold lf at *; split at h <;> first | (rw [if_pos ‹_›]) | omega
theorem lf_le {n : Int} {m : Nat} (h : 0 ≤ n) : lf n m ≤ n := by unfold lf; split <;> omega
theorem lf_ge {n : Int} {m : Nat} : -1 ≤ lf n m := by unfold lf; split <;> omega
/-- Taken one after another. -/
theorem lf_seq {n : Int} {a b : Nat} (h : ¬ lf n a < 0) : lf (lf n a) b = lf n (a + b) := by
  rw [lf_some h]; unfold lf; simp only [Int.natCast_add]
  by_cases h2 : n - a - b < 0
  · rw [if_pos h2, if_pos (by omega)]
  · rw [if_neg h2, if_neg (by omega)]; omega
theorem lf_stop {n : Int} {a b : Nat} (h : lf n a < 0) : lf n (a + b) = -1 := by
  have := lf_neg.1 h
  unfold lf; rw [if_pos (by omega)]
def msL {α : Type} (f : α → Nat) (l : List α) : Nat := l.length + (l.map f).sum
def sumL {α : Type} (f : α → Nat) (l : List α) : Nat := (l.map f).sum
theorem sumL_snoc {α : Type} {f : α → Nat} {l : List α} {i : Nat} (h : i < l.length) : sumL f (l.take (i + 1)) = sumL f (l.take i) + f l[i] := by
  unfold sumL; rw [take_snoc h, List.map_append, List.sum_append]; simp
theorem sumL_take_le {α : Type} (f : α → Nat) (l : List α) (i : Nat) : sumL f (l.take i) ≤ sumL f l := by
  have : sumL f l = sumL f (l.take i) + sumL f (l.drop i) := by
    conv => lhs; rw [← List.take_append_drop i l]
    unfold sumL; rw [List.map_append, List.sum_append]
  omega
theorem sumL_mem {α : Type} {f : α → Nat} {l : List α} {x : α} (h : x ∈ l) : f x ≤ sumL f l := by
  induction l with
  | nil => simp at h
  | cons y l ih =>
    simp only [sumL, List.map_cons, List.sum_cons] at *
    rcases List.mem_cons.1 h with rfl | h
    · omega
    · have := ih h; omega
theorem fld_zero {z i : Nat} {v : GV} : fld 0 (atz z v i) = atz z v i := by
  cases v <;> rfl
theorem reps_enc {α : Type} (p : Pl α) (x : α) (n : Nat) : reps n (p.enc x) = p.cells (List.replicate n x) := by
  unfold reps
  induction n with
  | zero => rfl
  | succ n ih =>
    rw [List.replicate_succ, List.flatten_cons, ih, List.replicate_succ]; rfl
theorem fill_step {α : Type} {l : List α} {z : α} {i : Nat} (h : i < l.length) : (l.take i ++ List.replicate (l.length - i) z).set i l[i] = l.take (i + 1) ++ List.replicate (l.length - (i + 1)) z := by
  rw [take_snoc h, List.set_append_right _ _ (by simp; omega)]
  have e1 : i - (l.take i).length = 0 := by simp; omega
  rw [e1, show l.length - i = (l.length - (i + 1)) + 1 by omega, List.replicate_succ, List.set_cons_zero, List.append_assoc]
  rfl
theorem fill_len {α : Type} {l : List α} {z : α} {i : Nat} (h : i < l.length) : i < (l.take i ++ List.replicate (l.length - i) z).length := by simp; omega
theorem fill_end {α : Type} {l : List α} {z : α} : l.take l.length ++ List.replicate (l.length - l.length) z = l := by simp
/-- Marks of a row: each takes c numbers. -/
def mkF {α : Type} (e : Int → α) (c : Nat) (k : Int) (n : Nat) : List α := (List.range n).map fun j : Nat => e (k + c * j)
theorem mkF_length {α : Type} {e : Int → α} {c : Nat} {k : Int} {n : Nat} : (mkF e c k n).length = n := by simp [mkF]
theorem mkF_get {α : Type} {e : Int → α} {c : Nat} {k : Int} {n j : Nat} (h : j < (mkF e c k n).length) : (mkF e c k n)[j] = e (k + c * j) := by simp [mkF]
theorem mark_step {α : Type} {l : List α} {e : Int → α} {c : Nat} {k : Int} {i : Nat} (h : i < l.length) : ((mkF e c k l.length).take i ++ l.drop i).set i (e (k + c * i)) = (mkF e c k l.length).take (i + 1) ++ l.drop (i + 1) := by
  have hki : i < (mkF e c k l.length).length := by rw [mkF_length]; exact h
  rw [take_snoc hki, mkF_get, List.set_append_right _ _ (by simp [mkF_length]; omega)]
  have e1 : i - ((mkF e c k l.length).take i).length = 0 := by simp [mkF_length]; omega
  rw [e1, List.drop_eq_getElem_cons h, List.set_cons_zero, List.append_assoc]
  rfl
theorem mark_len {α : Type} {l : List α} {e : Int → α} {c : Nat} {k : Int} {i : Nat} : ((mkF e c k l.length).take i ++ l.drop i).length = l.length := by simp [mkF_length]; omega
theorem mark_end {α : Type} {l : List α} {e : Int → α} {c : Nat} {k : Int} : (mkF e c k l.length).take l.length ++ l.drop l.length = mkF e c k l.length := by
  rw [List.take_of_length_le (by rw [mkF_length]; omega)]; simp
namespace Hp
/-- Cells of an element that is in hand are written. -/
theorem sts {α : Type} {p : Pl α} {σ τ : St} {rs : List Thg} {v : GV} {L : List α} {j : Nat} {y : α} (H : Hp σ τ (ow p.kd v (L.set j y) :: rs)) (hj : j < L.length) (n k : Nat) (x : GV) (y' : α) (hx : x.cells.length = n) (hn : 0 < n) (hk : k + n ≤ p.z) (hy : p.enc y' = splice (p.enc y) k x.cells) :
    ∃ τ', stG n τ (fld k (atz p.z v j)) x = some (.tup [], τ') ∧ Hp σ τ' (ow p.kd v (L.set j y') :: rs) := by
  obtain ⟨τ', e, h⟩ := H.ste 0 rfl (j := j) (by simpa using hj) n k x y' hx hn hk (by rw [List.getElem_set_self]; exact hy)
  refine ⟨τ', e, ?_⟩
  have h : Hp σ τ' (ow p.kd v ((L.set j y).set j y') :: rs) := h
  rw [List.set_set] at h; exact h
end Hp
theorem set_self {α : Type} {l : List α} {i : Nat} (h : i < l.length) : l = l.set i l[i] := by rw [List.set_getElem_self]
/-- The text of a mark. -/
def figs (n : Nat) : List Int := if n = 0 then [] else figs (n / 10) ++ [48 + ((n % 10 : Nat) : Int)]
termination_by n
decreasing_by omega
def mtx (k : Int) : ByteArray := if k ≤ 0 then ⟨#[109, 48]⟩ else ⟨#[109]⟩ ++ txt (figs k.toNat)
abbrev n_l_markText : Nat := 129
def F_l_markText : Fn1 := ⟨20, [.t 2], (.seq (.reg [o 2 (.mov (.k (.str ⟨#[]⟩)))]) (.seq (.seq (.reg [o 4 (.mov (.t 0)), o 5 (.bin .leq (.t 4) (.k (.int .i64 0)))]) (.cnd (.t 5) (.seq (.reg [o 2 (.mov (.k (.str ⟨#[109, 48]⟩)))]) .ret) .skip)) (.seq (.reg [o 3 (.mov (.k (.str ⟨#[]⟩)))]) (.seq (.blk 0 (.lop (.seq (.seq (.reg [o 6 (.mov (.t 0)), o 7 (.bin .gtr (.t 6) (.k (.int .i64 0)))]) (.cnd (.t 7) .skip (.ext 0))) (.blk 1 (.seq (.reg [o 8 (.mov (.t 0)), o 9 (.bin .rem (.t 8) (.k (.int .i64 10))), o 10 (.bin .add (.k (.int .i64 48)) (.t 9)), o 11 (.cvi .u8 (.t 10)), o 12 (.lit 1 1 [(.int .u8 0)] [(0, 1, (.t 11))]), o 13 (.bts (.t 12)), o 14 (.mov (.t 3)), o 15 (.bin .add (.t 13) (.t 14)), o 3 (.mov (.t 15))]) (.reg [o 16 (.mov (.t 0)), o 17 (.bin .quo (.t 16) (.k (.int .i64 10))), o 0 (.mov (.t 17))])))))) (.seq (.reg [o 18 (.mov (.t 3)), o 19 (.bin .add (.k (.str ⟨#[109]⟩)) (.t 18)), o 2 (.mov (.t 19))]) .ret)))))⟩
theorem ir_l_markText : compFn Try.prog n_l_markText = some F_l_markText := by kernel_rfl
theorem figs_length (n : Nat) : (figs n).length ≤ n := by
  induction n using Nat.strongRecOn with
  | _ n ih =>
    unfold figs
    split
    · simp
    · have := ih (n / 10) (by omega)
      simp; omega
theorem txt_size (l : List Int) : (txt l).size = l.length := by simp [txt, ByteArray.size]
theorem figs_app (n : Nat) (h : 0 < n) (s : List Int) : figs (n / 10) ++ ((48 + ((n % 10 : Nat) : Int)) :: s) = figs n ++ s := by
  conv => rhs; unfold figs
  rw [if_neg (by omega)]; simp
theorem bts_new {τ : St} {n : Int} : ((elems (τ ++ [some (.row 1 [.int .u8 n])]) 1 (.sl τ.length 0 1)).bind fun r => (bytesOf r.2).map fun bs => GV.str ⟨bs.toArray⟩) = some (.str (txt [n])) := by
  refine bts_ok (.inr ⟨τ.length, 0, [.int .u8 n], rfl, by unfold rdB; simp [Blk.cells], by show 0 + 1 * 1 ≤ 1; omega, fun i x hx => ?_⟩)
  cases i with
  | zero => simp at hx; subst hx; rfl
  | succ i => simp at hx
theorem l_markText_ret (σ : St) (k : Int) (hk : k ≤ 4611686018427387904) : Ret Try.prog n_l_markText [gi k] σ (.str (mtx k)) σ := by
  refine ret_eq ir_l_markText (Nat.le_of_ble_eq_true rfl) trivial ?_
  simp +contextual (disch := omega) only [go_sem, Nat.reduceEqDiff, ↓reduceIte, Int.reduceEq, Int.reduceNeg, wrap_add, F_l_markText]
  refine ⟨fun h => ?_, fun h => ?_⟩
  · rw [mtx, if_pos (of_decide_eq_true h)]
  · have h := of_decide_eq_false h
    have hf := figs_length k.toNat
    refine vc_lop (fun q env τ => ∃ (s : List Int), env 0 = gi q ∧ q ≤ k.toNat ∧ env 3 = .str (txt s) ∧ figs q ++ s = figs k.toNat ∧ σ <+: τ) k.toNat ⟨[], by show gi k = _; rw [Int.toNat_of_nonneg (by omega)], Nat.le_refl _, rfl, by simp, List.prefix_refl _⟩ ?_
    rintro m env τ ⟨s, e0, hmk, e3, hs, hp⟩
    have hsl : s.length ≤ k.toNat := by have := congrArg List.length hs; simp at this; omega
    rcases Nat.eq_zero_or_pos m with rfl | hm
    · have hs' : s = figs k.toNat := by rw [← hs, figs]; simp
      have hsz : (⟨#[109]⟩ : ByteArray).size = 1 := rfl
      have hle : 1 + s.length ≤ 9223372036854775807 := by omega
      simp +contextual (disch := omega) only [go_sem, Nat.reduceEqDiff, ↓reduceIte, Int.reduceEq, Int.reduceNeg, wrap_add, e0, e3, hp, txt_size, hsz, hle, Int.natCast_zero, Int.lt_irrefl]
      rw [mtx, if_neg h, hs']
    · have hgt : decide (0 < (m : Int)) = true := by simp; omega
      have hle : 1 + s.length ≤ 9223372036854775807 := by omega
      have hm10 : (m : Int).tmod 10 = ((m % 10 : Nat) : Int) := by rw [Int.tmod_eq_emod_of_nonneg (by omega)]; omega
      have hd10 : (m : Int).tdiv 10 = ((m / 10 : Nat) : Int) := by rw [Int.tdiv_eq_ediv_of_nonneg (by omega)]; omega
      have h10 : ((10 : Int) = 0) = False := by simp
      have hw8 : IntKind.u8.wrap (48 + ((m % 10 : Nat) : Int)) = 48 + ((m % 10 : Nat) : Int) := wrap8 (by omega) (by omega)
      simp +contextual (disch := omega) only [go_sem, Nat.reduceEqDiff, ↓reduceIte, Int.reduceEq, Int.reduceNeg, wrap_add, e0, e3, hgt, h10, hm10, hd10, hw8, hle, bts_new, txt_size, ← txt_append]
      refine ⟨m / 10, by omega, _, rfl, by omega, rfl, ?_, pre_app hp _⟩
      rw [← hs, ← figs_app m hm]
end Go.Proofs.Ytopannfdcikgiaa.Sy

/- Contracts of the laws' own functions: sizes. -/
namespace Go.Proofs.Ytopannfdcikgiaa.Sy
open Go Go.RowKit
set_option linter.unusedSimpArgs false
set_option linter.unusedVariables false
def msString (s : ByteArray) : Nat := s.size
def wString (s : ByteArray) : Prop := s.size ≤ 9223372036854775807
def msIntS (l : List Int) : Nat := l.length
def wIntS (l : List Int) : Prop := l.length ≤ 9223372036854775807
def msTally (x : Tally) : Nat := x.obj.size
def wTally (x : Tally) : Prop := x.obj.size ≤ 9223372036854775807
def msLive (x : Live) : Nat := x.obj.size + x.key.size
def wLive (x : Live) : Prop := x.obj.size ≤ 9223372036854775807 ∧ x.key.size ≤ 9223372036854775807
def msCell (x : Cell) : Nat := x.obj.size
def wCell (x : Cell) : Prop := x.obj.size ≤ 9223372036854775807
def msEdit (x : Edit) : Nat := x.obj.size + x.key.size
def wEdit (x : Edit) : Prop := x.obj.size ≤ 9223372036854775807 ∧ x.key.size ≤ 9223372036854775807
def msWatch (x : Watch) : Nat := x.obj.size + x.key.size
def wWatch (x : Watch) : Prop := x.obj.size ≤ 9223372036854775807 ∧ x.key.size ≤ 9223372036854775807
def msClash (x : Clash) : Nat := x.obj.size + x.key.size
def wClash (x : Clash) : Prop := x.obj.size ≤ 9223372036854775807 ∧ x.key.size ≤ 9223372036854775807
def msFile (x : File) : Nat := x.text.size
def wFile (x : File) : Prop := x.text.size ≤ 9223372036854775807
def msLetter (x : Letter) : Nat := x.text.size
def wLetter (x : Letter) : Prop := x.text.size ≤ 9223372036854775807
def msEvent (x : Event) : Nat := msEdit x.edit
def wEvent (x : Event) : Prop := wEdit x.edit
def msAct (x : Act) : Nat := x.knew.length + x.obj.size + x.key.size
def wAct (x : Act) : Prop := x.knew.length ≤ 9223372036854775807 ∧ x.obj.size ≤ 9223372036854775807 ∧ x.key.size ≤ 9223372036854775807
instance : DecidableEq Act := fun a b => if h : a.dot = b.dot ∧ a.time = b.time ∧ a.knew = b.knew ∧ a.kind = b.kind ∧ a.obj = b.obj ∧ a.key = b.key ∧ a.val = b.val ∧ a.ref = b.ref then isTrue (by cases a; cases b; simp only at h; obtain ⟨rfl, rfl, rfl, rfl, rfl, rfl, rfl, rfl⟩ := h; rfl) else isFalse (fun e => h (by subst e; exact ⟨rfl, rfl, rfl, rfl, rfl, rfl, rfl, rfl⟩))
theorem Act.eq_iff {a b : Act} : a = b ↔ a.dot = b.dot ∧ a.time = b.time ∧ a.knew = b.knew ∧ a.kind = b.kind ∧ a.obj = b.obj ∧ a.key = b.key ∧ a.val = b.val ∧ a.ref = b.ref := ⟨fun h => by subst h; exact ⟨rfl, rfl, rfl, rfl, rfl, rfl, rfl, rfl⟩, fun h => by cases a; cases b; simp only at h; obtain ⟨rfl, rfl, rfl, rfl, rfl, rfl, rfl, rfl⟩ := h; rfl⟩
def msState (x : State) : Nat := x.know.length + (x.tallies.length + sumL msTally x.tallies) + (x.lives.length + sumL msLive x.lives) + (x.cells.length + sumL msCell x.cells)
def wState (x : State) : Prop := x.know.length ≤ 9223372036854775807 ∧ (x.tallies.length ≤ 9223372036854775807 ∧ ∀ y ∈ x.tallies, wTally y) ∧ (x.lives.length ≤ 9223372036854775807 ∧ ∀ y ∈ x.lives, wLive y) ∧ (x.cells.length ≤ 9223372036854775807 ∧ ∀ y ∈ x.cells, wCell y)
instance : DecidableEq State := fun a b => if h : a.know = b.know ∧ a.tallies = b.tallies ∧ a.lives = b.lives ∧ a.cells = b.cells then isTrue (by cases a; cases b; simp only at h; obtain ⟨rfl, rfl, rfl, rfl⟩ := h; rfl) else isFalse (fun e => h (by subst e; exact ⟨rfl, rfl, rfl, rfl⟩))
theorem State.eq_iff {a b : State} : a = b ↔ a.know = b.know ∧ a.tallies = b.tallies ∧ a.lives = b.lives ∧ a.cells = b.cells := ⟨fun h => by subst h; exact ⟨rfl, rfl, rfl, rfl⟩, fun h => by cases a; cases b; simp only at h; obtain ⟨rfl, rfl, rfl, rfl⟩ := h; rfl⟩
def msDelta (x : Delta) : Nat := x.base.length + x.know.length + (x.tallies.length + sumL msTally x.tallies) + (x.lives.length + sumL msLive x.lives) + x.dead.length + (x.cells.length + sumL msCell x.cells)
def wDelta (x : Delta) : Prop := x.base.length ≤ 9223372036854775807 ∧ x.know.length ≤ 9223372036854775807 ∧ (x.tallies.length ≤ 9223372036854775807 ∧ ∀ y ∈ x.tallies, wTally y) ∧ (x.lives.length ≤ 9223372036854775807 ∧ ∀ y ∈ x.lives, wLive y) ∧ x.dead.length ≤ 9223372036854775807 ∧ (x.cells.length ≤ 9223372036854775807 ∧ ∀ y ∈ x.cells, wCell y)
instance : DecidableEq Delta := fun a b => if h : a.base = b.base ∧ a.know = b.know ∧ a.tallies = b.tallies ∧ a.lives = b.lives ∧ a.dead = b.dead ∧ a.cells = b.cells then isTrue (by cases a; cases b; simp only at h; obtain ⟨rfl, rfl, rfl, rfl, rfl, rfl⟩ := h; rfl) else isFalse (fun e => h (by subst e; exact ⟨rfl, rfl, rfl, rfl, rfl, rfl⟩))
theorem Delta.eq_iff {a b : Delta} : a = b ↔ a.base = b.base ∧ a.know = b.know ∧ a.tallies = b.tallies ∧ a.lives = b.lives ∧ a.dead = b.dead ∧ a.cells = b.cells := ⟨fun h => by subst h; exact ⟨rfl, rfl, rfl, rfl, rfl, rfl⟩, fun h => by cases a; cases b; simp only at h; obtain ⟨rfl, rfl, rfl, rfl, rfl, rfl⟩ := h; rfl⟩
def msUnit (x : Unit_) : Nat := msAct x.act + msDelta x.delta
def wUnit (x : Unit_) : Prop := wAct x.act ∧ wDelta x.delta
instance : DecidableEq Unit_ := fun a b => if h : a.batch = b.batch ∧ a.act = b.act ∧ a.delta = b.delta then isTrue (by cases a; cases b; simp only at h; obtain ⟨rfl, rfl, rfl⟩ := h; rfl) else isFalse (fun e => h (by subst e; exact ⟨rfl, rfl, rfl⟩))
theorem Unit_.eq_iff {a b : Unit_} : a = b ↔ a.batch = b.batch ∧ a.act = b.act ∧ a.delta = b.delta := ⟨fun h => by subst h; exact ⟨rfl, rfl, rfl⟩, fun h => by cases a; cases b; simp only at h; obtain ⟨rfl, rfl, rfl⟩ := h; rfl⟩
def msLog (x : Log) : Nat := msState x.state + (x.units.length + sumL msUnit x.units) + (x.waits.length + sumL msUnit x.waits)
def wLog (x : Log) : Prop := wState x.state ∧ (x.units.length ≤ 9223372036854775807 ∧ ∀ y ∈ x.units, wUnit y) ∧ (x.waits.length ≤ 9223372036854775807 ∧ ∀ y ∈ x.waits, wUnit y)
instance : DecidableEq Log := fun a b => if h : a.rep = b.rep ∧ a.time = b.time ∧ a.state = b.state ∧ a.units = b.units ∧ a.waits = b.waits then isTrue (by cases a; cases b; simp only at h; obtain ⟨rfl, rfl, rfl, rfl, rfl⟩ := h; rfl) else isFalse (fun e => h (by subst e; exact ⟨rfl, rfl, rfl, rfl, rfl⟩))
theorem Log.eq_iff {a b : Log} : a = b ↔ a.rep = b.rep ∧ a.time = b.time ∧ a.state = b.state ∧ a.units = b.units ∧ a.waits = b.waits := ⟨fun h => by subst h; exact ⟨rfl, rfl, rfl, rfl, rfl⟩, fun h => by cases a; cases b; simp only at h; obtain ⟨rfl, rfl, rfl, rfl, rfl⟩ := h; rfl⟩
def msCommit (x : Commit) : Nat := x.ups.length + msState x.state
def wCommit (x : Commit) : Prop := x.ups.length ≤ 9223372036854775807 ∧ wState x.state
instance : DecidableEq Commit := fun a b => if h : a.id = b.id ∧ a.ups = b.ups ∧ a.state = b.state then isTrue (by cases a; cases b; simp only at h; obtain ⟨rfl, rfl, rfl⟩ := h; rfl) else isFalse (fun e => h (by subst e; exact ⟨rfl, rfl, rfl⟩))
theorem Commit.eq_iff {a b : Commit} : a = b ↔ a.id = b.id ∧ a.ups = b.ups ∧ a.state = b.state := ⟨fun h => by subst h; exact ⟨rfl, rfl, rfl⟩, fun h => by cases a; cases b; simp only at h; obtain ⟨rfl, rfl, rfl⟩ := h; rfl⟩
def msGraph (x : Graph) : Nat := (x.commits.length + sumL msCommit x.commits)
def wGraph (x : Graph) : Prop := (x.commits.length ≤ 9223372036854775807 ∧ ∀ y ∈ x.commits, wCommit y)
instance : DecidableEq Graph := fun a b => if h : a.commits = b.commits ∧ a.head = b.head then isTrue (by cases a; cases b; simp only at h; obtain ⟨rfl, rfl⟩ := h; rfl) else isFalse (fun e => h (by subst e; exact ⟨rfl, rfl⟩))
theorem Graph.eq_iff {a b : Graph} : a = b ↔ a.commits = b.commits ∧ a.head = b.head := ⟨fun h => by subst h; exact ⟨rfl, rfl⟩, fun h => by cases a; cases b; simp only at h; obtain ⟨rfl, rfl⟩ := h; rfl⟩
def msReplica (x : Replica) : Nat := msLog x.log + msGraph x.graph + msFile x.file + (x.out.length + sumL msUnit x.out)
def wReplica (x : Replica) : Prop := wLog x.log ∧ wGraph x.graph ∧ wFile x.file ∧ (x.out.length ≤ 9223372036854775807 ∧ ∀ y ∈ x.out, wUnit y)
instance : DecidableEq Replica := fun a b => if h : a.way = b.way ∧ a.log = b.log ∧ a.graph = b.graph ∧ a.file = b.file ∧ a.out = b.out then isTrue (by cases a; cases b; simp only at h; obtain ⟨rfl, rfl, rfl, rfl, rfl⟩ := h; rfl) else isFalse (fun e => h (by subst e; exact ⟨rfl, rfl, rfl, rfl, rfl⟩))
theorem Replica.eq_iff {a b : Replica} : a = b ↔ a.way = b.way ∧ a.log = b.log ∧ a.graph = b.graph ∧ a.file = b.file ∧ a.out = b.out := ⟨fun h => by subst h; exact ⟨rfl, rfl, rfl, rfl, rfl⟩, fun h => by cases a; cases b; simp only at h; obtain ⟨rfl, rfl, rfl, rfl, rfl⟩ := h; rfl⟩
def msWorld (x : World_) : Nat := (x.replicas.length + sumL msReplica x.replicas) + (x.net.length + sumL msLetter x.net) + x.codes.length + (x.synced.length + sumL msIntS x.synced)
def wWorld (x : World_) : Prop := (x.replicas.length ≤ 9223372036854775807 ∧ ∀ y ∈ x.replicas, wReplica y) ∧ (x.net.length ≤ 9223372036854775807 ∧ ∀ y ∈ x.net, wLetter y) ∧ x.codes.length ≤ 9223372036854775807 ∧ (x.synced.length ≤ 9223372036854775807 ∧ ∀ y ∈ x.synced, wIntS y)
instance : DecidableEq World_ := fun a b => if h : a.replicas = b.replicas ∧ a.net = b.net ∧ a.codes = b.codes ∧ a.synced = b.synced then isTrue (by cases a; cases b; simp only at h; obtain ⟨rfl, rfl, rfl, rfl⟩ := h; rfl) else isFalse (fun e => h (by subst e; exact ⟨rfl, rfl, rfl, rfl⟩))
theorem World_.eq_iff {a b : World_} : a = b ↔ a.replicas = b.replicas ∧ a.net = b.net ∧ a.codes = b.codes ∧ a.synced = b.synced := ⟨fun h => by subst h; exact ⟨rfl, rfl, rfl, rfl⟩, fun h => by cases a; cases b; simp only at h; obtain ⟨rfl, rfl, rfl, rfl⟩ := h; rfl⟩
def msScript (x : Script) : Nat := x.ways.length + (x.events.length + sumL msEvent x.events)
def wScript (x : Script) : Prop := x.ways.length ≤ 9223372036854775807 ∧ (x.events.length ≤ 9223372036854775807 ∧ ∀ y ∈ x.events, wEvent y)
instance : DecidableEq Script := fun a b => if h : a.ways = b.ways ∧ a.events = b.events ∧ a.calm = b.calm then isTrue (by cases a; cases b; simp only at h; obtain ⟨rfl, rfl, rfl⟩ := h; rfl) else isFalse (fun e => h (by subst e; exact ⟨rfl, rfl, rfl⟩))
theorem Script.eq_iff {a b : Script} : a = b ↔ a.ways = b.ways ∧ a.events = b.events ∧ a.calm = b.calm := ⟨fun h => by subst h; exact ⟨rfl, rfl, rfl⟩, fun h => by cases a; cases b; simp only at h; obtain ⟨rfl, rfl, rfl⟩ := h; rfl⟩
end Go.Proofs.Ytopannfdcikgiaa.Sy

/- Contracts: names, knowledge, acts. -/
namespace Go.Proofs.Ytopannfdcikgiaa.Sy
open Go Go.RowKit
set_option linter.unusedSimpArgs false
set_option linter.unusedVariables false
abbrev n_s_l01In : Nat := 62
def F_s_l01In : Fn1 := ⟨15, [.t 6], (.seq (.reg [o 6 (.mov (.k (.bool false)))]) (.seq (.reg [o 7 (.mov (.t 0)), o 8 (.mov (.t 1)), o 9 (.bin .geq (.t 7) (.t 8)), o 10 (.mov (.t 9)), og 11 10 true (.mov (.t 0)), og 12 10 true (.mov (.t 2)), og 13 10 true (.bin .leq (.t 11) (.t 12)), o 14 (.pick (.t 10) (.t 13) (.k (.bool false))), o 6 (.mov (.t 14))]) .ret))⟩
theorem ir_s_l01In : compFn Try.prog n_s_l01In = some F_s_l01In := by kernel_rfl
abbrev n_i_within : Nat := 65
def F_i_within : Fn1 := ⟨15, [.t 6], (.seq (.reg [o 6 (.mov (.k (.bool false)))]) (.seq (.reg [o 7 (.mov (.t 0)), o 8 (.mov (.t 1)), o 9 (.bin .geq (.t 7) (.t 8)), o 10 (.mov (.t 9)), og 11 10 true (.mov (.t 0)), og 12 10 true (.mov (.t 2)), og 13 10 true (.bin .leq (.t 11) (.t 12)), o 14 (.pick (.t 10) (.t 13) (.k (.bool false))), o 6 (.mov (.t 14))]) .ret))⟩
theorem ir_i_within : compFn Try.prog n_i_within = some F_i_within := by kernel_rfl
abbrev n_s_NameOk : Nat := 63
def F_s_NameOk : Fn1 := ⟨23, [.t 2], (.seq (.reg [o 2 (.mov (.k (.bool false)))]) (.seq (.seq (.reg [o 3 (.mov (.k (.int .i64 0)))]) (.blk 0 (.lop (.seq (.seq (.reg [o 4 (.mov (.t 3)), o 5 (.mov (.t 0)), o 6 (.len true (.t 5)), o 7 (.bin .lss (.t 4) (.t 6))]) (.cnd (.t 7) .skip (.ext 0))) (.seq (.blk 1 (.seq (.reg [o 10 (.mov (.t 0)), o 11 (.mov (.t 3)), o 12 (.idx (.t 10) (.t 11)), o 13 (.bin .lss (.t 12) (.k (.int .u8 97))), o 14 (.mov (.t 13)), og 15 14 false (.mov (.t 0)), og 16 14 false (.mov (.t 3)), og 17 14 false (.idx (.t 15) (.t 16)), og 18 14 false (.bin .gtr (.t 17) (.k (.int .u8 122))), o 19 (.pick (.t 14) (.k (.bool true)) (.t 18))]) (.cnd (.t 19) (.seq (.reg [o 2 (.mov (.k (.bool false)))]) .ret) .skip))) (.reg [o 8 (.mov (.t 3)), o 9 (.bin .add (.t 8) (.k (.int .i64 1))), o 3 (.mov (.t 9))])))))) (.seq (.reg [o 20 (.mov (.t 0)), o 21 (.len true (.t 20)), o 22 (.call 62 [(.t 21), (.k (.int .i64 1)), (.k (.int .i64 8))]), o 2 (.mov (.t 22))]) .ret)))⟩
theorem ir_s_NameOk : compFn Try.prog n_s_NameOk = some F_s_NameOk := by kernel_rfl
abbrev n_i_NameOk : Nat := 64
def F_i_NameOk : Fn1 := ⟨19, [.t 2], (.seq (.reg [o 2 (.mov (.k (.bool false)))]) (.seq (.seq (.reg [o 3 (.mov (.k (.int .i64 0)))]) (.blk 0 (.lop (.seq (.seq (.reg [o 4 (.mov (.t 3)), o 5 (.mov (.t 0)), o 6 (.len true (.t 5)), o 7 (.bin .lss (.t 4) (.t 6))]) (.cnd (.t 7) .skip (.ext 0))) (.seq (.blk 1 (.seq (.reg [o 10 (.mov (.t 0)), o 11 (.mov (.t 3)), o 12 (.idx (.t 10) (.t 11)), o 13 (.cvi .i64 (.t 12)), o 14 (.call 65 [(.t 13), (.k (.int .i64 97)), (.k (.int .i64 122))]), o 15 (.un .not (.t 14))]) (.cnd (.t 15) (.seq (.reg [o 2 (.mov (.k (.bool false)))]) .ret) .skip))) (.reg [o 8 (.mov (.t 3)), o 9 (.bin .add (.t 8) (.k (.int .i64 1))), o 3 (.mov (.t 9))])))))) (.seq (.reg [o 16 (.mov (.t 0)), o 17 (.len true (.t 16)), o 18 (.call 65 [(.t 17), (.k (.int .i64 1)), (.k (.int .i64 8))]), o 2 (.mov (.t 18))]) .ret)))⟩
theorem ir_i_NameOk : compFn Try.prog n_i_NameOk = some F_i_NameOk := by kernel_rfl
abbrev n_s_KnowOk : Nat := 66
def F_s_KnowOk : Fn1 := ⟨19, [.t 2], (.seq (.reg [o 2 (.mov (.k (.bool false)))]) (.seq (.seq (.reg [o 3 (.mov (.k (.int .i64 0)))]) (.blk 0 (.lop (.seq (.seq (.reg [o 4 (.mov (.t 3)), o 5 (.mov (.t 0)), o 6 (.len false (.t 5)), o 7 (.bin .lss (.t 4) (.t 6))]) (.cnd (.t 7) .skip (.ext 0))) (.seq (.blk 1 (.seq (.reg [o 10 (.mov (.t 0)), o 11 (.mov (.t 3)), o 12 (.iad 1 (.t 10) (.t 11)), o 13 (.ld false 1 (.t 12)), o 14 (.call 62 [(.t 13), (.k (.int .i64 0)), (.k (.int .i64 1000))]), o 15 (.un .not (.t 14))]) (.cnd (.t 15) (.seq (.reg [o 2 (.mov (.k (.bool false)))]) .ret) .skip))) (.reg [o 8 (.mov (.t 3)), o 9 (.bin .add (.t 8) (.k (.int .i64 1))), o 3 (.mov (.t 9))])))))) (.seq (.reg [o 16 (.mov (.t 0)), o 17 (.len false (.t 16)), o 18 (.bin .eql (.t 17) (.k (.int .i64 3))), o 2 (.mov (.t 18))]) .ret)))⟩
theorem ir_s_KnowOk : compFn Try.prog n_s_KnowOk = some F_s_KnowOk := by kernel_rfl
abbrev n_i_KnowOk : Nat := 68
def F_i_KnowOk : Fn1 := ⟨18, [.t 2], (.seq (.reg [o 2 (.mov (.k (.bool false)))]) (.seq (.seq (.reg [o 5 (.mov (.t 0)), o 6 (.len false (.t 5)), o 7 (.mov (.k (.int .i64 0)))]) (.blk 0 (.lop (.seq (.reg [o 8 (.bin .lss (.t 7) (.t 6))]) (.seq (.cnd (.t 8) .skip (.ext 0)) (.seq (.blk 1 (.seq (.reg [o 9 (.iad 1 (.t 5) (.t 7)), o 10 (.ld false 1 (.t 9)), o 4 (.mov (.t 10))]) (.seq (.reg [o 11 (.mov (.t 4)), o 12 (.call 65 [(.t 11), (.k (.int .i64 0)), (.k (.int .i64 1000))]), o 13 (.un .not (.t 12))]) (.cnd (.t 13) (.seq (.reg [o 2 (.mov (.k (.bool false)))]) .ret) .skip)))) (.reg [o 14 (.bin .add (.t 7) (.k (.int .i64 1))), o 7 (.mov (.t 14))]))))))) (.seq (.reg [o 15 (.mov (.t 0)), o 16 (.len false (.t 15)), o 17 (.bin .eql (.t 16) (.k (.int .i64 3))), o 2 (.mov (.t 17))]) .ret)))⟩
theorem ir_i_KnowOk : compFn Try.prog n_i_KnowOk = some F_i_KnowOk := by kernel_rfl
abbrev n_s_DotOk : Nat := 114
def F_s_DotOk : Fn1 := ⟨11, [.t 2], (.seq (.reg [o 1 (.box (.t 0)), o 2 (.mov (.k (.bool false)))]) (.seq (.reg [o 3 (.fad 0 (.t 1)), o 4 (.ld false 1 (.t 3)), o 5 (.call 62 [(.t 4), (.k (.int .i64 0)), (.k (.int .i64 2))]), o 6 (.mov (.t 5)), og 7 6 true (.fad 1 (.t 1)), og 8 6 true (.ld false 1 (.t 7)), og 9 6 true (.call 62 [(.t 8), (.k (.int .i64 1)), (.k (.int .i64 1000))]), o 10 (.pick (.t 6) (.t 9) (.k (.bool false))), o 2 (.mov (.t 10))]) .ret))⟩
theorem ir_s_DotOk : compFn Try.prog n_s_DotOk = some F_s_DotOk := by kernel_rfl
abbrev n_i_DotOk : Nat := 116
def F_i_DotOk : Fn1 := ⟨11, [.t 2], (.seq (.reg [o 1 (.box (.t 0)), o 2 (.mov (.k (.bool false)))]) (.seq (.reg [o 3 (.fad 0 (.t 1)), o 4 (.ld false 1 (.t 3)), o 5 (.call 65 [(.t 4), (.k (.int .i64 0)), (.k (.int .i64 2))]), o 6 (.mov (.t 5)), og 7 6 true (.fad 1 (.t 1)), og 8 6 true (.ld false 1 (.t 7)), og 9 6 true (.call 65 [(.t 8), (.k (.int .i64 1)), (.k (.int .i64 1000))]), o 10 (.pick (.t 6) (.t 9) (.k (.bool false))), o 2 (.mov (.t 10))]) .ret))⟩
theorem ir_i_DotOk : compFn Try.prog n_i_DotOk = some F_i_DotOk := by kernel_rfl
abbrev n_s_Knows : Nat := 84
def F_s_Knows : Fn1 := ⟨21, [.t 4], (.seq (.reg [o 3 (.box (.t 1)), o 4 (.mov (.k (.bool false)))]) (.seq (.drw [o 5 (.mov (.t 0)), o 6 (.call 66 [(.t 5)]), o 7 (.mov (.t 6)), og 8 7 true (.ld true 2 (.t 3)), og 9 7 true (.call 114 [(.t 8)]), o 10 (.pick (.t 7) (.t 9) (.k (.bool false))), o 11 (.mov (.t 10)), og 12 11 true (.fad 1 (.t 3)), og 13 11 true (.ld false 1 (.t 12)), og 14 11 true (.mov (.t 0)), og 15 11 true (.fad 0 (.t 3)), og 16 11 true (.ld false 1 (.t 15)), og 17 11 true (.iad 1 (.t 14) (.t 16)), og 18 11 true (.ld false 1 (.t 17))] [og 19 11 true (.bin .leq (.t 13) (.t 18)), o 20 (.pick (.t 11) (.t 19) (.k (.bool false))), o 4 (.mov (.t 20))]) .ret))⟩
theorem ir_s_Knows : compFn Try.prog n_s_Knows = some F_s_Knows := by kernel_rfl
abbrev n_i_Knows : Nat := 86
def F_i_Knows : Fn1 := ⟨21, [.t 4], (.seq (.reg [o 3 (.box (.t 1)), o 4 (.mov (.k (.bool false)))]) (.seq (.drw [o 5 (.mov (.t 0)), o 6 (.call 68 [(.t 5)]), o 7 (.mov (.t 6)), og 8 7 true (.ld true 2 (.t 3)), og 9 7 true (.call 116 [(.t 8)]), o 10 (.pick (.t 7) (.t 9) (.k (.bool false))), o 11 (.mov (.t 10)), og 12 11 true (.fad 1 (.t 3)), og 13 11 true (.ld false 1 (.t 12)), og 14 11 true (.mov (.t 0)), og 15 11 true (.fad 0 (.t 3)), og 16 11 true (.ld false 1 (.t 15)), og 17 11 true (.iad 1 (.t 14) (.t 16)), og 18 11 true (.ld false 1 (.t 17))] [og 19 11 true (.bin .leq (.t 13) (.t 18)), o 20 (.pick (.t 11) (.t 19) (.k (.bool false))), o 4 (.mov (.t 20))]) .ret))⟩
theorem ir_i_Knows : compFn Try.prog n_i_Knows = some F_i_Knows := by kernel_rfl
abbrev n_s_l05Keyed : Nat := 133
def F_s_l05Keyed : Fn1 := ⟨5, [.t 2], (.seq (.reg [o 2 (.mov (.k (.bool false)))]) (.seq (.reg [o 3 (.mov (.t 0)), o 4 (.call 62 [(.t 3), (.k (.int .i64 2)), (.k (.int .i64 5))]), o 2 (.mov (.t 4))]) .ret))⟩
theorem ir_s_l05Keyed : compFn Try.prog n_s_l05Keyed = some F_s_l05Keyed := by kernel_rfl
abbrev n_s_l05Valued : Nat := 134
def F_s_l05Valued : Fn1 := ⟨13, [.t 2], (.seq (.reg [o 2 (.mov (.k (.bool false)))]) (.seq (.reg [o 3 (.mov (.t 0)), o 4 (.bin .eql (.t 3) (.k (.int .i64 1))), o 5 (.mov (.t 4)), og 6 5 false (.mov (.t 0)), og 7 5 false (.bin .eql (.t 6) (.k (.int .i64 4))), o 8 (.pick (.t 5) (.k (.bool true)) (.t 7)), o 9 (.mov (.t 8)), og 10 9 false (.mov (.t 0)), og 11 9 false (.bin .eql (.t 10) (.k (.int .i64 6))), o 12 (.pick (.t 9) (.k (.bool true)) (.t 11)), o 2 (.mov (.t 12))]) .ret))⟩
theorem ir_s_l05Valued : compFn Try.prog n_s_l05Valued = some F_s_l05Valued := by kernel_rfl
abbrev n_i_hasKey : Nat := 135
def F_i_hasKey : Fn1 := ⟨5, [.t 2], (.seq (.reg [o 2 (.mov (.k (.bool false)))]) (.seq (.reg [o 3 (.mov (.t 0)), o 4 (.call 65 [(.t 3), (.k (.int .i64 2)), (.k (.int .i64 5))]), o 2 (.mov (.t 4))]) .ret))⟩
theorem ir_i_hasKey : compFn Try.prog n_i_hasKey = some F_i_hasKey := by kernel_rfl
abbrev n_i_hasVal : Nat := 136
def F_i_hasVal : Fn1 := ⟨13, [.t 2], (.seq (.reg [o 2 (.mov (.k (.bool false)))]) (.seq (.reg [o 3 (.mov (.t 0)), o 4 (.bin .eql (.t 3) (.k (.int .i64 1))), o 5 (.mov (.t 4)), og 6 5 false (.mov (.t 0)), og 7 5 false (.bin .eql (.t 6) (.k (.int .i64 4))), o 8 (.pick (.t 5) (.k (.bool true)) (.t 7)), o 9 (.mov (.t 8)), og 10 9 false (.mov (.t 0)), og 11 9 false (.bin .eql (.t 10) (.k (.int .i64 6))), o 12 (.pick (.t 9) (.k (.bool true)) (.t 11)), o 2 (.mov (.t 12))]) .ret))⟩
theorem ir_i_hasVal : compFn Try.prog n_i_hasVal = some F_i_hasVal := by kernel_rfl
abbrev n_s_l05Plain : Nat := 115
def F_s_l05Plain : Fn1 := ⟨45, [.t 8], (.seq (.reg [o 8 (.mov (.k (.bool false)))]) (.seq (.seq (.reg [o 9 (.mov (.t 0)), o 10 (.call 62 [(.t 9), (.k (.int .i64 1)), (.k (.int .i64 7))]), o 11 (.un .not (.t 10)), o 12 (.mov (.t 11)), og 13 12 false (.mov (.t 1)), og 14 12 false (.call 63 [(.t 13)]), og 15 12 false (.un .not (.t 14)), o 16 (.pick (.t 12) (.k (.bool true)) (.t 15)), o 17 (.mov (.t 16)), og 18 17 false (.mov (.t 0)), og 19 17 false (.call 133 [(.t 18)]), og 20 17 false (.mov (.t 19)), og 21 20 true (.mov (.t 2)), og 22 20 true (.call 63 [(.t 21)]), og 23 20 true (.un .not (.t 22)), og 24 17 false (.pick (.t 20) (.t 23) (.k (.bool false))), o 25 (.pick (.t 17) (.k (.bool true)) (.t 24)), o 26 (.mov (.t 25)), og 27 26 false (.mov (.t 0)), og 28 26 false (.call 133 [(.t 27)]), og 29 26 false (.un .not (.t 28)), og 30 26 false (.mov (.t 29)), og 31 30 true (.mov (.t 2)), og 32 30 true (.bin .neq (.t 31) (.k (.str ⟨#[]⟩))), og 33 26 false (.pick (.t 30) (.t 32) (.k (.bool false))), o 34 (.pick (.t 26) (.k (.bool true)) (.t 33))]) (.cnd (.t 34) (.seq (.reg [o 8 (.mov (.k (.bool false)))]) .ret) .skip)) (.seq (.reg [o 35 (.mov (.t 3)), o 36 (.bin .eql (.t 35) (.k (.int .i64 0))), o 37 (.mov (.t 36)), og 38 37 false (.mov (.t 0)), og 39 37 false (.call 134 [(.t 38)]), og 40 37 false (.mov (.t 39)), og 41 40 true (.mov (.t 3)), og 42 40 true (.call 62 [(.t 41), (.k (.int .i64 0)), (.k (.int .i64 999999))]), og 43 37 false (.pick (.t 40) (.t 42) (.k (.bool false))), o 44 (.pick (.t 37) (.k (.bool true)) (.t 43)), o 8 (.mov (.t 44))]) .ret)))⟩
theorem ir_s_l05Plain : compFn Try.prog n_s_l05Plain = some F_s_l05Plain := by kernel_rfl
abbrev n_i_wordsOk : Nat := 117
def F_i_wordsOk : Fn1 := ⟨46, [.t 8], (.seq (.reg [o 8 (.mov (.k (.bool false)))]) (.seq (.seq (.reg [o 10 (.mov (.t 0)), o 11 (.call 65 [(.t 10), (.k (.int .i64 1)), (.k (.int .i64 7))]), o 12 (.un .not (.t 11)), o 13 (.mov (.t 12)), og 14 13 false (.mov (.t 1)), og 15 13 false (.call 64 [(.t 14)]), og 16 13 false (.un .not (.t 15)), o 17 (.pick (.t 13) (.k (.bool true)) (.t 16))]) (.cnd (.t 17) (.seq (.reg [o 8 (.mov (.k (.bool false)))]) .ret) .skip)) (.seq (.reg [o 18 (.mov (.t 2)), o 19 (.bin .eql (.t 18) (.k (.str ⟨#[]⟩))), o 20 (.mov (.t 19)), og 21 20 true (.mov (.t 0)), og 22 20 true (.call 135 [(.t 21)]), og 23 20 true (.un .not (.t 22)), o 24 (.pick (.t 20) (.t 23) (.k (.bool false))), o 25 (.mov (.t 24)), og 26 25 false (.mov (.t 2)), og 27 25 false (.call 64 [(.t 26)]), og 28 25 false (.mov (.t 27)), og 29 28 true (.mov (.t 0)), og 30 28 true (.call 135 [(.t 29)]), og 31 25 false (.pick (.t 28) (.t 30) (.k (.bool false))), o 32 (.pick (.t 25) (.k (.bool true)) (.t 31)), o 9 (.mov (.t 32))]) (.seq (.reg [o 33 (.mov (.t 9)), o 34 (.mov (.t 33)), og 35 34 true (.mov (.t 3)), og 36 34 true (.bin .eql (.t 35) (.k (.int .i64 0))), og 37 34 true (.mov (.t 36)), og 38 37 false (.mov (.t 0)), og 39 37 false (.call 136 [(.t 38)]), og 40 37 false (.mov (.t 39)), og 41 40 true (.mov (.t 3)), og 42 40 true (.call 65 [(.t 41), (.k (.int .i64 0)), (.k (.int .i64 999999))]), og 43 37 false (.pick (.t 40) (.t 42) (.k (.bool false))), og 44 34 true (.pick (.t 37) (.k (.bool true)) (.t 43)), o 45 (.pick (.t 34) (.t 44) (.k (.bool false))), o 8 (.mov (.t 45))]) .ret))))⟩
theorem ir_i_wordsOk : compFn Try.prog n_i_wordsOk = some F_i_wordsOk := by kernel_rfl
abbrev n_s_ActOk : Nat := 83
def F_s_ActOk : Fn1 := ⟨71, [.t 2], (.seq (.reg [o 1 (.box (.t 0)), o 2 (.mov (.k (.bool false)))]) (.seq (.seq (.drw [o 3 (.fad 0 (.t 1)), o 4 (.ld true 2 (.t 3)), o 5 (.call 114 [(.t 4)]), o 6 (.un .not (.t 5)), o 7 (.mov (.t 6)), og 8 7 false (.fad 3 (.t 1)), og 9 7 false (.ld false 1 (.t 8)), og 10 7 false (.call 66 [(.t 9)]), og 11 7 false (.un .not (.t 10)), o 12 (.pick (.t 7) (.k (.bool true)) (.t 11)), o 13 (.mov (.t 12)), og 14 13 false (.fad 3 (.t 1)), og 15 13 false (.ld false 1 (.t 14)), og 16 13 false (.fad 0 (.t 1)), og 17 13 false (.fad 0 (.t 16)), og 18 13 false (.ld false 1 (.t 17)), og 19 13 false (.iad 1 (.t 15) (.t 18)), og 20 13 false (.ld false 1 (.t 19)), og 21 13 false (.fad 0 (.t 1)), og 22 13 false (.fad 1 (.t 21)), og 23 13 false (.ld false 1 (.t 22)), og 24 13 false (.bin .sub (.t 23) (.k (.int .i64 1))), og 25 13 false (.bin .neq (.t 20) (.t 24)), o 26 (.pick (.t 13) (.k (.bool true)) (.t 25)), o 27 (.mov (.t 26)), og 28 27 false (.fad 2 (.t 1)), og 29 27 false (.ld false 1 (.t 28)), og 30 27 false (.call 62 [(.t 29), (.k (.int .i64 1)), (.k (.int .i64 10000))]), og 31 27 false (.un .not (.t 30)), o 32 (.pick (.t 27) (.k (.bool true)) (.t 31)), o 33 (.mov (.t 32)), og 34 33 false (.fad 4 (.t 1)), og 35 33 false (.ld false 1 (.t 34)), og 36 33 false (.fad 5 (.t 1)), og 37 33 false (.ld false 1 (.t 36)), og 38 33 false (.fad 6 (.t 1)), og 39 33 false (.ld false 1 (.t 38)), og 40 33 false (.fad 7 (.t 1)), og 41 33 false (.ld false 1 (.t 40))] [og 42 33 false (.call 115 [(.t 35), (.t 37), (.t 39), (.t 41)]), og 43 33 false (.un .not (.t 42)), o 44 (.pick (.t 33) (.k (.bool true)) (.t 43))]) (.cnd (.t 44) (.seq (.reg [o 2 (.mov (.k (.bool false)))]) .ret) .skip)) (.seq (.seq (.reg [o 45 (.fad 4 (.t 1)), o 46 (.ld false 1 (.t 45))]) (.blk 0 (.seq (.reg [o 48 (.bin .eql (.t 46) (.k (.int .i64 7))), o 47 (.mov (.t 48))]) (.cnd (.t 47) (.seq (.reg [o 49 (.fad 3 (.t 1)), o 50 (.ld false 1 (.t 49)), o 51 (.fad 8 (.t 1)), o 52 (.ld true 2 (.t 51)), o 53 (.call 84 [(.t 50), (.t 52)]), o 2 (.mov (.t 53))]) .ret) (.seq (.reg [o 55 (.bin .eql (.t 46) (.k (.int .i64 6))), o 54 (.mov (.t 55))]) (.cnd (.t 54) (.seq (.reg [o 56 (.fad 8 (.t 1)), o 57 (.ld true 2 (.t 56)), o 58 (.build [(.int .i64 0), (.int .i64 0)] []), o 59 (.eqs false [.i .i64, .i .i64] (.t 57) (.t 58)), o 60 (.mov (.t 59)), og 61 60 false (.fad 3 (.t 1)), og 62 60 false (.ld false 1 (.t 61)), og 63 60 false (.fad 8 (.t 1)), og 64 60 false (.ld true 2 (.t 63)), og 65 60 false (.call 84 [(.t 62), (.t 64)]), o 66 (.pick (.t 60) (.k (.bool true)) (.t 65)), o 2 (.mov (.t 66))]) .ret) .skip)))))) (.seq (.reg [o 67 (.fad 8 (.t 1)), o 68 (.ld true 2 (.t 67)), o 69 (.build [(.int .i64 0), (.int .i64 0)] []), o 70 (.eqs false [.i .i64, .i .i64] (.t 68) (.t 69)), o 2 (.mov (.t 70))]) .ret))))⟩
theorem ir_s_ActOk : compFn Try.prog n_s_ActOk = some F_s_ActOk := by kernel_rfl
abbrev n_i_ActOk : Nat := 85
def F_i_ActOk : Fn1 := ⟨71, [.t 2], (.seq (.reg [o 1 (.box (.t 0)), o 2 (.mov (.k (.bool false)))]) (.seq (.seq (.drw [o 5 (.fad 0 (.t 1)), o 6 (.ld true 2 (.t 5)), o 7 (.call 116 [(.t 6)]), o 8 (.un .not (.t 7)), o 9 (.mov (.t 8)), og 10 9 false (.fad 3 (.t 1)), og 11 9 false (.ld false 1 (.t 10)), og 12 9 false (.call 68 [(.t 11)]), og 13 9 false (.un .not (.t 12)), o 14 (.pick (.t 9) (.k (.bool true)) (.t 13)), o 15 (.mov (.t 14)), og 16 15 false (.fad 3 (.t 1)), og 17 15 false (.ld false 1 (.t 16)), og 18 15 false (.fad 0 (.t 1)), og 19 15 false (.fad 0 (.t 18)), og 20 15 false (.ld false 1 (.t 19)), og 21 15 false (.iad 1 (.t 17) (.t 20)), og 22 15 false (.ld false 1 (.t 21)), og 23 15 false (.fad 0 (.t 1)), og 24 15 false (.fad 1 (.t 23)), og 25 15 false (.ld false 1 (.t 24)), og 26 15 false (.bin .sub (.t 25) (.k (.int .i64 1)))] [og 27 15 false (.bin .neq (.t 22) (.t 26)), o 28 (.pick (.t 15) (.k (.bool true)) (.t 27)), o 29 (.mov (.t 28)), og 30 29 false (.fad 2 (.t 1)), og 31 29 false (.ld false 1 (.t 30)), og 32 29 false (.call 65 [(.t 31), (.k (.int .i64 1)), (.k (.int .i64 10000))]), og 33 29 false (.un .not (.t 32)), o 34 (.pick (.t 29) (.k (.bool true)) (.t 33))]) (.cnd (.t 34) (.seq (.reg [o 2 (.mov (.k (.bool false)))]) .ret) .skip)) (.seq (.reg [o 35 (.fad 8 (.t 1)), o 36 (.ld true 2 (.t 35)), o 37 (.build [(.int .i64 0), (.int .i64 0)] []), o 38 (.eqs false [.i .i64, .i .i64] (.t 36) (.t 37)), o 3 (.mov (.t 38))]) (.seq (.reg [o 39 (.mov (.t 3)), o 4 (.mov (.t 39))]) (.seq (.seq (.reg [o 40 (.fad 4 (.t 1)), o 41 (.ld false 1 (.t 40))]) (.blk 0 (.seq (.reg [o 43 (.bin .eql (.t 41) (.k (.int .i64 7))), o 42 (.mov (.t 43))]) (.cnd (.t 42) (.reg [o 44 (.fad 3 (.t 1)), o 45 (.ld false 1 (.t 44)), o 46 (.fad 8 (.t 1)), o 47 (.ld true 2 (.t 46)), o 48 (.call 86 [(.t 45), (.t 47)]), o 4 (.mov (.t 48))]) (.seq (.reg [o 50 (.bin .eql (.t 41) (.k (.int .i64 6))), o 49 (.mov (.t 50))]) (.cnd (.t 49) (.reg [o 51 (.mov (.t 3)), o 52 (.mov (.t 51)), og 53 52 false (.fad 3 (.t 1)), og 54 52 false (.ld false 1 (.t 53)), og 55 52 false (.fad 8 (.t 1)), og 56 52 false (.ld true 2 (.t 55)), og 57 52 false (.call 86 [(.t 54), (.t 56)]), o 58 (.pick (.t 52) (.k (.bool true)) (.t 57)), o 4 (.mov (.t 58))]) .skip)))))) (.seq (.reg [o 59 (.mov (.t 4)), o 60 (.mov (.t 59)), og 61 60 true (.fad 4 (.t 1)), og 62 60 true (.ld false 1 (.t 61)), og 63 60 true (.fad 5 (.t 1)), og 64 60 true (.ld false 1 (.t 63)), og 65 60 true (.fad 6 (.t 1)), og 66 60 true (.ld false 1 (.t 65)), og 67 60 true (.fad 7 (.t 1)), og 68 60 true (.ld false 1 (.t 67)), og 69 60 true (.call 117 [(.t 62), (.t 64), (.t 66), (.t 68)]), o 70 (.pick (.t 60) (.t 69) (.k (.bool false))), o 2 (.mov (.t 70))]) .ret))))))⟩
theorem ir_i_ActOk : compFn Try.prog n_i_ActOk = some F_i_ActOk := by kernel_rfl
/-- A call that tells a bool. -/
theorem by_bool {P : Program} {env : Env} {σ : St} {K : Kt} {r : List Op1} {d : Option Nat} {D : Bool} {f : Nat} {args : List GV} {b : Bool} (h : Ret P f args σ (.bool b) σ) (ht : b = true → vcOps D P r K (upo env d (.bool true)) σ) (hf : b = false → vcOps D P r K (upo env d (.bool false)) σ) : bindC D f args P r K env d σ := by
  cases b with
  | true => exact by_ret h (ht rfl)
  | false => exact by_ret h (hf rfl)
def inB (n a b : Int) : Bool := decide (a ≤ n) && decide (n ≤ b)
theorem inB_iff {n a b : Int} : inB n a b = true ↔ a ≤ n ∧ n ≤ b := by simp [inB]
theorem s_l01In_ret (σ : St) (n a b : Int) : Ret Try.prog n_s_l01In [gi n, gi a, gi b] σ (.bool (inB n a b)) σ := by
  refine ret_eq ir_s_l01In (Nat.le_of_ble_eq_true rfl) trivial ?_
  simp +contextual (disch := omega) only [go_sem, Nat.reduceEqDiff, ↓reduceIte, Int.reduceEq, Int.reduceNeg, wrap_add, F_s_l01In, inB]
theorem i_within_ret (σ : St) (n a b : Int) : Ret Try.prog n_i_within [gi n, gi a, gi b] σ (.bool (inB n a b)) σ := by
  refine ret_eq ir_i_within (Nat.le_of_ble_eq_true rfl) trivial ?_
  simp +contextual (disch := omega) only [go_sem, Nat.reduceEqDiff, ↓reduceIte, Int.reduceEq, Int.reduceNeg, wrap_add, F_i_within, inB]
/-! Texts, byte by byte. -/
def bl (s : ByteArray) : List UInt8 := s.data.toList
theorem bl_length (s : ByteArray) : (bl s).length = s.size := by
  unfold bl; rw [Array.length_toList]; rfl
theorem idx_at {s : ByteArray} {i : Nat} (hi : i < (bl s).length) : idxG (.str s) (some i) = some (.int .u8 (((bl s)[i].toNat : Nat) : Int)) := by
  have h2 : i < s.size := by rw [← bl_length]; exact hi
  have e : s[i]? = some (bl s)[i] := by
    rw [getElem?_pos s i h2]; rfl
  simp only [idxG, e, Option.map_some]; rfl
theorem u8_lt (b : UInt8) : b.toNat < 256 := b.toNat_lt
def lowB (b : UInt8) : Bool := inB (b.toNat : Int) 97 122
def nameOk (s : ByteArray) : Bool := (bl s).all lowB && inB s.size 1 8
theorem s_NameOk_ret (σ : St) (s : ByteArray) (hs : s.size ≤ 1099511627776) : Ret Try.prog n_s_NameOk [.str s] σ (.bool (nameOk s)) σ := by
  refine ret_eq ir_s_NameOk (Nat.le_of_ble_eq_true rfl) trivial ?_
  simp +contextual (disch := omega) only [go_sem, Nat.reduceEqDiff, ↓reduceIte, Int.reduceEq, Int.reduceNeg, wrap_add, F_s_NameOk]
  refine vc_for (bl s).length 3 (fun i env τ => env 0 = .str s ∧ ((bl s).take i).all lowB = true ∧ σ <+: τ) rfl ⟨rfl, rfl, List.prefix_refl _⟩ ?_ ?_
  · rintro i env τ hi e3 c0 ⟨e0, ha, hp⟩
    have hl := bl_length s
    rw [hl] at c0
    have hf := fun h => all_false_at (p := lowB) hi h
    have ht := take_all_succ hi ha
    simp +contextual (disch := omega) only [go_sem, Nat.reduceEqDiff, ↓reduceIte, Int.reduceEq, Int.reduceNeg, wrap_add, c0, e0, e3, idx_at hi, hp]
    simp only [lowB, inB, nameOk] at *
    generalize (((bl s)[i].toNat : Nat) : Int) = b at *
    grind
  · rintro env τ e3 c0 ⟨e0, ha, hp⟩
    rw [List.take_length] at ha
    rw [bl_length] at c0 e3
    simp +contextual (disch := omega) only [go_sem, Nat.reduceEqDiff, ↓reduceIte, Int.reduceEq, Int.reduceNeg, wrap_add, c0, e0, e3]
    refine by_ret (s_l01In_ret τ _ _ _) ?_
    simp +contextual (disch := omega) only [go_sem, Nat.reduceEqDiff, ↓reduceIte, Int.reduceEq, Int.reduceNeg, wrap_add, nameOk, ha, hp]
theorem i_NameOk_ret (σ : St) (s : ByteArray) (hs : s.size ≤ 1099511627776) : Ret Try.prog n_i_NameOk [.str s] σ (.bool (nameOk s)) σ := by
  refine ret_eq ir_i_NameOk (Nat.le_of_ble_eq_true rfl) trivial ?_
  simp +contextual (disch := omega) only [go_sem, Nat.reduceEqDiff, ↓reduceIte, Int.reduceEq, Int.reduceNeg, wrap_add, F_i_NameOk]
  refine vc_for (bl s).length 3 (fun i env τ => env 0 = .str s ∧ ((bl s).take i).all lowB = true ∧ σ <+: τ) rfl ⟨rfl, rfl, List.prefix_refl _⟩ ?_ ?_
  · rintro i env τ hi e3 c0 ⟨e0, ha, hp⟩
    have hl := bl_length s
    rw [hl] at c0
    have hf := fun h => all_false_at (p := lowB) hi h
    have ht := take_all_succ hi ha
    have h8 := u8_lt (bl s)[i]
    simp +contextual (disch := omega) only [go_sem, Nat.reduceEqDiff, ↓reduceIte, Int.reduceEq, Int.reduceNeg, wrap_add, c0, e0, e3, idx_at hi, cvi_int]
    refine by_bool (i_within_ret τ _ _ _) (fun h => ?_) (fun h => ?_)
    · simp +contextual (disch := omega) only [go_sem, Nat.reduceEqDiff, ↓reduceIte, Int.reduceEq, Int.reduceNeg, wrap_add, e0, e3, hp]
      exact ht h
    · simp +contextual (disch := omega) only [go_sem, Nat.reduceEqDiff, ↓reduceIte, Int.reduceEq, Int.reduceNeg, wrap_add, e0, e3, hp]
      simp [nameOk, hf h]
  · rintro env τ e3 c0 ⟨e0, ha, hp⟩
    rw [List.take_length] at ha
    rw [bl_length] at c0 e3
    simp +contextual (disch := omega) only [go_sem, Nat.reduceEqDiff, ↓reduceIte, Int.reduceEq, Int.reduceNeg, wrap_add, c0, e0, e3]
    refine by_ret (i_within_ret τ _ _ _) ?_
    simp +contextual (disch := omega) only [go_sem, Nat.reduceEqDiff, ↓reduceIte, Int.reduceEq, Int.reduceNeg, wrap_add, nameOk, ha, hp]
/-! Knowledge. -/
def seqB (n : Int) : Bool := inB n 0 1000
def okK (l : List Int) : Bool := l.all seqB && decide (l.length = 3)
theorem okK_len {l : List Int} (h : okK l = true) : l.length = 3 := by
  simp only [okK, Bool.and_eq_true, decide_eq_true_eq] at h
  exact h.2
theorem okK_mem {l : List Int} (h : okK l = true) {x : Int} (hx : x ∈ l) : 0 ≤ x ∧ x ≤ 1000 := by
  simp only [okK, Bool.and_eq_true, List.all_eq_true] at h
  exact inB_iff.1 (h.1 x hx)
theorem s_KnowOk_ret (σ : St) (v : GV) (l : List Int) (h : RS pI.kd σ v l) (hl : l.length ≤ 1099511627776) : Ret Try.prog n_s_KnowOk [v] σ (.bool (okK l)) σ := by
  refine ret_eq ir_s_KnowOk (Nat.le_of_ble_eq_true rfl) trivial ?_
  simp +contextual (disch := omega) only [go_sem, Nat.reduceEqDiff, ↓reduceIte, Int.reduceEq, Int.reduceNeg, wrap_add, F_s_KnowOk]
  refine vc_for l.length 3 (fun i env τ => env 0 = v ∧ (l.take i).all seqB = true ∧ σ <+: τ) rfl ⟨rfl, rfl, List.prefix_refl _⟩ ?_ ?_
  · rintro i env τ hi e3 c0 ⟨e0, ha, hp⟩
    have hf := fun h => all_false_at (p := seqB) hi h
    have ht := take_all_succ hi ha
    simp +contextual (disch := omega) only [go_sem, Nat.reduceEqDiff, ↓reduceIte, Int.reduceEq, Int.reduceNeg, wrap_add, c0, e0, e3, h.len, int_at (h.pre hp) hi]
    refine by_bool (s_l01In_ret τ _ _ _) (fun h => ?_) (fun h => ?_)
    · simp +contextual (disch := omega) only [go_sem, Nat.reduceEqDiff, ↓reduceIte, Int.reduceEq, Int.reduceNeg, wrap_add, e0, e3, hp]
      exact ht h
    · simp +contextual (disch := omega) only [go_sem, Nat.reduceEqDiff, ↓reduceIte, Int.reduceEq, Int.reduceNeg, wrap_add, e0, e3, hp]
      simp [okK, hf h]
  · rintro env τ e3 c0 ⟨e0, ha, hp⟩
    rw [List.take_length] at ha
    simp +contextual (disch := omega) only [go_sem, Nat.reduceEqDiff, ↓reduceIte, Int.reduceEq, Int.reduceNeg, wrap_add, c0, e0, e3, h.len, hp, okK, ha]
    exact len_beq
theorem i_KnowOk_ret (σ : St) (v : GV) (l : List Int) (h : RS pI.kd σ v l) (hl : l.length ≤ 1099511627776) : Ret Try.prog n_i_KnowOk [v] σ (.bool (okK l)) σ := by
  refine ret_eq ir_i_KnowOk (Nat.le_of_ble_eq_true rfl) trivial ?_
  simp +contextual (disch := omega) only [go_sem, Nat.reduceEqDiff, ↓reduceIte, Int.reduceEq, Int.reduceNeg, wrap_add, F_i_KnowOk, h.len]
  refine vc_for l.length 7 (fun i env τ => env 0 = v ∧ env 5 = v ∧ env 6 = gi l.length ∧ (l.take i).all seqB = true ∧ σ <+: τ) rfl ⟨rfl, rfl, rfl, rfl, List.prefix_refl _⟩ ?_ ?_
  · rintro i env τ hi e7 c0 ⟨e0, e5, e6, ha, hp⟩
    have hf := fun h => all_false_at (p := seqB) hi h
    have ht := take_all_succ hi ha
    simp +contextual (disch := omega) only [go_sem, Nat.reduceEqDiff, ↓reduceIte, Int.reduceEq, Int.reduceNeg, wrap_add, c0, e0, e5, e6, e7, h.len, int_at (h.pre hp) hi]
    refine by_bool (i_within_ret τ _ _ _) (fun h => ?_) (fun h => ?_)
    · simp +contextual (disch := omega) only [go_sem, Nat.reduceEqDiff, ↓reduceIte, Int.reduceEq, Int.reduceNeg, wrap_add, e0, e5, e6, e7, hp]
      exact ht h
    · simp +contextual (disch := omega) only [go_sem, Nat.reduceEqDiff, ↓reduceIte, Int.reduceEq, Int.reduceNeg, wrap_add, e0, e5, e6, e7, hp]
      simp [okK, hf h]
  · rintro env τ e7 c0 ⟨e0, e5, e6, ha, hp⟩
    rw [List.take_length] at ha
    simp +contextual (disch := omega) only [go_sem, Nat.reduceEqDiff, ↓reduceIte, Int.reduceEq, Int.reduceNeg, wrap_add, c0, e0, e5, e6, e7, h.len, hp, okK, ha]
    exact len_beq
def dotOk (d : Dot) : Bool := inB d.rep 0 2 && inB d.seq 1 1000
theorem dotOk_iff {d : Dot} : dotOk d = true ↔ (0 ≤ d.rep ∧ d.rep ≤ 2) ∧ 1 ≤ d.seq ∧ d.seq ≤ 1000 := by simp [dotOk, inB_iff]
theorem s_DotOk_ret (σ : St) (d : Dot) : Ret Try.prog n_s_DotOk [.agg [gi d.rep, gi d.seq]] σ (.bool (dotOk d)) σ := by
  refine ret_eq ir_s_DotOk (Nat.le_of_ble_eq_true rfl) trivial ?_
  simp +contextual (disch := omega) only [go_sem, Nat.reduceEqDiff, ↓reduceIte, Int.reduceEq, Int.reduceNeg, wrap_add, F_s_DotOk]
  refine by_bool (s_l01In_ret _ _ _ _) (fun h => ?_) (fun h => ?_)
  · simp +contextual (disch := omega) only [go_sem, Nat.reduceEqDiff, ↓reduceIte, Int.reduceEq, Int.reduceNeg, wrap_add, List.append_nil]
    refine by_ret (s_l01In_ret _ _ _ _) ?_
    simp +contextual (disch := omega) only [go_sem, Nat.reduceEqDiff, ↓reduceIte, Int.reduceEq, Int.reduceNeg, wrap_add, dotOk, h]
  · simp +contextual (disch := omega) only [go_sem, Nat.reduceEqDiff, ↓reduceIte, Int.reduceEq, Int.reduceNeg, wrap_add, dotOk, h]
theorem i_DotOk_ret (σ : St) (d : Dot) : Ret Try.prog n_i_DotOk [.agg [gi d.rep, gi d.seq]] σ (.bool (dotOk d)) σ := by
  refine ret_eq ir_i_DotOk (Nat.le_of_ble_eq_true rfl) trivial ?_
  simp +contextual (disch := omega) only [go_sem, Nat.reduceEqDiff, ↓reduceIte, Int.reduceEq, Int.reduceNeg, wrap_add, F_i_DotOk]
  refine by_bool (i_within_ret _ _ _ _) (fun h => ?_) (fun h => ?_)
  · simp +contextual (disch := omega) only [go_sem, Nat.reduceEqDiff, ↓reduceIte, Int.reduceEq, Int.reduceNeg, wrap_add, List.append_nil]
    refine by_ret (i_within_ret _ _ _ _) ?_
    simp +contextual (disch := omega) only [go_sem, Nat.reduceEqDiff, ↓reduceIte, Int.reduceEq, Int.reduceNeg, wrap_add, dotOk, h]
  · simp +contextual (disch := omega) only [go_sem, Nat.reduceEqDiff, ↓reduceIte, Int.reduceEq, Int.reduceNeg, wrap_add, dotOk, h]
def at0 (l : List Int) (r : Int) : Int := l.getD r.toNat 0
def knows (k : List Int) (d : Dot) : Bool := okK k && dotOk d && decide (d.seq ≤ at0 k d.rep)
theorem natOf_pos {k : IntKind} {n : Int} (h : 0 ≤ n) : natOf (some (.int k n)) = some n.toNat := by simp [natOf, h]
theorem rep_at {σ : St} {v : GV} {l : List Int} {r : Int} (h : RS pI.kd σ v l) (hk : okK l = true) (h0 : 0 ≤ r) (h2 : r ≤ 2) : (natOf (some (gi r)) = some r.toNat ∧ iadG 1 v (some r.toNat) = some (atz 1 v r.toNat)) ∧ ldG false 1 σ (atz 1 v r.toNat) = some (gi (at0 l r)) := by
  have hl := okK_len hk
  have hi : r.toNat < l.length := by omega
  have e := int_at h hi
  refine ⟨⟨natOf_pos h0, e.1⟩, ?_⟩
  rw [e.2, at0, List.getD_eq_getElem?_getD, List.getElem?_eq_getElem hi]; rfl
theorem s_Knows_ret (σ : St) (v : GV) (k : List Int) (d : Dot) (h : RS pI.kd σ v k) (hl : k.length ≤ 1099511627776) : Ret Try.prog n_s_Knows [v, .agg [gi d.rep, gi d.seq]] σ (.bool (knows k d)) σ := by
  refine ret_eq ir_s_Knows (Nat.le_of_ble_eq_true rfl) trivial ?_
  simp +contextual (disch := omega) only [go_sem, Nat.reduceEqDiff, ↓reduceIte, Int.reduceEq, Int.reduceNeg, wrap_add, F_s_Knows]
  have h1 := h.pre (pre1 σ (some (Blk.row 1 [gi d.rep, gi d.seq])))
  refine by_bool (s_KnowOk_ret _ v k h1 hl) (fun hk => ?_) (fun hk => ?_)
  · simp +contextual (disch := omega) only [go_sem, Nat.reduceEqDiff, ↓reduceIte, Int.reduceEq, Int.reduceNeg, wrap_add, List.append_nil]
    refine by_bool (s_DotOk_ret _ d) (fun hd => ?_) (fun hd => ?_)
    · have hd' := dotOk_iff.1 hd
      have hr := rep_at h1 hk hd'.1.1 hd'.1.2
      simp +contextual (disch := omega) only [go_sem, Nat.reduceEqDiff, ↓reduceIte, Int.reduceEq, Int.reduceNeg, wrap_add, hr, knows, hk, hd]
    · simp +contextual (disch := omega) only [go_sem, Nat.reduceEqDiff, ↓reduceIte, Int.reduceEq, Int.reduceNeg, wrap_add, knows, hk, hd]
  · simp +contextual (disch := omega) only [go_sem, Nat.reduceEqDiff, ↓reduceIte, Int.reduceEq, Int.reduceNeg, wrap_add, knows, hk]
theorem i_Knows_ret (σ : St) (v : GV) (k : List Int) (d : Dot) (h : RS pI.kd σ v k) (hl : k.length ≤ 1099511627776) : Ret Try.prog n_i_Knows [v, .agg [gi d.rep, gi d.seq]] σ (.bool (knows k d)) σ := by
  refine ret_eq ir_i_Knows (Nat.le_of_ble_eq_true rfl) trivial ?_
  simp +contextual (disch := omega) only [go_sem, Nat.reduceEqDiff, ↓reduceIte, Int.reduceEq, Int.reduceNeg, wrap_add, F_i_Knows]
  have h1 := h.pre (pre1 σ (some (Blk.row 1 [gi d.rep, gi d.seq])))
  refine by_bool (i_KnowOk_ret _ v k h1 hl) (fun hk => ?_) (fun hk => ?_)
  · simp +contextual (disch := omega) only [go_sem, Nat.reduceEqDiff, ↓reduceIte, Int.reduceEq, Int.reduceNeg, wrap_add, List.append_nil]
    refine by_bool (i_DotOk_ret _ d) (fun hd => ?_) (fun hd => ?_)
    · have hd' := dotOk_iff.1 hd
      have hr := rep_at h1 hk hd'.1.1 hd'.1.2
      simp +contextual (disch := omega) only [go_sem, Nat.reduceEqDiff, ↓reduceIte, Int.reduceEq, Int.reduceNeg, wrap_add, hr, knows, hk, hd]
    · simp +contextual (disch := omega) only [go_sem, Nat.reduceEqDiff, ↓reduceIte, Int.reduceEq, Int.reduceNeg, wrap_add, knows, hk, hd]
  · simp +contextual (disch := omega) only [go_sem, Nat.reduceEqDiff, ↓reduceIte, Int.reduceEq, Int.reduceNeg, wrap_add, knows, hk]
end Go.Proofs.Ytopannfdcikgiaa.Sy

/- Contracts: numbers and texts written down. -/
namespace Go.Proofs.Ytopannfdcikgiaa.Sy
open Go Go.RowKit
set_option linter.unusedSimpArgs false
set_option linter.unusedVariables false
abbrev n_s_l01Var : Nat := 71
def F_s_l01Var : Fn1 := ⟨22, [.t 2], (.seq (.reg [o 2 (.mov (.k (.str ⟨#[]⟩)))]) (.seq (.reg [o 4 (.lit 1 0 [] []), o 3 (.mov (.t 4))]) (.seq (.blk 0 (.lop (.seq (.seq (.reg [o 5 (.mov (.t 0)), o 6 (.bin .gtr (.t 5) (.k (.int .i64 127)))]) (.cnd (.t 6) .skip (.ext 0))) (.blk 1 (.seq (.reg [o 7 (.mov (.t 3)), o 8 (.mov (.t 0)), o 9 (.bin .rem (.t 8) (.k (.int .i64 128))), o 10 (.bin .add (.t 9) (.k (.int .i64 128))), o 11 (.cvi .u8 (.t 10)), o 12 (.lit 1 1 [(.int .u8 0)] [(0, 1, (.t 11))]), o 13 (.app 1 1 [(.int .u8 0)] (.t 7) (.t 12)), o 3 (.mov (.t 13))]) (.reg [o 14 (.mov (.t 0)), o 15 (.bin .quo (.t 14) (.k (.int .i64 128))), o 0 (.mov (.t 15))])))))) (.seq (.reg [o 16 (.mov (.t 3)), o 17 (.mov (.t 0)), o 18 (.cvi .u8 (.t 17)), o 19 (.lit 1 1 [(.int .u8 0)] [(0, 1, (.t 18))]), o 20 (.app 1 1 [(.int .u8 0)] (.t 16) (.t 19)), o 21 (.bts (.t 20)), o 2 (.mov (.t 21))]) .ret))))⟩
theorem ir_s_l01Var : compFn Try.prog n_s_l01Var = some F_s_l01Var := by kernel_rfl
abbrev n_s_l05Short : Nat := 72
def F_s_l05Short : Fn1 := ⟨8, [.t 2], (.seq (.reg [o 2 (.mov (.k (.str ⟨#[]⟩)))]) (.seq (.reg [o 3 (.mov (.t 0)), o 4 (.len true (.t 3)), o 5 (.call 71 [(.t 4)]), o 6 (.mov (.t 0)), o 7 (.bin .add (.t 5) (.t 6)), o 2 (.mov (.t 7))]) .ret))⟩
theorem ir_s_l05Short : compFn Try.prog n_s_l05Short = some F_s_l05Short := by kernel_rfl
abbrev n_i_VarText : Nat := 111
def F_i_VarText : Fn1 := ⟨26, [.t 2, .t 3], (.seq (.reg [o 2 (.mov (.k (.str ⟨#[]⟩))), o 3 (.mov (.k (.bool false)))]) (.seq (.seq (.reg [o 5 (.mov (.t 0)), o 6 (.call 65 [(.t 5), (.k (.int .i64 0)), (.k (.int .i64 1000000000))]), o 7 (.un .not (.t 6))]) (.cnd (.t 7) (.seq (.reg [o 2 (.mov (.k (.str ⟨#[]⟩))), o 3 (.mov (.k (.bool false)))]) .ret) .skip)) (.seq (.reg [o 8 (.lit 1 0 [] []), o 4 (.mov (.t 8))]) (.seq (.blk 0 (.lop (.seq (.seq (.reg [o 9 (.mov (.t 0)), o 10 (.bin .gtr (.t 9) (.k (.int .i64 127)))]) (.cnd (.t 10) .skip (.ext 0))) (.blk 1 (.seq (.reg [o 11 (.mov (.t 4)), o 12 (.mov (.t 0)), o 13 (.bin .rem (.t 12) (.k (.int .i64 128))), o 14 (.bin .add (.t 13) (.k (.int .i64 128))), o 15 (.cvi .u8 (.t 14)), o 16 (.lit 1 1 [(.int .u8 0)] [(0, 1, (.t 15))]), o 17 (.app 1 1 [(.int .u8 0)] (.t 11) (.t 16)), o 4 (.mov (.t 17))]) (.reg [o 18 (.mov (.t 0)), o 19 (.bin .quo (.t 18) (.k (.int .i64 128))), o 0 (.mov (.t 19))])))))) (.seq (.reg [o 20 (.mov (.t 4)), o 21 (.mov (.t 0)), o 22 (.cvi .u8 (.t 21)), o 23 (.lit 1 1 [(.int .u8 0)] [(0, 1, (.t 22))]), o 24 (.app 1 1 [(.int .u8 0)] (.t 20) (.t 23)), o 25 (.bts (.t 24)), o 2 (.mov (.t 25)), o 3 (.mov (.k (.bool true)))]) .ret)))))⟩
theorem ir_i_VarText : compFn Try.prog n_i_VarText = some F_i_VarText := by kernel_rfl
abbrev n_i_ShortText : Nat := 112
def F_i_ShortText : Fn1 := ⟨18, [.t 2, .t 3], (.seq (.reg [o 2 (.mov (.k (.str ⟨#[]⟩))), o 3 (.mov (.k (.bool false)))]) (.seq (.seq (.reg [o 6 (.mov (.t 0)), o 7 (.len true (.t 6)), o 8 (.bin .gtr (.t 7) (.k (.int .i64 20000)))]) (.cnd (.t 8) (.seq (.reg [o 2 (.mov (.k (.str ⟨#[]⟩))), o 3 (.mov (.k (.bool false)))]) .ret) .skip)) (.seq (.reg [o 10 (.mov (.t 0)), o 11 (.len true (.t 10)), o 12 (.call 111 [(.t 11)]), o 9 (.mov (.t 12)), o 13 (.ext 0 (.t 9)), o 14 (.ext 1 (.t 9)), o 4 (.mov (.t 13)), o 5 (.mov (.t 14))]) (.seq (.reg [o 15 (.mov (.t 4)), o 16 (.mov (.t 0)), o 17 (.bin .add (.t 15) (.t 16)), o 2 (.mov (.t 17)), o 3 (.mov (.k (.bool true)))]) .ret))))⟩
theorem ir_i_ShortText : compFn Try.prog n_i_ShortText = some F_i_ShortText := by kernel_rfl
abbrev n_i_varTexts : Nat := 73
def F_i_varTexts : Fn1 := ⟨24, [.t 2], (.seq (.reg [o 2 (.mov (.k (.str ⟨#[]⟩)))]) (.seq (.reg [o 3 (.mov (.k (.str ⟨#[]⟩)))]) (.seq (.seq (.reg [o 8 (.mov (.t 0)), o 9 (.len false (.t 8)), o 10 (.mov (.k (.int .i64 0)))]) (.blk 0 (.lop (.seq (.reg [o 11 (.bin .lss (.t 10) (.t 9))]) (.seq (.cnd (.t 11) .skip (.ext 0)) (.seq (.blk 1 (.seq (.reg [o 12 (.iad 1 (.t 8) (.t 10)), o 13 (.ld false 1 (.t 12)), o 5 (.mov (.t 13))]) (.seq (.reg [o 15 (.mov (.t 5)), o 16 (.call 111 [(.t 15)]), o 14 (.mov (.t 16)), o 17 (.ext 0 (.t 14)), o 18 (.ext 1 (.t 14)), o 6 (.mov (.t 17)), o 7 (.mov (.t 18))]) (.reg [o 19 (.mov (.t 3)), o 20 (.mov (.t 6)), o 21 (.bin .add (.t 19) (.t 20)), o 3 (.mov (.t 21))])))) (.reg [o 22 (.bin .add (.t 10) (.k (.int .i64 1))), o 10 (.mov (.t 22))]))))))) (.seq (.reg [o 23 (.mov (.t 3)), o 2 (.mov (.t 23))]) .ret))))⟩
theorem ir_i_varTexts : compFn Try.prog n_i_varTexts = some F_i_varTexts := by kernel_rfl
abbrev n_i_shortTexts : Nat := 74
def F_i_shortTexts : Fn1 := ⟨24, [.t 2], (.seq (.reg [o 2 (.mov (.k (.str ⟨#[]⟩)))]) (.seq (.reg [o 3 (.mov (.k (.str ⟨#[]⟩)))]) (.seq (.seq (.reg [o 8 (.mov (.t 0)), o 9 (.len false (.t 8)), o 10 (.mov (.k (.int .i64 0)))]) (.blk 0 (.lop (.seq (.reg [o 11 (.bin .lss (.t 10) (.t 9))]) (.seq (.cnd (.t 11) .skip (.ext 0)) (.seq (.blk 1 (.seq (.reg [o 12 (.iad 1 (.t 8) (.t 10)), o 13 (.ld false 1 (.t 12)), o 5 (.mov (.t 13))]) (.seq (.reg [o 15 (.mov (.t 5)), o 16 (.call 112 [(.t 15)]), o 14 (.mov (.t 16)), o 17 (.ext 0 (.t 14)), o 18 (.ext 1 (.t 14)), o 6 (.mov (.t 17)), o 7 (.mov (.t 18))]) (.reg [o 19 (.mov (.t 3)), o 20 (.mov (.t 6)), o 21 (.bin .add (.t 19) (.t 20)), o 3 (.mov (.t 21))])))) (.reg [o 22 (.bin .add (.t 10) (.k (.int .i64 1))), o 10 (.mov (.t 22))]))))))) (.seq (.reg [o 23 (.mov (.t 3)), o 2 (.mov (.t 23))]) .ret))))⟩
theorem ir_i_shortTexts : compFn Try.prog n_i_shortTexts = some F_i_shortTexts := by kernel_rfl
theorem vb_len5 (n : Nat) (h : n < 34359738368) : (vb n).length ≤ 5 := by
  have s1 : ∀ m, m ≤ 127 → (vb m).length = 1 := fun m hm => by rw [vb, if_neg (by omega)]; rfl
  have st : ∀ (c : Nat) (k : Nat), (∀ m, m < c → (vb m).length ≤ k) → 128 ≤ c → ∀ m, m < 128 * c → (vb m).length ≤ k + 1 := fun c k hk hc m hm => by
    by_cases hb : m > 127
    · rw [vb, if_pos hb, List.length_cons]
      have := hk (m / 128) (by omega); omega
    · have := s1 m (by omega); omega
  have h1 : ∀ m, m < 128 → (vb m).length ≤ 1 := fun m hm => by have := s1 m (by omega); omega
  have h2 := st 128 1 h1 (by omega)
  have h3 := st (128 * 128) 2 h2 (by omega)
  have h4 := st (128 * (128 * 128)) 3 h3 (by omega)
  exact st (128 * (128 * (128 * 128))) 4 h4 (by omega) n (by omega)
theorem u8_at {σ : St} {v : GV} {l : List Int} (h : RS pB.kd σ v l) : ((elems σ 1 v).bind fun r => (bytesOf r.2).map fun bs => GV.str ⟨bs.toArray⟩) = some (.str (txt l)) := bts_ok h
theorem Hp.app_u8 {σ τ : St} {rs : List Thg} {v : GV} {l : List Int} (H : Hp σ τ rs) (i : Nat) (hi : rs[i]? = some (ow pB.kd v l)) (x : Int) (hb : (l.length + 1) * 1 ≤ 140737488355328) : ∃ v' τ', appV 1 1 (τ ++ [some (.row 1 [.int .u8 x])]) v (.sl τ.length 0 1) = some (v', τ') ∧ Hp σ τ' (rs.set i (ow pB.kd v' (l ++ [x]))) := H.app1 i hi x (by decide) hb
theorem vb_step {m : Nat} (h : 127 < m) (a : List Int) : (a ++ [((m % 128 + 128 : Nat) : Int)]) ++ vb (m / 128) = a ++ vb m := by
  conv => rhs; rw [vb, if_pos h]
  simp
theorem s_l01Var_ret (σ : St) (n : Nat) (hn : n ≤ 1099511627776) : Ret Try.prog n_s_l01Var [gi n] σ (.str (txt (vb n))) σ := by
  refine ret_eq ir_s_l01Var (Nat.le_of_ble_eq_true rfl) trivial ?_
  simp +contextual (disch := omega) only [go_sem, Nat.reduceEqDiff, ↓reduceIte, Int.reduceEq, Int.reduceNeg, wrap_add, F_s_l01Var]
  refine vc_lop (fun k env τ => ∃ (v : GV) (acc : List Int), k ≤ n ∧ env 0 = gi k ∧ env 3 = v ∧ Hp σ τ [ow pB.kd v acc] ∧ acc.length + k ≤ n ∧ acc ++ vb k = vb n) n ⟨_, [], Nat.le_refl _, rfl, rfl, (Hp.refl σ).newNil pB.kd, by simp, rfl⟩ ?_
  rintro k env τ ⟨v, acc, hk, e0, e3, H, hacc, hv⟩
  by_cases hc : 127 < k
  · have d1 : decide (127 < (k : Int)) = true := decide_eq_true (by omega)
    have e1 : ((k % 128 : Nat) : Int) + 128 = ((k % 128 + 128 : Nat) : Int) := by omega
    obtain ⟨v', τ', e, H⟩ := H.app_u8 0 rfl (((k % 128 : Nat) : Int) + 128) (by omega)
    have hw : IntKind.u8.wrap (((k % 128 : Nat) : Int) + 128) = ((k % 128 : Nat) : Int) + 128 := wrap8 (by omega) (by omega)
    simp +contextual (disch := omega) only [go_sem, Nat.reduceEqDiff, ↓reduceIte, Int.reduceEq, Int.reduceNeg, wrap_add, e0, e3, d1, lit_ne, tmod128, tdiv128, hw, e]
    have H : Hp σ τ' [ow pB.kd v' (acc ++ [((k % 128 : Nat) : Int) + 128])] := H
    rw [e1] at H
    exact ⟨k / 128, by omega, v', acc ++ [((k % 128 + 128 : Nat) : Int)], by omega, rfl, rfl, H, by simp; omega, by rw [vb_step hc]; exact hv⟩
  · have d1 : decide (127 < (k : Int)) = false := decide_eq_false (by omega)
    have hw : IntKind.u8.wrap (k : Int) = k := wrap8 (by omega) (by omega)
    obtain ⟨v', τ', e, H⟩ := H.app_u8 0 rfl (k : Int) (by omega)
    have hs : vb k = [(k : Int)] := by rw [vb, if_neg hc]
    simp +contextual (disch := omega) only [go_sem, Nat.reduceEqDiff, ↓reduceIte, Int.reduceEq, Int.reduceNeg, wrap_add, e0, e3, d1, hw, e, u8_at (H.sl 0 rfl), H.sub]
    rw [← hs, hv]
theorem s_l05Short_ret (σ : St) (s : ByteArray) (hs : s.size ≤ 1099511627776) : Ret Try.prog n_s_l05Short [.str s] σ (.str (txt (vb s.size) ++ s)) σ := by
  have := vb_length s.size
  have hle : (vb s.size).length + s.size ≤ 9223372036854775807 := by omega
  refine ret_eq ir_s_l05Short (Nat.le_of_ble_eq_true rfl) trivial ?_
  simp +contextual (disch := omega) only [go_sem, Nat.reduceEqDiff, ↓reduceIte, Int.reduceEq, Int.reduceNeg, wrap_add, F_s_l05Short]
  refine by_ret (s_l01Var_ret σ s.size hs) ?_
  simp +contextual (disch := omega) only [go_sem, Nat.reduceEqDiff, ↓reduceIte, Int.reduceEq, Int.reduceNeg, wrap_add, txt_size, hle]
/-- The text of a number; nothing for one that has none. -/
def varTx (n : Int) : ByteArray := if inB n 0 1000000000 then txt (vb n.toNat) else ⟨#[]⟩
theorem varTx_size (n : Int) : (varTx n).size ≤ 5 := by
  unfold varTx
  split
  · rename_i h
    have := inB_iff.1 h
    rw [txt_size]; exact vb_len5 _ (by omega)
  · decide
theorem varTx_nat {n : Nat} (h : n ≤ 1000000000) : varTx n = txt (vb n) := by
  unfold varTx
  rw [if_pos (inB_iff.2 (by omega))]; rfl
def shortTx (s : ByteArray) : ByteArray := if s.size ≤ 20000 then txt (vb s.size) ++ s else ⟨#[]⟩
theorem shortTx_size (s : ByteArray) : (shortTx s).size ≤ 20005 := by
  unfold shortTx
  split
  · rw [ByteArray.size_append, txt_size]
    have := vb_len5 s.size (by omega); omega
  · decide
theorem i_VarText_ret (σ : St) (n : Int) : Ret Try.prog n_i_VarText [gi n] σ (.tup [.str (varTx n), .bool (inB n 0 1000000000)]) σ := by
  refine ret_eq ir_i_VarText (Nat.le_of_ble_eq_true rfl) (by intro v hv; simp at hv; rcases hv with rfl | rfl <;> trivial) ?_
  simp +contextual (disch := omega) only [go_sem, Nat.reduceEqDiff, ↓reduceIte, Int.reduceEq, Int.reduceNeg, wrap_add, F_i_VarText]
  refine by_bool (i_within_ret _ _ _ _) (fun hi => ?_) (fun hi => ?_)
  · have hn := inB_iff.1 hi
    obtain ⟨m, rfl⟩ : ∃ m : Nat, n = m := ⟨n.toNat, by omega⟩
    simp +contextual (disch := omega) only [go_sem, Nat.reduceEqDiff, ↓reduceIte, Int.reduceEq, Int.reduceNeg, wrap_add, List.append_nil]
    refine vc_lop (fun k env τ => ∃ (v : GV) (acc : List Int), k ≤ m ∧ env 0 = gi k ∧ env 4 = v ∧ Hp σ τ [ow pB.kd v acc] ∧ acc.length + k ≤ m ∧ acc ++ vb k = vb m) m ⟨_, [], Nat.le_refl _, rfl, rfl, (Hp.refl σ).newNil pB.kd, by simp, rfl⟩ ?_
    rintro k env τ ⟨v, acc, hk, e0, e4, H, hacc, hv⟩
    by_cases hc : 127 < k
    · have d1 : decide (127 < (k : Int)) = true := decide_eq_true (by omega)
      have e1 : ((k % 128 : Nat) : Int) + 128 = ((k % 128 + 128 : Nat) : Int) := by omega
      obtain ⟨v', τ', e, H⟩ := H.app_u8 0 rfl (((k % 128 : Nat) : Int) + 128) (by omega)
      have hw : IntKind.u8.wrap (((k % 128 : Nat) : Int) + 128) = ((k % 128 : Nat) : Int) + 128 := wrap8 (by omega) (by omega)
      simp +contextual (disch := omega) only [go_sem, Nat.reduceEqDiff, ↓reduceIte, Int.reduceEq, Int.reduceNeg, wrap_add, e0, e4, d1, lit_ne, tmod128, tdiv128, hw, e]
      have H : Hp σ τ' [ow pB.kd v' (acc ++ [((k % 128 : Nat) : Int) + 128])] := H
      rw [e1] at H
      exact ⟨k / 128, by omega, v', acc ++ [((k % 128 + 128 : Nat) : Int)], by omega, rfl, rfl, H, by simp; omega, by rw [vb_step hc]; exact hv⟩
    · have d1 : decide (127 < (k : Int)) = false := decide_eq_false (by omega)
      have hw : IntKind.u8.wrap (k : Int) = k := wrap8 (by omega) (by omega)
      obtain ⟨v', τ', e, H⟩ := H.app_u8 0 rfl (k : Int) (by omega)
      have hs : vb k = [(k : Int)] := by rw [vb, if_neg hc]
      simp +contextual (disch := omega) only [go_sem, Nat.reduceEqDiff, ↓reduceIte, Int.reduceEq, Int.reduceNeg, wrap_add, e0, e4, d1, hw, e, u8_at (H.sl 0 rfl), H.sub, tup2_ok, notTup, ← hs, hv]
      rw [hi, varTx_nat (by omega)]
  · simp +contextual (disch := omega) only [go_sem, Nat.reduceEqDiff, ↓reduceIte, Int.reduceEq, Int.reduceNeg, wrap_add, tup2_ok, notTup]
    rw [hi]
    simp [varTx, hi, tup2, notTup]
theorem i_ShortText_ret (σ : St) (s : ByteArray) (hs : s.size ≤ 1099511627776) : Ret Try.prog n_i_ShortText [.str s] σ (.tup [.str (shortTx s), .bool (decide (s.size ≤ 20000))]) σ := by
  refine ret_eq ir_i_ShortText (Nat.le_of_ble_eq_true rfl) (by intro v hv; simp at hv; rcases hv with rfl | rfl <;> trivial) ?_
  by_cases hc : s.size ≤ 20000
  · have d1 : decide (20000 < (s.size : Int)) = false := decide_eq_false (by omega)
    have h5 := vb_len5 s.size (by omega)
    have hle : (vb s.size).length + s.size ≤ 9223372036854775807 := by omega
    simp +contextual (disch := omega) only [go_sem, Nat.reduceEqDiff, ↓reduceIte, Int.reduceEq, Int.reduceNeg, wrap_add, F_i_ShortText, d1]
    refine by_ret (i_VarText_ret σ s.size) ?_
    simp +contextual (disch := omega) only [go_sem, Nat.reduceEqDiff, ↓reduceIte, Int.reduceEq, Int.reduceNeg, wrap_add, varTx_nat (show s.size ≤ 1000000000 by omega), txt_size, hle, tup2_ok, notTup]
    simp [shortTx, hc, tup2, notTup]
  · have d1 : decide (20000 < (s.size : Int)) = true := decide_eq_true (by omega)
    simp +contextual (disch := omega) only [go_sem, Nat.reduceEqDiff, ↓reduceIte, Int.reduceEq, Int.reduceNeg, wrap_add, F_i_ShortText, d1]
    simp [shortTx, hc, tup2, notTup]
/-- Texts one behind the other. -/
def catS (l : List ByteArray) : ByteArray := l.foldl (· ++ ·) ⟨#[]⟩
theorem catS_snoc (l : List ByteArray) (s : ByteArray) : catS (l ++ [s]) = catS l ++ s := by simp [catS]
theorem catS_size {l : List ByteArray} {k : Nat} (h : ∀ s ∈ l, s.size ≤ k) : (catS l).size ≤ l.length * k := by
  have key : ∀ (l : List ByteArray) (a : ByteArray), (∀ s ∈ l, s.size ≤ k) → (l.foldl (· ++ ·) a).size ≤ a.size + l.length * k := by
    intro l
    induction l with
    | nil => intro a _; simp
    | cons s l ih =>
      intro a hs
      have h1 := ih (a ++ s) fun x hx => hs x (List.mem_cons_of_mem _ hx)
      have h2 := hs s List.mem_cons_self
      rw [ByteArray.size_append] at h1
      simp only [List.foldl_cons, List.length_cons, Nat.add_mul] at *
      omega
  have := key l ⟨#[]⟩ h
  have e : (⟨#[]⟩ : ByteArray).size = 0 := rfl
  unfold catS; omega
theorem map_snoc {α β : Type} {f : α → β} {l : List α} {i : Nat} (h : i < l.length) : (l.take (i + 1)).map f = (l.take i).map f ++ [f l[i]] := by rw [take_snoc h, List.map_append]; rfl
theorem i_varTexts_ret (σ : St) (v : GV) (l : List Int) (h : RS pI.kd σ v l) (hl : l.length ≤ 1099511627776) : Ret Try.prog n_i_varTexts [v] σ (.str (catS (l.map varTx))) σ := by
  refine ret_eq ir_i_varTexts (Nat.le_of_ble_eq_true rfl) trivial ?_
  simp +contextual (disch := omega) only [go_sem, Nat.reduceEqDiff, ↓reduceIte, Int.reduceEq, Int.reduceNeg, wrap_add, F_i_varTexts, h.len]
  refine vc_for l.length 10 (fun i env τ => env 8 = v ∧ env 9 = gi l.length ∧ env 3 = .str (catS ((l.take i).map varTx)) ∧ σ <+: τ) rfl ⟨rfl, rfl, rfl, List.prefix_refl _⟩ ?_ ?_
  · rintro i env τ hi e10 c0 ⟨e8, e9, e3, hp⟩
    have hsz : (catS ((l.take i).map varTx)).size ≤ i * 5 := by
      have := catS_size (l := (l.take i).map varTx) (k := 5) (by intro s hs; obtain ⟨x, _, rfl⟩ := List.mem_map.1 hs; exact varTx_size x)
      rw [List.length_map, List.length_take] at this; omega
    have hv := varTx_size l[i]
    have hle : (catS ((l.take i).map varTx)).size + (varTx l[i]).size ≤ 9223372036854775807 := by omega
    simp +contextual (disch := omega) only [go_sem, Nat.reduceEqDiff, ↓reduceIte, Int.reduceEq, Int.reduceNeg, wrap_add, c0, e8, e9, e3, e10, int_at (h.pre hp) hi]
    refine by_ret (i_VarText_ret τ l[i]) ?_
    simp +contextual (disch := omega) only [go_sem, Nat.reduceEqDiff, ↓reduceIte, Int.reduceEq, Int.reduceNeg, wrap_add, e8, e9, e3, e10, hle, hp, map_snoc hi, catS_snoc]
  · rintro env τ e10 c0 ⟨e8, e9, e3, hp⟩
    rw [List.take_length] at e3
    simp +contextual (disch := omega) only [go_sem, Nat.reduceEqDiff, ↓reduceIte, Int.reduceEq, Int.reduceNeg, wrap_add, c0, e8, e9, e3, e10, hp]
theorem i_shortTexts_ret (σ : St) (v : GV) (l : List ByteArray) (h : RS pS.kd σ v l) (hl : l.length ≤ 1099511627776) (hs : ∀ s ∈ l, s.size ≤ 1099511627776) : Ret Try.prog n_i_shortTexts [v] σ (.str (catS (l.map shortTx))) σ := by
  refine ret_eq ir_i_shortTexts (Nat.le_of_ble_eq_true rfl) trivial ?_
  simp +contextual (disch := omega) only [go_sem, Nat.reduceEqDiff, ↓reduceIte, Int.reduceEq, Int.reduceNeg, wrap_add, F_i_shortTexts, h.len]
  refine vc_for l.length 10 (fun i env τ => env 8 = v ∧ env 9 = gi l.length ∧ env 3 = .str (catS ((l.take i).map shortTx)) ∧ σ <+: τ) rfl ⟨rfl, rfl, rfl, List.prefix_refl _⟩ ?_ ?_
  · rintro i env τ hi e10 c0 ⟨e8, e9, e3, hp⟩
    have hsz : (catS ((l.take i).map shortTx)).size ≤ i * 20005 := by
      have := catS_size (l := (l.take i).map shortTx) (k := 20005) (by intro s hs; obtain ⟨x, _, rfl⟩ := List.mem_map.1 hs; exact shortTx_size x)
      rw [List.length_map, List.length_take] at this
      have : min i l.length = i := by omega
      simp_all
    have hv := shortTx_size l[i]
    have hle : (catS ((l.take i).map shortTx)).size + (shortTx l[i]).size ≤ 9223372036854775807 := by omega
    simp +contextual (disch := omega) only [go_sem, Nat.reduceEqDiff, ↓reduceIte, Int.reduceEq, Int.reduceNeg, wrap_add, c0, e8, e9, e3, e10, str_at (h.pre hp) hi]
    refine by_ret (i_ShortText_ret τ l[i] (hs _ (List.getElem_mem hi))) ?_
    simp +contextual (disch := omega) only [go_sem, Nat.reduceEqDiff, ↓reduceIte, Int.reduceEq, Int.reduceNeg, wrap_add, e8, e9, e3, e10, hle, hp, map_snoc hi, catS_snoc]
  · rintro env τ e10 c0 ⟨e8, e9, e3, hp⟩
    rw [List.take_length] at e3
    simp +contextual (disch := omega) only [go_sem, Nat.reduceEqDiff, ↓reduceIte, Int.reduceEq, Int.reduceNeg, wrap_add, c0, e8, e9, e3, e10, hp]
end Go.Proofs.Ytopannfdcikgiaa.Sy

/- Contracts: watches. -/
namespace Go.Proofs.Ytopannfdcikgiaa.Sy
open Go Go.RowKit
set_option linter.unusedSimpArgs false
set_option linter.unusedVariables false
abbrev n_s_WatchOk : Nat := 16
def F_s_WatchOk : Fn1 := ⟨22, [.t 2], (.seq (.reg [o 1 (.box (.t 0)), o 2 (.mov (.k (.bool false)))]) (.seq (.seq (.reg [o 3 (.fad 0 (.t 1)), o 4 (.ld false 1 (.t 3)), o 5 (.call 62 [(.t 4), (.k (.int .i64 1)), (.k (.int .i64 4))]), o 6 (.un .not (.t 5)), o 7 (.mov (.t 6)), og 8 7 false (.fad 1 (.t 1)), og 9 7 false (.ld false 1 (.t 8)), og 10 7 false (.call 63 [(.t 9)]), og 11 7 false (.un .not (.t 10)), o 12 (.pick (.t 7) (.k (.bool true)) (.t 11))]) (.cnd (.t 12) (.seq (.reg [o 2 (.mov (.k (.bool false)))]) .ret) .skip)) (.seq (.seq (.reg [o 13 (.fad 0 (.t 1)), o 14 (.ld false 1 (.t 13)), o 15 (.bin .eql (.t 14) (.k (.int .i64 3)))]) (.cnd (.t 15) (.seq (.reg [o 16 (.fad 2 (.t 1)), o 17 (.ld false 1 (.t 16)), o 18 (.call 63 [(.t 17)]), o 2 (.mov (.t 18))]) .ret) .skip)) (.seq (.reg [o 19 (.fad 2 (.t 1)), o 20 (.ld false 1 (.t 19)), o 21 (.bin .eql (.t 20) (.k (.str ⟨#[]⟩))), o 2 (.mov (.t 21))]) .ret))))⟩
theorem ir_s_WatchOk : compFn Try.prog n_s_WatchOk = some F_s_WatchOk := by kernel_rfl
abbrev n_i_WatchOk : Nat := 18
def F_i_WatchOk : Fn1 := ⟨24, [.t 2], (.seq (.reg [o 1 (.box (.t 0)), o 2 (.mov (.k (.bool false)))]) (.seq (.reg [o 4 (.fad 2 (.t 1)), o 5 (.ld false 1 (.t 4)), o 6 (.bin .eql (.t 5) (.k (.str ⟨#[]⟩))), o 3 (.mov (.t 6))]) (.seq (.seq (.reg [o 7 (.fad 0 (.t 1)), o 8 (.ld false 1 (.t 7)), o 9 (.bin .eql (.t 8) (.k (.int .i64 3)))]) (.cnd (.t 9) (.reg [o 10 (.fad 2 (.t 1)), o 11 (.ld false 1 (.t 10)), o 12 (.call 64 [(.t 11)]), o 3 (.mov (.t 12))]) .skip)) (.seq (.reg [o 13 (.fad 0 (.t 1)), o 14 (.ld false 1 (.t 13)), o 15 (.call 65 [(.t 14), (.k (.int .i64 1)), (.k (.int .i64 4))]), o 16 (.mov (.t 15)), og 17 16 true (.fad 1 (.t 1)), og 18 16 true (.ld false 1 (.t 17)), og 19 16 true (.call 64 [(.t 18)]), o 20 (.pick (.t 16) (.t 19) (.k (.bool false))), o 21 (.mov (.t 20)), og 22 21 true (.mov (.t 3)), o 23 (.pick (.t 21) (.t 22) (.k (.bool false))), o 2 (.mov (.t 23))]) .ret))))⟩
theorem ir_i_WatchOk : compFn Try.prog n_i_WatchOk = some F_i_WatchOk := by kernel_rfl
abbrev n_s_WatchText : Nat := 23
def F_s_WatchText : Fn1 := ⟨17, [.t 2], (.seq (.reg [o 1 (.box (.t 0)), o 2 (.mov (.k (.str ⟨#[]⟩)))]) (.seq (.seq (.reg [o 3 (.ld true 3 (.t 1)), o 4 (.call 16 [(.t 3)]), o 5 (.un .not (.t 4))]) (.cnd (.t 5) (.seq (.reg [o 2 (.mov (.k (.str ⟨#[]⟩)))]) .ret) .skip)) (.seq (.drw [o 6 (.fad 0 (.t 1)), o 7 (.ld false 1 (.t 6)), o 8 (.call 71 [(.t 7)]), o 9 (.fad 1 (.t 1)), o 10 (.ld false 1 (.t 9)), o 11 (.call 72 [(.t 10)]), o 12 (.bin .add (.t 8) (.t 11)), o 13 (.fad 2 (.t 1)), o 14 (.ld false 1 (.t 13)), o 15 (.call 72 [(.t 14)])] [o 16 (.bin .add (.t 12) (.t 15)), o 2 (.mov (.t 16))]) .ret)))⟩
theorem ir_s_WatchText : compFn Try.prog n_s_WatchText = some F_s_WatchText := by kernel_rfl
abbrev n_i_WatchText : Nat := 24
def F_i_WatchText : Fn1 := ⟨17, [.t 2], (.seq (.reg [o 1 (.box (.t 0)), o 2 (.mov (.k (.str ⟨#[]⟩)))]) (.seq (.seq (.reg [o 3 (.ld true 3 (.t 1)), o 4 (.call 18 [(.t 3)]), o 5 (.un .not (.t 4))]) (.cnd (.t 5) (.seq (.reg [o 2 (.mov (.k (.str ⟨#[]⟩)))]) .ret) .skip)) (.seq (.drw [o 6 (.fad 0 (.t 1)), o 7 (.ld false 1 (.t 6)), o 8 (.lit 1 1 [(.int .i64 0)] [(0, 1, (.t 7))]), o 9 (.call 73 [(.t 8)]), o 10 (.fad 1 (.t 1)), o 11 (.ld false 1 (.t 10)), o 12 (.fad 2 (.t 1)), o 13 (.ld false 1 (.t 12)), o 14 (.lit 1 2 [(.str ⟨#[]⟩), (.str ⟨#[]⟩)] [(0, 1, (.t 11)), (1, 1, (.t 13))])] [o 15 (.call 74 [(.t 14)]), o 16 (.bin .add (.t 9) (.t 15)), o 2 (.mov (.t 16))]) .ret)))⟩
theorem ir_i_WatchText : compFn Try.prog n_i_WatchText = some F_i_WatchText := by kernel_rfl
def watchKey (w : Watch) : Bool := if w.kind == 3 then nameOk w.key else decide (w.key = ⟨#[]⟩)
def watchOk (w : Watch) : Bool := inB w.kind 1 4 && (nameOk w.obj && watchKey w)
theorem s_WatchOk_ret (σ : St) (w : Watch) (ho : w.obj.size ≤ 1099511627776) (hk : w.key.size ≤ 1099511627776) : Ret Try.prog n_s_WatchOk [.agg [gi w.kind, .str w.obj, .str w.key]] σ (.bool (watchOk w)) σ := by
  refine ret_eq ir_s_WatchOk (Nat.le_of_ble_eq_true rfl) trivial ?_
  simp +contextual (disch := omega) only [go_sem, Nat.reduceEqDiff, ↓reduceIte, Int.reduceEq, Int.reduceNeg, wrap_add, F_s_WatchOk]
  refine by_bool (s_l01In_ret _ _ _ _) (fun h1 => ?_) (fun h1 => ?_)
  · simp +contextual (disch := omega) only [go_sem, Nat.reduceEqDiff, ↓reduceIte, Int.reduceEq, Int.reduceNeg, wrap_add, List.append_nil]
    refine by_bool (s_NameOk_ret _ w.obj ho) (fun h2 => ?_) (fun h2 => ?_)
    · cases h3 : (w.kind == 3) with
      | true =>
        simp +contextual (disch := omega) only [go_sem, Nat.reduceEqDiff, ↓reduceIte, Int.reduceEq, Int.reduceNeg, wrap_add, h3]
        refine by_ret (s_NameOk_ret _ w.key hk) ?_
        simp +contextual (disch := omega) only [go_sem, Nat.reduceEqDiff, ↓reduceIte, Int.reduceEq, Int.reduceNeg, wrap_add, watchOk, watchKey, h1, h2, h3]
      | false => simp +contextual (disch := omega) only [go_sem, Nat.reduceEqDiff, ↓reduceIte, Int.reduceEq, Int.reduceNeg, wrap_add, h3, watchOk, watchKey, h1, h2]
    · simp +contextual (disch := omega) only [go_sem, Nat.reduceEqDiff, ↓reduceIte, Int.reduceEq, Int.reduceNeg, wrap_add, watchOk, h1, h2]
  · simp +contextual (disch := omega) only [go_sem, Nat.reduceEqDiff, ↓reduceIte, Int.reduceEq, Int.reduceNeg, wrap_add, watchOk, h1]
theorem i_WatchOk_ret (σ : St) (w : Watch) (ho : w.obj.size ≤ 1099511627776) (hk : w.key.size ≤ 1099511627776) : Ret Try.prog n_i_WatchOk [.agg [gi w.kind, .str w.obj, .str w.key]] σ (.bool (watchOk w)) σ := by
  refine ret_eq ir_i_WatchOk (Nat.le_of_ble_eq_true rfl) trivial ?_
  cases h3 : (w.kind == 3) with
  | true =>
    simp +contextual (disch := omega) only [go_sem, Nat.reduceEqDiff, ↓reduceIte, Int.reduceEq, Int.reduceNeg, wrap_add, F_i_WatchOk, h3]
    refine by_bool (i_NameOk_ret _ w.key hk) (fun h4 => ?_) (fun h4 => ?_)
    · simp +contextual (disch := omega) only [go_sem, Nat.reduceEqDiff, ↓reduceIte, Int.reduceEq, Int.reduceNeg, wrap_add, List.append_nil]
      refine by_bool (i_within_ret _ _ _ _) (fun h1 => ?_) (fun h1 => ?_)
      · simp +contextual (disch := omega) only [go_sem, Nat.reduceEqDiff, ↓reduceIte, Int.reduceEq, Int.reduceNeg, wrap_add, List.append_nil]
        refine by_bool (i_NameOk_ret _ w.obj ho) (fun h2 => ?_) (fun h2 => ?_)
        · simp +contextual (disch := omega) only [go_sem, Nat.reduceEqDiff, ↓reduceIte, Int.reduceEq, Int.reduceNeg, wrap_add, watchOk, watchKey, h1, h2, h3, h4]
        · simp +contextual (disch := omega) only [go_sem, Nat.reduceEqDiff, ↓reduceIte, Int.reduceEq, Int.reduceNeg, wrap_add, watchOk, watchKey, h1, h2, h3, h4]
      · simp +contextual (disch := omega) only [go_sem, Nat.reduceEqDiff, ↓reduceIte, Int.reduceEq, Int.reduceNeg, wrap_add, watchOk, h1]
    · simp +contextual (disch := omega) only [go_sem, Nat.reduceEqDiff, ↓reduceIte, Int.reduceEq, Int.reduceNeg, wrap_add, List.append_nil]
      refine by_bool (i_within_ret _ _ _ _) (fun h1 => ?_) (fun h1 => ?_)
      · simp +contextual (disch := omega) only [go_sem, Nat.reduceEqDiff, ↓reduceIte, Int.reduceEq, Int.reduceNeg, wrap_add, List.append_nil]
        refine by_bool (i_NameOk_ret _ w.obj ho) (fun h2 => ?_) (fun h2 => ?_)
        · simp +contextual (disch := omega) only [go_sem, Nat.reduceEqDiff, ↓reduceIte, Int.reduceEq, Int.reduceNeg, wrap_add, watchOk, watchKey, h1, h2, h3, h4]
        · simp +contextual (disch := omega) only [go_sem, Nat.reduceEqDiff, ↓reduceIte, Int.reduceEq, Int.reduceNeg, wrap_add, watchOk, watchKey, h1, h2, h3, h4]
      · simp +contextual (disch := omega) only [go_sem, Nat.reduceEqDiff, ↓reduceIte, Int.reduceEq, Int.reduceNeg, wrap_add, watchOk, h1]
  | false =>
    simp +contextual (disch := omega) only [go_sem, Nat.reduceEqDiff, ↓reduceIte, Int.reduceEq, Int.reduceNeg, wrap_add, F_i_WatchOk, h3]
    refine by_bool (i_within_ret _ _ _ _) (fun h1 => ?_) (fun h1 => ?_)
    · simp +contextual (disch := omega) only [go_sem, Nat.reduceEqDiff, ↓reduceIte, Int.reduceEq, Int.reduceNeg, wrap_add, List.append_nil]
      refine by_bool (i_NameOk_ret _ w.obj ho) (fun h2 => ?_) (fun h2 => ?_)
      · simp +contextual (disch := omega) only [go_sem, Nat.reduceEqDiff, ↓reduceIte, Int.reduceEq, Int.reduceNeg, wrap_add, watchOk, watchKey, h1, h2, h3]
      · simp +contextual (disch := omega) only [go_sem, Nat.reduceEqDiff, ↓reduceIte, Int.reduceEq, Int.reduceNeg, wrap_add, watchOk, watchKey, h1, h2, h3]
    · simp +contextual (disch := omega) only [go_sem, Nat.reduceEqDiff, ↓reduceIte, Int.reduceEq, Int.reduceNeg, wrap_add, watchOk, h1]
theorem nameOk_size {s : ByteArray} (h : nameOk s = true) : 1 ≤ s.size ∧ s.size ≤ 8 := by
  simp only [nameOk, Bool.and_eq_true] at h
  have := inB_iff.1 h.2; omega
theorem watchOk_iff {w : Watch} (h : watchOk w = true) : (1 ≤ w.kind ∧ w.kind ≤ 4) ∧ w.obj.size ≤ 8 ∧ w.key.size ≤ 8 := by
  simp only [watchOk, Bool.and_eq_true] at h
  obtain ⟨h1, h2, h3⟩ := h
  refine ⟨inB_iff.1 h1, (nameOk_size h2).2, ?_⟩
  unfold watchKey at h3
  split at h3
  · exact (nameOk_size h3).2
  · rw [of_decide_eq_true h3]; decide
def watchTx (w : Watch) : ByteArray := if watchOk w then varTx w.kind ++ (shortTx w.obj ++ shortTx w.key) else ⟨#[]⟩
theorem s_WatchText_ret (σ : St) (w : Watch) (hl : msWatch w ≤ 1099511627776) : Ret Try.prog n_s_WatchText [.agg [gi w.kind, .str w.obj, .str w.key]] σ (.str (watchTx w)) σ := by
  unfold msWatch at hl
  refine ret_eq ir_s_WatchText (Nat.le_of_ble_eq_true rfl) trivial ?_
  simp +contextual (disch := omega) only [go_sem, Nat.reduceEqDiff, ↓reduceIte, Int.reduceEq, Int.reduceNeg, wrap_add, F_s_WatchText]
  refine by_bool (s_WatchOk_ret _ w (by omega) (by omega)) (fun h => ?_) (fun h => ?_)
  · have hw := watchOk_iff h
    obtain ⟨m, hm⟩ : ∃ m : Nat, w.kind = m := ⟨w.kind.toNat, by omega⟩
    have v1 := vb_len5 m (by omega)
    have v2 := vb_len5 w.obj.size (by omega)
    have v3 := vb_len5 w.key.size (by omega)
    simp +contextual (disch := omega) only [go_sem, Nat.reduceEqDiff, ↓reduceIte, Int.reduceEq, Int.reduceNeg, wrap_add, hm]
    refine by_ret (s_l01Var_ret _ m (by omega)) ?_
    simp +contextual (disch := omega) only [go_sem, Nat.reduceEqDiff, ↓reduceIte, Int.reduceEq, Int.reduceNeg, wrap_add, List.append_nil]
    refine by_ret (s_l05Short_ret _ w.obj (by omega)) ?_
    have hle : (vb m).length + ((vb w.obj.size).length + w.obj.size) ≤ 9223372036854775807 := by omega
    simp +contextual (disch := omega) only [go_sem, Nat.reduceEqDiff, ↓reduceIte, Int.reduceEq, Int.reduceNeg, wrap_add, ByteArray.size_append, txt_size, hle]
    refine by_ret (s_l05Short_ret _ w.key (by omega)) ?_
    have hle : (vb m).length + ((vb w.obj.size).length + w.obj.size) + ((vb w.key.size).length + w.key.size) ≤ 9223372036854775807 := by omega
    simp +contextual (disch := omega) only [go_sem, Nat.reduceEqDiff, ↓reduceIte, Int.reduceEq, Int.reduceNeg, wrap_add, ByteArray.size_append, txt_size, hle]
    rw [watchTx, if_pos h, hm, varTx_nat (by omega), shortTx, if_pos (by omega), shortTx, if_pos (by omega), ByteArray.append_assoc]
  · simp +contextual (disch := omega) only [go_sem, Nat.reduceEqDiff, ↓reduceIte, Int.reduceEq, Int.reduceNeg, wrap_add, watchTx, h]
theorem i_WatchText_ret (σ : St) (w : Watch) (hl : msWatch w ≤ 1099511627776) : Ret Try.prog n_i_WatchText [.agg [gi w.kind, .str w.obj, .str w.key]] σ (.str (watchTx w)) σ := by
  unfold msWatch at hl
  refine ret_eq ir_i_WatchText (Nat.le_of_ble_eq_true rfl) trivial ?_
  simp +contextual (disch := omega) only [go_sem, Nat.reduceEqDiff, ↓reduceIte, Int.reduceEq, Int.reduceNeg, wrap_add, F_i_WatchText]
  refine by_bool (i_WatchOk_ret _ w (by omega) (by omega)) (fun h => ?_) (fun h => ?_)
  · have hw := watchOk_iff h
    have v1 := varTx_size w.kind
    have v2 := shortTx_size w.obj
    have v3 := shortTx_size w.key
    have c1 : catS [varTx w.kind] = varTx w.kind := ByteArray.empty_append
    have c2 : catS [shortTx w.obj, shortTx w.key] = shortTx w.obj ++ shortTx w.key := by show ⟨#[]⟩ ++ shortTx w.obj ++ shortTx w.key = _; rw [show (⟨#[]⟩ : ByteArray) ++ shortTx w.obj = shortTx w.obj from ByteArray.empty_append]
    simp +contextual (disch := omega) only [go_sem, Nat.reduceEqDiff, ↓reduceIte, Int.reduceEq, Int.reduceNeg, wrap_add, List.append_nil]
    refine by_ret (i_varTexts_ret _ _ [w.kind] (RS_lit _ [w.kind] rfl rfl rfl) (by simp)) ?_
    simp +contextual (disch := omega) only [go_sem, Nat.reduceEqDiff, ↓reduceIte, Int.reduceEq, Int.reduceNeg, wrap_add, c1]
    refine by_ret (i_shortTexts_ret _ _ [w.obj, w.key] (RS_lit _ [w.obj, w.key] rfl rfl rfl) (by simp) (by simp; omega)) ?_
    have hle : (varTx w.kind).size + ((shortTx w.obj).size + (shortTx w.key).size) ≤ 9223372036854775807 := by omega
    simp +contextual (disch := omega) only [go_sem, Nat.reduceEqDiff, ↓reduceIte, Int.reduceEq, Int.reduceNeg, wrap_add, c2, ByteArray.size_append, hle, watchTx, h, pre_app pre2]
  · simp +contextual (disch := omega) only [go_sem, Nat.reduceEqDiff, ↓reduceIte, Int.reduceEq, Int.reduceNeg, wrap_add, watchTx, h]
end Go.Proofs.Ytopannfdcikgiaa.Sy

/- Contracts of the laws' own functions: HszWatch. -/
namespace Go.Proofs.Ytopannfdcikgiaa.Sy
open Go Go.RowKit
set_option linter.unusedSimpArgs false
set_option linter.unusedVariables false
abbrev n_l_szWatch : Nat := 15
def F_l_szWatch : Fn1 := ⟨20, [.t 4], (.seq (.reg [o 2 (.box (.t 0)), o 4 (.mov (.k (.int .i64 0)))]) (.seq (.reg [o 5 (.mov (.t 1)), o 6 (.fad 1 (.t 2)), o 7 (.ld false 1 (.t 6)), o 8 (.len true (.t 7)), o 9 (.bin .sub (.t 5) (.t 8)), o 1 (.mov (.t 9))]) (.seq (.seq (.reg [o 10 (.mov (.t 1)), o 11 (.bin .lss (.t 10) (.k (.int .i64 0)))]) (.cnd (.t 11) (.seq (.reg [o 4 (.mov (.k (.int .i64 (-1))))]) .ret) .skip)) (.seq (.reg [o 12 (.mov (.t 1)), o 13 (.fad 2 (.t 2)), o 14 (.ld false 1 (.t 13)), o 15 (.len true (.t 14)), o 16 (.bin .sub (.t 12) (.t 15)), o 1 (.mov (.t 16))]) (.seq (.seq (.reg [o 17 (.mov (.t 1)), o 18 (.bin .lss (.t 17) (.k (.int .i64 0)))]) (.cnd (.t 18) (.seq (.reg [o 4 (.mov (.k (.int .i64 (-1))))]) .ret) .skip)) (.seq (.reg [o 19 (.mov (.t 1)), o 4 (.mov (.t 19))]) .ret))))))⟩
theorem ir_l_szWatch : compFn Try.prog n_l_szWatch = some F_l_szWatch := by kernel_rfl
theorem l_szWatch_ret (σ : St) (x : Watch) (n : Int) (hw : wWatch x) (h0 : 0 ≤ n) (h1 : n ≤ 1099511627776) : Ret Try.prog n_l_szWatch [.agg [.int .i64 x.kind, .str x.obj, .str x.key], gi n] σ (gi (lf n (msWatch x))) σ := by
  obtain ⟨w0, w1⟩ := hw
  refine ret_eq ir_l_szWatch (Nat.le_of_ble_eq_true rfl) trivial ?_
  simp +contextual (disch := omega) only [go_sem, Nat.reduceEqDiff, ↓reduceIte, Int.reduceEq, Int.reduceNeg, wrap_add, F_l_szWatch, List.append_nil]
  refine ⟨fun hn => ?_, fun hn => ?_⟩
  · have hn := of_decide_eq_true hn
    unfold msWatch lf; rw [if_pos (by omega)]
  have hn := of_decide_eq_false hn
  try simp (disch := omega) only [wrap_add]
  refine ⟨fun hn => ?_, fun hn => ?_⟩
  · have hn := of_decide_eq_true hn
    unfold msWatch lf; rw [if_pos (by omega)]
  have hn := of_decide_eq_false hn
  try simp (disch := omega) only [wrap_add]
  unfold msWatch; rw [show lf n (x.obj.size + x.key.size) = n - ((x.obj.size + x.key.size : Nat) : Int) by unfold lf; rw [if_neg (by omega)]]; try omega
end Go.Proofs.Ytopannfdcikgiaa.Sy

/- Contracts of the laws' own functions: HtoWatch. -/
namespace Go.Proofs.Ytopannfdcikgiaa.Sy
open Go Go.RowKit
set_option linter.unusedSimpArgs false
set_option linter.unusedVariables false
abbrev n_l_toWatch : Nat := 17
def F_l_toWatch : Fn1 := ⟨14, [.c 2 true 3], (.seq (.reg [o 1 (.box (.t 0)), o 2 (.new [(.int .i64 0), (.str ⟨#[]⟩), (.str ⟨#[]⟩)])]) (.seq (.reg [o 3 (.new [(.int .i64 0), (.str ⟨#[]⟩), (.str ⟨#[]⟩)])]) (.seq (.reg [o 4 (.fad 0 (.t 1)), o 5 (.ld false 1 (.t 4)), o 6 (.fad 0 (.t 3)), on (.st 1 (.t 6) (.t 5))]) (.seq (.reg [o 7 (.fad 1 (.t 1)), o 8 (.ld false 1 (.t 7)), o 9 (.fad 1 (.t 3)), on (.st 1 (.t 9) (.t 8))]) (.seq (.reg [o 10 (.fad 2 (.t 1)), o 11 (.ld false 1 (.t 10)), o 12 (.fad 2 (.t 3)), on (.st 1 (.t 12) (.t 11))]) (.seq (.reg [o 13 (.ld true 3 (.t 3)), on (.st 3 (.t 2) (.t 13))]) .ret))))))⟩
theorem ir_l_toWatch : compFn Try.prog n_l_toWatch = some F_l_toWatch := by kernel_rfl
theorem l_toWatch_ret (σ : St) (x : Watch) : Ret Try.prog n_l_toWatch [.agg [.int .i64 x.kind, .str x.obj, .str x.key]] σ (.agg [.int .i64 x.kind, .str x.obj, .str x.key]) σ := by
  refine ret_eq ir_l_toWatch (Nat.le_of_ble_eq_true rfl) (by simp [vLt, cLt, sLt]) ?_
  simp +contextual (disch := omega) only [go_sem, Nat.reduceEqDiff, ↓reduceIte, Int.reduceEq, Int.reduceNeg, wrap_add, F_l_toWatch]
end Go.Proofs.Ytopannfdcikgiaa.Sy

/- From what an argument can hold to sizes. -/
namespace Go.Proofs.Ytopannfdcikgiaa.Sy
open Go Go.RowKit
theorem zStrS_w {x : List ByteArray} (h : ((x).length ≤ 9223372036854775807 ∧ ∀ y4 ∈ x, (y4).size ≤ 9223372036854775807)) : x.length ≤ 9223372036854775807 ∧ ∀ y ∈ x, wString y := ⟨h.1, fun y hy => h.2 y hy⟩
theorem zIntSS_w {x : List (List Int)} (h : ((x).length ≤ 9223372036854775807 ∧ ∀ y5 ∈ x, ((y5).length ≤ 9223372036854775807 ∧ ∀ y4 ∈ y5, I64 (y4)))) : x.length ≤ 9223372036854775807 ∧ ∀ y ∈ x, wIntS y := ⟨h.1, fun y hy => (h.2 y hy).1⟩
theorem zTally_w {x : Tally} (h : zTally x) : wTally x := h.1
theorem zTallyS_w {x : List Tally} (h : ((x).length ≤ 9223372036854775807 ∧ ∀ y6 ∈ x, zTally (y6))) : x.length ≤ 9223372036854775807 ∧ ∀ y ∈ x, wTally y := ⟨h.1, fun y hy => zTally_w (h.2 y hy)⟩
theorem zLive_w {x : Live} (h : zLive x) : wLive x := ⟨h.2.1, h.2.2.1⟩
theorem zLiveS_w {x : List Live} (h : ((x).length ≤ 9223372036854775807 ∧ ∀ y5 ∈ x, zLive (y5))) : x.length ≤ 9223372036854775807 ∧ ∀ y ∈ x, wLive y := ⟨h.1, fun y hy => zLive_w (h.2 y hy)⟩
theorem zCell_w {x : Cell} (h : zCell x) : wCell x := h.1
theorem zCellS_w {x : List Cell} (h : ((x).length ≤ 9223372036854775807 ∧ ∀ y5 ∈ x, zCell (y5))) : x.length ≤ 9223372036854775807 ∧ ∀ y ∈ x, wCell y := ⟨h.1, fun y hy => zCell_w (h.2 y hy)⟩
theorem zEdit_w {x : Edit} (h : zEdit x) : wEdit x := ⟨h.2.1, h.2.2.1⟩
theorem zEditS_w {x : List Edit} (h : ((x).length ≤ 9223372036854775807 ∧ ∀ y5 ∈ x, zEdit (y5))) : x.length ≤ 9223372036854775807 ∧ ∀ y ∈ x, wEdit y := ⟨h.1, fun y hy => zEdit_w (h.2 y hy)⟩
theorem zWatch_w {x : Watch} (h : zWatch x) : wWatch x := ⟨h.2.1, h.2.2⟩
theorem zWatchS_w {x : List Watch} (h : ((x).length ≤ 9223372036854775807 ∧ ∀ y6 ∈ x, zWatch (y6))) : x.length ≤ 9223372036854775807 ∧ ∀ y ∈ x, wWatch y := ⟨h.1, fun y hy => zWatch_w (h.2 y hy)⟩
theorem zClash_w {x : Clash} (h : zClash x) : wClash x := ⟨h.1, h.2⟩
theorem zClashS_w {x : List Clash} (h : ((x).length ≤ 9223372036854775807 ∧ ∀ y6 ∈ x, zClash (y6))) : x.length ≤ 9223372036854775807 ∧ ∀ y ∈ x, wClash y := ⟨h.1, fun y hy => zClash_w (h.2 y hy)⟩
theorem zFile_w {x : File} (h : zFile x) : wFile x := h.1
theorem zFileS_w {x : List File} (h : ((x).length ≤ 9223372036854775807 ∧ ∀ y5 ∈ x, zFile (y5))) : x.length ≤ 9223372036854775807 ∧ ∀ y ∈ x, wFile y := ⟨h.1, fun y hy => zFile_w (h.2 y hy)⟩
theorem zLetter_w {x : Letter} (h : zLetter x) : wLetter x := h.2
theorem zLetterS_w {x : List Letter} (h : ((x).length ≤ 9223372036854775807 ∧ ∀ y7 ∈ x, zLetter (y7))) : x.length ≤ 9223372036854775807 ∧ ∀ y ∈ x, wLetter y := ⟨h.1, fun y hy => zLetter_w (h.2 y hy)⟩
theorem zEvent_w {x : Event} (h : zEvent x) : wEvent x := zEdit_w h.2.2.2
theorem zEventS_w {x : List Event} (h : ((x).length ≤ 9223372036854775807 ∧ ∀ y6 ∈ x, zEvent (y6))) : x.length ≤ 9223372036854775807 ∧ ∀ y ∈ x, wEvent y := ⟨h.1, fun y hy => zEvent_w (h.2 y hy)⟩
theorem zAct_w {x : Act} (h : zAct x) : wAct x := ⟨h.2.2.1.1, h.2.2.2.2.1, h.2.2.2.2.2.1⟩
theorem zActS_w {x : List Act} (h : ((x).length ≤ 9223372036854775807 ∧ ∀ y4 ∈ x, zAct (y4))) : x.length ≤ 9223372036854775807 ∧ ∀ y ∈ x, wAct y := ⟨h.1, fun y hy => zAct_w (h.2 y hy)⟩
theorem zState_w {x : State} (h : zState x) : wState x := ⟨h.1.1, zTallyS_w h.2.1, zLiveS_w h.2.2.1, zCellS_w h.2.2.2⟩
theorem zStateS_w {x : List State} (h : ((x).length ≤ 9223372036854775807 ∧ ∀ y6 ∈ x, zState (y6))) : x.length ≤ 9223372036854775807 ∧ ∀ y ∈ x, wState y := ⟨h.1, fun y hy => zState_w (h.2 y hy)⟩
theorem zDelta_w {x : Delta} (h : zDelta x) : wDelta x := ⟨h.1.1, h.2.1.1, zTallyS_w h.2.2.1, zLiveS_w h.2.2.2.1, h.2.2.2.2.1.1, zCellS_w h.2.2.2.2.2⟩
theorem zDeltaS_w {x : List Delta} (h : ((x).length ≤ 9223372036854775807 ∧ ∀ y6 ∈ x, zDelta (y6))) : x.length ≤ 9223372036854775807 ∧ ∀ y ∈ x, wDelta y := ⟨h.1, fun y hy => zDelta_w (h.2 y hy)⟩
theorem zUnit__w {x : Unit_} (h : zUnit_ x) : wUnit x := ⟨zAct_w h.2.1, zDelta_w h.2.2⟩
theorem zUnitS_w {x : List Unit_} (h : ((x).length ≤ 9223372036854775807 ∧ ∀ y6 ∈ x, zUnit_ (y6))) : x.length ≤ 9223372036854775807 ∧ ∀ y ∈ x, wUnit y := ⟨h.1, fun y hy => zUnit__w (h.2 y hy)⟩
theorem zLog_w {x : Log} (h : zLog x) : wLog x := ⟨zState_w h.2.2.1, zUnitS_w h.2.2.2.1, zUnitS_w h.2.2.2.2⟩
theorem zLogS_w {x : List Log} (h : ((x).length ≤ 9223372036854775807 ∧ ∀ y4 ∈ x, zLog (y4))) : x.length ≤ 9223372036854775807 ∧ ∀ y ∈ x, wLog y := ⟨h.1, fun y hy => zLog_w (h.2 y hy)⟩
theorem zCommit_w {x : Commit} (h : zCommit x) : wCommit x := ⟨h.2.1.1, zState_w h.2.2⟩
theorem zCommitS_w {x : List Commit} (h : ((x).length ≤ 9223372036854775807 ∧ ∀ y7 ∈ x, zCommit (y7))) : x.length ≤ 9223372036854775807 ∧ ∀ y ∈ x, wCommit y := ⟨h.1, fun y hy => zCommit_w (h.2 y hy)⟩
theorem zGraph_w {x : Graph} (h : zGraph x) : wGraph x := zCommitS_w h.1
theorem zGraphS_w {x : List Graph} (h : ((x).length ≤ 9223372036854775807 ∧ ∀ y6 ∈ x, zGraph (y6))) : x.length ≤ 9223372036854775807 ∧ ∀ y ∈ x, wGraph y := ⟨h.1, fun y hy => zGraph_w (h.2 y hy)⟩
theorem zReplica_w {x : Replica} (h : zReplica x) : wReplica x := ⟨zLog_w h.2.1, zGraph_w h.2.2.1, zFile_w h.2.2.2.1, zUnitS_w h.2.2.2.2⟩
theorem zReplicaS_w {x : List Replica} (h : ((x).length ≤ 9223372036854775807 ∧ ∀ y8 ∈ x, zReplica (y8))) : x.length ≤ 9223372036854775807 ∧ ∀ y ∈ x, wReplica y := ⟨h.1, fun y hy => zReplica_w (h.2 y hy)⟩
theorem zWorld__w {x : World_} (h : zWorld_ x) : wWorld x := ⟨zReplicaS_w h.1, zLetterS_w h.2.1, h.2.2.1.1, zIntSS_w h.2.2.2⟩
theorem zWorldS_w {x : List World_} (h : ((x).length ≤ 9223372036854775807 ∧ ∀ y7 ∈ x, zWorld_ (y7))) : x.length ≤ 9223372036854775807 ∧ ∀ y ∈ x, wWorld y := ⟨h.1, fun y hy => zWorld__w (h.2 y hy)⟩
theorem zScript_w {x : Script} (h : zScript x) : wScript x := ⟨h.1.1, zEventS_w h.2.1⟩
theorem zScriptS_w {x : List Script} (h : ((x).length ≤ 9223372036854775807 ∧ ∀ y7 ∈ x, zScript (y7))) : x.length ≤ 9223372036854775807 ∧ ∀ y ∈ x, wScript y := ⟨h.1, fun y hy => zScript_w (h.2 y hy)⟩
end Go.Proofs.Ytopannfdcikgiaa.Sy

/- The law of WatchText. -/
namespace Go.Proofs.Ytopannfdcikgiaa.Sy
open Go Go.RowKit
set_option linter.unusedSimpArgs false
set_option linter.unusedVariables false
set_option maxRecDepth 4000
abbrev n_l_FnExactWatchText : Nat := 5
def F_l_FnExactWatchText : Fn1 := ⟨20, [.t 2], (.seq (.reg [o 1 (.box (.t 0)), o 2 (.mov (.k (.bool false)))]) (.seq (.reg [o 3 (.mov (.k (.int .i64 1048576)))]) (.seq (.reg [o 6 (.ld true 3 (.t 1)), o 7 (.mov (.t 3)), o 8 (.call 15 [(.t 6), (.t 7)]), o 3 (.mov (.t 8))]) (.seq (.seq (.reg [o 9 (.mov (.t 3)), o 10 (.bin .lss (.t 9) (.k (.int .i64 0)))]) (.cnd (.t 10) (.seq (.reg [o 2 (.mov (.k (.bool true)))]) .ret) .skip)) (.seq (.reg [o 11 (.ld true 3 (.t 1)), o 12 (.call 17 [(.t 11)]), o 13 (.call 23 [(.t 12)]), o 4 (.mov (.t 13))]) (.seq (.reg [o 14 (.ld true 3 (.t 1)), o 15 (.call 17 [(.t 14)]), o 16 (.call 24 [(.t 15)]), o 5 (.mov (.t 16))]) (.seq (.seq (.reg [o 17 (.mov (.t 5)), o 18 (.mov (.t 4)), o 19 (.bin .neq (.t 17) (.t 18))]) (.cnd (.t 19) (.seq (.reg [o 2 (.mov (.k (.bool false)))]) .ret) .skip)) (.seq (.reg [o 2 (.mov (.k (.bool true)))]) .ret))))))))⟩
theorem ir_l_FnExactWatchText : compFn Try.prog n_l_FnExactWatchText = some F_l_FnExactWatchText := by kernel_rfl
theorem law_WatchText (σ : St) (cs0 : List GV) (x0 : Watch) (hR0 : eWatch.R σ x0 cs0) (hw0 : zWatch x0) : ∃ r τ, Ret Try.prog n_l_FnExactWatchText [.agg cs0] σ r τ ∧ r = .bool true := by
  obtain rfl : cs0 = pWatch.enc x0 := brWatch hR0
  simp only [enc_Watch]
  refine ret_law ir_l_FnExactWatchText (Nat.le_of_ble_eq_true rfl) ?_
  have hB : σ <+: σ ++ [some (Blk.row 1 ([.int .i64 x0.kind, .str x0.obj, .str x0.key]))] := pre1 _ _
  have hb0 : rdB (σ ++ [some (Blk.row 1 ([.int .i64 x0.kind, .str x0.obj, .str x0.key]))]) (σ).length = some ([.int .i64 x0.kind, .str x0.obj, .str x0.key]) := box_rd (List.prefix_refl _)
  simp +contextual (disch := omega) only [go_sem, Nat.reduceEqDiff, ↓reduceIte, Int.reduceEq, Int.reduceNeg, wrap_add, F_l_FnExactWatchText, ld_ptr (rdB_pre (List.prefix_refl _) hb0), List.append_nil]
  refine by_ret (l_szWatch_ret _ x0 (1048576) (zWatch_w hw0) (by omega) (by omega)) ?_
  have ge0 := @lf_ge (1048576) (msWatch x0)
  have gm0 := @lf_le (1048576) (msWatch x0) (by omega)
  try simp +contextual (disch := omega) only [go_sem, Nat.reduceEqDiff, ↓reduceIte, Int.reduceEq, Int.reduceNeg, wrap_add, List.append_nil, ite_self, ne_eq, not_true_eq_false, bne_self_eq_false, beq_self_eq_true, ld_ptr (rdB_pre (List.prefix_refl _) hb0)]
  refine ⟨fun _ => hB.length_le, fun hn => ?_⟩
  have hn := of_decide_eq_false hn
  have hf0 := lf_some hn
  try simp +contextual (disch := omega) only [go_sem, Nat.reduceEqDiff, ↓reduceIte, Int.reduceEq, Int.reduceNeg, wrap_add, List.append_nil, ite_self, ne_eq, not_true_eq_false, bne_self_eq_false, beq_self_eq_true, ld_ptr (rdB_pre (List.prefix_refl _) hb0)]
  have H := Hp.refl (σ ++ [some (Blk.row 1 ([.int .i64 x0.kind, .str x0.obj, .str x0.key]))])
  try simp +contextual (disch := omega) only [go_sem, Nat.reduceEqDiff, ↓reduceIte, Int.reduceEq, Int.reduceNeg, wrap_add, List.append_nil, ite_self, ne_eq, not_true_eq_false, bne_self_eq_false, beq_self_eq_true, ld_ptr (rdB_pre H.sub hb0)]
  refine by_ret (l_toWatch_ret _ x0) ?_
  try simp +contextual (disch := omega) only [go_sem, Nat.reduceEqDiff, ↓reduceIte, Int.reduceEq, Int.reduceNeg, wrap_add, List.append_nil, ite_self, ne_eq, not_true_eq_false, bne_self_eq_false, beq_self_eq_true, ld_ptr (rdB_pre H.sub hb0)]
  refine by_ret (s_WatchText_ret _ x0 (by omega)) ?_
  have hpw := H.sub
  have H := H.restart
  try simp +contextual (disch := omega) only [go_sem, Nat.reduceEqDiff, ↓reduceIte, Int.reduceEq, Int.reduceNeg, wrap_add, List.append_nil, ite_self, ne_eq, not_true_eq_false, bne_self_eq_false, beq_self_eq_true, ld_ptr (rdB_pre (hpw.trans H.sub) hb0)]
  refine by_ret (l_toWatch_ret _ x0) ?_
  try simp +contextual (disch := omega) only [go_sem, Nat.reduceEqDiff, ↓reduceIte, Int.reduceEq, Int.reduceNeg, wrap_add, List.append_nil, ite_self, ne_eq, not_true_eq_false, bne_self_eq_false, beq_self_eq_true, ld_ptr (rdB_pre (hpw.trans H.sub) hb0)]
  refine by_ret (i_WatchText_ret _ x0 (by omega)) ?_
  try simp +contextual (disch := omega) only [go_sem, Nat.reduceEqDiff, ↓reduceIte, Int.reduceEq, Int.reduceNeg, wrap_add, List.append_nil, ite_self, ne_eq, not_true_eq_false, bne_self_eq_false, beq_self_eq_true, ld_ptr (rdB_pre (hpw.trans H.sub) hb0)]
  try simp +contextual (disch := omega) only [go_sem, Nat.reduceEqDiff, ↓reduceIte, Int.reduceEq, Int.reduceNeg, wrap_add, List.append_nil, ite_self, ne_eq, not_true_eq_false, bne_self_eq_false, beq_self_eq_true, ld_ptr (rdB_pre (hpw.trans H.sub) hb0)]
  exact (hB.trans (hpw.trans H.sub)).length_le
end Go.Proofs.Ytopannfdcikgiaa.Sy

