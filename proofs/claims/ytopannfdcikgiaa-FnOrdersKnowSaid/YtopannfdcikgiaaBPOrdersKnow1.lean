/- Texts of this proof, one behind the other. -/
import Derived.Test.YtopannfdcikgiaaBB
import Derived.Test.YtopannfdcikgiaaProg
import Derived.KernelRfl
/- Words for the laws' own functions: sizes, marks. -/
namespace Go.Proofs.Ytopannfdcikgiaa.Sy
open Go Go.RowKit
set_option linter.unusedSimpArgs false
set_option linter.unusedVariables false
/-- What is left of n when m are taken; -1 when there are not so many. -/
def lf (n : Int) (m : Nat) : Int := if n - m < 0 then -1 else n - m
theorem lf_neg {n : Int} {m : Nat} : lf n m < 0 ↔ n < m := by unfold lf; split <;> omega
theorem lf_zero {n : Int} (h : 0 ≤ n) : lf n 0 = n := by unfold lf; rw [if_neg (by omega)]; simp
theorem lf_some {n : Int} {m : Nat} (h : ¬ lf n m < 0) : lf n m = n - m := by unfold lf at *; split at h <;> first | omega | (rw [if_neg ‹_›])
theorem lf_none {n : Int} {m : Nat} (h : lf n m < 0) : lf n m = -1 := by unfold lf at *; split at h <;> first | (rw [if_pos ‹_›]) | omega
theorem lf_le {n : Int} {m : Nat} (h : 0 ≤ n) : lf n m ≤ n := by unfold lf; split <;> omega
theorem lf_ge {n : Int} {m : Nat} : -1 ≤ lf n m := by unfold lf; split <;> omega
/-- Taken one after another. -/
theorem lf_seq {n : Int} {a b : Nat} (h : ¬ lf n a < 0) : lf (lf n a) b = lf n (a + b) := by
  rw [lf_some h]; unfold lf; simp only [Int.natCast_add]
  by_cases h2 : n - a - b < 0
  · rw [if_pos h2, if_pos (by omega)]
  · rw [if_neg h2, if_neg (by omega)]; omega
theorem lf_stop {n : Int} {a b : Nat} (h : lf n a < 0) : lf n (a + b) = -1 := by
  have := lf_neg.1 h
  unfold lf; rw [if_pos (by omega)]
def msL {α : Type} (f : α → Nat) (l : List α) : Nat := l.length + (l.map f).sum
def sumL {α : Type} (f : α → Nat) (l : List α) : Nat := (l.map f).sum
theorem sumL_snoc {α : Type} {f : α → Nat} {l : List α} {i : Nat} (h : i < l.length) : sumL f (l.take (i + 1)) = sumL f (l.take i) + f l[i] := by
  unfold sumL; rw [take_snoc h, List.map_append, List.sum_append]; simp
theorem sumL_take_le {α : Type} (f : α → Nat) (l : List α) (i : Nat) : sumL f (l.take i) ≤ sumL f l := by
  have : sumL f l = sumL f (l.take i) + sumL f (l.drop i) := by
    conv => lhs; rw [← List.take_append_drop i l]
    unfold sumL; rw [List.map_append, List.sum_append]
  omega
theorem sumL_mem {α : Type} {f : α → Nat} {l : List α} {x : α} (h : x ∈ l) : f x ≤ sumL f l := by
  induction l with
  | nil => simp at h
  | cons y l ih =>
    simp only [sumL, List.map_cons, List.sum_cons] at *
    rcases List.mem_cons.1 h with rfl | h
    · omega
    · have := ih h; omega
theorem fld_zero {z i : Nat} {v : GV} : fld 0 (atz z v i) = atz z v i := by
  cases v <;> rfl
theorem reps_enc {α : Type} (p : Pl α) (x : α) (n : Nat) : reps n (p.enc x) = p.cells (List.replicate n x) := by
  unfold reps
  induction n with
  | zero => rfl
  | succ n ih =>
    rw [List.replicate_succ, List.flatten_cons, ih, List.replicate_succ]; rfl
theorem fill_step {α : Type} {l : List α} {z : α} {i : Nat} (h : i < l.length) : (l.take i ++ List.replicate (l.length - i) z).set i l[i] = l.take (i + 1) ++ List.replicate (l.length - (i + 1)) z := by
  rw [take_snoc h, List.set_append_right _ _ (by simp; omega)]
  have e1 : i - (l.take i).length = 0 := by simp; omega
  rw [e1, show l.length - i = (l.length - (i + 1)) + 1 by omega, List.replicate_succ, List.set_cons_zero, List.append_assoc]
  rfl
theorem fill_len {α : Type} {l : List α} {z : α} {i : Nat} (h : i < l.length) : i < (l.take i ++ List.replicate (l.length - i) z).length := by simp; omega
theorem fill_end {α : Type} {l : List α} {z : α} : l.take l.length ++ List.replicate (l.length - l.length) z = l := by simp
/-- Marks of a row: each takes c numbers. -/
def mkF {α : Type} (e : Int → α) (c : Nat) (k : Int) (n : Nat) : List α := (List.range n).map fun j : Nat => e (k + c * j)
theorem mkF_length {α : Type} {e : Int → α} {c : Nat} {k : Int} {n : Nat} : (mkF e c k n).length = n := by simp [mkF]
theorem mkF_get {α : Type} {e : Int → α} {c : Nat} {k : Int} {n j : Nat} (h : j < (mkF e c k n).length) : (mkF e c k n)[j] = e (k + c * j) := by simp [mkF]
theorem mark_step {α : Type} {l : List α} {e : Int → α} {c : Nat} {k : Int} {i : Nat} (h : i < l.length) : ((mkF e c k l.length).take i ++ l.drop i).set i (e (k + c * i)) = (mkF e c k l.length).take (i + 1) ++ l.drop (i + 1) := by
  have hki : i < (mkF e c k l.length).length := by rw [mkF_length]; exact h
  rw [take_snoc hki, mkF_get, List.set_append_right _ _ (by simp [mkF_length]; omega)]
  have e1 : i - ((mkF e c k l.length).take i).length = 0 := by simp [mkF_length]; omega
  rw [e1, List.drop_eq_getElem_cons h, List.set_cons_zero, List.append_assoc]
  rfl
theorem mark_len {α : Type} {l : List α} {e : Int → α} {c : Nat} {k : Int} {i : Nat} : ((mkF e c k l.length).take i ++ l.drop i).length = l.length := by simp [mkF_length]; omega
theorem mark_end {α : Type} {l : List α} {e : Int → α} {c : Nat} {k : Int} : (mkF e c k l.length).take l.length ++ l.drop l.length = mkF e c k l.length := by
  rw [List.take_of_length_le (by rw [mkF_length]; omega)]; simp
namespace Hp
/-- Cells of an element that is in hand are written. -/
theorem sts {α : Type} {p : Pl α} {σ τ : St} {rs : List Thg} {v : GV} {L : List α} {j : Nat} {y : α} (H : Hp σ τ (ow p.kd v (L.set j y) :: rs)) (hj : j < L.length) (n k : Nat) (x : GV) (y' : α) (hx : x.cells.length = n) (hn : 0 < n) (hk : k + n ≤ p.z) (hy : p.enc y' = splice (p.enc y) k x.cells) :
    ∃ τ', stG n τ (fld k (atz p.z v j)) x = some (.tup [], τ') ∧ Hp σ τ' (ow p.kd v (L.set j y') :: rs) := by
  obtain ⟨τ', e, h⟩ := H.ste 0 rfl (j := j) (by simpa using hj) n k x y' hx hn hk (by rw [List.getElem_set_self]; exact hy)
  refine ⟨τ', e, ?_⟩
  have h : Hp σ τ' (ow p.kd v ((L.set j y).set j y') :: rs) := h
  rw [List.set_set] at h; exact h
end Hp
theorem set_self {α : Type} {l : List α} {i : Nat} (h : i < l.length) : l = l.set i l[i] := by rw [List.set_getElem_self]
/-- The text of a mark. -/
def figs (n : Nat) : List Int := if n = 0 then [] else figs (n / 10) ++ [48 + ((n % 10 : Nat) : Int)]
termination_by n
decreasing_by omega
def mtx (k : Int) : ByteArray := if k ≤ 0 then ⟨#[109, 48]⟩ else ⟨#[109]⟩ ++ txt (figs k.toNat)
abbrev n_l_markText : Nat := 129
def F_l_markText : Fn1 := ⟨20, [.t 2], (.seq (.reg [o 2 (.mov (.k (.str ⟨#[]⟩)))]) (.seq (.seq (.reg [o 4 (.mov (.t 0)), o 5 (.bin .leq (.t 4) (.k (.int .i64 0)))]) (.cnd (.t 5) (.seq (.reg [o 2 (.mov (.k (.str ⟨#[109, 48]⟩)))]) .ret) .skip)) (.seq (.reg [o 3 (.mov (.k (.str ⟨#[]⟩)))]) (.seq (.blk 0 (.lop (.seq (.seq (.reg [o 6 (.mov (.t 0)), o 7 (.bin .gtr (.t 6) (.k (.int .i64 0)))]) (.cnd (.t 7) .skip (.ext 0))) (.blk 1 (.seq (.reg [o 8 (.mov (.t 0)), o 9 (.bin .rem (.t 8) (.k (.int .i64 10))), o 10 (.bin .add (.k (.int .i64 48)) (.t 9)), o 11 (.cvi .u8 (.t 10)), o 12 (.lit 1 1 [(.int .u8 0)] [(0, 1, (.t 11))]), o 13 (.bts (.t 12)), o 14 (.mov (.t 3)), o 15 (.bin .add (.t 13) (.t 14)), o 3 (.mov (.t 15))]) (.reg [o 16 (.mov (.t 0)), o 17 (.bin .quo (.t 16) (.k (.int .i64 10))), o 0 (.mov (.t 17))])))))) (.seq (.reg [o 18 (.mov (.t 3)), o 19 (.bin .add (.k (.str ⟨#[109]⟩)) (.t 18)), o 2 (.mov (.t 19))]) .ret)))))⟩
theorem ir_l_markText : compFn Try.prog n_l_markText = some F_l_markText := by kernel_rfl
theorem figs_length (n : Nat) : (figs n).length ≤ n := by
  induction n using Nat.strongRecOn with
  | _ n ih =>
    unfold figs
    split
    · simp
    · have := ih (n / 10) (by omega)
      simp; omega
theorem txt_size (l : List Int) : (txt l).size = l.length := by simp [txt, ByteArray.size]
theorem figs_app (n : Nat) (h : 0 < n) (s : List Int) : figs (n / 10) ++ ((48 + ((n % 10 : Nat) : Int)) :: s) = figs n ++ s := by
  conv => rhs; unfold figs
  rw [if_neg (by omega)]; simp
theorem bts_new {τ : St} {n : Int} : ((elems (τ ++ [some (.row 1 [.int .u8 n])]) 1 (.sl τ.length 0 1)).bind fun r => (bytesOf r.2).map fun bs => GV.str ⟨bs.toArray⟩) = some (.str (txt [n])) := by
  refine bts_ok (.inr ⟨τ.length, 0, [.int .u8 n], rfl, by unfold rdB; simp [Blk.cells], by show 0 + 1 * 1 ≤ 1; omega, fun i x hx => ?_⟩)
  cases i with
  | zero => simp at hx; subst hx; rfl
  | succ i => simp at hx
theorem l_markText_ret (σ : St) (k : Int) (hk : k ≤ 4611686018427387904) : Ret Try.prog n_l_markText [gi k] σ (.str (mtx k)) σ := by
  refine ret_eq ir_l_markText (Nat.le_of_ble_eq_true rfl) trivial ?_
  simp +contextual (disch := omega) only [go_sem, Nat.reduceEqDiff, ↓reduceIte, Int.reduceEq, Int.reduceNeg, wrap_add, F_l_markText]
  refine ⟨fun h => ?_, fun h => ?_⟩
  · rw [mtx, if_pos (of_decide_eq_true h)]
  · have h := of_decide_eq_false h
    have hf := figs_length k.toNat
    refine vc_lop (fun q env τ => ∃ (s : List Int), env 0 = gi q ∧ q ≤ k.toNat ∧ env 3 = .str (txt s) ∧ figs q ++ s = figs k.toNat ∧ σ <+: τ) k.toNat ⟨[], by show gi k = _; rw [Int.toNat_of_nonneg (by omega)], Nat.le_refl _, rfl, by simp, List.prefix_refl _⟩ ?_
    rintro m env τ ⟨s, e0, hmk, e3, hs, hp⟩
    have hsl : s.length ≤ k.toNat := by have := congrArg List.length hs; simp at this; omega
    rcases Nat.eq_zero_or_pos m with rfl | hm
    · have hs' : s = figs k.toNat := by rw [← hs, figs]; simp
      have hsz : (⟨#[109]⟩ : ByteArray).size = 1 := rfl
      have hle : 1 + s.length ≤ 9223372036854775807 := by omega
      simp +contextual (disch := omega) only [go_sem, Nat.reduceEqDiff, ↓reduceIte, Int.reduceEq, Int.reduceNeg, wrap_add, e0, e3, hp, txt_size, hsz, hle, Int.natCast_zero, Int.lt_irrefl]
      rw [mtx, if_neg h, hs']
    · have hgt : decide (0 < (m : Int)) = true := by simp; omega
      have hle : 1 + s.length ≤ 9223372036854775807 := by omega
      have hm10 : (m : Int).tmod 10 = ((m % 10 : Nat) : Int) := by rw [Int.tmod_eq_emod_of_nonneg (by omega)]; omega
      have hd10 : (m : Int).tdiv 10 = ((m / 10 : Nat) : Int) := by rw [Int.tdiv_eq_ediv_of_nonneg (by omega)]; omega
      have h10 : ((10 : Int) = 0) = False := by simp
      have hw8 : IntKind.u8.wrap (48 + ((m % 10 : Nat) : Int)) = 48 + ((m % 10 : Nat) : Int) := wrap8 (by omega) (by omega)
      simp +contextual (disch := omega) only [go_sem, Nat.reduceEqDiff, ↓reduceIte, Int.reduceEq, Int.reduceNeg, wrap_add, e0, e3, hgt, h10, hm10, hd10, hw8, hle, bts_new, txt_size, ← txt_append]
      refine ⟨m / 10, by omega, _, rfl, by omega, rfl, ?_, pre_app hp _⟩
      rw [← hs, ← figs_app m hm]
end Go.Proofs.Ytopannfdcikgiaa.Sy

/- Contracts of the laws' own functions: sizes. -/
namespace Go.Proofs.Ytopannfdcikgiaa.Sy
open Go Go.RowKit
set_option linter.unusedSimpArgs false
set_option linter.unusedVariables false
def msString (s : ByteArray) : Nat := s.size
def wString (s : ByteArray) : Prop := s.size ≤ 9223372036854775807
def msIntS (l : List Int) : Nat := l.length
def wIntS (l : List Int) : Prop := l.length ≤ 9223372036854775807
def msTally (x : Tally) : Nat := x.obj.size
def wTally (x : Tally) : Prop := x.obj.size ≤ 9223372036854775807
def msLive (x : Live) : Nat := x.obj.size + x.key.size
def wLive (x : Live) : Prop := x.obj.size ≤ 9223372036854775807 ∧ x.key.size ≤ 9223372036854775807
def msCell (x : Cell) : Nat := x.obj.size
def wCell (x : Cell) : Prop := x.obj.size ≤ 9223372036854775807
def msEdit (x : Edit) : Nat := x.obj.size + x.key.size
def wEdit (x : Edit) : Prop := x.obj.size ≤ 9223372036854775807 ∧ x.key.size ≤ 9223372036854775807
def msWatch (x : Watch) : Nat := x.obj.size + x.key.size
def wWatch (x : Watch) : Prop := x.obj.size ≤ 9223372036854775807 ∧ x.key.size ≤ 9223372036854775807
def msClash (x : Clash) : Nat := x.obj.size + x.key.size
def wClash (x : Clash) : Prop := x.obj.size ≤ 9223372036854775807 ∧ x.key.size ≤ 9223372036854775807
def msFile (x : File) : Nat := x.text.size
def wFile (x : File) : Prop := x.text.size ≤ 9223372036854775807
def msLetter (x : Letter) : Nat := x.text.size
def wLetter (x : Letter) : Prop := x.text.size ≤ 9223372036854775807
def msEvent (x : Event) : Nat := msEdit x.edit
def wEvent (x : Event) : Prop := wEdit x.edit
def msAct (x : Act) : Nat := x.knew.length + x.obj.size + x.key.size
def wAct (x : Act) : Prop := x.knew.length ≤ 9223372036854775807 ∧ x.obj.size ≤ 9223372036854775807 ∧ x.key.size ≤ 9223372036854775807
instance : DecidableEq Act := fun a b => if h : a.dot = b.dot ∧ a.time = b.time ∧ a.knew = b.knew ∧ a.kind = b.kind ∧ a.obj = b.obj ∧ a.key = b.key ∧ a.val = b.val ∧ a.ref = b.ref then isTrue (by cases a; cases b; simp only at h; obtain ⟨rfl, rfl, rfl, rfl, rfl, rfl, rfl, rfl⟩ := h; rfl) else isFalse (fun e => h (by subst e; exact ⟨rfl, rfl, rfl, rfl, rfl, rfl, rfl, rfl⟩))
theorem Act.eq_iff {a b : Act} : a = b ↔ a.dot = b.dot ∧ a.time = b.time ∧ a.knew = b.knew ∧ a.kind = b.kind ∧ a.obj = b.obj ∧ a.key = b.key ∧ a.val = b.val ∧ a.ref = b.ref := ⟨fun h => by subst h; exact ⟨rfl, rfl, rfl, rfl, rfl, rfl, rfl, rfl⟩, fun h => by cases a; cases b; simp only at h; obtain ⟨rfl, rfl, rfl, rfl, rfl, rfl, rfl, rfl⟩ := h; rfl⟩
def msState (x : State) : Nat := x.know.length + (x.tallies.length + sumL msTally x.tallies) + (x.lives.length + sumL msLive x.lives) + (x.cells.length + sumL msCell x.cells)
def wState (x : State) : Prop := x.know.length ≤ 9223372036854775807 ∧ (x.tallies.length ≤ 9223372036854775807 ∧ ∀ y ∈ x.tallies, wTally y) ∧ (x.lives.length ≤ 9223372036854775807 ∧ ∀ y ∈ x.lives, wLive y) ∧ (x.cells.length ≤ 9223372036854775807 ∧ ∀ y ∈ x.cells, wCell y)
instance : DecidableEq State := fun a b => if h : a.know = b.know ∧ a.tallies = b.tallies ∧ a.lives = b.lives ∧ a.cells = b.cells then isTrue (by cases a; cases b; simp only at h; obtain ⟨rfl, rfl, rfl, rfl⟩ := h; rfl) else isFalse (fun e => h (by subst e; exact ⟨rfl, rfl, rfl, rfl⟩))
theorem State.eq_iff {a b : State} : a = b ↔ a.know = b.know ∧ a.tallies = b.tallies ∧ a.lives = b.lives ∧ a.cells = b.cells := ⟨fun h => by subst h; exact ⟨rfl, rfl, rfl, rfl⟩, fun h => by cases a; cases b; simp only at h; obtain ⟨rfl, rfl, rfl, rfl⟩ := h; rfl⟩
def msDelta (x : Delta) : Nat := x.base.length + x.know.length + (x.tallies.length + sumL msTally x.tallies) + (x.lives.length + sumL msLive x.lives) + x.dead.length + (x.cells.length + sumL msCell x.cells)
def wDelta (x : Delta) : Prop := x.base.length ≤ 9223372036854775807 ∧ x.know.length ≤ 9223372036854775807 ∧ (x.tallies.length ≤ 9223372036854775807 ∧ ∀ y ∈ x.tallies, wTally y) ∧ (x.lives.length ≤ 9223372036854775807 ∧ ∀ y ∈ x.lives, wLive y) ∧ x.dead.length ≤ 9223372036854775807 ∧ (x.cells.length ≤ 9223372036854775807 ∧ ∀ y ∈ x.cells, wCell y)
instance : DecidableEq Delta := fun a b => if h : a.base = b.base ∧ a.know = b.know ∧ a.tallies = b.tallies ∧ a.lives = b.lives ∧ a.dead = b.dead ∧ a.cells = b.cells then isTrue (by cases a; cases b; simp only at h; obtain ⟨rfl, rfl, rfl, rfl, rfl, rfl⟩ := h; rfl) else isFalse (fun e => h (by subst e; exact ⟨rfl, rfl, rfl, rfl, rfl, rfl⟩))
theorem Delta.eq_iff {a b : Delta} : a = b ↔ a.base = b.base ∧ a.know = b.know ∧ a.tallies = b.tallies ∧ a.lives = b.lives ∧ a.dead = b.dead ∧ a.cells = b.cells := ⟨fun h => by subst h; exact ⟨rfl, rfl, rfl, rfl, rfl, rfl⟩, fun h => by cases a; cases b; simp only at h; obtain ⟨rfl, rfl, rfl, rfl, rfl, rfl⟩ := h; rfl⟩
def msUnit (x : Unit_) : Nat := msAct x.act + msDelta x.delta
def wUnit (x : Unit_) : Prop := wAct x.act ∧ wDelta x.delta
instance : DecidableEq Unit_ := fun a b => if h : a.batch = b.batch ∧ a.act = b.act ∧ a.delta = b.delta then isTrue (by cases a; cases b; simp only at h; obtain ⟨rfl, rfl, rfl⟩ := h; rfl) else isFalse (fun e => h (by subst e; exact ⟨rfl, rfl, rfl⟩))
theorem Unit_.eq_iff {a b : Unit_} : a = b ↔ a.batch = b.batch ∧ a.act = b.act ∧ a.delta = b.delta := ⟨fun h => by subst h; exact ⟨rfl, rfl, rfl⟩, fun h => by cases a; cases b; simp only at h; obtain ⟨rfl, rfl, rfl⟩ := h; rfl⟩
def msLog (x : Log) : Nat := msState x.state + (x.units.length + sumL msUnit x.units) + (x.waits.length + sumL msUnit x.waits)
def wLog (x : Log) : Prop := wState x.state ∧ (x.units.length ≤ 9223372036854775807 ∧ ∀ y ∈ x.units, wUnit y) ∧ (x.waits.length ≤ 9223372036854775807 ∧ ∀ y ∈ x.waits, wUnit y)
instance : DecidableEq Log := fun a b => if h : a.rep = b.rep ∧ a.time = b.time ∧ a.state = b.state ∧ a.units = b.units ∧ a.waits = b.waits then isTrue (by cases a; cases b; simp only at h; obtain ⟨rfl, rfl, rfl, rfl, rfl⟩ := h; rfl) else isFalse (fun e => h (by subst e; exact ⟨rfl, rfl, rfl, rfl, rfl⟩))
theorem Log.eq_iff {a b : Log} : a = b ↔ a.rep = b.rep ∧ a.time = b.time ∧ a.state = b.state ∧ a.units = b.units ∧ a.waits = b.waits := ⟨fun h => by subst h; exact ⟨rfl, rfl, rfl, rfl, rfl⟩, fun h => by cases a; cases b; simp only at h; obtain ⟨rfl, rfl, rfl, rfl, rfl⟩ := h; rfl⟩
def msCommit (x : Commit) : Nat := x.ups.length + msState x.state
def wCommit (x : Commit) : Prop := x.ups.length ≤ 9223372036854775807 ∧ wState x.state
instance : DecidableEq Commit := fun a b => if h : a.id = b.id ∧ a.ups = b.ups ∧ a.state = b.state then isTrue (by cases a; cases b; simp only at h; obtain ⟨rfl, rfl, rfl⟩ := h; rfl) else isFalse (fun e => h (by subst e; exact ⟨rfl, rfl, rfl⟩))
theorem Commit.eq_iff {a b : Commit} : a = b ↔ a.id = b.id ∧ a.ups = b.ups ∧ a.state = b.state := ⟨fun h => by subst h; exact ⟨rfl, rfl, rfl⟩, fun h => by cases a; cases b; simp only at h; obtain ⟨rfl, rfl, rfl⟩ := h; rfl⟩
def msGraph (x : Graph) : Nat := (x.commits.length + sumL msCommit x.commits)
def wGraph (x : Graph) : Prop := (x.commits.length ≤ 9223372036854775807 ∧ ∀ y ∈ x.commits, wCommit y)
instance : DecidableEq Graph := fun a b => if h : a.commits = b.commits ∧ a.head = b.head then isTrue (by cases a; cases b; simp only at h; obtain ⟨rfl, rfl⟩ := h; rfl) else isFalse (fun e => h (by subst e; exact ⟨rfl, rfl⟩))
theorem Graph.eq_iff {a b : Graph} : a = b ↔ a.commits = b.commits ∧ a.head = b.head := ⟨fun h => by subst h; exact ⟨rfl, rfl⟩, fun h => by cases a; cases b; simp only at h; obtain ⟨rfl, rfl⟩ := h; rfl⟩
def msReplica (x : Replica) : Nat := msLog x.log + msGraph x.graph + msFile x.file + (x.out.length + sumL msUnit x.out)
def wReplica (x : Replica) : Prop := wLog x.log ∧ wGraph x.graph ∧ wFile x.file ∧ (x.out.length ≤ 9223372036854775807 ∧ ∀ y ∈ x.out, wUnit y)
instance : DecidableEq Replica := fun a b => if h : a.way = b.way ∧ a.log = b.log ∧ a.graph = b.graph ∧ a.file = b.file ∧ a.out = b.out then isTrue (by cases a; cases b; simp only at h; obtain ⟨rfl, rfl, rfl, rfl, rfl⟩ := h; rfl) else isFalse (fun e => h (by subst e; exact ⟨rfl, rfl, rfl, rfl, rfl⟩))
theorem Replica.eq_iff {a b : Replica} : a = b ↔ a.way = b.way ∧ a.log = b.log ∧ a.graph = b.graph ∧ a.file = b.file ∧ a.out = b.out := ⟨fun h => by subst h; exact ⟨rfl, rfl, rfl, rfl, rfl⟩, fun h => by cases a; cases b; simp only at h; obtain ⟨rfl, rfl, rfl, rfl, rfl⟩ := h; rfl⟩
def msWorld (x : World_) : Nat := (x.replicas.length + sumL msReplica x.replicas) + (x.net.length + sumL msLetter x.net) + x.codes.length + (x.synced.length + sumL msIntS x.synced)
def wWorld (x : World_) : Prop := (x.replicas.length ≤ 9223372036854775807 ∧ ∀ y ∈ x.replicas, wReplica y) ∧ (x.net.length ≤ 9223372036854775807 ∧ ∀ y ∈ x.net, wLetter y) ∧ x.codes.length ≤ 9223372036854775807 ∧ (x.synced.length ≤ 9223372036854775807 ∧ ∀ y ∈ x.synced, wIntS y)
instance : DecidableEq World_ := fun a b => if h : a.replicas = b.replicas ∧ a.net = b.net ∧ a.codes = b.codes ∧ a.synced = b.synced then isTrue (by cases a; cases b; simp only at h; obtain ⟨rfl, rfl, rfl, rfl⟩ := h; rfl) else isFalse (fun e => h (by subst e; exact ⟨rfl, rfl, rfl, rfl⟩))
theorem World_.eq_iff {a b : World_} : a = b ↔ a.replicas = b.replicas ∧ a.net = b.net ∧ a.codes = b.codes ∧ a.synced = b.synced := ⟨fun h => by subst h; exact ⟨rfl, rfl, rfl, rfl⟩, fun h => by cases a; cases b; simp only at h; obtain ⟨rfl, rfl, rfl, rfl⟩ := h; rfl⟩
def msScript (x : Script) : Nat := x.ways.length + (x.events.length + sumL msEvent x.events)
def wScript (x : Script) : Prop := x.ways.length ≤ 9223372036854775807 ∧ (x.events.length ≤ 9223372036854775807 ∧ ∀ y ∈ x.events, wEvent y)
instance : DecidableEq Script := fun a b => if h : a.ways = b.ways ∧ a.events = b.events ∧ a.calm = b.calm then isTrue (by cases a; cases b; simp only at h; obtain ⟨rfl, rfl, rfl⟩ := h; rfl) else isFalse (fun e => h (by subst e; exact ⟨rfl, rfl, rfl⟩))
theorem Script.eq_iff {a b : Script} : a = b ↔ a.ways = b.ways ∧ a.events = b.events ∧ a.calm = b.calm := ⟨fun h => by subst h; exact ⟨rfl, rfl, rfl⟩, fun h => by cases a; cases b; simp only at h; obtain ⟨rfl, rfl, rfl⟩ := h; rfl⟩
end Go.Proofs.Ytopannfdcikgiaa.Sy

/- The cursor of a draw: a thing of our own that may move. -/
namespace Go.Proofs.Ytopannfdcikgiaa.Sy
open Go Go.RowKit
set_option linter.unusedSimpArgs false
set_option linter.unusedVariables false
def crs (c v : GV) (n : Nat) : Thg := ⟨fun σ fp => ∃ g i h, c = .ptr g 0 ∧ fp = [g] ∧ i ≤ n ∧ bk σ g = some (.row 1 [v, gi (i : Nat), gi h]), fun ⟨g, i, h, h1, h2, h3, h4⟩ hf => ⟨g, i, h, h1, h2, h3, by rw [hf g (by rw [h2]; exact List.mem_cons_self)]; exact h4⟩⟩
theorem st_blk {n z g off : Nat} {σ : St} {cs : List GV} {x : GV} (hB : bk σ g = some (.row z cs)) (h1 : off + n ≤ cs.length) (h2 : 0 < n) (h3 : x.cells.length = n) : stG n σ (.ptr g off) x = some (.tup [], σ.set g (some (.row z (splice cs off x.cells)))) := by
  simp only [stG, bk_some.1 hB]
  rw [if_pos ⟨h1, h2, h3⟩]
theorem bk_set {σ : St} {g z : Nat} {cs cs' : List GV} (hB : bk σ g = some (.row z cs)) : bk (σ.set g (some (.row z cs'))) g = some (.row z cs') := bk_some.2 (by rw [List.getElem?_set_self (bk_lt hB)])
theorem rd_blk {σ : St} {g z : Nat} {cs : List GV} (hB : bk σ g = some (.row z cs)) : rdB σ g = some cs := by
  unfold rdB; rw [bk_some.1 hB]; rfl
theorem byte_at {σ : St} {v : GV} {l : List Int} (h : RS pB.kd σ v l) {i : Nat} (hi : i < l.length) : iadG 1 v (some i) = some (atz 1 v i) ∧ ldG false 1 σ (atz 1 v i) = some (.int .u8 l[i]) := ⟨RdN.iad h hi, RdN.ld h hi (by decide)⟩
theorem shr_ex (b : Int) (hb : 0 ≤ b) : ∃ f : Int → Int, ∀ a, binG .shr (.int .i64 a) (.int .u64 b) = some (.int .i64 (f a)) := ⟨fun a => a.fdiv (2 ^ min b.toNat IntKind.i64.bits), fun a => by simp only [binG, shiftG]; rw [if_neg (by omega)]⟩
theorem xor_ex : ∃ f : Int → Int → Int, ∀ a b, binG .xor (.int .i64 a) (.int .i64 b) = some (.int .i64 (f a b)) := ⟨fun a b => IntKind.i64.wrap (BitVec.ofInt IntKind.i64.bits a ^^^ BitVec.ofInt IntKind.i64.bits b).toNat, fun a b => rfl⟩
theorem and_ex (m : Nat) (hm : m < 2 ^ 62) : ∃ f : Int → Int, (∀ a, binG .and (.int .i64 a) (.int .i64 (m : Nat)) = some (.int .i64 (f a))) ∧ ∀ a, 0 ≤ f a ∧ f a ≤ m := by
  refine ⟨fun a => IntKind.i64.wrap (BitVec.ofInt IntKind.i64.bits a &&& BitVec.ofInt IntKind.i64.bits (m : Nat)).toNat, fun a => rfl, fun a => ?_⟩
  have h1 : (BitVec.ofInt IntKind.i64.bits a &&& BitVec.ofInt IntKind.i64.bits (m : Nat)).toNat ≤ m := by
    rw [BitVec.toNat_and]
    refine Nat.le_trans Nat.and_le_right ?_
    rw [BitVec.toNat_ofInt]
    show ((m : Int) % ((2 ^ 64 : Nat) : Int)).toNat ≤ m
    omega
  show 0 ≤ IntKind.i64.wrap _ ∧ IntKind.i64.wrap _ ≤ _
  rw [wrap_add (by omega) (by omega)]
  omega
@[go_sem] theorem bit_tup {l : List GV} : (GV.tup l).bit = none := (rfl)
/-- Memory only grows. -/
theorem vcOps_len {P : Program} {D : Bool} {os : List Op1} : ∀ {K : Env → St → Prop} {env : Env} {σ : St}, vcOps D P os K env σ → vcOps D P os (fun env' σ' => K env' σ' ∧ σ.length ≤ σ'.length) env σ := by
  induction os with
  | nil => intro K env σ h; exact ⟨h, Nat.le_refl _⟩
  | cons o r ih =>
    intro K env σ h
    simp only [vcOps] at h ⊢
    split at h
    · rename_i hw
      rw [if_pos hw]
      obtain ⟨v, σ', hs, hp, hk⟩ := h
      refine ⟨v, σ', hs, hp, vcOps_mono (ih hk) fun env' σ1 hq => ⟨hq.1, ?_⟩⟩
      have := step_len hs
      omega
    · rename_i hw
      rw [if_neg hw]
      exact ih h
theorem vc_len {P : Program} {d : Cd} : ∀ {Q : Ex → Env → St → Prop} {env : Env} {σ : St}, vc P d Q env σ → vc P d (fun e env' σ' => Q e env' σ' ∧ σ.length ≤ σ'.length) env σ := by
  induction d with
  | skip => intro Q env σ h; exact ⟨h, Nat.le_refl _⟩
  | reg ops => intro Q env σ h; exact vcOps_len h
  | drw xs ys =>
    intro Q env σ h
    refine vcOps_mono (vcOps_len h) fun env1 σ1 h1 => vcOps_mono (vcOps_len h1.1) fun env2 σ2 h2 => ⟨h2.1, ?_⟩
    have := h1.2
    have := h2.2
    omega
  | seq a b iha ihb =>
    intro Q env σ h
    refine vc_mono (d := a) (iha h) fun e env1 σ1 he => ?_
    cases e with
    | nxt => exact vc_mono (ihb he.1) fun e env2 σ2 h2 => ⟨h2.1, Nat.le_trans he.2 h2.2⟩
    | ext j => exact he
    | ret => exact he
  | cnd c a b iha ihb =>
    intro Q env σ h
    obtain ⟨t, ht, h1, h2⟩ := h
    exact ⟨t, ht, fun e => iha (h1 e), fun e => ihb (h2 e)⟩
  | blk id a ih =>
    intro Q env σ h
    refine vc_mono (d := a) (ih h) fun e env1 σ1 he => ?_
    cases e with
    | nxt => exact he
    | ext j =>
      obtain ⟨h1, h2⟩ := he
      simp only at h1 ⊢
      split at h1
      · rename_i hj; rw [if_pos hj]; exact ⟨h1, h2⟩
      · rename_i hj; rw [if_neg hj]; exact ⟨h1, h2⟩
    | ret => exact he
  | lop a ih =>
    intro Q env σ h
    obtain ⟨I, μ, hI, hs⟩ := h
    refine ⟨fun env1 σ1 => I env1 σ1 ∧ σ.length ≤ σ1.length, μ, ⟨hI, Nat.le_refl _⟩, fun env1 σ1 hi => vc_mono (ih (hs env1 σ1 hi.1)) fun e env2 σ2 he => ?_⟩
    cases e with
    | nxt => exact ⟨⟨he.1.1, Nat.le_trans hi.2 he.2⟩, he.1.2⟩
    | ext j => exact ⟨he.1, Nat.le_trans hi.2 he.2⟩
    | ret => exact ⟨he.1, Nat.le_trans hi.2 he.2⟩
  | ext id => intro Q env σ h; exact ⟨h, Nat.le_refl _⟩
  | ret => intro Q env σ h; exact ⟨h, Nat.le_refl _⟩
theorem ret_dr {P : Program} {f : Nat} {F : Fn1} {args : List GV} {σ : St} {Post : GV → St → Prop} (hF : compFn P f = some F) (hl : args.length ≤ F.n)
    (h : vc P F.c (fun e env τ => isOut e = true ∧ ∃ r, resG env τ F.rs = some r ∧ Post r τ) (env0 args) σ) : ∃ r τ, Ret P f args σ r τ ∧ Post r τ :=
  ret_mut hF hl (vc_mono (vc_len h) fun e env τ he => ⟨he.1.1, by obtain ⟨⟨_, r, h1, h2⟩, h3⟩ := he; exact ⟨r, h1, h3, h2⟩⟩)
theorem Ret.le {P : Program} {f : Nat} {args : List GV} {σ τ : St} {r : GV} (h : Ret P f args σ r τ) : σ.length ≤ τ.length := h.2.1
/-- A cursor moves. -/
theorem Hp.crs {σ τ : St} {rs : List Thg} (H : Hp σ τ rs) {k : Nat} {c v : GV} {n : Nat} (hk : rs[k]? = some (crs c v n)) : ∃ (g i : Nat) (h : Int), c = .ptr g 0 ∧ i ≤ n ∧ bk τ g = some (.row 1 [v, gi i, gi h]) ∧ ∀ (i' : Nat) (h' : Int), i' ≤ n → Hp σ (τ.set g (some (.row 1 [v, gi i', gi h']))) rs := by
  obtain ⟨a, ⟨g, i, h, rfl, rfl, hi, hB⟩, hnd, hbd, ht⟩ := (H.pick k hk).turn
  refine ⟨g, i, h, rfl, hi, hB, fun i' h' hi' => ?_⟩
  have := Hp.unpick (i := k) (ht (τ' := τ.set g (some (.row 1 [v, gi i', gi h']))) (r' := Sy.crs (.ptr g 0) v n) (a' := [g]) ⟨by simp, fun g' h => .inl h, by simp, fun g' h h' => bk_set_ne fun e => h' (by rw [e]; exact List.mem_cons_self)⟩ ⟨g, i', h', rfl, rfl, hi', bk_set hB⟩) (List.getElem?_eq_some_iff.1 hk).1
  obtain ⟨h1, h2⟩ := List.getElem?_eq_some_iff.1 hk
  rw [← h2, List.set_getElem_self] at this
  exact this
theorem Hp.ptCur {σ τ : St} {rs : List Thg} {g n : Nat} {v : GV} {h : Int} (H : Hp σ τ (Sy.pt 1 g [v, gi 0, gi h] :: rs)) : Hp σ τ (Sy.crs (.ptr g 0) v n :: rs) :=
  H.conv fun fp ⟨h1, h2⟩ => ⟨g, 0, h, rfl, h1, Nat.zero_le _, h2⟩
end Go.Proofs.Ytopannfdcikgiaa.Sy

/- Draws: bytes, numbers, knowledge. -/
namespace Go.Proofs.Ytopannfdcikgiaa.Sy
open Go Go.RowKit
set_option linter.unusedSimpArgs false
set_option linter.unusedVariables false
abbrev n_s_l01New : Nat := 81
def F_s_l01New : Fn1 := ⟨32, [.t 2], (.seq (.reg [o 2 (.mov (.k .nilP))]) (.seq (.reg [o 5 (.mov (.t 0)), o 6 (.len false (.t 5)), o 7 (.bin .add (.k (.int .i64 93901)) (.t 6)), o 3 (.mov (.t 7))]) (.seq (.seq (.reg [o 4 (.mov (.k (.int .i64 0)))]) (.blk 0 (.lop (.seq (.seq (.reg [o 8 (.mov (.t 4)), o 9 (.mov (.t 0)), o 10 (.len false (.t 9)), o 11 (.bin .lss (.t 8) (.t 10)), o 12 (.mov (.t 11)), og 13 12 true (.mov (.t 4)), og 14 12 true (.bin .lss (.t 13) (.k (.int .i64 4000))), o 15 (.pick (.t 12) (.t 14) (.k (.bool false)))]) (.cnd (.t 15) .skip (.ext 0))) (.seq (.blk 1 (.reg [o 18 (.mov (.t 3)), o 19 (.bin .mul (.t 18) (.k (.int .i64 131))), o 20 (.mov (.t 0)), o 21 (.mov (.t 4)), o 22 (.iad 1 (.t 20) (.t 21)), o 23 (.ld false 1 (.t 22)), o 24 (.cvi .i64 (.t 23)), o 25 (.bin .add (.t 19) (.t 24)), o 26 (.bin .add (.t 25) (.k (.int .i64 7))), o 27 (.bin .and (.t 26) (.k (.int .i64 1073741823))), o 3 (.mov (.t 27))])) (.reg [o 16 (.mov (.t 4)), o 17 (.bin .add (.t 16) (.k (.int .i64 1))), o 4 (.mov (.t 17))])))))) (.seq (.reg [o 28 (.mov (.t 0)), o 29 (.mov (.t 3)), o 30 (.build [.nilS, (.int .i64 0), (.int .i64 0)] [(0, 1, (.t 28)), (2, 1, (.t 29))]), o 31 (.box (.t 30)), o 2 (.mov (.t 31))]) .ret))))⟩
theorem ir_s_l01New : compFn Try.prog n_s_l01New = some F_s_l01New := by kernel_rfl
abbrev n_s_l01Byte : Nat := 132
def F_s_l01Byte : Fn1 := ⟨58, [.t 2], (.seq (.reg [o 2 (.mov (.k (.int .i64 0)))]) (.seq (.reg [o 4 (.mov (.t 0)), o 5 (.mov (.t 0)), o 6 (.nck (.t 5)), o 7 (.fad 2 (.t 6)), o 8 (.ld false 1 (.t 7)), o 9 (.bin .mul (.t 8) (.k (.int .i64 6364136223846793005))), o 10 (.bin .add (.t 9) (.k (.int .i64 1442695040888963407))), o 11 (.nck (.t 4)), o 12 (.fad 2 (.t 11)), on (.st 1 (.t 12) (.t 10))]) (.seq (.drw [o 13 (.mov (.t 0)), o 14 (.nck (.t 13)), o 15 (.fad 2 (.t 14)), o 16 (.ld false 1 (.t 15)), o 17 (.bin .shr (.t 16) (.k (.int .u64 33))), o 18 (.mov (.t 0)), o 19 (.nck (.t 18)), o 20 (.fad 2 (.t 19)), o 21 (.ld false 1 (.t 20)), o 22 (.bin .shr (.t 21) (.k (.int .u64 45)))] [o 23 (.bin .xor (.t 17) (.t 22)), o 24 (.bin .and (.t 23) (.k (.int .i64 255))), o 3 (.mov (.t 24))]) (.seq (.seq (.drw [o 25 (.mov (.t 0)), o 26 (.nck (.t 25)), o 27 (.fad 1 (.t 26)), o 28 (.ld false 1 (.t 27)), o 29 (.mov (.t 0)), o 30 (.nck (.t 29)), o 31 (.fad 0 (.t 30)), o 32 (.ld false 1 (.t 31)), o 33 (.len false (.t 32))] [o 34 (.bin .lss (.t 28) (.t 33))]) (.cnd (.t 34) (.seq (.drw [o 35 (.mov (.t 3)), o 36 (.mov (.t 0)), o 37 (.nck (.t 36)), o 38 (.fad 0 (.t 37)), o 39 (.ld false 1 (.t 38)), o 40 (.mov (.t 0)), o 41 (.nck (.t 40)), o 42 (.fad 1 (.t 41)), o 43 (.ld false 1 (.t 42)), o 44 (.iad 1 (.t 39) (.t 43)), o 45 (.ld false 1 (.t 44)), o 46 (.cvi .i64 (.t 45))] [o 47 (.bin .add (.t 35) (.t 46)), o 48 (.bin .and (.t 47) (.k (.int .i64 255))), o 3 (.mov (.t 48))]) (.reg [o 49 (.mov (.t 0)), o 50 (.mov (.t 0)), o 51 (.nck (.t 50)), o 52 (.fad 1 (.t 51)), o 53 (.ld false 1 (.t 52)), o 54 (.bin .add (.t 53) (.k (.int .i64 1))), o 55 (.nck (.t 49)), o 56 (.fad 1 (.t 55)), on (.st 1 (.t 56) (.t 54))])) .skip)) (.seq (.reg [o 57 (.mov (.t 3)), o 2 (.mov (.t 57))]) .ret)))))⟩
theorem ir_s_l01Byte : compFn Try.prog n_s_l01Byte = some F_s_l01Byte := by kernel_rfl
abbrev n_s_l01Below : Nat := 113
def F_s_l01Below : Fn1 := ⟨37, [.t 4], (.seq (.reg [o 4 (.mov (.k (.int .i64 0)))]) (.seq (.seq (.reg [o 9 (.mov (.t 1)), o 10 (.bin .leq (.t 9) (.k (.int .i64 0)))]) (.cnd (.t 10) (.seq (.reg [o 4 (.mov (.k (.int .i64 0)))]) .ret) .skip)) (.seq (.seq (.reg [o 11 (.mov (.t 1)), o 12 (.bin .leq (.t 11) (.k (.int .i64 256)))]) (.cnd (.t 12) (.seq (.reg [o 13 (.mov (.t 0)), o 14 (.call 132 [(.t 13)]), o 15 (.mov (.t 1)), o 16 (.bin .rem (.t 14) (.t 15)), o 4 (.mov (.t 16))]) .ret) .skip)) (.seq (.reg [o 17 (.mov (.t 0)), o 18 (.call 132 [(.t 17)]), o 5 (.mov (.t 18))]) (.seq (.reg [o 19 (.mov (.t 0)), o 20 (.call 132 [(.t 19)]), o 6 (.mov (.t 20))]) (.seq (.reg [o 21 (.mov (.t 0)), o 22 (.call 132 [(.t 21)]), o 7 (.mov (.t 22))]) (.seq (.reg [o 23 (.mov (.t 0)), o 24 (.call 132 [(.t 23)]), o 8 (.mov (.t 24))]) (.seq (.reg [o 25 (.mov (.t 5)), o 26 (.bin .mul (.t 25) (.k (.int .i64 16777216))), o 27 (.mov (.t 6)), o 28 (.bin .mul (.t 27) (.k (.int .i64 65536))), o 29 (.bin .add (.t 26) (.t 28)), o 30 (.mov (.t 7)), o 31 (.bin .mul (.t 30) (.k (.int .i64 256))), o 32 (.bin .add (.t 29) (.t 31)), o 33 (.mov (.t 8)), o 34 (.bin .add (.t 32) (.t 33)), o 35 (.mov (.t 1)), o 36 (.bin .rem (.t 34) (.t 35)), o 4 (.mov (.t 36))]) .ret))))))))⟩
theorem ir_s_l01Below : compFn Try.prog n_s_l01Below = some F_s_l01Below := by kernel_rfl
theorem s_l01New_ret (σ : St) (v : GV) (bs : List Int) (hv : RS pB.kd σ v bs) (hl : bs.length ≤ 1099511627776) : ∃ c τ, Ret Try.prog n_s_l01New [v] σ c τ ∧ Hp σ τ [crs c v bs.length] := by
  refine ret_hp (rs := fun c => [crs c v bs.length]) ir_s_l01New (Nat.le_of_ble_eq_true rfl) ?_
  obtain ⟨fa, ha, _⟩ := and_ex 1073741823 (by decide)
  have ha : ∀ a, binG .and (.int .i64 a) (.int .i64 1073741823) = some (.int .i64 (fa a)) := ha
  simp +contextual (disch := omega) only [go_sem, Nat.reduceEqDiff, ↓reduceIte, Int.reduceEq, Int.reduceNeg, wrap_add, F_s_l01New, hv.len]
  refine vc_for (min bs.length 4000) 4 (fun i env τ => env 0 = v ∧ (∃ h : Int, env 3 = gi h) ∧ σ = τ) rfl ⟨rfl, ⟨_, rfl⟩, rfl⟩ ?_ ?_
  · rintro i env τ hi e4 c0 ⟨e0, ⟨h, e3⟩, rfl⟩
    have hi' : i < bs.length := by omega
    have c1 : decide ((i : Int) < bs.length) = true := by simp; omega
    have c2 : decide ((i : Int) < 4000) = true := by simp; omega
    simp +contextual (disch := omega) only [go_sem, Nat.reduceEqDiff, ↓reduceIte, Int.reduceEq, Int.reduceNeg, wrap_add, c1, c2, e0, e3, e4, hv.len, byte_at hv hi', ha]
    exact ⟨_, rfl⟩
  · rintro env τ e4 c0 ⟨e0, ⟨h, e3⟩, rfl⟩
    by_cases hb : bs.length ≤ 4000
    · have c1 : decide (((min bs.length 4000 : Nat) : Int) < bs.length) = false := by simp; omega
      simp +contextual (disch := omega) only [go_sem, Nat.reduceEqDiff, ↓reduceIte, Int.reduceEq, Int.reduceNeg, wrap_add, c1, e0, e3, e4, hv.len, hv.cell]
      exact ⟨_, rfl, ((Hp.refl σ).new 1 _).ptCur⟩
    · have c1 : decide (((min bs.length 4000 : Nat) : Int) < bs.length) = true := by simp; omega
      have c2 : decide (((min bs.length 4000 : Nat) : Int) < 4000) = false := by simp; omega
      simp +contextual (disch := omega) only [go_sem, Nat.reduceEqDiff, ↓reduceIte, Int.reduceEq, Int.reduceNeg, wrap_add, c1, c2, e0, e3, e4, hv.len, hv.cell]
      exact ⟨_, rfl, ((Hp.refl σ).new 1 _).ptCur⟩
theorem s_l01Byte_ret {σ0 σ : St} {rs : List Thg} (H : Hp σ0 σ rs) {k : Nat} {c v : GV} {bs : List Int} (hk : rs[k]? = some (crs c v bs.length)) (hv : RS pB.kd σ0 v bs) (hl : bs.length ≤ 1099511627776) :
    ∃ r τ, Ret Try.prog n_s_l01Byte [c] σ r τ ∧ ∃ x : Int, r = gi x ∧ 0 ≤ x ∧ x ≤ 255 ∧ Hp σ0 τ rs := by
  obtain ⟨g, i, h, rfl, hi, hB, hm⟩ := H.crs hk
  refine ret_dr ir_s_l01Byte (Nat.le_of_ble_eq_true rfl) ?_
  obtain ⟨fa, ha, hfa⟩ := and_ex 255 (by decide)
  have ha : ∀ a, binG .and (.int .i64 a) (.int .i64 255) = some (.int .i64 (fa a)) := ha
  obtain ⟨f33, h33⟩ := shr_ex 33 (by decide)
  obtain ⟨f45, h45⟩ := shr_ex 45 (by decide)
  obtain ⟨fx, hx⟩ := xor_ex
  have hs1 : ∀ y : Int, stG 1 σ (.ptr g 2) (.int .i64 y) = some (.tup [], σ.set g (some (.row 1 [v, gi i, gi y]))) := fun y => st_blk (x := .int .i64 y) (n := 1) hB (by simp) (by decide) rfl
  have hs2 : ∀ y x : Int, stG 1 (σ.set g (some (.row 1 [v, gi i, gi y]))) (.ptr g 1) (.int .i64 x) = some (.tup [], σ.set g (some (.row 1 [v, gi x, gi y]))) := fun y x => by
    rw [st_blk (x := .int .i64 x) (n := 1) (bk_set hB) (by simp) (by decide) rfl, List.set_set]; rfl
  have hr : ∀ y : Int, rdB (σ.set g (some (.row 1 [v, gi i, gi y]))) g = some [v, gi i, gi y] := fun y => rd_blk (bk_set hB)
  have hlen : ∀ y x : Int, (σ.set g (some (.row 1 [v, gi x, gi y]))).length = σ.length := fun y x => by simp
  simp +contextual (disch := omega) only [go_sem, Nat.reduceEqDiff, ↓reduceIte, Int.reduceEq, Int.reduceNeg, wrap_add, F_s_l01Byte, ld_ptr (rd_blk hB), hs1, ld_ptr (hr _), h33, h45, hx, ha, hv.len, hv.notup]
  refine ⟨fun hn => ?_, fun hn => ?_⟩
  · have hi' : i < bs.length := by simpa using hn
    have hb1 := (byte_at hv hi').1
    have hb2 : ∀ y : Int, ldG false 1 (σ.set g (some (.row 1 [v, gi i, gi y]))) (atz 1 v i) = some (.int .u8 bs[i]) := fun y => (byte_at (hv.pre (hm i y hi).sub) hi').2
    simp +contextual (disch := omega) only [go_sem, Nat.reduceEqDiff, ↓reduceIte, Int.reduceEq, Int.reduceNeg, wrap_add, ld_ptr (hr _), hb1, hb2, ha, hs2]
    exact ⟨_, rfl, _, rfl, (hfa _).1, (hfa _).2, hm _ _ hi'⟩
  · exact ⟨_, rfl, _, rfl, (hfa _).1, (hfa _).2, hm _ _ hi⟩
theorem s_l01Below_ret {σ0 σ : St} {rs : List Thg} (H : Hp σ0 σ rs) {k : Nat} {c v : GV} {bs : List Int} (hk : rs[k]? = some (crs c v bs.length)) (hv : RS pB.kd σ0 v bs) (hl : bs.length ≤ 1099511627776) (n : Int) (hn : n ≤ 4611686018427387904) :
    ∃ r τ, Ret Try.prog n_s_l01Below [c, gi n] σ r τ ∧ ∃ x : Int, r = gi x ∧ 0 ≤ x ∧ (n ≤ 0 → x = 0) ∧ (0 < n → x < n) ∧ Hp σ0 τ rs := by
  refine ret_dr ir_s_l01Below (Nat.le_of_ble_eq_true rfl) ?_
  by_cases h0 : n ≤ 0
  · have c0 : decide (n ≤ 0) = true := decide_eq_true h0
    simp +contextual (disch := omega) only [go_sem, Nat.reduceEqDiff, ↓reduceIte, Int.reduceEq, Int.reduceNeg, wrap_add, F_s_l01Below, c0]
    exact ⟨_, rfl, 0, rfl, by omega, fun _ => rfl, fun h => by omega, H⟩
  · have c0 : decide (n ≤ 0) = false := decide_eq_false h0
    have hn0 : ¬ (n = 0) := by omega
    by_cases h1 : n ≤ 256
    · have c1 : decide (n ≤ 256) = true := decide_eq_true h1
      simp +contextual (disch := omega) only [go_sem, Nat.reduceEqDiff, ↓reduceIte, Int.reduceEq, Int.reduceNeg, wrap_add, F_s_l01Below, c0, c1]
      obtain ⟨r, τ, R, x, rfl, hx0, hx1, H1⟩ := s_l01Byte_ret H hk hv hl
      refine by_mut R ?_
      simp +contextual (disch := omega) only [go_sem, Nat.reduceEqDiff, ↓reduceIte, Int.reduceEq, Int.reduceNeg, wrap_add, hn0]
      exact ⟨_, rfl, _, rfl, Int.tmod_nonneg _ hx0, fun h => by omega, fun h => Int.tmod_lt_of_pos _ h, H1⟩
    · have c1 : decide (n ≤ 256) = false := decide_eq_false h1
      simp +contextual (disch := omega) only [go_sem, Nat.reduceEqDiff, ↓reduceIte, Int.reduceEq, Int.reduceNeg, wrap_add, F_s_l01Below, c0, c1]
      obtain ⟨r, τ1, R, x, rfl, hx0, hx1, H1⟩ := s_l01Byte_ret H hk hv hl
      refine by_mut R ?_
      simp +contextual (disch := omega) only [go_sem, Nat.reduceEqDiff, ↓reduceIte, Int.reduceEq, Int.reduceNeg, wrap_add, List.append_nil]
      obtain ⟨r, τ2, R, y, rfl, hy0, hy1, H2⟩ := s_l01Byte_ret H1 hk hv hl
      refine by_mut R ?_
      simp +contextual (disch := omega) only [go_sem, Nat.reduceEqDiff, ↓reduceIte, Int.reduceEq, Int.reduceNeg, wrap_add, List.append_nil]
      obtain ⟨r, τ3, R, z, rfl, hz0, hz1, H3⟩ := s_l01Byte_ret H2 hk hv hl
      refine by_mut R ?_
      simp +contextual (disch := omega) only [go_sem, Nat.reduceEqDiff, ↓reduceIte, Int.reduceEq, Int.reduceNeg, wrap_add, List.append_nil]
      obtain ⟨r, τ4, R, w, rfl, hw0, hw1, H4⟩ := s_l01Byte_ret H3 hk hv hl
      refine by_mut R ?_
      simp +contextual (disch := omega) only [go_sem, Nat.reduceEqDiff, ↓reduceIte, Int.reduceEq, Int.reduceNeg, wrap_add, hn0]
      exact ⟨_, rfl, _, rfl, Int.tmod_nonneg _ (by omega), fun h => by omega, fun h => Int.tmod_lt_of_pos _ h, H4⟩
end Go.Proofs.Ytopannfdcikgiaa.Sy

/- Contracts: names, knowledge, acts. -/
namespace Go.Proofs.Ytopannfdcikgiaa.Sy
open Go Go.RowKit
set_option linter.unusedSimpArgs false
set_option linter.unusedVariables false
abbrev n_s_l01In : Nat := 62
def F_s_l01In : Fn1 := ⟨15, [.t 6], (.seq (.reg [o 6 (.mov (.k (.bool false)))]) (.seq (.reg [o 7 (.mov (.t 0)), o 8 (.mov (.t 1)), o 9 (.bin .geq (.t 7) (.t 8)), o 10 (.mov (.t 9)), og 11 10 true (.mov (.t 0)), og 12 10 true (.mov (.t 2)), og 13 10 true (.bin .leq (.t 11) (.t 12)), o 14 (.pick (.t 10) (.t 13) (.k (.bool false))), o 6 (.mov (.t 14))]) .ret))⟩
theorem ir_s_l01In : compFn Try.prog n_s_l01In = some F_s_l01In := by kernel_rfl
abbrev n_i_within : Nat := 65
def F_i_within : Fn1 := ⟨15, [.t 6], (.seq (.reg [o 6 (.mov (.k (.bool false)))]) (.seq (.reg [o 7 (.mov (.t 0)), o 8 (.mov (.t 1)), o 9 (.bin .geq (.t 7) (.t 8)), o 10 (.mov (.t 9)), og 11 10 true (.mov (.t 0)), og 12 10 true (.mov (.t 2)), og 13 10 true (.bin .leq (.t 11) (.t 12)), o 14 (.pick (.t 10) (.t 13) (.k (.bool false))), o 6 (.mov (.t 14))]) .ret))⟩
theorem ir_i_within : compFn Try.prog n_i_within = some F_i_within := by kernel_rfl
abbrev n_s_NameOk : Nat := 63
def F_s_NameOk : Fn1 := ⟨23, [.t 2], (.seq (.reg [o 2 (.mov (.k (.bool false)))]) (.seq (.seq (.reg [o 3 (.mov (.k (.int .i64 0)))]) (.blk 0 (.lop (.seq (.seq (.reg [o 4 (.mov (.t 3)), o 5 (.mov (.t 0)), o 6 (.len true (.t 5)), o 7 (.bin .lss (.t 4) (.t 6))]) (.cnd (.t 7) .skip (.ext 0))) (.seq (.blk 1 (.seq (.reg [o 10 (.mov (.t 0)), o 11 (.mov (.t 3)), o 12 (.idx (.t 10) (.t 11)), o 13 (.bin .lss (.t 12) (.k (.int .u8 97))), o 14 (.mov (.t 13)), og 15 14 false (.mov (.t 0)), og 16 14 false (.mov (.t 3)), og 17 14 false (.idx (.t 15) (.t 16)), og 18 14 false (.bin .gtr (.t 17) (.k (.int .u8 122))), o 19 (.pick (.t 14) (.k (.bool true)) (.t 18))]) (.cnd (.t 19) (.seq (.reg [o 2 (.mov (.k (.bool false)))]) .ret) .skip))) (.reg [o 8 (.mov (.t 3)), o 9 (.bin .add (.t 8) (.k (.int .i64 1))), o 3 (.mov (.t 9))])))))) (.seq (.reg [o 20 (.mov (.t 0)), o 21 (.len true (.t 20)), o 22 (.call 62 [(.t 21), (.k (.int .i64 1)), (.k (.int .i64 8))]), o 2 (.mov (.t 22))]) .ret)))⟩
theorem ir_s_NameOk : compFn Try.prog n_s_NameOk = some F_s_NameOk := by kernel_rfl
abbrev n_i_NameOk : Nat := 64
def F_i_NameOk : Fn1 := ⟨19, [.t 2], (.seq (.reg [o 2 (.mov (.k (.bool false)))]) (.seq (.seq (.reg [o 3 (.mov (.k (.int .i64 0)))]) (.blk 0 (.lop (.seq (.seq (.reg [o 4 (.mov (.t 3)), o 5 (.mov (.t 0)), o 6 (.len true (.t 5)), o 7 (.bin .lss (.t 4) (.t 6))]) (.cnd (.t 7) .skip (.ext 0))) (.seq (.blk 1 (.seq (.reg [o 10 (.mov (.t 0)), o 11 (.mov (.t 3)), o 12 (.idx (.t 10) (.t 11)), o 13 (.cvi .i64 (.t 12)), o 14 (.call 65 [(.t 13), (.k (.int .i64 97)), (.k (.int .i64 122))]), o 15 (.un .not (.t 14))]) (.cnd (.t 15) (.seq (.reg [o 2 (.mov (.k (.bool false)))]) .ret) .skip))) (.reg [o 8 (.mov (.t 3)), o 9 (.bin .add (.t 8) (.k (.int .i64 1))), o 3 (.mov (.t 9))])))))) (.seq (.reg [o 16 (.mov (.t 0)), o 17 (.len true (.t 16)), o 18 (.call 65 [(.t 17), (.k (.int .i64 1)), (.k (.int .i64 8))]), o 2 (.mov (.t 18))]) .ret)))⟩
theorem ir_i_NameOk : compFn Try.prog n_i_NameOk = some F_i_NameOk := by kernel_rfl
abbrev n_s_KnowOk : Nat := 66
def F_s_KnowOk : Fn1 := ⟨19, [.t 2], (.seq (.reg [o 2 (.mov (.k (.bool false)))]) (.seq (.seq (.reg [o 3 (.mov (.k (.int .i64 0)))]) (.blk 0 (.lop (.seq (.seq (.reg [o 4 (.mov (.t 3)), o 5 (.mov (.t 0)), o 6 (.len false (.t 5)), o 7 (.bin .lss (.t 4) (.t 6))]) (.cnd (.t 7) .skip (.ext 0))) (.seq (.blk 1 (.seq (.reg [o 10 (.mov (.t 0)), o 11 (.mov (.t 3)), o 12 (.iad 1 (.t 10) (.t 11)), o 13 (.ld false 1 (.t 12)), o 14 (.call 62 [(.t 13), (.k (.int .i64 0)), (.k (.int .i64 1000))]), o 15 (.un .not (.t 14))]) (.cnd (.t 15) (.seq (.reg [o 2 (.mov (.k (.bool false)))]) .ret) .skip))) (.reg [o 8 (.mov (.t 3)), o 9 (.bin .add (.t 8) (.k (.int .i64 1))), o 3 (.mov (.t 9))])))))) (.seq (.reg [o 16 (.mov (.t 0)), o 17 (.len false (.t 16)), o 18 (.bin .eql (.t 17) (.k (.int .i64 3))), o 2 (.mov (.t 18))]) .ret)))⟩
theorem ir_s_KnowOk : compFn Try.prog n_s_KnowOk = some F_s_KnowOk := by kernel_rfl
abbrev n_i_KnowOk : Nat := 68
def F_i_KnowOk : Fn1 := ⟨18, [.t 2], (.seq (.reg [o 2 (.mov (.k (.bool false)))]) (.seq (.seq (.reg [o 5 (.mov (.t 0)), o 6 (.len false (.t 5)), o 7 (.mov (.k (.int .i64 0)))]) (.blk 0 (.lop (.seq (.reg [o 8 (.bin .lss (.t 7) (.t 6))]) (.seq (.cnd (.t 8) .skip (.ext 0)) (.seq (.blk 1 (.seq (.reg [o 9 (.iad 1 (.t 5) (.t 7)), o 10 (.ld false 1 (.t 9)), o 4 (.mov (.t 10))]) (.seq (.reg [o 11 (.mov (.t 4)), o 12 (.call 65 [(.t 11), (.k (.int .i64 0)), (.k (.int .i64 1000))]), o 13 (.un .not (.t 12))]) (.cnd (.t 13) (.seq (.reg [o 2 (.mov (.k (.bool false)))]) .ret) .skip)))) (.reg [o 14 (.bin .add (.t 7) (.k (.int .i64 1))), o 7 (.mov (.t 14))]))))))) (.seq (.reg [o 15 (.mov (.t 0)), o 16 (.len false (.t 15)), o 17 (.bin .eql (.t 16) (.k (.int .i64 3))), o 2 (.mov (.t 17))]) .ret)))⟩
theorem ir_i_KnowOk : compFn Try.prog n_i_KnowOk = some F_i_KnowOk := by kernel_rfl
abbrev n_s_DotOk : Nat := 114
def F_s_DotOk : Fn1 := ⟨11, [.t 2], (.seq (.reg [o 1 (.box (.t 0)), o 2 (.mov (.k (.bool false)))]) (.seq (.reg [o 3 (.fad 0 (.t 1)), o 4 (.ld false 1 (.t 3)), o 5 (.call 62 [(.t 4), (.k (.int .i64 0)), (.k (.int .i64 2))]), o 6 (.mov (.t 5)), og 7 6 true (.fad 1 (.t 1)), og 8 6 true (.ld false 1 (.t 7)), og 9 6 true (.call 62 [(.t 8), (.k (.int .i64 1)), (.k (.int .i64 1000))]), o 10 (.pick (.t 6) (.t 9) (.k (.bool false))), o 2 (.mov (.t 10))]) .ret))⟩
theorem ir_s_DotOk : compFn Try.prog n_s_DotOk = some F_s_DotOk := by kernel_rfl
abbrev n_i_DotOk : Nat := 116
def F_i_DotOk : Fn1 := ⟨11, [.t 2], (.seq (.reg [o 1 (.box (.t 0)), o 2 (.mov (.k (.bool false)))]) (.seq (.reg [o 3 (.fad 0 (.t 1)), o 4 (.ld false 1 (.t 3)), o 5 (.call 65 [(.t 4), (.k (.int .i64 0)), (.k (.int .i64 2))]), o 6 (.mov (.t 5)), og 7 6 true (.fad 1 (.t 1)), og 8 6 true (.ld false 1 (.t 7)), og 9 6 true (.call 65 [(.t 8), (.k (.int .i64 1)), (.k (.int .i64 1000))]), o 10 (.pick (.t 6) (.t 9) (.k (.bool false))), o 2 (.mov (.t 10))]) .ret))⟩
theorem ir_i_DotOk : compFn Try.prog n_i_DotOk = some F_i_DotOk := by kernel_rfl
abbrev n_s_Knows : Nat := 84
def F_s_Knows : Fn1 := ⟨21, [.t 4], (.seq (.reg [o 3 (.box (.t 1)), o 4 (.mov (.k (.bool false)))]) (.seq (.drw [o 5 (.mov (.t 0)), o 6 (.call 66 [(.t 5)]), o 7 (.mov (.t 6)), og 8 7 true (.ld true 2 (.t 3)), og 9 7 true (.call 114 [(.t 8)]), o 10 (.pick (.t 7) (.t 9) (.k (.bool false))), o 11 (.mov (.t 10)), og 12 11 true (.fad 1 (.t 3)), og 13 11 true (.ld false 1 (.t 12)), og 14 11 true (.mov (.t 0)), og 15 11 true (.fad 0 (.t 3)), og 16 11 true (.ld false 1 (.t 15)), og 17 11 true (.iad 1 (.t 14) (.t 16)), og 18 11 true (.ld false 1 (.t 17))] [og 19 11 true (.bin .leq (.t 13) (.t 18)), o 20 (.pick (.t 11) (.t 19) (.k (.bool false))), o 4 (.mov (.t 20))]) .ret))⟩
theorem ir_s_Knows : compFn Try.prog n_s_Knows = some F_s_Knows := by kernel_rfl
abbrev n_i_Knows : Nat := 86
def F_i_Knows : Fn1 := ⟨21, [.t 4], (.seq (.reg [o 3 (.box (.t 1)), o 4 (.mov (.k (.bool false)))]) (.seq (.drw [o 5 (.mov (.t 0)), o 6 (.call 68 [(.t 5)]), o 7 (.mov (.t 6)), og 8 7 true (.ld true 2 (.t 3)), og 9 7 true (.call 116 [(.t 8)]), o 10 (.pick (.t 7) (.t 9) (.k (.bool false))), o 11 (.mov (.t 10)), og 12 11 true (.fad 1 (.t 3)), og 13 11 true (.ld false 1 (.t 12)), og 14 11 true (.mov (.t 0)), og 15 11 true (.fad 0 (.t 3)), og 16 11 true (.ld false 1 (.t 15)), og 17 11 true (.iad 1 (.t 14) (.t 16)), og 18 11 true (.ld false 1 (.t 17))] [og 19 11 true (.bin .leq (.t 13) (.t 18)), o 20 (.pick (.t 11) (.t 19) (.k (.bool false))), o 4 (.mov (.t 20))]) .ret))⟩
theorem ir_i_Knows : compFn Try.prog n_i_Knows = some F_i_Knows := by kernel_rfl
abbrev n_s_l05Keyed : Nat := 133
def F_s_l05Keyed : Fn1 := ⟨5, [.t 2], (.seq (.reg [o 2 (.mov (.k (.bool false)))]) (.seq (.reg [o 3 (.mov (.t 0)), o 4 (.call 62 [(.t 3), (.k (.int .i64 2)), (.k (.int .i64 5))]), o 2 (.mov (.t 4))]) .ret))⟩
theorem ir_s_l05Keyed : compFn Try.prog n_s_l05Keyed = some F_s_l05Keyed := by kernel_rfl
abbrev n_s_l05Valued : Nat := 134
def F_s_l05Valued : Fn1 := ⟨13, [.t 2], (.seq (.reg [o 2 (.mov (.k (.bool false)))]) (.seq (.reg [o 3 (.mov (.t 0)), o 4 (.bin .eql (.t 3) (.k (.int .i64 1))), o 5 (.mov (.t 4)), og 6 5 false (.mov (.t 0)), og 7 5 false (.bin .eql (.t 6) (.k (.int .i64 4))), o 8 (.pick (.t 5) (.k (.bool true)) (.t 7)), o 9 (.mov (.t 8)), og 10 9 false (.mov (.t 0)), og 11 9 false (.bin .eql (.t 10) (.k (.int .i64 6))), o 12 (.pick (.t 9) (.k (.bool true)) (.t 11)), o 2 (.mov (.t 12))]) .ret))⟩
theorem ir_s_l05Valued : compFn Try.prog n_s_l05Valued = some F_s_l05Valued := by kernel_rfl
abbrev n_i_hasKey : Nat := 135
def F_i_hasKey : Fn1 := ⟨5, [.t 2], (.seq (.reg [o 2 (.mov (.k (.bool false)))]) (.seq (.reg [o 3 (.mov (.t 0)), o 4 (.call 65 [(.t 3), (.k (.int .i64 2)), (.k (.int .i64 5))]), o 2 (.mov (.t 4))]) .ret))⟩
theorem ir_i_hasKey : compFn Try.prog n_i_hasKey = some F_i_hasKey := by kernel_rfl
abbrev n_i_hasVal : Nat := 136
def F_i_hasVal : Fn1 := ⟨13, [.t 2], (.seq (.reg [o 2 (.mov (.k (.bool false)))]) (.seq (.reg [o 3 (.mov (.t 0)), o 4 (.bin .eql (.t 3) (.k (.int .i64 1))), o 5 (.mov (.t 4)), og 6 5 false (.mov (.t 0)), og 7 5 false (.bin .eql (.t 6) (.k (.int .i64 4))), o 8 (.pick (.t 5) (.k (.bool true)) (.t 7)), o 9 (.mov (.t 8)), og 10 9 false (.mov (.t 0)), og 11 9 false (.bin .eql (.t 10) (.k (.int .i64 6))), o 12 (.pick (.t 9) (.k (.bool true)) (.t 11)), o 2 (.mov (.t 12))]) .ret))⟩
theorem ir_i_hasVal : compFn Try.prog n_i_hasVal = some F_i_hasVal := by kernel_rfl
abbrev n_s_l05Plain : Nat := 115
def F_s_l05Plain : Fn1 := ⟨45, [.t 8], (.seq (.reg [o 8 (.mov (.k (.bool false)))]) (.seq (.seq (.reg [o 9 (.mov (.t 0)), o 10 (.call 62 [(.t 9), (.k (.int .i64 1)), (.k (.int .i64 7))]), o 11 (.un .not (.t 10)), o 12 (.mov (.t 11)), og 13 12 false (.mov (.t 1)), og 14 12 false (.call 63 [(.t 13)]), og 15 12 false (.un .not (.t 14)), o 16 (.pick (.t 12) (.k (.bool true)) (.t 15)), o 17 (.mov (.t 16)), og 18 17 false (.mov (.t 0)), og 19 17 false (.call 133 [(.t 18)]), og 20 17 false (.mov (.t 19)), og 21 20 true (.mov (.t 2)), og 22 20 true (.call 63 [(.t 21)]), og 23 20 true (.un .not (.t 22)), og 24 17 false (.pick (.t 20) (.t 23) (.k (.bool false))), o 25 (.pick (.t 17) (.k (.bool true)) (.t 24)), o 26 (.mov (.t 25)), og 27 26 false (.mov (.t 0)), og 28 26 false (.call 133 [(.t 27)]), og 29 26 false (.un .not (.t 28)), og 30 26 false (.mov (.t 29)), og 31 30 true (.mov (.t 2)), og 32 30 true (.bin .neq (.t 31) (.k (.str ⟨#[]⟩))), og 33 26 false (.pick (.t 30) (.t 32) (.k (.bool false))), o 34 (.pick (.t 26) (.k (.bool true)) (.t 33))]) (.cnd (.t 34) (.seq (.reg [o 8 (.mov (.k (.bool false)))]) .ret) .skip)) (.seq (.reg [o 35 (.mov (.t 3)), o 36 (.bin .eql (.t 35) (.k (.int .i64 0))), o 37 (.mov (.t 36)), og 38 37 false (.mov (.t 0)), og 39 37 false (.call 134 [(.t 38)]), og 40 37 false (.mov (.t 39)), og 41 40 true (.mov (.t 3)), og 42 40 true (.call 62 [(.t 41), (.k (.int .i64 0)), (.k (.int .i64 999999))]), og 43 37 false (.pick (.t 40) (.t 42) (.k (.bool false))), o 44 (.pick (.t 37) (.k (.bool true)) (.t 43)), o 8 (.mov (.t 44))]) .ret)))⟩
theorem ir_s_l05Plain : compFn Try.prog n_s_l05Plain = some F_s_l05Plain := by kernel_rfl
abbrev n_i_wordsOk : Nat := 117
def F_i_wordsOk : Fn1 := ⟨46, [.t 8], (.seq (.reg [o 8 (.mov (.k (.bool false)))]) (.seq (.seq (.reg [o 10 (.mov (.t 0)), o 11 (.call 65 [(.t 10), (.k (.int .i64 1)), (.k (.int .i64 7))]), o 12 (.un .not (.t 11)), o 13 (.mov (.t 12)), og 14 13 false (.mov (.t 1)), og 15 13 false (.call 64 [(.t 14)]), og 16 13 false (.un .not (.t 15)), o 17 (.pick (.t 13) (.k (.bool true)) (.t 16))]) (.cnd (.t 17) (.seq (.reg [o 8 (.mov (.k (.bool false)))]) .ret) .skip)) (.seq (.reg [o 18 (.mov (.t 2)), o 19 (.bin .eql (.t 18) (.k (.str ⟨#[]⟩))), o 20 (.mov (.t 19)), og 21 20 true (.mov (.t 0)), og 22 20 true (.call 135 [(.t 21)]), og 23 20 true (.un .not (.t 22)), o 24 (.pick (.t 20) (.t 23) (.k (.bool false))), o 25 (.mov (.t 24)), og 26 25 false (.mov (.t 2)), og 27 25 false (.call 64 [(.t 26)]), og 28 25 false (.mov (.t 27)), og 29 28 true (.mov (.t 0)), og 30 28 true (.call 135 [(.t 29)]), og 31 25 false (.pick (.t 28) (.t 30) (.k (.bool false))), o 32 (.pick (.t 25) (.k (.bool true)) (.t 31)), o 9 (.mov (.t 32))]) (.seq (.reg [o 33 (.mov (.t 9)), o 34 (.mov (.t 33)), og 35 34 true (.mov (.t 3)), og 36 34 true (.bin .eql (.t 35) (.k (.int .i64 0))), og 37 34 true (.mov (.t 36)), og 38 37 false (.mov (.t 0)), og 39 37 false (.call 136 [(.t 38)]), og 40 37 false (.mov (.t 39)), og 41 40 true (.mov (.t 3)), og 42 40 true (.call 65 [(.t 41), (.k (.int .i64 0)), (.k (.int .i64 999999))]), og 43 37 false (.pick (.t 40) (.t 42) (.k (.bool false))), og 44 34 true (.pick (.t 37) (.k (.bool true)) (.t 43)), o 45 (.pick (.t 34) (.t 44) (.k (.bool false))), o 8 (.mov (.t 45))]) .ret))))⟩
theorem ir_i_wordsOk : compFn Try.prog n_i_wordsOk = some F_i_wordsOk := by kernel_rfl
abbrev n_s_ActOk : Nat := 83
def F_s_ActOk : Fn1 := ⟨71, [.t 2], (.seq (.reg [o 1 (.box (.t 0)), o 2 (.mov (.k (.bool false)))]) (.seq (.seq (.drw [o 3 (.fad 0 (.t 1)), o 4 (.ld true 2 (.t 3)), o 5 (.call 114 [(.t 4)]), o 6 (.un .not (.t 5)), o 7 (.mov (.t 6)), og 8 7 false (.fad 3 (.t 1)), og 9 7 false (.ld false 1 (.t 8)), og 10 7 false (.call 66 [(.t 9)]), og 11 7 false (.un .not (.t 10)), o 12 (.pick (.t 7) (.k (.bool true)) (.t 11)), o 13 (.mov (.t 12)), og 14 13 false (.fad 3 (.t 1)), og 15 13 false (.ld false 1 (.t 14)), og 16 13 false (.fad 0 (.t 1)), og 17 13 false (.fad 0 (.t 16)), og 18 13 false (.ld false 1 (.t 17)), og 19 13 false (.iad 1 (.t 15) (.t 18)), og 20 13 false (.ld false 1 (.t 19)), og 21 13 false (.fad 0 (.t 1)), og 22 13 false (.fad 1 (.t 21)), og 23 13 false (.ld false 1 (.t 22)), og 24 13 false (.bin .sub (.t 23) (.k (.int .i64 1))), og 25 13 false (.bin .neq (.t 20) (.t 24)), o 26 (.pick (.t 13) (.k (.bool true)) (.t 25)), o 27 (.mov (.t 26)), og 28 27 false (.fad 2 (.t 1)), og 29 27 false (.ld false 1 (.t 28)), og 30 27 false (.call 62 [(.t 29), (.k (.int .i64 1)), (.k (.int .i64 10000))]), og 31 27 false (.un .not (.t 30)), o 32 (.pick (.t 27) (.k (.bool true)) (.t 31)), o 33 (.mov (.t 32)), og 34 33 false (.fad 4 (.t 1)), og 35 33 false (.ld false 1 (.t 34)), og 36 33 false (.fad 5 (.t 1)), og 37 33 false (.ld false 1 (.t 36)), og 38 33 false (.fad 6 (.t 1)), og 39 33 false (.ld false 1 (.t 38)), og 40 33 false (.fad 7 (.t 1)), og 41 33 false (.ld false 1 (.t 40))] [og 42 33 false (.call 115 [(.t 35), (.t 37), (.t 39), (.t 41)]), og 43 33 false (.un .not (.t 42)), o 44 (.pick (.t 33) (.k (.bool true)) (.t 43))]) (.cnd (.t 44) (.seq (.reg [o 2 (.mov (.k (.bool false)))]) .ret) .skip)) (.seq (.seq (.reg [o 45 (.fad 4 (.t 1)), o 46 (.ld false 1 (.t 45))]) (.blk 0 (.seq (.reg [o 48 (.bin .eql (.t 46) (.k (.int .i64 7))), o 47 (.mov (.t 48))]) (.cnd (.t 47) (.seq (.reg [o 49 (.fad 3 (.t 1)), o 50 (.ld false 1 (.t 49)), o 51 (.fad 8 (.t 1)), o 52 (.ld true 2 (.t 51)), o 53 (.call 84 [(.t 50), (.t 52)]), o 2 (.mov (.t 53))]) .ret) (.seq (.reg [o 55 (.bin .eql (.t 46) (.k (.int .i64 6))), o 54 (.mov (.t 55))]) (.cnd (.t 54) (.seq (.reg [o 56 (.fad 8 (.t 1)), o 57 (.ld true 2 (.t 56)), o 58 (.build [(.int .i64 0), (.int .i64 0)] []), o 59 (.eqs false [.i .i64, .i .i64] (.t 57) (.t 58)), o 60 (.mov (.t 59)), og 61 60 false (.fad 3 (.t 1)), og 62 60 false (.ld false 1 (.t 61)), og 63 60 false (.fad 8 (.t 1)), og 64 60 false (.ld true 2 (.t 63)), og 65 60 false (.call 84 [(.t 62), (.t 64)]), o 66 (.pick (.t 60) (.k (.bool true)) (.t 65)), o 2 (.mov (.t 66))]) .ret) .skip)))))) (.seq (.reg [o 67 (.fad 8 (.t 1)), o 68 (.ld true 2 (.t 67)), o 69 (.build [(.int .i64 0), (.int .i64 0)] []), o 70 (.eqs false [.i .i64, .i .i64] (.t 68) (.t 69)), o 2 (.mov (.t 70))]) .ret))))⟩
theorem ir_s_ActOk : compFn Try.prog n_s_ActOk = some F_s_ActOk := by kernel_rfl
abbrev n_i_ActOk : Nat := 85
def F_i_ActOk : Fn1 := ⟨71, [.t 2], (.seq (.reg [o 1 (.box (.t 0)), o 2 (.mov (.k (.bool false)))]) (.seq (.seq (.drw [o 5 (.fad 0 (.t 1)), o 6 (.ld true 2 (.t 5)), o 7 (.call 116 [(.t 6)]), o 8 (.un .not (.t 7)), o 9 (.mov (.t 8)), og 10 9 false (.fad 3 (.t 1)), og 11 9 false (.ld false 1 (.t 10)), og 12 9 false (.call 68 [(.t 11)]), og 13 9 false (.un .not (.t 12)), o 14 (.pick (.t 9) (.k (.bool true)) (.t 13)), o 15 (.mov (.t 14)), og 16 15 false (.fad 3 (.t 1)), og 17 15 false (.ld false 1 (.t 16)), og 18 15 false (.fad 0 (.t 1)), og 19 15 false (.fad 0 (.t 18)), og 20 15 false (.ld false 1 (.t 19)), og 21 15 false (.iad 1 (.t 17) (.t 20)), og 22 15 false (.ld false 1 (.t 21)), og 23 15 false (.fad 0 (.t 1)), og 24 15 false (.fad 1 (.t 23)), og 25 15 false (.ld false 1 (.t 24)), og 26 15 false (.bin .sub (.t 25) (.k (.int .i64 1)))] [og 27 15 false (.bin .neq (.t 22) (.t 26)), o 28 (.pick (.t 15) (.k (.bool true)) (.t 27)), o 29 (.mov (.t 28)), og 30 29 false (.fad 2 (.t 1)), og 31 29 false (.ld false 1 (.t 30)), og 32 29 false (.call 65 [(.t 31), (.k (.int .i64 1)), (.k (.int .i64 10000))]), og 33 29 false (.un .not (.t 32)), o 34 (.pick (.t 29) (.k (.bool true)) (.t 33))]) (.cnd (.t 34) (.seq (.reg [o 2 (.mov (.k (.bool false)))]) .ret) .skip)) (.seq (.reg [o 35 (.fad 8 (.t 1)), o 36 (.ld true 2 (.t 35)), o 37 (.build [(.int .i64 0), (.int .i64 0)] []), o 38 (.eqs false [.i .i64, .i .i64] (.t 36) (.t 37)), o 3 (.mov (.t 38))]) (.seq (.reg [o 39 (.mov (.t 3)), o 4 (.mov (.t 39))]) (.seq (.seq (.reg [o 40 (.fad 4 (.t 1)), o 41 (.ld false 1 (.t 40))]) (.blk 0 (.seq (.reg [o 43 (.bin .eql (.t 41) (.k (.int .i64 7))), o 42 (.mov (.t 43))]) (.cnd (.t 42) (.reg [o 44 (.fad 3 (.t 1)), o 45 (.ld false 1 (.t 44)), o 46 (.fad 8 (.t 1)), o 47 (.ld true 2 (.t 46)), o 48 (.call 86 [(.t 45), (.t 47)]), o 4 (.mov (.t 48))]) (.seq (.reg [o 50 (.bin .eql (.t 41) (.k (.int .i64 6))), o 49 (.mov (.t 50))]) (.cnd (.t 49) (.reg [o 51 (.mov (.t 3)), o 52 (.mov (.t 51)), og 53 52 false (.fad 3 (.t 1)), og 54 52 false (.ld false 1 (.t 53)), og 55 52 false (.fad 8 (.t 1)), og 56 52 false (.ld true 2 (.t 55)), og 57 52 false (.call 86 [(.t 54), (.t 56)]), o 58 (.pick (.t 52) (.k (.bool true)) (.t 57)), o 4 (.mov (.t 58))]) .skip)))))) (.seq (.reg [o 59 (.mov (.t 4)), o 60 (.mov (.t 59)), og 61 60 true (.fad 4 (.t 1)), og 62 60 true (.ld false 1 (.t 61)), og 63 60 true (.fad 5 (.t 1)), og 64 60 true (.ld false 1 (.t 63)), og 65 60 true (.fad 6 (.t 1)), og 66 60 true (.ld false 1 (.t 65)), og 67 60 true (.fad 7 (.t 1)), og 68 60 true (.ld false 1 (.t 67)), og 69 60 true (.call 117 [(.t 62), (.t 64), (.t 66), (.t 68)]), o 70 (.pick (.t 60) (.t 69) (.k (.bool false))), o 2 (.mov (.t 70))]) .ret))))))⟩
theorem ir_i_ActOk : compFn Try.prog n_i_ActOk = some F_i_ActOk := by kernel_rfl
/-- A call that tells a bool. -/
theorem by_bool {P : Program} {env : Env} {σ : St} {K : Kt} {r : List Op1} {d : Option Nat} {D : Bool} {f : Nat} {args : List GV} {b : Bool} (h : Ret P f args σ (.bool b) σ) (ht : b = true → vcOps D P r K (upo env d (.bool true)) σ) (hf : b = false → vcOps D P r K (upo env d (.bool false)) σ) : bindC D f args P r K env d σ := by
  cases b with
  | true => exact by_ret h (ht rfl)
  | false => exact by_ret h (hf rfl)
def inB (n a b : Int) : Bool := decide (a ≤ n) && decide (n ≤ b)
theorem inB_iff {n a b : Int} : inB n a b = true ↔ a ≤ n ∧ n ≤ b := by simp [inB]
theorem s_l01In_ret (σ : St) (n a b : Int) : Ret Try.prog n_s_l01In [gi n, gi a, gi b] σ (.bool (inB n a b)) σ := by
  refine ret_eq ir_s_l01In (Nat.le_of_ble_eq_true rfl) trivial ?_
  simp +contextual (disch := omega) only [go_sem, Nat.reduceEqDiff, ↓reduceIte, Int.reduceEq, Int.reduceNeg, wrap_add, F_s_l01In, inB]
theorem i_within_ret (σ : St) (n a b : Int) : Ret Try.prog n_i_within [gi n, gi a, gi b] σ (.bool (inB n a b)) σ := by
  refine ret_eq ir_i_within (Nat.le_of_ble_eq_true rfl) trivial ?_
  simp +contextual (disch := omega) only [go_sem, Nat.reduceEqDiff, ↓reduceIte, Int.reduceEq, Int.reduceNeg, wrap_add, F_i_within, inB]
/-! Texts, byte by byte. -/
def bl (s : ByteArray) : List UInt8 := s.data.toList
theorem bl_length (s : ByteArray) : (bl s).length = s.size := by
  unfold bl; rw [Array.length_toList]; rfl
theorem idx_at {s : ByteArray} {i : Nat} (hi : i < (bl s).length) : idxG (.str s) (some i) = some (.int .u8 (((bl s)[i].toNat : Nat) : Int)) := by
  have h2 : i < s.size := by rw [← bl_length]; exact hi
  have e : s[i]? = some (bl s)[i] := by
    rw [getElem?_pos s i h2]; rfl
  simp only [idxG, e, Option.map_some]; rfl
theorem u8_lt (b : UInt8) : b.toNat < 256 := b.toNat_lt
def lowB (b : UInt8) : Bool := inB (b.toNat : Int) 97 122
def nameOk (s : ByteArray) : Bool := (bl s).all lowB && inB s.size 1 8
theorem s_NameOk_ret (σ : St) (s : ByteArray) (hs : s.size ≤ 1099511627776) : Ret Try.prog n_s_NameOk [.str s] σ (.bool (nameOk s)) σ := by
  refine ret_eq ir_s_NameOk (Nat.le_of_ble_eq_true rfl) trivial ?_
  simp +contextual (disch := omega) only [go_sem, Nat.reduceEqDiff, ↓reduceIte, Int.reduceEq, Int.reduceNeg, wrap_add, F_s_NameOk]
  refine vc_for (bl s).length 3 (fun i env τ => env 0 = .str s ∧ ((bl s).take i).all lowB = true ∧ σ <+: τ) rfl ⟨rfl, rfl, List.prefix_refl _⟩ ?_ ?_
  · rintro i env τ hi e3 c0 ⟨e0, ha, hp⟩
    have hl := bl_length s
    rw [hl] at c0
    have hf := fun h => all_false_at (p := lowB) hi h
    have ht := take_all_succ hi ha
    simp +contextual (disch := omega) only [go_sem, Nat.reduceEqDiff, ↓reduceIte, Int.reduceEq, Int.reduceNeg, wrap_add, c0, e0, e3, idx_at hi, hp]
    simp only [lowB, inB, nameOk] at *
    generalize (((bl s)[i].toNat : Nat) : Int) = b at *
    grind
  · rintro env τ e3 c0 ⟨e0, ha, hp⟩
    rw [List.take_length] at ha
    rw [bl_length] at c0 e3
    simp +contextual (disch := omega) only [go_sem, Nat.reduceEqDiff, ↓reduceIte, Int.reduceEq, Int.reduceNeg, wrap_add, c0, e0, e3]
    refine by_ret (s_l01In_ret τ _ _ _) ?_
    simp +contextual (disch := omega) only [go_sem, Nat.reduceEqDiff, ↓reduceIte, Int.reduceEq, Int.reduceNeg, wrap_add, nameOk, ha, hp]
theorem i_NameOk_ret (σ : St) (s : ByteArray) (hs : s.size ≤ 1099511627776) : Ret Try.prog n_i_NameOk [.str s] σ (.bool (nameOk s)) σ := by
  refine ret_eq ir_i_NameOk (Nat.le_of_ble_eq_true rfl) trivial ?_
  simp +contextual (disch := omega) only [go_sem, Nat.reduceEqDiff, ↓reduceIte, Int.reduceEq, Int.reduceNeg, wrap_add, F_i_NameOk]
  refine vc_for (bl s).length 3 (fun i env τ => env 0 = .str s ∧ ((bl s).take i).all lowB = true ∧ σ <+: τ) rfl ⟨rfl, rfl, List.prefix_refl _⟩ ?_ ?_
  · rintro i env τ hi e3 c0 ⟨e0, ha, hp⟩
    have hl := bl_length s
    rw [hl] at c0
    have hf := fun h => all_false_at (p := lowB) hi h
    have ht := take_all_succ hi ha
    have h8 := u8_lt (bl s)[i]
    simp +contextual (disch := omega) only [go_sem, Nat.reduceEqDiff, ↓reduceIte, Int.reduceEq, Int.reduceNeg, wrap_add, c0, e0, e3, idx_at hi, cvi_int]
    refine by_bool (i_within_ret τ _ _ _) (fun h => ?_) (fun h => ?_)
    · simp +contextual (disch := omega) only [go_sem, Nat.reduceEqDiff, ↓reduceIte, Int.reduceEq, Int.reduceNeg, wrap_add, e0, e3, hp]
      exact ht h
    · simp +contextual (disch := omega) only [go_sem, Nat.reduceEqDiff, ↓reduceIte, Int.reduceEq, Int.reduceNeg, wrap_add, e0, e3, hp]
      simp [nameOk, hf h]
  · rintro env τ e3 c0 ⟨e0, ha, hp⟩
    rw [List.take_length] at ha
    rw [bl_length] at c0 e3
    simp +contextual (disch := omega) only [go_sem, Nat.reduceEqDiff, ↓reduceIte, Int.reduceEq, Int.reduceNeg, wrap_add, c0, e0, e3]
    refine by_ret (i_within_ret τ _ _ _) ?_
    simp +contextual (disch := omega) only [go_sem, Nat.reduceEqDiff, ↓reduceIte, Int.reduceEq, Int.reduceNeg, wrap_add, nameOk, ha, hp]
/-! Knowledge. -/
def seqB (n : Int) : Bool := inB n 0 1000
def okK (l : List Int) : Bool := l.all seqB && decide (l.length = 3)
theorem okK_len {l : List Int} (h : okK l = true) : l.length = 3 := by
  simp only [okK, Bool.and_eq_true, decide_eq_true_eq] at h
  exact h.2
theorem okK_mem {l : List Int} (h : okK l = true) {x : Int} (hx : x ∈ l) : 0 ≤ x ∧ x ≤ 1000 := by
  simp only [okK, Bool.and_eq_true, List.all_eq_true] at h
  exact inB_iff.1 (h.1 x hx)
theorem s_KnowOk_ret (σ : St) (v : GV) (l : List Int) (h : RS pI.kd σ v l) (hl : l.length ≤ 1099511627776) : Ret Try.prog n_s_KnowOk [v] σ (.bool (okK l)) σ := by
  refine ret_eq ir_s_KnowOk (Nat.le_of_ble_eq_true rfl) trivial ?_
  simp +contextual (disch := omega) only [go_sem, Nat.reduceEqDiff, ↓reduceIte, Int.reduceEq, Int.reduceNeg, wrap_add, F_s_KnowOk]
  refine vc_for l.length 3 (fun i env τ => env 0 = v ∧ (l.take i).all seqB = true ∧ σ <+: τ) rfl ⟨rfl, rfl, List.prefix_refl _⟩ ?_ ?_
  · rintro i env τ hi e3 c0 ⟨e0, ha, hp⟩
    have hf := fun h => all_false_at (p := seqB) hi h
    have ht := take_all_succ hi ha
    simp +contextual (disch := omega) only [go_sem, Nat.reduceEqDiff, ↓reduceIte, Int.reduceEq, Int.reduceNeg, wrap_add, c0, e0, e3, h.len, int_at (h.pre hp) hi]
    refine by_bool (s_l01In_ret τ _ _ _) (fun h => ?_) (fun h => ?_)
    · simp +contextual (disch := omega) only [go_sem, Nat.reduceEqDiff, ↓reduceIte, Int.reduceEq, Int.reduceNeg, wrap_add, e0, e3, hp]
      exact ht h
    · simp +contextual (disch := omega) only [go_sem, Nat.reduceEqDiff, ↓reduceIte, Int.reduceEq, Int.reduceNeg, wrap_add, e0, e3, hp]
      simp [okK, hf h]
  · rintro env τ e3 c0 ⟨e0, ha, hp⟩
    rw [List.take_length] at ha
    simp +contextual (disch := omega) only [go_sem, Nat.reduceEqDiff, ↓reduceIte, Int.reduceEq, Int.reduceNeg, wrap_add, c0, e0, e3, h.len, hp, okK, ha]
    exact len_beq
theorem i_KnowOk_ret (σ : St) (v : GV) (l : List Int) (h : RS pI.kd σ v l) (hl : l.length ≤ 1099511627776) : Ret Try.prog n_i_KnowOk [v] σ (.bool (okK l)) σ := by
  refine ret_eq ir_i_KnowOk (Nat.le_of_ble_eq_true rfl) trivial ?_
  simp +contextual (disch := omega) only [go_sem, Nat.reduceEqDiff, ↓reduceIte, Int.reduceEq, Int.reduceNeg, wrap_add, F_i_KnowOk, h.len]
  refine vc_for l.length 7 (fun i env τ => env 0 = v ∧ env 5 = v ∧ env 6 = gi l.length ∧ (l.take i).all seqB = true ∧ σ <+: τ) rfl ⟨rfl, rfl, rfl, rfl, List.prefix_refl _⟩ ?_ ?_
  · rintro i env τ hi e7 c0 ⟨e0, e5, e6, ha, hp⟩
    have hf := fun h => all_false_at (p := seqB) hi h
    have ht := take_all_succ hi ha
    simp +contextual (disch := omega) only [go_sem, Nat.reduceEqDiff, ↓reduceIte, Int.reduceEq, Int.reduceNeg, wrap_add, c0, e0, e5, e6, e7, h.len, int_at (h.pre hp) hi]
    refine by_bool (i_within_ret τ _ _ _) (fun h => ?_) (fun h => ?_)
    · simp +contextual (disch := omega) only [go_sem, Nat.reduceEqDiff, ↓reduceIte, Int.reduceEq, Int.reduceNeg, wrap_add, e0, e5, e6, e7, hp]
      exact ht h
    · simp +contextual (disch := omega) only [go_sem, Nat.reduceEqDiff, ↓reduceIte, Int.reduceEq, Int.reduceNeg, wrap_add, e0, e5, e6, e7, hp]
      simp [okK, hf h]
  · rintro env τ e7 c0 ⟨e0, e5, e6, ha, hp⟩
    rw [List.take_length] at ha
    simp +contextual (disch := omega) only [go_sem, Nat.reduceEqDiff, ↓reduceIte, Int.reduceEq, Int.reduceNeg, wrap_add, c0, e0, e5, e6, e7, h.len, hp, okK, ha]
    exact len_beq
def dotOk (d : Dot) : Bool := inB d.rep 0 2 && inB d.seq 1 1000
theorem dotOk_iff {d : Dot} : dotOk d = true ↔ (0 ≤ d.rep ∧ d.rep ≤ 2) ∧ 1 ≤ d.seq ∧ d.seq ≤ 1000 := by simp [dotOk, inB_iff]
theorem s_DotOk_ret (σ : St) (d : Dot) : Ret Try.prog n_s_DotOk [.agg [gi d.rep, gi d.seq]] σ (.bool (dotOk d)) σ := by
  refine ret_eq ir_s_DotOk (Nat.le_of_ble_eq_true rfl) trivial ?_
  simp +contextual (disch := omega) only [go_sem, Nat.reduceEqDiff, ↓reduceIte, Int.reduceEq, Int.reduceNeg, wrap_add, F_s_DotOk]
  refine by_bool (s_l01In_ret _ _ _ _) (fun h => ?_) (fun h => ?_)
  · simp +contextual (disch := omega) only [go_sem, Nat.reduceEqDiff, ↓reduceIte, Int.reduceEq, Int.reduceNeg, wrap_add, List.append_nil]
    refine by_ret (s_l01In_ret _ _ _ _) ?_
    simp +contextual (disch := omega) only [go_sem, Nat.reduceEqDiff, ↓reduceIte, Int.reduceEq, Int.reduceNeg, wrap_add, dotOk, h]
  · simp +contextual (disch := omega) only [go_sem, Nat.reduceEqDiff, ↓reduceIte, Int.reduceEq, Int.reduceNeg, wrap_add, dotOk, h]
theorem i_DotOk_ret (σ : St) (d : Dot) : Ret Try.prog n_i_DotOk [.agg [gi d.rep, gi d.seq]] σ (.bool (dotOk d)) σ := by
  refine ret_eq ir_i_DotOk (Nat.le_of_ble_eq_true rfl) trivial ?_
  simp +contextual (disch := omega) only [go_sem, Nat.reduceEqDiff, ↓reduceIte, Int.reduceEq, Int.reduceNeg, wrap_add, F_i_DotOk]
  refine by_bool (i_within_ret _ _ _ _) (fun h => ?_) (fun h => ?_)
  · simp +contextual (disch := omega) only [go_sem, Nat.reduceEqDiff, ↓reduceIte, Int.reduceEq, Int.reduceNeg, wrap_add, List.append_nil]
    refine by_ret (i_within_ret _ _ _ _) ?_
    simp +contextual (disch := omega) only [go_sem, Nat.reduceEqDiff, ↓reduceIte, Int.reduceEq, Int.reduceNeg, wrap_add, dotOk, h]
  · simp +contextual (disch := omega) only [go_sem, Nat.reduceEqDiff, ↓reduceIte, Int.reduceEq, Int.reduceNeg, wrap_add, dotOk, h]
def at0 (l : List Int) (r : Int) : Int := l.getD r.toNat 0
def knows (k : List Int) (d : Dot) : Bool := okK k && dotOk d && decide (d.seq ≤ at0 k d.rep)
theorem natOf_pos {k : IntKind} {n : Int} (h : 0 ≤ n) : natOf (some (.int k n)) = some n.toNat := by simp [natOf, h]
theorem rep_at {σ : St} {v : GV} {l : List Int} {r : Int} (h : RS pI.kd σ v l) (hk : okK l = true) (h0 : 0 ≤ r) (h2 : r ≤ 2) : (natOf (some (gi r)) = some r.toNat ∧ iadG 1 v (some r.toNat) = some (atz 1 v r.toNat)) ∧ ldG false 1 σ (atz 1 v r.toNat) = some (gi (at0 l r)) := by
  have hl := okK_len hk
  have hi : r.toNat < l.length := by omega
  have e := int_at h hi
  refine ⟨⟨natOf_pos h0, e.1⟩, ?_⟩
  rw [e.2, at0, List.getD_eq_getElem?_getD, List.getElem?_eq_getElem hi]; rfl
theorem s_Knows_ret (σ : St) (v : GV) (k : List Int) (d : Dot) (h : RS pI.kd σ v k) (hl : k.length ≤ 1099511627776) : Ret Try.prog n_s_Knows [v, .agg [gi d.rep, gi d.seq]] σ (.bool (knows k d)) σ := by
  refine ret_eq ir_s_Knows (Nat.le_of_ble_eq_true rfl) trivial ?_
  simp +contextual (disch := omega) only [go_sem, Nat.reduceEqDiff, ↓reduceIte, Int.reduceEq, Int.reduceNeg, wrap_add, F_s_Knows]
  have h1 := h.pre (pre1 σ (some (Blk.row 1 [gi d.rep, gi d.seq])))
  refine by_bool (s_KnowOk_ret _ v k h1 hl) (fun hk => ?_) (fun hk => ?_)
  · simp +contextual (disch := omega) only [go_sem, Nat.reduceEqDiff, ↓reduceIte, Int.reduceEq, Int.reduceNeg, wrap_add, List.append_nil]
    refine by_bool (s_DotOk_ret _ d) (fun hd => ?_) (fun hd => ?_)
    · have hd' := dotOk_iff.1 hd
      have hr := rep_at h1 hk hd'.1.1 hd'.1.2
      simp +contextual (disch := omega) only [go_sem, Nat.reduceEqDiff, ↓reduceIte, Int.reduceEq, Int.reduceNeg, wrap_add, hr, knows, hk, hd]
    · simp +contextual (disch := omega) only [go_sem, Nat.reduceEqDiff, ↓reduceIte, Int.reduceEq, Int.reduceNeg, wrap_add, knows, hk, hd]
  · simp +contextual (disch := omega) only [go_sem, Nat.reduceEqDiff, ↓reduceIte, Int.reduceEq, Int.reduceNeg, wrap_add, knows, hk]
theorem i_Knows_ret (σ : St) (v : GV) (k : List Int) (d : Dot) (h : RS pI.kd σ v k) (hl : k.length ≤ 1099511627776) : Ret Try.prog n_i_Knows [v, .agg [gi d.rep, gi d.seq]] σ (.bool (knows k d)) σ := by
  refine ret_eq ir_i_Knows (Nat.le_of_ble_eq_true rfl) trivial ?_
  simp +contextual (disch := omega) only [go_sem, Nat.reduceEqDiff, ↓reduceIte, Int.reduceEq, Int.reduceNeg, wrap_add, F_i_Knows]
  have h1 := h.pre (pre1 σ (some (Blk.row 1 [gi d.rep, gi d.seq])))
  refine by_bool (i_KnowOk_ret _ v k h1 hl) (fun hk => ?_) (fun hk => ?_)
  · simp +contextual (disch := omega) only [go_sem, Nat.reduceEqDiff, ↓reduceIte, Int.reduceEq, Int.reduceNeg, wrap_add, List.append_nil]
    refine by_bool (i_DotOk_ret _ d) (fun hd => ?_) (fun hd => ?_)
    · have hd' := dotOk_iff.1 hd
      have hr := rep_at h1 hk hd'.1.1 hd'.1.2
      simp +contextual (disch := omega) only [go_sem, Nat.reduceEqDiff, ↓reduceIte, Int.reduceEq, Int.reduceNeg, wrap_add, hr, knows, hk, hd]
    · simp +contextual (disch := omega) only [go_sem, Nat.reduceEqDiff, ↓reduceIte, Int.reduceEq, Int.reduceNeg, wrap_add, knows, hk, hd]
  · simp +contextual (disch := omega) only [go_sem, Nat.reduceEqDiff, ↓reduceIte, Int.reduceEq, Int.reduceNeg, wrap_add, knows, hk]
end Go.Proofs.Ytopannfdcikgiaa.Sy

/- Draws: knowledge. -/
namespace Go.Proofs.Ytopannfdcikgiaa.Sy
open Go Go.RowKit
set_option linter.unusedSimpArgs false
set_option linter.unusedVariables false
abbrev n_s_l04Know : Nat := 82
def F_s_l04Know : Fn1 := ⟨16, [.t 2], (.seq (.reg [o 2 (.mov (.k .nilS))]) (.seq (.reg [o 5 (.lit 1 0 [] []), o 3 (.mov (.t 5))]) (.seq (.seq (.reg [o 4 (.mov (.k (.int .i64 0)))]) (.blk 0 (.lop (.seq (.seq (.reg [o 6 (.mov (.t 4)), o 7 (.bin .lss (.t 6) (.k (.int .i64 3)))]) (.cnd (.t 7) .skip (.ext 0))) (.seq (.blk 1 (.reg [o 10 (.mov (.t 3)), o 11 (.mov (.t 0)), o 12 (.call 113 [(.t 11), (.k (.int .i64 5))]), o 13 (.lit 1 1 [(.int .i64 0)] [(0, 1, (.t 12))]), o 14 (.app 1 8 [(.int .i64 0)] (.t 10) (.t 13)), o 3 (.mov (.t 14))])) (.reg [o 8 (.mov (.t 4)), o 9 (.bin .add (.t 8) (.k (.int .i64 1))), o 4 (.mov (.t 9))])))))) (.seq (.reg [o 15 (.mov (.t 3)), o 2 (.mov (.t 15))]) .ret))))⟩
theorem ir_s_l04Know : compFn Try.prog n_s_l04Know = some F_s_l04Know := by kernel_rfl
abbrev n_s_DrawKnow : Nat := 36
def F_s_DrawKnow : Fn1 := ⟨13, [.t 2, .t 3], (.seq (.reg [o 2 (.mov (.k .nilS)), o 3 (.mov (.k .nilS))]) (.seq (.reg [o 6 (.mov (.t 0)), o 7 (.call 81 [(.t 6)]), o 4 (.mov (.t 7))]) (.seq (.reg [o 8 (.mov (.t 4)), o 9 (.call 82 [(.t 8)]), o 5 (.mov (.t 9))]) (.seq (.reg [o 10 (.mov (.t 5)), o 11 (.mov (.t 4)), o 12 (.call 82 [(.t 11)]), o 2 (.mov (.t 10)), o 3 (.mov (.t 12))]) .ret))))⟩
theorem ir_s_DrawKnow : compFn Try.prog n_s_DrawKnow = some F_s_DrawKnow := by kernel_rfl
def low5 (l : List Int) : Prop := l.length = 3 ∧ ∀ x ∈ l, 0 ≤ x ∧ x < 5
theorem low5_ok {l : List Int} (h : low5 l) : okK l = true := by
  simp only [okK, Bool.and_eq_true, List.all_eq_true, decide_eq_true_eq]
  exact ⟨fun x hx => inB_iff.2 (by have := h.2 x hx; omega), h.1⟩
theorem s_l04Know_ret {σ0 σ : St} {rs : List Thg} (H : Hp σ0 σ rs) {k : Nat} {c v : GV} {bs : List Int} (hk : rs[k]? = some (crs c v bs.length)) (hv : RS pB.kd σ0 v bs) (hl : bs.length ≤ 1099511627776) :
    ∃ r τ, Ret Try.prog n_s_l04Know [c] σ r τ ∧ ∃ l, low5 l ∧ Hp σ0 τ (ow pI.kd r l :: rs) := by
  refine ret_dr ir_s_l04Know (Nat.le_of_ble_eq_true rfl) ?_
  simp +contextual (disch := omega) only [go_sem, Nat.reduceEqDiff, ↓reduceIte, Int.reduceEq, Int.reduceNeg, wrap_add, F_s_l04Know]
  refine vc_for 3 4 (fun i env τ => env 0 = c ∧ ∃ l, l.length = i ∧ (∀ x ∈ l, 0 ≤ x ∧ x < 5) ∧ Hp σ0 τ (ow pI.kd (env 3) l :: rs)) rfl ⟨rfl, [], rfl, by simp, H.nil_int⟩ ?_ ?_
  · rintro i env τ hi e4 c0 ⟨e0, l, hl1, hx, H⟩
    have c0 : decide ((i : Int) < 3) = true := c0
    simp +contextual (disch := omega) only [go_sem, Nat.reduceEqDiff, ↓reduceIte, Int.reduceEq, Int.reduceNeg, wrap_add, c0, e0, e4]
    obtain ⟨r, τ1, R, x, rfl, hx0, _, hx1, H1⟩ := s_l01Below_ret H (k := k + 1) (by simpa using hk) hv hl 5 (by decide)
    refine by_mut R ?_
    obtain ⟨v', τ2, e, H2⟩ := H1.app_int 0 rfl x (by omega)
    simp +contextual (disch := omega) only [go_sem, Nat.reduceEqDiff, ↓reduceIte, Int.reduceEq, Int.reduceNeg, wrap_add, e0, e4, e]
    refine ⟨l ++ [x], by simp [hl1], fun y hy => ?_, H2⟩
    · rcases List.mem_append.1 hy with h | h
      · exact hx y h
      · simp only [List.mem_singleton] at h
        subst h; exact ⟨hx0, hx1 (by decide)⟩
  · rintro env τ e4 c0 ⟨e0, l, hl1, hx, H⟩
    have c0 : decide ((3 : Int) < 3) = false := rfl
    simp +contextual (disch := omega) only [go_sem, Nat.reduceEqDiff, ↓reduceIte, Int.reduceEq, Int.reduceNeg, wrap_add, c0, e0, e4]
    exact ⟨_, rfl, l, ⟨hl1, hx⟩, H⟩
theorem s_DrawKnow_ret (σ : St) (v : GV) (bs : List Int) (hv : RS pB.kd σ v bs) (hl : bs.length ≤ 1099511627776) :
    ∃ r τ, Ret Try.prog n_s_DrawKnow [v] σ r τ ∧ ∃ va vb a b, r = .tup [va, vb] ∧ low5 a ∧ low5 b ∧ Hp σ τ [ow pI.kd va a, ow pI.kd vb b] := by
  refine ret_dr ir_s_DrawKnow (Nat.le_of_ble_eq_true rfl) ?_
  simp +contextual (disch := omega) only [go_sem, Nat.reduceEqDiff, ↓reduceIte, Int.reduceEq, Int.reduceNeg, wrap_add, F_s_DrawKnow]
  obtain ⟨c, τ1, R, H⟩ := s_l01New_ret σ v bs hv hl
  refine by_mut R ?_
  simp +contextual (disch := omega) only [go_sem, Nat.reduceEqDiff, ↓reduceIte, Int.reduceEq, Int.reduceNeg, wrap_add, List.append_nil]
  obtain ⟨va, τ2, R, a, ha, H⟩ := s_l04Know_ret H (k := 0) rfl hv hl
  refine by_mut R ?_
  simp +contextual (disch := omega) only [go_sem, Nat.reduceEqDiff, ↓reduceIte, Int.reduceEq, Int.reduceNeg, wrap_add, List.append_nil]
  obtain ⟨vb, τ3, R, b, hb, H⟩ := s_l04Know_ret H (k := 1) rfl hv hl
  refine by_mut R ?_
  simp +contextual (disch := omega) only [go_sem, Nat.reduceEqDiff, ↓reduceIte, Int.reduceEq, Int.reduceNeg, wrap_add, (H.sl 1 rfl).notup, (H.sl 0 rfl).notup]
  exact ⟨_, rfl, va, vb, a, b, rfl, ha, hb, (H.pick 1 rfl).era 2⟩
end Go.Proofs.Ytopannfdcikgiaa.Sy

/- Contracts: knowledge joined, met, compared. -/
namespace Go.Proofs.Ytopannfdcikgiaa.Sy
open Go Go.RowKit
set_option linter.unusedSimpArgs false
set_option linter.unusedVariables false
abbrev n_s_KnowNew : Nat := 40
def F_s_KnowNew : Fn1 := ⟨2, [.t 0], (.seq (.reg [o 0 (.mov (.k .nilS))]) (.seq (.reg [o 1 (.mks 1 8 [(.int .i64 0)] (.k (.int .i64 3)) (.k (.int .i64 3))), o 0 (.mov (.t 1))]) .ret))⟩
theorem ir_s_KnowNew : compFn Try.prog n_s_KnowNew = some F_s_KnowNew := by kernel_rfl
abbrev n_i_KnowNew : Nat := 76
def F_i_KnowNew : Fn1 := ⟨2, [.t 0], (.seq (.reg [o 0 (.mov (.k .nilS))]) (.seq (.reg [o 1 (.mks 1 8 [(.int .i64 0)] (.k (.int .i64 3)) (.k (.int .i64 3))), o 0 (.mov (.t 1))]) .ret))⟩
theorem ir_i_KnowNew : compFn Try.prog n_i_KnowNew = some F_i_KnowNew := by kernel_rfl
abbrev n_i_copyInts : Nat := 79
def F_i_copyInts : Fn1 := ⟨6, [.t 2], (.seq (.reg [o 2 (.mov (.k .nilS))]) (.seq (.reg [o 3 (.lit 1 0 [] []), o 4 (.mov (.t 0)), o 5 (.app 1 8 [(.int .i64 0)] (.t 3) (.t 4)), o 2 (.mov (.t 5))]) .ret))⟩
theorem ir_i_copyInts : compFn Try.prog n_i_copyInts = some F_i_copyInts := by kernel_rfl
abbrev n_s_KnowMax : Nat := 39
def F_s_KnowMax : Fn1 := ⟨43, [.t 4], (.seq (.reg [o 4 (.mov (.k .nilS))]) (.seq (.reg [o 8 (.lit 1 0 [] []), o 5 (.mov (.t 8))]) (.seq (.seq (.reg [o 9 (.mov (.t 0)), o 10 (.call 66 [(.t 9)]), o 11 (.un .not (.t 10)), o 12 (.mov (.t 11)), og 13 12 false (.mov (.t 1)), og 14 12 false (.call 66 [(.t 13)]), og 15 12 false (.un .not (.t 14)), o 16 (.pick (.t 12) (.k (.bool true)) (.t 15))]) (.cnd (.t 16) (.seq (.reg [o 17 (.mov (.t 5)), o 4 (.mov (.t 17))]) .ret) .skip)) (.seq (.seq (.reg [o 6 (.mov (.k (.int .i64 0)))]) (.blk 0 (.lop (.seq (.seq (.reg [o 18 (.mov (.t 6)), o 19 (.mov (.t 0)), o 20 (.len false (.t 19)), o 21 (.bin .lss (.t 18) (.t 20))]) (.cnd (.t 21) .skip (.ext 0))) (.seq (.blk 1 (.seq (.reg [o 24 (.mov (.t 0)), o 25 (.mov (.t 6)), o 26 (.iad 1 (.t 24) (.t 25)), o 27 (.ld false 1 (.t 26)), o 7 (.mov (.t 27))]) (.seq (.seq (.reg [o 28 (.mov (.t 1)), o 29 (.mov (.t 6)), o 30 (.iad 1 (.t 28) (.t 29)), o 31 (.ld false 1 (.t 30)), o 32 (.mov (.t 7)), o 33 (.bin .gtr (.t 31) (.t 32))]) (.cnd (.t 33) (.reg [o 34 (.mov (.t 1)), o 35 (.mov (.t 6)), o 36 (.iad 1 (.t 34) (.t 35)), o 37 (.ld false 1 (.t 36)), o 7 (.mov (.t 37))]) .skip)) (.reg [o 38 (.mov (.t 5)), o 39 (.mov (.t 7)), o 40 (.lit 1 1 [(.int .i64 0)] [(0, 1, (.t 39))]), o 41 (.app 1 8 [(.int .i64 0)] (.t 38) (.t 40)), o 5 (.mov (.t 41))])))) (.reg [o 22 (.mov (.t 6)), o 23 (.bin .add (.t 22) (.k (.int .i64 1))), o 6 (.mov (.t 23))])))))) (.seq (.reg [o 42 (.mov (.t 5)), o 4 (.mov (.t 42))]) .ret)))))⟩
theorem ir_s_KnowMax : compFn Try.prog n_s_KnowMax = some F_s_KnowMax := by kernel_rfl
abbrev n_i_KnowMax : Nat := 77
def F_i_KnowMax : Fn1 := ⟨36, [.t 4], (.seq (.reg [o 4 (.mov (.k .nilS))]) (.seq (.seq (.reg [o 8 (.mov (.t 0)), o 9 (.call 68 [(.t 8)]), o 10 (.un .not (.t 9)), o 11 (.mov (.t 10)), og 12 11 false (.mov (.t 1)), og 13 11 false (.call 68 [(.t 12)]), og 14 11 false (.un .not (.t 13)), o 15 (.pick (.t 11) (.k (.bool true)) (.t 14))]) (.cnd (.t 15) (.seq (.reg [o 4 (.mov (.k .nilS))]) .ret) .skip)) (.seq (.reg [o 16 (.mov (.t 0)), o 17 (.call 79 [(.t 16)]), o 5 (.mov (.t 17))]) (.seq (.seq (.reg [o 18 (.mov (.t 1)), o 19 (.len false (.t 18)), o 20 (.mov (.k (.int .i64 0)))]) (.blk 0 (.lop (.seq (.reg [o 21 (.bin .lss (.t 20) (.t 19))]) (.seq (.cnd (.t 21) .skip (.ext 0)) (.seq (.blk 1 (.seq (.reg [o 22 (.mov (.t 20)), o 23 (.iad 1 (.t 18) (.t 20)), o 24 (.ld false 1 (.t 23)), o 6 (.mov (.t 22)), o 7 (.mov (.t 24))]) (.reg [o 25 (.mov (.t 5)), o 26 (.mov (.t 6)), o 27 (.mov (.t 5)), o 28 (.mov (.t 6)), o 29 (.iad 1 (.t 27) (.t 28)), o 30 (.ld false 1 (.t 29)), o 31 (.mov (.t 7)), o 32 (.mm true (.t 30) (.t 31)), o 33 (.iad 1 (.t 25) (.t 26)), on (.st 1 (.t 33) (.t 32))]))) (.reg [o 34 (.bin .add (.t 20) (.k (.int .i64 1))), o 20 (.mov (.t 34))]))))))) (.seq (.reg [o 35 (.mov (.t 5)), o 4 (.mov (.t 35))]) .ret)))))⟩
theorem ir_i_KnowMax : compFn Try.prog n_i_KnowMax = some F_i_KnowMax := by kernel_rfl
abbrev n_s_KnowIn : Nat := 38
def F_s_KnowIn : Fn1 := ⟨29, [.t 4], (.seq (.reg [o 4 (.mov (.k (.bool false)))]) (.seq (.seq (.reg [o 6 (.mov (.t 0)), o 7 (.call 66 [(.t 6)]), o 8 (.un .not (.t 7)), o 9 (.mov (.t 8)), og 10 9 false (.mov (.t 1)), og 11 9 false (.call 66 [(.t 10)]), og 12 9 false (.un .not (.t 11)), o 13 (.pick (.t 9) (.k (.bool true)) (.t 12))]) (.cnd (.t 13) (.seq (.reg [o 4 (.mov (.k (.bool false)))]) .ret) .skip)) (.seq (.seq (.reg [o 5 (.mov (.k (.int .i64 0)))]) (.blk 0 (.lop (.seq (.seq (.reg [o 14 (.mov (.t 5)), o 15 (.mov (.t 0)), o 16 (.len false (.t 15)), o 17 (.bin .lss (.t 14) (.t 16))]) (.cnd (.t 17) .skip (.ext 0))) (.seq (.blk 1 (.seq (.drw [o 20 (.mov (.t 0)), o 21 (.mov (.t 5)), o 22 (.iad 1 (.t 20) (.t 21)), o 23 (.ld false 1 (.t 22)), o 24 (.mov (.t 1)), o 25 (.mov (.t 5)), o 26 (.iad 1 (.t 24) (.t 25)), o 27 (.ld false 1 (.t 26))] [o 28 (.bin .gtr (.t 23) (.t 27))]) (.cnd (.t 28) (.seq (.reg [o 4 (.mov (.k (.bool false)))]) .ret) .skip))) (.reg [o 18 (.mov (.t 5)), o 19 (.bin .add (.t 18) (.k (.int .i64 1))), o 5 (.mov (.t 19))])))))) (.seq (.reg [o 4 (.mov (.k (.bool true)))]) .ret))))⟩
theorem ir_s_KnowIn : compFn Try.prog n_s_KnowIn = some F_s_KnowIn := by kernel_rfl
abbrev n_i_KnowIn : Nat := 70
def F_i_KnowIn : Fn1 := ⟨29, [.t 4], (.seq (.reg [o 4 (.mov (.k (.bool false)))]) (.seq (.seq (.reg [o 7 (.mov (.t 0)), o 8 (.call 68 [(.t 7)]), o 9 (.un .not (.t 8)), o 10 (.mov (.t 9)), og 11 10 false (.mov (.t 1)), og 12 10 false (.call 68 [(.t 11)]), og 13 10 false (.un .not (.t 12)), o 14 (.pick (.t 10) (.k (.bool true)) (.t 13))]) (.cnd (.t 14) (.seq (.reg [o 4 (.mov (.k (.bool false)))]) .ret) .skip)) (.seq (.seq (.reg [o 15 (.mov (.t 0)), o 16 (.len false (.t 15)), o 17 (.mov (.k (.int .i64 0)))]) (.blk 0 (.lop (.seq (.reg [o 18 (.bin .lss (.t 17) (.t 16))]) (.seq (.cnd (.t 18) .skip (.ext 0)) (.seq (.blk 1 (.seq (.reg [o 19 (.mov (.t 17)), o 20 (.iad 1 (.t 15) (.t 17)), o 21 (.ld false 1 (.t 20)), o 5 (.mov (.t 19)), o 6 (.mov (.t 21))]) (.seq (.reg [o 22 (.mov (.t 6)), o 23 (.mov (.t 1)), o 24 (.mov (.t 5)), o 25 (.iad 1 (.t 23) (.t 24)), o 26 (.ld false 1 (.t 25)), o 27 (.bin .gtr (.t 22) (.t 26))]) (.cnd (.t 27) (.seq (.reg [o 4 (.mov (.k (.bool false)))]) .ret) .skip)))) (.reg [o 28 (.bin .add (.t 17) (.k (.int .i64 1))), o 17 (.mov (.t 28))]))))))) (.seq (.reg [o 4 (.mov (.k (.bool true)))]) .ret))))⟩
theorem ir_i_KnowIn : compFn Try.prog n_i_KnowIn = some F_i_KnowIn := by kernel_rfl
abbrev n_s_l05Same : Nat := 67
def F_s_l05Same : Fn1 := ⟨26, [.t 4], (.seq (.reg [o 4 (.mov (.k (.bool false)))]) (.seq (.seq (.reg [o 6 (.mov (.t 0)), o 7 (.len false (.t 6)), o 8 (.mov (.t 1)), o 9 (.len false (.t 8)), o 10 (.bin .neq (.t 7) (.t 9))]) (.cnd (.t 10) (.seq (.reg [o 4 (.mov (.k (.bool false)))]) .ret) .skip)) (.seq (.seq (.reg [o 5 (.mov (.k (.int .i64 0)))]) (.blk 0 (.lop (.seq (.seq (.reg [o 11 (.mov (.t 5)), o 12 (.mov (.t 0)), o 13 (.len false (.t 12)), o 14 (.bin .lss (.t 11) (.t 13))]) (.cnd (.t 14) .skip (.ext 0))) (.seq (.blk 1 (.seq (.drw [o 17 (.mov (.t 0)), o 18 (.mov (.t 5)), o 19 (.iad 1 (.t 17) (.t 18)), o 20 (.ld false 1 (.t 19)), o 21 (.mov (.t 1)), o 22 (.mov (.t 5)), o 23 (.iad 1 (.t 21) (.t 22)), o 24 (.ld false 1 (.t 23))] [o 25 (.bin .neq (.t 20) (.t 24))]) (.cnd (.t 25) (.seq (.reg [o 4 (.mov (.k (.bool false)))]) .ret) .skip))) (.reg [o 15 (.mov (.t 5)), o 16 (.bin .add (.t 15) (.k (.int .i64 1))), o 5 (.mov (.t 16))])))))) (.seq (.reg [o 4 (.mov (.k (.bool true)))]) .ret))))⟩
theorem ir_s_l05Same : compFn Try.prog n_s_l05Same = some F_s_l05Same := by kernel_rfl
abbrev n_slices_Equal_int_int : Nat := 69
def F_slices_Equal_int_int : Fn1 := ⟨26, [.t 4], (.seq (.reg [o 4 (.mov (.k (.bool false)))]) (.seq (.seq (.reg [o 6 (.mov (.t 0)), o 7 (.len false (.t 6)), o 8 (.mov (.t 1)), o 9 (.len false (.t 8)), o 10 (.bin .neq (.t 7) (.t 9))]) (.cnd (.t 10) (.seq (.reg [o 4 (.mov (.k (.bool false)))]) .ret) .skip)) (.seq (.seq (.reg [o 11 (.mov (.t 0)), o 12 (.len false (.t 11)), o 13 (.mov (.k (.int .i64 0)))]) (.blk 0 (.lop (.seq (.reg [o 14 (.bin .lss (.t 13) (.t 12))]) (.seq (.cnd (.t 14) .skip (.ext 0)) (.seq (.blk 1 (.seq (.reg [o 15 (.mov (.t 13)), o 5 (.mov (.t 15))]) (.seq (.drw [o 16 (.mov (.t 0)), o 17 (.mov (.t 5)), o 18 (.iad 1 (.t 16) (.t 17)), o 19 (.ld false 1 (.t 18)), o 20 (.mov (.t 1)), o 21 (.mov (.t 5)), o 22 (.iad 1 (.t 20) (.t 21)), o 23 (.ld false 1 (.t 22))] [o 24 (.bin .neq (.t 19) (.t 23))]) (.cnd (.t 24) (.seq (.reg [o 4 (.mov (.k (.bool false)))]) .ret) .skip)))) (.reg [o 25 (.bin .add (.t 13) (.k (.int .i64 1))), o 13 (.mov (.t 25))]))))))) (.seq (.reg [o 4 (.mov (.k (.bool true)))]) .ret))))⟩
theorem ir_slices_Equal_int_int : compFn Try.prog n_slices_Equal_int_int = some F_slices_Equal_int_int := by kernel_rfl
theorem s_KnowNew_ret (σ : St) : ∃ r τ, Ret Try.prog n_s_KnowNew [] σ r τ ∧ Hp σ τ [ow pI.kd r [0, 0, 0]] := by
  refine ret_hp (rs := fun r => [ow pI.kd r [0, 0, 0]]) ir_s_KnowNew (Nat.le_of_ble_eq_true rfl) ?_
  have h3 : natOf (some (.int .i64 3)) = some 3 := rfl
  simp +contextual (disch := omega) only [go_sem, Nat.reduceEqDiff, ↓reduceIte, Int.reduceEq, Int.reduceNeg, wrap_add, F_s_KnowNew, h3, mks_ok (show 3 * 8 ≤ 140737488355328 by omega)]
  exact ⟨_, rfl, ((Hp.refl σ).new 1 (reps 3 [gi 0])).toRow 0 (p := pI) rfl [0, 0, 0] rfl rfl 3 rfl⟩
theorem i_KnowNew_ret (σ : St) : ∃ r τ, Ret Try.prog n_i_KnowNew [] σ r τ ∧ Hp σ τ [ow pI.kd r [0, 0, 0]] := by
  refine ret_hp (rs := fun r => [ow pI.kd r [0, 0, 0]]) ir_i_KnowNew (Nat.le_of_ble_eq_true rfl) ?_
  have h3 : natOf (some (.int .i64 3)) = some 3 := rfl
  simp +contextual (disch := omega) only [go_sem, Nat.reduceEqDiff, ↓reduceIte, Int.reduceEq, Int.reduceNeg, wrap_add, F_i_KnowNew, h3, mks_ok (show 3 * 8 ≤ 140737488355328 by omega)]
  exact ⟨_, rfl, ((Hp.refl σ).new 1 (reps 3 [gi 0])).toRow 0 (p := pI) rfl [0, 0, 0] rfl rfl 3 rfl⟩
theorem i_copyInts_ret (σ : St) (v : GV) (l : List Int) (h : RS pI.kd σ v l) (hl : l.length ≤ 1099511627776) : ∃ r τ, Ret Try.prog n_i_copyInts [v] σ r τ ∧ Hp σ τ [ow pI.kd r l] := by
  refine ret_hp (rs := fun r => [ow pI.kd r l]) ir_i_copyInts (Nat.le_of_ble_eq_true rfl) ?_
  obtain ⟨v', τ', e, H⟩ := (Hp.refl σ).nil_int.apps_int 0 rfl (h.pre (pre1 _ _)) (by simp; omega)
  simp +contextual (disch := omega) only [go_sem, Nat.reduceEqDiff, ↓reduceIte, Int.reduceEq, Int.reduceNeg, wrap_add, F_i_copyInts, e]
  exact ⟨_, rfl, H⟩
/-- The same, one by one. -/
def zipK (f : Int → Int → Int) (a b : List Int) : List Int := if okK a && okK b then List.zipWith f a b else []
def mx (x y : Int) : Int := if y > x then y else x
def mn (x y : Int) : Int := if y < x then y else x
def kMax (a b : List Int) : List Int := zipK mx a b
theorem zipK_len (f : Int → Int → Int) (a b : List Int) : (zipK f a b).length ≤ 3 := by
  unfold zipK
  split
  · rename_i h
    simp only [Bool.and_eq_true] at h
    have := okK_len h.1
    simp; omega
  · simp
theorem zipK_ok {f : Int → Int → Int} {a b : List Int} (ha : okK a = true) (hb : okK b = true) : zipK f a b = List.zipWith f a b := by simp [zipK, ha, hb]
theorem zip_snoc {f : Int → Int → Int} {a b : List Int} {i : Nat} (hi : i < a.length) (hj : i < b.length) : (List.zipWith f a b).take (i + 1) = (List.zipWith f a b).take i ++ [f a[i] b[i]] := by
  rw [take_snoc (by simp; omega), List.getElem_zipWith]
theorem s_KnowMax_ret (σ : St) (v u : GV) (a b : List Int) (ha : RS pI.kd σ v a) (hb : RS pI.kd σ u b) (hla : a.length ≤ 1099511627776) (hlb : b.length ≤ 1099511627776) : ∃ r τ, Ret Try.prog n_s_KnowMax [v, u] σ r τ ∧ Hp σ τ [ow pI.kd r (kMax a b)] := by
  refine ret_hp (rs := fun r => [ow pI.kd r (kMax a b)]) ir_s_KnowMax (Nat.le_of_ble_eq_true rfl) ?_
  have H := (Hp.refl σ).nil_int
  simp +contextual (disch := omega) only [go_sem, Nat.reduceEqDiff, ↓reduceIte, Int.reduceEq, Int.reduceNeg, wrap_add, F_s_KnowMax]
  refine by_bool (s_KnowOk_ret _ v a (ha.pre H.sub) hla) (fun h1 => ?_) (fun h1 => ?_)
  · simp +contextual (disch := omega) only [go_sem, Nat.reduceEqDiff, ↓reduceIte, Int.reduceEq, Int.reduceNeg, wrap_add, List.append_nil]
    refine by_bool (s_KnowOk_ret _ u b (hb.pre H.sub) hlb) (fun h2 => ?_) (fun h2 => ?_)
    · have hk : kMax a b = List.zipWith mx a b := zipK_ok h1 h2
      have la := okK_len h1
      have lb := okK_len h2
      simp +contextual (disch := omega) only [go_sem, Nat.reduceEqDiff, ↓reduceIte, Int.reduceEq, Int.reduceNeg, wrap_add, List.append_nil]
      refine vc_for a.length 6 (fun i env τ => env 0 = v ∧ env 1 = u ∧ Hp σ τ [ow pI.kd (env 5) ((kMax a b).take i)]) rfl ⟨rfl, rfl, H⟩ ?_ ?_
      · rintro i env τ hi e6 c0 ⟨e0, e1, H⟩
        have hj : i < b.length := by omega
        obtain ⟨v', τ', e, H'⟩ := H.app_int 0 rfl (mx a[i] b[i]) (by rw [hk]; simp; omega)
        rw [hk, ← zip_snoc hi hj, ← hk] at H'
        by_cases hc : b[i] > a[i]
        · have hm : mx a[i] b[i] = b[i] := if_pos hc
          have hd : decide (a[i] < b[i]) = true := decide_eq_true hc
          rw [hm] at e
          simp +contextual (disch := omega) only [go_sem, Nat.reduceEqDiff, ↓reduceIte, Int.reduceEq, Int.reduceNeg, wrap_add, c0, e0, e1, e6, ha.len, int_at (ha.pre H.sub) hi, int_at (hb.pre H.sub) hj, hd, e]
          exact H'
        · have hm : mx a[i] b[i] = a[i] := if_neg hc
          have hd : decide (a[i] < b[i]) = false := decide_eq_false hc
          rw [hm] at e
          simp +contextual (disch := omega) only [go_sem, Nat.reduceEqDiff, ↓reduceIte, Int.reduceEq, Int.reduceNeg, wrap_add, c0, e0, e1, e6, ha.len, int_at (ha.pre H.sub) hi, int_at (hb.pre H.sub) hj, hd, e]
          exact H'
      · rintro env τ e6 c0 ⟨e0, e1, H⟩
        rw [List.take_of_length_le (by rw [hk]; simp; omega)] at H
        simp +contextual (disch := omega) only [go_sem, Nat.reduceEqDiff, ↓reduceIte, Int.reduceEq, Int.reduceNeg, wrap_add, c0, e0, e1, e6, ha.len]
        exact ⟨_, rfl, H⟩
    · simp +contextual (disch := omega) only [go_sem, Nat.reduceEqDiff, ↓reduceIte, Int.reduceEq, Int.reduceNeg, wrap_add, List.append_nil]
      exact ⟨_, rfl, by simpa [kMax, zipK, h1, h2] using H⟩
  · simp +contextual (disch := omega) only [go_sem, Nat.reduceEqDiff, ↓reduceIte, Int.reduceEq, Int.reduceNeg, wrap_add, List.append_nil]
    exact ⟨_, rfl, by simpa [kMax, zipK, h1] using H⟩
theorem set_step {l : List Int} {f : Int → Int → Int} {b : List Int} {i : Nat} (hi : i < l.length) (hj : i < b.length) (hlen : l.length = b.length) : ((List.zipWith f l b).take i ++ l.drop i).set i (f l[i] b[i]) = (List.zipWith f l b).take (i + 1) ++ l.drop (i + 1) := by
  rw [zip_snoc hi hj, List.set_append_right _ _ (by simp; omega)]
  have e1 : i - ((List.zipWith f l b).take i).length = 0 := by simp; omega
  rw [e1, List.drop_eq_getElem_cons hi, List.set_cons_zero, List.append_assoc]; rfl
theorem set_cur {l b : List Int} {f : Int → Int → Int} {i : Nat} (hi : i < l.length) (hj : i < b.length) : ∃ h, ((List.zipWith f l b).take i ++ l.drop i)[i]'h = l[i] := by
  refine ⟨by simp; omega, ?_⟩
  rw [List.getElem_append_right (by simp; omega)]
  simp only [List.length_take, List.length_zipWith, List.getElem_drop]
  congr 1; omega
theorem i_KnowMax_ret (σ : St) (v u : GV) (a b : List Int) (ha : RS pI.kd σ v a) (hb : RS pI.kd σ u b) (hla : a.length ≤ 1099511627776) (hlb : b.length ≤ 1099511627776) : ∃ r τ, Ret Try.prog n_i_KnowMax [v, u] σ r τ ∧ Hp σ τ [ow pI.kd r (kMax a b)] := by
  refine ret_hp (rs := fun r => [ow pI.kd r (kMax a b)]) ir_i_KnowMax (Nat.le_of_ble_eq_true rfl) ?_
  simp +contextual (disch := omega) only [go_sem, Nat.reduceEqDiff, ↓reduceIte, Int.reduceEq, Int.reduceNeg, wrap_add, F_i_KnowMax]
  refine by_bool (i_KnowOk_ret _ v a ha hla) (fun h1 => ?_) (fun h1 => ?_)
  · simp +contextual (disch := omega) only [go_sem, Nat.reduceEqDiff, ↓reduceIte, Int.reduceEq, Int.reduceNeg, wrap_add, List.append_nil]
    refine by_bool (i_KnowOk_ret _ u b hb hlb) (fun h2 => ?_) (fun h2 => ?_)
    · have hk : kMax a b = List.zipWith mx a b := zipK_ok h1 h2
      have la := okK_len h1
      have lb := okK_len h2
      simp +contextual (disch := omega) only [go_sem, Nat.reduceEqDiff, ↓reduceIte, Int.reduceEq, Int.reduceNeg, wrap_add, List.append_nil]
      obtain ⟨r, τ, R, K⟩ := i_copyInts_ret σ v a ha hla
      refine by_hp R K ?_
      simp +contextual (disch := omega) only [go_sem, Nat.reduceEqDiff, ↓reduceIte, Int.reduceEq, Int.reduceNeg, wrap_add, hb.len]
      refine vc_for b.length 20 (fun i env τ => env 5 = r ∧ env 18 = u ∧ env 19 = gi b.length ∧ Hp σ τ [ow pI.kd r ((kMax a b).take i ++ a.drop i)]) rfl ⟨rfl, rfl, rfl, by simpa using K⟩ ?_ ?_
      · rintro i env τ hi e20 c0 ⟨e5, e18, e19, H⟩
        have hj : i < a.length := by omega
        rw [hk] at H
        obtain ⟨hq, hcur⟩ := set_cur (f := mx) hj hi
        have hat := int_at (H.sl 0 rfl) hq
        rw [hcur] at hat
        obtain ⟨τ2, es, H2⟩ := H.stw 0 rfl hq 1 (.int .i64 (mx a[i] b[i])) (mx a[i] b[i]) rfl rfl (by decide)
        have es : stG 1 τ (atz 1 r i) (.int .i64 (if b[i] > a[i] then b[i] else a[i])) = some (.tup [], τ2) := es
        rw [set_step hj hi (by omega), ← hk] at H2
        simp +contextual (disch := omega) only [go_sem, Nat.reduceEqDiff, ↓reduceIte, Int.reduceEq, Int.reduceNeg, wrap_add, c0, e5, e18, e19, e20, int_at (hb.pre H.sub) hi, hat, es]
        exact H2
      · rintro env τ e20 c0 ⟨e5, e18, e19, H⟩
        rw [List.take_of_length_le (by rw [hk]; simp; omega), List.drop_eq_nil_of_le (by omega), List.append_nil] at H
        simp +contextual (disch := omega) only [go_sem, Nat.reduceEqDiff, ↓reduceIte, Int.reduceEq, Int.reduceNeg, wrap_add, c0, e5, e18, e19, e20]
        exact ⟨_, rfl, H⟩
    · simp +contextual (disch := omega) only [go_sem, Nat.reduceEqDiff, ↓reduceIte, Int.reduceEq, Int.reduceNeg, wrap_add, List.append_nil]
      exact ⟨_, rfl, by simpa [kMax, zipK, h1, h2] using (Hp.refl σ).nilS (d := pI.kd)⟩
  · simp +contextual (disch := omega) only [go_sem, Nat.reduceEqDiff, ↓reduceIte, Int.reduceEq, Int.reduceNeg, wrap_add, List.append_nil]
    exact ⟨_, rfl, by simpa [kMax, zipK, h1] using (Hp.refl σ).nilS (d := pI.kd)⟩
/-! Less or the same, one by one. -/
def kLe : List Int → List Int → Bool
  | x :: xs, y :: ys => decide (x ≤ y) && kLe xs ys
  | _, _ => true
theorem kLe_drop {a b : List Int} {i : Nat} (hi : i < a.length) (hj : i < b.length) : kLe (a.drop i) (b.drop i) = (decide (a[i] ≤ b[i]) && kLe (a.drop (i + 1)) (b.drop (i + 1))) := by
  rw [List.drop_eq_getElem_cons hi, List.drop_eq_getElem_cons hj]; rfl
def knowIn (a b : List Int) : Bool := okK a && (okK b && kLe a b)
theorem s_KnowIn_ret (σ : St) (v u : GV) (a b : List Int) (ha : RS pI.kd σ v a) (hb : RS pI.kd σ u b) (hla : a.length ≤ 1099511627776) (hlb : b.length ≤ 1099511627776) : Ret Try.prog n_s_KnowIn [v, u] σ (.bool (knowIn a b)) σ := by
  refine ret_eq ir_s_KnowIn (Nat.le_of_ble_eq_true rfl) trivial ?_
  simp +contextual (disch := omega) only [go_sem, Nat.reduceEqDiff, ↓reduceIte, Int.reduceEq, Int.reduceNeg, wrap_add, F_s_KnowIn]
  refine by_bool (s_KnowOk_ret _ v a ha hla) (fun h1 => ?_) (fun h1 => ?_)
  · simp +contextual (disch := omega) only [go_sem, Nat.reduceEqDiff, ↓reduceIte, Int.reduceEq, Int.reduceNeg, wrap_add, List.append_nil]
    refine by_bool (s_KnowOk_ret _ u b hb hlb) (fun h2 => ?_) (fun h2 => ?_)
    · have la := okK_len h1
      have lb := okK_len h2
      simp +contextual (disch := omega) only [go_sem, Nat.reduceEqDiff, ↓reduceIte, Int.reduceEq, Int.reduceNeg, wrap_add, knowIn, h1, h2]
      refine vc_for a.length 5 (fun i env τ => env 0 = v ∧ env 1 = u ∧ kLe (a.drop i) (b.drop i) = kLe a b ∧ σ <+: τ) rfl ⟨rfl, rfl, rfl, List.prefix_refl _⟩ ?_ ?_
      · rintro i env τ hi e5 c0 ⟨e0, e1, hk, hp⟩
        have hj : i < b.length := by omega
        rw [kLe_drop hi hj] at hk
        simp +contextual (disch := omega) only [go_sem, Nat.reduceEqDiff, ↓reduceIte, Int.reduceEq, Int.reduceNeg, wrap_add, c0, e0, e1, e5, ha.len, int_at (ha.pre hp) hi, int_at (hb.pre hp) hj, hp]
        grind
      · rintro env τ e5 c0 ⟨e0, e1, hk, hp⟩
        rw [List.drop_length] at hk
        simp +contextual (disch := omega) only [go_sem, Nat.reduceEqDiff, ↓reduceIte, Int.reduceEq, Int.reduceNeg, wrap_add, c0, e0, e1, e5, ha.len, hp]
        rw [← hk]; rfl
    · simp +contextual (disch := omega) only [go_sem, Nat.reduceEqDiff, ↓reduceIte, Int.reduceEq, Int.reduceNeg, wrap_add, knowIn, h1, h2]
  · simp +contextual (disch := omega) only [go_sem, Nat.reduceEqDiff, ↓reduceIte, Int.reduceEq, Int.reduceNeg, wrap_add, knowIn, h1]
theorem i_KnowIn_ret (σ : St) (v u : GV) (a b : List Int) (ha : RS pI.kd σ v a) (hb : RS pI.kd σ u b) (hla : a.length ≤ 1099511627776) (hlb : b.length ≤ 1099511627776) : Ret Try.prog n_i_KnowIn [v, u] σ (.bool (knowIn a b)) σ := by
  refine ret_eq ir_i_KnowIn (Nat.le_of_ble_eq_true rfl) trivial ?_
  simp +contextual (disch := omega) only [go_sem, Nat.reduceEqDiff, ↓reduceIte, Int.reduceEq, Int.reduceNeg, wrap_add, F_i_KnowIn]
  refine by_bool (i_KnowOk_ret _ v a ha hla) (fun h1 => ?_) (fun h1 => ?_)
  · simp +contextual (disch := omega) only [go_sem, Nat.reduceEqDiff, ↓reduceIte, Int.reduceEq, Int.reduceNeg, wrap_add, List.append_nil]
    refine by_bool (i_KnowOk_ret _ u b hb hlb) (fun h2 => ?_) (fun h2 => ?_)
    · have la := okK_len h1
      have lb := okK_len h2
      simp +contextual (disch := omega) only [go_sem, Nat.reduceEqDiff, ↓reduceIte, Int.reduceEq, Int.reduceNeg, wrap_add, knowIn, h1, h2, ha.len]
      refine vc_for a.length 17 (fun i env τ => env 1 = u ∧ env 15 = v ∧ env 16 = gi a.length ∧ kLe (a.drop i) (b.drop i) = kLe a b ∧ σ <+: τ) rfl ⟨rfl, rfl, rfl, rfl, List.prefix_refl _⟩ ?_ ?_
      · rintro i env τ hi e17 c0 ⟨e1, e15, e16, hk, hp⟩
        have hj : i < b.length := by omega
        rw [kLe_drop hi hj] at hk
        simp +contextual (disch := omega) only [go_sem, Nat.reduceEqDiff, ↓reduceIte, Int.reduceEq, Int.reduceNeg, wrap_add, c0, e1, e15, e16, e17, int_at (ha.pre hp) hi, int_at (hb.pre hp) hj, hp]
        grind
      · rintro env τ e17 c0 ⟨e1, e15, e16, hk, hp⟩
        rw [List.drop_length] at hk
        simp +contextual (disch := omega) only [go_sem, Nat.reduceEqDiff, ↓reduceIte, Int.reduceEq, Int.reduceNeg, wrap_add, c0, e1, e15, e16, e17, hp]
        rw [← hk]; rfl
    · simp +contextual (disch := omega) only [go_sem, Nat.reduceEqDiff, ↓reduceIte, Int.reduceEq, Int.reduceNeg, wrap_add, knowIn, h1, h2]
  · simp +contextual (disch := omega) only [go_sem, Nat.reduceEqDiff, ↓reduceIte, Int.reduceEq, Int.reduceNeg, wrap_add, knowIn, h1]
theorem s_Same_ret (σ : St) (v u : GV) (a b : List Int) (ha : RS pI.kd σ v a) (hb : RS pI.kd σ u b) (hla : a.length ≤ 1099511627776) : Ret Try.prog n_s_l05Same [v, u] σ (.bool (decide (a = b))) σ := by
  refine ret_eq ir_s_l05Same (Nat.le_of_ble_eq_true rfl) trivial ?_
  simp +contextual (disch := omega) only [go_sem, Nat.reduceEqDiff, ↓reduceIte, Int.reduceEq, Int.reduceNeg, wrap_add, F_s_l05Same, ha.len, hb.len]
  refine ⟨fun hn => ?_, fun hn => ?_⟩
  · have : a ≠ b := fun h => by subst h; simp at hn
    simp [this]
  · have hlm : a.length = b.length := by have h2 : (a.length : Int) = b.length := by simpa using hn
                                         omega
    refine vc_for a.length 5 (fun i env τ => env 0 = v ∧ env 1 = u ∧ a.take i = b.take i ∧ σ <+: τ) rfl ⟨rfl, rfl, rfl, List.prefix_refl _⟩ ?_ ?_
    · rintro i env τ hi e5 c0 ⟨e0, e1, he, hp⟩
      have hj : i < b.length := by omega
      have hne : a[i] ≠ b[i] → a ≠ b := fun h h' => h (by subst h'; rfl)
      have hst : a[i] = b[i] → a.take (i + 1) = b.take (i + 1) := fun h => by rw [take_snoc hi, take_snoc hj, he, h]
      simp +contextual (disch := omega) only [go_sem, Nat.reduceEqDiff, ↓reduceIte, Int.reduceEq, Int.reduceNeg, wrap_add, c0, e0, e1, e5, ha.len, hb.len, int_at (ha.pre hp) hi, int_at (hb.pre hp) hj, hp]
      refine ⟨fun h => ?_, fun h => ?_⟩
      · simp [hne (by simpa using h)]
      · simpa using hst (by simpa using h)
    · rintro env τ e5 c0 ⟨e0, e1, he, hp⟩
      rw [List.take_length, hlm, List.take_length] at he
      simp +contextual (disch := omega) only [go_sem, Nat.reduceEqDiff, ↓reduceIte, Int.reduceEq, Int.reduceNeg, wrap_add, c0, e0, e1, e5, ha.len, hb.len, hp]
      simp [he]
theorem slices_Equal_int_ret (σ : St) (v u : GV) (a b : List Int) (ha : RS pI.kd σ v a) (hb : RS pI.kd σ u b) (hla : a.length ≤ 1099511627776) : Ret Try.prog n_slices_Equal_int_int [v, u] σ (.bool (decide (a = b))) σ := by
  refine ret_eq ir_slices_Equal_int_int (Nat.le_of_ble_eq_true rfl) trivial ?_
  simp +contextual (disch := omega) only [go_sem, Nat.reduceEqDiff, ↓reduceIte, Int.reduceEq, Int.reduceNeg, wrap_add, F_slices_Equal_int_int, ha.len, hb.len]
  refine ⟨fun hn => ?_, fun hn => ?_⟩
  · have : a ≠ b := fun h => by subst h; simp at hn
    simp [this]
  · have hlm : a.length = b.length := by have h2 : (a.length : Int) = b.length := by simpa using hn
                                         omega
    refine vc_for a.length 13 (fun i env τ => env 0 = v ∧ env 1 = u ∧ env 12 = gi a.length ∧ a.take i = b.take i ∧ σ <+: τ) rfl ⟨rfl, rfl, rfl, rfl, List.prefix_refl _⟩ ?_ ?_
    · rintro i env τ hi e13 c0 ⟨e0, e1, e12, he, hp⟩
      have hj : i < b.length := by omega
      have hne : a[i] ≠ b[i] → a ≠ b := fun h h' => h (by subst h'; rfl)
      have hst : a[i] = b[i] → a.take (i + 1) = b.take (i + 1) := fun h => by rw [take_snoc hi, take_snoc hj, he, h]
      simp +contextual (disch := omega) only [go_sem, Nat.reduceEqDiff, ↓reduceIte, Int.reduceEq, Int.reduceNeg, wrap_add, c0, e0, e1, e12, e13, int_at (ha.pre hp) hi, int_at (hb.pre hp) hj, hp]
      refine ⟨fun h => ?_, fun h => ?_⟩
      · simp [hne (by simpa using h)]
      · simpa using hst (by simpa using h)
    · rintro env τ e13 c0 ⟨e0, e1, e12, he, hp⟩
      rw [List.take_length, hlm, List.take_length] at he
      simp +contextual (disch := omega) only [go_sem, Nat.reduceEqDiff, ↓reduceIte, Int.reduceEq, Int.reduceNeg, wrap_add, c0, e0, e1, e12, e13, hp]
      simp [he]
end Go.Proofs.Ytopannfdcikgiaa.Sy

/- Contracts: the order of knowledge, all joined, all met. -/
namespace Go.Proofs.Ytopannfdcikgiaa.Sy
open Go Go.RowKit
set_option linter.unusedSimpArgs false
set_option linter.unusedVariables false
abbrev n_i_OrderOf : Nat := 21
def F_i_OrderOf : Fn1 := ⟨26, [.t 4], (.seq (.reg [o 4 (.mov (.k (.int .i64 0)))]) (.seq (.blk 0 (.seq (.reg [o 6 (.mov (.t 0)), o 7 (.call 68 [(.t 6)]), o 8 (.un .not (.t 7)), o 9 (.mov (.t 8)), og 10 9 false (.mov (.t 1)), og 11 9 false (.call 68 [(.t 10)]), og 12 9 false (.un .not (.t 11)), o 13 (.pick (.t 9) (.k (.bool true)) (.t 12)), o 5 (.mov (.t 13))]) (.cnd (.t 5) (.seq (.reg [o 4 (.mov (.k (.int .i64 3)))]) .ret) (.seq (.reg [o 15 (.mov (.t 0)), o 16 (.mov (.t 1)), o 17 (.call 69 [(.t 15), (.t 16)]), o 14 (.mov (.t 17))]) (.cnd (.t 14) (.seq (.reg [o 4 (.mov (.k (.int .i64 0)))]) .ret) (.seq (.reg [o 19 (.mov (.t 0)), o 20 (.mov (.t 1)), o 21 (.call 70 [(.t 19), (.t 20)]), o 18 (.mov (.t 21))]) (.cnd (.t 18) (.seq (.reg [o 4 (.mov (.k (.int .i64 (-1))))]) .ret) (.seq (.reg [o 23 (.mov (.t 1)), o 24 (.mov (.t 0)), o 25 (.call 70 [(.t 23), (.t 24)]), o 22 (.mov (.t 25))]) (.cnd (.t 22) (.seq (.reg [o 4 (.mov (.k (.int .i64 1)))]) .ret) .skip))))))))) (.seq (.reg [o 4 (.mov (.k (.int .i64 2)))]) .ret)))⟩
theorem ir_i_OrderOf : compFn Try.prog n_i_OrderOf = some F_i_OrderOf := by kernel_rfl
abbrev n_i_JoinAll : Nat := 28
def F_i_JoinAll : Fn1 := ⟨21, [.t 2], (.seq (.reg [o 2 (.mov (.k .nilS))]) (.seq (.reg [o 6 (.call 76 []), o 3 (.mov (.t 6))]) (.seq (.seq (.reg [o 7 (.mov (.t 0)), o 8 (.len false (.t 7)), o 9 (.mov (.k (.int .i64 0)))]) (.blk 0 (.lop (.seq (.reg [o 10 (.bin .lss (.t 9) (.t 8))]) (.seq (.cnd (.t 10) .skip (.ext 0)) (.seq (.blk 1 (.seq (.reg [o 11 (.iad 1 (.t 7) (.t 9)), o 12 (.ld false 1 (.t 11)), o 5 (.mov (.t 12))]) (.seq (.seq (.reg [o 13 (.mov (.t 5)), o 14 (.call 68 [(.t 13)]), o 15 (.un .not (.t 14))]) (.cnd (.t 15) (.seq (.reg [o 2 (.mov (.k .nilS))]) .ret) .skip)) (.reg [o 16 (.mov (.t 3)), o 17 (.mov (.t 5)), o 18 (.call 77 [(.t 16), (.t 17)]), o 3 (.mov (.t 18))])))) (.reg [o 19 (.bin .add (.t 9) (.k (.int .i64 1))), o 9 (.mov (.t 19))]))))))) (.seq (.reg [o 20 (.mov (.t 3)), o 2 (.mov (.t 20))]) .ret))))⟩
theorem ir_i_JoinAll : compFn Try.prog n_i_JoinAll = some F_i_JoinAll := by kernel_rfl
abbrev n_i_MeetAll : Nat := 34
def F_i_MeetAll : Fn1 := ⟨26, [.t 2], (.seq (.reg [o 2 (.mov (.k .nilS))]) (.seq (.reg [o 6 (.lit 1 0 [] []), o 3 (.mov (.t 6))]) (.seq (.seq (.reg [o 7 (.mov (.t 0)), o 8 (.len false (.t 7)), o 9 (.mov (.k (.int .i64 0)))]) (.blk 0 (.lop (.seq (.reg [o 10 (.bin .lss (.t 9) (.t 8))]) (.seq (.cnd (.t 10) .skip (.ext 0)) (.seq (.blk 1 (.seq (.reg [o 11 (.mov (.t 9)), o 12 (.iad 1 (.t 7) (.t 9)), o 13 (.ld false 1 (.t 12)), o 4 (.mov (.t 11)), o 5 (.mov (.t 13))]) (.seq (.seq (.reg [o 14 (.mov (.t 5)), o 15 (.call 68 [(.t 14)]), o 16 (.un .not (.t 15))]) (.cnd (.t 16) (.seq (.reg [o 2 (.mov (.k .nilS))]) .ret) .skip)) (.seq (.seq (.reg [o 17 (.mov (.t 4)), o 18 (.bin .eql (.t 17) (.k (.int .i64 0)))]) (.cnd (.t 18) (.reg [o 19 (.mov (.t 5)), o 20 (.call 79 [(.t 19)]), o 3 (.mov (.t 20))]) .skip)) (.reg [o 21 (.mov (.t 3)), o 22 (.mov (.t 5)), o 23 (.call 80 [(.t 21), (.t 22)]), o 3 (.mov (.t 23))]))))) (.reg [o 24 (.bin .add (.t 9) (.k (.int .i64 1))), o 9 (.mov (.t 24))]))))))) (.seq (.reg [o 25 (.mov (.t 3)), o 2 (.mov (.t 25))]) .ret))))⟩
theorem ir_i_MeetAll : compFn Try.prog n_i_MeetAll = some F_i_MeetAll := by kernel_rfl
abbrev n_i_KnowMin : Nat := 80
def F_i_KnowMin : Fn1 := ⟨36, [.t 4], (.seq (.reg [o 4 (.mov (.k .nilS))]) (.seq (.seq (.reg [o 8 (.mov (.t 0)), o 9 (.call 68 [(.t 8)]), o 10 (.un .not (.t 9)), o 11 (.mov (.t 10)), og 12 11 false (.mov (.t 1)), og 13 11 false (.call 68 [(.t 12)]), og 14 11 false (.un .not (.t 13)), o 15 (.pick (.t 11) (.k (.bool true)) (.t 14))]) (.cnd (.t 15) (.seq (.reg [o 4 (.mov (.k .nilS))]) .ret) .skip)) (.seq (.reg [o 16 (.mov (.t 0)), o 17 (.call 79 [(.t 16)]), o 5 (.mov (.t 17))]) (.seq (.seq (.reg [o 18 (.mov (.t 1)), o 19 (.len false (.t 18)), o 20 (.mov (.k (.int .i64 0)))]) (.blk 0 (.lop (.seq (.reg [o 21 (.bin .lss (.t 20) (.t 19))]) (.seq (.cnd (.t 21) .skip (.ext 0)) (.seq (.blk 1 (.seq (.reg [o 22 (.mov (.t 20)), o 23 (.iad 1 (.t 18) (.t 20)), o 24 (.ld false 1 (.t 23)), o 6 (.mov (.t 22)), o 7 (.mov (.t 24))]) (.reg [o 25 (.mov (.t 5)), o 26 (.mov (.t 6)), o 27 (.mov (.t 5)), o 28 (.mov (.t 6)), o 29 (.iad 1 (.t 27) (.t 28)), o 30 (.ld false 1 (.t 29)), o 31 (.mov (.t 7)), o 32 (.mm false (.t 30) (.t 31)), o 33 (.iad 1 (.t 25) (.t 26)), on (.st 1 (.t 33) (.t 32))]))) (.reg [o 34 (.bin .add (.t 20) (.k (.int .i64 1))), o 20 (.mov (.t 34))]))))))) (.seq (.reg [o 35 (.mov (.t 5)), o 4 (.mov (.t 35))]) .ret)))))⟩
theorem ir_i_KnowMin : compFn Try.prog n_i_KnowMin = some F_i_KnowMin := by kernel_rfl
def kMin (a b : List Int) : List Int := zipK mn a b
theorem i_KnowMin_ret (σ : St) (v u : GV) (a b : List Int) (ha : RS pI.kd σ v a) (hb : RS pI.kd σ u b) (hla : a.length ≤ 1099511627776) (hlb : b.length ≤ 1099511627776) : ∃ r τ, Ret Try.prog n_i_KnowMin [v, u] σ r τ ∧ Hp σ τ [ow pI.kd r (kMin a b)] := by
  refine ret_hp (rs := fun r => [ow pI.kd r (kMin a b)]) ir_i_KnowMin (Nat.le_of_ble_eq_true rfl) ?_
  simp +contextual (disch := omega) only [go_sem, Nat.reduceEqDiff, ↓reduceIte, Int.reduceEq, Int.reduceNeg, wrap_add, F_i_KnowMin]
  refine by_bool (i_KnowOk_ret _ v a ha hla) (fun h1 => ?_) (fun h1 => ?_)
  · simp +contextual (disch := omega) only [go_sem, Nat.reduceEqDiff, ↓reduceIte, Int.reduceEq, Int.reduceNeg, wrap_add, List.append_nil]
    refine by_bool (i_KnowOk_ret _ u b hb hlb) (fun h2 => ?_) (fun h2 => ?_)
    · have hk : kMin a b = List.zipWith mn a b := zipK_ok h1 h2
      have la := okK_len h1
      have lb := okK_len h2
      simp +contextual (disch := omega) only [go_sem, Nat.reduceEqDiff, ↓reduceIte, Int.reduceEq, Int.reduceNeg, wrap_add, List.append_nil]
      obtain ⟨r, τ, R, K⟩ := i_copyInts_ret σ v a ha hla
      refine by_hp R K ?_
      simp +contextual (disch := omega) only [go_sem, Nat.reduceEqDiff, ↓reduceIte, Int.reduceEq, Int.reduceNeg, wrap_add, hb.len]
      refine vc_for b.length 20 (fun i env τ => env 5 = r ∧ env 18 = u ∧ env 19 = gi b.length ∧ Hp σ τ [ow pI.kd r ((kMin a b).take i ++ a.drop i)]) rfl ⟨rfl, rfl, rfl, by simpa using K⟩ ?_ ?_
      · rintro i env τ hi e20 c0 ⟨e5, e18, e19, H⟩
        have hj : i < a.length := by omega
        rw [hk] at H
        obtain ⟨hq, hcur⟩ := set_cur (f := mn) hj hi
        have hat := int_at (H.sl 0 rfl) hq
        rw [hcur] at hat
        obtain ⟨τ2, es, H2⟩ := H.stw 0 rfl hq 1 (.int .i64 (mn a[i] b[i])) (mn a[i] b[i]) rfl rfl (by decide)
        have es : stG 1 τ (atz 1 r i) (.int .i64 (if b[i] < a[i] then b[i] else a[i])) = some (.tup [], τ2) := es
        rw [set_step hj hi (by omega), ← hk] at H2
        simp +contextual (disch := omega) only [go_sem, Nat.reduceEqDiff, ↓reduceIte, Int.reduceEq, Int.reduceNeg, wrap_add, c0, e5, e18, e19, e20, int_at (hb.pre H.sub) hi, hat, es]
        exact H2
      · rintro env τ e20 c0 ⟨e5, e18, e19, H⟩
        rw [List.take_of_length_le (by rw [hk]; simp; omega), List.drop_eq_nil_of_le (by omega), List.append_nil] at H
        simp +contextual (disch := omega) only [go_sem, Nat.reduceEqDiff, ↓reduceIte, Int.reduceEq, Int.reduceNeg, wrap_add, c0, e5, e18, e19, e20]
        exact ⟨_, rfl, H⟩
    · simp +contextual (disch := omega) only [go_sem, Nat.reduceEqDiff, ↓reduceIte, Int.reduceEq, Int.reduceNeg, wrap_add, List.append_nil]
      exact ⟨_, rfl, by simpa [kMin, zipK, h1, h2] using (Hp.refl σ).nilS (d := pI.kd)⟩
  · simp +contextual (disch := omega) only [go_sem, Nat.reduceEqDiff, ↓reduceIte, Int.reduceEq, Int.reduceNeg, wrap_add, List.append_nil]
    exact ⟨_, rfl, by simpa [kMin, zipK, h1] using (Hp.refl σ).nilS (d := pI.kd)⟩
def ordOf (a b : List Int) : Int := if okK a && okK b then (if a = b then 0 else if knowIn a b then -1 else if knowIn b a then 1 else 2) else 3
theorem i_OrderOf_ret (σ : St) (v u : GV) (a b : List Int) (ha : RS pI.kd σ v a) (hb : RS pI.kd σ u b) (hla : a.length ≤ 1099511627776) (hlb : b.length ≤ 1099511627776) : Ret Try.prog n_i_OrderOf [v, u] σ (gi (ordOf a b)) σ := by
  refine ret_eq ir_i_OrderOf (Nat.le_of_ble_eq_true rfl) trivial ?_
  simp +contextual (disch := omega) only [go_sem, Nat.reduceEqDiff, ↓reduceIte, Int.reduceEq, Int.reduceNeg, wrap_add, F_i_OrderOf]
  refine by_bool (i_KnowOk_ret _ v a ha hla) (fun h1 => ?_) (fun h1 => ?_)
  · simp +contextual (disch := omega) only [go_sem, Nat.reduceEqDiff, ↓reduceIte, Int.reduceEq, Int.reduceNeg, wrap_add, List.append_nil]
    refine by_bool (i_KnowOk_ret _ u b hb hlb) (fun h2 => ?_) (fun h2 => ?_)
    · simp +contextual (disch := omega) only [go_sem, Nat.reduceEqDiff, ↓reduceIte, Int.reduceEq, Int.reduceNeg, wrap_add, List.append_nil]
      refine by_bool (slices_Equal_int_ret σ v u a b ha hb hla) (fun h3 => ?_) (fun h3 => ?_)
      · simp +contextual (disch := omega) only [go_sem, Nat.reduceEqDiff, ↓reduceIte, Int.reduceEq, Int.reduceNeg, wrap_add, List.append_nil]
        simp [ordOf, h1, h2, of_decide_eq_true h3]
      · simp +contextual (disch := omega) only [go_sem, Nat.reduceEqDiff, ↓reduceIte, Int.reduceEq, Int.reduceNeg, wrap_add, List.append_nil]
        have h3 := of_decide_eq_false h3
        refine by_bool (i_KnowIn_ret σ v u a b ha hb hla hlb) (fun h4 => ?_) (fun h4 => ?_)
        · simp +contextual (disch := omega) only [go_sem, Nat.reduceEqDiff, ↓reduceIte, Int.reduceEq, Int.reduceNeg, wrap_add, List.append_nil]
          simp [ordOf, h1, h2, h3, h4]
        · simp +contextual (disch := omega) only [go_sem, Nat.reduceEqDiff, ↓reduceIte, Int.reduceEq, Int.reduceNeg, wrap_add, List.append_nil]
          refine by_bool (i_KnowIn_ret σ u v b a hb ha hlb hla) (fun h5 => ?_) (fun h5 => ?_)
          · simp +contextual (disch := omega) only [go_sem, Nat.reduceEqDiff, ↓reduceIte, Int.reduceEq, Int.reduceNeg, wrap_add, List.append_nil]
            simp [ordOf, h1, h2, h3, h4, h5]
          · simp +contextual (disch := omega) only [go_sem, Nat.reduceEqDiff, ↓reduceIte, Int.reduceEq, Int.reduceNeg, wrap_add, List.append_nil]
            simp [ordOf, h1, h2, h3, h4, h5]
    · simp +contextual (disch := omega) only [go_sem, Nat.reduceEqDiff, ↓reduceIte, Int.reduceEq, Int.reduceNeg, wrap_add, List.append_nil]
      simp [ordOf, h1, h2]
  · simp +contextual (disch := omega) only [go_sem, Nat.reduceEqDiff, ↓reduceIte, Int.reduceEq, Int.reduceNeg, wrap_add, List.append_nil]
    simp [ordOf, h1]
/-! All joined. -/
def joinL (ll : List (List Int)) : List Int := if ll.all okK then ll.foldl kMax [0, 0, 0] else []
theorem kMax_len (a b : List Int) : (kMax a b).length ≤ 3 := zipK_len mx a b
theorem fold_max_len (ll : List (List Int)) : ∀ a : List Int, a.length ≤ 3 → (ll.foldl kMax a).length ≤ 3 := by
  induction ll with
  | nil => intro a h; exact h
  | cons k ll ih => intro a _; exact ih _ (kMax_len a k)
theorem i_JoinAll_ret (σ : St) (v : GV) (ll : List (List Int)) (h : RS pI.kd.sl σ v ll) (hl : ll.length ≤ 1099511627776) (hll : ∀ l ∈ ll, l.length ≤ 1099511627776) : ∃ r τ, Ret Try.prog n_i_JoinAll [v] σ r τ ∧ Hp σ τ [ow pI.kd r (joinL ll)] := by
  refine ret_hp (rs := fun r => [ow pI.kd r (joinL ll)]) ir_i_JoinAll (Nat.le_of_ble_eq_true rfl) ?_
  simp +contextual (disch := omega) only [go_sem, Nat.reduceEqDiff, ↓reduceIte, Int.reduceEq, Int.reduceNeg, wrap_add, F_i_JoinAll]
  obtain ⟨r, τ, R, K⟩ := i_KnowNew_ret σ
  refine by_hp R K ?_
  simp +contextual (disch := omega) only [go_sem, Nat.reduceEqDiff, ↓reduceIte, Int.reduceEq, Int.reduceNeg, wrap_add, (h.pre K.sub).len]
  refine vc_for ll.length 9 (fun i env τ => env 7 = v ∧ env 8 = gi ll.length ∧ (ll.take i).all okK = true ∧ Hp σ τ [ow pI.kd (env 3) ((ll.take i).foldl kMax [0, 0, 0])]) rfl ⟨rfl, rfl, rfl, K⟩ ?_ ?_
  · rintro i env τ hi e9 c0 ⟨e7, e8, ha, H⟩
    have hf := fun h => all_false_at (p := okK) hi h
    have ht := take_all_succ hi ha
    obtain ⟨c, hc, hr⟩ := RdN.cells1 (h.pre H.sub) hi
    have hlc := hll _ (List.getElem_mem hi)
    simp +contextual (disch := omega) only [go_sem, Nat.reduceEqDiff, ↓reduceIte, Int.reduceEq, Int.reduceNeg, wrap_add, c0, e7, e8, e9, hc]
    refine by_bool (i_KnowOk_ret τ c _ hr hlc) (fun h1 => ?_) (fun h1 => ?_)
    · simp +contextual (disch := omega) only [go_sem, Nat.reduceEqDiff, ↓reduceIte, Int.reduceEq, Int.reduceNeg, wrap_add, List.append_nil]
      have hlf := fold_max_len (ll.take i) [0, 0, 0] (by simp)
      obtain ⟨r2, τ2, R2, K2⟩ := i_KnowMax_ret τ (env 3) c _ _ (H.sl 0 rfl) hr (by omega) hlc
      refine by_hp R2 K2 ?_
      simp +contextual (disch := omega) only [go_sem, Nat.reduceEqDiff, ↓reduceIte, Int.reduceEq, Int.reduceNeg, wrap_add, e7, e8, e9]
      refine ⟨ht h1, ?_⟩
      rw [take_snoc hi, List.foldl_append]
      exact (H.add K2).one
    · simp +contextual (disch := omega) only [go_sem, Nat.reduceEqDiff, ↓reduceIte, Int.reduceEq, Int.reduceNeg, wrap_add, List.append_nil]
      refine ⟨_, rfl, ?_⟩
      have : joinL ll = [] := by simp [joinL, hf h1]
      rw [this]
      exact (Hp.nil H.sub).nilS
  · rintro env τ e9 c0 ⟨e7, e8, ha, H⟩
    rw [List.take_length] at ha H
    simp +contextual (disch := omega) only [go_sem, Nat.reduceEqDiff, ↓reduceIte, Int.reduceEq, Int.reduceNeg, wrap_add, c0, e7, e8, e9]
    refine ⟨_, rfl, ?_⟩
    have : joinL ll = ll.foldl kMax [0, 0, 0] := by simp [joinL, ha]
    rw [this]
    exact H
/-! All met. -/
def meetG : List (List Int) → List Int
  | [] => []
  | k :: r => (k :: r).foldl kMin k
def meetL (ll : List (List Int)) : List Int := if ll.all okK then meetG ll else []
theorem meetG_snoc (ll : List (List Int)) (k : List Int) : meetG (ll ++ [k]) = kMin (if ll.length = 0 then k else meetG ll) k := by
  cases ll with
  | nil => rfl
  | cons x r =>
    show List.foldl kMin x (x :: r ++ [k]) = _
    rw [List.foldl_append]; rfl
theorem meetG_len (ll : List (List Int)) : (meetG ll).length ≤ 3 := by
  cases ll with
  | nil => simp [meetG]
  | cons x r =>
    have : ∀ (r : List (List Int)) (a : List Int), a.length ≤ 3 → (r.foldl kMin a).length ≤ 3 := by
      intro r
      induction r with
      | nil => intro a h; exact h
      | cons k r ih => intro a _; exact ih _ (zipK_len mn a k)
    exact this r _ (zipK_len mn x x)
theorem i_MeetAll_ret (σ : St) (v : GV) (ll : List (List Int)) (h : RS pI.kd.sl σ v ll) (hl : ll.length ≤ 1099511627776) (hll : ∀ l ∈ ll, l.length ≤ 1099511627776) : ∃ r τ, Ret Try.prog n_i_MeetAll [v] σ r τ ∧ Hp σ τ [ow pI.kd r (meetL ll)] := by
  refine ret_hp (rs := fun r => [ow pI.kd r (meetL ll)]) ir_i_MeetAll (Nat.le_of_ble_eq_true rfl) ?_
  have H0 := (Hp.refl σ).nil_int
  simp +contextual (disch := omega) only [go_sem, Nat.reduceEqDiff, ↓reduceIte, Int.reduceEq, Int.reduceNeg, wrap_add, F_i_MeetAll, (h.pre H0.sub).len]
  refine vc_for ll.length 9 (fun i env τ => env 7 = v ∧ env 8 = gi ll.length ∧ (ll.take i).all okK = true ∧ Hp σ τ [ow pI.kd (env 3) (meetG (ll.take i))]) rfl ⟨rfl, rfl, rfl, H0⟩ ?_ ?_
  · rintro i env τ hi e9 c0 ⟨e7, e8, ha, H⟩
    have hf := fun h => all_false_at (p := okK) hi h
    have ht := take_all_succ hi ha
    obtain ⟨c, hc, hr⟩ := RdN.cells1 (h.pre H.sub) hi
    have hlc := hll _ (List.getElem_mem hi)
    simp +contextual (disch := omega) only [go_sem, Nat.reduceEqDiff, ↓reduceIte, Int.reduceEq, Int.reduceNeg, wrap_add, c0, e7, e8, e9, hc]
    refine by_bool (i_KnowOk_ret τ c _ hr hlc) (fun h1 => ?_) (fun h1 => ?_)
    · have hlt : (ll.take i).length = i := by simp; omega
      simp +contextual (disch := omega) only [go_sem, Nat.reduceEqDiff, ↓reduceIte, Int.reduceEq, Int.reduceNeg, wrap_add, List.append_nil]
      refine ⟨fun hz => ?_, fun hz => ?_⟩
      · have hz : i = 0 := by simpa using hz
        subst hz
        obtain ⟨r2, τ2, R2, K2⟩ := i_copyInts_ret τ c _ hr hlc
        obtain ⟨r3, τ3, R3, K3⟩ := i_KnowMin_ret τ2 r2 c _ _ (K2.sl 0 rfl) (hr.pre K2.sub) hlc hlc
        refine by_hp R2 K2 ?_
        simp +contextual (disch := omega) only [go_sem, Nat.reduceEqDiff, ↓reduceIte, Int.reduceEq, Int.reduceNeg, wrap_add, List.append_nil]
        refine by_hp R3 K3 ?_
        simp +contextual (disch := omega) only [go_sem, Nat.reduceEqDiff, ↓reduceIte, Int.reduceEq, Int.reduceNeg, wrap_add, e7, e8, e9]
        refine ⟨ht h1, ?_⟩
        rw [take_snoc hi, meetG_snoc]
        exact ((H.add K2).add K3).one
      · have hz : i ≠ 0 := by simpa using hz
        have hlf := meetG_len (ll.take i)
        obtain ⟨r2, τ2, R2, K2⟩ := i_KnowMin_ret τ (env 3) c _ _ (H.sl 0 rfl) hr (by omega) hlc
        refine by_hp R2 K2 ?_
        simp +contextual (disch := omega) only [go_sem, Nat.reduceEqDiff, ↓reduceIte, Int.reduceEq, Int.reduceNeg, wrap_add, e7, e8, e9]
        refine ⟨ht h1, ?_⟩
        rw [take_snoc hi, meetG_snoc, if_neg (by omega)]
        exact (H.add K2).one
    · simp +contextual (disch := omega) only [go_sem, Nat.reduceEqDiff, ↓reduceIte, Int.reduceEq, Int.reduceNeg, wrap_add, List.append_nil]
      refine ⟨_, rfl, ?_⟩
      have : meetL ll = [] := by simp [meetL, hf h1]
      rw [this]
      exact (Hp.nil H.sub).nilS
  · rintro env τ e9 c0 ⟨e7, e8, ha, H⟩
    rw [List.take_length] at ha H
    simp +contextual (disch := omega) only [go_sem, Nat.reduceEqDiff, ↓reduceIte, Int.reduceEq, Int.reduceNeg, wrap_add, c0, e7, e8, e9]
    refine ⟨_, rfl, ?_⟩
    have : meetL ll = meetG ll := by simp [meetL, ha]
    rw [this]
    exact H
end Go.Proofs.Ytopannfdcikgiaa.Sy

/- The law of OrdersKnow. -/
namespace Go.Proofs.Ytopannfdcikgiaa.Sy
open Go Go.RowKit
set_option linter.unusedSimpArgs false
set_option linter.unusedVariables false
set_option maxRecDepth 4000
abbrev n_l_FnOrdersKnow : Nat := 8
def F_l_FnOrdersKnow : Fn1 := ⟨105, [.t 2], (.seq (.reg [o 2 (.mov (.k (.bool false)))]) (.seq (.seq (.reg [o 9 (.mov (.t 0)), o 10 (.call 35 [(.t 9)])]) (.cnd (.t 10) (.seq (.reg [o 2 (.mov (.k (.bool true)))]) .ret) .skip)) (.seq (.reg [o 12 (.mov (.t 0)), o 13 (.call 36 [(.t 12)]), o 11 (.mov (.t 13)), o 14 (.ext 0 (.t 11)), o 15 (.ext 1 (.t 11)), o 3 (.mov (.t 14)), o 4 (.mov (.t 15))]) (.seq (.reg [o 16 (.mov (.t 3)), o 17 (.mov (.t 4)), o 18 (.call 21 [(.t 16), (.t 17)]), o 5 (.mov (.t 18))]) (.seq (.reg [o 19 (.mov (.t 4)), o 20 (.mov (.t 3)), o 21 (.call 21 [(.t 19), (.t 20)]), o 6 (.mov (.t 21))]) (.seq (.reg [o 22 (.mov (.t 3)), o 23 (.mov (.t 4)), o 24 (.lit 1 2 [.nilS, .nilS] [(0, 1, (.t 22)), (1, 1, (.t 23))]), o 25 (.call 28 [(.t 24)]), o 7 (.mov (.t 25))]) (.seq (.reg [o 26 (.mov (.t 3)), o 27 (.mov (.t 4)), o 28 (.lit 1 2 [.nilS, .nilS] [(0, 1, (.t 26)), (1, 1, (.t 27))]), o 29 (.call 34 [(.t 28)]), o 8 (.mov (.t 29))]) (.seq (.seq (.reg [o 30 (.mov (.t 5)), o 31 (.bin .eql (.t 30) (.k (.int .i64 0))), o 32 (.mov (.t 3)), o 33 (.mov (.t 4)), o 34 (.call 37 [(.t 32), (.t 33)]), o 35 (.eqb true (.t 31) (.t 34)), o 36 (.mov (.t 35)), og 37 36 false (.mov (.t 5)), og 38 36 false (.bin .lss (.t 37) (.k (.int .i64 2))), og 39 36 false (.mov (.t 38)), og 40 39 true (.mov (.t 6)), og 41 39 true (.mov (.t 5)), og 42 39 true (.un .neg (.t 41)), og 43 39 true (.bin .neq (.t 40) (.t 42)), og 44 36 false (.pick (.t 39) (.t 43) (.k (.bool false))), o 45 (.pick (.t 36) (.k (.bool true)) (.t 44)), o 46 (.mov (.t 45)), og 47 46 false (.mov (.t 5)), og 48 46 false (.bin .eql (.t 47) (.k (.int .i64 2))), og 49 46 false (.mov (.t 48)), og 50 49 true (.mov (.t 6)), og 51 49 true (.bin .neq (.t 50) (.k (.int .i64 2))), og 52 46 false (.pick (.t 49) (.t 51) (.k (.bool false))), o 53 (.pick (.t 46) (.k (.bool true)) (.t 52))]) (.cnd (.t 53) (.seq (.reg [o 2 (.mov (.k (.bool false)))]) .ret) .skip)) (.seq (.reg [o 54 (.mov (.t 3)), o 55 (.mov (.t 7)), o 56 (.call 38 [(.t 54), (.t 55)]), o 57 (.mov (.t 56)), og 58 57 true (.mov (.t 4)), og 59 57 true (.mov (.t 7)), og 60 57 true (.call 38 [(.t 58), (.t 59)]), o 61 (.pick (.t 57) (.t 60) (.k (.bool false))), o 62 (.mov (.t 61)), og 63 62 true (.mov (.t 8)), og 64 62 true (.mov (.t 3)), og 65 62 true (.call 38 [(.t 63), (.t 64)]), o 66 (.pick (.t 62) (.t 65) (.k (.bool false))), o 67 (.mov (.t 66)), og 68 67 true (.mov (.t 8)), og 69 67 true (.mov (.t 4)), og 70 67 true (.call 38 [(.t 68), (.t 69)]), o 71 (.pick (.t 67) (.t 70) (.k (.bool false))), o 72 (.mov (.t 71)), og 73 72 true (.mov (.t 7)), og 74 72 true (.mov (.t 3)), og 75 72 true (.mov (.t 4)), og 76 72 true (.call 39 [(.t 74), (.t 75)]), og 77 72 true (.call 37 [(.t 73), (.t 76)]), o 78 (.pick (.t 72) (.t 77) (.k (.bool false))), o 79 (.mov (.t 78)), og 80 79 true (.lit 1 0 [] []), og 81 79 true (.call 28 [(.t 80)]), og 82 79 true (.call 40 []), og 83 79 true (.call 37 [(.t 81), (.t 82)]), o 84 (.pick (.t 79) (.t 83) (.k (.bool false))), o 85 (.mov (.t 84)), og 86 85 true (.lit 1 0 [] []), og 87 85 true (.call 34 [(.t 86)]), og 88 85 true (.len false (.t 87)), og 89 85 true (.bin .eql (.t 88) (.k (.int .i64 0))), o 90 (.pick (.t 85) (.t 89) (.k (.bool false))), o 91 (.mov (.t 90)), og 92 91 true (.mov (.t 5)), og 93 91 true (.bin .neq (.t 92) (.k (.int .i64 (-1)))), og 94 91 true (.mov (.t 93)), og 95 94 false (.mov (.t 7)), og 96 94 false (.mov (.t 4)), og 97 94 false (.call 37 [(.t 95), (.t 96)]), og 98 94 false (.mov (.t 97)), og 99 98 true (.mov (.t 8)), og 100 98 true (.mov (.t 3)), og 101 98 true (.call 37 [(.t 99), (.t 100)]), og 102 94 false (.pick (.t 98) (.t 101) (.k (.bool false))), og 103 91 true (.pick (.t 94) (.k (.bool true)) (.t 102)), o 104 (.pick (.t 91) (.t 103) (.k (.bool false))), o 2 (.mov (.t 104))]) .ret)))))))))⟩
theorem ir_l_FnOrdersKnow : compFn Try.prog n_l_FnOrdersKnow = some F_l_FnOrdersKnow := by kernel_rfl
abbrev n_l_big : Nat := 35
def F_l_big : Fn1 := ⟨6, [.t 2], (.seq (.reg [o 2 (.mov (.k (.bool false)))]) (.seq (.reg [o 3 (.mov (.t 0)), o 4 (.len false (.t 3)), o 5 (.bin .gtr (.t 4) (.k (.int .i64 1048576))), o 2 (.mov (.t 5))]) .ret))⟩
theorem ir_l_big : compFn Try.prog n_l_big = some F_l_big := by kernel_rfl
abbrev n_l_sameInts : Nat := 37
def F_l_sameInts : Fn1 := ⟨26, [.t 4], (.seq (.reg [o 4 (.mov (.k (.bool false)))]) (.seq (.seq (.reg [o 6 (.mov (.t 0)), o 7 (.len false (.t 6)), o 8 (.mov (.t 1)), o 9 (.len false (.t 8)), o 10 (.bin .neq (.t 7) (.t 9))]) (.cnd (.t 10) (.seq (.reg [o 4 (.mov (.k (.bool false)))]) .ret) .skip)) (.seq (.seq (.reg [o 5 (.mov (.k (.int .i64 0)))]) (.blk 0 (.lop (.seq (.seq (.reg [o 11 (.mov (.t 5)), o 12 (.mov (.t 0)), o 13 (.len false (.t 12)), o 14 (.bin .lss (.t 11) (.t 13))]) (.cnd (.t 14) .skip (.ext 0))) (.seq (.blk 1 (.seq (.drw [o 17 (.mov (.t 0)), o 18 (.mov (.t 5)), o 19 (.iad 1 (.t 17) (.t 18)), o 20 (.ld false 1 (.t 19)), o 21 (.mov (.t 1)), o 22 (.mov (.t 5)), o 23 (.iad 1 (.t 21) (.t 22)), o 24 (.ld false 1 (.t 23))] [o 25 (.bin .neq (.t 20) (.t 24))]) (.cnd (.t 25) (.seq (.reg [o 4 (.mov (.k (.bool false)))]) .ret) .skip))) (.reg [o 15 (.mov (.t 5)), o 16 (.bin .add (.t 15) (.k (.int .i64 1))), o 5 (.mov (.t 16))])))))) (.seq (.reg [o 4 (.mov (.k (.bool true)))]) .ret))))⟩
theorem ir_l_sameInts : compFn Try.prog n_l_sameInts = some F_l_sameInts := by kernel_rfl
theorem bit_tup0 {l : List GV} : (GV.tup l).bit = none := (rfl)
theorem ok3 {l : List Int} (h : okK l = true) : ∃ x y z, l = [x, y, z] ∧ (0 ≤ x ∧ x ≤ 1000) ∧ (0 ≤ y ∧ y ≤ 1000) ∧ 0 ≤ z ∧ z ≤ 1000 := by
  have hl := okK_len h
  match l, hl with
  | [x, y, z], _ => exact ⟨x, y, z, rfl, okK_mem h (by simp), okK_mem h (by simp), okK_mem h (by simp)⟩
theorem ok3' {x y z : Int} : okK [x, y, z] = true ↔ (0 ≤ x ∧ x ≤ 1000) ∧ (0 ≤ y ∧ y ≤ 1000) ∧ 0 ≤ z ∧ z ≤ 1000 := by
  simp [okK, seqB, inB_iff]
theorem kIn3 {x y z p q r : Int} : knowIn [x, y, z] [p, q, r] = true ↔ okK [x, y, z] = true ∧ okK [p, q, r] = true ∧ x ≤ p ∧ y ≤ q ∧ z ≤ r := by
  simp [knowIn, kLe]
theorem mx_spec (x y : Int) : x ≤ mx x y ∧ y ≤ mx x y ∧ (mx x y = x ∨ mx x y = y) := by unfold mx; split <;> omega
theorem mn_spec (x y : Int) : mn x y ≤ x ∧ mn x y ≤ y ∧ (mn x y = x ∨ mn x y = y) := by unfold mn; split <;> omega
/-- What the law asks. -/
theorem ord_facts {a b : List Int} (ha : okK a = true) (hb : okK b = true) : joinL [a, b] = kMax a b ∧ meetL [a, b] = kMin a b ∧ knowIn a (kMax a b) = true ∧ knowIn b (kMax a b) = true ∧ knowIn (kMin a b) a = true ∧ knowIn (kMin a b) b = true ∧
    ((ordOf a b = 0 ∧ ordOf b a = 0 ∧ decide (a = b) = true) ∨ (ordOf a b = -1 ∧ ordOf b a = 1 ∧ decide (a = b) = false ∧ kMax a b = b ∧ kMin a b = a) ∨ (ordOf a b = 1 ∧ ordOf b a = -1 ∧ decide (a = b) = false) ∨ (ordOf a b = 2 ∧ ordOf b a = 2 ∧ decide (a = b) = false)) := by
  obtain ⟨x, y, z, rfl, hx, hy, hz⟩ := ok3 ha
  obtain ⟨p, q, r, rfl, hp, hq, hr⟩ := ok3 hb
  have m1 := mx_spec x p
  have m2 := mx_spec y q
  have m3 := mx_spec z r
  have n1 := mn_spec x p
  have n2 := mn_spec y q
  have n3 := mn_spec z r
  have eM : kMax [x, y, z] [p, q, r] = [mx x p, mx y q, mx z r] := by rw [kMax, zipK_ok ha hb]; rfl
  have eN : kMin [x, y, z] [p, q, r] = [mn x p, mn y q, mn z r] := by rw [kMin, zipK_ok ha hb]; rfl
  have okM : okK [mx x p, mx y q, mx z r] = true := ok3'.2 ⟨by omega, by omega, by omega⟩
  have okN : okK [mn x p, mn y q, mn z r] = true := ok3'.2 ⟨by omega, by omega, by omega⟩
  have hall : [[x, y, z], [p, q, r]].all okK = true := by simp [ha, hb]
  refine ⟨?_, ?_, ?_, ?_, ?_, ?_, ?_⟩
  · have e0 : kMax [0, 0, 0] [x, y, z] = [x, y, z] := by
      rw [kMax, zipK_ok (by decide) ha]
      show [mx 0 x, mx 0 y, mx 0 z] = _
      have := mx_spec 0 x
      have := mx_spec 0 y
      have := mx_spec 0 z
      have h1 : mx 0 x = x := by omega
      have h2 : mx 0 y = y := by omega
      have h3 : mx 0 z = z := by omega
      rw [h1, h2, h3]
    simp only [joinL, hall, if_true, List.foldl_cons, List.foldl_nil, e0]
  · have e0 : kMin [x, y, z] [x, y, z] = [x, y, z] := by
      rw [kMin, zipK_ok ha ha]
      show [mn x x, mn y y, mn z z] = _
      have := mn_spec x x
      have := mn_spec y y
      have := mn_spec z z
      have h1 : mn x x = x := by omega
      have h2 : mn y y = y := by omega
      have h3 : mn z z = z := by omega
      rw [h1, h2, h3]
    simp only [meetL, hall, if_true, meetG, List.foldl_cons, List.foldl_nil, e0]
  · rw [eM]; exact kIn3.2 ⟨ha, okM, by omega⟩
  · rw [eM]; exact kIn3.2 ⟨hb, okM, by omega⟩
  · rw [eN]; exact kIn3.2 ⟨okN, ha, by omega⟩
  · rw [eN]; exact kIn3.2 ⟨okN, hb, by omega⟩
  · by_cases he : [x, y, z] = [p, q, r]
    · have he' : [p, q, r] = [x, y, z] := he.symm
      exact .inl ⟨by simp only [ordOf, ha, hb, Bool.and_self, if_true, if_pos he], by simp only [ordOf, ha, hb, Bool.and_self, if_true, if_pos he'], decide_eq_true he⟩
    · have he' : ¬ [p, q, r] = [x, y, z] := fun h => he h.symm
      have o1 : ordOf [x, y, z] [p, q, r] = if knowIn [x, y, z] [p, q, r] then -1 else if knowIn [p, q, r] [x, y, z] then 1 else 2 := by simp only [ordOf, ha, hb, Bool.and_self, if_true, if_neg he]
      have o2 : ordOf [p, q, r] [x, y, z] = if knowIn [p, q, r] [x, y, z] then -1 else if knowIn [x, y, z] [p, q, r] then 1 else 2 := by simp only [ordOf, ha, hb, Bool.and_self, if_true, if_neg he']
      have hne : ¬ (x = p ∧ y = q ∧ z = r) := fun h => he (by rw [h.1, h.2.1, h.2.2])
      by_cases h1 : knowIn [x, y, z] [p, q, r] = true
      · have h2 : ¬ knowIn [p, q, r] [x, y, z] = true := fun h => by
          have := (kIn3.1 h1).2.2
          have := (kIn3.1 h).2.2
          omega
        have h3 := (kIn3.1 h1).2.2
        refine .inr (.inl ⟨by rw [o1, if_pos h1], by rw [o2, if_neg h2, if_pos h1], decide_eq_false he, ?_, ?_⟩)
        · rw [eM]
          have h4 : mx x p = p := by omega
          have h5 : mx y q = q := by omega
          have h6 : mx z r = r := by omega
          rw [h4, h5, h6]
        · rw [eN]
          have h4 : mn x p = x := by omega
          have h5 : mn y q = y := by omega
          have h6 : mn z r = z := by omega
          rw [h4, h5, h6]
      · by_cases h2 : knowIn [p, q, r] [x, y, z] = true
        · exact .inr (.inr (.inl ⟨by rw [o1, if_neg h1, if_pos h2], by rw [o2, if_pos h2], decide_eq_false he⟩))
        · exact .inr (.inr (.inr ⟨by rw [o1, if_neg h1, if_neg h2], by rw [o2, if_neg h2, if_neg h1], decide_eq_false he⟩))
theorem l_big_ret (σ : St) (v : GV) (bs : List Int) (hv : RS pB.kd σ v bs) : Ret Try.prog n_l_big [v] σ (.bool (decide ((1048576 : Int) < bs.length))) σ := by
  refine ret_eq ir_l_big (Nat.le_of_ble_eq_true rfl) trivial ?_
  simp +contextual (disch := omega) only [go_sem, Nat.reduceEqDiff, ↓reduceIte, Int.reduceEq, Int.reduceNeg, wrap_add, F_l_big, hv.len]
theorem l_sameInts_ret (σ : St) (v u : GV) (a b : List Int) (ha : RS pI.kd σ v a) (hb : RS pI.kd σ u b) (hla : a.length ≤ 1099511627776) : Ret Try.prog n_l_sameInts [v, u] σ (.bool (decide (a = b))) σ := by
  refine ret_eq ir_l_sameInts (Nat.le_of_ble_eq_true rfl) trivial ?_
  simp +contextual (disch := omega) only [go_sem, Nat.reduceEqDiff, ↓reduceIte, Int.reduceEq, Int.reduceNeg, wrap_add, F_l_sameInts, ha.len, hb.len]
  refine ⟨fun hn => ?_, fun hn => ?_⟩
  · have : a ≠ b := fun h => by subst h; simp at hn
    simp [this]
  · have hlm : a.length = b.length := by have h2 : (a.length : Int) = b.length := by simpa using hn
                                         omega
    refine vc_for a.length 5 (fun i env τ => env 0 = v ∧ env 1 = u ∧ a.take i = b.take i ∧ σ <+: τ) rfl ⟨rfl, rfl, rfl, List.prefix_refl _⟩ ?_ ?_
    · rintro i env τ hi e5 c0 ⟨e0, e1, he, hp⟩
      have hj : i < b.length := by omega
      have hne : a[i] ≠ b[i] → a ≠ b := fun h h' => h (by subst h'; rfl)
      have hst : a[i] = b[i] → a.take (i + 1) = b.take (i + 1) := fun h => by rw [take_snoc hi, take_snoc hj, he, h]
      simp +contextual (disch := omega) only [go_sem, Nat.reduceEqDiff, ↓reduceIte, Int.reduceEq, Int.reduceNeg, wrap_add, c0, e0, e1, e5, ha.len, hb.len, int_at (ha.pre hp) hi, int_at (hb.pre hp) hj, hp]
      refine ⟨fun h => ?_, fun h => ?_⟩
      · simp [hne (by simpa using h)]
      · simpa using hst (by simpa using h)
    · rintro env τ e5 c0 ⟨e0, e1, he, hp⟩
      rw [List.take_length, hlm, List.take_length] at he
      simp +contextual (disch := omega) only [go_sem, Nat.reduceEqDiff, ↓reduceIte, Int.reduceEq, Int.reduceNeg, wrap_add, c0, e0, e1, e5, ha.len, hb.len, hp]
      simp [he]
/-- A row of two rows. -/
theorem RS_two {α : Type} {d : Kd α} {τ : St} {va vb : GV} {a b : List α} (ha : RS d τ va a) (hb : RS d τ vb b) : RS d.sl (τ ++ [some (.row 1 [va, vb])]) (.sl τ.length 0 2) [a, b] := by
  refine .inr ⟨τ.length, 0, [va, vb], rfl, rdB_new, by show 0 + 2 * 1 ≤ 2; omega, fun i x hx => ?_⟩
  match i, hx with
  | 0, hx => cases hx; exact ⟨va, rfl, ha.pre (pre1 _ _)⟩
  | 1, hx => cases hx; exact ⟨vb, rfl, hb.pre (pre1 _ _)⟩
theorem law_OrdersKnow (σ : St) (v : GV) (bs : List Int) (hv : RS pB.kd σ v bs) (hl : bs.length ≤ 9223372036854775807) : ∃ r τ, Ret Try.prog n_l_FnOrdersKnow [v] σ r τ ∧ r = .bool true := by
  refine ret_dr ir_l_FnOrdersKnow (Nat.le_of_ble_eq_true rfl) ?_
  simp +contextual (disch := omega) only [go_sem, Nat.reduceEqDiff, ↓reduceIte, Int.reduceEq, Int.reduceNeg, wrap_add, F_l_FnOrdersKnow]
  refine by_bool (l_big_ret σ v bs hv) (fun h0 => ?_) (fun h0 => ?_)
  · simp +contextual (disch := omega) only [go_sem, Nat.reduceEqDiff, ↓reduceIte, Int.reduceEq, Int.reduceNeg, wrap_add, List.append_nil]
    exact ⟨_, rfl, rfl⟩
  have h0 := of_decide_eq_false h0
  simp +contextual (disch := omega) only [go_sem, Nat.reduceEqDiff, ↓reduceIte, Int.reduceEq, Int.reduceNeg, wrap_add, List.append_nil]
  obtain ⟨_, τ, R, va, vb, a, b, rfl, ha, hb, H⟩ := s_DrawKnow_ret σ v bs hv (by omega)
  have la := ha.1
  have lb := hb.1
  have ea := H.sl 0 rfl
  have eb := H.sl 1 rfl
  have ha := low5_ok ha
  have hb := low5_ok hb
  obtain ⟨eJ, eM, i1, i2, i3, i4, hc⟩ := ord_facts ha hb
  have lM := kMax_len a b
  have lN : (kMin a b).length ≤ 3 := zipK_len mn a b
  refine by_mut R ?_
  simp +contextual (disch := omega) only [go_sem, Nat.reduceEqDiff, ↓reduceIte, Int.reduceEq, Int.reduceNeg, wrap_add, ext_sl ea.notup, ext_sl1 eb.notup]
  refine by_ret (i_OrderOf_ret τ va vb a b ea eb (by omega) (by omega)) ?_
  simp +contextual (disch := omega) only [go_sem, Nat.reduceEqDiff, ↓reduceIte, Int.reduceEq, Int.reduceNeg, wrap_add, List.append_nil]
  refine by_ret (i_OrderOf_ret τ vb va b a eb ea (by omega) (by omega)) ?_
  simp +contextual (disch := omega) only [go_sem, Nat.reduceEqDiff, ↓reduceIte, Int.reduceEq, Int.reduceNeg, wrap_add, ea.cell, eb.cell]
  have e2 := RS_two ea eb
  have hp2 := pre1 τ (some (Blk.row 1 [va, vb]))
  obtain ⟨j, τ1, R1, K1⟩ := i_JoinAll_ret _ _ _ e2 (by simp) (by simp; omega)
  refine by_hp R1 K1 ?_
  rw [eJ] at K1
  have q1 := hp2.trans K1.sub
  simp +contextual (disch := omega) only [go_sem, Nat.reduceEqDiff, ↓reduceIte, Int.reduceEq, Int.reduceNeg, wrap_add, ea.cell, eb.cell]
  have e3 := RS_two (ea.pre q1) (eb.pre q1)
  have hp3 := pre1 τ1 (some (Blk.row 1 [va, vb]))
  obtain ⟨k, τ2, R2, K2⟩ := i_MeetAll_ret _ _ _ e3 (by simp) (by simp; omega)
  refine by_hp R2 K2 ?_
  rw [eM] at K2
  have q2 := q1.trans (hp3.trans K2.sub)
  have ej := (K1.sl 0 rfl).pre (hp3.trans K2.sub)
  have ek := K2.sl 0 rfl
  have ea := ea.pre q2
  have eb := eb.pre q2
  have R3 := l_sameInts_ret τ2 va vb a b ea eb (by omega)
  have S1 := s_KnowIn_ret τ2 va j a _ ea ej (by omega) (by omega)
  have S2 := s_KnowIn_ret τ2 vb j b _ eb ej (by omega) (by omega)
  have S3 := s_KnowIn_ret τ2 k va _ a ek ea (by omega) (by omega)
  have S4 := s_KnowIn_ret τ2 k vb _ b ek eb (by omega) (by omega)
  rw [i1] at S1
  rw [i2] at S2
  rw [i3] at S3
  rw [i4] at S4
  obtain ⟨m, τ3, R4, K4⟩ := s_KnowMax_ret τ2 va vb a b ea eb (by omega) (by omega)
  have R5 := l_sameInts_ret τ3 j m _ _ (ej.pre K4.sub) (K4.sl 0 rfl) (by omega)
  rw [decide_eq_true rfl] at R5
  have n1 := pre1 τ3 (some (Blk.row 1 []))
  have r0 : RS pI.kd.sl (τ3 ++ [some (Blk.row 1 [])]) (.sl τ3.length 0 0) [] := .inr ⟨τ3.length, 0, [], rfl, rdB_new, by simp, fun i x hx => by simp at hx⟩
  obtain ⟨j0, τ4, R6, K6⟩ := i_JoinAll_ret _ _ _ r0 (by simp) (by simp)
  obtain ⟨w0, τ5, R7, K7⟩ := s_KnowNew_ret τ4
  have R8 := l_sameInts_ret τ5 j0 w0 _ _ ((K6.sl 0 rfl).pre K7.sub) (K7.sl 0 rfl) (by decide)
  have R8 : Ret _ _ _ _ (.bool true) _ := R8
  have r1 : RS pI.kd.sl (τ5 ++ [some (Blk.row 1 [])]) (.sl τ5.length 0 0) [] := .inr ⟨τ5.length, 0, [], rfl, rdB_new, by simp, fun i x hx => by simp at hx⟩
  obtain ⟨k0, τ6, R9, K9⟩ := i_MeetAll_ret _ _ _ r1 (by simp) (by simp)
  have lk0 := (K9.sl 0 rfl).len
  have lk0 : lenG false k0 = some 0 := lk0
  have q9 : τ2 <+: τ6 := K4.sub.trans (n1.trans (K6.sub.trans (K7.sub.trans ((pre1 _ _).trans K9.sub))))
  have T1 := l_sameInts_ret τ6 j vb _ b (ej.pre q9) (eb.pre q9) (by omega)
  have T2 := l_sameInts_ret τ6 k va _ a (ek.pre q9) (ea.pre q9) (by omega)
  rcases hc with ⟨o1, o2, o3⟩ | ⟨o1, o2, o3, o4, o5⟩ | ⟨o1, o2, o3⟩ | ⟨o1, o2, o3⟩
  · rw [o3] at R3
    simp +contextual (disch := omega) only [go_sem, Nat.reduceEqDiff, ↓reduceIte, Int.reduceEq, Int.reduceNeg, wrap_add, o1, o2, bit_tup0, Int.reduceBEq, Int.reduceBNe, Int.reduceLT, beq_self_eq_true, bne_self_eq_false, Bool.not_true, Bool.not_false, decide_true, decide_false, Bool.false_eq_true, Bool.true_eq_false, Bool.xor_self, Bool.true_xor, Bool.false_xor, Bool.bne_false, Bool.bne_true, Int.reduceSub, Int.sub_self, Int.sub_zero, Int.zero_sub, Int.neg_neg]
    refine by_ret R3 ?_
    simp +contextual (disch := omega) only [go_sem, Nat.reduceEqDiff, ↓reduceIte, Int.reduceEq, Int.reduceNeg, wrap_add, o1, o2, bit_tup0, Int.reduceBEq, Int.reduceBNe, Int.reduceLT, beq_self_eq_true, bne_self_eq_false, Bool.not_true, Bool.not_false, decide_true, decide_false, Bool.false_eq_true, Bool.true_eq_false, Bool.xor_self, Bool.true_xor, Bool.false_xor, Bool.bne_false, Bool.bne_true, Int.reduceSub, Int.sub_self, Int.sub_zero, Int.zero_sub, Int.neg_neg]
    refine by_ret S1 ?_
    simp +contextual (disch := omega) only [go_sem, Nat.reduceEqDiff, ↓reduceIte, Int.reduceEq, Int.reduceNeg, wrap_add, o1, o2, bit_tup0, Int.reduceBEq, Int.reduceBNe, Int.reduceLT, beq_self_eq_true, bne_self_eq_false, Bool.not_true, Bool.not_false, decide_true, decide_false, Bool.false_eq_true, Bool.true_eq_false, Bool.xor_self, Bool.true_xor, Bool.false_xor, Bool.bne_false, Bool.bne_true, Int.reduceSub, Int.sub_self, Int.sub_zero, Int.zero_sub, Int.neg_neg]
    refine by_ret S2 ?_
    simp +contextual (disch := omega) only [go_sem, Nat.reduceEqDiff, ↓reduceIte, Int.reduceEq, Int.reduceNeg, wrap_add, o1, o2, bit_tup0, Int.reduceBEq, Int.reduceBNe, Int.reduceLT, beq_self_eq_true, bne_self_eq_false, Bool.not_true, Bool.not_false, decide_true, decide_false, Bool.false_eq_true, Bool.true_eq_false, Bool.xor_self, Bool.true_xor, Bool.false_xor, Bool.bne_false, Bool.bne_true, Int.reduceSub, Int.sub_self, Int.sub_zero, Int.zero_sub, Int.neg_neg]
    refine by_ret S3 ?_
    simp +contextual (disch := omega) only [go_sem, Nat.reduceEqDiff, ↓reduceIte, Int.reduceEq, Int.reduceNeg, wrap_add, o1, o2, bit_tup0, Int.reduceBEq, Int.reduceBNe, Int.reduceLT, beq_self_eq_true, bne_self_eq_false, Bool.not_true, Bool.not_false, decide_true, decide_false, Bool.false_eq_true, Bool.true_eq_false, Bool.xor_self, Bool.true_xor, Bool.false_xor, Bool.bne_false, Bool.bne_true, Int.reduceSub, Int.sub_self, Int.sub_zero, Int.zero_sub, Int.neg_neg]
    refine by_ret S4 ?_
    simp +contextual (disch := omega) only [go_sem, Nat.reduceEqDiff, ↓reduceIte, Int.reduceEq, Int.reduceNeg, wrap_add, o1, o2, bit_tup0, Int.reduceBEq, Int.reduceBNe, Int.reduceLT, beq_self_eq_true, bne_self_eq_false, Bool.not_true, Bool.not_false, decide_true, decide_false, Bool.false_eq_true, Bool.true_eq_false, Bool.xor_self, Bool.true_xor, Bool.false_xor, Bool.bne_false, Bool.bne_true, Int.reduceSub, Int.sub_self, Int.sub_zero, Int.zero_sub, Int.neg_neg]
    refine by_hp R4 K4 ?_
    simp +contextual (disch := omega) only [go_sem, Nat.reduceEqDiff, ↓reduceIte, Int.reduceEq, Int.reduceNeg, wrap_add, o1, o2, bit_tup0, Int.reduceBEq, Int.reduceBNe, Int.reduceLT, beq_self_eq_true, bne_self_eq_false, Bool.not_true, Bool.not_false, decide_true, decide_false, Bool.false_eq_true, Bool.true_eq_false, Bool.xor_self, Bool.true_xor, Bool.false_xor, Bool.bne_false, Bool.bne_true, Int.reduceSub, Int.sub_self, Int.sub_zero, Int.zero_sub, Int.neg_neg]
    refine by_ret R5 ?_
    simp +contextual (disch := omega) only [go_sem, Nat.reduceEqDiff, ↓reduceIte, Int.reduceEq, Int.reduceNeg, wrap_add, o1, o2, bit_tup0, Int.reduceBEq, Int.reduceBNe, Int.reduceLT, beq_self_eq_true, bne_self_eq_false, Bool.not_true, Bool.not_false, decide_true, decide_false, Bool.false_eq_true, Bool.true_eq_false, Bool.xor_self, Bool.true_xor, Bool.false_xor, Bool.bne_false, Bool.bne_true, Int.reduceSub, Int.sub_self, Int.sub_zero, Int.zero_sub, Int.neg_neg]
    refine by_hp R6 K6 ?_
    simp +contextual (disch := omega) only [go_sem, Nat.reduceEqDiff, ↓reduceIte, Int.reduceEq, Int.reduceNeg, wrap_add, o1, o2, bit_tup0, Int.reduceBEq, Int.reduceBNe, Int.reduceLT, beq_self_eq_true, bne_self_eq_false, Bool.not_true, Bool.not_false, decide_true, decide_false, Bool.false_eq_true, Bool.true_eq_false, Bool.xor_self, Bool.true_xor, Bool.false_xor, Bool.bne_false, Bool.bne_true, Int.reduceSub, Int.sub_self, Int.sub_zero, Int.zero_sub, Int.neg_neg]
    refine by_hp R7 K7 ?_
    simp +contextual (disch := omega) only [go_sem, Nat.reduceEqDiff, ↓reduceIte, Int.reduceEq, Int.reduceNeg, wrap_add, o1, o2, bit_tup0, Int.reduceBEq, Int.reduceBNe, Int.reduceLT, beq_self_eq_true, bne_self_eq_false, Bool.not_true, Bool.not_false, decide_true, decide_false, Bool.false_eq_true, Bool.true_eq_false, Bool.xor_self, Bool.true_xor, Bool.false_xor, Bool.bne_false, Bool.bne_true, Int.reduceSub, Int.sub_self, Int.sub_zero, Int.zero_sub, Int.neg_neg]
    refine by_ret R8 ?_
    simp +contextual (disch := omega) only [go_sem, Nat.reduceEqDiff, ↓reduceIte, Int.reduceEq, Int.reduceNeg, wrap_add, o1, o2, bit_tup0, Int.reduceBEq, Int.reduceBNe, Int.reduceLT, beq_self_eq_true, bne_self_eq_false, Bool.not_true, Bool.not_false, decide_true, decide_false, Bool.false_eq_true, Bool.true_eq_false, Bool.xor_self, Bool.true_xor, Bool.false_xor, Bool.bne_false, Bool.bne_true, Int.reduceSub, Int.sub_self, Int.sub_zero, Int.zero_sub, Int.neg_neg]
    refine by_hp R9 K9 ?_
    simp +contextual (disch := omega) only [go_sem, Nat.reduceEqDiff, ↓reduceIte, Int.reduceEq, Int.reduceNeg, wrap_add, o1, o2, lk0, bit_tup0, Int.reduceBEq, Int.reduceBNe, Int.reduceLT, beq_self_eq_true, bne_self_eq_false, Bool.not_true, Bool.not_false, decide_true, decide_false, Bool.false_eq_true, Bool.true_eq_false, Bool.xor_self, Bool.true_xor, Bool.false_xor, Bool.bne_false, Bool.bne_true, Int.reduceSub, Int.sub_self, Int.sub_zero, Int.zero_sub, Int.neg_neg]
    exact ⟨_, rfl, rfl⟩
  · rw [o3] at R3
    rw [decide_eq_true o4] at T1
    rw [decide_eq_true o5] at T2
    simp +contextual (disch := omega) only [go_sem, Nat.reduceEqDiff, ↓reduceIte, Int.reduceEq, Int.reduceNeg, wrap_add, o1, o2, bit_tup0, Int.reduceBEq, Int.reduceBNe, Int.reduceLT, beq_self_eq_true, bne_self_eq_false, Bool.not_true, Bool.not_false, decide_true, decide_false, Bool.false_eq_true, Bool.true_eq_false, Bool.xor_self, Bool.true_xor, Bool.false_xor, Bool.bne_false, Bool.bne_true, Int.reduceSub, Int.sub_self, Int.sub_zero, Int.zero_sub, Int.neg_neg]
    refine by_ret R3 ?_
    simp +contextual (disch := omega) only [go_sem, Nat.reduceEqDiff, ↓reduceIte, Int.reduceEq, Int.reduceNeg, wrap_add, o1, o2, bit_tup0, Int.reduceBEq, Int.reduceBNe, Int.reduceLT, beq_self_eq_true, bne_self_eq_false, Bool.not_true, Bool.not_false, decide_true, decide_false, Bool.false_eq_true, Bool.true_eq_false, Bool.xor_self, Bool.true_xor, Bool.false_xor, Bool.bne_false, Bool.bne_true, Int.reduceSub, Int.sub_self, Int.sub_zero, Int.zero_sub, Int.neg_neg]
    refine by_ret S1 ?_
    simp +contextual (disch := omega) only [go_sem, Nat.reduceEqDiff, ↓reduceIte, Int.reduceEq, Int.reduceNeg, wrap_add, o1, o2, bit_tup0, Int.reduceBEq, Int.reduceBNe, Int.reduceLT, beq_self_eq_true, bne_self_eq_false, Bool.not_true, Bool.not_false, decide_true, decide_false, Bool.false_eq_true, Bool.true_eq_false, Bool.xor_self, Bool.true_xor, Bool.false_xor, Bool.bne_false, Bool.bne_true, Int.reduceSub, Int.sub_self, Int.sub_zero, Int.zero_sub, Int.neg_neg]
    refine by_ret S2 ?_
    simp +contextual (disch := omega) only [go_sem, Nat.reduceEqDiff, ↓reduceIte, Int.reduceEq, Int.reduceNeg, wrap_add, o1, o2, bit_tup0, Int.reduceBEq, Int.reduceBNe, Int.reduceLT, beq_self_eq_true, bne_self_eq_false, Bool.not_true, Bool.not_false, decide_true, decide_false, Bool.false_eq_true, Bool.true_eq_false, Bool.xor_self, Bool.true_xor, Bool.false_xor, Bool.bne_false, Bool.bne_true, Int.reduceSub, Int.sub_self, Int.sub_zero, Int.zero_sub, Int.neg_neg]
    refine by_ret S3 ?_
    simp +contextual (disch := omega) only [go_sem, Nat.reduceEqDiff, ↓reduceIte, Int.reduceEq, Int.reduceNeg, wrap_add, o1, o2, bit_tup0, Int.reduceBEq, Int.reduceBNe, Int.reduceLT, beq_self_eq_true, bne_self_eq_false, Bool.not_true, Bool.not_false, decide_true, decide_false, Bool.false_eq_true, Bool.true_eq_false, Bool.xor_self, Bool.true_xor, Bool.false_xor, Bool.bne_false, Bool.bne_true, Int.reduceSub, Int.sub_self, Int.sub_zero, Int.zero_sub, Int.neg_neg]
    refine by_ret S4 ?_
    simp +contextual (disch := omega) only [go_sem, Nat.reduceEqDiff, ↓reduceIte, Int.reduceEq, Int.reduceNeg, wrap_add, o1, o2, bit_tup0, Int.reduceBEq, Int.reduceBNe, Int.reduceLT, beq_self_eq_true, bne_self_eq_false, Bool.not_true, Bool.not_false, decide_true, decide_false, Bool.false_eq_true, Bool.true_eq_false, Bool.xor_self, Bool.true_xor, Bool.false_xor, Bool.bne_false, Bool.bne_true, Int.reduceSub, Int.sub_self, Int.sub_zero, Int.zero_sub, Int.neg_neg]
    refine by_hp R4 K4 ?_
    simp +contextual (disch := omega) only [go_sem, Nat.reduceEqDiff, ↓reduceIte, Int.reduceEq, Int.reduceNeg, wrap_add, o1, o2, bit_tup0, Int.reduceBEq, Int.reduceBNe, Int.reduceLT, beq_self_eq_true, bne_self_eq_false, Bool.not_true, Bool.not_false, decide_true, decide_false, Bool.false_eq_true, Bool.true_eq_false, Bool.xor_self, Bool.true_xor, Bool.false_xor, Bool.bne_false, Bool.bne_true, Int.reduceSub, Int.sub_self, Int.sub_zero, Int.zero_sub, Int.neg_neg]
    refine by_ret R5 ?_
    simp +contextual (disch := omega) only [go_sem, Nat.reduceEqDiff, ↓reduceIte, Int.reduceEq, Int.reduceNeg, wrap_add, o1, o2, bit_tup0, Int.reduceBEq, Int.reduceBNe, Int.reduceLT, beq_self_eq_true, bne_self_eq_false, Bool.not_true, Bool.not_false, decide_true, decide_false, Bool.false_eq_true, Bool.true_eq_false, Bool.xor_self, Bool.true_xor, Bool.false_xor, Bool.bne_false, Bool.bne_true, Int.reduceSub, Int.sub_self, Int.sub_zero, Int.zero_sub, Int.neg_neg]
    refine by_hp R6 K6 ?_
    simp +contextual (disch := omega) only [go_sem, Nat.reduceEqDiff, ↓reduceIte, Int.reduceEq, Int.reduceNeg, wrap_add, o1, o2, bit_tup0, Int.reduceBEq, Int.reduceBNe, Int.reduceLT, beq_self_eq_true, bne_self_eq_false, Bool.not_true, Bool.not_false, decide_true, decide_false, Bool.false_eq_true, Bool.true_eq_false, Bool.xor_self, Bool.true_xor, Bool.false_xor, Bool.bne_false, Bool.bne_true, Int.reduceSub, Int.sub_self, Int.sub_zero, Int.zero_sub, Int.neg_neg]
    refine by_hp R7 K7 ?_
    simp +contextual (disch := omega) only [go_sem, Nat.reduceEqDiff, ↓reduceIte, Int.reduceEq, Int.reduceNeg, wrap_add, o1, o2, bit_tup0, Int.reduceBEq, Int.reduceBNe, Int.reduceLT, beq_self_eq_true, bne_self_eq_false, Bool.not_true, Bool.not_false, decide_true, decide_false, Bool.false_eq_true, Bool.true_eq_false, Bool.xor_self, Bool.true_xor, Bool.false_xor, Bool.bne_false, Bool.bne_true, Int.reduceSub, Int.sub_self, Int.sub_zero, Int.zero_sub, Int.neg_neg]
    refine by_ret R8 ?_
    simp +contextual (disch := omega) only [go_sem, Nat.reduceEqDiff, ↓reduceIte, Int.reduceEq, Int.reduceNeg, wrap_add, o1, o2, bit_tup0, Int.reduceBEq, Int.reduceBNe, Int.reduceLT, beq_self_eq_true, bne_self_eq_false, Bool.not_true, Bool.not_false, decide_true, decide_false, Bool.false_eq_true, Bool.true_eq_false, Bool.xor_self, Bool.true_xor, Bool.false_xor, Bool.bne_false, Bool.bne_true, Int.reduceSub, Int.sub_self, Int.sub_zero, Int.zero_sub, Int.neg_neg]
    refine by_hp R9 K9 ?_
    simp +contextual (disch := omega) only [go_sem, Nat.reduceEqDiff, ↓reduceIte, Int.reduceEq, Int.reduceNeg, wrap_add, o1, o2, lk0, bit_tup0, Int.reduceBEq, Int.reduceBNe, Int.reduceLT, beq_self_eq_true, bne_self_eq_false, Bool.not_true, Bool.not_false, decide_true, decide_false, Bool.false_eq_true, Bool.true_eq_false, Bool.xor_self, Bool.true_xor, Bool.false_xor, Bool.bne_false, Bool.bne_true, Int.reduceSub, Int.sub_self, Int.sub_zero, Int.zero_sub, Int.neg_neg]
    refine by_ret T1 ?_
    simp +contextual (disch := omega) only [go_sem, Nat.reduceEqDiff, ↓reduceIte, Int.reduceEq, Int.reduceNeg, wrap_add, o1, o2, bit_tup0, Int.reduceBEq, Int.reduceBNe, Int.reduceLT, beq_self_eq_true, bne_self_eq_false, Bool.not_true, Bool.not_false, decide_true, decide_false, Bool.false_eq_true, Bool.true_eq_false, Bool.xor_self, Bool.true_xor, Bool.false_xor, Bool.bne_false, Bool.bne_true, Int.reduceSub, Int.sub_self, Int.sub_zero, Int.zero_sub, Int.neg_neg]
    refine by_ret T2 ?_
    simp +contextual (disch := omega) only [go_sem, Nat.reduceEqDiff, ↓reduceIte, Int.reduceEq, Int.reduceNeg, wrap_add, o1, o2, bit_tup0, Int.reduceBEq, Int.reduceBNe, Int.reduceLT, beq_self_eq_true, bne_self_eq_false, Bool.not_true, Bool.not_false, decide_true, decide_false, Bool.false_eq_true, Bool.true_eq_false, Bool.xor_self, Bool.true_xor, Bool.false_xor, Bool.bne_false, Bool.bne_true, Int.reduceSub, Int.sub_self, Int.sub_zero, Int.zero_sub, Int.neg_neg]
    exact ⟨_, rfl, rfl⟩
  · rw [o3] at R3
    simp +contextual (disch := omega) only [go_sem, Nat.reduceEqDiff, ↓reduceIte, Int.reduceEq, Int.reduceNeg, wrap_add, o1, o2, bit_tup0, Int.reduceBEq, Int.reduceBNe, Int.reduceLT, beq_self_eq_true, bne_self_eq_false, Bool.not_true, Bool.not_false, decide_true, decide_false, Bool.false_eq_true, Bool.true_eq_false, Bool.xor_self, Bool.true_xor, Bool.false_xor, Bool.bne_false, Bool.bne_true, Int.reduceSub, Int.sub_self, Int.sub_zero, Int.zero_sub, Int.neg_neg]
    refine by_ret R3 ?_
    simp +contextual (disch := omega) only [go_sem, Nat.reduceEqDiff, ↓reduceIte, Int.reduceEq, Int.reduceNeg, wrap_add, o1, o2, bit_tup0, Int.reduceBEq, Int.reduceBNe, Int.reduceLT, beq_self_eq_true, bne_self_eq_false, Bool.not_true, Bool.not_false, decide_true, decide_false, Bool.false_eq_true, Bool.true_eq_false, Bool.xor_self, Bool.true_xor, Bool.false_xor, Bool.bne_false, Bool.bne_true, Int.reduceSub, Int.sub_self, Int.sub_zero, Int.zero_sub, Int.neg_neg]
    refine by_ret S1 ?_
    simp +contextual (disch := omega) only [go_sem, Nat.reduceEqDiff, ↓reduceIte, Int.reduceEq, Int.reduceNeg, wrap_add, o1, o2, bit_tup0, Int.reduceBEq, Int.reduceBNe, Int.reduceLT, beq_self_eq_true, bne_self_eq_false, Bool.not_true, Bool.not_false, decide_true, decide_false, Bool.false_eq_true, Bool.true_eq_false, Bool.xor_self, Bool.true_xor, Bool.false_xor, Bool.bne_false, Bool.bne_true, Int.reduceSub, Int.sub_self, Int.sub_zero, Int.zero_sub, Int.neg_neg]
    refine by_ret S2 ?_
    simp +contextual (disch := omega) only [go_sem, Nat.reduceEqDiff, ↓reduceIte, Int.reduceEq, Int.reduceNeg, wrap_add, o1, o2, bit_tup0, Int.reduceBEq, Int.reduceBNe, Int.reduceLT, beq_self_eq_true, bne_self_eq_false, Bool.not_true, Bool.not_false, decide_true, decide_false, Bool.false_eq_true, Bool.true_eq_false, Bool.xor_self, Bool.true_xor, Bool.false_xor, Bool.bne_false, Bool.bne_true, Int.reduceSub, Int.sub_self, Int.sub_zero, Int.zero_sub, Int.neg_neg]
    refine by_ret S3 ?_
    simp +contextual (disch := omega) only [go_sem, Nat.reduceEqDiff, ↓reduceIte, Int.reduceEq, Int.reduceNeg, wrap_add, o1, o2, bit_tup0, Int.reduceBEq, Int.reduceBNe, Int.reduceLT, beq_self_eq_true, bne_self_eq_false, Bool.not_true, Bool.not_false, decide_true, decide_false, Bool.false_eq_true, Bool.true_eq_false, Bool.xor_self, Bool.true_xor, Bool.false_xor, Bool.bne_false, Bool.bne_true, Int.reduceSub, Int.sub_self, Int.sub_zero, Int.zero_sub, Int.neg_neg]
    refine by_ret S4 ?_
    simp +contextual (disch := omega) only [go_sem, Nat.reduceEqDiff, ↓reduceIte, Int.reduceEq, Int.reduceNeg, wrap_add, o1, o2, bit_tup0, Int.reduceBEq, Int.reduceBNe, Int.reduceLT, beq_self_eq_true, bne_self_eq_false, Bool.not_true, Bool.not_false, decide_true, decide_false, Bool.false_eq_true, Bool.true_eq_false, Bool.xor_self, Bool.true_xor, Bool.false_xor, Bool.bne_false, Bool.bne_true, Int.reduceSub, Int.sub_self, Int.sub_zero, Int.zero_sub, Int.neg_neg]
    refine by_hp R4 K4 ?_
    simp +contextual (disch := omega) only [go_sem, Nat.reduceEqDiff, ↓reduceIte, Int.reduceEq, Int.reduceNeg, wrap_add, o1, o2, bit_tup0, Int.reduceBEq, Int.reduceBNe, Int.reduceLT, beq_self_eq_true, bne_self_eq_false, Bool.not_true, Bool.not_false, decide_true, decide_false, Bool.false_eq_true, Bool.true_eq_false, Bool.xor_self, Bool.true_xor, Bool.false_xor, Bool.bne_false, Bool.bne_true, Int.reduceSub, Int.sub_self, Int.sub_zero, Int.zero_sub, Int.neg_neg]
    refine by_ret R5 ?_
    simp +contextual (disch := omega) only [go_sem, Nat.reduceEqDiff, ↓reduceIte, Int.reduceEq, Int.reduceNeg, wrap_add, o1, o2, bit_tup0, Int.reduceBEq, Int.reduceBNe, Int.reduceLT, beq_self_eq_true, bne_self_eq_false, Bool.not_true, Bool.not_false, decide_true, decide_false, Bool.false_eq_true, Bool.true_eq_false, Bool.xor_self, Bool.true_xor, Bool.false_xor, Bool.bne_false, Bool.bne_true, Int.reduceSub, Int.sub_self, Int.sub_zero, Int.zero_sub, Int.neg_neg]
    refine by_hp R6 K6 ?_
    simp +contextual (disch := omega) only [go_sem, Nat.reduceEqDiff, ↓reduceIte, Int.reduceEq, Int.reduceNeg, wrap_add, o1, o2, bit_tup0, Int.reduceBEq, Int.reduceBNe, Int.reduceLT, beq_self_eq_true, bne_self_eq_false, Bool.not_true, Bool.not_false, decide_true, decide_false, Bool.false_eq_true, Bool.true_eq_false, Bool.xor_self, Bool.true_xor, Bool.false_xor, Bool.bne_false, Bool.bne_true, Int.reduceSub, Int.sub_self, Int.sub_zero, Int.zero_sub, Int.neg_neg]
    refine by_hp R7 K7 ?_
    simp +contextual (disch := omega) only [go_sem, Nat.reduceEqDiff, ↓reduceIte, Int.reduceEq, Int.reduceNeg, wrap_add, o1, o2, bit_tup0, Int.reduceBEq, Int.reduceBNe, Int.reduceLT, beq_self_eq_true, bne_self_eq_false, Bool.not_true, Bool.not_false, decide_true, decide_false, Bool.false_eq_true, Bool.true_eq_false, Bool.xor_self, Bool.true_xor, Bool.false_xor, Bool.bne_false, Bool.bne_true, Int.reduceSub, Int.sub_self, Int.sub_zero, Int.zero_sub, Int.neg_neg]
    refine by_ret R8 ?_
    simp +contextual (disch := omega) only [go_sem, Nat.reduceEqDiff, ↓reduceIte, Int.reduceEq, Int.reduceNeg, wrap_add, o1, o2, bit_tup0, Int.reduceBEq, Int.reduceBNe, Int.reduceLT, beq_self_eq_true, bne_self_eq_false, Bool.not_true, Bool.not_false, decide_true, decide_false, Bool.false_eq_true, Bool.true_eq_false, Bool.xor_self, Bool.true_xor, Bool.false_xor, Bool.bne_false, Bool.bne_true, Int.reduceSub, Int.sub_self, Int.sub_zero, Int.zero_sub, Int.neg_neg]
    refine by_hp R9 K9 ?_
    simp +contextual (disch := omega) only [go_sem, Nat.reduceEqDiff, ↓reduceIte, Int.reduceEq, Int.reduceNeg, wrap_add, o1, o2, lk0, bit_tup0, Int.reduceBEq, Int.reduceBNe, Int.reduceLT, beq_self_eq_true, bne_self_eq_false, Bool.not_true, Bool.not_false, decide_true, decide_false, Bool.false_eq_true, Bool.true_eq_false, Bool.xor_self, Bool.true_xor, Bool.false_xor, Bool.bne_false, Bool.bne_true, Int.reduceSub, Int.sub_self, Int.sub_zero, Int.zero_sub, Int.neg_neg]
    exact ⟨_, rfl, rfl⟩
  · rw [o3] at R3
    simp +contextual (disch := omega) only [go_sem, Nat.reduceEqDiff, ↓reduceIte, Int.reduceEq, Int.reduceNeg, wrap_add, o1, o2, bit_tup0, Int.reduceBEq, Int.reduceBNe, Int.reduceLT, beq_self_eq_true, bne_self_eq_false, Bool.not_true, Bool.not_false, decide_true, decide_false, Bool.false_eq_true, Bool.true_eq_false, Bool.xor_self, Bool.true_xor, Bool.false_xor, Bool.bne_false, Bool.bne_true, Int.reduceSub, Int.sub_self, Int.sub_zero, Int.zero_sub, Int.neg_neg]
    refine by_ret R3 ?_
    simp +contextual (disch := omega) only [go_sem, Nat.reduceEqDiff, ↓reduceIte, Int.reduceEq, Int.reduceNeg, wrap_add, o1, o2, bit_tup0, Int.reduceBEq, Int.reduceBNe, Int.reduceLT, beq_self_eq_true, bne_self_eq_false, Bool.not_true, Bool.not_false, decide_true, decide_false, Bool.false_eq_true, Bool.true_eq_false, Bool.xor_self, Bool.true_xor, Bool.false_xor, Bool.bne_false, Bool.bne_true, Int.reduceSub, Int.sub_self, Int.sub_zero, Int.zero_sub, Int.neg_neg]
    refine by_ret S1 ?_
    simp +contextual (disch := omega) only [go_sem, Nat.reduceEqDiff, ↓reduceIte, Int.reduceEq, Int.reduceNeg, wrap_add, o1, o2, bit_tup0, Int.reduceBEq, Int.reduceBNe, Int.reduceLT, beq_self_eq_true, bne_self_eq_false, Bool.not_true, Bool.not_false, decide_true, decide_false, Bool.false_eq_true, Bool.true_eq_false, Bool.xor_self, Bool.true_xor, Bool.false_xor, Bool.bne_false, Bool.bne_true, Int.reduceSub, Int.sub_self, Int.sub_zero, Int.zero_sub, Int.neg_neg]
    refine by_ret S2 ?_
    simp +contextual (disch := omega) only [go_sem, Nat.reduceEqDiff, ↓reduceIte, Int.reduceEq, Int.reduceNeg, wrap_add, o1, o2, bit_tup0, Int.reduceBEq, Int.reduceBNe, Int.reduceLT, beq_self_eq_true, bne_self_eq_false, Bool.not_true, Bool.not_false, decide_true, decide_false, Bool.false_eq_true, Bool.true_eq_false, Bool.xor_self, Bool.true_xor, Bool.false_xor, Bool.bne_false, Bool.bne_true, Int.reduceSub, Int.sub_self, Int.sub_zero, Int.zero_sub, Int.neg_neg]
    refine by_ret S3 ?_
    simp +contextual (disch := omega) only [go_sem, Nat.reduceEqDiff, ↓reduceIte, Int.reduceEq, Int.reduceNeg, wrap_add, o1, o2, bit_tup0, Int.reduceBEq, Int.reduceBNe, Int.reduceLT, beq_self_eq_true, bne_self_eq_false, Bool.not_true, Bool.not_false, decide_true, decide_false, Bool.false_eq_true, Bool.true_eq_false, Bool.xor_self, Bool.true_xor, Bool.false_xor, Bool.bne_false, Bool.bne_true, Int.reduceSub, Int.sub_self, Int.sub_zero, Int.zero_sub, Int.neg_neg]
    refine by_ret S4 ?_
    simp +contextual (disch := omega) only [go_sem, Nat.reduceEqDiff, ↓reduceIte, Int.reduceEq, Int.reduceNeg, wrap_add, o1, o2, bit_tup0, Int.reduceBEq, Int.reduceBNe, Int.reduceLT, beq_self_eq_true, bne_self_eq_false, Bool.not_true, Bool.not_false, decide_true, decide_false, Bool.false_eq_true, Bool.true_eq_false, Bool.xor_self, Bool.true_xor, Bool.false_xor, Bool.bne_false, Bool.bne_true, Int.reduceSub, Int.sub_self, Int.sub_zero, Int.zero_sub, Int.neg_neg]
    refine by_hp R4 K4 ?_
    simp +contextual (disch := omega) only [go_sem, Nat.reduceEqDiff, ↓reduceIte, Int.reduceEq, Int.reduceNeg, wrap_add, o1, o2, bit_tup0, Int.reduceBEq, Int.reduceBNe, Int.reduceLT, beq_self_eq_true, bne_self_eq_false, Bool.not_true, Bool.not_false, decide_true, decide_false, Bool.false_eq_true, Bool.true_eq_false, Bool.xor_self, Bool.true_xor, Bool.false_xor, Bool.bne_false, Bool.bne_true, Int.reduceSub, Int.sub_self, Int.sub_zero, Int.zero_sub, Int.neg_neg]
    refine by_ret R5 ?_
    simp +contextual (disch := omega) only [go_sem, Nat.reduceEqDiff, ↓reduceIte, Int.reduceEq, Int.reduceNeg, wrap_add, o1, o2, bit_tup0, Int.reduceBEq, Int.reduceBNe, Int.reduceLT, beq_self_eq_true, bne_self_eq_false, Bool.not_true, Bool.not_false, decide_true, decide_false, Bool.false_eq_true, Bool.true_eq_false, Bool.xor_self, Bool.true_xor, Bool.false_xor, Bool.bne_false, Bool.bne_true, Int.reduceSub, Int.sub_self, Int.sub_zero, Int.zero_sub, Int.neg_neg]
    refine by_hp R6 K6 ?_
    simp +contextual (disch := omega) only [go_sem, Nat.reduceEqDiff, ↓reduceIte, Int.reduceEq, Int.reduceNeg, wrap_add, o1, o2, bit_tup0, Int.reduceBEq, Int.reduceBNe, Int.reduceLT, beq_self_eq_true, bne_self_eq_false, Bool.not_true, Bool.not_false, decide_true, decide_false, Bool.false_eq_true, Bool.true_eq_false, Bool.xor_self, Bool.true_xor, Bool.false_xor, Bool.bne_false, Bool.bne_true, Int.reduceSub, Int.sub_self, Int.sub_zero, Int.zero_sub, Int.neg_neg]
    refine by_hp R7 K7 ?_
    simp +contextual (disch := omega) only [go_sem, Nat.reduceEqDiff, ↓reduceIte, Int.reduceEq, Int.reduceNeg, wrap_add, o1, o2, bit_tup0, Int.reduceBEq, Int.reduceBNe, Int.reduceLT, beq_self_eq_true, bne_self_eq_false, Bool.not_true, Bool.not_false, decide_true, decide_false, Bool.false_eq_true, Bool.true_eq_false, Bool.xor_self, Bool.true_xor, Bool.false_xor, Bool.bne_false, Bool.bne_true, Int.reduceSub, Int.sub_self, Int.sub_zero, Int.zero_sub, Int.neg_neg]
    refine by_ret R8 ?_
    simp +contextual (disch := omega) only [go_sem, Nat.reduceEqDiff, ↓reduceIte, Int.reduceEq, Int.reduceNeg, wrap_add, o1, o2, bit_tup0, Int.reduceBEq, Int.reduceBNe, Int.reduceLT, beq_self_eq_true, bne_self_eq_false, Bool.not_true, Bool.not_false, decide_true, decide_false, Bool.false_eq_true, Bool.true_eq_false, Bool.xor_self, Bool.true_xor, Bool.false_xor, Bool.bne_false, Bool.bne_true, Int.reduceSub, Int.sub_self, Int.sub_zero, Int.zero_sub, Int.neg_neg]
    refine by_hp R9 K9 ?_
    simp +contextual (disch := omega) only [go_sem, Nat.reduceEqDiff, ↓reduceIte, Int.reduceEq, Int.reduceNeg, wrap_add, o1, o2, lk0, bit_tup0, Int.reduceBEq, Int.reduceBNe, Int.reduceLT, beq_self_eq_true, bne_self_eq_false, Bool.not_true, Bool.not_false, decide_true, decide_false, Bool.false_eq_true, Bool.true_eq_false, Bool.xor_self, Bool.true_xor, Bool.false_xor, Bool.bne_false, Bool.bne_true, Int.reduceSub, Int.sub_self, Int.sub_zero, Int.zero_sub, Int.neg_neg]
    exact ⟨_, rfl, rfl⟩
theorem row_OrdersKnow (σ : St) (v : GV) (bs : List Int) (hv : Sl (Ek.int .u8) σ v bs) (hw : bs.length ≤ 9223372036854775807 ∧ ∀ y ∈ bs, (Lit.int .u8 y).wf = true) : ∃ r τ, Ret Try.prog n_l_FnOrdersKnow [v] σ r τ ∧ r = .bool true := law_OrdersKnow σ v bs (hv.rs rfl (fun h => h)) hw.1
end Go.Proofs.Ytopannfdcikgiaa.Sy

