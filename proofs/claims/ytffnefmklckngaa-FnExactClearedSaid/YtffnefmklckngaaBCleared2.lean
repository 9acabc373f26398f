/- Texts of this proof, one behind the other. -/
import Derived.Test.YtffnefmklckngaaBCleared1
import Derived.Test.YtffnefmklckngaaProg
import Derived.KernelRfl
/- Contracts of the laws' own functions: HeqLiveS. -/
namespace Go.Proofs.Ytffnefmklckngaa.Sy
open Go Go.RowKit
set_option linter.unusedSimpArgs false
set_option linter.unusedVariables false
abbrev n_l_eqLiveS : Nat := 40
def F_l_eqLiveS : Fn1 := ⟨27, [.t 4], (.seq (.reg [o 4 (.mov (.k (.bool false)))]) (.seq (.seq (.reg [o 6 (.mov (.t 0)), o 7 (.len false (.t 6)), o 8 (.mov (.t 1)), o 9 (.len false (.t 8)), o 10 (.bin .neq (.t 7) (.t 9))]) (.cnd (.t 10) (.seq (.reg [o 4 (.mov (.k (.bool false)))]) .ret) .skip)) (.seq (.seq (.reg [o 5 (.mov (.k (.int .i64 0)))]) (.blk 0 (.lop (.seq (.seq (.reg [o 11 (.mov (.t 5)), o 12 (.mov (.t 0)), o 13 (.len false (.t 12)), o 14 (.bin .lss (.t 11) (.t 13))]) (.cnd (.t 14) .skip (.ext 0))) (.seq (.blk 1 (.seq (.drw [o 17 (.mov (.t 0)), o 18 (.mov (.t 5)), o 19 (.iad 6 (.t 17) (.t 18)), o 20 (.ld true 6 (.t 19)), o 21 (.mov (.t 1)), o 22 (.mov (.t 5)), o 23 (.iad 6 (.t 21) (.t 22)), o 24 (.ld true 6 (.t 23))] [o 25 (.call 72 [(.t 20), (.t 24)]), o 26 (.un .not (.t 25))]) (.cnd (.t 26) (.seq (.reg [o 4 (.mov (.k (.bool false)))]) .ret) .skip))) (.reg [o 15 (.mov (.t 5)), o 16 (.bin .add (.t 15) (.k (.int .i64 1))), o 5 (.mov (.t 16))])))))) (.seq (.reg [o 4 (.mov (.k (.bool true)))]) .ret))))⟩
theorem ir_l_eqLiveS : compFn Try.prog n_l_eqLiveS = some F_l_eqLiveS := by kernel_rfl
theorem l_eqLiveS_ret (σ : St) (v u : GV) (l m : List Live) (hv : RS pLive.kd σ v l) (hu : RS pLive.kd σ u m) (hl : (l.length + sumL msLive l) ≤ 1099511627776) : Ret Try.prog n_l_eqLiveS [v, u] σ (.bool (decide (l = m))) σ := by
  refine ret_eq ir_l_eqLiveS (Nat.le_of_ble_eq_true rfl) trivial ?_
  simp +contextual (maxSteps := 600000) (disch := omega) only [go_sem, Nat.reduceEqDiff, ↓reduceIte, Int.reduceEq, Int.reduceNeg, wrap_add, F_l_eqLiveS, hv.len, hu.len]
  refine ⟨fun hn => ?_, fun hn => ?_⟩
  · have : l ≠ m := fun h => by subst h; simp at hn
    simp [this]
  have hlm : l.length = m.length := by have h2 : (l.length : Int) = m.length := by simpa using hn
                                       omega
  refine vc_for l.length 5 (fun i env τ => env 0 = v ∧ env 1 = u ∧ l.take i = m.take i ∧ σ <+: τ) rfl ⟨rfl, rfl, rfl, List.prefix_refl _⟩ ?_ ?_
  · rintro i env τ hi e5 c0 ⟨e0, e1, he, hp⟩
    have hj : i < m.length := by omega
    have h1 := hv.pre hp
    have h2 := hu.pre hp
    have hne : l[i] ≠ m[i] → l ≠ m := fun h h' => h (by subst h'; rfl)
    have hst : l[i] = m[i] → l.take (i + 1) = m.take (i + 1) := fun h => by rw [take_snoc hi, take_snoc hj, he, h]
    have hms : msLive l[i] ≤ sumL msLive l := sumL_mem (List.getElem_mem hi)
    simp +contextual (maxSteps := 600000) (disch := omega) only [go_sem, Nat.reduceEqDiff, ↓reduceIte, Int.reduceEq, Int.reduceNeg, wrap_add, c0, e0, e1, e5, hv.len, hu.len, Live_at h1 hi, Live_at h2 hj]
    refine by_ret (l_eqLive_ret τ l[i] m[i]) ?_
    simp +contextual (maxSteps := 600000) (disch := omega) only [go_sem, Nat.reduceEqDiff, ↓reduceIte, Int.reduceEq, Int.reduceNeg, wrap_add, e0, e1, e5, hp]
    refine ⟨fun h => ?_, fun h => ?_⟩
    · simp [hne (by simpa using h)]
    · simpa using hst (by simpa using h)
  · rintro env τ e5 c0 ⟨e0, e1, he, hp⟩
    rw [List.take_length, hlm, List.take_length] at he
    simp +contextual (maxSteps := 600000) (disch := omega) only [go_sem, Nat.reduceEqDiff, ↓reduceIte, Int.reduceEq, Int.reduceNeg, wrap_add, c0, e0, e1, e5, hv.len, hu.len, hp]
    simp [he]
end Go.Proofs.Ytffnefmklckngaa.Sy

/- Contracts of the laws' own functions: HeqTally. -/
namespace Go.Proofs.Ytffnefmklckngaa.Sy
open Go Go.RowKit
set_option linter.unusedSimpArgs false
set_option linter.unusedVariables false
abbrev n_l_eqTally : Nat := 71
def F_l_eqTally : Fn1 := ⟨20, [.t 4], (.seq (.reg [o 2 (.box (.t 0)), o 3 (.box (.t 1)), o 4 (.mov (.k (.bool false)))]) (.seq (.seq (.reg [o 5 (.fad 0 (.t 2)), o 6 (.ld false 1 (.t 5)), o 7 (.fad 0 (.t 3)), o 8 (.ld false 1 (.t 7)), o 9 (.bin .neq (.t 6) (.t 8))]) (.cnd (.t 9) (.seq (.reg [o 4 (.mov (.k (.bool false)))]) .ret) .skip)) (.seq (.seq (.reg [o 10 (.fad 1 (.t 2)), o 11 (.ld false 1 (.t 10)), o 12 (.fad 1 (.t 3)), o 13 (.ld false 1 (.t 12)), o 14 (.bin .neq (.t 11) (.t 13))]) (.cnd (.t 14) (.seq (.reg [o 4 (.mov (.k (.bool false)))]) .ret) .skip)) (.seq (.seq (.reg [o 15 (.fad 2 (.t 2)), o 16 (.ld false 1 (.t 15)), o 17 (.fad 2 (.t 3)), o 18 (.ld false 1 (.t 17)), o 19 (.bin .neq (.t 16) (.t 18))]) (.cnd (.t 19) (.seq (.reg [o 4 (.mov (.k (.bool false)))]) .ret) .skip)) (.seq (.reg [o 4 (.mov (.k (.bool true)))]) .ret)))))⟩
theorem ir_l_eqTally : compFn Try.prog n_l_eqTally = some F_l_eqTally := by kernel_rfl
theorem l_eqTally_ret (σ : St) (x y : Tally) : Ret Try.prog n_l_eqTally [.agg [.str x.obj, .int .i64 x.rep, .int .i64 x.sum], .agg [.str y.obj, .int .i64 y.rep, .int .i64 y.sum]] σ (.bool (decide (x = y))) σ := by
  refine ret_eq ir_l_eqTally (Nat.le_of_ble_eq_true rfl) trivial ?_
  simp +contextual (maxSteps := 600000) (disch := omega) only [go_sem, Nat.reduceEqDiff, ↓reduceIte, Int.reduceEq, Int.reduceNeg, wrap_add, F_l_eqTally, List.append_nil]
  refine ⟨fun hn => ?_, fun hn => ?_⟩
  · simp only [Tally.eq_iff]; simp at hn ⊢; simp [hn]
  have q0 : x.obj = y.obj := by simpa using hn
  refine ⟨fun hn => ?_, fun hn => ?_⟩
  · simp only [Tally.eq_iff]; simp at hn ⊢; simp [hn]
  have q1 : x.rep = y.rep := by simpa using hn
  refine ⟨fun hn => ?_, fun hn => ?_⟩
  · simp only [Tally.eq_iff]; simp at hn ⊢; simp [hn]
  have q2 : x.sum = y.sum := by simpa using hn
  simp only [Tally.eq_iff, q0, q1, q2, and_self, decide_true]
end Go.Proofs.Ytffnefmklckngaa.Sy

/- Contracts of the laws' own functions: HeqTallyS. -/
namespace Go.Proofs.Ytffnefmklckngaa.Sy
open Go Go.RowKit
set_option linter.unusedSimpArgs false
set_option linter.unusedVariables false
abbrev n_l_eqTallyS : Nat := 39
def F_l_eqTallyS : Fn1 := ⟨27, [.t 4], (.seq (.reg [o 4 (.mov (.k (.bool false)))]) (.seq (.seq (.reg [o 6 (.mov (.t 0)), o 7 (.len false (.t 6)), o 8 (.mov (.t 1)), o 9 (.len false (.t 8)), o 10 (.bin .neq (.t 7) (.t 9))]) (.cnd (.t 10) (.seq (.reg [o 4 (.mov (.k (.bool false)))]) .ret) .skip)) (.seq (.seq (.reg [o 5 (.mov (.k (.int .i64 0)))]) (.blk 0 (.lop (.seq (.seq (.reg [o 11 (.mov (.t 5)), o 12 (.mov (.t 0)), o 13 (.len false (.t 12)), o 14 (.bin .lss (.t 11) (.t 13))]) (.cnd (.t 14) .skip (.ext 0))) (.seq (.blk 1 (.seq (.drw [o 17 (.mov (.t 0)), o 18 (.mov (.t 5)), o 19 (.iad 3 (.t 17) (.t 18)), o 20 (.ld true 3 (.t 19)), o 21 (.mov (.t 1)), o 22 (.mov (.t 5)), o 23 (.iad 3 (.t 21) (.t 22)), o 24 (.ld true 3 (.t 23))] [o 25 (.call 71 [(.t 20), (.t 24)]), o 26 (.un .not (.t 25))]) (.cnd (.t 26) (.seq (.reg [o 4 (.mov (.k (.bool false)))]) .ret) .skip))) (.reg [o 15 (.mov (.t 5)), o 16 (.bin .add (.t 15) (.k (.int .i64 1))), o 5 (.mov (.t 16))])))))) (.seq (.reg [o 4 (.mov (.k (.bool true)))]) .ret))))⟩
theorem ir_l_eqTallyS : compFn Try.prog n_l_eqTallyS = some F_l_eqTallyS := by kernel_rfl
theorem l_eqTallyS_ret (σ : St) (v u : GV) (l m : List Tally) (hv : RS pTally.kd σ v l) (hu : RS pTally.kd σ u m) (hl : (l.length + sumL msTally l) ≤ 1099511627776) : Ret Try.prog n_l_eqTallyS [v, u] σ (.bool (decide (l = m))) σ := by
  refine ret_eq ir_l_eqTallyS (Nat.le_of_ble_eq_true rfl) trivial ?_
  simp +contextual (maxSteps := 600000) (disch := omega) only [go_sem, Nat.reduceEqDiff, ↓reduceIte, Int.reduceEq, Int.reduceNeg, wrap_add, F_l_eqTallyS, hv.len, hu.len]
  refine ⟨fun hn => ?_, fun hn => ?_⟩
  · have : l ≠ m := fun h => by subst h; simp at hn
    simp [this]
  have hlm : l.length = m.length := by have h2 : (l.length : Int) = m.length := by simpa using hn
                                       omega
  refine vc_for l.length 5 (fun i env τ => env 0 = v ∧ env 1 = u ∧ l.take i = m.take i ∧ σ <+: τ) rfl ⟨rfl, rfl, rfl, List.prefix_refl _⟩ ?_ ?_
  · rintro i env τ hi e5 c0 ⟨e0, e1, he, hp⟩
    have hj : i < m.length := by omega
    have h1 := hv.pre hp
    have h2 := hu.pre hp
    have hne : l[i] ≠ m[i] → l ≠ m := fun h h' => h (by subst h'; rfl)
    have hst : l[i] = m[i] → l.take (i + 1) = m.take (i + 1) := fun h => by rw [take_snoc hi, take_snoc hj, he, h]
    have hms : msTally l[i] ≤ sumL msTally l := sumL_mem (List.getElem_mem hi)
    simp +contextual (maxSteps := 600000) (disch := omega) only [go_sem, Nat.reduceEqDiff, ↓reduceIte, Int.reduceEq, Int.reduceNeg, wrap_add, c0, e0, e1, e5, hv.len, hu.len, Tally_at h1 hi, Tally_at h2 hj]
    refine by_ret (l_eqTally_ret τ l[i] m[i]) ?_
    simp +contextual (maxSteps := 600000) (disch := omega) only [go_sem, Nat.reduceEqDiff, ↓reduceIte, Int.reduceEq, Int.reduceNeg, wrap_add, e0, e1, e5, hp]
    refine ⟨fun h => ?_, fun h => ?_⟩
    · simp [hne (by simpa using h)]
    · simpa using hst (by simpa using h)
  · rintro env τ e5 c0 ⟨e0, e1, he, hp⟩
    rw [List.take_length, hlm, List.take_length] at he
    simp +contextual (maxSteps := 600000) (disch := omega) only [go_sem, Nat.reduceEqDiff, ↓reduceIte, Int.reduceEq, Int.reduceNeg, wrap_add, c0, e0, e1, e5, hv.len, hu.len, hp]
    simp [he]
end Go.Proofs.Ytffnefmklckngaa.Sy

/- Contracts of the laws' own functions: HeqState. -/
namespace Go.Proofs.Ytffnefmklckngaa.Sy
open Go Go.RowKit
set_option linter.unusedSimpArgs false
set_option linter.unusedVariables false
abbrev n_l_eqState : Nat := 12
def F_l_eqState : Fn1 := ⟨29, [.t 4], (.seq (.reg [o 2 (.box (.t 0)), o 3 (.box (.t 1)), o 4 (.mov (.k (.bool false)))]) (.seq (.seq (.reg [o 5 (.fad 0 (.t 2)), o 6 (.ld false 1 (.t 5)), o 7 (.fad 0 (.t 3)), o 8 (.ld false 1 (.t 7)), o 9 (.call 17 [(.t 6), (.t 8)]), o 10 (.un .not (.t 9))]) (.cnd (.t 10) (.seq (.reg [o 4 (.mov (.k (.bool false)))]) .ret) .skip)) (.seq (.seq (.reg [o 11 (.fad 1 (.t 2)), o 12 (.ld false 1 (.t 11)), o 13 (.fad 1 (.t 3)), o 14 (.ld false 1 (.t 13)), o 15 (.call 39 [(.t 12), (.t 14)]), o 16 (.un .not (.t 15))]) (.cnd (.t 16) (.seq (.reg [o 4 (.mov (.k (.bool false)))]) .ret) .skip)) (.seq (.seq (.reg [o 17 (.fad 2 (.t 2)), o 18 (.ld false 1 (.t 17)), o 19 (.fad 2 (.t 3)), o 20 (.ld false 1 (.t 19)), o 21 (.call 40 [(.t 18), (.t 20)]), o 22 (.un .not (.t 21))]) (.cnd (.t 22) (.seq (.reg [o 4 (.mov (.k (.bool false)))]) .ret) .skip)) (.seq (.seq (.reg [o 23 (.fad 3 (.t 2)), o 24 (.ld false 1 (.t 23)), o 25 (.fad 3 (.t 3)), o 26 (.ld false 1 (.t 25)), o 27 (.call 41 [(.t 24), (.t 26)]), o 28 (.un .not (.t 27))]) (.cnd (.t 28) (.seq (.reg [o 4 (.mov (.k (.bool false)))]) .ret) .skip)) (.seq (.reg [o 4 (.mov (.k (.bool true)))]) .ret))))))⟩
theorem ir_l_eqState : compFn Try.prog n_l_eqState = some F_l_eqState := by kernel_rfl
theorem l_eqState_ret (σ : St) (cs ds : List GV) (x y : State) (hx : kState.R σ x cs) (hy : kState.R σ y ds) (hl : msState x ≤ 1099511627776) : Ret Try.prog n_l_eqState [.agg cs, .agg ds] σ (.bool (decide (x = y))) σ := by
  obtain ⟨v0, v1, v2, v3, rfl, q0_, q1_, q2_, q3_⟩ := hx
  obtain ⟨u0, u1, u2, u3, rfl, p0_, p1_, p2_, p3_⟩ := hy
  unfold msState at hl
  refine ret_eq ir_l_eqState (Nat.le_of_ble_eq_true rfl) trivial ?_
  simp +contextual (maxSteps := 600000) (disch := omega) only [go_sem, Nat.reduceEqDiff, ↓reduceIte, Int.reduceEq, Int.reduceNeg, wrap_add, F_l_eqState, List.append_nil]
  refine by_ret (l_eqIntS_ret _ v0 u0 x.know y.know (q0_.pre pre2) (p0_.pre pre2) (by omega)) ?_
  simp +contextual (maxSteps := 600000) (disch := omega) only [go_sem, Nat.reduceEqDiff, ↓reduceIte, Int.reduceEq, Int.reduceNeg, wrap_add, List.append_nil]
  refine ⟨fun hn => ?_, fun hn => ?_⟩
  · simp only [State.eq_iff]; simp at hn ⊢; simp [hn]
  have q0 : x.know = y.know := by simpa using hn
  refine by_ret (l_eqTallyS_ret _ v1 u1 x.tallies y.tallies (q1_.pre pre2) (p1_.pre pre2) (by omega)) ?_
  simp +contextual (maxSteps := 600000) (disch := omega) only [go_sem, Nat.reduceEqDiff, ↓reduceIte, Int.reduceEq, Int.reduceNeg, wrap_add, List.append_nil]
  refine ⟨fun hn => ?_, fun hn => ?_⟩
  · simp only [State.eq_iff]; simp at hn ⊢; simp [hn]
  have q1 : x.tallies = y.tallies := by simpa using hn
  refine by_ret (l_eqLiveS_ret _ v2 u2 x.lives y.lives (q2_.pre pre2) (p2_.pre pre2) (by omega)) ?_
  simp +contextual (maxSteps := 600000) (disch := omega) only [go_sem, Nat.reduceEqDiff, ↓reduceIte, Int.reduceEq, Int.reduceNeg, wrap_add, List.append_nil]
  refine ⟨fun hn => ?_, fun hn => ?_⟩
  · simp only [State.eq_iff]; simp at hn ⊢; simp [hn]
  have q2 : x.lives = y.lives := by simpa using hn
  refine by_ret (l_eqCellS_ret _ v3 u3 x.cells y.cells (q3_.pre pre2) (p3_.pre pre2) (by omega)) ?_
  simp +contextual (maxSteps := 600000) (disch := omega) only [go_sem, Nat.reduceEqDiff, ↓reduceIte, Int.reduceEq, Int.reduceNeg, wrap_add, List.append_nil]
  refine ⟨fun hn => ?_, fun hn => ?_⟩
  · simp only [State.eq_iff]; simp at hn ⊢; simp [hn]
  have q3 : x.cells = y.cells := by simpa using hn
  simp only [State.eq_iff, q0, q1, q2, q3, and_self, decide_true]
end Go.Proofs.Ytffnefmklckngaa.Sy

/- Contracts of the laws' own functions: marks. -/
namespace Go.Proofs.Ytffnefmklckngaa.Sy
open Go Go.RowKit
set_option linter.unusedSimpArgs false
set_option linter.unusedVariables false
def mInt (k : Int) : Int := k
def mString (k : Int) : ByteArray := mtx k
def mDot (k : Int) : Dot := ⟨k, k + 1⟩
def mTally (k : Int) : Tally := ⟨mtx (k), k + 1, k + 1 + 1⟩
def mLive (k : Int) : Live := ⟨((k).tmod 3 == 0), mtx (k + 1), mtx (k + 1 + 1), k + 1 + 1 + 1, ⟨k + 1 + 1 + 1 + 1, k + 1 + 1 + 1 + 1 + 1⟩⟩
def mCell (k : Int) : Cell := ⟨mtx (k), ⟨k + 1, k + 1 + 1⟩, k + 1 + 1 + 1, ⟨k + 1 + 1 + 1 + 1, k + 1 + 1 + 1 + 1 + 1⟩, k + 1 + 1 + 1 + 1 + 1 + 1, ((k + 1 + 1 + 1 + 1 + 1 + 1 + 1).tmod 3 == 0)⟩
def mEdit (k : Int) : Edit := ⟨k, mtx (k + 1), mtx (k + 1 + 1), k + 1 + 1 + 1, k + 1 + 1 + 1 + 1⟩
def mWatch (k : Int) : Watch := ⟨k, mtx (k + 1), mtx (k + 1 + 1)⟩
def mClash (k : Int) : Clash := ⟨mtx (k), mtx (k + 1)⟩
def mFile (k : Int) : File := ⟨mtx (k), k + 1⟩
def mLetter (k : Int) : Letter := ⟨k, mtx (k + 1)⟩
def mEvent (k : Int) : Event := ⟨k, k + 1, k + 1 + 1, ⟨k + 1 + 1 + 1, mtx (k + 1 + 1 + 1 + 1), mtx (k + 1 + 1 + 1 + 1 + 1), k + 1 + 1 + 1 + 1 + 1 + 1, k + 1 + 1 + 1 + 1 + 1 + 1 + 1⟩⟩
end Go.Proofs.Ytffnefmklckngaa.Sy

/- Contracts of the laws' own functions: marks of records. -/
namespace Go.Proofs.Ytffnefmklckngaa.Sy
open Go Go.RowKit
set_option linter.unusedSimpArgs false
set_option linter.unusedVariables false
def ctState (x : State) : Nat := 1 * x.know.length + 3 * x.tallies.length + 6 * x.lives.length + 8 * x.cells.length
def mkState (k : Int) (x : State) : State := { x with know := (mkF mInt 1 (k) x.know.length), tallies := (mkF mTally 3 (k + 1 * (x.know.length : Int)) x.tallies.length), lives := (mkF mLive 6 (k + 1 * (x.know.length : Int) + 3 * (x.tallies.length : Int)) x.lives.length), cells := (mkF mCell 8 (k + 1 * (x.know.length : Int) + 3 * (x.tallies.length : Int) + 6 * (x.lives.length : Int)) x.cells.length) }
theorem ctState_le (x : State) : ctState x ≤ 10 * msState x := by
  unfold ctState msState; omega
def ctAct (x : Act) : Nat := 1 * x.knew.length
def mkAct (k : Int) (x : Act) : Act := { x with knew := (mkF mInt 1 (k) x.knew.length) }
theorem ctAct_le (x : Act) : ctAct x ≤ 10 * msAct x := by
  unfold ctAct msAct; omega
def ctDelta (x : Delta) : Nat := 1 * x.base.length + 1 * x.know.length + 3 * x.tallies.length + 6 * x.lives.length + 2 * x.dead.length + 8 * x.cells.length
def mkDelta (k : Int) (x : Delta) : Delta := { x with base := (mkF mInt 1 (k) x.base.length), know := (mkF mInt 1 (k + 1 * (x.base.length : Int)) x.know.length), tallies := (mkF mTally 3 (k + 1 * (x.base.length : Int) + 1 * (x.know.length : Int)) x.tallies.length), lives := (mkF mLive 6 (k + 1 * (x.base.length : Int) + 1 * (x.know.length : Int) + 3 * (x.tallies.length : Int)) x.lives.length), dead := (mkF mDot 2 (k + 1 * (x.base.length : Int) + 1 * (x.know.length : Int) + 3 * (x.tallies.length : Int) + 6 * (x.lives.length : Int)) x.dead.length), cells := (mkF mCell 8 (k + 1 * (x.base.length : Int) + 1 * (x.know.length : Int) + 3 * (x.tallies.length : Int) + 6 * (x.lives.length : Int) + 2 * (x.dead.length : Int)) x.cells.length) }
theorem ctDelta_le (x : Delta) : ctDelta x ≤ 10 * msDelta x := by
  unfold ctDelta msDelta; omega
end Go.Proofs.Ytffnefmklckngaa.Sy

/- Contracts of the laws' own functions: HheCellS. -/
namespace Go.Proofs.Ytffnefmklckngaa.Sy
open Go Go.RowKit
set_option linter.unusedSimpArgs false
set_option linter.unusedVariables false
abbrev n_l_heldCellS : Nat := 51
def F_l_heldCellS : Fn1 := ⟨92, [.t 4], (.seq (.reg [o 4 (.mov (.k (.int .i64 0)))]) (.seq (.seq (.reg [o 5 (.mov (.k (.int .i64 0)))]) (.blk 0 (.lop (.seq (.seq (.reg [o 6 (.mov (.t 5)), o 7 (.mov (.t 0)), o 8 (.len false (.t 7)), o 9 (.bin .lss (.t 6) (.t 8))]) (.cnd (.t 9) .skip (.ext 0))) (.seq (.blk 1 (.seq (.seq (.drw [o 12 (.mov (.t 0)), o 13 (.mov (.t 5)), o 14 (.iad 8 (.t 12) (.t 13)), o 15 (.fad 0 (.t 14)), o 16 (.ld false 1 (.t 15)), o 17 (.mov (.t 1)), o 18 (.call 79 [(.t 17)])] [o 19 (.bin .neq (.t 16) (.t 18))]) (.cnd (.t 19) (.seq (.reg [o 4 (.mov (.k (.int .i64 (-1))))]) .ret) .skip)) (.seq (.reg [o 20 (.mov (.t 1)), o 21 (.bin .add (.t 20) (.k (.int .i64 1))), o 1 (.mov (.t 21))]) (.seq (.seq (.reg [o 22 (.mov (.t 0)), o 23 (.mov (.t 5)), o 24 (.iad 8 (.t 22) (.t 23)), o 25 (.fad 1 (.t 24)), o 26 (.fad 0 (.t 25)), o 27 (.ld false 1 (.t 26)), o 28 (.mov (.t 1)), o 29 (.bin .neq (.t 27) (.t 28))]) (.cnd (.t 29) (.seq (.reg [o 4 (.mov (.k (.int .i64 (-1))))]) .ret) .skip)) (.seq (.reg [o 30 (.mov (.t 1)), o 31 (.bin .add (.t 30) (.k (.int .i64 1))), o 1 (.mov (.t 31))]) (.seq (.seq (.reg [o 32 (.mov (.t 0)), o 33 (.mov (.t 5)), o 34 (.iad 8 (.t 32) (.t 33)), o 35 (.fad 1 (.t 34)), o 36 (.fad 1 (.t 35)), o 37 (.ld false 1 (.t 36)), o 38 (.mov (.t 1)), o 39 (.bin .neq (.t 37) (.t 38))]) (.cnd (.t 39) (.seq (.reg [o 4 (.mov (.k (.int .i64 (-1))))]) .ret) .skip)) (.seq (.reg [o 40 (.mov (.t 1)), o 41 (.bin .add (.t 40) (.k (.int .i64 1))), o 1 (.mov (.t 41))]) (.seq (.seq (.reg [o 42 (.mov (.t 0)), o 43 (.mov (.t 5)), o 44 (.iad 8 (.t 42) (.t 43)), o 45 (.fad 3 (.t 44)), o 46 (.ld false 1 (.t 45)), o 47 (.mov (.t 1)), o 48 (.bin .neq (.t 46) (.t 47))]) (.cnd (.t 48) (.seq (.reg [o 4 (.mov (.k (.int .i64 (-1))))]) .ret) .skip)) (.seq (.reg [o 49 (.mov (.t 1)), o 50 (.bin .add (.t 49) (.k (.int .i64 1))), o 1 (.mov (.t 50))]) (.seq (.seq (.reg [o 51 (.mov (.t 0)), o 52 (.mov (.t 5)), o 53 (.iad 8 (.t 51) (.t 52)), o 54 (.fad 4 (.t 53)), o 55 (.fad 0 (.t 54)), o 56 (.ld false 1 (.t 55)), o 57 (.mov (.t 1)), o 58 (.bin .neq (.t 56) (.t 57))]) (.cnd (.t 58) (.seq (.reg [o 4 (.mov (.k (.int .i64 (-1))))]) .ret) .skip)) (.seq (.reg [o 59 (.mov (.t 1)), o 60 (.bin .add (.t 59) (.k (.int .i64 1))), o 1 (.mov (.t 60))]) (.seq (.seq (.reg [o 61 (.mov (.t 0)), o 62 (.mov (.t 5)), o 63 (.iad 8 (.t 61) (.t 62)), o 64 (.fad 4 (.t 63)), o 65 (.fad 1 (.t 64)), o 66 (.ld false 1 (.t 65)), o 67 (.mov (.t 1)), o 68 (.bin .neq (.t 66) (.t 67))]) (.cnd (.t 68) (.seq (.reg [o 4 (.mov (.k (.int .i64 (-1))))]) .ret) .skip)) (.seq (.reg [o 69 (.mov (.t 1)), o 70 (.bin .add (.t 69) (.k (.int .i64 1))), o 1 (.mov (.t 70))]) (.seq (.seq (.reg [o 71 (.mov (.t 0)), o 72 (.mov (.t 5)), o 73 (.iad 8 (.t 71) (.t 72)), o 74 (.fad 6 (.t 73)), o 75 (.ld false 1 (.t 74)), o 76 (.mov (.t 1)), o 77 (.bin .neq (.t 75) (.t 76))]) (.cnd (.t 77) (.seq (.reg [o 4 (.mov (.k (.int .i64 (-1))))]) .ret) .skip)) (.seq (.reg [o 78 (.mov (.t 1)), o 79 (.bin .add (.t 78) (.k (.int .i64 1))), o 1 (.mov (.t 79))]) (.seq (.seq (.reg [o 80 (.mov (.t 0)), o 81 (.mov (.t 5)), o 82 (.iad 8 (.t 80) (.t 81)), o 83 (.fad 7 (.t 82)), o 84 (.ld false 1 (.t 83)), o 85 (.mov (.t 1)), o 86 (.bin .rem (.t 85) (.k (.int .i64 3))), o 87 (.bin .eql (.t 86) (.k (.int .i64 0))), o 88 (.eqb true (.t 84) (.t 87))]) (.cnd (.t 88) (.seq (.reg [o 4 (.mov (.k (.int .i64 (-1))))]) .ret) .skip)) (.reg [o 89 (.mov (.t 1)), o 90 (.bin .add (.t 89) (.k (.int .i64 1))), o 1 (.mov (.t 90))]))))))))))))))))) (.reg [o 10 (.mov (.t 5)), o 11 (.bin .add (.t 10) (.k (.int .i64 1))), o 5 (.mov (.t 11))])))))) (.seq (.reg [o 91 (.mov (.t 1)), o 4 (.mov (.t 91))]) .ret)))⟩
theorem ir_l_heldCellS : compFn Try.prog n_l_heldCellS = some F_l_heldCellS := by kernel_rfl
theorem l_heldCellS_ret (σ : St) (v : GV) (n : Nat) (k : Int) (hR : RS pCell.kd σ v (mkF mCell 8 k n)) (h0 : 0 ≤ k) (hk : k + 8 * n ≤ 4611686018427387904) : Ret Try.prog n_l_heldCellS [v, gi k] σ (gi (k + 8 * n)) σ := by
  refine ret_eq ir_l_heldCellS (Nat.le_of_ble_eq_true rfl) trivial ?_
  have hln := hR.len
  rw [mkF_length] at hln
  simp +contextual (maxSteps := 600000) (disch := omega) only [go_sem, Nat.reduceEqDiff, ↓reduceIte, Int.reduceEq, Int.reduceNeg, wrap_add, F_l_heldCellS]
  refine vc_for n 5 (fun i env τ => env 0 = v ∧ env 1 = gi (k + 8 * (i : Int)) ∧ σ <+: τ) rfl ⟨rfl, (by show gi k = gi (k + 8 * 0); simp), List.prefix_refl _⟩ ?_ ?_
  · rintro i env τ hi e5 c0 ⟨e0, e1, hp⟩
    have hj : i < (mkF mCell 8 k n).length := by rw [mkF_length]; exact hi
    have hat := Cell_at (hR.pre hp) hj
    simp only [mkF_get, mCell] at hat
    simp +contextual (maxSteps := 600000) (disch := omega) only [go_sem, Nat.reduceEqDiff, ↓reduceIte, Int.reduceEq, Int.reduceNeg, wrap_add, c0, e0, e1, e5, hln, hat, hp, bne_self_eq_false, beq_self_eq_true]
    refine by_ret (l_markText_ret _ _ (by omega)) ?_
    simp +contextual (maxSteps := 600000) (disch := omega) only [go_sem, Nat.reduceEqDiff, ↓reduceIte, Int.reduceEq, Int.reduceNeg, wrap_add, c0, e0, e1, e5, hln, hat, hp, bne_self_eq_false, beq_self_eq_true]
    omega
  · rintro env τ e5 c0 ⟨e0, e1, hp⟩
    simp +contextual (maxSteps := 600000) (disch := omega) only [go_sem, Nat.reduceEqDiff, ↓reduceIte, Int.reduceEq, Int.reduceNeg, wrap_add, c0, e0, e1, e5, hln, hp]
end Go.Proofs.Ytffnefmklckngaa.Sy

/- Contracts of the laws' own functions: HheIntS. -/
namespace Go.Proofs.Ytffnefmklckngaa.Sy
open Go Go.RowKit
set_option linter.unusedSimpArgs false
set_option linter.unusedVariables false
abbrev n_l_heldIntS : Nat := 27
def F_l_heldIntS : Fn1 := ⟨21, [.t 4], (.seq (.reg [o 4 (.mov (.k (.int .i64 0)))]) (.seq (.seq (.reg [o 5 (.mov (.k (.int .i64 0)))]) (.blk 0 (.lop (.seq (.seq (.reg [o 6 (.mov (.t 5)), o 7 (.mov (.t 0)), o 8 (.len false (.t 7)), o 9 (.bin .lss (.t 6) (.t 8))]) (.cnd (.t 9) .skip (.ext 0))) (.seq (.blk 1 (.seq (.seq (.reg [o 12 (.mov (.t 0)), o 13 (.mov (.t 5)), o 14 (.iad 1 (.t 12) (.t 13)), o 15 (.ld false 1 (.t 14)), o 16 (.mov (.t 1)), o 17 (.bin .neq (.t 15) (.t 16))]) (.cnd (.t 17) (.seq (.reg [o 4 (.mov (.k (.int .i64 (-1))))]) .ret) .skip)) (.reg [o 18 (.mov (.t 1)), o 19 (.bin .add (.t 18) (.k (.int .i64 1))), o 1 (.mov (.t 19))]))) (.reg [o 10 (.mov (.t 5)), o 11 (.bin .add (.t 10) (.k (.int .i64 1))), o 5 (.mov (.t 11))])))))) (.seq (.reg [o 20 (.mov (.t 1)), o 4 (.mov (.t 20))]) .ret)))⟩
theorem ir_l_heldIntS : compFn Try.prog n_l_heldIntS = some F_l_heldIntS := by kernel_rfl
theorem l_heldIntS_ret (σ : St) (v : GV) (n : Nat) (k : Int) (hR : RS pI.kd σ v (mkF mInt 1 k n)) (h0 : 0 ≤ k) (hk : k + 1 * n ≤ 4611686018427387904) : Ret Try.prog n_l_heldIntS [v, gi k] σ (gi (k + 1 * n)) σ := by
  refine ret_eq ir_l_heldIntS (Nat.le_of_ble_eq_true rfl) trivial ?_
  have hln := hR.len
  rw [mkF_length] at hln
  simp +contextual (maxSteps := 600000) (disch := omega) only [go_sem, Nat.reduceEqDiff, ↓reduceIte, Int.reduceEq, Int.reduceNeg, wrap_add, F_l_heldIntS]
  refine vc_for n 5 (fun i env τ => env 0 = v ∧ env 1 = gi (k + 1 * (i : Int)) ∧ σ <+: τ) rfl ⟨rfl, (by show gi k = gi (k + 1 * 0); simp), List.prefix_refl _⟩ ?_ ?_
  · rintro i env τ hi e5 c0 ⟨e0, e1, hp⟩
    have hj : i < (mkF mInt 1 k n).length := by rw [mkF_length]; exact hi
    have hat := int_at (hR.pre hp) hj
    simp only [mkF_get, mInt] at hat
    simp +contextual (maxSteps := 600000) (disch := omega) only [go_sem, Nat.reduceEqDiff, ↓reduceIte, Int.reduceEq, Int.reduceNeg, wrap_add, c0, e0, e1, e5, hln, hat, hp, bne_self_eq_false, beq_self_eq_true]
    omega
  · rintro env τ e5 c0 ⟨e0, e1, hp⟩
    simp +contextual (maxSteps := 600000) (disch := omega) only [go_sem, Nat.reduceEqDiff, ↓reduceIte, Int.reduceEq, Int.reduceNeg, wrap_add, c0, e0, e1, e5, hln, hp]
end Go.Proofs.Ytffnefmklckngaa.Sy

/- Contracts of the laws' own functions: HheLiveS. -/
namespace Go.Proofs.Ytffnefmklckngaa.Sy
open Go Go.RowKit
set_option linter.unusedSimpArgs false
set_option linter.unusedVariables false
abbrev n_l_heldLiveS : Nat := 50
def F_l_heldLiveS : Fn1 := ⟨73, [.t 4], (.seq (.reg [o 4 (.mov (.k (.int .i64 0)))]) (.seq (.seq (.reg [o 5 (.mov (.k (.int .i64 0)))]) (.blk 0 (.lop (.seq (.seq (.reg [o 6 (.mov (.t 5)), o 7 (.mov (.t 0)), o 8 (.len false (.t 7)), o 9 (.bin .lss (.t 6) (.t 8))]) (.cnd (.t 9) .skip (.ext 0))) (.seq (.blk 1 (.seq (.seq (.reg [o 12 (.mov (.t 0)), o 13 (.mov (.t 5)), o 14 (.iad 6 (.t 12) (.t 13)), o 15 (.fad 0 (.t 14)), o 16 (.ld false 1 (.t 15)), o 17 (.mov (.t 1)), o 18 (.bin .rem (.t 17) (.k (.int .i64 3))), o 19 (.bin .eql (.t 18) (.k (.int .i64 0))), o 20 (.eqb true (.t 16) (.t 19))]) (.cnd (.t 20) (.seq (.reg [o 4 (.mov (.k (.int .i64 (-1))))]) .ret) .skip)) (.seq (.reg [o 21 (.mov (.t 1)), o 22 (.bin .add (.t 21) (.k (.int .i64 1))), o 1 (.mov (.t 22))]) (.seq (.seq (.drw [o 23 (.mov (.t 0)), o 24 (.mov (.t 5)), o 25 (.iad 6 (.t 23) (.t 24)), o 26 (.fad 1 (.t 25)), o 27 (.ld false 1 (.t 26)), o 28 (.mov (.t 1)), o 29 (.call 79 [(.t 28)])] [o 30 (.bin .neq (.t 27) (.t 29))]) (.cnd (.t 30) (.seq (.reg [o 4 (.mov (.k (.int .i64 (-1))))]) .ret) .skip)) (.seq (.reg [o 31 (.mov (.t 1)), o 32 (.bin .add (.t 31) (.k (.int .i64 1))), o 1 (.mov (.t 32))]) (.seq (.seq (.drw [o 33 (.mov (.t 0)), o 34 (.mov (.t 5)), o 35 (.iad 6 (.t 33) (.t 34)), o 36 (.fad 2 (.t 35)), o 37 (.ld false 1 (.t 36)), o 38 (.mov (.t 1)), o 39 (.call 79 [(.t 38)])] [o 40 (.bin .neq (.t 37) (.t 39))]) (.cnd (.t 40) (.seq (.reg [o 4 (.mov (.k (.int .i64 (-1))))]) .ret) .skip)) (.seq (.reg [o 41 (.mov (.t 1)), o 42 (.bin .add (.t 41) (.k (.int .i64 1))), o 1 (.mov (.t 42))]) (.seq (.seq (.reg [o 43 (.mov (.t 0)), o 44 (.mov (.t 5)), o 45 (.iad 6 (.t 43) (.t 44)), o 46 (.fad 3 (.t 45)), o 47 (.ld false 1 (.t 46)), o 48 (.mov (.t 1)), o 49 (.bin .neq (.t 47) (.t 48))]) (.cnd (.t 49) (.seq (.reg [o 4 (.mov (.k (.int .i64 (-1))))]) .ret) .skip)) (.seq (.reg [o 50 (.mov (.t 1)), o 51 (.bin .add (.t 50) (.k (.int .i64 1))), o 1 (.mov (.t 51))]) (.seq (.seq (.reg [o 52 (.mov (.t 0)), o 53 (.mov (.t 5)), o 54 (.iad 6 (.t 52) (.t 53)), o 55 (.fad 4 (.t 54)), o 56 (.fad 0 (.t 55)), o 57 (.ld false 1 (.t 56)), o 58 (.mov (.t 1)), o 59 (.bin .neq (.t 57) (.t 58))]) (.cnd (.t 59) (.seq (.reg [o 4 (.mov (.k (.int .i64 (-1))))]) .ret) .skip)) (.seq (.reg [o 60 (.mov (.t 1)), o 61 (.bin .add (.t 60) (.k (.int .i64 1))), o 1 (.mov (.t 61))]) (.seq (.seq (.reg [o 62 (.mov (.t 0)), o 63 (.mov (.t 5)), o 64 (.iad 6 (.t 62) (.t 63)), o 65 (.fad 4 (.t 64)), o 66 (.fad 1 (.t 65)), o 67 (.ld false 1 (.t 66)), o 68 (.mov (.t 1)), o 69 (.bin .neq (.t 67) (.t 68))]) (.cnd (.t 69) (.seq (.reg [o 4 (.mov (.k (.int .i64 (-1))))]) .ret) .skip)) (.reg [o 70 (.mov (.t 1)), o 71 (.bin .add (.t 70) (.k (.int .i64 1))), o 1 (.mov (.t 71))]))))))))))))) (.reg [o 10 (.mov (.t 5)), o 11 (.bin .add (.t 10) (.k (.int .i64 1))), o 5 (.mov (.t 11))])))))) (.seq (.reg [o 72 (.mov (.t 1)), o 4 (.mov (.t 72))]) .ret)))⟩
theorem ir_l_heldLiveS : compFn Try.prog n_l_heldLiveS = some F_l_heldLiveS := by kernel_rfl
theorem l_heldLiveS_ret (σ : St) (v : GV) (n : Nat) (k : Int) (hR : RS pLive.kd σ v (mkF mLive 6 k n)) (h0 : 0 ≤ k) (hk : k + 6 * n ≤ 4611686018427387904) : Ret Try.prog n_l_heldLiveS [v, gi k] σ (gi (k + 6 * n)) σ := by
  refine ret_eq ir_l_heldLiveS (Nat.le_of_ble_eq_true rfl) trivial ?_
  have hln := hR.len
  rw [mkF_length] at hln
  simp +contextual (maxSteps := 600000) (disch := omega) only [go_sem, Nat.reduceEqDiff, ↓reduceIte, Int.reduceEq, Int.reduceNeg, wrap_add, F_l_heldLiveS]
  refine vc_for n 5 (fun i env τ => env 0 = v ∧ env 1 = gi (k + 6 * (i : Int)) ∧ σ <+: τ) rfl ⟨rfl, (by show gi k = gi (k + 6 * 0); simp), List.prefix_refl _⟩ ?_ ?_
  · rintro i env τ hi e5 c0 ⟨e0, e1, hp⟩
    have hj : i < (mkF mLive 6 k n).length := by rw [mkF_length]; exact hi
    have hat := Live_at (hR.pre hp) hj
    simp only [mkF_get, mLive] at hat
    simp +contextual (maxSteps := 600000) (disch := omega) only [go_sem, Nat.reduceEqDiff, ↓reduceIte, Int.reduceEq, Int.reduceNeg, wrap_add, c0, e0, e1, e5, hln, hat, hp, bne_self_eq_false, beq_self_eq_true]
    refine by_ret (l_markText_ret _ _ (by omega)) ?_
    simp +contextual (maxSteps := 600000) (disch := omega) only [go_sem, Nat.reduceEqDiff, ↓reduceIte, Int.reduceEq, Int.reduceNeg, wrap_add, c0, e0, e1, e5, hln, hat, hp, bne_self_eq_false, beq_self_eq_true]
    refine by_ret (l_markText_ret _ _ (by omega)) ?_
    simp +contextual (maxSteps := 600000) (disch := omega) only [go_sem, Nat.reduceEqDiff, ↓reduceIte, Int.reduceEq, Int.reduceNeg, wrap_add, c0, e0, e1, e5, hln, hat, hp, bne_self_eq_false, beq_self_eq_true]
    omega
  · rintro env τ e5 c0 ⟨e0, e1, hp⟩
    simp +contextual (maxSteps := 600000) (disch := omega) only [go_sem, Nat.reduceEqDiff, ↓reduceIte, Int.reduceEq, Int.reduceNeg, wrap_add, c0, e0, e1, e5, hln, hp]
end Go.Proofs.Ytffnefmklckngaa.Sy

/- Contracts of the laws' own functions: HheTallyS. -/
namespace Go.Proofs.Ytffnefmklckngaa.Sy
open Go Go.RowKit
set_option linter.unusedSimpArgs false
set_option linter.unusedVariables false
abbrev n_l_heldTallyS : Nat := 49
def F_l_heldTallyS : Fn1 := ⟨41, [.t 4], (.seq (.reg [o 4 (.mov (.k (.int .i64 0)))]) (.seq (.seq (.reg [o 5 (.mov (.k (.int .i64 0)))]) (.blk 0 (.lop (.seq (.seq (.reg [o 6 (.mov (.t 5)), o 7 (.mov (.t 0)), o 8 (.len false (.t 7)), o 9 (.bin .lss (.t 6) (.t 8))]) (.cnd (.t 9) .skip (.ext 0))) (.seq (.blk 1 (.seq (.seq (.drw [o 12 (.mov (.t 0)), o 13 (.mov (.t 5)), o 14 (.iad 3 (.t 12) (.t 13)), o 15 (.fad 0 (.t 14)), o 16 (.ld false 1 (.t 15)), o 17 (.mov (.t 1)), o 18 (.call 79 [(.t 17)])] [o 19 (.bin .neq (.t 16) (.t 18))]) (.cnd (.t 19) (.seq (.reg [o 4 (.mov (.k (.int .i64 (-1))))]) .ret) .skip)) (.seq (.reg [o 20 (.mov (.t 1)), o 21 (.bin .add (.t 20) (.k (.int .i64 1))), o 1 (.mov (.t 21))]) (.seq (.seq (.reg [o 22 (.mov (.t 0)), o 23 (.mov (.t 5)), o 24 (.iad 3 (.t 22) (.t 23)), o 25 (.fad 1 (.t 24)), o 26 (.ld false 1 (.t 25)), o 27 (.mov (.t 1)), o 28 (.bin .neq (.t 26) (.t 27))]) (.cnd (.t 28) (.seq (.reg [o 4 (.mov (.k (.int .i64 (-1))))]) .ret) .skip)) (.seq (.reg [o 29 (.mov (.t 1)), o 30 (.bin .add (.t 29) (.k (.int .i64 1))), o 1 (.mov (.t 30))]) (.seq (.seq (.reg [o 31 (.mov (.t 0)), o 32 (.mov (.t 5)), o 33 (.iad 3 (.t 31) (.t 32)), o 34 (.fad 2 (.t 33)), o 35 (.ld false 1 (.t 34)), o 36 (.mov (.t 1)), o 37 (.bin .neq (.t 35) (.t 36))]) (.cnd (.t 37) (.seq (.reg [o 4 (.mov (.k (.int .i64 (-1))))]) .ret) .skip)) (.reg [o 38 (.mov (.t 1)), o 39 (.bin .add (.t 38) (.k (.int .i64 1))), o 1 (.mov (.t 39))]))))))) (.reg [o 10 (.mov (.t 5)), o 11 (.bin .add (.t 10) (.k (.int .i64 1))), o 5 (.mov (.t 11))])))))) (.seq (.reg [o 40 (.mov (.t 1)), o 4 (.mov (.t 40))]) .ret)))⟩
theorem ir_l_heldTallyS : compFn Try.prog n_l_heldTallyS = some F_l_heldTallyS := by kernel_rfl
theorem l_heldTallyS_ret (σ : St) (v : GV) (n : Nat) (k : Int) (hR : RS pTally.kd σ v (mkF mTally 3 k n)) (h0 : 0 ≤ k) (hk : k + 3 * n ≤ 4611686018427387904) : Ret Try.prog n_l_heldTallyS [v, gi k] σ (gi (k + 3 * n)) σ := by
  refine ret_eq ir_l_heldTallyS (Nat.le_of_ble_eq_true rfl) trivial ?_
  have hln := hR.len
  rw [mkF_length] at hln
  simp +contextual (maxSteps := 600000) (disch := omega) only [go_sem, Nat.reduceEqDiff, ↓reduceIte, Int.reduceEq, Int.reduceNeg, wrap_add, F_l_heldTallyS]
  refine vc_for n 5 (fun i env τ => env 0 = v ∧ env 1 = gi (k + 3 * (i : Int)) ∧ σ <+: τ) rfl ⟨rfl, (by show gi k = gi (k + 3 * 0); simp), List.prefix_refl _⟩ ?_ ?_
  · rintro i env τ hi e5 c0 ⟨e0, e1, hp⟩
    have hj : i < (mkF mTally 3 k n).length := by rw [mkF_length]; exact hi
    have hat := Tally_at (hR.pre hp) hj
    simp only [mkF_get, mTally] at hat
    simp +contextual (maxSteps := 600000) (disch := omega) only [go_sem, Nat.reduceEqDiff, ↓reduceIte, Int.reduceEq, Int.reduceNeg, wrap_add, c0, e0, e1, e5, hln, hat, hp, bne_self_eq_false, beq_self_eq_true]
    refine by_ret (l_markText_ret _ _ (by omega)) ?_
    simp +contextual (maxSteps := 600000) (disch := omega) only [go_sem, Nat.reduceEqDiff, ↓reduceIte, Int.reduceEq, Int.reduceNeg, wrap_add, c0, e0, e1, e5, hln, hat, hp, bne_self_eq_false, beq_self_eq_true]
    omega
  · rintro env τ e5 c0 ⟨e0, e1, hp⟩
    simp +contextual (maxSteps := 600000) (disch := omega) only [go_sem, Nat.reduceEqDiff, ↓reduceIte, Int.reduceEq, Int.reduceNeg, wrap_add, c0, e0, e1, e5, hln, hp]
end Go.Proofs.Ytffnefmklckngaa.Sy

/- Contracts of the laws' own functions: HheState. -/
namespace Go.Proofs.Ytffnefmklckngaa.Sy
open Go Go.RowKit
set_option linter.unusedSimpArgs false
set_option linter.unusedVariables false
abbrev n_l_heldState : Nat := 22
def F_l_heldState : Fn1 := ⟨30, [.t 4], (.seq (.reg [o 2 (.box (.t 0)), o 4 (.mov (.k (.int .i64 0)))]) (.seq (.reg [o 5 (.fad 0 (.t 2)), o 6 (.ld false 1 (.t 5)), o 7 (.mov (.t 1)), o 8 (.call 27 [(.t 6), (.t 7)]), o 1 (.mov (.t 8))]) (.seq (.seq (.reg [o 9 (.mov (.t 1)), o 10 (.bin .lss (.t 9) (.k (.int .i64 0)))]) (.cnd (.t 10) (.seq (.reg [o 4 (.mov (.k (.int .i64 (-1))))]) .ret) .skip)) (.seq (.reg [o 11 (.fad 1 (.t 2)), o 12 (.ld false 1 (.t 11)), o 13 (.mov (.t 1)), o 14 (.call 49 [(.t 12), (.t 13)]), o 1 (.mov (.t 14))]) (.seq (.seq (.reg [o 15 (.mov (.t 1)), o 16 (.bin .lss (.t 15) (.k (.int .i64 0)))]) (.cnd (.t 16) (.seq (.reg [o 4 (.mov (.k (.int .i64 (-1))))]) .ret) .skip)) (.seq (.reg [o 17 (.fad 2 (.t 2)), o 18 (.ld false 1 (.t 17)), o 19 (.mov (.t 1)), o 20 (.call 50 [(.t 18), (.t 19)]), o 1 (.mov (.t 20))]) (.seq (.seq (.reg [o 21 (.mov (.t 1)), o 22 (.bin .lss (.t 21) (.k (.int .i64 0)))]) (.cnd (.t 22) (.seq (.reg [o 4 (.mov (.k (.int .i64 (-1))))]) .ret) .skip)) (.seq (.reg [o 23 (.fad 3 (.t 2)), o 24 (.ld false 1 (.t 23)), o 25 (.mov (.t 1)), o 26 (.call 51 [(.t 24), (.t 25)]), o 1 (.mov (.t 26))]) (.seq (.seq (.reg [o 27 (.mov (.t 1)), o 28 (.bin .lss (.t 27) (.k (.int .i64 0)))]) (.cnd (.t 28) (.seq (.reg [o 4 (.mov (.k (.int .i64 (-1))))]) .ret) .skip)) (.seq (.reg [o 29 (.mov (.t 1)), o 4 (.mov (.t 29))]) .ret))))))))))⟩
theorem ir_l_heldState : compFn Try.prog n_l_heldState = some F_l_heldState := by kernel_rfl
theorem l_heldState_ret (σ : St) (cs : List GV) (x : State) (k : Int) (hR : kState.R σ (mkState k x) cs) (h0 : 0 ≤ k) (hk : k + ctState x ≤ 4611686018427387904) : Ret Try.prog n_l_heldState [.agg cs, gi k] σ (gi (k + ctState x)) σ := by
  obtain ⟨v0, v1, v2, v3, rfl, q0, q1, q2, q3⟩ := hR
  unfold ctState at hk
  refine ret_eq ir_l_heldState (Nat.le_of_ble_eq_true rfl) trivial ?_
  simp +contextual (maxSteps := 600000) (disch := omega) only [go_sem, Nat.reduceEqDiff, ↓reduceIte, Int.reduceEq, Int.reduceNeg, wrap_add, F_l_heldState, List.append_nil]
  refine by_ret (l_heldIntS_ret _ v0 x.know.length (k) (q0.pre (pre1 _ _)) (by omega) (by omega)) ?_
  have d0 : decide (k + 1 * (x.know.length : Int) < 0) = false := decide_eq_false (by omega)
  simp +contextual (maxSteps := 600000) (disch := omega) only [go_sem, Nat.reduceEqDiff, ↓reduceIte, Int.reduceEq, Int.reduceNeg, wrap_add, List.append_nil, d0]
  refine by_ret (l_heldTallyS_ret _ v1 x.tallies.length (k + 1 * (x.know.length : Int)) (q1.pre (pre1 _ _)) (by omega) (by omega)) ?_
  have d1 : decide (k + 1 * (x.know.length : Int) + 3 * (x.tallies.length : Int) < 0) = false := decide_eq_false (by omega)
  simp +contextual (maxSteps := 600000) (disch := omega) only [go_sem, Nat.reduceEqDiff, ↓reduceIte, Int.reduceEq, Int.reduceNeg, wrap_add, List.append_nil, d1]
  refine by_ret (l_heldLiveS_ret _ v2 x.lives.length (k + 1 * (x.know.length : Int) + 3 * (x.tallies.length : Int)) (q2.pre (pre1 _ _)) (by omega) (by omega)) ?_
  have d2 : decide (k + 1 * (x.know.length : Int) + 3 * (x.tallies.length : Int) + 6 * (x.lives.length : Int) < 0) = false := decide_eq_false (by omega)
  simp +contextual (maxSteps := 600000) (disch := omega) only [go_sem, Nat.reduceEqDiff, ↓reduceIte, Int.reduceEq, Int.reduceNeg, wrap_add, List.append_nil, d2]
  refine by_ret (l_heldCellS_ret _ v3 x.cells.length (k + 1 * (x.know.length : Int) + 3 * (x.tallies.length : Int) + 6 * (x.lives.length : Int)) (q3.pre (pre1 _ _)) (by omega) (by omega)) ?_
  have d3 : decide (k + 1 * (x.know.length : Int) + 3 * (x.tallies.length : Int) + 6 * (x.lives.length : Int) + 8 * (x.cells.length : Int) < 0) = false := decide_eq_false (by omega)
  simp +contextual (maxSteps := 600000) (disch := omega) only [go_sem, Nat.reduceEqDiff, ↓reduceIte, Int.reduceEq, Int.reduceNeg, wrap_add, List.append_nil, d3]
  unfold ctState; omega
end Go.Proofs.Ytffnefmklckngaa.Sy

/- Contracts of the laws' own functions: HmkIntS. -/
namespace Go.Proofs.Ytffnefmklckngaa.Sy
open Go Go.RowKit
set_option linter.unusedSimpArgs false
set_option linter.unusedVariables false
abbrev n_l_markIntS : Nat := 21
def F_l_markIntS : Fn1 := ⟨19, [.t 4], (.seq (.reg [o 4 (.mov (.k (.int .i64 0)))]) (.seq (.seq (.reg [o 5 (.mov (.k (.int .i64 0)))]) (.blk 0 (.lop (.seq (.seq (.reg [o 6 (.mov (.t 5)), o 7 (.mov (.t 0)), o 8 (.len false (.t 7)), o 9 (.bin .lss (.t 6) (.t 8))]) (.cnd (.t 9) .skip (.ext 0))) (.seq (.blk 1 (.seq (.reg [o 12 (.mov (.t 0)), o 13 (.mov (.t 5)), o 14 (.mov (.t 1)), o 15 (.iad 1 (.t 12) (.t 13)), on (.st 1 (.t 15) (.t 14))]) (.reg [o 16 (.mov (.t 1)), o 17 (.bin .add (.t 16) (.k (.int .i64 1))), o 1 (.mov (.t 17))]))) (.reg [o 10 (.mov (.t 5)), o 11 (.bin .add (.t 10) (.k (.int .i64 1))), o 5 (.mov (.t 11))])))))) (.seq (.reg [o 18 (.mov (.t 1)), o 4 (.mov (.t 18))]) .ret)))⟩
theorem ir_l_markIntS : compFn Try.prog n_l_markIntS = some F_l_markIntS := by kernel_rfl
theorem l_markIntS_ret {σ τ : St} {rs : List Thg} (i0 : Nat) (v : GV) (l : List Int) (k : Int) (H : Hp σ τ rs) (hi0 : rs[i0]? = some (ow pI.kd v l)) (h0 : 0 ≤ k) (hk : k + 1 * l.length ≤ 4611686018427387904) : ∃ τ', Ret Try.prog n_l_markIntS [v, gi k] τ (gi (k + 1 * l.length)) τ' ∧ Hp σ τ' (rs.set i0 (ow pI.kd v (mkF mInt 1 k l.length))) := by
  have H := H.pick i0 hi0
  have hlt := (List.getElem?_eq_some_iff.1 hi0).1
  obtain ⟨r, τ', hR, rfl, H'⟩ := ret_mut (P := Try.prog) (σ := τ) (args := [v, gi k]) (Post := fun r τ' => r = gi (k + 1 * l.length) ∧ Hp σ τ' (ow pI.kd v (mkF mInt 1 k l.length) :: rs.eraseIdx i0)) ir_l_markIntS (Nat.le_of_ble_eq_true rfl) (by
    simp +contextual (maxSteps := 600000) (disch := omega) only [go_sem, Nat.reduceEqDiff, ↓reduceIte, Int.reduceEq, Int.reduceNeg, wrap_add, F_l_markIntS]
    refine vc_for l.length 5 (fun i env τ' => env 0 = v ∧ env 1 = gi (k + 1 * (i : Int)) ∧ τ.length ≤ τ'.length ∧ Hp σ τ' (ow pI.kd v ((mkF mInt 1 k l.length).take i ++ l.drop i) :: rs.eraseIdx i0)) rfl ⟨rfl, (by show gi k = gi (k + 1 * 0); simp), Nat.le_refl _, by simpa using H⟩ ?_ ?_
    · rintro i env τ' hi e5 c0 ⟨e0, e1, hle, H⟩
      have hL := mark_len (l := l) (e := mInt) (c := 1) (k := k) (i := i)
      have hst := mark_step (e := mInt) (c := 1) (k := k) hi
      generalize (mkF mInt 1 k l.length).take i ++ l.drop i = L at H hL hst
      have hj : i < L.length := by omega
      have h1 := H.sl 0 rfl
      have hln := h1.len
      rw [hL] at hln
      have hat := int_at h1 hj
      simp +contextual (maxSteps := 600000) (disch := omega) only [go_sem, Nat.reduceEqDiff, ↓reduceIte, Int.reduceEq, Int.reduceNeg, wrap_add, c0, e0, e1, e5, hln, hat]
      obtain ⟨τ2, es, H2⟩ := H.stw 0 rfl hj 1 (.int .i64 (k + 1 * (i : Int))) (mInt (k + 1 * (i : Int))) rfl rfl (by decide)
      have es : stG 1 τ' (atz 1 v i) (.int .i64 (k + 1 * (i : Int))) = some (.tup [], τ2) := es
      have hlen := stG_len es
      have H2 : Hp σ τ2 (ow pI.kd v (L.set i (mInt (k + (1 : Nat) * (i : Int)))) :: rs.eraseIdx i0) := H2
      rw [hst] at H2
      simp +contextual (maxSteps := 600000) (disch := omega) only [go_sem, Nat.reduceEqDiff, ↓reduceIte, Int.reduceEq, Int.reduceNeg, wrap_add, c0, e0, e1, e5, hln, hat, es]
      exact ⟨by omega, by omega, H2⟩
    · rintro env τ' e5 c0 ⟨e0, e1, hle, H⟩
      rw [mark_end] at H
      have hln := (H.sl 0 rfl).len
      rw [mkF_length] at hln
      simp +contextual (maxSteps := 600000) (disch := omega) only [go_sem, Nat.reduceEqDiff, ↓reduceIte, Int.reduceEq, Int.reduceNeg, wrap_add, c0, e0, e1, e5, hln]
      exact ⟨_, rfl, hle, rfl, H⟩)
  exact ⟨τ', hR, H'.unpick hlt⟩
end Go.Proofs.Ytffnefmklckngaa.Sy

/- Contracts of the laws' own functions: HmkCellS. -/
namespace Go.Proofs.Ytffnefmklckngaa.Sy
open Go Go.RowKit
set_option linter.unusedSimpArgs false
set_option linter.unusedVariables false
abbrev n_l_markCellS : Nat := 48
def F_l_markCellS : Fn1 := ⟨76, [.t 4], (.seq (.reg [o 4 (.mov (.k (.int .i64 0)))]) (.seq (.seq (.reg [o 5 (.mov (.k (.int .i64 0)))]) (.blk 0 (.lop (.seq (.seq (.reg [o 6 (.mov (.t 5)), o 7 (.mov (.t 0)), o 8 (.len false (.t 7)), o 9 (.bin .lss (.t 6) (.t 8))]) (.cnd (.t 9) .skip (.ext 0))) (.seq (.blk 1 (.seq (.reg [o 12 (.mov (.t 0)), o 13 (.mov (.t 5)), o 14 (.mov (.t 1)), o 15 (.call 79 [(.t 14)]), o 16 (.iad 8 (.t 12) (.t 13)), o 17 (.fad 0 (.t 16)), on (.st 1 (.t 17) (.t 15))]) (.seq (.reg [o 18 (.mov (.t 1)), o 19 (.bin .add (.t 18) (.k (.int .i64 1))), o 1 (.mov (.t 19))]) (.seq (.reg [o 20 (.mov (.t 0)), o 21 (.mov (.t 5)), o 22 (.mov (.t 1)), o 23 (.iad 8 (.t 20) (.t 21)), o 24 (.fad 1 (.t 23)), o 25 (.fad 0 (.t 24)), on (.st 1 (.t 25) (.t 22))]) (.seq (.reg [o 26 (.mov (.t 1)), o 27 (.bin .add (.t 26) (.k (.int .i64 1))), o 1 (.mov (.t 27))]) (.seq (.reg [o 28 (.mov (.t 0)), o 29 (.mov (.t 5)), o 30 (.mov (.t 1)), o 31 (.iad 8 (.t 28) (.t 29)), o 32 (.fad 1 (.t 31)), o 33 (.fad 1 (.t 32)), on (.st 1 (.t 33) (.t 30))]) (.seq (.reg [o 34 (.mov (.t 1)), o 35 (.bin .add (.t 34) (.k (.int .i64 1))), o 1 (.mov (.t 35))]) (.seq (.reg [o 36 (.mov (.t 0)), o 37 (.mov (.t 5)), o 38 (.mov (.t 1)), o 39 (.iad 8 (.t 36) (.t 37)), o 40 (.fad 3 (.t 39)), on (.st 1 (.t 40) (.t 38))]) (.seq (.reg [o 41 (.mov (.t 1)), o 42 (.bin .add (.t 41) (.k (.int .i64 1))), o 1 (.mov (.t 42))]) (.seq (.reg [o 43 (.mov (.t 0)), o 44 (.mov (.t 5)), o 45 (.mov (.t 1)), o 46 (.iad 8 (.t 43) (.t 44)), o 47 (.fad 4 (.t 46)), o 48 (.fad 0 (.t 47)), on (.st 1 (.t 48) (.t 45))]) (.seq (.reg [o 49 (.mov (.t 1)), o 50 (.bin .add (.t 49) (.k (.int .i64 1))), o 1 (.mov (.t 50))]) (.seq (.reg [o 51 (.mov (.t 0)), o 52 (.mov (.t 5)), o 53 (.mov (.t 1)), o 54 (.iad 8 (.t 51) (.t 52)), o 55 (.fad 4 (.t 54)), o 56 (.fad 1 (.t 55)), on (.st 1 (.t 56) (.t 53))]) (.seq (.reg [o 57 (.mov (.t 1)), o 58 (.bin .add (.t 57) (.k (.int .i64 1))), o 1 (.mov (.t 58))]) (.seq (.reg [o 59 (.mov (.t 0)), o 60 (.mov (.t 5)), o 61 (.mov (.t 1)), o 62 (.iad 8 (.t 59) (.t 60)), o 63 (.fad 6 (.t 62)), on (.st 1 (.t 63) (.t 61))]) (.seq (.reg [o 64 (.mov (.t 1)), o 65 (.bin .add (.t 64) (.k (.int .i64 1))), o 1 (.mov (.t 65))]) (.seq (.reg [o 66 (.mov (.t 0)), o 67 (.mov (.t 5)), o 68 (.mov (.t 1)), o 69 (.bin .rem (.t 68) (.k (.int .i64 3))), o 70 (.bin .eql (.t 69) (.k (.int .i64 0))), o 71 (.iad 8 (.t 66) (.t 67)), o 72 (.fad 7 (.t 71)), on (.st 1 (.t 72) (.t 70))]) (.reg [o 73 (.mov (.t 1)), o 74 (.bin .add (.t 73) (.k (.int .i64 1))), o 1 (.mov (.t 74))]))))))))))))))))) (.reg [o 10 (.mov (.t 5)), o 11 (.bin .add (.t 10) (.k (.int .i64 1))), o 5 (.mov (.t 11))])))))) (.seq (.reg [o 75 (.mov (.t 1)), o 4 (.mov (.t 75))]) .ret)))⟩
theorem ir_l_markCellS : compFn Try.prog n_l_markCellS = some F_l_markCellS := by kernel_rfl
theorem l_markCellS_ret {σ τ : St} {rs : List Thg} (i0 : Nat) (v : GV) (l : List Cell) (k : Int) (H : Hp σ τ rs) (hi0 : rs[i0]? = some (ow pCell.kd v l)) (h0 : 0 ≤ k) (hk : k + 8 * l.length ≤ 4611686018427387904) : ∃ τ', Ret Try.prog n_l_markCellS [v, gi k] τ (gi (k + 8 * l.length)) τ' ∧ Hp σ τ' (rs.set i0 (ow pCell.kd v (mkF mCell 8 k l.length))) := by
  have H := H.pick i0 hi0
  have hlt := (List.getElem?_eq_some_iff.1 hi0).1
  obtain ⟨r, τ', hR, rfl, H'⟩ := ret_mut (P := Try.prog) (σ := τ) (args := [v, gi k]) (Post := fun r τ' => r = gi (k + 8 * l.length) ∧ Hp σ τ' (ow pCell.kd v (mkF mCell 8 k l.length) :: rs.eraseIdx i0)) ir_l_markCellS (Nat.le_of_ble_eq_true rfl) (by
    simp +contextual (maxSteps := 600000) (disch := omega) only [go_sem, Nat.reduceEqDiff, ↓reduceIte, Int.reduceEq, Int.reduceNeg, wrap_add, F_l_markCellS]
    refine vc_for l.length 5 (fun i env τ' => env 0 = v ∧ env 1 = gi (k + 8 * (i : Int)) ∧ τ.length ≤ τ'.length ∧ Hp σ τ' (ow pCell.kd v ((mkF mCell 8 k l.length).take i ++ l.drop i) :: rs.eraseIdx i0)) rfl ⟨rfl, (by show gi k = gi (k + 8 * 0); simp), Nat.le_refl _, by simpa using H⟩ ?_ ?_
    · rintro i env τ' hi e5 c0 ⟨e0, e1, hle, H⟩
      have hL := mark_len (l := l) (e := mCell) (c := 8) (k := k) (i := i)
      have hst := mark_step (e := mCell) (c := 8) (k := k) hi
      generalize (mkF mCell 8 k l.length).take i ++ l.drop i = L at H hL hst
      have hj : i < L.length := by omega
      have h1 := H.sl 0 rfl
      have hln := h1.len
      rw [hL] at hln
      have hat := Cell_at h1 hj
      rw [set_self hj] at H
      generalize hy : L[i] = y at H hat
      simp +contextual (maxSteps := 600000) (disch := omega) only [go_sem, Nat.reduceEqDiff, ↓reduceIte, Int.reduceEq, Int.reduceNeg, wrap_add, c0, e0, e1, e5, hln, hat]
      refine by_ret (l_markText_ret _ _ (by omega)) ?_
      simp +contextual (maxSteps := 600000) (disch := omega) only [go_sem, Nat.reduceEqDiff, ↓reduceIte, Int.reduceEq, Int.reduceNeg, wrap_add, e0, e1, hat]
      obtain ⟨τ0, es, H⟩ := H.sts hj 1 0 (.str (mtx (k + 8 * (i : Int)))) (⟨mtx (k + 8 * (i : Int)), ⟨y.dot.rep, y.dot.seq⟩, y.time, ⟨y.ref.rep, y.ref.seq⟩, y.val, y.gone⟩) rfl (by decide) (by decide) rfl
      have es : stG 1 τ' (fld 0 (atz 8 v i)) (.str (mtx (k + 8 * (i : Int)))) = some (.tup [], τ0) := es
      have hl0 := stG_len es
      simp +contextual (maxSteps := 600000) (disch := omega) only [go_sem, Nat.reduceEqDiff, ↓reduceIte, Int.reduceEq, Int.reduceNeg, wrap_add, e0, e1, e5, hat, es]
      obtain ⟨τ1, es, H⟩ := H.sts hj 1 1 (.int .i64 (k + 8 * (i : Int) + 1)) (⟨mtx (k + 8 * (i : Int)), ⟨k + 8 * (i : Int) + 1, y.dot.seq⟩, y.time, ⟨y.ref.rep, y.ref.seq⟩, y.val, y.gone⟩) rfl (by decide) (by decide) rfl
      have es : stG 1 τ0 (fld 1 (atz 8 v i)) (.int .i64 (k + 8 * (i : Int) + 1)) = some (.tup [], τ1) := es
      have hl1 := stG_len es
      simp +contextual (maxSteps := 600000) (disch := omega) only [go_sem, Nat.reduceEqDiff, ↓reduceIte, Int.reduceEq, Int.reduceNeg, wrap_add, e0, e1, e5, hat, es]
      obtain ⟨τ2, es, H⟩ := H.sts hj 1 2 (.int .i64 (k + 8 * (i : Int) + 1 + 1)) (⟨mtx (k + 8 * (i : Int)), ⟨k + 8 * (i : Int) + 1, k + 8 * (i : Int) + 1 + 1⟩, y.time, ⟨y.ref.rep, y.ref.seq⟩, y.val, y.gone⟩) rfl (by decide) (by decide) rfl
      have es : stG 1 τ1 (fld 2 (atz 8 v i)) (.int .i64 (k + 8 * (i : Int) + 1 + 1)) = some (.tup [], τ2) := es
      have hl2 := stG_len es
      simp +contextual (maxSteps := 600000) (disch := omega) only [go_sem, Nat.reduceEqDiff, ↓reduceIte, Int.reduceEq, Int.reduceNeg, wrap_add, e0, e1, e5, hat, es]
      obtain ⟨τ3, es, H⟩ := H.sts hj 1 3 (.int .i64 (k + 8 * (i : Int) + 1 + 1 + 1)) (⟨mtx (k + 8 * (i : Int)), ⟨k + 8 * (i : Int) + 1, k + 8 * (i : Int) + 1 + 1⟩, k + 8 * (i : Int) + 1 + 1 + 1, ⟨y.ref.rep, y.ref.seq⟩, y.val, y.gone⟩) rfl (by decide) (by decide) rfl
      have es : stG 1 τ2 (fld 3 (atz 8 v i)) (.int .i64 (k + 8 * (i : Int) + 1 + 1 + 1)) = some (.tup [], τ3) := es
      have hl3 := stG_len es
      simp +contextual (maxSteps := 600000) (disch := omega) only [go_sem, Nat.reduceEqDiff, ↓reduceIte, Int.reduceEq, Int.reduceNeg, wrap_add, e0, e1, e5, hat, es]
      obtain ⟨τ4, es, H⟩ := H.sts hj 1 4 (.int .i64 (k + 8 * (i : Int) + 1 + 1 + 1 + 1)) (⟨mtx (k + 8 * (i : Int)), ⟨k + 8 * (i : Int) + 1, k + 8 * (i : Int) + 1 + 1⟩, k + 8 * (i : Int) + 1 + 1 + 1, ⟨k + 8 * (i : Int) + 1 + 1 + 1 + 1, y.ref.seq⟩, y.val, y.gone⟩) rfl (by decide) (by decide) rfl
      have es : stG 1 τ3 (fld 4 (atz 8 v i)) (.int .i64 (k + 8 * (i : Int) + 1 + 1 + 1 + 1)) = some (.tup [], τ4) := es
      have hl4 := stG_len es
      simp +contextual (maxSteps := 600000) (disch := omega) only [go_sem, Nat.reduceEqDiff, ↓reduceIte, Int.reduceEq, Int.reduceNeg, wrap_add, e0, e1, e5, hat, es]
      obtain ⟨τ5, es, H⟩ := H.sts hj 1 5 (.int .i64 (k + 8 * (i : Int) + 1 + 1 + 1 + 1 + 1)) (⟨mtx (k + 8 * (i : Int)), ⟨k + 8 * (i : Int) + 1, k + 8 * (i : Int) + 1 + 1⟩, k + 8 * (i : Int) + 1 + 1 + 1, ⟨k + 8 * (i : Int) + 1 + 1 + 1 + 1, k + 8 * (i : Int) + 1 + 1 + 1 + 1 + 1⟩, y.val, y.gone⟩) rfl (by decide) (by decide) rfl
      have es : stG 1 τ4 (fld 5 (atz 8 v i)) (.int .i64 (k + 8 * (i : Int) + 1 + 1 + 1 + 1 + 1)) = some (.tup [], τ5) := es
      have hl5 := stG_len es
      simp +contextual (maxSteps := 600000) (disch := omega) only [go_sem, Nat.reduceEqDiff, ↓reduceIte, Int.reduceEq, Int.reduceNeg, wrap_add, e0, e1, e5, hat, es]
      obtain ⟨τ6, es, H⟩ := H.sts hj 1 6 (.int .i64 (k + 8 * (i : Int) + 1 + 1 + 1 + 1 + 1 + 1)) (⟨mtx (k + 8 * (i : Int)), ⟨k + 8 * (i : Int) + 1, k + 8 * (i : Int) + 1 + 1⟩, k + 8 * (i : Int) + 1 + 1 + 1, ⟨k + 8 * (i : Int) + 1 + 1 + 1 + 1, k + 8 * (i : Int) + 1 + 1 + 1 + 1 + 1⟩, k + 8 * (i : Int) + 1 + 1 + 1 + 1 + 1 + 1, y.gone⟩) rfl (by decide) (by decide) rfl
      have es : stG 1 τ5 (fld 6 (atz 8 v i)) (.int .i64 (k + 8 * (i : Int) + 1 + 1 + 1 + 1 + 1 + 1)) = some (.tup [], τ6) := es
      have hl6 := stG_len es
      simp +contextual (maxSteps := 600000) (disch := omega) only [go_sem, Nat.reduceEqDiff, ↓reduceIte, Int.reduceEq, Int.reduceNeg, wrap_add, e0, e1, e5, hat, es]
      obtain ⟨τ7, es, H⟩ := H.sts hj 1 7 (.bool ((k + 8 * (i : Int) + 1 + 1 + 1 + 1 + 1 + 1 + 1).tmod 3 == 0)) (⟨mtx (k + 8 * (i : Int)), ⟨k + 8 * (i : Int) + 1, k + 8 * (i : Int) + 1 + 1⟩, k + 8 * (i : Int) + 1 + 1 + 1, ⟨k + 8 * (i : Int) + 1 + 1 + 1 + 1, k + 8 * (i : Int) + 1 + 1 + 1 + 1 + 1⟩, k + 8 * (i : Int) + 1 + 1 + 1 + 1 + 1 + 1, ((k + 8 * (i : Int) + 1 + 1 + 1 + 1 + 1 + 1 + 1).tmod 3 == 0)⟩) rfl (by decide) (by decide) rfl
      have es : stG 1 τ6 (fld 7 (atz 8 v i)) (.bool ((k + 8 * (i : Int) + 1 + 1 + 1 + 1 + 1 + 1 + 1).tmod 3 == 0)) = some (.tup [], τ7) := es
      have hl7 := stG_len es
      simp +contextual (maxSteps := 600000) (disch := omega) only [go_sem, Nat.reduceEqDiff, ↓reduceIte, Int.reduceEq, Int.reduceNeg, wrap_add, e0, e1, e5, hat, es]
      have H2 : Hp σ τ7 (ow pCell.kd v (L.set i (mCell (k + (8 : Nat) * (i : Int)))) :: rs.eraseIdx i0) := H
      rw [hst] at H2
      exact ⟨by omega, by omega, H2⟩
    · rintro env τ' e5 c0 ⟨e0, e1, hle, H⟩
      rw [mark_end] at H
      have hln := (H.sl 0 rfl).len
      rw [mkF_length] at hln
      simp +contextual (maxSteps := 600000) (disch := omega) only [go_sem, Nat.reduceEqDiff, ↓reduceIte, Int.reduceEq, Int.reduceNeg, wrap_add, c0, e0, e1, e5, hln]
      exact ⟨_, rfl, hle, rfl, H⟩)
  exact ⟨τ', hR, H'.unpick hlt⟩
end Go.Proofs.Ytffnefmklckngaa.Sy

/- Contracts of the laws' own functions: HmkLiveS. -/
namespace Go.Proofs.Ytffnefmklckngaa.Sy
open Go Go.RowKit
set_option linter.unusedSimpArgs false
set_option linter.unusedVariables false
abbrev n_l_markLiveS : Nat := 47
def F_l_markLiveS : Fn1 := ⟨61, [.t 4], (.seq (.reg [o 4 (.mov (.k (.int .i64 0)))]) (.seq (.seq (.reg [o 5 (.mov (.k (.int .i64 0)))]) (.blk 0 (.lop (.seq (.seq (.reg [o 6 (.mov (.t 5)), o 7 (.mov (.t 0)), o 8 (.len false (.t 7)), o 9 (.bin .lss (.t 6) (.t 8))]) (.cnd (.t 9) .skip (.ext 0))) (.seq (.blk 1 (.seq (.reg [o 12 (.mov (.t 0)), o 13 (.mov (.t 5)), o 14 (.mov (.t 1)), o 15 (.bin .rem (.t 14) (.k (.int .i64 3))), o 16 (.bin .eql (.t 15) (.k (.int .i64 0))), o 17 (.iad 6 (.t 12) (.t 13)), o 18 (.fad 0 (.t 17)), on (.st 1 (.t 18) (.t 16))]) (.seq (.reg [o 19 (.mov (.t 1)), o 20 (.bin .add (.t 19) (.k (.int .i64 1))), o 1 (.mov (.t 20))]) (.seq (.reg [o 21 (.mov (.t 0)), o 22 (.mov (.t 5)), o 23 (.mov (.t 1)), o 24 (.call 79 [(.t 23)]), o 25 (.iad 6 (.t 21) (.t 22)), o 26 (.fad 1 (.t 25)), on (.st 1 (.t 26) (.t 24))]) (.seq (.reg [o 27 (.mov (.t 1)), o 28 (.bin .add (.t 27) (.k (.int .i64 1))), o 1 (.mov (.t 28))]) (.seq (.reg [o 29 (.mov (.t 0)), o 30 (.mov (.t 5)), o 31 (.mov (.t 1)), o 32 (.call 79 [(.t 31)]), o 33 (.iad 6 (.t 29) (.t 30)), o 34 (.fad 2 (.t 33)), on (.st 1 (.t 34) (.t 32))]) (.seq (.reg [o 35 (.mov (.t 1)), o 36 (.bin .add (.t 35) (.k (.int .i64 1))), o 1 (.mov (.t 36))]) (.seq (.reg [o 37 (.mov (.t 0)), o 38 (.mov (.t 5)), o 39 (.mov (.t 1)), o 40 (.iad 6 (.t 37) (.t 38)), o 41 (.fad 3 (.t 40)), on (.st 1 (.t 41) (.t 39))]) (.seq (.reg [o 42 (.mov (.t 1)), o 43 (.bin .add (.t 42) (.k (.int .i64 1))), o 1 (.mov (.t 43))]) (.seq (.reg [o 44 (.mov (.t 0)), o 45 (.mov (.t 5)), o 46 (.mov (.t 1)), o 47 (.iad 6 (.t 44) (.t 45)), o 48 (.fad 4 (.t 47)), o 49 (.fad 0 (.t 48)), on (.st 1 (.t 49) (.t 46))]) (.seq (.reg [o 50 (.mov (.t 1)), o 51 (.bin .add (.t 50) (.k (.int .i64 1))), o 1 (.mov (.t 51))]) (.seq (.reg [o 52 (.mov (.t 0)), o 53 (.mov (.t 5)), o 54 (.mov (.t 1)), o 55 (.iad 6 (.t 52) (.t 53)), o 56 (.fad 4 (.t 55)), o 57 (.fad 1 (.t 56)), on (.st 1 (.t 57) (.t 54))]) (.reg [o 58 (.mov (.t 1)), o 59 (.bin .add (.t 58) (.k (.int .i64 1))), o 1 (.mov (.t 59))]))))))))))))) (.reg [o 10 (.mov (.t 5)), o 11 (.bin .add (.t 10) (.k (.int .i64 1))), o 5 (.mov (.t 11))])))))) (.seq (.reg [o 60 (.mov (.t 1)), o 4 (.mov (.t 60))]) .ret)))⟩
theorem ir_l_markLiveS : compFn Try.prog n_l_markLiveS = some F_l_markLiveS := by kernel_rfl
theorem l_markLiveS_ret {σ τ : St} {rs : List Thg} (i0 : Nat) (v : GV) (l : List Live) (k : Int) (H : Hp σ τ rs) (hi0 : rs[i0]? = some (ow pLive.kd v l)) (h0 : 0 ≤ k) (hk : k + 6 * l.length ≤ 4611686018427387904) : ∃ τ', Ret Try.prog n_l_markLiveS [v, gi k] τ (gi (k + 6 * l.length)) τ' ∧ Hp σ τ' (rs.set i0 (ow pLive.kd v (mkF mLive 6 k l.length))) := by
  have H := H.pick i0 hi0
  have hlt := (List.getElem?_eq_some_iff.1 hi0).1
  obtain ⟨r, τ', hR, rfl, H'⟩ := ret_mut (P := Try.prog) (σ := τ) (args := [v, gi k]) (Post := fun r τ' => r = gi (k + 6 * l.length) ∧ Hp σ τ' (ow pLive.kd v (mkF mLive 6 k l.length) :: rs.eraseIdx i0)) ir_l_markLiveS (Nat.le_of_ble_eq_true rfl) (by
    simp +contextual (maxSteps := 600000) (disch := omega) only [go_sem, Nat.reduceEqDiff, ↓reduceIte, Int.reduceEq, Int.reduceNeg, wrap_add, F_l_markLiveS]
    refine vc_for l.length 5 (fun i env τ' => env 0 = v ∧ env 1 = gi (k + 6 * (i : Int)) ∧ τ.length ≤ τ'.length ∧ Hp σ τ' (ow pLive.kd v ((mkF mLive 6 k l.length).take i ++ l.drop i) :: rs.eraseIdx i0)) rfl ⟨rfl, (by show gi k = gi (k + 6 * 0); simp), Nat.le_refl _, by simpa using H⟩ ?_ ?_
    · rintro i env τ' hi e5 c0 ⟨e0, e1, hle, H⟩
      have hL := mark_len (l := l) (e := mLive) (c := 6) (k := k) (i := i)
      have hst := mark_step (e := mLive) (c := 6) (k := k) hi
      generalize (mkF mLive 6 k l.length).take i ++ l.drop i = L at H hL hst
      have hj : i < L.length := by omega
      have h1 := H.sl 0 rfl
      have hln := h1.len
      rw [hL] at hln
      have hat := Live_at h1 hj
      rw [set_self hj] at H
      generalize hy : L[i] = y at H hat
      simp +contextual (maxSteps := 600000) (disch := omega) only [go_sem, Nat.reduceEqDiff, ↓reduceIte, Int.reduceEq, Int.reduceNeg, wrap_add, c0, e0, e1, e5, hln, hat]
      obtain ⟨τ0, es, H⟩ := H.sts hj 1 0 (.bool ((k + 6 * (i : Int)).tmod 3 == 0)) (⟨((k + 6 * (i : Int)).tmod 3 == 0), y.obj, y.key, y.val, ⟨y.dot.rep, y.dot.seq⟩⟩) rfl (by decide) (by decide) rfl
      have es : stG 1 τ' (fld 0 (atz 6 v i)) (.bool ((k + 6 * (i : Int)).tmod 3 == 0)) = some (.tup [], τ0) := es
      have hl0 := stG_len es
      simp +contextual (maxSteps := 600000) (disch := omega) only [go_sem, Nat.reduceEqDiff, ↓reduceIte, Int.reduceEq, Int.reduceNeg, wrap_add, e0, e1, e5, hat, es]
      refine by_ret (l_markText_ret _ _ (by omega)) ?_
      simp +contextual (maxSteps := 600000) (disch := omega) only [go_sem, Nat.reduceEqDiff, ↓reduceIte, Int.reduceEq, Int.reduceNeg, wrap_add, e0, e1, hat]
      obtain ⟨τ1, es, H⟩ := H.sts hj 1 1 (.str (mtx (k + 6 * (i : Int) + 1))) (⟨((k + 6 * (i : Int)).tmod 3 == 0), mtx (k + 6 * (i : Int) + 1), y.key, y.val, ⟨y.dot.rep, y.dot.seq⟩⟩) rfl (by decide) (by decide) rfl
      have es : stG 1 τ0 (fld 1 (atz 6 v i)) (.str (mtx (k + 6 * (i : Int) + 1))) = some (.tup [], τ1) := es
      have hl1 := stG_len es
      simp +contextual (maxSteps := 600000) (disch := omega) only [go_sem, Nat.reduceEqDiff, ↓reduceIte, Int.reduceEq, Int.reduceNeg, wrap_add, e0, e1, e5, hat, es]
      refine by_ret (l_markText_ret _ _ (by omega)) ?_
      simp +contextual (maxSteps := 600000) (disch := omega) only [go_sem, Nat.reduceEqDiff, ↓reduceIte, Int.reduceEq, Int.reduceNeg, wrap_add, e0, e1, hat]
      obtain ⟨τ2, es, H⟩ := H.sts hj 1 2 (.str (mtx (k + 6 * (i : Int) + 1 + 1))) (⟨((k + 6 * (i : Int)).tmod 3 == 0), mtx (k + 6 * (i : Int) + 1), mtx (k + 6 * (i : Int) + 1 + 1), y.val, ⟨y.dot.rep, y.dot.seq⟩⟩) rfl (by decide) (by decide) rfl
      have es : stG 1 τ1 (fld 2 (atz 6 v i)) (.str (mtx (k + 6 * (i : Int) + 1 + 1))) = some (.tup [], τ2) := es
      have hl2 := stG_len es
      simp +contextual (maxSteps := 600000) (disch := omega) only [go_sem, Nat.reduceEqDiff, ↓reduceIte, Int.reduceEq, Int.reduceNeg, wrap_add, e0, e1, e5, hat, es]
      obtain ⟨τ3, es, H⟩ := H.sts hj 1 3 (.int .i64 (k + 6 * (i : Int) + 1 + 1 + 1)) (⟨((k + 6 * (i : Int)).tmod 3 == 0), mtx (k + 6 * (i : Int) + 1), mtx (k + 6 * (i : Int) + 1 + 1), k + 6 * (i : Int) + 1 + 1 + 1, ⟨y.dot.rep, y.dot.seq⟩⟩) rfl (by decide) (by decide) rfl
      have es : stG 1 τ2 (fld 3 (atz 6 v i)) (.int .i64 (k + 6 * (i : Int) + 1 + 1 + 1)) = some (.tup [], τ3) := es
      have hl3 := stG_len es
      simp +contextual (maxSteps := 600000) (disch := omega) only [go_sem, Nat.reduceEqDiff, ↓reduceIte, Int.reduceEq, Int.reduceNeg, wrap_add, e0, e1, e5, hat, es]
      obtain ⟨τ4, es, H⟩ := H.sts hj 1 4 (.int .i64 (k + 6 * (i : Int) + 1 + 1 + 1 + 1)) (⟨((k + 6 * (i : Int)).tmod 3 == 0), mtx (k + 6 * (i : Int) + 1), mtx (k + 6 * (i : Int) + 1 + 1), k + 6 * (i : Int) + 1 + 1 + 1, ⟨k + 6 * (i : Int) + 1 + 1 + 1 + 1, y.dot.seq⟩⟩) rfl (by decide) (by decide) rfl
      have es : stG 1 τ3 (fld 4 (atz 6 v i)) (.int .i64 (k + 6 * (i : Int) + 1 + 1 + 1 + 1)) = some (.tup [], τ4) := es
      have hl4 := stG_len es
      simp +contextual (maxSteps := 600000) (disch := omega) only [go_sem, Nat.reduceEqDiff, ↓reduceIte, Int.reduceEq, Int.reduceNeg, wrap_add, e0, e1, e5, hat, es]
      obtain ⟨τ5, es, H⟩ := H.sts hj 1 5 (.int .i64 (k + 6 * (i : Int) + 1 + 1 + 1 + 1 + 1)) (⟨((k + 6 * (i : Int)).tmod 3 == 0), mtx (k + 6 * (i : Int) + 1), mtx (k + 6 * (i : Int) + 1 + 1), k + 6 * (i : Int) + 1 + 1 + 1, ⟨k + 6 * (i : Int) + 1 + 1 + 1 + 1, k + 6 * (i : Int) + 1 + 1 + 1 + 1 + 1⟩⟩) rfl (by decide) (by decide) rfl
      have es : stG 1 τ4 (fld 5 (atz 6 v i)) (.int .i64 (k + 6 * (i : Int) + 1 + 1 + 1 + 1 + 1)) = some (.tup [], τ5) := es
      have hl5 := stG_len es
      simp +contextual (maxSteps := 600000) (disch := omega) only [go_sem, Nat.reduceEqDiff, ↓reduceIte, Int.reduceEq, Int.reduceNeg, wrap_add, e0, e1, e5, hat, es]
      have H2 : Hp σ τ5 (ow pLive.kd v (L.set i (mLive (k + (6 : Nat) * (i : Int)))) :: rs.eraseIdx i0) := H
      rw [hst] at H2
      exact ⟨by omega, by omega, H2⟩
    · rintro env τ' e5 c0 ⟨e0, e1, hle, H⟩
      rw [mark_end] at H
      have hln := (H.sl 0 rfl).len
      rw [mkF_length] at hln
      simp +contextual (maxSteps := 600000) (disch := omega) only [go_sem, Nat.reduceEqDiff, ↓reduceIte, Int.reduceEq, Int.reduceNeg, wrap_add, c0, e0, e1, e5, hln]
      exact ⟨_, rfl, hle, rfl, H⟩)
  exact ⟨τ', hR, H'.unpick hlt⟩
end Go.Proofs.Ytffnefmklckngaa.Sy

/- Contracts of the laws' own functions: HmkTallyS. -/
namespace Go.Proofs.Ytffnefmklckngaa.Sy
open Go Go.RowKit
set_option linter.unusedSimpArgs false
set_option linter.unusedVariables false
abbrev n_l_markTallyS : Nat := 46
def F_l_markTallyS : Fn1 := ⟨35, [.t 4], (.seq (.reg [o 4 (.mov (.k (.int .i64 0)))]) (.seq (.seq (.reg [o 5 (.mov (.k (.int .i64 0)))]) (.blk 0 (.lop (.seq (.seq (.reg [o 6 (.mov (.t 5)), o 7 (.mov (.t 0)), o 8 (.len false (.t 7)), o 9 (.bin .lss (.t 6) (.t 8))]) (.cnd (.t 9) .skip (.ext 0))) (.seq (.blk 1 (.seq (.reg [o 12 (.mov (.t 0)), o 13 (.mov (.t 5)), o 14 (.mov (.t 1)), o 15 (.call 79 [(.t 14)]), o 16 (.iad 3 (.t 12) (.t 13)), o 17 (.fad 0 (.t 16)), on (.st 1 (.t 17) (.t 15))]) (.seq (.reg [o 18 (.mov (.t 1)), o 19 (.bin .add (.t 18) (.k (.int .i64 1))), o 1 (.mov (.t 19))]) (.seq (.reg [o 20 (.mov (.t 0)), o 21 (.mov (.t 5)), o 22 (.mov (.t 1)), o 23 (.iad 3 (.t 20) (.t 21)), o 24 (.fad 1 (.t 23)), on (.st 1 (.t 24) (.t 22))]) (.seq (.reg [o 25 (.mov (.t 1)), o 26 (.bin .add (.t 25) (.k (.int .i64 1))), o 1 (.mov (.t 26))]) (.seq (.reg [o 27 (.mov (.t 0)), o 28 (.mov (.t 5)), o 29 (.mov (.t 1)), o 30 (.iad 3 (.t 27) (.t 28)), o 31 (.fad 2 (.t 30)), on (.st 1 (.t 31) (.t 29))]) (.reg [o 32 (.mov (.t 1)), o 33 (.bin .add (.t 32) (.k (.int .i64 1))), o 1 (.mov (.t 33))]))))))) (.reg [o 10 (.mov (.t 5)), o 11 (.bin .add (.t 10) (.k (.int .i64 1))), o 5 (.mov (.t 11))])))))) (.seq (.reg [o 34 (.mov (.t 1)), o 4 (.mov (.t 34))]) .ret)))⟩
theorem ir_l_markTallyS : compFn Try.prog n_l_markTallyS = some F_l_markTallyS := by kernel_rfl
theorem l_markTallyS_ret {σ τ : St} {rs : List Thg} (i0 : Nat) (v : GV) (l : List Tally) (k : Int) (H : Hp σ τ rs) (hi0 : rs[i0]? = some (ow pTally.kd v l)) (h0 : 0 ≤ k) (hk : k + 3 * l.length ≤ 4611686018427387904) : ∃ τ', Ret Try.prog n_l_markTallyS [v, gi k] τ (gi (k + 3 * l.length)) τ' ∧ Hp σ τ' (rs.set i0 (ow pTally.kd v (mkF mTally 3 k l.length))) := by
  have H := H.pick i0 hi0
  have hlt := (List.getElem?_eq_some_iff.1 hi0).1
  obtain ⟨r, τ', hR, rfl, H'⟩ := ret_mut (P := Try.prog) (σ := τ) (args := [v, gi k]) (Post := fun r τ' => r = gi (k + 3 * l.length) ∧ Hp σ τ' (ow pTally.kd v (mkF mTally 3 k l.length) :: rs.eraseIdx i0)) ir_l_markTallyS (Nat.le_of_ble_eq_true rfl) (by
    simp +contextual (maxSteps := 600000) (disch := omega) only [go_sem, Nat.reduceEqDiff, ↓reduceIte, Int.reduceEq, Int.reduceNeg, wrap_add, F_l_markTallyS]
    refine vc_for l.length 5 (fun i env τ' => env 0 = v ∧ env 1 = gi (k + 3 * (i : Int)) ∧ τ.length ≤ τ'.length ∧ Hp σ τ' (ow pTally.kd v ((mkF mTally 3 k l.length).take i ++ l.drop i) :: rs.eraseIdx i0)) rfl ⟨rfl, (by show gi k = gi (k + 3 * 0); simp), Nat.le_refl _, by simpa using H⟩ ?_ ?_
    · rintro i env τ' hi e5 c0 ⟨e0, e1, hle, H⟩
      have hL := mark_len (l := l) (e := mTally) (c := 3) (k := k) (i := i)
      have hst := mark_step (e := mTally) (c := 3) (k := k) hi
      generalize (mkF mTally 3 k l.length).take i ++ l.drop i = L at H hL hst
      have hj : i < L.length := by omega
      have h1 := H.sl 0 rfl
      have hln := h1.len
      rw [hL] at hln
      have hat := Tally_at h1 hj
      rw [set_self hj] at H
      generalize hy : L[i] = y at H hat
      simp +contextual (maxSteps := 600000) (disch := omega) only [go_sem, Nat.reduceEqDiff, ↓reduceIte, Int.reduceEq, Int.reduceNeg, wrap_add, c0, e0, e1, e5, hln, hat]
      refine by_ret (l_markText_ret _ _ (by omega)) ?_
      simp +contextual (maxSteps := 600000) (disch := omega) only [go_sem, Nat.reduceEqDiff, ↓reduceIte, Int.reduceEq, Int.reduceNeg, wrap_add, e0, e1, hat]
      obtain ⟨τ0, es, H⟩ := H.sts hj 1 0 (.str (mtx (k + 3 * (i : Int)))) (⟨mtx (k + 3 * (i : Int)), y.rep, y.sum⟩) rfl (by decide) (by decide) rfl
      have es : stG 1 τ' (fld 0 (atz 3 v i)) (.str (mtx (k + 3 * (i : Int)))) = some (.tup [], τ0) := es
      have hl0 := stG_len es
      simp +contextual (maxSteps := 600000) (disch := omega) only [go_sem, Nat.reduceEqDiff, ↓reduceIte, Int.reduceEq, Int.reduceNeg, wrap_add, e0, e1, e5, hat, es]
      obtain ⟨τ1, es, H⟩ := H.sts hj 1 1 (.int .i64 (k + 3 * (i : Int) + 1)) (⟨mtx (k + 3 * (i : Int)), k + 3 * (i : Int) + 1, y.sum⟩) rfl (by decide) (by decide) rfl
      have es : stG 1 τ0 (fld 1 (atz 3 v i)) (.int .i64 (k + 3 * (i : Int) + 1)) = some (.tup [], τ1) := es
      have hl1 := stG_len es
      simp +contextual (maxSteps := 600000) (disch := omega) only [go_sem, Nat.reduceEqDiff, ↓reduceIte, Int.reduceEq, Int.reduceNeg, wrap_add, e0, e1, e5, hat, es]
      obtain ⟨τ2, es, H⟩ := H.sts hj 1 2 (.int .i64 (k + 3 * (i : Int) + 1 + 1)) (⟨mtx (k + 3 * (i : Int)), k + 3 * (i : Int) + 1, k + 3 * (i : Int) + 1 + 1⟩) rfl (by decide) (by decide) rfl
      have es : stG 1 τ1 (fld 2 (atz 3 v i)) (.int .i64 (k + 3 * (i : Int) + 1 + 1)) = some (.tup [], τ2) := es
      have hl2 := stG_len es
      simp +contextual (maxSteps := 600000) (disch := omega) only [go_sem, Nat.reduceEqDiff, ↓reduceIte, Int.reduceEq, Int.reduceNeg, wrap_add, e0, e1, e5, hat, es]
      have H2 : Hp σ τ2 (ow pTally.kd v (L.set i (mTally (k + (3 : Nat) * (i : Int)))) :: rs.eraseIdx i0) := H
      rw [hst] at H2
      exact ⟨by omega, by omega, H2⟩
    · rintro env τ' e5 c0 ⟨e0, e1, hle, H⟩
      rw [mark_end] at H
      have hln := (H.sl 0 rfl).len
      rw [mkF_length] at hln
      simp +contextual (maxSteps := 600000) (disch := omega) only [go_sem, Nat.reduceEqDiff, ↓reduceIte, Int.reduceEq, Int.reduceNeg, wrap_add, c0, e0, e1, e5, hln]
      exact ⟨_, rfl, hle, rfl, H⟩)
  exact ⟨τ', hR, H'.unpick hlt⟩
end Go.Proofs.Ytffnefmklckngaa.Sy

/- Contracts of the laws' own functions: HmkState. -/
namespace Go.Proofs.Ytffnefmklckngaa.Sy
open Go Go.RowKit
set_option linter.unusedSimpArgs false
set_option linter.unusedVariables false
abbrev n_l_markState : Nat := 20
def F_l_markState : Fn1 := ⟨22, [.t 4], (.seq (.reg [o 2 (.box (.t 0)), o 4 (.mov (.k (.int .i64 0)))]) (.seq (.reg [o 5 (.fad 0 (.t 2)), o 6 (.ld false 1 (.t 5)), o 7 (.mov (.t 1)), o 8 (.call 21 [(.t 6), (.t 7)]), o 1 (.mov (.t 8))]) (.seq (.reg [o 9 (.fad 1 (.t 2)), o 10 (.ld false 1 (.t 9)), o 11 (.mov (.t 1)), o 12 (.call 46 [(.t 10), (.t 11)]), o 1 (.mov (.t 12))]) (.seq (.reg [o 13 (.fad 2 (.t 2)), o 14 (.ld false 1 (.t 13)), o 15 (.mov (.t 1)), o 16 (.call 47 [(.t 14), (.t 15)]), o 1 (.mov (.t 16))]) (.seq (.reg [o 17 (.fad 3 (.t 2)), o 18 (.ld false 1 (.t 17)), o 19 (.mov (.t 1)), o 20 (.call 48 [(.t 18), (.t 19)]), o 1 (.mov (.t 20))]) (.seq (.reg [o 21 (.mov (.t 1)), o 4 (.mov (.t 21))]) .ret))))))⟩
theorem ir_l_markState : compFn Try.prog n_l_markState = some F_l_markState := by kernel_rfl
theorem l_markState_ret {σ τ : St} {rs : List Thg} (i0 : Nat) (cs : List GV) (x : State) (k : Int) (H : Hp σ τ rs) (hi0 : rs[i0]? = some (own kState cs x)) (h0 : 0 ≤ k) (hk : k + ctState x ≤ 4611686018427387904) : ∃ τ', Ret Try.prog n_l_markState [.agg cs, gi k] τ (gi (k + ctState x)) τ' ∧ Hp σ τ' (rs.set i0 (own kState cs (mkState k x))) := by
  have hlt := (List.getElem?_eq_some_iff.1 hi0).1
  have hlen := kState.len (H.rd i0 hi0)
  have hlen : cs.length = 4 := hlen
  obtain ⟨v0, v1, v2, v3, rfl, H⟩ := (H.pick i0 hi0).splitState
  unfold ctState at hk
  obtain ⟨r, τ', hR, rfl, H'⟩ := ret_mut (P := Try.prog) (σ := τ) (args := [.agg (v0 :: v1 :: v2 :: v3 :: []), gi k]) (Post := fun r τ' => r = gi (k + ctState x) ∧ Hp σ τ' (own kState (v0 :: v1 :: v2 :: v3 :: []) (mkState k x) :: rs.eraseIdx i0)) ir_l_markState (Nat.le_of_ble_eq_true rfl) (by
    have H := H.new 1 (v0 :: v1 :: v2 :: v3 :: [])
    simp +contextual (maxSteps := 600000) (disch := omega) only [go_sem, Nat.reduceEqDiff, ↓reduceIte, Int.reduceEq, Int.reduceNeg, wrap_add, F_l_markState, List.append_nil]
    obtain ⟨τ0, R0, H⟩ := l_markIntS_ret 1 v0 x.know (k) H rfl (by omega) (by omega)
    refine by_mut R0 ?_
    try simp only [List.set_cons_succ, List.set_cons_zero] at H
    have hl0 := R0.2.1
    try simp +contextual (maxSteps := 600000) (disch := omega) only [go_sem, Nat.reduceEqDiff, ↓reduceIte, Int.reduceEq, Int.reduceNeg, wrap_add, List.append_nil, ld_ptr (H.pt 0 rfl)]
    obtain ⟨τ1, R1, H⟩ := l_markTallyS_ret 2 v1 x.tallies (k + 1 * (x.know.length : Int)) H rfl (by omega) (by omega)
    refine by_mut R1 ?_
    try simp only [List.set_cons_succ, List.set_cons_zero] at H
    have hl1 := R1.2.1
    try simp +contextual (maxSteps := 600000) (disch := omega) only [go_sem, Nat.reduceEqDiff, ↓reduceIte, Int.reduceEq, Int.reduceNeg, wrap_add, List.append_nil, ld_ptr (H.pt 0 rfl)]
    obtain ⟨τ2, R2, H⟩ := l_markLiveS_ret 3 v2 x.lives (k + 1 * (x.know.length : Int) + 3 * (x.tallies.length : Int)) H rfl (by omega) (by omega)
    refine by_mut R2 ?_
    try simp only [List.set_cons_succ, List.set_cons_zero] at H
    have hl2 := R2.2.1
    try simp +contextual (maxSteps := 600000) (disch := omega) only [go_sem, Nat.reduceEqDiff, ↓reduceIte, Int.reduceEq, Int.reduceNeg, wrap_add, List.append_nil, ld_ptr (H.pt 0 rfl)]
    obtain ⟨τ3, R3, H⟩ := l_markCellS_ret 4 v3 x.cells (k + 1 * (x.know.length : Int) + 3 * (x.tallies.length : Int) + 6 * (x.lives.length : Int)) H rfl (by omega) (by omega)
    refine by_mut R3 ?_
    try simp only [List.set_cons_succ, List.set_cons_zero] at H
    have hl3 := R3.2.1
    try simp +contextual (maxSteps := 600000) (disch := omega) only [go_sem, Nat.reduceEqDiff, ↓reduceIte, Int.reduceEq, Int.reduceNeg, wrap_add, List.append_nil, ld_ptr (H.pt 0 rfl)]
    try simp only [List.length_append, List.length_cons, List.length_nil] at hl0
    refine ⟨_, rfl, by omega, by unfold ctState; congr 1; omega, H.drop1.ownState (x := mkState k x)⟩)
  exact ⟨τ', hR, H'.unpick hlt⟩
end Go.Proofs.Ytffnefmklckngaa.Sy

/- Contracts of the laws' own functions: HszCell. -/
namespace Go.Proofs.Ytffnefmklckngaa.Sy
open Go Go.RowKit
set_option linter.unusedSimpArgs false
set_option linter.unusedVariables false
abbrev n_l_szCell : Nat := 57
def F_l_szCell : Fn1 := ⟨13, [.t 4], (.seq (.reg [o 2 (.box (.t 0)), o 4 (.mov (.k (.int .i64 0)))]) (.seq (.reg [o 5 (.mov (.t 1)), o 6 (.fad 0 (.t 2)), o 7 (.ld false 1 (.t 6)), o 8 (.len true (.t 7)), o 9 (.bin .sub (.t 5) (.t 8)), o 1 (.mov (.t 9))]) (.seq (.seq (.reg [o 10 (.mov (.t 1)), o 11 (.bin .lss (.t 10) (.k (.int .i64 0)))]) (.cnd (.t 11) (.seq (.reg [o 4 (.mov (.k (.int .i64 (-1))))]) .ret) .skip)) (.seq (.reg [o 12 (.mov (.t 1)), o 4 (.mov (.t 12))]) .ret))))⟩
theorem ir_l_szCell : compFn Try.prog n_l_szCell = some F_l_szCell := by kernel_rfl
theorem l_szCell_ret (σ : St) (x : Cell) (n : Int) (hw : wCell x) (h0 : 0 ≤ n) (h1 : n ≤ 1099511627776) : Ret Try.prog n_l_szCell [.agg [.str x.obj, .int .i64 x.dot.rep, .int .i64 x.dot.seq, .int .i64 x.time, .int .i64 x.ref.rep, .int .i64 x.ref.seq, .int .i64 x.val, .bool x.gone], gi n] σ (gi (lf n (msCell x))) σ := by
  have w0 := hw; unfold wCell at w0
  refine ret_eq ir_l_szCell (Nat.le_of_ble_eq_true rfl) trivial ?_
  simp +contextual (maxSteps := 600000) (disch := omega) only [go_sem, Nat.reduceEqDiff, ↓reduceIte, Int.reduceEq, Int.reduceNeg, wrap_add, F_l_szCell, List.append_nil]
  refine ⟨fun hn => ?_, fun hn => ?_⟩
  · have hn := of_decide_eq_true hn
    unfold msCell lf; rw [if_pos (by omega)]
  have hn := of_decide_eq_false hn
  try simp (disch := omega) only [wrap_add]
  unfold msCell; rw [show lf n (x.obj.size) = n - ((x.obj.size : Nat) : Int) by unfold lf; rw [if_neg (by omega)]]; try omega
end Go.Proofs.Ytffnefmklckngaa.Sy

/- Contracts of the laws' own functions: HszCellS. -/
namespace Go.Proofs.Ytffnefmklckngaa.Sy
open Go Go.RowKit
set_option linter.unusedSimpArgs false
set_option linter.unusedVariables false
abbrev n_l_szCellS : Nat := 31
def F_l_szCellS : Fn1 := ⟨27, [.t 4], (.seq (.reg [o 4 (.mov (.k (.int .i64 0)))]) (.seq (.reg [o 6 (.mov (.t 1)), o 7 (.mov (.t 0)), o 8 (.len false (.t 7)), o 9 (.bin .sub (.t 6) (.t 8)), o 1 (.mov (.t 9))]) (.seq (.seq (.reg [o 10 (.mov (.t 1)), o 11 (.bin .lss (.t 10) (.k (.int .i64 0)))]) (.cnd (.t 11) (.seq (.reg [o 4 (.mov (.k (.int .i64 (-1))))]) .ret) .skip)) (.seq (.seq (.reg [o 5 (.mov (.k (.int .i64 0)))]) (.blk 0 (.lop (.seq (.seq (.reg [o 12 (.mov (.t 5)), o 13 (.mov (.t 0)), o 14 (.len false (.t 13)), o 15 (.bin .lss (.t 12) (.t 14))]) (.cnd (.t 15) .skip (.ext 0))) (.seq (.blk 1 (.seq (.reg [o 18 (.mov (.t 0)), o 19 (.mov (.t 5)), o 20 (.iad 8 (.t 18) (.t 19)), o 21 (.ld true 8 (.t 20)), o 22 (.mov (.t 1)), o 23 (.call 57 [(.t 21), (.t 22)]), o 1 (.mov (.t 23))]) (.seq (.reg [o 24 (.mov (.t 1)), o 25 (.bin .lss (.t 24) (.k (.int .i64 0)))]) (.cnd (.t 25) (.seq (.reg [o 4 (.mov (.k (.int .i64 (-1))))]) .ret) .skip)))) (.reg [o 16 (.mov (.t 5)), o 17 (.bin .add (.t 16) (.k (.int .i64 1))), o 5 (.mov (.t 17))])))))) (.seq (.reg [o 26 (.mov (.t 1)), o 4 (.mov (.t 26))]) .ret)))))⟩
theorem ir_l_szCellS : compFn Try.prog n_l_szCellS = some F_l_szCellS := by kernel_rfl
theorem l_szCellS_ret (σ : St) (v : GV) (l : List Cell) (hR : RS pCell.kd σ v l) (n : Int) (hw : l.length ≤ 9223372036854775807 ∧ ∀ y ∈ l, wCell y) (h0 : 0 ≤ n) (h1 : n ≤ 1099511627776) : Ret Try.prog n_l_szCellS [v, gi n] σ (gi (lf n (l.length + sumL msCell l))) σ := by
  obtain ⟨wl, we⟩ := hw
  refine ret_eq ir_l_szCellS (Nat.le_of_ble_eq_true rfl) trivial ?_
  simp +contextual (maxSteps := 600000) (disch := omega) only [go_sem, Nat.reduceEqDiff, ↓reduceIte, Int.reduceEq, Int.reduceNeg, wrap_add, F_l_szCellS, hR.len]
  refine ⟨fun hn => ?_, fun hn => ?_⟩
  · have hn := of_decide_eq_true hn
    unfold lf; rw [if_pos (by omega)]
  have hn := of_decide_eq_false hn
  refine vc_for l.length 5 (fun i env τ => ∃ m : Int, env 0 = v ∧ env 1 = gi m ∧ m = n - l.length - sumL msCell (l.take i) ∧ 0 ≤ m ∧ σ <+: τ) rfl ⟨n - l.length, rfl, rfl, by simp [sumL], by omega, List.prefix_refl _⟩ ?_ ?_
  · rintro i env τ hi e5 c0 ⟨m, e0, e1, em, hm, hp⟩
    have h1 := hR.pre hp
    have hs := sumL_snoc (f := msCell) hi
    have hst := sumL_take_le msCell l (i + 1)
    simp +contextual (maxSteps := 600000) (disch := omega) only [go_sem, Nat.reduceEqDiff, ↓reduceIte, Int.reduceEq, Int.reduceNeg, wrap_add, c0, e0, e1, e5, hR.len, Cell_at h1 hi]
    refine by_ret (l_szCell_ret τ l[i] m (we _ (List.getElem_mem hi)) hm (by omega)) ?_
    simp +contextual (maxSteps := 600000) (disch := omega) only [go_sem, Nat.reduceEqDiff, ↓reduceIte, Int.reduceEq, Int.reduceNeg, wrap_add, c0, e0, e1, e5, hp]
    have g0 := @lf_le m (msCell l[i]) hm
    have g1 := @lf_ge m (msCell l[i])
    refine ⟨fun hn => ?_, fun hn => ?_⟩
    · have hn := lf_neg.1 (of_decide_eq_true hn)
      unfold lf; rw [if_pos (by omega)]
    · have hn := of_decide_eq_false hn
      have f := lf_some hn
      exact ⟨_, rfl, by omega, by omega⟩
  · rintro env τ e5 c0 ⟨m, e0, e1, em, hm, hp⟩
    rw [List.take_length] at em
    simp +contextual (maxSteps := 600000) (disch := omega) only [go_sem, Nat.reduceEqDiff, ↓reduceIte, Int.reduceEq, Int.reduceNeg, wrap_add, c0, e0, e1, e5, hR.len, hp]
    unfold lf; rw [if_neg (by omega)]; omega
end Go.Proofs.Ytffnefmklckngaa.Sy

/- Contracts of the laws' own functions: HszIntS. -/
namespace Go.Proofs.Ytffnefmklckngaa.Sy
open Go Go.RowKit
set_option linter.unusedSimpArgs false
set_option linter.unusedVariables false
abbrev n_l_szIntS : Nat := 28
def F_l_szIntS : Fn1 := ⟨12, [.t 4], (.seq (.reg [o 4 (.mov (.k (.int .i64 0)))]) (.seq (.reg [o 5 (.mov (.t 1)), o 6 (.mov (.t 0)), o 7 (.len false (.t 6)), o 8 (.bin .sub (.t 5) (.t 7)), o 1 (.mov (.t 8))]) (.seq (.seq (.reg [o 9 (.mov (.t 1)), o 10 (.bin .lss (.t 9) (.k (.int .i64 0)))]) (.cnd (.t 10) (.seq (.reg [o 4 (.mov (.k (.int .i64 (-1))))]) .ret) .skip)) (.seq (.reg [o 11 (.mov (.t 1)), o 4 (.mov (.t 11))]) .ret))))⟩
theorem ir_l_szIntS : compFn Try.prog n_l_szIntS = some F_l_szIntS := by kernel_rfl
theorem l_szIntS_ret (σ : St) (v : GV) (l : List Int) (hR : RS pI.kd σ v l) (n : Int) (hw : l.length ≤ 9223372036854775807) (h0 : 0 ≤ n) (h1 : n ≤ 1099511627776) : Ret Try.prog n_l_szIntS [v, gi n] σ (gi (lf n l.length)) σ := by
  refine ret_eq ir_l_szIntS (Nat.le_of_ble_eq_true rfl) trivial ?_
  simp +contextual (maxSteps := 600000) (disch := omega) only [go_sem, Nat.reduceEqDiff, ↓reduceIte, Int.reduceEq, Int.reduceNeg, wrap_add, F_l_szIntS, hR.len]
  refine ⟨fun h => ?_, fun h => ?_⟩
  · rw [lf, if_pos (of_decide_eq_true h)]
  · rw [lf, if_neg (of_decide_eq_false h)]
end Go.Proofs.Ytffnefmklckngaa.Sy

/- Contracts of the laws' own functions: HszLive. -/
namespace Go.Proofs.Ytffnefmklckngaa.Sy
open Go Go.RowKit
set_option linter.unusedSimpArgs false
set_option linter.unusedVariables false
abbrev n_l_szLive : Nat := 56
def F_l_szLive : Fn1 := ⟨20, [.t 4], (.seq (.reg [o 2 (.box (.t 0)), o 4 (.mov (.k (.int .i64 0)))]) (.seq (.reg [o 5 (.mov (.t 1)), o 6 (.fad 1 (.t 2)), o 7 (.ld false 1 (.t 6)), o 8 (.len true (.t 7)), o 9 (.bin .sub (.t 5) (.t 8)), o 1 (.mov (.t 9))]) (.seq (.seq (.reg [o 10 (.mov (.t 1)), o 11 (.bin .lss (.t 10) (.k (.int .i64 0)))]) (.cnd (.t 11) (.seq (.reg [o 4 (.mov (.k (.int .i64 (-1))))]) .ret) .skip)) (.seq (.reg [o 12 (.mov (.t 1)), o 13 (.fad 2 (.t 2)), o 14 (.ld false 1 (.t 13)), o 15 (.len true (.t 14)), o 16 (.bin .sub (.t 12) (.t 15)), o 1 (.mov (.t 16))]) (.seq (.seq (.reg [o 17 (.mov (.t 1)), o 18 (.bin .lss (.t 17) (.k (.int .i64 0)))]) (.cnd (.t 18) (.seq (.reg [o 4 (.mov (.k (.int .i64 (-1))))]) .ret) .skip)) (.seq (.reg [o 19 (.mov (.t 1)), o 4 (.mov (.t 19))]) .ret))))))⟩
theorem ir_l_szLive : compFn Try.prog n_l_szLive = some F_l_szLive := by kernel_rfl
theorem l_szLive_ret (σ : St) (x : Live) (n : Int) (hw : wLive x) (h0 : 0 ≤ n) (h1 : n ≤ 1099511627776) : Ret Try.prog n_l_szLive [.agg [.bool x.map, .str x.obj, .str x.key, .int .i64 x.val, .int .i64 x.dot.rep, .int .i64 x.dot.seq], gi n] σ (gi (lf n (msLive x))) σ := by
  obtain ⟨w0, w1⟩ := hw
  refine ret_eq ir_l_szLive (Nat.le_of_ble_eq_true rfl) trivial ?_
  simp +contextual (maxSteps := 600000) (disch := omega) only [go_sem, Nat.reduceEqDiff, ↓reduceIte, Int.reduceEq, Int.reduceNeg, wrap_add, F_l_szLive, List.append_nil]
  refine ⟨fun hn => ?_, fun hn => ?_⟩
  · have hn := of_decide_eq_true hn
    unfold msLive lf; rw [if_pos (by omega)]
  have hn := of_decide_eq_false hn
  try simp (disch := omega) only [wrap_add]
  refine ⟨fun hn => ?_, fun hn => ?_⟩
  · have hn := of_decide_eq_true hn
    unfold msLive lf; rw [if_pos (by omega)]
  have hn := of_decide_eq_false hn
  try simp (disch := omega) only [wrap_add]
  unfold msLive; rw [show lf n (x.obj.size + x.key.size) = n - ((x.obj.size + x.key.size : Nat) : Int) by unfold lf; rw [if_neg (by omega)]]; try omega
end Go.Proofs.Ytffnefmklckngaa.Sy

/- Contracts of the laws' own functions: HszLiveS. -/
namespace Go.Proofs.Ytffnefmklckngaa.Sy
open Go Go.RowKit
set_option linter.unusedSimpArgs false
set_option linter.unusedVariables false
abbrev n_l_szLiveS : Nat := 30
def F_l_szLiveS : Fn1 := ⟨27, [.t 4], (.seq (.reg [o 4 (.mov (.k (.int .i64 0)))]) (.seq (.reg [o 6 (.mov (.t 1)), o 7 (.mov (.t 0)), o 8 (.len false (.t 7)), o 9 (.bin .sub (.t 6) (.t 8)), o 1 (.mov (.t 9))]) (.seq (.seq (.reg [o 10 (.mov (.t 1)), o 11 (.bin .lss (.t 10) (.k (.int .i64 0)))]) (.cnd (.t 11) (.seq (.reg [o 4 (.mov (.k (.int .i64 (-1))))]) .ret) .skip)) (.seq (.seq (.reg [o 5 (.mov (.k (.int .i64 0)))]) (.blk 0 (.lop (.seq (.seq (.reg [o 12 (.mov (.t 5)), o 13 (.mov (.t 0)), o 14 (.len false (.t 13)), o 15 (.bin .lss (.t 12) (.t 14))]) (.cnd (.t 15) .skip (.ext 0))) (.seq (.blk 1 (.seq (.reg [o 18 (.mov (.t 0)), o 19 (.mov (.t 5)), o 20 (.iad 6 (.t 18) (.t 19)), o 21 (.ld true 6 (.t 20)), o 22 (.mov (.t 1)), o 23 (.call 56 [(.t 21), (.t 22)]), o 1 (.mov (.t 23))]) (.seq (.reg [o 24 (.mov (.t 1)), o 25 (.bin .lss (.t 24) (.k (.int .i64 0)))]) (.cnd (.t 25) (.seq (.reg [o 4 (.mov (.k (.int .i64 (-1))))]) .ret) .skip)))) (.reg [o 16 (.mov (.t 5)), o 17 (.bin .add (.t 16) (.k (.int .i64 1))), o 5 (.mov (.t 17))])))))) (.seq (.reg [o 26 (.mov (.t 1)), o 4 (.mov (.t 26))]) .ret)))))⟩
theorem ir_l_szLiveS : compFn Try.prog n_l_szLiveS = some F_l_szLiveS := by kernel_rfl
theorem l_szLiveS_ret (σ : St) (v : GV) (l : List Live) (hR : RS pLive.kd σ v l) (n : Int) (hw : l.length ≤ 9223372036854775807 ∧ ∀ y ∈ l, wLive y) (h0 : 0 ≤ n) (h1 : n ≤ 1099511627776) : Ret Try.prog n_l_szLiveS [v, gi n] σ (gi (lf n (l.length + sumL msLive l))) σ := by
  obtain ⟨wl, we⟩ := hw
  refine ret_eq ir_l_szLiveS (Nat.le_of_ble_eq_true rfl) trivial ?_
  simp +contextual (maxSteps := 600000) (disch := omega) only [go_sem, Nat.reduceEqDiff, ↓reduceIte, Int.reduceEq, Int.reduceNeg, wrap_add, F_l_szLiveS, hR.len]
  refine ⟨fun hn => ?_, fun hn => ?_⟩
  · have hn := of_decide_eq_true hn
    unfold lf; rw [if_pos (by omega)]
  have hn := of_decide_eq_false hn
  refine vc_for l.length 5 (fun i env τ => ∃ m : Int, env 0 = v ∧ env 1 = gi m ∧ m = n - l.length - sumL msLive (l.take i) ∧ 0 ≤ m ∧ σ <+: τ) rfl ⟨n - l.length, rfl, rfl, by simp [sumL], by omega, List.prefix_refl _⟩ ?_ ?_
  · rintro i env τ hi e5 c0 ⟨m, e0, e1, em, hm, hp⟩
    have h1 := hR.pre hp
    have hs := sumL_snoc (f := msLive) hi
    have hst := sumL_take_le msLive l (i + 1)
    simp +contextual (maxSteps := 600000) (disch := omega) only [go_sem, Nat.reduceEqDiff, ↓reduceIte, Int.reduceEq, Int.reduceNeg, wrap_add, c0, e0, e1, e5, hR.len, Live_at h1 hi]
    refine by_ret (l_szLive_ret τ l[i] m (we _ (List.getElem_mem hi)) hm (by omega)) ?_
    simp +contextual (maxSteps := 600000) (disch := omega) only [go_sem, Nat.reduceEqDiff, ↓reduceIte, Int.reduceEq, Int.reduceNeg, wrap_add, c0, e0, e1, e5, hp]
    have g0 := @lf_le m (msLive l[i]) hm
    have g1 := @lf_ge m (msLive l[i])
    refine ⟨fun hn => ?_, fun hn => ?_⟩
    · have hn := lf_neg.1 (of_decide_eq_true hn)
      unfold lf; rw [if_pos (by omega)]
    · have hn := of_decide_eq_false hn
      have f := lf_some hn
      exact ⟨_, rfl, by omega, by omega⟩
  · rintro env τ e5 c0 ⟨m, e0, e1, em, hm, hp⟩
    rw [List.take_length] at em
    simp +contextual (maxSteps := 600000) (disch := omega) only [go_sem, Nat.reduceEqDiff, ↓reduceIte, Int.reduceEq, Int.reduceNeg, wrap_add, c0, e0, e1, e5, hR.len, hp]
    unfold lf; rw [if_neg (by omega)]; omega
end Go.Proofs.Ytffnefmklckngaa.Sy

/- Contracts of the laws' own functions: HszTally. -/
namespace Go.Proofs.Ytffnefmklckngaa.Sy
open Go Go.RowKit
set_option linter.unusedSimpArgs false
set_option linter.unusedVariables false
abbrev n_l_szTally : Nat := 55
def F_l_szTally : Fn1 := ⟨13, [.t 4], (.seq (.reg [o 2 (.box (.t 0)), o 4 (.mov (.k (.int .i64 0)))]) (.seq (.reg [o 5 (.mov (.t 1)), o 6 (.fad 0 (.t 2)), o 7 (.ld false 1 (.t 6)), o 8 (.len true (.t 7)), o 9 (.bin .sub (.t 5) (.t 8)), o 1 (.mov (.t 9))]) (.seq (.seq (.reg [o 10 (.mov (.t 1)), o 11 (.bin .lss (.t 10) (.k (.int .i64 0)))]) (.cnd (.t 11) (.seq (.reg [o 4 (.mov (.k (.int .i64 (-1))))]) .ret) .skip)) (.seq (.reg [o 12 (.mov (.t 1)), o 4 (.mov (.t 12))]) .ret))))⟩
theorem ir_l_szTally : compFn Try.prog n_l_szTally = some F_l_szTally := by kernel_rfl
theorem l_szTally_ret (σ : St) (x : Tally) (n : Int) (hw : wTally x) (h0 : 0 ≤ n) (h1 : n ≤ 1099511627776) : Ret Try.prog n_l_szTally [.agg [.str x.obj, .int .i64 x.rep, .int .i64 x.sum], gi n] σ (gi (lf n (msTally x))) σ := by
  have w0 := hw; unfold wTally at w0
  refine ret_eq ir_l_szTally (Nat.le_of_ble_eq_true rfl) trivial ?_
  simp +contextual (maxSteps := 600000) (disch := omega) only [go_sem, Nat.reduceEqDiff, ↓reduceIte, Int.reduceEq, Int.reduceNeg, wrap_add, F_l_szTally, List.append_nil]
  refine ⟨fun hn => ?_, fun hn => ?_⟩
  · have hn := of_decide_eq_true hn
    unfold msTally lf; rw [if_pos (by omega)]
  have hn := of_decide_eq_false hn
  try simp (disch := omega) only [wrap_add]
  unfold msTally; rw [show lf n (x.obj.size) = n - ((x.obj.size : Nat) : Int) by unfold lf; rw [if_neg (by omega)]]; try omega
end Go.Proofs.Ytffnefmklckngaa.Sy

/- Contracts of the laws' own functions: HszTallyS. -/
namespace Go.Proofs.Ytffnefmklckngaa.Sy
open Go Go.RowKit
set_option linter.unusedSimpArgs false
set_option linter.unusedVariables false
abbrev n_l_szTallyS : Nat := 29
def F_l_szTallyS : Fn1 := ⟨27, [.t 4], (.seq (.reg [o 4 (.mov (.k (.int .i64 0)))]) (.seq (.reg [o 6 (.mov (.t 1)), o 7 (.mov (.t 0)), o 8 (.len false (.t 7)), o 9 (.bin .sub (.t 6) (.t 8)), o 1 (.mov (.t 9))]) (.seq (.seq (.reg [o 10 (.mov (.t 1)), o 11 (.bin .lss (.t 10) (.k (.int .i64 0)))]) (.cnd (.t 11) (.seq (.reg [o 4 (.mov (.k (.int .i64 (-1))))]) .ret) .skip)) (.seq (.seq (.reg [o 5 (.mov (.k (.int .i64 0)))]) (.blk 0 (.lop (.seq (.seq (.reg [o 12 (.mov (.t 5)), o 13 (.mov (.t 0)), o 14 (.len false (.t 13)), o 15 (.bin .lss (.t 12) (.t 14))]) (.cnd (.t 15) .skip (.ext 0))) (.seq (.blk 1 (.seq (.reg [o 18 (.mov (.t 0)), o 19 (.mov (.t 5)), o 20 (.iad 3 (.t 18) (.t 19)), o 21 (.ld true 3 (.t 20)), o 22 (.mov (.t 1)), o 23 (.call 55 [(.t 21), (.t 22)]), o 1 (.mov (.t 23))]) (.seq (.reg [o 24 (.mov (.t 1)), o 25 (.bin .lss (.t 24) (.k (.int .i64 0)))]) (.cnd (.t 25) (.seq (.reg [o 4 (.mov (.k (.int .i64 (-1))))]) .ret) .skip)))) (.reg [o 16 (.mov (.t 5)), o 17 (.bin .add (.t 16) (.k (.int .i64 1))), o 5 (.mov (.t 17))])))))) (.seq (.reg [o 26 (.mov (.t 1)), o 4 (.mov (.t 26))]) .ret)))))⟩
theorem ir_l_szTallyS : compFn Try.prog n_l_szTallyS = some F_l_szTallyS := by kernel_rfl
theorem l_szTallyS_ret (σ : St) (v : GV) (l : List Tally) (hR : RS pTally.kd σ v l) (n : Int) (hw : l.length ≤ 9223372036854775807 ∧ ∀ y ∈ l, wTally y) (h0 : 0 ≤ n) (h1 : n ≤ 1099511627776) : Ret Try.prog n_l_szTallyS [v, gi n] σ (gi (lf n (l.length + sumL msTally l))) σ := by
  obtain ⟨wl, we⟩ := hw
  refine ret_eq ir_l_szTallyS (Nat.le_of_ble_eq_true rfl) trivial ?_
  simp +contextual (maxSteps := 600000) (disch := omega) only [go_sem, Nat.reduceEqDiff, ↓reduceIte, Int.reduceEq, Int.reduceNeg, wrap_add, F_l_szTallyS, hR.len]
  refine ⟨fun hn => ?_, fun hn => ?_⟩
  · have hn := of_decide_eq_true hn
    unfold lf; rw [if_pos (by omega)]
  have hn := of_decide_eq_false hn
  refine vc_for l.length 5 (fun i env τ => ∃ m : Int, env 0 = v ∧ env 1 = gi m ∧ m = n - l.length - sumL msTally (l.take i) ∧ 0 ≤ m ∧ σ <+: τ) rfl ⟨n - l.length, rfl, rfl, by simp [sumL], by omega, List.prefix_refl _⟩ ?_ ?_
  · rintro i env τ hi e5 c0 ⟨m, e0, e1, em, hm, hp⟩
    have h1 := hR.pre hp
    have hs := sumL_snoc (f := msTally) hi
    have hst := sumL_take_le msTally l (i + 1)
    simp +contextual (maxSteps := 600000) (disch := omega) only [go_sem, Nat.reduceEqDiff, ↓reduceIte, Int.reduceEq, Int.reduceNeg, wrap_add, c0, e0, e1, e5, hR.len, Tally_at h1 hi]
    refine by_ret (l_szTally_ret τ l[i] m (we _ (List.getElem_mem hi)) hm (by omega)) ?_
    simp +contextual (maxSteps := 600000) (disch := omega) only [go_sem, Nat.reduceEqDiff, ↓reduceIte, Int.reduceEq, Int.reduceNeg, wrap_add, c0, e0, e1, e5, hp]
    have g0 := @lf_le m (msTally l[i]) hm
    have g1 := @lf_ge m (msTally l[i])
    refine ⟨fun hn => ?_, fun hn => ?_⟩
    · have hn := lf_neg.1 (of_decide_eq_true hn)
      unfold lf; rw [if_pos (by omega)]
    · have hn := of_decide_eq_false hn
      have f := lf_some hn
      exact ⟨_, rfl, by omega, by omega⟩
  · rintro env τ e5 c0 ⟨m, e0, e1, em, hm, hp⟩
    rw [List.take_length] at em
    simp +contextual (maxSteps := 600000) (disch := omega) only [go_sem, Nat.reduceEqDiff, ↓reduceIte, Int.reduceEq, Int.reduceNeg, wrap_add, c0, e0, e1, e5, hR.len, hp]
    unfold lf; rw [if_neg (by omega)]; omega
end Go.Proofs.Ytffnefmklckngaa.Sy

/- Contracts of the laws' own functions: HszState. -/
namespace Go.Proofs.Ytffnefmklckngaa.Sy
open Go Go.RowKit
set_option linter.unusedSimpArgs false
set_option linter.unusedVariables false
abbrev n_l_szState : Nat := 8
def F_l_szState : Fn1 := ⟨30, [.t 4], (.seq (.reg [o 2 (.box (.t 0)), o 4 (.mov (.k (.int .i64 0)))]) (.seq (.reg [o 5 (.fad 0 (.t 2)), o 6 (.ld false 1 (.t 5)), o 7 (.mov (.t 1)), o 8 (.call 28 [(.t 6), (.t 7)]), o 1 (.mov (.t 8))]) (.seq (.seq (.reg [o 9 (.mov (.t 1)), o 10 (.bin .lss (.t 9) (.k (.int .i64 0)))]) (.cnd (.t 10) (.seq (.reg [o 4 (.mov (.k (.int .i64 (-1))))]) .ret) .skip)) (.seq (.reg [o 11 (.fad 1 (.t 2)), o 12 (.ld false 1 (.t 11)), o 13 (.mov (.t 1)), o 14 (.call 29 [(.t 12), (.t 13)]), o 1 (.mov (.t 14))]) (.seq (.seq (.reg [o 15 (.mov (.t 1)), o 16 (.bin .lss (.t 15) (.k (.int .i64 0)))]) (.cnd (.t 16) (.seq (.reg [o 4 (.mov (.k (.int .i64 (-1))))]) .ret) .skip)) (.seq (.reg [o 17 (.fad 2 (.t 2)), o 18 (.ld false 1 (.t 17)), o 19 (.mov (.t 1)), o 20 (.call 30 [(.t 18), (.t 19)]), o 1 (.mov (.t 20))]) (.seq (.seq (.reg [o 21 (.mov (.t 1)), o 22 (.bin .lss (.t 21) (.k (.int .i64 0)))]) (.cnd (.t 22) (.seq (.reg [o 4 (.mov (.k (.int .i64 (-1))))]) .ret) .skip)) (.seq (.reg [o 23 (.fad 3 (.t 2)), o 24 (.ld false 1 (.t 23)), o 25 (.mov (.t 1)), o 26 (.call 31 [(.t 24), (.t 25)]), o 1 (.mov (.t 26))]) (.seq (.seq (.reg [o 27 (.mov (.t 1)), o 28 (.bin .lss (.t 27) (.k (.int .i64 0)))]) (.cnd (.t 28) (.seq (.reg [o 4 (.mov (.k (.int .i64 (-1))))]) .ret) .skip)) (.seq (.reg [o 29 (.mov (.t 1)), o 4 (.mov (.t 29))]) .ret))))))))))⟩
theorem ir_l_szState : compFn Try.prog n_l_szState = some F_l_szState := by kernel_rfl
theorem l_szState_ret (σ : St) (cs : List GV) (x : State) (hR : kState.R σ x cs) (n : Int) (hw : wState x) (h0 : 0 ≤ n) (h1 : n ≤ 1099511627776) : Ret Try.prog n_l_szState [.agg cs, gi n] σ (gi (lf n (msState x))) σ := by
  obtain ⟨v0, v1, v2, v3, rfl, q0, q1, q2, q3⟩ := hR
  obtain ⟨w0, w1, w2, w3⟩ := hw
  refine ret_eq ir_l_szState (Nat.le_of_ble_eq_true rfl) trivial ?_
  simp +contextual (maxSteps := 600000) (disch := omega) only [go_sem, Nat.reduceEqDiff, ↓reduceIte, Int.reduceEq, Int.reduceNeg, wrap_add, F_l_szState, List.append_nil]
  refine by_ret (l_szIntS_ret _ v0 x.know (q0.pre (pre1 _ _)) (n) w0 (by omega) (by omega)) ?_
  simp +contextual (maxSteps := 600000) (disch := omega) only [go_sem, Nat.reduceEqDiff, ↓reduceIte, Int.reduceEq, Int.reduceNeg, wrap_add, List.append_nil]
  have g0 := @lf_le (n) (x.know.length) (by omega)
  refine ⟨fun hn => ?_, fun hn => ?_⟩
  · have hn := of_decide_eq_true hn
    have hn := lf_neg.1 hn
    unfold msState lf; rw [if_pos (by omega)]
  have hn := of_decide_eq_false hn
  have f0 := lf_some hn
  try simp (disch := omega) only [wrap_add]
  refine by_ret (l_szTallyS_ret _ v1 x.tallies (q1.pre (pre1 _ _)) (lf (n) (x.know.length)) w1 (by omega) (by omega)) ?_
  simp +contextual (maxSteps := 600000) (disch := omega) only [go_sem, Nat.reduceEqDiff, ↓reduceIte, Int.reduceEq, Int.reduceNeg, wrap_add, List.append_nil]
  have g1 := @lf_le (lf (n) (x.know.length)) ((x.tallies.length + sumL msTally x.tallies)) (by omega)
  refine ⟨fun hn => ?_, fun hn => ?_⟩
  · have hn := of_decide_eq_true hn
    have hn := lf_neg.1 hn
    unfold msState lf; rw [if_pos (by omega)]
  have hn := of_decide_eq_false hn
  have f1 := lf_some hn
  try simp (disch := omega) only [wrap_add]
  refine by_ret (l_szLiveS_ret _ v2 x.lives (q2.pre (pre1 _ _)) (lf (lf (n) (x.know.length)) ((x.tallies.length + sumL msTally x.tallies))) w2 (by omega) (by omega)) ?_
  simp +contextual (maxSteps := 600000) (disch := omega) only [go_sem, Nat.reduceEqDiff, ↓reduceIte, Int.reduceEq, Int.reduceNeg, wrap_add, List.append_nil]
  have g2 := @lf_le (lf (lf (n) (x.know.length)) ((x.tallies.length + sumL msTally x.tallies))) ((x.lives.length + sumL msLive x.lives)) (by omega)
  refine ⟨fun hn => ?_, fun hn => ?_⟩
  · have hn := of_decide_eq_true hn
    have hn := lf_neg.1 hn
    unfold msState lf; rw [if_pos (by omega)]
  have hn := of_decide_eq_false hn
  have f2 := lf_some hn
  try simp (disch := omega) only [wrap_add]
  refine by_ret (l_szCellS_ret _ v3 x.cells (q3.pre (pre1 _ _)) (lf (lf (lf (n) (x.know.length)) ((x.tallies.length + sumL msTally x.tallies))) ((x.lives.length + sumL msLive x.lives))) w3 (by omega) (by omega)) ?_
  simp +contextual (maxSteps := 600000) (disch := omega) only [go_sem, Nat.reduceEqDiff, ↓reduceIte, Int.reduceEq, Int.reduceNeg, wrap_add, List.append_nil]
  have g3 := @lf_le (lf (lf (lf (n) (x.know.length)) ((x.tallies.length + sumL msTally x.tallies))) ((x.lives.length + sumL msLive x.lives))) ((x.cells.length + sumL msCell x.cells)) (by omega)
  refine ⟨fun hn => ?_, fun hn => ?_⟩
  · have hn := of_decide_eq_true hn
    have hn := lf_neg.1 hn
    unfold msState lf; rw [if_pos (by omega)]
  have hn := of_decide_eq_false hn
  have f3 := lf_some hn
  try simp (disch := omega) only [wrap_add]
  unfold msState; rw [show lf n (x.know.length + (x.tallies.length + sumL msTally x.tallies) + (x.lives.length + sumL msLive x.lives) + (x.cells.length + sumL msCell x.cells)) = n - ((x.know.length + (x.tallies.length + sumL msTally x.tallies) + (x.lives.length + sumL msLive x.lives) + (x.cells.length + sumL msCell x.cells) : Nat) : Int) by unfold lf; rw [if_neg (by omega)]]; try omega
end Go.Proofs.Ytffnefmklckngaa.Sy

/- Contracts of the laws' own functions: HtoIntS. -/
namespace Go.Proofs.Ytffnefmklckngaa.Sy
open Go Go.RowKit
set_option linter.unusedSimpArgs false
set_option linter.unusedVariables false
abbrev n_l_toIntS : Nat := 15
def F_l_toIntS : Fn1 := ⟨22, [.t 2], (.seq (.reg [o 2 (.mov (.k .nilS))]) (.seq (.reg [o 5 (.mov (.t 0)), o 6 (.len false (.t 5)), o 7 (.mks 1 8 [(.int .i64 0)] (.t 6) (.t 6)), o 3 (.mov (.t 7))]) (.seq (.seq (.reg [o 4 (.mov (.k (.int .i64 0)))]) (.blk 0 (.lop (.seq (.seq (.reg [o 8 (.mov (.t 4)), o 9 (.mov (.t 0)), o 10 (.len false (.t 9)), o 11 (.bin .lss (.t 8) (.t 10))]) (.cnd (.t 11) .skip (.ext 0))) (.seq (.blk 1 (.reg [o 14 (.mov (.t 3)), o 15 (.mov (.t 4)), o 16 (.mov (.t 0)), o 17 (.mov (.t 4)), o 18 (.iad 1 (.t 16) (.t 17)), o 19 (.ld false 1 (.t 18)), o 20 (.iad 1 (.t 14) (.t 15)), on (.st 1 (.t 20) (.t 19))])) (.reg [o 12 (.mov (.t 4)), o 13 (.bin .add (.t 12) (.k (.int .i64 1))), o 4 (.mov (.t 13))])))))) (.seq (.reg [o 21 (.mov (.t 3)), o 2 (.mov (.t 21))]) .ret))))⟩
theorem ir_l_toIntS : compFn Try.prog n_l_toIntS = some F_l_toIntS := by kernel_rfl
theorem l_toIntS_ret (σ : St) (v : GV) (l : List Int) (hR : RS pI.kd σ v l) (hl : l.length ≤ 1099511627776) : ∃ r τ, Ret Try.prog n_l_toIntS [v] σ r τ ∧ Hp σ τ [ow pI.kd r l] := by
  refine ret_hp (rs := fun r => [ow pI.kd r l]) ir_l_toIntS (Nat.le_of_ble_eq_true rfl) ?_
  have hmk : ∀ ze, mksG 1 8 ze σ (some l.length) (some l.length) = some (.sl σ.length 0 l.length, σ ++ [some (.row 1 (reps l.length ze))]) := fun ze => mks_ok (by omega)
  simp +contextual (maxSteps := 600000) (disch := omega) only [go_sem, Nat.reduceEqDiff, ↓reduceIte, Int.reduceEq, Int.reduceNeg, wrap_add, F_l_toIntS, hR.len, hmk]
  have H0 := ((Hp.refl σ).new 1 (reps l.length (pI.enc 0))).toRow 0 (p := pI) rfl (List.replicate l.length 0) rfl (reps_enc _ _ _) l.length (by simp)
  refine vc_for l.length 4 (fun i env τ => env 0 = v ∧ env 3 = .sl σ.length 0 l.length ∧ Hp σ τ [ow pI.kd (.sl σ.length 0 l.length) (l.take i ++ List.replicate (l.length - i) 0)]) rfl ⟨rfl, rfl, by rw [List.take_zero, List.nil_append, Nat.sub_zero]; exact H0⟩ ?_ ?_
  · rintro i env τ hi e4 c0 ⟨e0, e3, H⟩
    have h1 := hR.pre H.sub
    have h2 := H.sl 0 rfl
    have hj := fill_len (z := (0 : Int)) hi
    obtain ⟨τ', es, H'⟩ := H.stw 0 rfl hj 1 (.int .i64 l[i]) l[i] rfl rfl (by decide)
    rw [fill_step hi] at H'
    have es : stG 1 τ (atz 1 (.sl σ.length 0 l.length) i) (.int .i64 l[i]) = some (.tup [], τ') := es
    simp +contextual (maxSteps := 600000) (disch := omega) only [go_sem, Nat.reduceEqDiff, ↓reduceIte, Int.reduceEq, Int.reduceNeg, wrap_add, e0, e3, e4, c0, hR.len, int_at h1 hi, int_at h2 hj, es]
    exact H'
  · rintro env τ e4 c0 ⟨e0, e3, H⟩
    rw [fill_end] at H
    simp +contextual (maxSteps := 600000) (disch := omega) only [go_sem, Nat.reduceEqDiff, ↓reduceIte, Int.reduceEq, Int.reduceNeg, wrap_add, e0, e3, e4, c0, hR.len]
    exact ⟨_, rfl, H⟩
end Go.Proofs.Ytffnefmklckngaa.Sy

/- Contracts of the laws' own functions: HtoDot. -/
namespace Go.Proofs.Ytffnefmklckngaa.Sy
open Go Go.RowKit
set_option linter.unusedSimpArgs false
set_option linter.unusedVariables false
abbrev n_l_toDot : Nat := 14
def F_l_toDot : Fn1 := ⟨11, [.c 2 true 2], (.seq (.reg [o 1 (.box (.t 0)), o 2 (.new [(.int .i64 0), (.int .i64 0)])]) (.seq (.reg [o 3 (.new [(.int .i64 0), (.int .i64 0)])]) (.seq (.reg [o 4 (.fad 0 (.t 1)), o 5 (.ld false 1 (.t 4)), o 6 (.fad 0 (.t 3)), on (.st 1 (.t 6) (.t 5))]) (.seq (.reg [o 7 (.fad 1 (.t 1)), o 8 (.ld false 1 (.t 7)), o 9 (.fad 1 (.t 3)), on (.st 1 (.t 9) (.t 8))]) (.seq (.reg [o 10 (.ld true 2 (.t 3)), on (.st 2 (.t 2) (.t 10))]) .ret)))))⟩
theorem ir_l_toDot : compFn Try.prog n_l_toDot = some F_l_toDot := by kernel_rfl
theorem l_toDot_ret (σ : St) (x : Dot) : Ret Try.prog n_l_toDot [.agg [.int .i64 x.rep, .int .i64 x.seq]] σ (.agg [.int .i64 x.rep, .int .i64 x.seq]) σ := by
  refine ret_eq ir_l_toDot (Nat.le_of_ble_eq_true rfl) (by simp [vLt, cLt, sLt]) ?_
  simp +contextual (maxSteps := 600000) (disch := omega) only [go_sem, Nat.reduceEqDiff, ↓reduceIte, Int.reduceEq, Int.reduceNeg, wrap_add, F_l_toDot]
end Go.Proofs.Ytffnefmklckngaa.Sy

/- Contracts of the laws' own functions: HtoCell. -/
namespace Go.Proofs.Ytffnefmklckngaa.Sy
open Go Go.RowKit
set_option linter.unusedSimpArgs false
set_option linter.unusedVariables false
abbrev n_l_toCell : Nat := 65
def F_l_toCell : Fn1 := ⟨25, [.c 2 true 8], (.seq (.reg [o 1 (.box (.t 0)), o 2 (.new [(.str ⟨#[]⟩), (.int .i64 0), (.int .i64 0), (.int .i64 0), (.int .i64 0), (.int .i64 0), (.int .i64 0), (.bool false)])]) (.seq (.reg [o 3 (.new [(.str ⟨#[]⟩), (.int .i64 0), (.int .i64 0), (.int .i64 0), (.int .i64 0), (.int .i64 0), (.int .i64 0), (.bool false)])]) (.seq (.reg [o 4 (.fad 0 (.t 1)), o 5 (.ld false 1 (.t 4)), o 6 (.fad 0 (.t 3)), on (.st 1 (.t 6) (.t 5))]) (.seq (.reg [o 7 (.fad 1 (.t 1)), o 8 (.ld true 2 (.t 7)), o 9 (.call 14 [(.t 8)]), o 10 (.fad 1 (.t 3)), on (.st 2 (.t 10) (.t 9))]) (.seq (.reg [o 11 (.fad 3 (.t 1)), o 12 (.ld false 1 (.t 11)), o 13 (.fad 3 (.t 3)), on (.st 1 (.t 13) (.t 12))]) (.seq (.reg [o 14 (.fad 4 (.t 1)), o 15 (.ld true 2 (.t 14)), o 16 (.call 14 [(.t 15)]), o 17 (.fad 4 (.t 3)), on (.st 2 (.t 17) (.t 16))]) (.seq (.reg [o 18 (.fad 6 (.t 1)), o 19 (.ld false 1 (.t 18)), o 20 (.fad 6 (.t 3)), on (.st 1 (.t 20) (.t 19))]) (.seq (.reg [o 21 (.fad 7 (.t 1)), o 22 (.ld false 1 (.t 21)), o 23 (.fad 7 (.t 3)), on (.st 1 (.t 23) (.t 22))]) (.seq (.reg [o 24 (.ld true 8 (.t 3)), on (.st 8 (.t 2) (.t 24))]) .ret)))))))))⟩
theorem ir_l_toCell : compFn Try.prog n_l_toCell = some F_l_toCell := by kernel_rfl
theorem l_toCell_ret (σ : St) (x : Cell) : Ret Try.prog n_l_toCell [.agg [.str x.obj, .int .i64 x.dot.rep, .int .i64 x.dot.seq, .int .i64 x.time, .int .i64 x.ref.rep, .int .i64 x.ref.seq, .int .i64 x.val, .bool x.gone]] σ (.agg [.str x.obj, .int .i64 x.dot.rep, .int .i64 x.dot.seq, .int .i64 x.time, .int .i64 x.ref.rep, .int .i64 x.ref.seq, .int .i64 x.val, .bool x.gone]) σ := by
  refine ret_eq ir_l_toCell (Nat.le_of_ble_eq_true rfl) (by simp [vLt, cLt, sLt]) ?_
  simp +contextual (maxSteps := 600000) (disch := omega) only [go_sem, Nat.reduceEqDiff, ↓reduceIte, Int.reduceEq, Int.reduceNeg, wrap_add, F_l_toCell]
  refine by_ret (l_toDot_ret _ x.dot) ?_
  simp +contextual (maxSteps := 600000) (disch := omega) only [go_sem, Nat.reduceEqDiff, ↓reduceIte, Int.reduceEq, Int.reduceNeg, wrap_add, List.append_nil]
  refine by_ret (l_toDot_ret _ x.ref) ?_
  simp +contextual (maxSteps := 600000) (disch := omega) only [go_sem, Nat.reduceEqDiff, ↓reduceIte, Int.reduceEq, Int.reduceNeg, wrap_add, List.append_nil]
end Go.Proofs.Ytffnefmklckngaa.Sy

/- Contracts of the laws' own functions: HtoCellS. -/
namespace Go.Proofs.Ytffnefmklckngaa.Sy
open Go Go.RowKit
set_option linter.unusedSimpArgs false
set_option linter.unusedVariables false
abbrev n_l_toCellS : Nat := 35
def F_l_toCellS : Fn1 := ⟨23, [.t 2], (.seq (.reg [o 2 (.mov (.k .nilS))]) (.seq (.reg [o 5 (.mov (.t 0)), o 6 (.len false (.t 5)), o 7 (.mks 8 72 [(.str ⟨#[]⟩), (.int .i64 0), (.int .i64 0), (.int .i64 0), (.int .i64 0), (.int .i64 0), (.int .i64 0), (.bool false)] (.t 6) (.t 6)), o 3 (.mov (.t 7))]) (.seq (.seq (.reg [o 4 (.mov (.k (.int .i64 0)))]) (.blk 0 (.lop (.seq (.seq (.reg [o 8 (.mov (.t 4)), o 9 (.mov (.t 0)), o 10 (.len false (.t 9)), o 11 (.bin .lss (.t 8) (.t 10))]) (.cnd (.t 11) .skip (.ext 0))) (.seq (.blk 1 (.reg [o 14 (.mov (.t 3)), o 15 (.mov (.t 4)), o 16 (.mov (.t 0)), o 17 (.mov (.t 4)), o 18 (.iad 8 (.t 16) (.t 17)), o 19 (.ld true 8 (.t 18)), o 20 (.call 65 [(.t 19)]), o 21 (.iad 8 (.t 14) (.t 15)), on (.st 8 (.t 21) (.t 20))])) (.reg [o 12 (.mov (.t 4)), o 13 (.bin .add (.t 12) (.k (.int .i64 1))), o 4 (.mov (.t 13))])))))) (.seq (.reg [o 22 (.mov (.t 3)), o 2 (.mov (.t 22))]) .ret))))⟩
theorem ir_l_toCellS : compFn Try.prog n_l_toCellS = some F_l_toCellS := by kernel_rfl
theorem l_toCellS_ret (σ : St) (v : GV) (l : List Cell) (hR : RS pCell.kd σ v l) (hl : l.length ≤ 1099511627776) : ∃ r τ, Ret Try.prog n_l_toCellS [v] σ r τ ∧ Hp σ τ [ow pCell.kd r l] := by
  refine ret_hp (rs := fun r => [ow pCell.kd r l]) ir_l_toCellS (Nat.le_of_ble_eq_true rfl) ?_
  have hmk : ∀ ze, mksG 8 72 ze σ (some l.length) (some l.length) = some (.sl σ.length 0 l.length, σ ++ [some (.row 8 (reps l.length ze))]) := fun ze => mks_ok (by omega)
  simp +contextual (maxSteps := 600000) (disch := omega) only [go_sem, Nat.reduceEqDiff, ↓reduceIte, Int.reduceEq, Int.reduceNeg, wrap_add, F_l_toCellS, hR.len, hmk]
  have H0 := ((Hp.refl σ).new 8 (reps l.length (pCell.enc ⟨⟨#[]⟩, ⟨0, 0⟩, 0, ⟨0, 0⟩, 0, false⟩))).toRow 0 (p := pCell) rfl (List.replicate l.length ⟨⟨#[]⟩, ⟨0, 0⟩, 0, ⟨0, 0⟩, 0, false⟩) rfl (reps_enc _ _ _) l.length (by simp)
  refine vc_for l.length 4 (fun i env τ => env 0 = v ∧ env 3 = .sl σ.length 0 l.length ∧ Hp σ τ [ow pCell.kd (.sl σ.length 0 l.length) (l.take i ++ List.replicate (l.length - i) ⟨⟨#[]⟩, ⟨0, 0⟩, 0, ⟨0, 0⟩, 0, false⟩)]) rfl ⟨rfl, rfl, by rw [List.take_zero, List.nil_append, Nat.sub_zero]; exact H0⟩ ?_ ?_
  · rintro i env τ hi e4 c0 ⟨e0, e3, H⟩
    have h1 := hR.pre H.sub
    have h2 := H.sl 0 rfl
    have hj := fill_len (z := (⟨⟨#[]⟩, ⟨0, 0⟩, 0, ⟨0, 0⟩, 0, false⟩ : Cell)) hi
    simp +contextual (maxSteps := 600000) (disch := omega) only [go_sem, Nat.reduceEqDiff, ↓reduceIte, Int.reduceEq, Int.reduceNeg, wrap_add, e0, e3, e4, c0, hR.len, Cell_at h1 hi]
    refine by_ret (l_toCell_ret τ l[i]) ?_
    obtain ⟨τ', es, H'⟩ := H.stw 0 rfl hj 8 (.agg [.str l[i].obj, .int .i64 l[i].dot.rep, .int .i64 l[i].dot.seq, .int .i64 l[i].time, .int .i64 l[i].ref.rep, .int .i64 l[i].ref.seq, .int .i64 l[i].val, .bool l[i].gone]) l[i] rfl rfl (by decide)
    rw [fill_step hi] at H'
    have es : stG 8 τ (atz 8 (.sl σ.length 0 l.length) i) (.agg [.str l[i].obj, .int .i64 l[i].dot.rep, .int .i64 l[i].dot.seq, .int .i64 l[i].time, .int .i64 l[i].ref.rep, .int .i64 l[i].ref.seq, .int .i64 l[i].val, .bool l[i].gone]) = some (.tup [], τ') := es
    simp +contextual (maxSteps := 600000) (disch := omega) only [go_sem, Nat.reduceEqDiff, ↓reduceIte, Int.reduceEq, Int.reduceNeg, wrap_add, e0, e3, e4, c0, hR.len, Cell_at h1 hi, Cell_at h2 hj, es]
    exact H'
  · rintro env τ e4 c0 ⟨e0, e3, H⟩
    rw [fill_end] at H
    simp +contextual (maxSteps := 600000) (disch := omega) only [go_sem, Nat.reduceEqDiff, ↓reduceIte, Int.reduceEq, Int.reduceNeg, wrap_add, e0, e3, e4, c0, hR.len]
    exact ⟨_, rfl, H⟩
end Go.Proofs.Ytffnefmklckngaa.Sy

/- Contracts of the laws' own functions: HtoLive. -/
namespace Go.Proofs.Ytffnefmklckngaa.Sy
open Go Go.RowKit
set_option linter.unusedSimpArgs false
set_option linter.unusedVariables false
abbrev n_l_toLive : Nat := 64
def F_l_toLive : Fn1 := ⟨21, [.c 2 true 6], (.seq (.reg [o 1 (.box (.t 0)), o 2 (.new [(.bool false), (.str ⟨#[]⟩), (.str ⟨#[]⟩), (.int .i64 0), (.int .i64 0), (.int .i64 0)])]) (.seq (.reg [o 3 (.new [(.bool false), (.str ⟨#[]⟩), (.str ⟨#[]⟩), (.int .i64 0), (.int .i64 0), (.int .i64 0)])]) (.seq (.reg [o 4 (.fad 0 (.t 1)), o 5 (.ld false 1 (.t 4)), o 6 (.fad 0 (.t 3)), on (.st 1 (.t 6) (.t 5))]) (.seq (.reg [o 7 (.fad 1 (.t 1)), o 8 (.ld false 1 (.t 7)), o 9 (.fad 1 (.t 3)), on (.st 1 (.t 9) (.t 8))]) (.seq (.reg [o 10 (.fad 2 (.t 1)), o 11 (.ld false 1 (.t 10)), o 12 (.fad 2 (.t 3)), on (.st 1 (.t 12) (.t 11))]) (.seq (.reg [o 13 (.fad 3 (.t 1)), o 14 (.ld false 1 (.t 13)), o 15 (.fad 3 (.t 3)), on (.st 1 (.t 15) (.t 14))]) (.seq (.reg [o 16 (.fad 4 (.t 1)), o 17 (.ld true 2 (.t 16)), o 18 (.call 14 [(.t 17)]), o 19 (.fad 4 (.t 3)), on (.st 2 (.t 19) (.t 18))]) (.seq (.reg [o 20 (.ld true 6 (.t 3)), on (.st 6 (.t 2) (.t 20))]) .ret))))))))⟩
theorem ir_l_toLive : compFn Try.prog n_l_toLive = some F_l_toLive := by kernel_rfl
theorem l_toLive_ret (σ : St) (x : Live) : Ret Try.prog n_l_toLive [.agg [.bool x.map, .str x.obj, .str x.key, .int .i64 x.val, .int .i64 x.dot.rep, .int .i64 x.dot.seq]] σ (.agg [.bool x.map, .str x.obj, .str x.key, .int .i64 x.val, .int .i64 x.dot.rep, .int .i64 x.dot.seq]) σ := by
  refine ret_eq ir_l_toLive (Nat.le_of_ble_eq_true rfl) (by simp [vLt, cLt, sLt]) ?_
  simp +contextual (maxSteps := 600000) (disch := omega) only [go_sem, Nat.reduceEqDiff, ↓reduceIte, Int.reduceEq, Int.reduceNeg, wrap_add, F_l_toLive]
  refine by_ret (l_toDot_ret _ x.dot) ?_
  simp +contextual (maxSteps := 600000) (disch := omega) only [go_sem, Nat.reduceEqDiff, ↓reduceIte, Int.reduceEq, Int.reduceNeg, wrap_add, List.append_nil]
end Go.Proofs.Ytffnefmklckngaa.Sy

/- Contracts of the laws' own functions: HtoLiveS. -/
namespace Go.Proofs.Ytffnefmklckngaa.Sy
open Go Go.RowKit
set_option linter.unusedSimpArgs false
set_option linter.unusedVariables false
abbrev n_l_toLiveS : Nat := 34
def F_l_toLiveS : Fn1 := ⟨23, [.t 2], (.seq (.reg [o 2 (.mov (.k .nilS))]) (.seq (.reg [o 5 (.mov (.t 0)), o 6 (.len false (.t 5)), o 7 (.mks 6 64 [(.bool false), (.str ⟨#[]⟩), (.str ⟨#[]⟩), (.int .i64 0), (.int .i64 0), (.int .i64 0)] (.t 6) (.t 6)), o 3 (.mov (.t 7))]) (.seq (.seq (.reg [o 4 (.mov (.k (.int .i64 0)))]) (.blk 0 (.lop (.seq (.seq (.reg [o 8 (.mov (.t 4)), o 9 (.mov (.t 0)), o 10 (.len false (.t 9)), o 11 (.bin .lss (.t 8) (.t 10))]) (.cnd (.t 11) .skip (.ext 0))) (.seq (.blk 1 (.reg [o 14 (.mov (.t 3)), o 15 (.mov (.t 4)), o 16 (.mov (.t 0)), o 17 (.mov (.t 4)), o 18 (.iad 6 (.t 16) (.t 17)), o 19 (.ld true 6 (.t 18)), o 20 (.call 64 [(.t 19)]), o 21 (.iad 6 (.t 14) (.t 15)), on (.st 6 (.t 21) (.t 20))])) (.reg [o 12 (.mov (.t 4)), o 13 (.bin .add (.t 12) (.k (.int .i64 1))), o 4 (.mov (.t 13))])))))) (.seq (.reg [o 22 (.mov (.t 3)), o 2 (.mov (.t 22))]) .ret))))⟩
theorem ir_l_toLiveS : compFn Try.prog n_l_toLiveS = some F_l_toLiveS := by kernel_rfl
theorem l_toLiveS_ret (σ : St) (v : GV) (l : List Live) (hR : RS pLive.kd σ v l) (hl : l.length ≤ 1099511627776) : ∃ r τ, Ret Try.prog n_l_toLiveS [v] σ r τ ∧ Hp σ τ [ow pLive.kd r l] := by
  refine ret_hp (rs := fun r => [ow pLive.kd r l]) ir_l_toLiveS (Nat.le_of_ble_eq_true rfl) ?_
  have hmk : ∀ ze, mksG 6 64 ze σ (some l.length) (some l.length) = some (.sl σ.length 0 l.length, σ ++ [some (.row 6 (reps l.length ze))]) := fun ze => mks_ok (by omega)
  simp +contextual (maxSteps := 600000) (disch := omega) only [go_sem, Nat.reduceEqDiff, ↓reduceIte, Int.reduceEq, Int.reduceNeg, wrap_add, F_l_toLiveS, hR.len, hmk]
  have H0 := ((Hp.refl σ).new 6 (reps l.length (pLive.enc ⟨false, ⟨#[]⟩, ⟨#[]⟩, 0, ⟨0, 0⟩⟩))).toRow 0 (p := pLive) rfl (List.replicate l.length ⟨false, ⟨#[]⟩, ⟨#[]⟩, 0, ⟨0, 0⟩⟩) rfl (reps_enc _ _ _) l.length (by simp)
  refine vc_for l.length 4 (fun i env τ => env 0 = v ∧ env 3 = .sl σ.length 0 l.length ∧ Hp σ τ [ow pLive.kd (.sl σ.length 0 l.length) (l.take i ++ List.replicate (l.length - i) ⟨false, ⟨#[]⟩, ⟨#[]⟩, 0, ⟨0, 0⟩⟩)]) rfl ⟨rfl, rfl, by rw [List.take_zero, List.nil_append, Nat.sub_zero]; exact H0⟩ ?_ ?_
  · rintro i env τ hi e4 c0 ⟨e0, e3, H⟩
    have h1 := hR.pre H.sub
    have h2 := H.sl 0 rfl
    have hj := fill_len (z := (⟨false, ⟨#[]⟩, ⟨#[]⟩, 0, ⟨0, 0⟩⟩ : Live)) hi
    simp +contextual (maxSteps := 600000) (disch := omega) only [go_sem, Nat.reduceEqDiff, ↓reduceIte, Int.reduceEq, Int.reduceNeg, wrap_add, e0, e3, e4, c0, hR.len, Live_at h1 hi]
    refine by_ret (l_toLive_ret τ l[i]) ?_
    obtain ⟨τ', es, H'⟩ := H.stw 0 rfl hj 6 (.agg [.bool l[i].map, .str l[i].obj, .str l[i].key, .int .i64 l[i].val, .int .i64 l[i].dot.rep, .int .i64 l[i].dot.seq]) l[i] rfl rfl (by decide)
    rw [fill_step hi] at H'
    have es : stG 6 τ (atz 6 (.sl σ.length 0 l.length) i) (.agg [.bool l[i].map, .str l[i].obj, .str l[i].key, .int .i64 l[i].val, .int .i64 l[i].dot.rep, .int .i64 l[i].dot.seq]) = some (.tup [], τ') := es
    simp +contextual (maxSteps := 600000) (disch := omega) only [go_sem, Nat.reduceEqDiff, ↓reduceIte, Int.reduceEq, Int.reduceNeg, wrap_add, e0, e3, e4, c0, hR.len, Live_at h1 hi, Live_at h2 hj, es]
    exact H'
  · rintro env τ e4 c0 ⟨e0, e3, H⟩
    rw [fill_end] at H
    simp +contextual (maxSteps := 600000) (disch := omega) only [go_sem, Nat.reduceEqDiff, ↓reduceIte, Int.reduceEq, Int.reduceNeg, wrap_add, e0, e3, e4, c0, hR.len]
    exact ⟨_, rfl, H⟩
end Go.Proofs.Ytffnefmklckngaa.Sy

/- Contracts of the laws' own functions: HtoTally. -/
namespace Go.Proofs.Ytffnefmklckngaa.Sy
open Go Go.RowKit
set_option linter.unusedSimpArgs false
set_option linter.unusedVariables false
abbrev n_l_toTally : Nat := 63
def F_l_toTally : Fn1 := ⟨14, [.c 2 true 3], (.seq (.reg [o 1 (.box (.t 0)), o 2 (.new [(.str ⟨#[]⟩), (.int .i64 0), (.int .i64 0)])]) (.seq (.reg [o 3 (.new [(.str ⟨#[]⟩), (.int .i64 0), (.int .i64 0)])]) (.seq (.reg [o 4 (.fad 0 (.t 1)), o 5 (.ld false 1 (.t 4)), o 6 (.fad 0 (.t 3)), on (.st 1 (.t 6) (.t 5))]) (.seq (.reg [o 7 (.fad 1 (.t 1)), o 8 (.ld false 1 (.t 7)), o 9 (.fad 1 (.t 3)), on (.st 1 (.t 9) (.t 8))]) (.seq (.reg [o 10 (.fad 2 (.t 1)), o 11 (.ld false 1 (.t 10)), o 12 (.fad 2 (.t 3)), on (.st 1 (.t 12) (.t 11))]) (.seq (.reg [o 13 (.ld true 3 (.t 3)), on (.st 3 (.t 2) (.t 13))]) .ret))))))⟩
theorem ir_l_toTally : compFn Try.prog n_l_toTally = some F_l_toTally := by kernel_rfl
theorem l_toTally_ret (σ : St) (x : Tally) : Ret Try.prog n_l_toTally [.agg [.str x.obj, .int .i64 x.rep, .int .i64 x.sum]] σ (.agg [.str x.obj, .int .i64 x.rep, .int .i64 x.sum]) σ := by
  refine ret_eq ir_l_toTally (Nat.le_of_ble_eq_true rfl) (by simp [vLt, cLt, sLt]) ?_
  simp +contextual (maxSteps := 600000) (disch := omega) only [go_sem, Nat.reduceEqDiff, ↓reduceIte, Int.reduceEq, Int.reduceNeg, wrap_add, F_l_toTally]
end Go.Proofs.Ytffnefmklckngaa.Sy

/- Contracts of the laws' own functions: HtoTallyS. -/
namespace Go.Proofs.Ytffnefmklckngaa.Sy
open Go Go.RowKit
set_option linter.unusedSimpArgs false
set_option linter.unusedVariables false
abbrev n_l_toTallyS : Nat := 33
def F_l_toTallyS : Fn1 := ⟨23, [.t 2], (.seq (.reg [o 2 (.mov (.k .nilS))]) (.seq (.reg [o 5 (.mov (.t 0)), o 6 (.len false (.t 5)), o 7 (.mks 3 32 [(.str ⟨#[]⟩), (.int .i64 0), (.int .i64 0)] (.t 6) (.t 6)), o 3 (.mov (.t 7))]) (.seq (.seq (.reg [o 4 (.mov (.k (.int .i64 0)))]) (.blk 0 (.lop (.seq (.seq (.reg [o 8 (.mov (.t 4)), o 9 (.mov (.t 0)), o 10 (.len false (.t 9)), o 11 (.bin .lss (.t 8) (.t 10))]) (.cnd (.t 11) .skip (.ext 0))) (.seq (.blk 1 (.reg [o 14 (.mov (.t 3)), o 15 (.mov (.t 4)), o 16 (.mov (.t 0)), o 17 (.mov (.t 4)), o 18 (.iad 3 (.t 16) (.t 17)), o 19 (.ld true 3 (.t 18)), o 20 (.call 63 [(.t 19)]), o 21 (.iad 3 (.t 14) (.t 15)), on (.st 3 (.t 21) (.t 20))])) (.reg [o 12 (.mov (.t 4)), o 13 (.bin .add (.t 12) (.k (.int .i64 1))), o 4 (.mov (.t 13))])))))) (.seq (.reg [o 22 (.mov (.t 3)), o 2 (.mov (.t 22))]) .ret))))⟩
theorem ir_l_toTallyS : compFn Try.prog n_l_toTallyS = some F_l_toTallyS := by kernel_rfl
theorem l_toTallyS_ret (σ : St) (v : GV) (l : List Tally) (hR : RS pTally.kd σ v l) (hl : l.length ≤ 1099511627776) : ∃ r τ, Ret Try.prog n_l_toTallyS [v] σ r τ ∧ Hp σ τ [ow pTally.kd r l] := by
  refine ret_hp (rs := fun r => [ow pTally.kd r l]) ir_l_toTallyS (Nat.le_of_ble_eq_true rfl) ?_
  have hmk : ∀ ze, mksG 3 32 ze σ (some l.length) (some l.length) = some (.sl σ.length 0 l.length, σ ++ [some (.row 3 (reps l.length ze))]) := fun ze => mks_ok (by omega)
  simp +contextual (maxSteps := 600000) (disch := omega) only [go_sem, Nat.reduceEqDiff, ↓reduceIte, Int.reduceEq, Int.reduceNeg, wrap_add, F_l_toTallyS, hR.len, hmk]
  have H0 := ((Hp.refl σ).new 3 (reps l.length (pTally.enc ⟨⟨#[]⟩, 0, 0⟩))).toRow 0 (p := pTally) rfl (List.replicate l.length ⟨⟨#[]⟩, 0, 0⟩) rfl (reps_enc _ _ _) l.length (by simp)
  refine vc_for l.length 4 (fun i env τ => env 0 = v ∧ env 3 = .sl σ.length 0 l.length ∧ Hp σ τ [ow pTally.kd (.sl σ.length 0 l.length) (l.take i ++ List.replicate (l.length - i) ⟨⟨#[]⟩, 0, 0⟩)]) rfl ⟨rfl, rfl, by rw [List.take_zero, List.nil_append, Nat.sub_zero]; exact H0⟩ ?_ ?_
  · rintro i env τ hi e4 c0 ⟨e0, e3, H⟩
    have h1 := hR.pre H.sub
    have h2 := H.sl 0 rfl
    have hj := fill_len (z := (⟨⟨#[]⟩, 0, 0⟩ : Tally)) hi
    simp +contextual (maxSteps := 600000) (disch := omega) only [go_sem, Nat.reduceEqDiff, ↓reduceIte, Int.reduceEq, Int.reduceNeg, wrap_add, e0, e3, e4, c0, hR.len, Tally_at h1 hi]
    refine by_ret (l_toTally_ret τ l[i]) ?_
    obtain ⟨τ', es, H'⟩ := H.stw 0 rfl hj 3 (.agg [.str l[i].obj, .int .i64 l[i].rep, .int .i64 l[i].sum]) l[i] rfl rfl (by decide)
    rw [fill_step hi] at H'
    have es : stG 3 τ (atz 3 (.sl σ.length 0 l.length) i) (.agg [.str l[i].obj, .int .i64 l[i].rep, .int .i64 l[i].sum]) = some (.tup [], τ') := es
    simp +contextual (maxSteps := 600000) (disch := omega) only [go_sem, Nat.reduceEqDiff, ↓reduceIte, Int.reduceEq, Int.reduceNeg, wrap_add, e0, e3, e4, c0, hR.len, Tally_at h1 hi, Tally_at h2 hj, es]
    exact H'
  · rintro env τ e4 c0 ⟨e0, e3, H⟩
    rw [fill_end] at H
    simp +contextual (maxSteps := 600000) (disch := omega) only [go_sem, Nat.reduceEqDiff, ↓reduceIte, Int.reduceEq, Int.reduceNeg, wrap_add, e0, e3, e4, c0, hR.len]
    exact ⟨_, rfl, H⟩
end Go.Proofs.Ytffnefmklckngaa.Sy

/- Contracts of the laws' own functions: HtoState. -/
namespace Go.Proofs.Ytffnefmklckngaa.Sy
open Go Go.RowKit
set_option linter.unusedSimpArgs false
set_option linter.unusedVariables false
abbrev n_l_toState : Nat := 10
def F_l_toState : Fn1 := ⟨21, [.c 2 true 4], (.seq (.reg [o 1 (.box (.t 0)), o 2 (.new [.nilS, .nilS, .nilS, .nilS])]) (.seq (.reg [o 3 (.new [.nilS, .nilS, .nilS, .nilS])]) (.seq (.reg [o 4 (.fad 0 (.t 1)), o 5 (.ld false 1 (.t 4)), o 6 (.call 15 [(.t 5)]), o 7 (.fad 0 (.t 3)), on (.st 1 (.t 7) (.t 6))]) (.seq (.reg [o 8 (.fad 1 (.t 1)), o 9 (.ld false 1 (.t 8)), o 10 (.call 33 [(.t 9)]), o 11 (.fad 1 (.t 3)), on (.st 1 (.t 11) (.t 10))]) (.seq (.reg [o 12 (.fad 2 (.t 1)), o 13 (.ld false 1 (.t 12)), o 14 (.call 34 [(.t 13)]), o 15 (.fad 2 (.t 3)), on (.st 1 (.t 15) (.t 14))]) (.seq (.reg [o 16 (.fad 3 (.t 1)), o 17 (.ld false 1 (.t 16)), o 18 (.call 35 [(.t 17)]), o 19 (.fad 3 (.t 3)), on (.st 1 (.t 19) (.t 18))]) (.seq (.reg [o 20 (.ld true 4 (.t 3)), on (.st 4 (.t 2) (.t 20))]) .ret)))))))⟩
theorem ir_l_toState : compFn Try.prog n_l_toState = some F_l_toState := by kernel_rfl
theorem l_toState_ret (σ : St) (cs : List GV) (x : State) (hR : kState.R σ x cs) (hl : msState x ≤ 1099511627776) : ∃ r τ, Ret Try.prog n_l_toState [.agg cs] σ r τ ∧ σ <+: τ ∧ ∃ ds, r = .agg ds ∧ Hp σ τ [own kState ds x] := by
  have hlen := kState.len hR
  have hlen : cs.length = 4 := hlen
  obtain ⟨v0, v1, v2, v3, rfl, q0, q1, q2, q3⟩ := hR
  unfold msState at hl
  refine ret_new ir_l_toState (Nat.le_of_ble_eq_true rfl) ?_
  simp +contextual (maxSteps := 600000) (disch := omega) only [go_sem, Nat.reduceEqDiff, ↓reduceIte, Int.reduceEq, Int.reduceNeg, wrap_add, F_l_toState, List.append_nil]
  have H := (((Hp.refl σ).new 1 (v0 :: v1 :: v2 :: v3 :: [])).new 1 [GV.nilS, GV.nilS, GV.nilS, GV.nilS]).new 1 [GV.nilS, GV.nilS, GV.nilS, GV.nilS]
  obtain ⟨r0, τ0, R0, K0⟩ := l_toIntS_ret _ v0 x.know (q0.pre H.sub) (by omega)
  refine by_hp R0 K0 ?_
  have e0 := (K0.sl 0 rfl).cell
  have H := H.add K0
  try simp only [go_sem] at H
  try simp +contextual (maxSteps := 600000) (disch := omega) only [go_sem, Nat.reduceEqDiff, ↓reduceIte, Int.reduceEq, Int.reduceNeg, wrap_add, List.append_nil, ld_ptr (H.pt 3 rfl), ld_ptr (H.pt 1 rfl)]
  obtain ⟨_, es, H, _⟩ := H.st 1 rfl 1 0 (r0) (by rw [e0]; rfl) (by decide) (Nat.le_of_ble_eq_true rfl)
  try simp only [go_sem, List.set_cons_zero, List.set_cons_succ, e0] at H
  try simp +contextual (maxSteps := 600000) (disch := omega) only [go_sem, Nat.reduceEqDiff, ↓reduceIte, Int.reduceEq, Int.reduceNeg, wrap_add, List.append_nil, es, ld_ptr (H.pt 3 rfl), ld_ptr (H.pt 1 rfl)]
  obtain ⟨r1, τ1, R1, K1⟩ := l_toTallyS_ret _ v1 x.tallies (q1.pre H.sub) (by omega)
  refine by_hp R1 K1 ?_
  have e1 := (K1.sl 0 rfl).cell
  have H := H.add K1
  try simp only [go_sem] at H
  try simp +contextual (maxSteps := 600000) (disch := omega) only [go_sem, Nat.reduceEqDiff, ↓reduceIte, Int.reduceEq, Int.reduceNeg, wrap_add, List.append_nil, ld_ptr (H.pt 4 rfl), ld_ptr (H.pt 2 rfl)]
  obtain ⟨_, es, H, _⟩ := H.st 2 rfl 1 1 (r1) (by rw [e1]; rfl) (by decide) (Nat.le_of_ble_eq_true rfl)
  try simp only [go_sem, List.set_cons_zero, List.set_cons_succ, e1] at H
  try simp +contextual (maxSteps := 600000) (disch := omega) only [go_sem, Nat.reduceEqDiff, ↓reduceIte, Int.reduceEq, Int.reduceNeg, wrap_add, List.append_nil, es, ld_ptr (H.pt 4 rfl), ld_ptr (H.pt 2 rfl)]
  obtain ⟨r2, τ2, R2, K2⟩ := l_toLiveS_ret _ v2 x.lives (q2.pre H.sub) (by omega)
  refine by_hp R2 K2 ?_
  have e2 := (K2.sl 0 rfl).cell
  have H := H.add K2
  try simp only [go_sem] at H
  try simp +contextual (maxSteps := 600000) (disch := omega) only [go_sem, Nat.reduceEqDiff, ↓reduceIte, Int.reduceEq, Int.reduceNeg, wrap_add, List.append_nil, ld_ptr (H.pt 5 rfl), ld_ptr (H.pt 3 rfl)]
  obtain ⟨_, es, H, _⟩ := H.st 3 rfl 1 2 (r2) (by rw [e2]; rfl) (by decide) (Nat.le_of_ble_eq_true rfl)
  try simp only [go_sem, List.set_cons_zero, List.set_cons_succ, e2] at H
  try simp +contextual (maxSteps := 600000) (disch := omega) only [go_sem, Nat.reduceEqDiff, ↓reduceIte, Int.reduceEq, Int.reduceNeg, wrap_add, List.append_nil, es, ld_ptr (H.pt 5 rfl), ld_ptr (H.pt 3 rfl)]
  obtain ⟨r3, τ3, R3, K3⟩ := l_toCellS_ret _ v3 x.cells (q3.pre H.sub) (by omega)
  refine by_hp R3 K3 ?_
  have e3 := (K3.sl 0 rfl).cell
  have H := H.add K3
  try simp only [go_sem] at H
  try simp +contextual (maxSteps := 600000) (disch := omega) only [go_sem, Nat.reduceEqDiff, ↓reduceIte, Int.reduceEq, Int.reduceNeg, wrap_add, List.append_nil, ld_ptr (H.pt 6 rfl), ld_ptr (H.pt 4 rfl)]
  obtain ⟨_, es, H, _⟩ := H.st 4 rfl 1 3 (r3) (by rw [e3]; rfl) (by decide) (Nat.le_of_ble_eq_true rfl)
  try simp only [go_sem, List.set_cons_zero, List.set_cons_succ, e3] at H
  try simp +contextual (maxSteps := 600000) (disch := omega) only [go_sem, Nat.reduceEqDiff, ↓reduceIte, Int.reduceEq, Int.reduceNeg, wrap_add, List.append_nil, es, ld_ptr (H.pt 6 rfl), ld_ptr (H.pt 4 rfl)]
  obtain ⟨_, es, H, _⟩ := H.st 5 rfl 4 0 (.agg (r0 :: r1 :: r2 :: r3 :: [])) (rfl) (by decide) (Nat.le_of_ble_eq_true rfl)
  try simp only [go_sem, List.set_cons_zero, List.set_cons_succ] at H
  try simp +contextual (maxSteps := 600000) (disch := omega) only [go_sem, Nat.reduceEqDiff, ↓reduceIte, Int.reduceEq, Int.reduceNeg, wrap_add, List.append_nil, es, ld_ptr (H.pt 5 rfl)]
  have h0 := H.sub
  have H := (((H.pick 1 rfl).pick 2 rfl).pick 3 rfl)
  try simp only [List.eraseIdx_cons_succ, List.eraseIdx_cons_zero] at H
  exact ⟨_, rfl, h0, _, rfl, H.ownState.one⟩
end Go.Proofs.Ytffnefmklckngaa.Sy

/- From what an argument can hold to sizes. -/
namespace Go.Proofs.Ytffnefmklckngaa.Sy
open Go Go.RowKit
theorem zStrS_w {x : List ByteArray} (h : ((x).length ≤ 9223372036854775807 ∧ ∀ y4 ∈ x, (y4).size ≤ 9223372036854775807)) : x.length ≤ 9223372036854775807 ∧ ∀ y ∈ x, wString y := ⟨h.1, fun y hy => h.2 y hy⟩
theorem zIntSS_w {x : List (List Int)} (h : ((x).length ≤ 9223372036854775807 ∧ ∀ y5 ∈ x, ((y5).length ≤ 9223372036854775807 ∧ ∀ y4 ∈ y5, I64 (y4)))) : x.length ≤ 9223372036854775807 ∧ ∀ y ∈ x, wIntS y := ⟨h.1, fun y hy => (h.2 y hy).1⟩
theorem zTally_w {x : Tally} (h : zTally x) : wTally x := h.1
theorem zTallyS_w {x : List Tally} (h : ((x).length ≤ 9223372036854775807 ∧ ∀ y6 ∈ x, zTally (y6))) : x.length ≤ 9223372036854775807 ∧ ∀ y ∈ x, wTally y := ⟨h.1, fun y hy => zTally_w (h.2 y hy)⟩
theorem zLive_w {x : Live} (h : zLive x) : wLive x := ⟨h.2.1, h.2.2.1⟩
theorem zLiveS_w {x : List Live} (h : ((x).length ≤ 9223372036854775807 ∧ ∀ y5 ∈ x, zLive (y5))) : x.length ≤ 9223372036854775807 ∧ ∀ y ∈ x, wLive y := ⟨h.1, fun y hy => zLive_w (h.2 y hy)⟩
theorem zCell_w {x : Cell} (h : zCell x) : wCell x := h.1
theorem zCellS_w {x : List Cell} (h : ((x).length ≤ 9223372036854775807 ∧ ∀ y5 ∈ x, zCell (y5))) : x.length ≤ 9223372036854775807 ∧ ∀ y ∈ x, wCell y := ⟨h.1, fun y hy => zCell_w (h.2 y hy)⟩
theorem zEdit_w {x : Edit} (h : zEdit x) : wEdit x := ⟨h.2.1, h.2.2.1⟩
theorem zEditS_w {x : List Edit} (h : ((x).length ≤ 9223372036854775807 ∧ ∀ y5 ∈ x, zEdit (y5))) : x.length ≤ 9223372036854775807 ∧ ∀ y ∈ x, wEdit y := ⟨h.1, fun y hy => zEdit_w (h.2 y hy)⟩
theorem zWatch_w {x : Watch} (h : zWatch x) : wWatch x := ⟨h.2.1, h.2.2⟩
theorem zWatchS_w {x : List Watch} (h : ((x).length ≤ 9223372036854775807 ∧ ∀ y6 ∈ x, zWatch (y6))) : x.length ≤ 9223372036854775807 ∧ ∀ y ∈ x, wWatch y := ⟨h.1, fun y hy => zWatch_w (h.2 y hy)⟩
theorem zClash_w {x : Clash} (h : zClash x) : wClash x := ⟨h.1, h.2⟩
theorem zClashS_w {x : List Clash} (h : ((x).length ≤ 9223372036854775807 ∧ ∀ y6 ∈ x, zClash (y6))) : x.length ≤ 9223372036854775807 ∧ ∀ y ∈ x, wClash y := ⟨h.1, fun y hy => zClash_w (h.2 y hy)⟩
theorem zFile_w {x : File} (h : zFile x) : wFile x := h.1
theorem zFileS_w {x : List File} (h : ((x).length ≤ 9223372036854775807 ∧ ∀ y5 ∈ x, zFile (y5))) : x.length ≤ 9223372036854775807 ∧ ∀ y ∈ x, wFile y := ⟨h.1, fun y hy => zFile_w (h.2 y hy)⟩
theorem zLetter_w {x : Letter} (h : zLetter x) : wLetter x := h.2
theorem zLetterS_w {x : List Letter} (h : ((x).length ≤ 9223372036854775807 ∧ ∀ y7 ∈ x, zLetter (y7))) : x.length ≤ 9223372036854775807 ∧ ∀ y ∈ x, wLetter y := ⟨h.1, fun y hy => zLetter_w (h.2 y hy)⟩
theorem zEvent_w {x : Event} (h : zEvent x) : wEvent x := zEdit_w h.2.2.2
theorem zEventS_w {x : List Event} (h : ((x).length ≤ 9223372036854775807 ∧ ∀ y6 ∈ x, zEvent (y6))) : x.length ≤ 9223372036854775807 ∧ ∀ y ∈ x, wEvent y := ⟨h.1, fun y hy => zEvent_w (h.2 y hy)⟩
theorem zAct_w {x : Act} (h : zAct x) : wAct x := ⟨h.2.2.1.1, h.2.2.2.2.1, h.2.2.2.2.2.1⟩
theorem zActS_w {x : List Act} (h : ((x).length ≤ 9223372036854775807 ∧ ∀ y4 ∈ x, zAct (y4))) : x.length ≤ 9223372036854775807 ∧ ∀ y ∈ x, wAct y := ⟨h.1, fun y hy => zAct_w (h.2 y hy)⟩
theorem zState_w {x : State} (h : zState x) : wState x := ⟨h.1.1, zTallyS_w h.2.1, zLiveS_w h.2.2.1, zCellS_w h.2.2.2⟩
theorem zStateS_w {x : List State} (h : ((x).length ≤ 9223372036854775807 ∧ ∀ y6 ∈ x, zState (y6))) : x.length ≤ 9223372036854775807 ∧ ∀ y ∈ x, wState y := ⟨h.1, fun y hy => zState_w (h.2 y hy)⟩
theorem zDelta_w {x : Delta} (h : zDelta x) : wDelta x := ⟨h.1.1, h.2.1.1, zTallyS_w h.2.2.1, zLiveS_w h.2.2.2.1, h.2.2.2.2.1.1, zCellS_w h.2.2.2.2.2⟩
theorem zDeltaS_w {x : List Delta} (h : ((x).length ≤ 9223372036854775807 ∧ ∀ y6 ∈ x, zDelta (y6))) : x.length ≤ 9223372036854775807 ∧ ∀ y ∈ x, wDelta y := ⟨h.1, fun y hy => zDelta_w (h.2 y hy)⟩
theorem zUnit__w {x : Unit_} (h : zUnit_ x) : wUnit x := ⟨zAct_w h.2.1, zDelta_w h.2.2⟩
theorem zUnitS_w {x : List Unit_} (h : ((x).length ≤ 9223372036854775807 ∧ ∀ y6 ∈ x, zUnit_ (y6))) : x.length ≤ 9223372036854775807 ∧ ∀ y ∈ x, wUnit y := ⟨h.1, fun y hy => zUnit__w (h.2 y hy)⟩
theorem zLog_w {x : Log} (h : zLog x) : wLog x := ⟨zState_w h.2.2.1, zUnitS_w h.2.2.2.1, zUnitS_w h.2.2.2.2⟩
theorem zLogS_w {x : List Log} (h : ((x).length ≤ 9223372036854775807 ∧ ∀ y4 ∈ x, zLog (y4))) : x.length ≤ 9223372036854775807 ∧ ∀ y ∈ x, wLog y := ⟨h.1, fun y hy => zLog_w (h.2 y hy)⟩
theorem zCommit_w {x : Commit} (h : zCommit x) : wCommit x := ⟨h.2.1.1, zState_w h.2.2⟩
theorem zCommitS_w {x : List Commit} (h : ((x).length ≤ 9223372036854775807 ∧ ∀ y7 ∈ x, zCommit (y7))) : x.length ≤ 9223372036854775807 ∧ ∀ y ∈ x, wCommit y := ⟨h.1, fun y hy => zCommit_w (h.2 y hy)⟩
theorem zGraph_w {x : Graph} (h : zGraph x) : wGraph x := zCommitS_w h.1
theorem zGraphS_w {x : List Graph} (h : ((x).length ≤ 9223372036854775807 ∧ ∀ y6 ∈ x, zGraph (y6))) : x.length ≤ 9223372036854775807 ∧ ∀ y ∈ x, wGraph y := ⟨h.1, fun y hy => zGraph_w (h.2 y hy)⟩
theorem zReplica_w {x : Replica} (h : zReplica x) : wReplica x := ⟨zLog_w h.2.1, zGraph_w h.2.2.1, zFile_w h.2.2.2.1, zUnitS_w h.2.2.2.2⟩
theorem zReplicaS_w {x : List Replica} (h : ((x).length ≤ 9223372036854775807 ∧ ∀ y8 ∈ x, zReplica (y8))) : x.length ≤ 9223372036854775807 ∧ ∀ y ∈ x, wReplica y := ⟨h.1, fun y hy => zReplica_w (h.2 y hy)⟩
theorem zWorld__w {x : World_} (h : zWorld_ x) : wWorld x := ⟨zReplicaS_w h.1, zLetterS_w h.2.1, h.2.2.1.1, zIntSS_w h.2.2.2⟩
theorem zWorldS_w {x : List World_} (h : ((x).length ≤ 9223372036854775807 ∧ ∀ y7 ∈ x, zWorld_ (y7))) : x.length ≤ 9223372036854775807 ∧ ∀ y ∈ x, wWorld y := ⟨h.1, fun y hy => zWorld__w (h.2 y hy)⟩
theorem zScript_w {x : Script} (h : zScript x) : wScript x := ⟨h.1.1, zEventS_w h.2.1⟩
theorem zScriptS_w {x : List Script} (h : ((x).length ≤ 9223372036854775807 ∧ ∀ y7 ∈ x, zScript (y7))) : x.length ≤ 9223372036854775807 ∧ ∀ y ∈ x, wScript y := ⟨h.1, fun y hy => zScript_w (h.2 y hy)⟩
end Go.Proofs.Ytffnefmklckngaa.Sy

/- The law of Cleared. -/
namespace Go.Proofs.Ytffnefmklckngaa.Sy
open Go Go.RowKit
set_option linter.unusedSimpArgs false
set_option linter.unusedVariables false
set_option maxRecDepth 4000
abbrev n_l_FnExactCleared : Nat := 6
def F_l_FnExactCleared : Fn1 := ⟨117, [.t 4], (.seq (.reg [o 2 (.box (.t 0)), o 4 (.mov (.k (.bool false)))]) (.seq (.seq (.reg [o 17 (.mov (.t 1)), o 18 (.len false (.t 17)), o 19 (.bin .gtr (.t 18) (.k (.int .i64 1048576)))]) (.cnd (.t 19) (.seq (.reg [o 4 (.mov (.k (.bool true)))]) .ret) .skip)) (.seq (.reg [o 5 (.mov (.k (.int .i64 1048576)))]) (.seq (.reg [o 20 (.ld true 4 (.t 2)), o 21 (.mov (.t 5)), o 22 (.call 8 [(.t 20), (.t 21)]), o 5 (.mov (.t 22))]) (.seq (.seq (.reg [o 23 (.mov (.t 5)), o 24 (.bin .lss (.t 23) (.k (.int .i64 0)))]) (.cnd (.t 24) (.seq (.reg [o 4 (.mov (.k (.bool true)))]) .ret) .skip)) (.seq (.reg [o 26 (.ld true 4 (.t 2)), o 27 (.call 10 [(.t 26)]), o 28 (.mov (.t 1)), o 29 (.call 15 [(.t 28)]), o 30 (.call 23 [(.t 27), (.t 29)]), o 25 (.mov (.t 30)), o 31 (.ext 0 (.t 25)), o 32 (.ext 1 (.t 25)), o 6 (.new [.nilS, .nilS, .nilS, .nilS]), on (.st 4 (.t 6) (.t 31)), o 7 (.mov (.t 32))]) (.seq (.reg [o 33 (.ld true 4 (.t 2)), o 34 (.call 10 [(.t 33)]), o 8 (.new [.nilS, .nilS, .nilS, .nilS]), on (.st 4 (.t 8) (.t 34))]) (.seq (.reg [o 35 (.mov (.t 1)), o 36 (.call 15 [(.t 35)]), o 9 (.mov (.t 36))]) (.seq (.reg [o 38 (.ld true 4 (.t 8)), o 39 (.mov (.t 9)), o 40 (.call 24 [(.t 38), (.t 39)]), o 37 (.mov (.t 40)), o 41 (.ext 0 (.t 37)), o 42 (.ext 1 (.t 37)), o 10 (.new [.nilS, .nilS, .nilS, .nilS]), on (.st 4 (.t 10) (.t 41)), o 11 (.mov (.t 42))]) (.seq (.seq (.reg [o 43 (.ld true 4 (.t 10)), o 44 (.ld true 4 (.t 6)), o 45 (.call 12 [(.t 43), (.t 44)]), o 46 (.un .not (.t 45)), o 47 (.mov (.t 46)), og 48 47 false (.mov (.t 11)), og 49 47 false (.mov (.t 7)), og 50 47 false (.bin .neq (.t 48) (.t 49)), o 51 (.pick (.t 47) (.k (.bool true)) (.t 50))]) (.cnd (.t 51) (.seq (.reg [o 4 (.mov (.k (.bool false)))]) .ret) .skip)) (.seq (.seq (.drw [o 52 (.ld true 4 (.t 8)), o 53 (.ld true 4 (.t 2)), o 54 (.call 10 [(.t 53)])] [o 55 (.call 12 [(.t 52), (.t 54)]), o 56 (.un .not (.t 55))]) (.cnd (.t 56) (.seq (.reg [o 4 (.mov (.k (.bool false)))]) .ret) .skip)) (.seq (.seq (.reg [o 57 (.mov (.t 9)), o 58 (.mov (.t 1)), o 59 (.call 15 [(.t 58)]), o 60 (.call 17 [(.t 57), (.t 59)]), o 61 (.un .not (.t 60))]) (.cnd (.t 61) (.seq (.reg [o 4 (.mov (.k (.bool false)))]) .ret) .skip)) (.seq (.reg [o 12 (.mov (.k (.int .i64 1)))]) (.seq (.reg [o 62 (.ld true 4 (.t 8)), o 63 (.mov (.t 12)), o 64 (.call 20 [(.t 62), (.t 63)]), o 12 (.mov (.t 64))]) (.seq (.reg [o 65 (.mov (.t 9)), o 66 (.mov (.t 12)), o 67 (.call 21 [(.t 65), (.t 66)]), o 12 (.mov (.t 67))]) (.seq (.seq (.reg [o 68 (.mov (.t 12)), o 69 (.bin .lss (.t 68) (.k (.int .i64 0))), o 70 (.mov (.t 69)), og 71 70 false (.ld true 4 (.t 10)), og 72 70 false (.ld true 4 (.t 6)), og 73 70 false (.call 12 [(.t 71), (.t 72)]), og 74 70 false (.un .not (.t 73)), o 75 (.pick (.t 70) (.k (.bool true)) (.t 74)), o 76 (.mov (.t 75)), og 77 76 false (.mov (.t 11)), og 78 76 false (.mov (.t 7)), og 79 76 false (.bin .neq (.t 77) (.t 78)), o 80 (.pick (.t 76) (.k (.bool true)) (.t 79))]) (.cnd (.t 80) (.seq (.reg [o 4 (.mov (.k (.bool false)))]) .ret) .skip)) (.seq (.reg [o 13 (.mov (.k (.int .i64 1)))]) (.seq (.reg [o 81 (.ld true 4 (.t 10)), o 82 (.mov (.t 13)), o 83 (.call 20 [(.t 81), (.t 82)]), o 13 (.mov (.t 83))]) (.seq (.reg [o 14 (.mov (.k (.int .i64 1)))]) (.seq (.reg [o 84 (.ld true 4 (.t 10)), o 85 (.mov (.t 14)), o 86 (.call 22 [(.t 84), (.t 85)]), o 14 (.mov (.t 86))]) (.seq (.seq (.reg [o 87 (.mov (.t 14)), o 88 (.bin .lss (.t 87) (.k (.int .i64 0)))]) (.cnd (.t 88) (.seq (.reg [o 4 (.mov (.k (.bool false)))]) .ret) .skip)) (.seq (.seq (.reg [o 89 (.mov (.t 14)), o 90 (.mov (.t 13)), o 91 (.bin .neq (.t 89) (.t 90))]) (.cnd (.t 91) (.seq (.reg [o 4 (.mov (.k (.bool false)))]) .ret) .skip)) (.seq (.reg [o 93 (.ld true 4 (.t 2)), o 94 (.call 10 [(.t 93)]), o 95 (.mov (.t 1)), o 96 (.call 15 [(.t 95)]), o 97 (.call 24 [(.t 94), (.t 96)]), o 92 (.mov (.t 97)), o 98 (.ext 0 (.t 92)), o 99 (.ext 1 (.t 92)), o 15 (.new [.nilS, .nilS, .nilS, .nilS]), on (.st 4 (.t 15) (.t 98)), o 16 (.mov (.t 99))]) (.seq (.seq (.reg [o 100 (.ld true 4 (.t 15)), o 101 (.ld true 4 (.t 6)), o 102 (.call 12 [(.t 100), (.t 101)]), o 103 (.un .not (.t 102)), o 104 (.mov (.t 103)), og 105 104 false (.mov (.t 16)), og 106 104 false (.mov (.t 7)), og 107 104 false (.bin .neq (.t 105) (.t 106)), o 108 (.pick (.t 104) (.k (.bool true)) (.t 107))]) (.cnd (.t 108) (.seq (.reg [o 4 (.mov (.k (.bool false)))]) .ret) .skip)) (.seq (.reg [o 14 (.mov (.k (.int .i64 1)))]) (.seq (.reg [o 109 (.ld true 4 (.t 10)), o 110 (.mov (.t 14)), o 111 (.call 22 [(.t 109), (.t 110)]), o 14 (.mov (.t 111))]) (.seq (.seq (.reg [o 112 (.mov (.t 14)), o 113 (.bin .lss (.t 112) (.k (.int .i64 0)))]) (.cnd (.t 113) (.seq (.reg [o 4 (.mov (.k (.bool false)))]) .ret) .skip)) (.seq (.seq (.reg [o 114 (.mov (.t 14)), o 115 (.mov (.t 13)), o 116 (.bin .neq (.t 114) (.t 115))]) (.cnd (.t 116) (.seq (.reg [o 4 (.mov (.k (.bool false)))]) .ret) .skip)) (.seq (.reg [o 4 (.mov (.k (.bool true)))]) .ret)))))))))))))))))))))))))))))⟩
theorem ir_l_FnExactCleared : compFn Try.prog n_l_FnExactCleared = some F_l_FnExactCleared := by kernel_rfl
theorem law_Cleared (σ : St) (cs0 : List GV) (x0 : State) (hR0 : eState.R σ x0 cs0) (hw0 : zState x0) (v1 : GV) (x1 : List Int) (hR1 : Sl (Ek.int .i64) σ v1 x1) (hw1 : ((x1).length ≤ 9223372036854775807 ∧ ∀ y4 ∈ x1, I64 (y4))) : ∃ r τ, Ret Try.prog n_l_FnExactCleared [.agg cs0, v1] σ r τ ∧ r = .bool true := by
  have hR0 := brState hR0
  have hl0 := kState.len hR0
  have hw0 := zState_w hw0
  have hR1 : RS pI.kd σ v1 x1 := hR1.rs rfl (fun h => h)
  refine ret_law ir_l_FnExactCleared (Nat.le_of_ble_eq_true rfl) ?_
  have hB : σ <+: σ ++ [some (Blk.row 1 (cs0))] := pre1 _ _
  have hb0 : rdB (σ ++ [some (Blk.row 1 (cs0))]) (σ).length = some (cs0) := box_rd (List.prefix_refl _)
  have hs0 : (seg cs0 0 4).bind (mkv true) = some (.agg cs0) := seg_full hl0
  simp +contextual (maxSteps := 600000) (disch := omega) only [go_sem, Nat.reduceEqDiff, ↓reduceIte, Int.reduceEq, Int.reduceNeg, wrap_add, F_l_FnExactCleared, ld_ptr (rdB_pre (List.prefix_refl _) hb0), hs0, hR1.len, List.append_nil]
  refine ⟨fun _ => hB.length_le, fun hn => ?_⟩
  have hz1 := of_decide_eq_false hn
  try simp only [Int.not_lt] at hz1
  try simp +contextual (maxSteps := 600000) (disch := omega) only [go_sem, Nat.reduceEqDiff, ↓reduceIte, Int.reduceEq, Int.reduceNeg, wrap_add, List.append_nil, ite_self, ne_eq, not_true_eq_false, bne_self_eq_false, beq_self_eq_true, ld_ptr (rdB_pre (List.prefix_refl _) hb0), hs0, hR1.len]
  refine by_ret (l_szState_ret _ cs0 x0 (kState.pre hR0 (hB.trans (List.prefix_refl _))) (1048576) hw0 (by omega) (by omega)) ?_
  have ge0 := @lf_ge (1048576) (msState x0)
  have gm0 := @lf_le (1048576) (msState x0) (by omega)
  try simp +contextual (maxSteps := 600000) (disch := omega) only [go_sem, Nat.reduceEqDiff, ↓reduceIte, Int.reduceEq, Int.reduceNeg, wrap_add, List.append_nil, ite_self, ne_eq, not_true_eq_false, bne_self_eq_false, beq_self_eq_true, ld_ptr (rdB_pre (List.prefix_refl _) hb0), hs0, hR1.len]
  refine ⟨fun _ => hB.length_le, fun hn => ?_⟩
  have hn := of_decide_eq_false hn
  have hf0 := lf_some hn
  have hu0 : msState x0 ≤ 1048576 := by omega
  have hc0 := ctState_le x0
  try simp +contextual (maxSteps := 600000) (disch := omega) only [go_sem, Nat.reduceEqDiff, ↓reduceIte, Int.reduceEq, Int.reduceNeg, wrap_add, List.append_nil, ite_self, ne_eq, not_true_eq_false, bne_self_eq_false, beq_self_eq_true, ld_ptr (rdB_pre (List.prefix_refl _) hb0), hs0, hR1.len]
  have H := Hp.refl (σ ++ [some (Blk.row 1 (cs0))])
  try simp +contextual (maxSteps := 600000) (disch := omega) only [go_sem, Nat.reduceEqDiff, ↓reduceIte, Int.reduceEq, Int.reduceNeg, wrap_add, List.append_nil, ite_self, ne_eq, not_true_eq_false, bne_self_eq_false, beq_self_eq_true, ld_ptr (rdB_pre H.sub hb0), hs0, hR1.len]
  obtain ⟨_, τ1, R1, _, d1, rfl, K1⟩ := l_toState_ret _ cs0 x0 (kState.pre hR0 (hB.trans H.sub)) (by omega)
  refine by_hp R1 K1 ?_
  have H := H.add K1
  try simp only [List.cons_append, List.nil_append] at H
  have g1 := seg_full (kState.len (K1.rd 0 rfl))
  have g1 : (seg d1 0 4).bind (mkv true) = some (.agg d1) := g1
  have gl1 : d1.length = 4 := kState.len (K1.rd 0 rfl)
  try simp +contextual (maxSteps := 600000) (disch := omega) only [go_sem, Nat.reduceEqDiff, ↓reduceIte, Int.reduceEq, Int.reduceNeg, wrap_add, List.append_nil, ite_self, ne_eq, not_true_eq_false, bne_self_eq_false, beq_self_eq_true, ld_ptr (rdB_pre H.sub hb0), hs0, hR1.len, g1]
  obtain ⟨u2, τ2, R2, K2⟩ := l_toIntS_ret _ v1 x1 (hR1.pre (hB.trans H.sub)) (by omega)
  refine by_hp R2 K2 ?_
  have H := H.add K2
  try simp only [List.cons_append, List.nil_append] at H
  try simp +contextual (maxSteps := 600000) (disch := omega) only [go_sem, Nat.reduceEqDiff, ↓reduceIte, Int.reduceEq, Int.reduceNeg, wrap_add, List.append_nil, ite_self, ne_eq, not_true_eq_false, bne_self_eq_false, beq_self_eq_true, ld_ptr (rdB_pre H.sub hb0), hs0, hR1.len, g1]
  obtain ⟨c3_0, τ3, R3, p3, q3_0⟩ := s_Cleared_ret _ d1 x0 (H.rd 1 rfl) u2 x1 (H.sl 0 rfl) (by omega) (by omega)
  refine by_new R3 p3 ?_
  have hpw := H.sub.trans p3
  have H := Hp.refl τ3
  have gl3_0 : c3_0.length = 4 := kState.len q3_0
  have g3_0 : (seg c3_0 0 4).bind (mkv true) = some (.agg c3_0) := seg_full gl3_0
  try simp +contextual (maxSteps := 600000) (disch := omega) only [go_sem, Nat.reduceEqDiff, ↓reduceIte, Int.reduceEq, Int.reduceNeg, wrap_add, List.append_nil, ite_self, ne_eq, not_true_eq_false, bne_self_eq_false, beq_self_eq_true, ld_ptr (rdB_pre (hpw.trans H.sub) hb0), hs0, hR1.len, g1, g3_0, gl3_0]
  have H := H.new 1 c3_0
  try simp +contextual (maxSteps := 600000) (disch := omega) only [go_sem, Nat.reduceEqDiff, ↓reduceIte, Int.reduceEq, Int.reduceNeg, wrap_add, List.append_nil, ite_self, ne_eq, not_true_eq_false, bne_self_eq_false, beq_self_eq_true, ld_ptr (rdB_pre (hpw.trans H.sub) hb0), hs0, hR1.len, ld_ptr (H.pt 0 rfl), g1, g3_0, gl3_0, splice_full (cs := [GV.nilS, GV.nilS, GV.nilS, GV.nilS]) gl3_0 rfl, gl3_0]
  obtain ⟨_, τ4, R4, _, d4, rfl, K4⟩ := l_toState_ret _ cs0 x0 (kState.pre hR0 (hB.trans (hpw.trans H.sub))) (by omega)
  refine by_hp R4 K4 ?_
  have H := H.add K4
  try simp only [List.cons_append, List.nil_append] at H
  have g4 := seg_full (kState.len (K4.rd 0 rfl))
  have g4 : (seg d4 0 4).bind (mkv true) = some (.agg d4) := g4
  have gl4 : d4.length = 4 := kState.len (K4.rd 0 rfl)
  try simp +contextual (maxSteps := 600000) (disch := omega) only [go_sem, Nat.reduceEqDiff, ↓reduceIte, Int.reduceEq, Int.reduceNeg, wrap_add, List.append_nil, ite_self, ne_eq, not_true_eq_false, bne_self_eq_false, beq_self_eq_true, ld_ptr (rdB_pre (hpw.trans H.sub) hb0), hs0, hR1.len, ld_ptr (H.pt 1 rfl), g1, g3_0, gl3_0, g4]
  have H := H.new 1 d4
  try simp +contextual (maxSteps := 600000) (disch := omega) only [go_sem, Nat.reduceEqDiff, ↓reduceIte, Int.reduceEq, Int.reduceNeg, wrap_add, List.append_nil, ite_self, ne_eq, not_true_eq_false, bne_self_eq_false, beq_self_eq_true, ld_ptr (rdB_pre (hpw.trans H.sub) hb0), hs0, hR1.len, ld_ptr (H.pt 0 rfl), ld_ptr (H.pt 2 rfl), g1, g3_0, gl3_0, g4, splice_full (cs := [GV.nilS, GV.nilS, GV.nilS, GV.nilS]) gl4 rfl, gl4]
  obtain ⟨u5, τ5, R5, K5⟩ := l_toIntS_ret _ v1 x1 (hR1.pre (hB.trans (hpw.trans H.sub))) (by omega)
  refine by_hp R5 K5 ?_
  have H := H.add K5
  try simp only [List.cons_append, List.nil_append] at H
  try simp +contextual (maxSteps := 600000) (disch := omega) only [go_sem, Nat.reduceEqDiff, ↓reduceIte, Int.reduceEq, Int.reduceNeg, wrap_add, List.append_nil, ite_self, ne_eq, not_true_eq_false, bne_self_eq_false, beq_self_eq_true, ld_ptr (rdB_pre (hpw.trans H.sub) hb0), hs0, hR1.len, ld_ptr (H.pt 1 rfl), ld_ptr (H.pt 3 rfl), g1, g3_0, gl3_0, g4]
  obtain ⟨c6_0, τ6, R6, K6⟩ := i_Cleared_ret _ d4 x0 (H.rd 2 rfl) u5 x1 (H.sl 0 rfl) (by omega) (by omega)
  refine by_hp R6 K6 ?_
  have H := H.add K6
  try simp only [List.cons_append, List.nil_append] at H
  have gl6_0 : c6_0.length = 4 := kState.len (K6.rd 0 rfl)
  have g6_0 : (seg c6_0 0 4).bind (mkv true) = some (.agg c6_0) := seg_full gl6_0
  try simp +contextual (maxSteps := 600000) (disch := omega) only [go_sem, Nat.reduceEqDiff, ↓reduceIte, Int.reduceEq, Int.reduceNeg, wrap_add, List.append_nil, ite_self, ne_eq, not_true_eq_false, bne_self_eq_false, beq_self_eq_true, ld_ptr (rdB_pre (hpw.trans H.sub) hb0), hs0, hR1.len, ld_ptr (H.pt 2 rfl), ld_ptr (H.pt 4 rfl), g1, g3_0, gl3_0, g4, g6_0, gl6_0]
  have H := H.new 1 c6_0
  try simp +contextual (maxSteps := 600000) (disch := omega) only [go_sem, Nat.reduceEqDiff, ↓reduceIte, Int.reduceEq, Int.reduceNeg, wrap_add, List.append_nil, ite_self, ne_eq, not_true_eq_false, bne_self_eq_false, beq_self_eq_true, ld_ptr (rdB_pre (hpw.trans H.sub) hb0), hs0, hR1.len, ld_ptr (H.pt 0 rfl), ld_ptr (H.pt 3 rfl), ld_ptr (H.pt 5 rfl), g1, g3_0, gl3_0, g4, g6_0, gl6_0, splice_full (cs := [GV.nilS, GV.nilS, GV.nilS, GV.nilS]) gl6_0 rfl, gl6_0]
  refine by_ret (l_eqState_ret _ _ _ _ _ (H.rd 1 rfl) (kState.pre q3_0 H.sub) (by have := clrA_ms x0 x1; omega)) ?_
  try simp +contextual (maxSteps := 600000) (disch := omega) only [go_sem, Nat.reduceEqDiff, ↓reduceIte, Int.reduceEq, Int.reduceNeg, wrap_add, List.append_nil, ite_self, ne_eq, not_true_eq_false, bne_self_eq_false, beq_self_eq_true, ld_ptr (rdB_pre (hpw.trans H.sub) hb0), hs0, hR1.len, ld_ptr (H.pt 0 rfl), ld_ptr (H.pt 3 rfl), ld_ptr (H.pt 5 rfl), g1, g3_0, gl3_0, g4, g6_0, gl6_0, decide_true, eq_self]
  try simp +contextual (maxSteps := 600000) (disch := omega) only [go_sem, Nat.reduceEqDiff, ↓reduceIte, Int.reduceEq, Int.reduceNeg, wrap_add, List.append_nil, ite_self, ne_eq, not_true_eq_false, bne_self_eq_false, beq_self_eq_true, ld_ptr (rdB_pre (hpw.trans H.sub) hb0), hs0, hR1.len, ld_ptr (H.pt 0 rfl), ld_ptr (H.pt 3 rfl), ld_ptr (H.pt 5 rfl), g1, g3_0, gl3_0, g4, g6_0, gl6_0]
  obtain ⟨_, τ7, R7, _, d7, rfl, K7⟩ := l_toState_ret _ cs0 x0 (kState.pre hR0 (hB.trans (hpw.trans H.sub))) (by omega)
  refine by_hp R7 K7 ?_
  have H := H.add K7
  try simp only [List.cons_append, List.nil_append] at H
  have g7 := seg_full (kState.len (K7.rd 0 rfl))
  have g7 : (seg d7 0 4).bind (mkv true) = some (.agg d7) := g7
  have gl7 : d7.length = 4 := kState.len (K7.rd 0 rfl)
  try simp +contextual (maxSteps := 600000) (disch := omega) only [go_sem, Nat.reduceEqDiff, ↓reduceIte, Int.reduceEq, Int.reduceNeg, wrap_add, List.append_nil, ite_self, ne_eq, not_true_eq_false, bne_self_eq_false, beq_self_eq_true, ld_ptr (rdB_pre (hpw.trans H.sub) hb0), hs0, hR1.len, ld_ptr (H.pt 1 rfl), ld_ptr (H.pt 4 rfl), ld_ptr (H.pt 6 rfl), g1, g3_0, gl3_0, g4, g6_0, gl6_0, g7]
  refine by_ret (l_eqState_ret _ _ _ _ _ (H.rd 5 rfl) (H.rd 0 rfl) (by omega)) ?_
  try simp +contextual (maxSteps := 600000) (disch := omega) only [go_sem, Nat.reduceEqDiff, ↓reduceIte, Int.reduceEq, Int.reduceNeg, wrap_add, List.append_nil, ite_self, ne_eq, not_true_eq_false, bne_self_eq_false, beq_self_eq_true, ld_ptr (rdB_pre (hpw.trans H.sub) hb0), hs0, hR1.len, ld_ptr (H.pt 1 rfl), ld_ptr (H.pt 4 rfl), ld_ptr (H.pt 6 rfl), g1, g3_0, gl3_0, g4, g6_0, gl6_0, g7, decide_true, eq_self]
  try simp +contextual (maxSteps := 600000) (disch := omega) only [go_sem, Nat.reduceEqDiff, ↓reduceIte, Int.reduceEq, Int.reduceNeg, wrap_add, List.append_nil, ite_self, ne_eq, not_true_eq_false, bne_self_eq_false, beq_self_eq_true, ld_ptr (rdB_pre (hpw.trans H.sub) hb0), hs0, hR1.len, ld_ptr (H.pt 1 rfl), ld_ptr (H.pt 4 rfl), ld_ptr (H.pt 6 rfl), g1, g3_0, gl3_0, g4, g6_0, gl6_0, g7]
  obtain ⟨u8, τ8, R8, K8⟩ := l_toIntS_ret _ v1 x1 (hR1.pre (hB.trans (hpw.trans H.sub))) (by omega)
  refine by_hp R8 K8 ?_
  have H := H.add K8
  try simp only [List.cons_append, List.nil_append] at H
  try simp +contextual (maxSteps := 600000) (disch := omega) only [go_sem, Nat.reduceEqDiff, ↓reduceIte, Int.reduceEq, Int.reduceNeg, wrap_add, List.append_nil, ite_self, ne_eq, not_true_eq_false, bne_self_eq_false, beq_self_eq_true, ld_ptr (rdB_pre (hpw.trans H.sub) hb0), hs0, hR1.len, ld_ptr (H.pt 2 rfl), ld_ptr (H.pt 5 rfl), ld_ptr (H.pt 7 rfl), g1, g3_0, gl3_0, g4, g6_0, gl6_0, g7]
  refine by_ret (l_eqIntS_ret _ _ _ _ _ (H.sl 4 rfl) (H.sl 0 rfl) (by omega)) ?_
  try simp +contextual (maxSteps := 600000) (disch := omega) only [go_sem, Nat.reduceEqDiff, ↓reduceIte, Int.reduceEq, Int.reduceNeg, wrap_add, List.append_nil, ite_self, ne_eq, not_true_eq_false, bne_self_eq_false, beq_self_eq_true, ld_ptr (rdB_pre (hpw.trans H.sub) hb0), hs0, hR1.len, ld_ptr (H.pt 2 rfl), ld_ptr (H.pt 5 rfl), ld_ptr (H.pt 7 rfl), g1, g3_0, gl3_0, g4, g6_0, gl6_0, g7, decide_true, eq_self]
  obtain ⟨τ9, R9, H⟩ := l_markState_ret 6 d4 x0 (1) H rfl (by omega) (by omega)
  refine by_mut R9 ?_
  try simp only [List.set_cons_succ, List.set_cons_zero] at H
  try simp +contextual (maxSteps := 600000) (disch := omega) only [go_sem, Nat.reduceEqDiff, ↓reduceIte, Int.reduceEq, Int.reduceNeg, wrap_add, List.append_nil, ite_self, ne_eq, not_true_eq_false, bne_self_eq_false, beq_self_eq_true, ld_ptr (rdB_pre (hpw.trans H.sub) hb0), hs0, hR1.len, ld_ptr (H.pt 2 rfl), ld_ptr (H.pt 5 rfl), ld_ptr (H.pt 7 rfl), g1, g3_0, gl3_0, g4, g6_0, gl6_0, g7]
  obtain ⟨τ10, R10, H⟩ := l_markIntS_ret 4 u5 x1 (((1 : Int)) + ((ctState x0 : Nat) : Int)) H rfl (by omega) (by omega)
  refine by_mut R10 ?_
  try simp only [List.set_cons_succ, List.set_cons_zero] at H
  try simp +contextual (maxSteps := 600000) (disch := omega) only [go_sem, Nat.reduceEqDiff, ↓reduceIte, Int.reduceEq, Int.reduceNeg, wrap_add, List.append_nil, ite_self, ne_eq, not_true_eq_false, bne_self_eq_false, beq_self_eq_true, ld_ptr (rdB_pre (hpw.trans H.sub) hb0), hs0, hR1.len, ld_ptr (H.pt 2 rfl), ld_ptr (H.pt 5 rfl), ld_ptr (H.pt 7 rfl), g1, g3_0, gl3_0, g4, g6_0, gl6_0, g7]
  have hng : decide ((((1 : Int)) + ((ctState x0 : Nat) : Int)) + 1 * ((x1.length : Nat) : Int) < 0) = false := decide_eq_false (by omega)
  try simp +contextual (maxSteps := 600000) (disch := omega) only [go_sem, Nat.reduceEqDiff, ↓reduceIte, Int.reduceEq, Int.reduceNeg, wrap_add, List.append_nil, ite_self, ne_eq, not_true_eq_false, bne_self_eq_false, beq_self_eq_true, ld_ptr (rdB_pre (hpw.trans H.sub) hb0), hs0, hR1.len, ld_ptr (H.pt 2 rfl), ld_ptr (H.pt 5 rfl), ld_ptr (H.pt 7 rfl), g1, g3_0, gl3_0, g4, g6_0, gl6_0, g7, dneg1, dneg2, hng]
  refine by_ret (l_eqState_ret _ _ _ _ _ (H.rd 3 rfl) (kState.pre q3_0 H.sub) (by have := clrA_ms x0 x1; omega)) ?_
  try simp +contextual (maxSteps := 600000) (disch := omega) only [go_sem, Nat.reduceEqDiff, ↓reduceIte, Int.reduceEq, Int.reduceNeg, wrap_add, List.append_nil, ite_self, ne_eq, not_true_eq_false, bne_self_eq_false, beq_self_eq_true, ld_ptr (rdB_pre (hpw.trans H.sub) hb0), hs0, hR1.len, ld_ptr (H.pt 2 rfl), ld_ptr (H.pt 5 rfl), ld_ptr (H.pt 7 rfl), g1, g3_0, gl3_0, g4, g6_0, gl6_0, g7, decide_true, eq_self]
  obtain ⟨τ11, R11, H⟩ := l_markState_ret 3 c6_0 _ (1) H rfl (by omega) (by have := ctState_le (clrA x0 x1); have := clrA_ms x0 x1; omega)
  refine by_mut R11 ?_
  try simp only [List.set_cons_succ, List.set_cons_zero] at H
  try simp +contextual (maxSteps := 600000) (disch := omega) only [go_sem, Nat.reduceEqDiff, ↓reduceIte, Int.reduceEq, Int.reduceNeg, wrap_add, List.append_nil, ite_self, ne_eq, not_true_eq_false, bne_self_eq_false, beq_self_eq_true, ld_ptr (rdB_pre (hpw.trans H.sub) hb0), hs0, hR1.len, ld_ptr (H.pt 2 rfl), ld_ptr (H.pt 5 rfl), ld_ptr (H.pt 7 rfl), g1, g3_0, gl3_0, g4, g6_0, gl6_0, g7]
  refine by_ret (l_heldState_ret _ _ _ 1 (H.rd 3 rfl) (by omega) (by have := ctState_le (clrA x0 x1); have := clrA_ms x0 x1; omega)) ?_
  try simp +contextual (maxSteps := 600000) (disch := omega) only [go_sem, Nat.reduceEqDiff, ↓reduceIte, Int.reduceEq, Int.reduceNeg, wrap_add, List.append_nil, ite_self, ne_eq, not_true_eq_false, bne_self_eq_false, beq_self_eq_true, ld_ptr (rdB_pre (hpw.trans H.sub) hb0), hs0, hR1.len, ld_ptr (H.pt 2 rfl), ld_ptr (H.pt 5 rfl), ld_ptr (H.pt 7 rfl), g1, g3_0, gl3_0, g4, g6_0, gl6_0, g7, dneg1, dneg2]
  try simp +contextual (maxSteps := 600000) (disch := omega) only [go_sem, Nat.reduceEqDiff, ↓reduceIte, Int.reduceEq, Int.reduceNeg, wrap_add, List.append_nil, ite_self, ne_eq, not_true_eq_false, bne_self_eq_false, beq_self_eq_true, ld_ptr (rdB_pre (hpw.trans H.sub) hb0), hs0, hR1.len, ld_ptr (H.pt 2 rfl), ld_ptr (H.pt 5 rfl), ld_ptr (H.pt 7 rfl), g1, g3_0, gl3_0, g4, g6_0, gl6_0, g7, dneg1, dneg2]
  try simp +contextual (maxSteps := 600000) (disch := omega) only [go_sem, Nat.reduceEqDiff, ↓reduceIte, Int.reduceEq, Int.reduceNeg, wrap_add, List.append_nil, ite_self, ne_eq, not_true_eq_false, bne_self_eq_false, beq_self_eq_true, ld_ptr (rdB_pre (hpw.trans H.sub) hb0), hs0, hR1.len, ld_ptr (H.pt 2 rfl), ld_ptr (H.pt 5 rfl), ld_ptr (H.pt 7 rfl), g1, g3_0, gl3_0, g4, g6_0, gl6_0, g7, dneg1, dneg2]
  obtain ⟨_, τ12, R12, _, d12, rfl, K12⟩ := l_toState_ret _ cs0 x0 (kState.pre hR0 (hB.trans (hpw.trans H.sub))) (by omega)
  refine by_hp R12 K12 ?_
  have H := H.add K12
  try simp only [List.cons_append, List.nil_append] at H
  have g12 := seg_full (kState.len (K12.rd 0 rfl))
  have g12 : (seg d12 0 4).bind (mkv true) = some (.agg d12) := g12
  have gl12 : d12.length = 4 := kState.len (K12.rd 0 rfl)
  try simp +contextual (maxSteps := 600000) (disch := omega) only [go_sem, Nat.reduceEqDiff, ↓reduceIte, Int.reduceEq, Int.reduceNeg, wrap_add, List.append_nil, ite_self, ne_eq, not_true_eq_false, bne_self_eq_false, beq_self_eq_true, ld_ptr (rdB_pre (hpw.trans H.sub) hb0), hs0, hR1.len, ld_ptr (H.pt 3 rfl), ld_ptr (H.pt 6 rfl), ld_ptr (H.pt 8 rfl), g1, g3_0, gl3_0, g4, g6_0, gl6_0, g7, g12]
  obtain ⟨u13, τ13, R13, K13⟩ := l_toIntS_ret _ v1 x1 (hR1.pre (hB.trans (hpw.trans H.sub))) (by omega)
  refine by_hp R13 K13 ?_
  have H := H.add K13
  try simp only [List.cons_append, List.nil_append] at H
  try simp +contextual (maxSteps := 600000) (disch := omega) only [go_sem, Nat.reduceEqDiff, ↓reduceIte, Int.reduceEq, Int.reduceNeg, wrap_add, List.append_nil, ite_self, ne_eq, not_true_eq_false, bne_self_eq_false, beq_self_eq_true, ld_ptr (rdB_pre (hpw.trans H.sub) hb0), hs0, hR1.len, ld_ptr (H.pt 4 rfl), ld_ptr (H.pt 7 rfl), ld_ptr (H.pt 9 rfl), g1, g3_0, gl3_0, g4, g6_0, gl6_0, g7, g12]
  obtain ⟨c14_0, τ14, R14, K14⟩ := i_Cleared_ret _ d12 x0 (H.rd 1 rfl) u13 x1 (H.sl 0 rfl) (by omega) (by omega)
  refine by_hp R14 K14 ?_
  have H := H.add K14
  try simp only [List.cons_append, List.nil_append] at H
  have gl14_0 : c14_0.length = 4 := kState.len (K14.rd 0 rfl)
  have g14_0 : (seg c14_0 0 4).bind (mkv true) = some (.agg c14_0) := seg_full gl14_0
  try simp +contextual (maxSteps := 600000) (disch := omega) only [go_sem, Nat.reduceEqDiff, ↓reduceIte, Int.reduceEq, Int.reduceNeg, wrap_add, List.append_nil, ite_self, ne_eq, not_true_eq_false, bne_self_eq_false, beq_self_eq_true, ld_ptr (rdB_pre (hpw.trans H.sub) hb0), hs0, hR1.len, ld_ptr (H.pt 5 rfl), ld_ptr (H.pt 8 rfl), ld_ptr (H.pt 10 rfl), g1, g3_0, gl3_0, g4, g6_0, gl6_0, g7, g12, g14_0, gl14_0]
  have H := H.new 1 c14_0
  try simp +contextual (maxSteps := 600000) (disch := omega) only [go_sem, Nat.reduceEqDiff, ↓reduceIte, Int.reduceEq, Int.reduceNeg, wrap_add, List.append_nil, ite_self, ne_eq, not_true_eq_false, bne_self_eq_false, beq_self_eq_true, ld_ptr (rdB_pre (hpw.trans H.sub) hb0), hs0, hR1.len, ld_ptr (H.pt 0 rfl), ld_ptr (H.pt 6 rfl), ld_ptr (H.pt 9 rfl), ld_ptr (H.pt 11 rfl), g1, g3_0, gl3_0, g4, g6_0, gl6_0, g7, g12, g14_0, gl14_0, splice_full (cs := [GV.nilS, GV.nilS, GV.nilS, GV.nilS]) gl14_0 rfl, gl14_0]
  refine by_ret (l_eqState_ret _ _ _ _ _ (H.rd 1 rfl) (kState.pre q3_0 H.sub) (by have := clrA_ms x0 x1; omega)) ?_
  try simp +contextual (maxSteps := 600000) (disch := omega) only [go_sem, Nat.reduceEqDiff, ↓reduceIte, Int.reduceEq, Int.reduceNeg, wrap_add, List.append_nil, ite_self, ne_eq, not_true_eq_false, bne_self_eq_false, beq_self_eq_true, ld_ptr (rdB_pre (hpw.trans H.sub) hb0), hs0, hR1.len, ld_ptr (H.pt 0 rfl), ld_ptr (H.pt 6 rfl), ld_ptr (H.pt 9 rfl), ld_ptr (H.pt 11 rfl), g1, g3_0, gl3_0, g4, g6_0, gl6_0, g7, g12, g14_0, gl14_0, decide_true, eq_self]
  refine by_ret (l_heldState_ret _ _ _ 1 (H.rd 7 rfl) (by omega) (by have := ctState_le (clrA x0 x1); have := clrA_ms x0 x1; omega)) ?_
  try simp +contextual (maxSteps := 600000) (disch := omega) only [go_sem, Nat.reduceEqDiff, ↓reduceIte, Int.reduceEq, Int.reduceNeg, wrap_add, List.append_nil, ite_self, ne_eq, not_true_eq_false, bne_self_eq_false, beq_self_eq_true, ld_ptr (rdB_pre (hpw.trans H.sub) hb0), hs0, hR1.len, ld_ptr (H.pt 0 rfl), ld_ptr (H.pt 6 rfl), ld_ptr (H.pt 9 rfl), ld_ptr (H.pt 11 rfl), g1, g3_0, gl3_0, g4, g6_0, gl6_0, g7, g12, g14_0, gl14_0, dneg1, dneg2]
  try simp +contextual (maxSteps := 600000) (disch := omega) only [go_sem, Nat.reduceEqDiff, ↓reduceIte, Int.reduceEq, Int.reduceNeg, wrap_add, List.append_nil, ite_self, ne_eq, not_true_eq_false, bne_self_eq_false, beq_self_eq_true, ld_ptr (rdB_pre (hpw.trans H.sub) hb0), hs0, hR1.len, ld_ptr (H.pt 0 rfl), ld_ptr (H.pt 6 rfl), ld_ptr (H.pt 9 rfl), ld_ptr (H.pt 11 rfl), g1, g3_0, gl3_0, g4, g6_0, gl6_0, g7, g12, g14_0, gl14_0, dneg1, dneg2]
  try simp +contextual (maxSteps := 600000) (disch := omega) only [go_sem, Nat.reduceEqDiff, ↓reduceIte, Int.reduceEq, Int.reduceNeg, wrap_add, List.append_nil, ite_self, ne_eq, not_true_eq_false, bne_self_eq_false, beq_self_eq_true, ld_ptr (rdB_pre (hpw.trans H.sub) hb0), hs0, hR1.len, ld_ptr (H.pt 0 rfl), ld_ptr (H.pt 6 rfl), ld_ptr (H.pt 9 rfl), ld_ptr (H.pt 11 rfl), g1, g3_0, gl3_0, g4, g6_0, gl6_0, g7, g12, g14_0, gl14_0, dneg1, dneg2]
  exact (hB.trans (hpw.trans H.sub)).length_le
end Go.Proofs.Ytffnefmklckngaa.Sy

