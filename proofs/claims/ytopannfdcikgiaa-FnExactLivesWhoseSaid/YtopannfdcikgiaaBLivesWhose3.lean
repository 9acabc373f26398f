/- Texts of this proof, one behind the other. -/
import Derived.Test.YtopannfdcikgiaaBLivesWhose2
import Derived.Test.YtopannfdcikgiaaProg
import Derived.KernelRfl
/- Contracts of the laws' own functions: HmkState. -/
namespace Go.Proofs.Ytopannfdcikgiaa.Sy
open Go Go.RowKit
set_option linter.unusedSimpArgs false
set_option linter.unusedVariables false
abbrev n_l_markState : Nat := 59
def F_l_markState : Fn1 := ⟨22, [.t 4], (.seq (.reg [o 2 (.box (.t 0)), o 4 (.mov (.k (.int .i64 0)))]) (.seq (.reg [o 5 (.fad 0 (.t 2)), o 6 (.ld false 1 (.t 5)), o 7 (.mov (.t 1)), o 8 (.call 31 [(.t 6), (.t 7)]), o 1 (.mov (.t 8))]) (.seq (.reg [o 9 (.fad 1 (.t 2)), o 10 (.ld false 1 (.t 9)), o 11 (.mov (.t 1)), o 12 (.call 103 [(.t 10), (.t 11)]), o 1 (.mov (.t 12))]) (.seq (.reg [o 13 (.fad 2 (.t 2)), o 14 (.ld false 1 (.t 13)), o 15 (.mov (.t 1)), o 16 (.call 104 [(.t 14), (.t 15)]), o 1 (.mov (.t 16))]) (.seq (.reg [o 17 (.fad 3 (.t 2)), o 18 (.ld false 1 (.t 17)), o 19 (.mov (.t 1)), o 20 (.call 105 [(.t 18), (.t 19)]), o 1 (.mov (.t 20))]) (.seq (.reg [o 21 (.mov (.t 1)), o 4 (.mov (.t 21))]) .ret))))))⟩
theorem ir_l_markState : compFn Try.prog n_l_markState = some F_l_markState := by kernel_rfl
theorem l_markState_ret {σ τ : St} {rs : List Thg} (i0 : Nat) (cs : List GV) (x : State) (k : Int) (H : Hp σ τ rs) (hi0 : rs[i0]? = some (own kState cs x)) (h0 : 0 ≤ k) (hk : k + ctState x ≤ 4611686018427387904) : ∃ τ', Ret Try.prog n_l_markState [.agg cs, gi k] τ (gi (k + ctState x)) τ' ∧ Hp σ τ' (rs.set i0 (own kState cs (mkState k x))) := by
  have hlt := (List.getElem?_eq_some_iff.1 hi0).1
  have hlen := kState.len (H.rd i0 hi0)
  have hlen : cs.length = 4 := hlen
  obtain ⟨v0, v1, v2, v3, rfl, H⟩ := (H.pick i0 hi0).splitState
  unfold ctState at hk
  obtain ⟨r, τ', hR, rfl, H'⟩ := ret_mut (P := Try.prog) (σ := τ) (args := [.agg (v0 :: v1 :: v2 :: v3 :: []), gi k]) (Post := fun r τ' => r = gi (k + ctState x) ∧ Hp σ τ' (own kState (v0 :: v1 :: v2 :: v3 :: []) (mkState k x) :: rs.eraseIdx i0)) ir_l_markState (Nat.le_of_ble_eq_true rfl) (by
    have H := H.new 1 (v0 :: v1 :: v2 :: v3 :: [])
    simp +contextual (maxSteps := 600000) (disch := omega) only [go_sem, Nat.reduceEqDiff, ↓reduceIte, Int.reduceEq, Int.reduceNeg, wrap_add, F_l_markState, List.append_nil]
    obtain ⟨τ0, R0, H⟩ := l_markIntS_ret 1 v0 x.know (k) H rfl (by omega) (by omega)
    refine by_mut R0 ?_
    try simp only [List.set_cons_succ, List.set_cons_zero] at H
    have hl0 := R0.2.1
    try simp +contextual (maxSteps := 600000) (disch := omega) only [go_sem, Nat.reduceEqDiff, ↓reduceIte, Int.reduceEq, Int.reduceNeg, wrap_add, List.append_nil, ld_ptr (H.pt 0 rfl)]
    obtain ⟨τ1, R1, H⟩ := l_markTallyS_ret 2 v1 x.tallies (k + 1 * (x.know.length : Int)) H rfl (by omega) (by omega)
    refine by_mut R1 ?_
    try simp only [List.set_cons_succ, List.set_cons_zero] at H
    have hl1 := R1.2.1
    try simp +contextual (maxSteps := 600000) (disch := omega) only [go_sem, Nat.reduceEqDiff, ↓reduceIte, Int.reduceEq, Int.reduceNeg, wrap_add, List.append_nil, ld_ptr (H.pt 0 rfl)]
    obtain ⟨τ2, R2, H⟩ := l_markLiveS_ret 3 v2 x.lives (k + 1 * (x.know.length : Int) + 3 * (x.tallies.length : Int)) H rfl (by omega) (by omega)
    refine by_mut R2 ?_
    try simp only [List.set_cons_succ, List.set_cons_zero] at H
    have hl2 := R2.2.1
    try simp +contextual (maxSteps := 600000) (disch := omega) only [go_sem, Nat.reduceEqDiff, ↓reduceIte, Int.reduceEq, Int.reduceNeg, wrap_add, List.append_nil, ld_ptr (H.pt 0 rfl)]
    obtain ⟨τ3, R3, H⟩ := l_markCellS_ret 4 v3 x.cells (k + 1 * (x.know.length : Int) + 3 * (x.tallies.length : Int) + 6 * (x.lives.length : Int)) H rfl (by omega) (by omega)
    refine by_mut R3 ?_
    try simp only [List.set_cons_succ, List.set_cons_zero] at H
    have hl3 := R3.2.1
    try simp +contextual (maxSteps := 600000) (disch := omega) only [go_sem, Nat.reduceEqDiff, ↓reduceIte, Int.reduceEq, Int.reduceNeg, wrap_add, List.append_nil, ld_ptr (H.pt 0 rfl)]
    try simp only [List.length_append, List.length_cons, List.length_nil] at hl0
    refine ⟨_, rfl, by omega, by unfold ctState; congr 1; omega, H.drop1.ownState (x := mkState k x)⟩)
  exact ⟨τ', hR, H'.unpick hlt⟩
end Go.Proofs.Ytopannfdcikgiaa.Sy

/- Contracts of the laws' own functions: HszCell. -/
namespace Go.Proofs.Ytopannfdcikgiaa.Sy
open Go Go.RowKit
set_option linter.unusedSimpArgs false
set_option linter.unusedVariables false
abbrev n_l_szCell : Nat := 122
def F_l_szCell : Fn1 := ⟨13, [.t 4], (.seq (.reg [o 2 (.box (.t 0)), o 4 (.mov (.k (.int .i64 0)))]) (.seq (.reg [o 5 (.mov (.t 1)), o 6 (.fad 0 (.t 2)), o 7 (.ld false 1 (.t 6)), o 8 (.len true (.t 7)), o 9 (.bin .sub (.t 5) (.t 8)), o 1 (.mov (.t 9))]) (.seq (.seq (.reg [o 10 (.mov (.t 1)), o 11 (.bin .lss (.t 10) (.k (.int .i64 0)))]) (.cnd (.t 11) (.seq (.reg [o 4 (.mov (.k (.int .i64 (-1))))]) .ret) .skip)) (.seq (.reg [o 12 (.mov (.t 1)), o 4 (.mov (.t 12))]) .ret))))⟩
theorem ir_l_szCell : compFn Try.prog n_l_szCell = some F_l_szCell := by kernel_rfl
theorem l_szCell_ret (σ : St) (x : Cell) (n : Int) (hw : wCell x) (h0 : 0 ≤ n) (h1 : n ≤ 1099511627776) : Ret Try.prog n_l_szCell [.agg [.str x.obj, .int .i64 x.dot.rep, .int .i64 x.dot.seq, .int .i64 x.time, .int .i64 x.ref.rep, .int .i64 x.ref.seq, .int .i64 x.val, .bool x.gone], gi n] σ (gi (lf n (msCell x))) σ := by
  have w0 := hw; unfold wCell at w0
  refine ret_eq ir_l_szCell (Nat.le_of_ble_eq_true rfl) trivial ?_
  simp +contextual (maxSteps := 600000) (disch := omega) only [go_sem, Nat.reduceEqDiff, ↓reduceIte, Int.reduceEq, Int.reduceNeg, wrap_add, F_l_szCell, List.append_nil]
  refine ⟨fun hn => ?_, fun hn => ?_⟩
  · have hn := of_decide_eq_true hn
    unfold msCell lf; rw [if_pos (by omega)]
  have hn := of_decide_eq_false hn
  try simp (disch := omega) only [wrap_add]
  unfold msCell; rw [show lf n (x.obj.size) = n - ((x.obj.size : Nat) : Int) by unfold lf; rw [if_neg (by omega)]]; try omega
end Go.Proofs.Ytopannfdcikgiaa.Sy

/- Contracts of the laws' own functions: HszCellS. -/
namespace Go.Proofs.Ytopannfdcikgiaa.Sy
open Go Go.RowKit
set_option linter.unusedSimpArgs false
set_option linter.unusedVariables false
abbrev n_l_szCellS : Nat := 94
def F_l_szCellS : Fn1 := ⟨27, [.t 4], (.seq (.reg [o 4 (.mov (.k (.int .i64 0)))]) (.seq (.reg [o 6 (.mov (.t 1)), o 7 (.mov (.t 0)), o 8 (.len false (.t 7)), o 9 (.bin .sub (.t 6) (.t 8)), o 1 (.mov (.t 9))]) (.seq (.seq (.reg [o 10 (.mov (.t 1)), o 11 (.bin .lss (.t 10) (.k (.int .i64 0)))]) (.cnd (.t 11) (.seq (.reg [o 4 (.mov (.k (.int .i64 (-1))))]) .ret) .skip)) (.seq (.seq (.reg [o 5 (.mov (.k (.int .i64 0)))]) (.blk 0 (.lop (.seq (.seq (.reg [o 12 (.mov (.t 5)), o 13 (.mov (.t 0)), o 14 (.len false (.t 13)), o 15 (.bin .lss (.t 12) (.t 14))]) (.cnd (.t 15) .skip (.ext 0))) (.seq (.blk 1 (.seq (.reg [o 18 (.mov (.t 0)), o 19 (.mov (.t 5)), o 20 (.iad 8 (.t 18) (.t 19)), o 21 (.ld true 8 (.t 20)), o 22 (.mov (.t 1)), o 23 (.call 122 [(.t 21), (.t 22)]), o 1 (.mov (.t 23))]) (.seq (.reg [o 24 (.mov (.t 1)), o 25 (.bin .lss (.t 24) (.k (.int .i64 0)))]) (.cnd (.t 25) (.seq (.reg [o 4 (.mov (.k (.int .i64 (-1))))]) .ret) .skip)))) (.reg [o 16 (.mov (.t 5)), o 17 (.bin .add (.t 16) (.k (.int .i64 1))), o 5 (.mov (.t 17))])))))) (.seq (.reg [o 26 (.mov (.t 1)), o 4 (.mov (.t 26))]) .ret)))))⟩
theorem ir_l_szCellS : compFn Try.prog n_l_szCellS = some F_l_szCellS := by kernel_rfl
theorem l_szCellS_ret (σ : St) (v : GV) (l : List Cell) (hR : RS pCell.kd σ v l) (n : Int) (hw : l.length ≤ 9223372036854775807 ∧ ∀ y ∈ l, wCell y) (h0 : 0 ≤ n) (h1 : n ≤ 1099511627776) : Ret Try.prog n_l_szCellS [v, gi n] σ (gi (lf n (l.length + sumL msCell l))) σ := by
  obtain ⟨wl, we⟩ := hw
  refine ret_eq ir_l_szCellS (Nat.le_of_ble_eq_true rfl) trivial ?_
  simp +contextual (maxSteps := 600000) (disch := omega) only [go_sem, Nat.reduceEqDiff, ↓reduceIte, Int.reduceEq, Int.reduceNeg, wrap_add, F_l_szCellS, hR.len]
  refine ⟨fun hn => ?_, fun hn => ?_⟩
  · have hn := of_decide_eq_true hn
    unfold lf; rw [if_pos (by omega)]
  have hn := of_decide_eq_false hn
  refine vc_for l.length 5 (fun i env τ => ∃ m : Int, env 0 = v ∧ env 1 = gi m ∧ m = n - l.length - sumL msCell (l.take i) ∧ 0 ≤ m ∧ σ <+: τ) rfl ⟨n - l.length, rfl, rfl, by simp [sumL], by omega, List.prefix_refl _⟩ ?_ ?_
  · rintro i env τ hi e5 c0 ⟨m, e0, e1, em, hm, hp⟩
    have h1 := hR.pre hp
    have hs := sumL_snoc (f := msCell) hi
    have hst := sumL_take_le msCell l (i + 1)
    simp +contextual (maxSteps := 600000) (disch := omega) only [go_sem, Nat.reduceEqDiff, ↓reduceIte, Int.reduceEq, Int.reduceNeg, wrap_add, c0, e0, e1, e5, hR.len, Cell_at h1 hi]
    refine by_ret (l_szCell_ret τ l[i] m (we _ (List.getElem_mem hi)) hm (by omega)) ?_
    simp +contextual (maxSteps := 600000) (disch := omega) only [go_sem, Nat.reduceEqDiff, ↓reduceIte, Int.reduceEq, Int.reduceNeg, wrap_add, c0, e0, e1, e5, hp]
    have g0 := @lf_le m (msCell l[i]) hm
    have g1 := @lf_ge m (msCell l[i])
    refine ⟨fun hn => ?_, fun hn => ?_⟩
    · have hn := lf_neg.1 (of_decide_eq_true hn)
      unfold lf; rw [if_pos (by omega)]
    · have hn := of_decide_eq_false hn
      have f := lf_some hn
      exact ⟨_, rfl, by omega, by omega⟩
  · rintro env τ e5 c0 ⟨m, e0, e1, em, hm, hp⟩
    rw [List.take_length] at em
    simp +contextual (maxSteps := 600000) (disch := omega) only [go_sem, Nat.reduceEqDiff, ↓reduceIte, Int.reduceEq, Int.reduceNeg, wrap_add, c0, e0, e1, e5, hR.len, hp]
    unfold lf; rw [if_neg (by omega)]; omega
end Go.Proofs.Ytopannfdcikgiaa.Sy

/- Contracts of the laws' own functions: HszIntS. -/
namespace Go.Proofs.Ytopannfdcikgiaa.Sy
open Go Go.RowKit
set_option linter.unusedSimpArgs false
set_option linter.unusedVariables false
abbrev n_l_szIntS : Nat := 75
def F_l_szIntS : Fn1 := ⟨12, [.t 4], (.seq (.reg [o 4 (.mov (.k (.int .i64 0)))]) (.seq (.reg [o 5 (.mov (.t 1)), o 6 (.mov (.t 0)), o 7 (.len false (.t 6)), o 8 (.bin .sub (.t 5) (.t 7)), o 1 (.mov (.t 8))]) (.seq (.seq (.reg [o 9 (.mov (.t 1)), o 10 (.bin .lss (.t 9) (.k (.int .i64 0)))]) (.cnd (.t 10) (.seq (.reg [o 4 (.mov (.k (.int .i64 (-1))))]) .ret) .skip)) (.seq (.reg [o 11 (.mov (.t 1)), o 4 (.mov (.t 11))]) .ret))))⟩
theorem ir_l_szIntS : compFn Try.prog n_l_szIntS = some F_l_szIntS := by kernel_rfl
theorem l_szIntS_ret (σ : St) (v : GV) (l : List Int) (hR : RS pI.kd σ v l) (n : Int) (hw : l.length ≤ 9223372036854775807) (h0 : 0 ≤ n) (h1 : n ≤ 1099511627776) : Ret Try.prog n_l_szIntS [v, gi n] σ (gi (lf n l.length)) σ := by
  refine ret_eq ir_l_szIntS (Nat.le_of_ble_eq_true rfl) trivial ?_
  simp +contextual (maxSteps := 600000) (disch := omega) only [go_sem, Nat.reduceEqDiff, ↓reduceIte, Int.reduceEq, Int.reduceNeg, wrap_add, F_l_szIntS, hR.len]
  refine ⟨fun h => ?_, fun h => ?_⟩
  · rw [lf, if_pos (of_decide_eq_true h)]
  · rw [lf, if_neg (of_decide_eq_false h)]
end Go.Proofs.Ytopannfdcikgiaa.Sy

/- Contracts of the laws' own functions: HszLive. -/
namespace Go.Proofs.Ytopannfdcikgiaa.Sy
open Go Go.RowKit
set_option linter.unusedSimpArgs false
set_option linter.unusedVariables false
abbrev n_l_szLive : Nat := 121
def F_l_szLive : Fn1 := ⟨20, [.t 4], (.seq (.reg [o 2 (.box (.t 0)), o 4 (.mov (.k (.int .i64 0)))]) (.seq (.reg [o 5 (.mov (.t 1)), o 6 (.fad 1 (.t 2)), o 7 (.ld false 1 (.t 6)), o 8 (.len true (.t 7)), o 9 (.bin .sub (.t 5) (.t 8)), o 1 (.mov (.t 9))]) (.seq (.seq (.reg [o 10 (.mov (.t 1)), o 11 (.bin .lss (.t 10) (.k (.int .i64 0)))]) (.cnd (.t 11) (.seq (.reg [o 4 (.mov (.k (.int .i64 (-1))))]) .ret) .skip)) (.seq (.reg [o 12 (.mov (.t 1)), o 13 (.fad 2 (.t 2)), o 14 (.ld false 1 (.t 13)), o 15 (.len true (.t 14)), o 16 (.bin .sub (.t 12) (.t 15)), o 1 (.mov (.t 16))]) (.seq (.seq (.reg [o 17 (.mov (.t 1)), o 18 (.bin .lss (.t 17) (.k (.int .i64 0)))]) (.cnd (.t 18) (.seq (.reg [o 4 (.mov (.k (.int .i64 (-1))))]) .ret) .skip)) (.seq (.reg [o 19 (.mov (.t 1)), o 4 (.mov (.t 19))]) .ret))))))⟩
theorem ir_l_szLive : compFn Try.prog n_l_szLive = some F_l_szLive := by kernel_rfl
theorem l_szLive_ret (σ : St) (x : Live) (n : Int) (hw : wLive x) (h0 : 0 ≤ n) (h1 : n ≤ 1099511627776) : Ret Try.prog n_l_szLive [.agg [.bool x.map, .str x.obj, .str x.key, .int .i64 x.val, .int .i64 x.dot.rep, .int .i64 x.dot.seq], gi n] σ (gi (lf n (msLive x))) σ := by
  obtain ⟨w0, w1⟩ := hw
  refine ret_eq ir_l_szLive (Nat.le_of_ble_eq_true rfl) trivial ?_
  simp +contextual (maxSteps := 600000) (disch := omega) only [go_sem, Nat.reduceEqDiff, ↓reduceIte, Int.reduceEq, Int.reduceNeg, wrap_add, F_l_szLive, List.append_nil]
  refine ⟨fun hn => ?_, fun hn => ?_⟩
  · have hn := of_decide_eq_true hn
    unfold msLive lf; rw [if_pos (by omega)]
  have hn := of_decide_eq_false hn
  try simp (disch := omega) only [wrap_add]
  refine ⟨fun hn => ?_, fun hn => ?_⟩
  · have hn := of_decide_eq_true hn
    unfold msLive lf; rw [if_pos (by omega)]
  have hn := of_decide_eq_false hn
  try simp (disch := omega) only [wrap_add]
  unfold msLive; rw [show lf n (x.obj.size + x.key.size) = n - ((x.obj.size + x.key.size : Nat) : Int) by unfold lf; rw [if_neg (by omega)]]; try omega
end Go.Proofs.Ytopannfdcikgiaa.Sy

/- Contracts of the laws' own functions: HszLiveS. -/
namespace Go.Proofs.Ytopannfdcikgiaa.Sy
open Go Go.RowKit
set_option linter.unusedSimpArgs false
set_option linter.unusedVariables false
abbrev n_l_szLiveS : Nat := 93
def F_l_szLiveS : Fn1 := ⟨27, [.t 4], (.seq (.reg [o 4 (.mov (.k (.int .i64 0)))]) (.seq (.reg [o 6 (.mov (.t 1)), o 7 (.mov (.t 0)), o 8 (.len false (.t 7)), o 9 (.bin .sub (.t 6) (.t 8)), o 1 (.mov (.t 9))]) (.seq (.seq (.reg [o 10 (.mov (.t 1)), o 11 (.bin .lss (.t 10) (.k (.int .i64 0)))]) (.cnd (.t 11) (.seq (.reg [o 4 (.mov (.k (.int .i64 (-1))))]) .ret) .skip)) (.seq (.seq (.reg [o 5 (.mov (.k (.int .i64 0)))]) (.blk 0 (.lop (.seq (.seq (.reg [o 12 (.mov (.t 5)), o 13 (.mov (.t 0)), o 14 (.len false (.t 13)), o 15 (.bin .lss (.t 12) (.t 14))]) (.cnd (.t 15) .skip (.ext 0))) (.seq (.blk 1 (.seq (.reg [o 18 (.mov (.t 0)), o 19 (.mov (.t 5)), o 20 (.iad 6 (.t 18) (.t 19)), o 21 (.ld true 6 (.t 20)), o 22 (.mov (.t 1)), o 23 (.call 121 [(.t 21), (.t 22)]), o 1 (.mov (.t 23))]) (.seq (.reg [o 24 (.mov (.t 1)), o 25 (.bin .lss (.t 24) (.k (.int .i64 0)))]) (.cnd (.t 25) (.seq (.reg [o 4 (.mov (.k (.int .i64 (-1))))]) .ret) .skip)))) (.reg [o 16 (.mov (.t 5)), o 17 (.bin .add (.t 16) (.k (.int .i64 1))), o 5 (.mov (.t 17))])))))) (.seq (.reg [o 26 (.mov (.t 1)), o 4 (.mov (.t 26))]) .ret)))))⟩
theorem ir_l_szLiveS : compFn Try.prog n_l_szLiveS = some F_l_szLiveS := by kernel_rfl
theorem l_szLiveS_ret (σ : St) (v : GV) (l : List Live) (hR : RS pLive.kd σ v l) (n : Int) (hw : l.length ≤ 9223372036854775807 ∧ ∀ y ∈ l, wLive y) (h0 : 0 ≤ n) (h1 : n ≤ 1099511627776) : Ret Try.prog n_l_szLiveS [v, gi n] σ (gi (lf n (l.length + sumL msLive l))) σ := by
  obtain ⟨wl, we⟩ := hw
  refine ret_eq ir_l_szLiveS (Nat.le_of_ble_eq_true rfl) trivial ?_
  simp +contextual (maxSteps := 600000) (disch := omega) only [go_sem, Nat.reduceEqDiff, ↓reduceIte, Int.reduceEq, Int.reduceNeg, wrap_add, F_l_szLiveS, hR.len]
  refine ⟨fun hn => ?_, fun hn => ?_⟩
  · have hn := of_decide_eq_true hn
    unfold lf; rw [if_pos (by omega)]
  have hn := of_decide_eq_false hn
  refine vc_for l.length 5 (fun i env τ => ∃ m : Int, env 0 = v ∧ env 1 = gi m ∧ m = n - l.length - sumL msLive (l.take i) ∧ 0 ≤ m ∧ σ <+: τ) rfl ⟨n - l.length, rfl, rfl, by simp [sumL], by omega, List.prefix_refl _⟩ ?_ ?_
  · rintro i env τ hi e5 c0 ⟨m, e0, e1, em, hm, hp⟩
    have h1 := hR.pre hp
    have hs := sumL_snoc (f := msLive) hi
    have hst := sumL_take_le msLive l (i + 1)
    simp +contextual (maxSteps := 600000) (disch := omega) only [go_sem, Nat.reduceEqDiff, ↓reduceIte, Int.reduceEq, Int.reduceNeg, wrap_add, c0, e0, e1, e5, hR.len, Live_at h1 hi]
    refine by_ret (l_szLive_ret τ l[i] m (we _ (List.getElem_mem hi)) hm (by omega)) ?_
    simp +contextual (maxSteps := 600000) (disch := omega) only [go_sem, Nat.reduceEqDiff, ↓reduceIte, Int.reduceEq, Int.reduceNeg, wrap_add, c0, e0, e1, e5, hp]
    have g0 := @lf_le m (msLive l[i]) hm
    have g1 := @lf_ge m (msLive l[i])
    refine ⟨fun hn => ?_, fun hn => ?_⟩
    · have hn := lf_neg.1 (of_decide_eq_true hn)
      unfold lf; rw [if_pos (by omega)]
    · have hn := of_decide_eq_false hn
      have f := lf_some hn
      exact ⟨_, rfl, by omega, by omega⟩
  · rintro env τ e5 c0 ⟨m, e0, e1, em, hm, hp⟩
    rw [List.take_length] at em
    simp +contextual (maxSteps := 600000) (disch := omega) only [go_sem, Nat.reduceEqDiff, ↓reduceIte, Int.reduceEq, Int.reduceNeg, wrap_add, c0, e0, e1, e5, hR.len, hp]
    unfold lf; rw [if_neg (by omega)]; omega
end Go.Proofs.Ytopannfdcikgiaa.Sy

/- Contracts of the laws' own functions: HszTally. -/
namespace Go.Proofs.Ytopannfdcikgiaa.Sy
open Go Go.RowKit
set_option linter.unusedSimpArgs false
set_option linter.unusedVariables false
abbrev n_l_szTally : Nat := 120
def F_l_szTally : Fn1 := ⟨13, [.t 4], (.seq (.reg [o 2 (.box (.t 0)), o 4 (.mov (.k (.int .i64 0)))]) (.seq (.reg [o 5 (.mov (.t 1)), o 6 (.fad 0 (.t 2)), o 7 (.ld false 1 (.t 6)), o 8 (.len true (.t 7)), o 9 (.bin .sub (.t 5) (.t 8)), o 1 (.mov (.t 9))]) (.seq (.seq (.reg [o 10 (.mov (.t 1)), o 11 (.bin .lss (.t 10) (.k (.int .i64 0)))]) (.cnd (.t 11) (.seq (.reg [o 4 (.mov (.k (.int .i64 (-1))))]) .ret) .skip)) (.seq (.reg [o 12 (.mov (.t 1)), o 4 (.mov (.t 12))]) .ret))))⟩
theorem ir_l_szTally : compFn Try.prog n_l_szTally = some F_l_szTally := by kernel_rfl
theorem l_szTally_ret (σ : St) (x : Tally) (n : Int) (hw : wTally x) (h0 : 0 ≤ n) (h1 : n ≤ 1099511627776) : Ret Try.prog n_l_szTally [.agg [.str x.obj, .int .i64 x.rep, .int .i64 x.sum], gi n] σ (gi (lf n (msTally x))) σ := by
  have w0 := hw; unfold wTally at w0
  refine ret_eq ir_l_szTally (Nat.le_of_ble_eq_true rfl) trivial ?_
  simp +contextual (maxSteps := 600000) (disch := omega) only [go_sem, Nat.reduceEqDiff, ↓reduceIte, Int.reduceEq, Int.reduceNeg, wrap_add, F_l_szTally, List.append_nil]
  refine ⟨fun hn => ?_, fun hn => ?_⟩
  · have hn := of_decide_eq_true hn
    unfold msTally lf; rw [if_pos (by omega)]
  have hn := of_decide_eq_false hn
  try simp (disch := omega) only [wrap_add]
  unfold msTally; rw [show lf n (x.obj.size) = n - ((x.obj.size : Nat) : Int) by unfold lf; rw [if_neg (by omega)]]; try omega
end Go.Proofs.Ytopannfdcikgiaa.Sy

/- Contracts of the laws' own functions: HszTallyS. -/
namespace Go.Proofs.Ytopannfdcikgiaa.Sy
open Go Go.RowKit
set_option linter.unusedSimpArgs false
set_option linter.unusedVariables false
abbrev n_l_szTallyS : Nat := 92
def F_l_szTallyS : Fn1 := ⟨27, [.t 4], (.seq (.reg [o 4 (.mov (.k (.int .i64 0)))]) (.seq (.reg [o 6 (.mov (.t 1)), o 7 (.mov (.t 0)), o 8 (.len false (.t 7)), o 9 (.bin .sub (.t 6) (.t 8)), o 1 (.mov (.t 9))]) (.seq (.seq (.reg [o 10 (.mov (.t 1)), o 11 (.bin .lss (.t 10) (.k (.int .i64 0)))]) (.cnd (.t 11) (.seq (.reg [o 4 (.mov (.k (.int .i64 (-1))))]) .ret) .skip)) (.seq (.seq (.reg [o 5 (.mov (.k (.int .i64 0)))]) (.blk 0 (.lop (.seq (.seq (.reg [o 12 (.mov (.t 5)), o 13 (.mov (.t 0)), o 14 (.len false (.t 13)), o 15 (.bin .lss (.t 12) (.t 14))]) (.cnd (.t 15) .skip (.ext 0))) (.seq (.blk 1 (.seq (.reg [o 18 (.mov (.t 0)), o 19 (.mov (.t 5)), o 20 (.iad 3 (.t 18) (.t 19)), o 21 (.ld true 3 (.t 20)), o 22 (.mov (.t 1)), o 23 (.call 120 [(.t 21), (.t 22)]), o 1 (.mov (.t 23))]) (.seq (.reg [o 24 (.mov (.t 1)), o 25 (.bin .lss (.t 24) (.k (.int .i64 0)))]) (.cnd (.t 25) (.seq (.reg [o 4 (.mov (.k (.int .i64 (-1))))]) .ret) .skip)))) (.reg [o 16 (.mov (.t 5)), o 17 (.bin .add (.t 16) (.k (.int .i64 1))), o 5 (.mov (.t 17))])))))) (.seq (.reg [o 26 (.mov (.t 1)), o 4 (.mov (.t 26))]) .ret)))))⟩
theorem ir_l_szTallyS : compFn Try.prog n_l_szTallyS = some F_l_szTallyS := by kernel_rfl
theorem l_szTallyS_ret (σ : St) (v : GV) (l : List Tally) (hR : RS pTally.kd σ v l) (n : Int) (hw : l.length ≤ 9223372036854775807 ∧ ∀ y ∈ l, wTally y) (h0 : 0 ≤ n) (h1 : n ≤ 1099511627776) : Ret Try.prog n_l_szTallyS [v, gi n] σ (gi (lf n (l.length + sumL msTally l))) σ := by
  obtain ⟨wl, we⟩ := hw
  refine ret_eq ir_l_szTallyS (Nat.le_of_ble_eq_true rfl) trivial ?_
  simp +contextual (maxSteps := 600000) (disch := omega) only [go_sem, Nat.reduceEqDiff, ↓reduceIte, Int.reduceEq, Int.reduceNeg, wrap_add, F_l_szTallyS, hR.len]
  refine ⟨fun hn => ?_, fun hn => ?_⟩
  · have hn := of_decide_eq_true hn
    unfold lf; rw [if_pos (by omega)]
  have hn := of_decide_eq_false hn
  refine vc_for l.length 5 (fun i env τ => ∃ m : Int, env 0 = v ∧ env 1 = gi m ∧ m = n - l.length - sumL msTally (l.take i) ∧ 0 ≤ m ∧ σ <+: τ) rfl ⟨n - l.length, rfl, rfl, by simp [sumL], by omega, List.prefix_refl _⟩ ?_ ?_
  · rintro i env τ hi e5 c0 ⟨m, e0, e1, em, hm, hp⟩
    have h1 := hR.pre hp
    have hs := sumL_snoc (f := msTally) hi
    have hst := sumL_take_le msTally l (i + 1)
    simp +contextual (maxSteps := 600000) (disch := omega) only [go_sem, Nat.reduceEqDiff, ↓reduceIte, Int.reduceEq, Int.reduceNeg, wrap_add, c0, e0, e1, e5, hR.len, Tally_at h1 hi]
    refine by_ret (l_szTally_ret τ l[i] m (we _ (List.getElem_mem hi)) hm (by omega)) ?_
    simp +contextual (maxSteps := 600000) (disch := omega) only [go_sem, Nat.reduceEqDiff, ↓reduceIte, Int.reduceEq, Int.reduceNeg, wrap_add, c0, e0, e1, e5, hp]
    have g0 := @lf_le m (msTally l[i]) hm
    have g1 := @lf_ge m (msTally l[i])
    refine ⟨fun hn => ?_, fun hn => ?_⟩
    · have hn := lf_neg.1 (of_decide_eq_true hn)
      unfold lf; rw [if_pos (by omega)]
    · have hn := of_decide_eq_false hn
      have f := lf_some hn
      exact ⟨_, rfl, by omega, by omega⟩
  · rintro env τ e5 c0 ⟨m, e0, e1, em, hm, hp⟩
    rw [List.take_length] at em
    simp +contextual (maxSteps := 600000) (disch := omega) only [go_sem, Nat.reduceEqDiff, ↓reduceIte, Int.reduceEq, Int.reduceNeg, wrap_add, c0, e0, e1, e5, hR.len, hp]
    unfold lf; rw [if_neg (by omega)]; omega
end Go.Proofs.Ytopannfdcikgiaa.Sy

/- Contracts of the laws' own functions: HszState. -/
namespace Go.Proofs.Ytopannfdcikgiaa.Sy
open Go Go.RowKit
set_option linter.unusedSimpArgs false
set_option linter.unusedVariables false
abbrev n_l_szState : Nat := 49
def F_l_szState : Fn1 := ⟨30, [.t 4], (.seq (.reg [o 2 (.box (.t 0)), o 4 (.mov (.k (.int .i64 0)))]) (.seq (.reg [o 5 (.fad 0 (.t 2)), o 6 (.ld false 1 (.t 5)), o 7 (.mov (.t 1)), o 8 (.call 75 [(.t 6), (.t 7)]), o 1 (.mov (.t 8))]) (.seq (.seq (.reg [o 9 (.mov (.t 1)), o 10 (.bin .lss (.t 9) (.k (.int .i64 0)))]) (.cnd (.t 10) (.seq (.reg [o 4 (.mov (.k (.int .i64 (-1))))]) .ret) .skip)) (.seq (.reg [o 11 (.fad 1 (.t 2)), o 12 (.ld false 1 (.t 11)), o 13 (.mov (.t 1)), o 14 (.call 92 [(.t 12), (.t 13)]), o 1 (.mov (.t 14))]) (.seq (.seq (.reg [o 15 (.mov (.t 1)), o 16 (.bin .lss (.t 15) (.k (.int .i64 0)))]) (.cnd (.t 16) (.seq (.reg [o 4 (.mov (.k (.int .i64 (-1))))]) .ret) .skip)) (.seq (.reg [o 17 (.fad 2 (.t 2)), o 18 (.ld false 1 (.t 17)), o 19 (.mov (.t 1)), o 20 (.call 93 [(.t 18), (.t 19)]), o 1 (.mov (.t 20))]) (.seq (.seq (.reg [o 21 (.mov (.t 1)), o 22 (.bin .lss (.t 21) (.k (.int .i64 0)))]) (.cnd (.t 22) (.seq (.reg [o 4 (.mov (.k (.int .i64 (-1))))]) .ret) .skip)) (.seq (.reg [o 23 (.fad 3 (.t 2)), o 24 (.ld false 1 (.t 23)), o 25 (.mov (.t 1)), o 26 (.call 94 [(.t 24), (.t 25)]), o 1 (.mov (.t 26))]) (.seq (.seq (.reg [o 27 (.mov (.t 1)), o 28 (.bin .lss (.t 27) (.k (.int .i64 0)))]) (.cnd (.t 28) (.seq (.reg [o 4 (.mov (.k (.int .i64 (-1))))]) .ret) .skip)) (.seq (.reg [o 29 (.mov (.t 1)), o 4 (.mov (.t 29))]) .ret))))))))))⟩
theorem ir_l_szState : compFn Try.prog n_l_szState = some F_l_szState := by kernel_rfl
theorem l_szState_ret (σ : St) (cs : List GV) (x : State) (hR : kState.R σ x cs) (n : Int) (hw : wState x) (h0 : 0 ≤ n) (h1 : n ≤ 1099511627776) : Ret Try.prog n_l_szState [.agg cs, gi n] σ (gi (lf n (msState x))) σ := by
  obtain ⟨v0, v1, v2, v3, rfl, q0, q1, q2, q3⟩ := hR
  obtain ⟨w0, w1, w2, w3⟩ := hw
  refine ret_eq ir_l_szState (Nat.le_of_ble_eq_true rfl) trivial ?_
  simp +contextual (maxSteps := 600000) (disch := omega) only [go_sem, Nat.reduceEqDiff, ↓reduceIte, Int.reduceEq, Int.reduceNeg, wrap_add, F_l_szState, List.append_nil]
  refine by_ret (l_szIntS_ret _ v0 x.know (q0.pre (pre1 _ _)) (n) w0 (by omega) (by omega)) ?_
  simp +contextual (maxSteps := 600000) (disch := omega) only [go_sem, Nat.reduceEqDiff, ↓reduceIte, Int.reduceEq, Int.reduceNeg, wrap_add, List.append_nil]
  have g0 := @lf_le (n) (x.know.length) (by omega)
  refine ⟨fun hn => ?_, fun hn => ?_⟩
  · have hn := of_decide_eq_true hn
    have hn := lf_neg.1 hn
    unfold msState lf; rw [if_pos (by omega)]
  have hn := of_decide_eq_false hn
  have f0 := lf_some hn
  try simp (disch := omega) only [wrap_add]
  refine by_ret (l_szTallyS_ret _ v1 x.tallies (q1.pre (pre1 _ _)) (lf (n) (x.know.length)) w1 (by omega) (by omega)) ?_
  simp +contextual (maxSteps := 600000) (disch := omega) only [go_sem, Nat.reduceEqDiff, ↓reduceIte, Int.reduceEq, Int.reduceNeg, wrap_add, List.append_nil]
  have g1 := @lf_le (lf (n) (x.know.length)) ((x.tallies.length + sumL msTally x.tallies)) (by omega)
  refine ⟨fun hn => ?_, fun hn => ?_⟩
  · have hn := of_decide_eq_true hn
    have hn := lf_neg.1 hn
    unfold msState lf; rw [if_pos (by omega)]
  have hn := of_decide_eq_false hn
  have f1 := lf_some hn
  try simp (disch := omega) only [wrap_add]
  refine by_ret (l_szLiveS_ret _ v2 x.lives (q2.pre (pre1 _ _)) (lf (lf (n) (x.know.length)) ((x.tallies.length + sumL msTally x.tallies))) w2 (by omega) (by omega)) ?_
  simp +contextual (maxSteps := 600000) (disch := omega) only [go_sem, Nat.reduceEqDiff, ↓reduceIte, Int.reduceEq, Int.reduceNeg, wrap_add, List.append_nil]
  have g2 := @lf_le (lf (lf (n) (x.know.length)) ((x.tallies.length + sumL msTally x.tallies))) ((x.lives.length + sumL msLive x.lives)) (by omega)
  refine ⟨fun hn => ?_, fun hn => ?_⟩
  · have hn := of_decide_eq_true hn
    have hn := lf_neg.1 hn
    unfold msState lf; rw [if_pos (by omega)]
  have hn := of_decide_eq_false hn
  have f2 := lf_some hn
  try simp (disch := omega) only [wrap_add]
  refine by_ret (l_szCellS_ret _ v3 x.cells (q3.pre (pre1 _ _)) (lf (lf (lf (n) (x.know.length)) ((x.tallies.length + sumL msTally x.tallies))) ((x.lives.length + sumL msLive x.lives))) w3 (by omega) (by omega)) ?_
  simp +contextual (maxSteps := 600000) (disch := omega) only [go_sem, Nat.reduceEqDiff, ↓reduceIte, Int.reduceEq, Int.reduceNeg, wrap_add, List.append_nil]
  have g3 := @lf_le (lf (lf (lf (n) (x.know.length)) ((x.tallies.length + sumL msTally x.tallies))) ((x.lives.length + sumL msLive x.lives))) ((x.cells.length + sumL msCell x.cells)) (by omega)
  refine ⟨fun hn => ?_, fun hn => ?_⟩
  · have hn := of_decide_eq_true hn
    have hn := lf_neg.1 hn
    unfold msState lf; rw [if_pos (by omega)]
  have hn := of_decide_eq_false hn
  have f3 := lf_some hn
  try simp (disch := omega) only [wrap_add]
  unfold msState; rw [show lf n (x.know.length + (x.tallies.length + sumL msTally x.tallies) + (x.lives.length + sumL msLive x.lives) + (x.cells.length + sumL msCell x.cells)) = n - ((x.know.length + (x.tallies.length + sumL msTally x.tallies) + (x.lives.length + sumL msLive x.lives) + (x.cells.length + sumL msCell x.cells) : Nat) : Int) by unfold lf; rw [if_neg (by omega)]]; try omega
end Go.Proofs.Ytopannfdcikgiaa.Sy

/- Contracts of the laws' own functions: HtoDot. -/
namespace Go.Proofs.Ytopannfdcikgiaa.Sy
open Go Go.RowKit
set_option linter.unusedSimpArgs false
set_option linter.unusedVariables false
abbrev n_l_toDot : Nat := 55
def F_l_toDot : Fn1 := ⟨11, [.c 2 true 2], (.seq (.reg [o 1 (.box (.t 0)), o 2 (.new [(.int .i64 0), (.int .i64 0)])]) (.seq (.reg [o 3 (.new [(.int .i64 0), (.int .i64 0)])]) (.seq (.reg [o 4 (.fad 0 (.t 1)), o 5 (.ld false 1 (.t 4)), o 6 (.fad 0 (.t 3)), on (.st 1 (.t 6) (.t 5))]) (.seq (.reg [o 7 (.fad 1 (.t 1)), o 8 (.ld false 1 (.t 7)), o 9 (.fad 1 (.t 3)), on (.st 1 (.t 9) (.t 8))]) (.seq (.reg [o 10 (.ld true 2 (.t 3)), on (.st 2 (.t 2) (.t 10))]) .ret)))))⟩
theorem ir_l_toDot : compFn Try.prog n_l_toDot = some F_l_toDot := by kernel_rfl
theorem l_toDot_ret (σ : St) (x : Dot) : Ret Try.prog n_l_toDot [.agg [.int .i64 x.rep, .int .i64 x.seq]] σ (.agg [.int .i64 x.rep, .int .i64 x.seq]) σ := by
  refine ret_eq ir_l_toDot (Nat.le_of_ble_eq_true rfl) (by simp [vLt, cLt, sLt]) ?_
  simp +contextual (maxSteps := 600000) (disch := omega) only [go_sem, Nat.reduceEqDiff, ↓reduceIte, Int.reduceEq, Int.reduceNeg, wrap_add, F_l_toDot]
end Go.Proofs.Ytopannfdcikgiaa.Sy

/- Contracts of the laws' own functions: HtoCell. -/
namespace Go.Proofs.Ytopannfdcikgiaa.Sy
open Go Go.RowKit
set_option linter.unusedSimpArgs false
set_option linter.unusedVariables false
abbrev n_l_toCell : Nat := 125
def F_l_toCell : Fn1 := ⟨25, [.c 2 true 8], (.seq (.reg [o 1 (.box (.t 0)), o 2 (.new [(.str ⟨#[]⟩), (.int .i64 0), (.int .i64 0), (.int .i64 0), (.int .i64 0), (.int .i64 0), (.int .i64 0), (.bool false)])]) (.seq (.reg [o 3 (.new [(.str ⟨#[]⟩), (.int .i64 0), (.int .i64 0), (.int .i64 0), (.int .i64 0), (.int .i64 0), (.int .i64 0), (.bool false)])]) (.seq (.reg [o 4 (.fad 0 (.t 1)), o 5 (.ld false 1 (.t 4)), o 6 (.fad 0 (.t 3)), on (.st 1 (.t 6) (.t 5))]) (.seq (.reg [o 7 (.fad 1 (.t 1)), o 8 (.ld true 2 (.t 7)), o 9 (.call 55 [(.t 8)]), o 10 (.fad 1 (.t 3)), on (.st 2 (.t 10) (.t 9))]) (.seq (.reg [o 11 (.fad 3 (.t 1)), o 12 (.ld false 1 (.t 11)), o 13 (.fad 3 (.t 3)), on (.st 1 (.t 13) (.t 12))]) (.seq (.reg [o 14 (.fad 4 (.t 1)), o 15 (.ld true 2 (.t 14)), o 16 (.call 55 [(.t 15)]), o 17 (.fad 4 (.t 3)), on (.st 2 (.t 17) (.t 16))]) (.seq (.reg [o 18 (.fad 6 (.t 1)), o 19 (.ld false 1 (.t 18)), o 20 (.fad 6 (.t 3)), on (.st 1 (.t 20) (.t 19))]) (.seq (.reg [o 21 (.fad 7 (.t 1)), o 22 (.ld false 1 (.t 21)), o 23 (.fad 7 (.t 3)), on (.st 1 (.t 23) (.t 22))]) (.seq (.reg [o 24 (.ld true 8 (.t 3)), on (.st 8 (.t 2) (.t 24))]) .ret)))))))))⟩
theorem ir_l_toCell : compFn Try.prog n_l_toCell = some F_l_toCell := by kernel_rfl
theorem l_toCell_ret (σ : St) (x : Cell) : Ret Try.prog n_l_toCell [.agg [.str x.obj, .int .i64 x.dot.rep, .int .i64 x.dot.seq, .int .i64 x.time, .int .i64 x.ref.rep, .int .i64 x.ref.seq, .int .i64 x.val, .bool x.gone]] σ (.agg [.str x.obj, .int .i64 x.dot.rep, .int .i64 x.dot.seq, .int .i64 x.time, .int .i64 x.ref.rep, .int .i64 x.ref.seq, .int .i64 x.val, .bool x.gone]) σ := by
  refine ret_eq ir_l_toCell (Nat.le_of_ble_eq_true rfl) (by simp [vLt, cLt, sLt]) ?_
  simp +contextual (maxSteps := 600000) (disch := omega) only [go_sem, Nat.reduceEqDiff, ↓reduceIte, Int.reduceEq, Int.reduceNeg, wrap_add, F_l_toCell]
  refine by_ret (l_toDot_ret _ x.dot) ?_
  simp +contextual (maxSteps := 600000) (disch := omega) only [go_sem, Nat.reduceEqDiff, ↓reduceIte, Int.reduceEq, Int.reduceNeg, wrap_add, List.append_nil]
  refine by_ret (l_toDot_ret _ x.ref) ?_
  simp +contextual (maxSteps := 600000) (disch := omega) only [go_sem, Nat.reduceEqDiff, ↓reduceIte, Int.reduceEq, Int.reduceNeg, wrap_add, List.append_nil]
end Go.Proofs.Ytopannfdcikgiaa.Sy

/- Contracts of the laws' own functions: HtoCellS. -/
namespace Go.Proofs.Ytopannfdcikgiaa.Sy
open Go Go.RowKit
set_option linter.unusedSimpArgs false
set_option linter.unusedVariables false
abbrev n_l_toCellS : Nat := 97
def F_l_toCellS : Fn1 := ⟨23, [.t 2], (.seq (.reg [o 2 (.mov (.k .nilS))]) (.seq (.reg [o 5 (.mov (.t 0)), o 6 (.len false (.t 5)), o 7 (.mks 8 72 [(.str ⟨#[]⟩), (.int .i64 0), (.int .i64 0), (.int .i64 0), (.int .i64 0), (.int .i64 0), (.int .i64 0), (.bool false)] (.t 6) (.t 6)), o 3 (.mov (.t 7))]) (.seq (.seq (.reg [o 4 (.mov (.k (.int .i64 0)))]) (.blk 0 (.lop (.seq (.seq (.reg [o 8 (.mov (.t 4)), o 9 (.mov (.t 0)), o 10 (.len false (.t 9)), o 11 (.bin .lss (.t 8) (.t 10))]) (.cnd (.t 11) .skip (.ext 0))) (.seq (.blk 1 (.reg [o 14 (.mov (.t 3)), o 15 (.mov (.t 4)), o 16 (.mov (.t 0)), o 17 (.mov (.t 4)), o 18 (.iad 8 (.t 16) (.t 17)), o 19 (.ld true 8 (.t 18)), o 20 (.call 125 [(.t 19)]), o 21 (.iad 8 (.t 14) (.t 15)), on (.st 8 (.t 21) (.t 20))])) (.reg [o 12 (.mov (.t 4)), o 13 (.bin .add (.t 12) (.k (.int .i64 1))), o 4 (.mov (.t 13))])))))) (.seq (.reg [o 22 (.mov (.t 3)), o 2 (.mov (.t 22))]) .ret))))⟩
theorem ir_l_toCellS : compFn Try.prog n_l_toCellS = some F_l_toCellS := by kernel_rfl
theorem l_toCellS_ret (σ : St) (v : GV) (l : List Cell) (hR : RS pCell.kd σ v l) (hl : l.length ≤ 1099511627776) : ∃ r τ, Ret Try.prog n_l_toCellS [v] σ r τ ∧ Hp σ τ [ow pCell.kd r l] := by
  refine ret_hp (rs := fun r => [ow pCell.kd r l]) ir_l_toCellS (Nat.le_of_ble_eq_true rfl) ?_
  have hmk : ∀ ze, mksG 8 72 ze σ (some l.length) (some l.length) = some (.sl σ.length 0 l.length, σ ++ [some (.row 8 (reps l.length ze))]) := fun ze => mks_ok (by omega)
  simp +contextual (maxSteps := 600000) (disch := omega) only [go_sem, Nat.reduceEqDiff, ↓reduceIte, Int.reduceEq, Int.reduceNeg, wrap_add, F_l_toCellS, hR.len, hmk]
  have H0 := ((Hp.refl σ).new 8 (reps l.length (pCell.enc ⟨⟨#[]⟩, ⟨0, 0⟩, 0, ⟨0, 0⟩, 0, false⟩))).toRow 0 (p := pCell) rfl (List.replicate l.length ⟨⟨#[]⟩, ⟨0, 0⟩, 0, ⟨0, 0⟩, 0, false⟩) rfl (reps_enc _ _ _) l.length (by simp)
  refine vc_for l.length 4 (fun i env τ => env 0 = v ∧ env 3 = .sl σ.length 0 l.length ∧ Hp σ τ [ow pCell.kd (.sl σ.length 0 l.length) (l.take i ++ List.replicate (l.length - i) ⟨⟨#[]⟩, ⟨0, 0⟩, 0, ⟨0, 0⟩, 0, false⟩)]) rfl ⟨rfl, rfl, by rw [List.take_zero, List.nil_append, Nat.sub_zero]; exact H0⟩ ?_ ?_
  · rintro i env τ hi e4 c0 ⟨e0, e3, H⟩
    have h1 := hR.pre H.sub
    have h2 := H.sl 0 rfl
    have hj := fill_len (z := (⟨⟨#[]⟩, ⟨0, 0⟩, 0, ⟨0, 0⟩, 0, false⟩ : Cell)) hi
    simp +contextual (maxSteps := 600000) (disch := omega) only [go_sem, Nat.reduceEqDiff, ↓reduceIte, Int.reduceEq, Int.reduceNeg, wrap_add, e0, e3, e4, c0, hR.len, Cell_at h1 hi]
    refine by_ret (l_toCell_ret τ l[i]) ?_
    obtain ⟨τ', es, H'⟩ := H.stw 0 rfl hj 8 (.agg [.str l[i].obj, .int .i64 l[i].dot.rep, .int .i64 l[i].dot.seq, .int .i64 l[i].time, .int .i64 l[i].ref.rep, .int .i64 l[i].ref.seq, .int .i64 l[i].val, .bool l[i].gone]) l[i] rfl rfl (by decide)
    rw [fill_step hi] at H'
    have es : stG 8 τ (atz 8 (.sl σ.length 0 l.length) i) (.agg [.str l[i].obj, .int .i64 l[i].dot.rep, .int .i64 l[i].dot.seq, .int .i64 l[i].time, .int .i64 l[i].ref.rep, .int .i64 l[i].ref.seq, .int .i64 l[i].val, .bool l[i].gone]) = some (.tup [], τ') := es
    simp +contextual (maxSteps := 600000) (disch := omega) only [go_sem, Nat.reduceEqDiff, ↓reduceIte, Int.reduceEq, Int.reduceNeg, wrap_add, e0, e3, e4, c0, hR.len, Cell_at h1 hi, Cell_at h2 hj, es]
    exact H'
  · rintro env τ e4 c0 ⟨e0, e3, H⟩
    rw [fill_end] at H
    simp +contextual (maxSteps := 600000) (disch := omega) only [go_sem, Nat.reduceEqDiff, ↓reduceIte, Int.reduceEq, Int.reduceNeg, wrap_add, e0, e3, e4, c0, hR.len]
    exact ⟨_, rfl, H⟩
end Go.Proofs.Ytopannfdcikgiaa.Sy

/- Contracts of the laws' own functions: HtoIntS. -/
namespace Go.Proofs.Ytopannfdcikgiaa.Sy
open Go Go.RowKit
set_option linter.unusedSimpArgs false
set_option linter.unusedVariables false
abbrev n_l_toIntS : Nat := 20
def F_l_toIntS : Fn1 := ⟨22, [.t 2], (.seq (.reg [o 2 (.mov (.k .nilS))]) (.seq (.reg [o 5 (.mov (.t 0)), o 6 (.len false (.t 5)), o 7 (.mks 1 8 [(.int .i64 0)] (.t 6) (.t 6)), o 3 (.mov (.t 7))]) (.seq (.seq (.reg [o 4 (.mov (.k (.int .i64 0)))]) (.blk 0 (.lop (.seq (.seq (.reg [o 8 (.mov (.t 4)), o 9 (.mov (.t 0)), o 10 (.len false (.t 9)), o 11 (.bin .lss (.t 8) (.t 10))]) (.cnd (.t 11) .skip (.ext 0))) (.seq (.blk 1 (.reg [o 14 (.mov (.t 3)), o 15 (.mov (.t 4)), o 16 (.mov (.t 0)), o 17 (.mov (.t 4)), o 18 (.iad 1 (.t 16) (.t 17)), o 19 (.ld false 1 (.t 18)), o 20 (.iad 1 (.t 14) (.t 15)), on (.st 1 (.t 20) (.t 19))])) (.reg [o 12 (.mov (.t 4)), o 13 (.bin .add (.t 12) (.k (.int .i64 1))), o 4 (.mov (.t 13))])))))) (.seq (.reg [o 21 (.mov (.t 3)), o 2 (.mov (.t 21))]) .ret))))⟩
theorem ir_l_toIntS : compFn Try.prog n_l_toIntS = some F_l_toIntS := by kernel_rfl
theorem l_toIntS_ret (σ : St) (v : GV) (l : List Int) (hR : RS pI.kd σ v l) (hl : l.length ≤ 1099511627776) : ∃ r τ, Ret Try.prog n_l_toIntS [v] σ r τ ∧ Hp σ τ [ow pI.kd r l] := by
  refine ret_hp (rs := fun r => [ow pI.kd r l]) ir_l_toIntS (Nat.le_of_ble_eq_true rfl) ?_
  have hmk : ∀ ze, mksG 1 8 ze σ (some l.length) (some l.length) = some (.sl σ.length 0 l.length, σ ++ [some (.row 1 (reps l.length ze))]) := fun ze => mks_ok (by omega)
  simp +contextual (maxSteps := 600000) (disch := omega) only [go_sem, Nat.reduceEqDiff, ↓reduceIte, Int.reduceEq, Int.reduceNeg, wrap_add, F_l_toIntS, hR.len, hmk]
  have H0 := ((Hp.refl σ).new 1 (reps l.length (pI.enc 0))).toRow 0 (p := pI) rfl (List.replicate l.length 0) rfl (reps_enc _ _ _) l.length (by simp)
  refine vc_for l.length 4 (fun i env τ => env 0 = v ∧ env 3 = .sl σ.length 0 l.length ∧ Hp σ τ [ow pI.kd (.sl σ.length 0 l.length) (l.take i ++ List.replicate (l.length - i) 0)]) rfl ⟨rfl, rfl, by rw [List.take_zero, List.nil_append, Nat.sub_zero]; exact H0⟩ ?_ ?_
  · rintro i env τ hi e4 c0 ⟨e0, e3, H⟩
    have h1 := hR.pre H.sub
    have h2 := H.sl 0 rfl
    have hj := fill_len (z := (0 : Int)) hi
    obtain ⟨τ', es, H'⟩ := H.stw 0 rfl hj 1 (.int .i64 l[i]) l[i] rfl rfl (by decide)
    rw [fill_step hi] at H'
    have es : stG 1 τ (atz 1 (.sl σ.length 0 l.length) i) (.int .i64 l[i]) = some (.tup [], τ') := es
    simp +contextual (maxSteps := 600000) (disch := omega) only [go_sem, Nat.reduceEqDiff, ↓reduceIte, Int.reduceEq, Int.reduceNeg, wrap_add, e0, e3, e4, c0, hR.len, int_at h1 hi, int_at h2 hj, es]
    exact H'
  · rintro env τ e4 c0 ⟨e0, e3, H⟩
    rw [fill_end] at H
    simp +contextual (maxSteps := 600000) (disch := omega) only [go_sem, Nat.reduceEqDiff, ↓reduceIte, Int.reduceEq, Int.reduceNeg, wrap_add, e0, e3, e4, c0, hR.len]
    exact ⟨_, rfl, H⟩
end Go.Proofs.Ytopannfdcikgiaa.Sy

/- Contracts of the laws' own functions: HtoLive. -/
namespace Go.Proofs.Ytopannfdcikgiaa.Sy
open Go Go.RowKit
set_option linter.unusedSimpArgs false
set_option linter.unusedVariables false
abbrev n_l_toLive : Nat := 124
def F_l_toLive : Fn1 := ⟨21, [.c 2 true 6], (.seq (.reg [o 1 (.box (.t 0)), o 2 (.new [(.bool false), (.str ⟨#[]⟩), (.str ⟨#[]⟩), (.int .i64 0), (.int .i64 0), (.int .i64 0)])]) (.seq (.reg [o 3 (.new [(.bool false), (.str ⟨#[]⟩), (.str ⟨#[]⟩), (.int .i64 0), (.int .i64 0), (.int .i64 0)])]) (.seq (.reg [o 4 (.fad 0 (.t 1)), o 5 (.ld false 1 (.t 4)), o 6 (.fad 0 (.t 3)), on (.st 1 (.t 6) (.t 5))]) (.seq (.reg [o 7 (.fad 1 (.t 1)), o 8 (.ld false 1 (.t 7)), o 9 (.fad 1 (.t 3)), on (.st 1 (.t 9) (.t 8))]) (.seq (.reg [o 10 (.fad 2 (.t 1)), o 11 (.ld false 1 (.t 10)), o 12 (.fad 2 (.t 3)), on (.st 1 (.t 12) (.t 11))]) (.seq (.reg [o 13 (.fad 3 (.t 1)), o 14 (.ld false 1 (.t 13)), o 15 (.fad 3 (.t 3)), on (.st 1 (.t 15) (.t 14))]) (.seq (.reg [o 16 (.fad 4 (.t 1)), o 17 (.ld true 2 (.t 16)), o 18 (.call 55 [(.t 17)]), o 19 (.fad 4 (.t 3)), on (.st 2 (.t 19) (.t 18))]) (.seq (.reg [o 20 (.ld true 6 (.t 3)), on (.st 6 (.t 2) (.t 20))]) .ret))))))))⟩
theorem ir_l_toLive : compFn Try.prog n_l_toLive = some F_l_toLive := by kernel_rfl
theorem l_toLive_ret (σ : St) (x : Live) : Ret Try.prog n_l_toLive [.agg [.bool x.map, .str x.obj, .str x.key, .int .i64 x.val, .int .i64 x.dot.rep, .int .i64 x.dot.seq]] σ (.agg [.bool x.map, .str x.obj, .str x.key, .int .i64 x.val, .int .i64 x.dot.rep, .int .i64 x.dot.seq]) σ := by
  refine ret_eq ir_l_toLive (Nat.le_of_ble_eq_true rfl) (by simp [vLt, cLt, sLt]) ?_
  simp +contextual (maxSteps := 600000) (disch := omega) only [go_sem, Nat.reduceEqDiff, ↓reduceIte, Int.reduceEq, Int.reduceNeg, wrap_add, F_l_toLive]
  refine by_ret (l_toDot_ret _ x.dot) ?_
  simp +contextual (maxSteps := 600000) (disch := omega) only [go_sem, Nat.reduceEqDiff, ↓reduceIte, Int.reduceEq, Int.reduceNeg, wrap_add, List.append_nil]
end Go.Proofs.Ytopannfdcikgiaa.Sy

/- Contracts of the laws' own functions: HtoLiveS. -/
namespace Go.Proofs.Ytopannfdcikgiaa.Sy
open Go Go.RowKit
set_option linter.unusedSimpArgs false
set_option linter.unusedVariables false
abbrev n_l_toLiveS : Nat := 96
def F_l_toLiveS : Fn1 := ⟨23, [.t 2], (.seq (.reg [o 2 (.mov (.k .nilS))]) (.seq (.reg [o 5 (.mov (.t 0)), o 6 (.len false (.t 5)), o 7 (.mks 6 64 [(.bool false), (.str ⟨#[]⟩), (.str ⟨#[]⟩), (.int .i64 0), (.int .i64 0), (.int .i64 0)] (.t 6) (.t 6)), o 3 (.mov (.t 7))]) (.seq (.seq (.reg [o 4 (.mov (.k (.int .i64 0)))]) (.blk 0 (.lop (.seq (.seq (.reg [o 8 (.mov (.t 4)), o 9 (.mov (.t 0)), o 10 (.len false (.t 9)), o 11 (.bin .lss (.t 8) (.t 10))]) (.cnd (.t 11) .skip (.ext 0))) (.seq (.blk 1 (.reg [o 14 (.mov (.t 3)), o 15 (.mov (.t 4)), o 16 (.mov (.t 0)), o 17 (.mov (.t 4)), o 18 (.iad 6 (.t 16) (.t 17)), o 19 (.ld true 6 (.t 18)), o 20 (.call 124 [(.t 19)]), o 21 (.iad 6 (.t 14) (.t 15)), on (.st 6 (.t 21) (.t 20))])) (.reg [o 12 (.mov (.t 4)), o 13 (.bin .add (.t 12) (.k (.int .i64 1))), o 4 (.mov (.t 13))])))))) (.seq (.reg [o 22 (.mov (.t 3)), o 2 (.mov (.t 22))]) .ret))))⟩
theorem ir_l_toLiveS : compFn Try.prog n_l_toLiveS = some F_l_toLiveS := by kernel_rfl
theorem l_toLiveS_ret (σ : St) (v : GV) (l : List Live) (hR : RS pLive.kd σ v l) (hl : l.length ≤ 1099511627776) : ∃ r τ, Ret Try.prog n_l_toLiveS [v] σ r τ ∧ Hp σ τ [ow pLive.kd r l] := by
  refine ret_hp (rs := fun r => [ow pLive.kd r l]) ir_l_toLiveS (Nat.le_of_ble_eq_true rfl) ?_
  have hmk : ∀ ze, mksG 6 64 ze σ (some l.length) (some l.length) = some (.sl σ.length 0 l.length, σ ++ [some (.row 6 (reps l.length ze))]) := fun ze => mks_ok (by omega)
  simp +contextual (maxSteps := 600000) (disch := omega) only [go_sem, Nat.reduceEqDiff, ↓reduceIte, Int.reduceEq, Int.reduceNeg, wrap_add, F_l_toLiveS, hR.len, hmk]
  have H0 := ((Hp.refl σ).new 6 (reps l.length (pLive.enc ⟨false, ⟨#[]⟩, ⟨#[]⟩, 0, ⟨0, 0⟩⟩))).toRow 0 (p := pLive) rfl (List.replicate l.length ⟨false, ⟨#[]⟩, ⟨#[]⟩, 0, ⟨0, 0⟩⟩) rfl (reps_enc _ _ _) l.length (by simp)
  refine vc_for l.length 4 (fun i env τ => env 0 = v ∧ env 3 = .sl σ.length 0 l.length ∧ Hp σ τ [ow pLive.kd (.sl σ.length 0 l.length) (l.take i ++ List.replicate (l.length - i) ⟨false, ⟨#[]⟩, ⟨#[]⟩, 0, ⟨0, 0⟩⟩)]) rfl ⟨rfl, rfl, by rw [List.take_zero, List.nil_append, Nat.sub_zero]; exact H0⟩ ?_ ?_
  · rintro i env τ hi e4 c0 ⟨e0, e3, H⟩
    have h1 := hR.pre H.sub
    have h2 := H.sl 0 rfl
    have hj := fill_len (z := (⟨false, ⟨#[]⟩, ⟨#[]⟩, 0, ⟨0, 0⟩⟩ : Live)) hi
    simp +contextual (maxSteps := 600000) (disch := omega) only [go_sem, Nat.reduceEqDiff, ↓reduceIte, Int.reduceEq, Int.reduceNeg, wrap_add, e0, e3, e4, c0, hR.len, Live_at h1 hi]
    refine by_ret (l_toLive_ret τ l[i]) ?_
    obtain ⟨τ', es, H'⟩ := H.stw 0 rfl hj 6 (.agg [.bool l[i].map, .str l[i].obj, .str l[i].key, .int .i64 l[i].val, .int .i64 l[i].dot.rep, .int .i64 l[i].dot.seq]) l[i] rfl rfl (by decide)
    rw [fill_step hi] at H'
    have es : stG 6 τ (atz 6 (.sl σ.length 0 l.length) i) (.agg [.bool l[i].map, .str l[i].obj, .str l[i].key, .int .i64 l[i].val, .int .i64 l[i].dot.rep, .int .i64 l[i].dot.seq]) = some (.tup [], τ') := es
    simp +contextual (maxSteps := 600000) (disch := omega) only [go_sem, Nat.reduceEqDiff, ↓reduceIte, Int.reduceEq, Int.reduceNeg, wrap_add, e0, e3, e4, c0, hR.len, Live_at h1 hi, Live_at h2 hj, es]
    exact H'
  · rintro env τ e4 c0 ⟨e0, e3, H⟩
    rw [fill_end] at H
    simp +contextual (maxSteps := 600000) (disch := omega) only [go_sem, Nat.reduceEqDiff, ↓reduceIte, Int.reduceEq, Int.reduceNeg, wrap_add, e0, e3, e4, c0, hR.len]
    exact ⟨_, rfl, H⟩
end Go.Proofs.Ytopannfdcikgiaa.Sy

/- Contracts of the laws' own functions: HtoTally. -/
namespace Go.Proofs.Ytopannfdcikgiaa.Sy
open Go Go.RowKit
set_option linter.unusedSimpArgs false
set_option linter.unusedVariables false
abbrev n_l_toTally : Nat := 123
def F_l_toTally : Fn1 := ⟨14, [.c 2 true 3], (.seq (.reg [o 1 (.box (.t 0)), o 2 (.new [(.str ⟨#[]⟩), (.int .i64 0), (.int .i64 0)])]) (.seq (.reg [o 3 (.new [(.str ⟨#[]⟩), (.int .i64 0), (.int .i64 0)])]) (.seq (.reg [o 4 (.fad 0 (.t 1)), o 5 (.ld false 1 (.t 4)), o 6 (.fad 0 (.t 3)), on (.st 1 (.t 6) (.t 5))]) (.seq (.reg [o 7 (.fad 1 (.t 1)), o 8 (.ld false 1 (.t 7)), o 9 (.fad 1 (.t 3)), on (.st 1 (.t 9) (.t 8))]) (.seq (.reg [o 10 (.fad 2 (.t 1)), o 11 (.ld false 1 (.t 10)), o 12 (.fad 2 (.t 3)), on (.st 1 (.t 12) (.t 11))]) (.seq (.reg [o 13 (.ld true 3 (.t 3)), on (.st 3 (.t 2) (.t 13))]) .ret))))))⟩
theorem ir_l_toTally : compFn Try.prog n_l_toTally = some F_l_toTally := by kernel_rfl
theorem l_toTally_ret (σ : St) (x : Tally) : Ret Try.prog n_l_toTally [.agg [.str x.obj, .int .i64 x.rep, .int .i64 x.sum]] σ (.agg [.str x.obj, .int .i64 x.rep, .int .i64 x.sum]) σ := by
  refine ret_eq ir_l_toTally (Nat.le_of_ble_eq_true rfl) (by simp [vLt, cLt, sLt]) ?_
  simp +contextual (maxSteps := 600000) (disch := omega) only [go_sem, Nat.reduceEqDiff, ↓reduceIte, Int.reduceEq, Int.reduceNeg, wrap_add, F_l_toTally]
end Go.Proofs.Ytopannfdcikgiaa.Sy

/- Contracts of the laws' own functions: HtoTallyS. -/
namespace Go.Proofs.Ytopannfdcikgiaa.Sy
open Go Go.RowKit
set_option linter.unusedSimpArgs false
set_option linter.unusedVariables false
abbrev n_l_toTallyS : Nat := 95
def F_l_toTallyS : Fn1 := ⟨23, [.t 2], (.seq (.reg [o 2 (.mov (.k .nilS))]) (.seq (.reg [o 5 (.mov (.t 0)), o 6 (.len false (.t 5)), o 7 (.mks 3 32 [(.str ⟨#[]⟩), (.int .i64 0), (.int .i64 0)] (.t 6) (.t 6)), o 3 (.mov (.t 7))]) (.seq (.seq (.reg [o 4 (.mov (.k (.int .i64 0)))]) (.blk 0 (.lop (.seq (.seq (.reg [o 8 (.mov (.t 4)), o 9 (.mov (.t 0)), o 10 (.len false (.t 9)), o 11 (.bin .lss (.t 8) (.t 10))]) (.cnd (.t 11) .skip (.ext 0))) (.seq (.blk 1 (.reg [o 14 (.mov (.t 3)), o 15 (.mov (.t 4)), o 16 (.mov (.t 0)), o 17 (.mov (.t 4)), o 18 (.iad 3 (.t 16) (.t 17)), o 19 (.ld true 3 (.t 18)), o 20 (.call 123 [(.t 19)]), o 21 (.iad 3 (.t 14) (.t 15)), on (.st 3 (.t 21) (.t 20))])) (.reg [o 12 (.mov (.t 4)), o 13 (.bin .add (.t 12) (.k (.int .i64 1))), o 4 (.mov (.t 13))])))))) (.seq (.reg [o 22 (.mov (.t 3)), o 2 (.mov (.t 22))]) .ret))))⟩
theorem ir_l_toTallyS : compFn Try.prog n_l_toTallyS = some F_l_toTallyS := by kernel_rfl
theorem l_toTallyS_ret (σ : St) (v : GV) (l : List Tally) (hR : RS pTally.kd σ v l) (hl : l.length ≤ 1099511627776) : ∃ r τ, Ret Try.prog n_l_toTallyS [v] σ r τ ∧ Hp σ τ [ow pTally.kd r l] := by
  refine ret_hp (rs := fun r => [ow pTally.kd r l]) ir_l_toTallyS (Nat.le_of_ble_eq_true rfl) ?_
  have hmk : ∀ ze, mksG 3 32 ze σ (some l.length) (some l.length) = some (.sl σ.length 0 l.length, σ ++ [some (.row 3 (reps l.length ze))]) := fun ze => mks_ok (by omega)
  simp +contextual (maxSteps := 600000) (disch := omega) only [go_sem, Nat.reduceEqDiff, ↓reduceIte, Int.reduceEq, Int.reduceNeg, wrap_add, F_l_toTallyS, hR.len, hmk]
  have H0 := ((Hp.refl σ).new 3 (reps l.length (pTally.enc ⟨⟨#[]⟩, 0, 0⟩))).toRow 0 (p := pTally) rfl (List.replicate l.length ⟨⟨#[]⟩, 0, 0⟩) rfl (reps_enc _ _ _) l.length (by simp)
  refine vc_for l.length 4 (fun i env τ => env 0 = v ∧ env 3 = .sl σ.length 0 l.length ∧ Hp σ τ [ow pTally.kd (.sl σ.length 0 l.length) (l.take i ++ List.replicate (l.length - i) ⟨⟨#[]⟩, 0, 0⟩)]) rfl ⟨rfl, rfl, by rw [List.take_zero, List.nil_append, Nat.sub_zero]; exact H0⟩ ?_ ?_
  · rintro i env τ hi e4 c0 ⟨e0, e3, H⟩
    have h1 := hR.pre H.sub
    have h2 := H.sl 0 rfl
    have hj := fill_len (z := (⟨⟨#[]⟩, 0, 0⟩ : Tally)) hi
    simp +contextual (maxSteps := 600000) (disch := omega) only [go_sem, Nat.reduceEqDiff, ↓reduceIte, Int.reduceEq, Int.reduceNeg, wrap_add, e0, e3, e4, c0, hR.len, Tally_at h1 hi]
    refine by_ret (l_toTally_ret τ l[i]) ?_
    obtain ⟨τ', es, H'⟩ := H.stw 0 rfl hj 3 (.agg [.str l[i].obj, .int .i64 l[i].rep, .int .i64 l[i].sum]) l[i] rfl rfl (by decide)
    rw [fill_step hi] at H'
    have es : stG 3 τ (atz 3 (.sl σ.length 0 l.length) i) (.agg [.str l[i].obj, .int .i64 l[i].rep, .int .i64 l[i].sum]) = some (.tup [], τ') := es
    simp +contextual (maxSteps := 600000) (disch := omega) only [go_sem, Nat.reduceEqDiff, ↓reduceIte, Int.reduceEq, Int.reduceNeg, wrap_add, e0, e3, e4, c0, hR.len, Tally_at h1 hi, Tally_at h2 hj, es]
    exact H'
  · rintro env τ e4 c0 ⟨e0, e3, H⟩
    rw [fill_end] at H
    simp +contextual (maxSteps := 600000) (disch := omega) only [go_sem, Nat.reduceEqDiff, ↓reduceIte, Int.reduceEq, Int.reduceNeg, wrap_add, e0, e3, e4, c0, hR.len]
    exact ⟨_, rfl, H⟩
end Go.Proofs.Ytopannfdcikgiaa.Sy

/- Contracts of the laws' own functions: HtoState. -/
namespace Go.Proofs.Ytopannfdcikgiaa.Sy
open Go Go.RowKit
set_option linter.unusedSimpArgs false
set_option linter.unusedVariables false
abbrev n_l_toState : Nat := 51
def F_l_toState : Fn1 := ⟨21, [.c 2 true 4], (.seq (.reg [o 1 (.box (.t 0)), o 2 (.new [.nilS, .nilS, .nilS, .nilS])]) (.seq (.reg [o 3 (.new [.nilS, .nilS, .nilS, .nilS])]) (.seq (.reg [o 4 (.fad 0 (.t 1)), o 5 (.ld false 1 (.t 4)), o 6 (.call 20 [(.t 5)]), o 7 (.fad 0 (.t 3)), on (.st 1 (.t 7) (.t 6))]) (.seq (.reg [o 8 (.fad 1 (.t 1)), o 9 (.ld false 1 (.t 8)), o 10 (.call 95 [(.t 9)]), o 11 (.fad 1 (.t 3)), on (.st 1 (.t 11) (.t 10))]) (.seq (.reg [o 12 (.fad 2 (.t 1)), o 13 (.ld false 1 (.t 12)), o 14 (.call 96 [(.t 13)]), o 15 (.fad 2 (.t 3)), on (.st 1 (.t 15) (.t 14))]) (.seq (.reg [o 16 (.fad 3 (.t 1)), o 17 (.ld false 1 (.t 16)), o 18 (.call 97 [(.t 17)]), o 19 (.fad 3 (.t 3)), on (.st 1 (.t 19) (.t 18))]) (.seq (.reg [o 20 (.ld true 4 (.t 3)), on (.st 4 (.t 2) (.t 20))]) .ret)))))))⟩
theorem ir_l_toState : compFn Try.prog n_l_toState = some F_l_toState := by kernel_rfl
theorem l_toState_ret (σ : St) (cs : List GV) (x : State) (hR : kState.R σ x cs) (hl : msState x ≤ 1099511627776) : ∃ r τ, Ret Try.prog n_l_toState [.agg cs] σ r τ ∧ σ <+: τ ∧ ∃ ds, r = .agg ds ∧ Hp σ τ [own kState ds x] := by
  have hlen := kState.len hR
  have hlen : cs.length = 4 := hlen
  obtain ⟨v0, v1, v2, v3, rfl, q0, q1, q2, q3⟩ := hR
  unfold msState at hl
  refine ret_new ir_l_toState (Nat.le_of_ble_eq_true rfl) ?_
  simp +contextual (maxSteps := 600000) (disch := omega) only [go_sem, Nat.reduceEqDiff, ↓reduceIte, Int.reduceEq, Int.reduceNeg, wrap_add, F_l_toState, List.append_nil]
  have H := (((Hp.refl σ).new 1 (v0 :: v1 :: v2 :: v3 :: [])).new 1 [GV.nilS, GV.nilS, GV.nilS, GV.nilS]).new 1 [GV.nilS, GV.nilS, GV.nilS, GV.nilS]
  obtain ⟨r0, τ0, R0, K0⟩ := l_toIntS_ret _ v0 x.know (q0.pre H.sub) (by omega)
  refine by_hp R0 K0 ?_
  have e0 := (K0.sl 0 rfl).cell
  have H := H.add K0
  try simp only [go_sem] at H
  try simp +contextual (maxSteps := 600000) (disch := omega) only [go_sem, Nat.reduceEqDiff, ↓reduceIte, Int.reduceEq, Int.reduceNeg, wrap_add, List.append_nil, ld_ptr (H.pt 3 rfl), ld_ptr (H.pt 1 rfl)]
  obtain ⟨_, es, H, _⟩ := H.st 1 rfl 1 0 (r0) (by rw [e0]; rfl) (by decide) (Nat.le_of_ble_eq_true rfl)
  try simp only [go_sem, List.set_cons_zero, List.set_cons_succ, e0] at H
  try simp +contextual (maxSteps := 600000) (disch := omega) only [go_sem, Nat.reduceEqDiff, ↓reduceIte, Int.reduceEq, Int.reduceNeg, wrap_add, List.append_nil, es, ld_ptr (H.pt 3 rfl), ld_ptr (H.pt 1 rfl)]
  obtain ⟨r1, τ1, R1, K1⟩ := l_toTallyS_ret _ v1 x.tallies (q1.pre H.sub) (by omega)
  refine by_hp R1 K1 ?_
  have e1 := (K1.sl 0 rfl).cell
  have H := H.add K1
  try simp only [go_sem] at H
  try simp +contextual (maxSteps := 600000) (disch := omega) only [go_sem, Nat.reduceEqDiff, ↓reduceIte, Int.reduceEq, Int.reduceNeg, wrap_add, List.append_nil, ld_ptr (H.pt 4 rfl), ld_ptr (H.pt 2 rfl)]
  obtain ⟨_, es, H, _⟩ := H.st 2 rfl 1 1 (r1) (by rw [e1]; rfl) (by decide) (Nat.le_of_ble_eq_true rfl)
  try simp only [go_sem, List.set_cons_zero, List.set_cons_succ, e1] at H
  try simp +contextual (maxSteps := 600000) (disch := omega) only [go_sem, Nat.reduceEqDiff, ↓reduceIte, Int.reduceEq, Int.reduceNeg, wrap_add, List.append_nil, es, ld_ptr (H.pt 4 rfl), ld_ptr (H.pt 2 rfl)]
  obtain ⟨r2, τ2, R2, K2⟩ := l_toLiveS_ret _ v2 x.lives (q2.pre H.sub) (by omega)
  refine by_hp R2 K2 ?_
  have e2 := (K2.sl 0 rfl).cell
  have H := H.add K2
  try simp only [go_sem] at H
  try simp +contextual (maxSteps := 600000) (disch := omega) only [go_sem, Nat.reduceEqDiff, ↓reduceIte, Int.reduceEq, Int.reduceNeg, wrap_add, List.append_nil, ld_ptr (H.pt 5 rfl), ld_ptr (H.pt 3 rfl)]
  obtain ⟨_, es, H, _⟩ := H.st 3 rfl 1 2 (r2) (by rw [e2]; rfl) (by decide) (Nat.le_of_ble_eq_true rfl)
  try simp only [go_sem, List.set_cons_zero, List.set_cons_succ, e2] at H
  try simp +contextual (maxSteps := 600000) (disch := omega) only [go_sem, Nat.reduceEqDiff, ↓reduceIte, Int.reduceEq, Int.reduceNeg, wrap_add, List.append_nil, es, ld_ptr (H.pt 5 rfl), ld_ptr (H.pt 3 rfl)]
  obtain ⟨r3, τ3, R3, K3⟩ := l_toCellS_ret _ v3 x.cells (q3.pre H.sub) (by omega)
  refine by_hp R3 K3 ?_
  have e3 := (K3.sl 0 rfl).cell
  have H := H.add K3
  try simp only [go_sem] at H
  try simp +contextual (maxSteps := 600000) (disch := omega) only [go_sem, Nat.reduceEqDiff, ↓reduceIte, Int.reduceEq, Int.reduceNeg, wrap_add, List.append_nil, ld_ptr (H.pt 6 rfl), ld_ptr (H.pt 4 rfl)]
  obtain ⟨_, es, H, _⟩ := H.st 4 rfl 1 3 (r3) (by rw [e3]; rfl) (by decide) (Nat.le_of_ble_eq_true rfl)
  try simp only [go_sem, List.set_cons_zero, List.set_cons_succ, e3] at H
  try simp +contextual (maxSteps := 600000) (disch := omega) only [go_sem, Nat.reduceEqDiff, ↓reduceIte, Int.reduceEq, Int.reduceNeg, wrap_add, List.append_nil, es, ld_ptr (H.pt 6 rfl), ld_ptr (H.pt 4 rfl)]
  obtain ⟨_, es, H, _⟩ := H.st 5 rfl 4 0 (.agg (r0 :: r1 :: r2 :: r3 :: [])) (rfl) (by decide) (Nat.le_of_ble_eq_true rfl)
  try simp only [go_sem, List.set_cons_zero, List.set_cons_succ] at H
  try simp +contextual (maxSteps := 600000) (disch := omega) only [go_sem, Nat.reduceEqDiff, ↓reduceIte, Int.reduceEq, Int.reduceNeg, wrap_add, List.append_nil, es, ld_ptr (H.pt 5 rfl)]
  have h0 := H.sub
  have H := (((H.pick 1 rfl).pick 2 rfl).pick 3 rfl)
  try simp only [List.eraseIdx_cons_succ, List.eraseIdx_cons_zero] at H
  exact ⟨_, rfl, h0, _, rfl, H.ownState.one⟩
end Go.Proofs.Ytopannfdcikgiaa.Sy

/- From what an argument can hold to sizes. -/
namespace Go.Proofs.Ytopannfdcikgiaa.Sy
open Go Go.RowKit
theorem zStrS_w {x : List ByteArray} (h : ((x).length ≤ 9223372036854775807 ∧ ∀ y4 ∈ x, (y4).size ≤ 9223372036854775807)) : x.length ≤ 9223372036854775807 ∧ ∀ y ∈ x, wString y := ⟨h.1, fun y hy => h.2 y hy⟩
theorem zIntSS_w {x : List (List Int)} (h : ((x).length ≤ 9223372036854775807 ∧ ∀ y5 ∈ x, ((y5).length ≤ 9223372036854775807 ∧ ∀ y4 ∈ y5, I64 (y4)))) : x.length ≤ 9223372036854775807 ∧ ∀ y ∈ x, wIntS y := ⟨h.1, fun y hy => (h.2 y hy).1⟩
theorem zTally_w {x : Tally} (h : zTally x) : wTally x := h.1
theorem zTallyS_w {x : List Tally} (h : ((x).length ≤ 9223372036854775807 ∧ ∀ y6 ∈ x, zTally (y6))) : x.length ≤ 9223372036854775807 ∧ ∀ y ∈ x, wTally y := ⟨h.1, fun y hy => zTally_w (h.2 y hy)⟩
theorem zLive_w {x : Live} (h : zLive x) : wLive x := ⟨h.2.1, h.2.2.1⟩
theorem zLiveS_w {x : List Live} (h : ((x).length ≤ 9223372036854775807 ∧ ∀ y5 ∈ x, zLive (y5))) : x.length ≤ 9223372036854775807 ∧ ∀ y ∈ x, wLive y := ⟨h.1, fun y hy => zLive_w (h.2 y hy)⟩
theorem zCell_w {x : Cell} (h : zCell x) : wCell x := h.1
theorem zCellS_w {x : List Cell} (h : ((x).length ≤ 9223372036854775807 ∧ ∀ y5 ∈ x, zCell (y5))) : x.length ≤ 9223372036854775807 ∧ ∀ y ∈ x, wCell y := ⟨h.1, fun y hy => zCell_w (h.2 y hy)⟩
theorem zEdit_w {x : Edit} (h : zEdit x) : wEdit x := ⟨h.2.1, h.2.2.1⟩
theorem zEditS_w {x : List Edit} (h : ((x).length ≤ 9223372036854775807 ∧ ∀ y5 ∈ x, zEdit (y5))) : x.length ≤ 9223372036854775807 ∧ ∀ y ∈ x, wEdit y := ⟨h.1, fun y hy => zEdit_w (h.2 y hy)⟩
theorem zWatch_w {x : Watch} (h : zWatch x) : wWatch x := ⟨h.2.1, h.2.2⟩
theorem zWatchS_w {x : List Watch} (h : ((x).length ≤ 9223372036854775807 ∧ ∀ y6 ∈ x, zWatch (y6))) : x.length ≤ 9223372036854775807 ∧ ∀ y ∈ x, wWatch y := ⟨h.1, fun y hy => zWatch_w (h.2 y hy)⟩
theorem zClash_w {x : Clash} (h : zClash x) : wClash x := ⟨h.1, h.2⟩
theorem zClashS_w {x : List Clash} (h : ((x).length ≤ 9223372036854775807 ∧ ∀ y6 ∈ x, zClash (y6))) : x.length ≤ 9223372036854775807 ∧ ∀ y ∈ x, wClash y := ⟨h.1, fun y hy => zClash_w (h.2 y hy)⟩
theorem zFile_w {x : File} (h : zFile x) : wFile x := h.1
theorem zFileS_w {x : List File} (h : ((x).length ≤ 9223372036854775807 ∧ ∀ y5 ∈ x, zFile (y5))) : x.length ≤ 9223372036854775807 ∧ ∀ y ∈ x, wFile y := ⟨h.1, fun y hy => zFile_w (h.2 y hy)⟩
theorem zLetter_w {x : Letter} (h : zLetter x) : wLetter x := h.2
theorem zLetterS_w {x : List Letter} (h : ((x).length ≤ 9223372036854775807 ∧ ∀ y7 ∈ x, zLetter (y7))) : x.length ≤ 9223372036854775807 ∧ ∀ y ∈ x, wLetter y := ⟨h.1, fun y hy => zLetter_w (h.2 y hy)⟩
theorem zEvent_w {x : Event} (h : zEvent x) : wEvent x := zEdit_w h.2.2.2
theorem zEventS_w {x : List Event} (h : ((x).length ≤ 9223372036854775807 ∧ ∀ y6 ∈ x, zEvent (y6))) : x.length ≤ 9223372036854775807 ∧ ∀ y ∈ x, wEvent y := ⟨h.1, fun y hy => zEvent_w (h.2 y hy)⟩
theorem zAct_w {x : Act} (h : zAct x) : wAct x := ⟨h.2.2.1.1, h.2.2.2.2.1, h.2.2.2.2.2.1⟩
theorem zActS_w {x : List Act} (h : ((x).length ≤ 9223372036854775807 ∧ ∀ y4 ∈ x, zAct (y4))) : x.length ≤ 9223372036854775807 ∧ ∀ y ∈ x, wAct y := ⟨h.1, fun y hy => zAct_w (h.2 y hy)⟩
theorem zState_w {x : State} (h : zState x) : wState x := ⟨h.1.1, zTallyS_w h.2.1, zLiveS_w h.2.2.1, zCellS_w h.2.2.2⟩
theorem zStateS_w {x : List State} (h : ((x).length ≤ 9223372036854775807 ∧ ∀ y6 ∈ x, zState (y6))) : x.length ≤ 9223372036854775807 ∧ ∀ y ∈ x, wState y := ⟨h.1, fun y hy => zState_w (h.2 y hy)⟩
theorem zDelta_w {x : Delta} (h : zDelta x) : wDelta x := ⟨h.1.1, h.2.1.1, zTallyS_w h.2.2.1, zLiveS_w h.2.2.2.1, h.2.2.2.2.1.1, zCellS_w h.2.2.2.2.2⟩
theorem zDeltaS_w {x : List Delta} (h : ((x).length ≤ 9223372036854775807 ∧ ∀ y6 ∈ x, zDelta (y6))) : x.length ≤ 9223372036854775807 ∧ ∀ y ∈ x, wDelta y := ⟨h.1, fun y hy => zDelta_w (h.2 y hy)⟩
theorem zUnit__w {x : Unit_} (h : zUnit_ x) : wUnit x := ⟨zAct_w h.2.1, zDelta_w h.2.2⟩
theorem zUnitS_w {x : List Unit_} (h : ((x).length ≤ 9223372036854775807 ∧ ∀ y6 ∈ x, zUnit_ (y6))) : x.length ≤ 9223372036854775807 ∧ ∀ y ∈ x, wUnit y := ⟨h.1, fun y hy => zUnit__w (h.2 y hy)⟩
theorem zLog_w {x : Log} (h : zLog x) : wLog x := ⟨zState_w h.2.2.1, zUnitS_w h.2.2.2.1, zUnitS_w h.2.2.2.2⟩
theorem zLogS_w {x : List Log} (h : ((x).length ≤ 9223372036854775807 ∧ ∀ y4 ∈ x, zLog (y4))) : x.length ≤ 9223372036854775807 ∧ ∀ y ∈ x, wLog y := ⟨h.1, fun y hy => zLog_w (h.2 y hy)⟩
theorem zCommit_w {x : Commit} (h : zCommit x) : wCommit x := ⟨h.2.1.1, zState_w h.2.2⟩
theorem zCommitS_w {x : List Commit} (h : ((x).length ≤ 9223372036854775807 ∧ ∀ y7 ∈ x, zCommit (y7))) : x.length ≤ 9223372036854775807 ∧ ∀ y ∈ x, wCommit y := ⟨h.1, fun y hy => zCommit_w (h.2 y hy)⟩
theorem zGraph_w {x : Graph} (h : zGraph x) : wGraph x := zCommitS_w h.1
theorem zGraphS_w {x : List Graph} (h : ((x).length ≤ 9223372036854775807 ∧ ∀ y6 ∈ x, zGraph (y6))) : x.length ≤ 9223372036854775807 ∧ ∀ y ∈ x, wGraph y := ⟨h.1, fun y hy => zGraph_w (h.2 y hy)⟩
theorem zReplica_w {x : Replica} (h : zReplica x) : wReplica x := ⟨zLog_w h.2.1, zGraph_w h.2.2.1, zFile_w h.2.2.2.1, zUnitS_w h.2.2.2.2⟩
theorem zReplicaS_w {x : List Replica} (h : ((x).length ≤ 9223372036854775807 ∧ ∀ y8 ∈ x, zReplica (y8))) : x.length ≤ 9223372036854775807 ∧ ∀ y ∈ x, wReplica y := ⟨h.1, fun y hy => zReplica_w (h.2 y hy)⟩
theorem zWorld__w {x : World_} (h : zWorld_ x) : wWorld x := ⟨zReplicaS_w h.1, zLetterS_w h.2.1, h.2.2.1.1, zIntSS_w h.2.2.2⟩
theorem zWorldS_w {x : List World_} (h : ((x).length ≤ 9223372036854775807 ∧ ∀ y7 ∈ x, zWorld_ (y7))) : x.length ≤ 9223372036854775807 ∧ ∀ y ∈ x, wWorld y := ⟨h.1, fun y hy => zWorld__w (h.2 y hy)⟩
theorem zScript_w {x : Script} (h : zScript x) : wScript x := ⟨h.1.1, zEventS_w h.2.1⟩
theorem zScriptS_w {x : List Script} (h : ((x).length ≤ 9223372036854775807 ∧ ∀ y7 ∈ x, zScript (y7))) : x.length ≤ 9223372036854775807 ∧ ∀ y ∈ x, wScript y := ⟨h.1, fun y hy => zScript_w (h.2 y hy)⟩
end Go.Proofs.Ytopannfdcikgiaa.Sy

/- The law of LivesWhose. -/
namespace Go.Proofs.Ytopannfdcikgiaa.Sy
open Go Go.RowKit
set_option linter.unusedSimpArgs false
set_option linter.unusedVariables false
set_option maxRecDepth 4000
abbrev n_l_FnExactLivesWhose : Nat := 14
def F_l_FnExactLivesWhose : Fn1 := ⟨90, [.t 8], (.seq (.reg [o 4 (.box (.t 0)), o 8 (.mov (.k (.bool false)))]) (.seq (.seq (.reg [o 17 (.mov (.t 2)), o 18 (.len true (.t 17)), o 19 (.bin .gtr (.t 18) (.k (.int .i64 1048576)))]) (.cnd (.t 19) (.seq (.reg [o 8 (.mov (.k (.bool true)))]) .ret) .skip)) (.seq (.seq (.reg [o 20 (.mov (.t 3)), o 21 (.len true (.t 20)), o 22 (.bin .gtr (.t 21) (.k (.int .i64 1048576)))]) (.cnd (.t 22) (.seq (.reg [o 8 (.mov (.k (.bool true)))]) .ret) .skip)) (.seq (.reg [o 9 (.mov (.k (.int .i64 1048576)))]) (.seq (.reg [o 23 (.ld true 4 (.t 4)), o 24 (.mov (.t 9)), o 25 (.call 49 [(.t 23), (.t 24)]), o 9 (.mov (.t 25))]) (.seq (.seq (.reg [o 26 (.mov (.t 9)), o 27 (.bin .lss (.t 26) (.k (.int .i64 0)))]) (.cnd (.t 27) (.seq (.reg [o 8 (.mov (.k (.bool true)))]) .ret) .skip)) (.seq (.reg [o 28 (.ld true 4 (.t 4)), o 29 (.call 51 [(.t 28)]), o 30 (.mov (.t 1)), o 31 (.mov (.t 2)), o 32 (.mov (.t 3)), o 33 (.call 60 [(.t 29), (.t 30), (.t 31), (.t 32)]), o 10 (.mov (.t 33))]) (.seq (.reg [o 34 (.ld true 4 (.t 4)), o 35 (.call 51 [(.t 34)]), o 11 (.new [.nilS, .nilS, .nilS, .nilS]), on (.st 4 (.t 11) (.t 35))]) (.seq (.reg [o 36 (.ld true 4 (.t 11)), o 37 (.mov (.t 1)), o 38 (.mov (.t 2)), o 39 (.mov (.t 3)), o 40 (.call 61 [(.t 36), (.t 37), (.t 38), (.t 39)]), o 12 (.mov (.t 40))]) (.seq (.seq (.reg [o 41 (.mov (.t 12)), o 42 (.mov (.t 10)), o 43 (.call 22 [(.t 41), (.t 42)]), o 44 (.un .not (.t 43))]) (.cnd (.t 44) (.seq (.reg [o 8 (.mov (.k (.bool false)))]) .ret) .skip)) (.seq (.seq (.drw [o 45 (.ld true 4 (.t 11)), o 46 (.ld true 4 (.t 4)), o 47 (.call 51 [(.t 46)])] [o 48 (.call 53 [(.t 45), (.t 47)]), o 49 (.un .not (.t 48))]) (.cnd (.t 49) (.seq (.reg [o 8 (.mov (.k (.bool false)))]) .ret) .skip)) (.seq (.reg [o 13 (.mov (.k (.int .i64 1)))]) (.seq (.reg [o 50 (.ld true 4 (.t 11)), o 51 (.mov (.t 13)), o 52 (.call 59 [(.t 50), (.t 51)]), o 13 (.mov (.t 52))]) (.seq (.seq (.reg [o 53 (.mov (.t 13)), o 54 (.bin .lss (.t 53) (.k (.int .i64 0))), o 55 (.mov (.t 54)), og 56 55 false (.mov (.t 12)), og 57 55 false (.mov (.t 10)), og 58 55 false (.call 22 [(.t 56), (.t 57)]), og 59 55 false (.un .not (.t 58)), o 60 (.pick (.t 55) (.k (.bool true)) (.t 59))]) (.cnd (.t 60) (.seq (.reg [o 8 (.mov (.k (.bool false)))]) .ret) .skip)) (.seq (.reg [o 14 (.mov (.k (.int .i64 1)))]) (.seq (.reg [o 61 (.mov (.t 12)), o 62 (.mov (.t 14)), o 63 (.call 31 [(.t 61), (.t 62)]), o 14 (.mov (.t 63))]) (.seq (.reg [o 15 (.mov (.k (.int .i64 1)))]) (.seq (.reg [o 64 (.mov (.t 12)), o 65 (.mov (.t 15)), o 66 (.call 32 [(.t 64), (.t 65)]), o 15 (.mov (.t 66))]) (.seq (.seq (.reg [o 67 (.mov (.t 15)), o 68 (.bin .lss (.t 67) (.k (.int .i64 0)))]) (.cnd (.t 68) (.seq (.reg [o 8 (.mov (.k (.bool false)))]) .ret) .skip)) (.seq (.seq (.reg [o 69 (.mov (.t 15)), o 70 (.mov (.t 14)), o 71 (.bin .neq (.t 69) (.t 70))]) (.cnd (.t 71) (.seq (.reg [o 8 (.mov (.k (.bool false)))]) .ret) .skip)) (.seq (.reg [o 72 (.ld true 4 (.t 4)), o 73 (.call 51 [(.t 72)]), o 74 (.mov (.t 1)), o 75 (.mov (.t 2)), o 76 (.mov (.t 3)), o 77 (.call 61 [(.t 73), (.t 74), (.t 75), (.t 76)]), o 16 (.mov (.t 77))]) (.seq (.seq (.reg [o 78 (.mov (.t 16)), o 79 (.mov (.t 10)), o 80 (.call 22 [(.t 78), (.t 79)]), o 81 (.un .not (.t 80))]) (.cnd (.t 81) (.seq (.reg [o 8 (.mov (.k (.bool false)))]) .ret) .skip)) (.seq (.reg [o 15 (.mov (.k (.int .i64 1)))]) (.seq (.reg [o 82 (.mov (.t 12)), o 83 (.mov (.t 15)), o 84 (.call 32 [(.t 82), (.t 83)]), o 15 (.mov (.t 84))]) (.seq (.seq (.reg [o 85 (.mov (.t 15)), o 86 (.bin .lss (.t 85) (.k (.int .i64 0)))]) (.cnd (.t 86) (.seq (.reg [o 8 (.mov (.k (.bool false)))]) .ret) .skip)) (.seq (.seq (.reg [o 87 (.mov (.t 15)), o 88 (.mov (.t 14)), o 89 (.bin .neq (.t 87) (.t 88))]) (.cnd (.t 89) (.seq (.reg [o 8 (.mov (.k (.bool false)))]) .ret) .skip)) (.seq (.reg [o 8 (.mov (.k (.bool true)))]) .ret)))))))))))))))))))))))))))⟩
theorem ir_l_FnExactLivesWhose : compFn Try.prog n_l_FnExactLivesWhose = some F_l_FnExactLivesWhose := by kernel_rfl
theorem law_LivesWhose (σ : St) (cs0 : List GV) (x0 : State) (hR0 : eState.R σ x0 cs0) (hw0 : zState x0) (x1 : Bool) (hw1 : True) (x2 : ByteArray) (hw2 : x2.size ≤ 9223372036854775807) (x3 : ByteArray) (hw3 : x3.size ≤ 9223372036854775807) : ∃ r τ, Ret Try.prog n_l_FnExactLivesWhose [.agg cs0, .bool x1, .str x2, .str x3] σ r τ ∧ r = .bool true := by
  have hR0 := brState hR0
  have hl0 := kState.len hR0
  have hw0 := zState_w hw0
  refine ret_law ir_l_FnExactLivesWhose (Nat.le_of_ble_eq_true rfl) ?_
  have hB : σ <+: σ ++ [some (Blk.row 1 (cs0))] := pre1 _ _
  have hb0 : rdB (σ ++ [some (Blk.row 1 (cs0))]) (σ).length = some (cs0) := box_rd (List.prefix_refl _)
  have hs0 : (seg cs0 0 4).bind (mkv true) = some (.agg cs0) := seg_full hl0
  simp +contextual (maxSteps := 600000) (disch := omega) only [go_sem, Nat.reduceEqDiff, ↓reduceIte, Int.reduceEq, Int.reduceNeg, wrap_add, F_l_FnExactLivesWhose, ld_ptr (rdB_pre (List.prefix_refl _) hb0), hs0, List.append_nil]
  refine ⟨fun _ => hB.length_le, fun hn => ?_⟩
  have hz2 := of_decide_eq_false hn
  try simp only [Int.not_lt] at hz2
  try simp +contextual (maxSteps := 600000) (disch := omega) only [go_sem, Nat.reduceEqDiff, ↓reduceIte, Int.reduceEq, Int.reduceNeg, wrap_add, List.append_nil, ite_self, ne_eq, not_true_eq_false, bne_self_eq_false, beq_self_eq_true, ld_ptr (rdB_pre (List.prefix_refl _) hb0), hs0]
  refine ⟨fun _ => hB.length_le, fun hn => ?_⟩
  have hz3 := of_decide_eq_false hn
  try simp only [Int.not_lt] at hz3
  try simp +contextual (maxSteps := 600000) (disch := omega) only [go_sem, Nat.reduceEqDiff, ↓reduceIte, Int.reduceEq, Int.reduceNeg, wrap_add, List.append_nil, ite_self, ne_eq, not_true_eq_false, bne_self_eq_false, beq_self_eq_true, ld_ptr (rdB_pre (List.prefix_refl _) hb0), hs0]
  refine by_ret (l_szState_ret _ cs0 x0 (kState.pre hR0 (hB.trans (List.prefix_refl _))) (1048576) hw0 (by omega) (by omega)) ?_
  have ge0 := @lf_ge (1048576) (msState x0)
  have gm0 := @lf_le (1048576) (msState x0) (by omega)
  try simp +contextual (maxSteps := 600000) (disch := omega) only [go_sem, Nat.reduceEqDiff, ↓reduceIte, Int.reduceEq, Int.reduceNeg, wrap_add, List.append_nil, ite_self, ne_eq, not_true_eq_false, bne_self_eq_false, beq_self_eq_true, ld_ptr (rdB_pre (List.prefix_refl _) hb0), hs0]
  refine ⟨fun _ => hB.length_le, fun hn => ?_⟩
  have hn := of_decide_eq_false hn
  have hf0 := lf_some hn
  have hu0 : msState x0 ≤ 1048576 := by omega
  have hc0 := ctState_le x0
  try simp +contextual (maxSteps := 600000) (disch := omega) only [go_sem, Nat.reduceEqDiff, ↓reduceIte, Int.reduceEq, Int.reduceNeg, wrap_add, List.append_nil, ite_self, ne_eq, not_true_eq_false, bne_self_eq_false, beq_self_eq_true, ld_ptr (rdB_pre (List.prefix_refl _) hb0), hs0]
  have H := Hp.refl (σ ++ [some (Blk.row 1 (cs0))])
  try simp +contextual (maxSteps := 600000) (disch := omega) only [go_sem, Nat.reduceEqDiff, ↓reduceIte, Int.reduceEq, Int.reduceNeg, wrap_add, List.append_nil, ite_self, ne_eq, not_true_eq_false, bne_self_eq_false, beq_self_eq_true, ld_ptr (rdB_pre H.sub hb0), hs0]
  obtain ⟨_, τ1, R1, _, d1, rfl, K1⟩ := l_toState_ret _ cs0 x0 (kState.pre hR0 (hB.trans H.sub)) (by omega)
  refine by_hp R1 K1 ?_
  have H := H.add K1
  try simp only [List.cons_append, List.nil_append] at H
  have g1 := seg_full (kState.len (K1.rd 0 rfl))
  have g1 : (seg d1 0 4).bind (mkv true) = some (.agg d1) := g1
  have gl1 : d1.length = 4 := kState.len (K1.rd 0 rfl)
  try simp +contextual (maxSteps := 600000) (disch := omega) only [go_sem, Nat.reduceEqDiff, ↓reduceIte, Int.reduceEq, Int.reduceNeg, wrap_add, List.append_nil, ite_self, ne_eq, not_true_eq_false, bne_self_eq_false, beq_self_eq_true, ld_ptr (rdB_pre H.sub hb0), hs0, g1]
  obtain ⟨c2_0, τ2, R2, p2, q2_0⟩ := s_LivesWhose_ret _ d1 x0 (H.rd 0 rfl) x1 x2 x3 (by omega) (by omega) (by omega)
  refine by_new R2 p2 ?_
  have hpw := H.sub.trans p2
  have H := Hp.refl τ2
  have nt2_0 := RdN.notup q2_0
  try simp +contextual (maxSteps := 600000) (disch := omega) only [go_sem, Nat.reduceEqDiff, ↓reduceIte, Int.reduceEq, Int.reduceNeg, wrap_add, List.append_nil, ite_self, ne_eq, not_true_eq_false, bne_self_eq_false, beq_self_eq_true, ld_ptr (rdB_pre (hpw.trans H.sub) hb0), hs0, g1]
  obtain ⟨_, τ3, R3, _, d3, rfl, K3⟩ := l_toState_ret _ cs0 x0 (kState.pre hR0 (hB.trans (hpw.trans H.sub))) (by omega)
  refine by_hp R3 K3 ?_
  have H := H.add K3
  try simp only [List.cons_append, List.nil_append] at H
  have g3 := seg_full (kState.len (K3.rd 0 rfl))
  have g3 : (seg d3 0 4).bind (mkv true) = some (.agg d3) := g3
  have gl3 : d3.length = 4 := kState.len (K3.rd 0 rfl)
  try simp +contextual (maxSteps := 600000) (disch := omega) only [go_sem, Nat.reduceEqDiff, ↓reduceIte, Int.reduceEq, Int.reduceNeg, wrap_add, List.append_nil, ite_self, ne_eq, not_true_eq_false, bne_self_eq_false, beq_self_eq_true, ld_ptr (rdB_pre (hpw.trans H.sub) hb0), hs0, g1, g3]
  have H := H.new 1 d3
  try simp +contextual (maxSteps := 600000) (disch := omega) only [go_sem, Nat.reduceEqDiff, ↓reduceIte, Int.reduceEq, Int.reduceNeg, wrap_add, List.append_nil, ite_self, ne_eq, not_true_eq_false, bne_self_eq_false, beq_self_eq_true, ld_ptr (rdB_pre (hpw.trans H.sub) hb0), hs0, ld_ptr (H.pt 0 rfl), g1, g3, splice_full (cs := [GV.nilS, GV.nilS, GV.nilS, GV.nilS]) gl3 rfl, gl3]
  obtain ⟨c4_0, τ4, R4, K4⟩ := i_LivesWhose_ret _ d3 x0 (H.rd 1 rfl) x1 x2 x3 (by omega) (by omega) (by omega)
  refine by_hp R4 K4 ?_
  have H := H.add K4
  try simp only [List.cons_append, List.nil_append] at H
  have nt4_0 := RdN.notup (K4.sl 0 rfl)
  try simp +contextual (maxSteps := 600000) (disch := omega) only [go_sem, Nat.reduceEqDiff, ↓reduceIte, Int.reduceEq, Int.reduceNeg, wrap_add, List.append_nil, ite_self, ne_eq, not_true_eq_false, bne_self_eq_false, beq_self_eq_true, ld_ptr (rdB_pre (hpw.trans H.sub) hb0), hs0, ld_ptr (H.pt 1 rfl), g1, g3]
  try simp +contextual (maxSteps := 600000) (disch := omega) only [go_sem, Nat.reduceEqDiff, ↓reduceIte, Int.reduceEq, Int.reduceNeg, wrap_add, List.append_nil, ite_self, ne_eq, not_true_eq_false, bne_self_eq_false, beq_self_eq_true, ld_ptr (rdB_pre (hpw.trans H.sub) hb0), hs0, ld_ptr (H.pt 1 rfl), g1, g3]
  refine by_ret (l_eqIntS_ret _ _ _ _ _ (H.sl 0 rfl) (q2_0.pre H.sub) (by have := livesWhose_le x0 x1 x2 x3; omega)) ?_
  try simp +contextual (maxSteps := 600000) (disch := omega) only [go_sem, Nat.reduceEqDiff, ↓reduceIte, Int.reduceEq, Int.reduceNeg, wrap_add, List.append_nil, ite_self, ne_eq, not_true_eq_false, bne_self_eq_false, beq_self_eq_true, ld_ptr (rdB_pre (hpw.trans H.sub) hb0), hs0, ld_ptr (H.pt 1 rfl), g1, g3, decide_true, eq_self]
  try simp +contextual (maxSteps := 600000) (disch := omega) only [go_sem, Nat.reduceEqDiff, ↓reduceIte, Int.reduceEq, Int.reduceNeg, wrap_add, List.append_nil, ite_self, ne_eq, not_true_eq_false, bne_self_eq_false, beq_self_eq_true, ld_ptr (rdB_pre (hpw.trans H.sub) hb0), hs0, ld_ptr (H.pt 1 rfl), g1, g3]
  obtain ⟨_, τ5, R5, _, d5, rfl, K5⟩ := l_toState_ret _ cs0 x0 (kState.pre hR0 (hB.trans (hpw.trans H.sub))) (by omega)
  refine by_hp R5 K5 ?_
  have H := H.add K5
  try simp only [List.cons_append, List.nil_append] at H
  have g5 := seg_full (kState.len (K5.rd 0 rfl))
  have g5 : (seg d5 0 4).bind (mkv true) = some (.agg d5) := g5
  have gl5 : d5.length = 4 := kState.len (K5.rd 0 rfl)
  try simp +contextual (maxSteps := 600000) (disch := omega) only [go_sem, Nat.reduceEqDiff, ↓reduceIte, Int.reduceEq, Int.reduceNeg, wrap_add, List.append_nil, ite_self, ne_eq, not_true_eq_false, bne_self_eq_false, beq_self_eq_true, ld_ptr (rdB_pre (hpw.trans H.sub) hb0), hs0, ld_ptr (H.pt 2 rfl), g1, g3, g5]
  refine by_ret (l_eqState_ret _ _ _ _ _ (H.rd 3 rfl) (H.rd 0 rfl) (by omega)) ?_
  try simp +contextual (maxSteps := 600000) (disch := omega) only [go_sem, Nat.reduceEqDiff, ↓reduceIte, Int.reduceEq, Int.reduceNeg, wrap_add, List.append_nil, ite_self, ne_eq, not_true_eq_false, bne_self_eq_false, beq_self_eq_true, ld_ptr (rdB_pre (hpw.trans H.sub) hb0), hs0, ld_ptr (H.pt 2 rfl), g1, g3, g5, decide_true, eq_self]
  obtain ⟨τ6, R6, H⟩ := l_markState_ret 3 d3 x0 (1) H rfl (by omega) (by omega)
  refine by_mut R6 ?_
  try simp only [List.set_cons_succ, List.set_cons_zero] at H
  try simp +contextual (maxSteps := 600000) (disch := omega) only [go_sem, Nat.reduceEqDiff, ↓reduceIte, Int.reduceEq, Int.reduceNeg, wrap_add, List.append_nil, ite_self, ne_eq, not_true_eq_false, bne_self_eq_false, beq_self_eq_true, ld_ptr (rdB_pre (hpw.trans H.sub) hb0), hs0, ld_ptr (H.pt 2 rfl), g1, g3, g5]
  have hng : decide (((1 : Int)) + ((ctState x0 : Nat) : Int) < 0) = false := decide_eq_false (by omega)
  try simp +contextual (maxSteps := 600000) (disch := omega) only [go_sem, Nat.reduceEqDiff, ↓reduceIte, Int.reduceEq, Int.reduceNeg, wrap_add, List.append_nil, ite_self, ne_eq, not_true_eq_false, bne_self_eq_false, beq_self_eq_true, ld_ptr (rdB_pre (hpw.trans H.sub) hb0), hs0, ld_ptr (H.pt 2 rfl), g1, g3, g5, dneg1, dneg2, hng]
  refine by_ret (l_eqIntS_ret _ _ _ _ _ (H.sl 1 rfl) (q2_0.pre H.sub) (by have := livesWhose_le x0 x1 x2 x3; omega)) ?_
  try simp +contextual (maxSteps := 600000) (disch := omega) only [go_sem, Nat.reduceEqDiff, ↓reduceIte, Int.reduceEq, Int.reduceNeg, wrap_add, List.append_nil, ite_self, ne_eq, not_true_eq_false, bne_self_eq_false, beq_self_eq_true, ld_ptr (rdB_pre (hpw.trans H.sub) hb0), hs0, ld_ptr (H.pt 2 rfl), g1, g3, g5, decide_true, eq_self]
  obtain ⟨τ7, R7, H⟩ := l_markIntS_ret 1 c4_0 _ (1) H rfl (by omega) (by have := livesWhose_le x0 x1 x2 x3; omega)
  refine by_mut R7 ?_
  try simp only [List.set_cons_succ, List.set_cons_zero] at H
  try simp +contextual (maxSteps := 600000) (disch := omega) only [go_sem, Nat.reduceEqDiff, ↓reduceIte, Int.reduceEq, Int.reduceNeg, wrap_add, List.append_nil, ite_self, ne_eq, not_true_eq_false, bne_self_eq_false, beq_self_eq_true, ld_ptr (rdB_pre (hpw.trans H.sub) hb0), hs0, ld_ptr (H.pt 2 rfl), g1, g3, g5]
  refine by_ret (l_heldIntS_ret _ _ _ 1 (H.sl 1 rfl) (by omega) (by have := livesWhose_le x0 x1 x2 x3; omega)) ?_
  try simp +contextual (maxSteps := 600000) (disch := omega) only [go_sem, Nat.reduceEqDiff, ↓reduceIte, Int.reduceEq, Int.reduceNeg, wrap_add, List.append_nil, ite_self, ne_eq, not_true_eq_false, bne_self_eq_false, beq_self_eq_true, ld_ptr (rdB_pre (hpw.trans H.sub) hb0), hs0, ld_ptr (H.pt 2 rfl), g1, g3, g5, dneg1, dneg2]
  try simp +contextual (maxSteps := 600000) (disch := omega) only [go_sem, Nat.reduceEqDiff, ↓reduceIte, Int.reduceEq, Int.reduceNeg, wrap_add, List.append_nil, ite_self, ne_eq, not_true_eq_false, bne_self_eq_false, beq_self_eq_true, ld_ptr (rdB_pre (hpw.trans H.sub) hb0), hs0, ld_ptr (H.pt 2 rfl), g1, g3, g5, dneg1, dneg2]
  try simp +contextual (maxSteps := 600000) (disch := omega) only [go_sem, Nat.reduceEqDiff, ↓reduceIte, Int.reduceEq, Int.reduceNeg, wrap_add, List.append_nil, ite_self, ne_eq, not_true_eq_false, bne_self_eq_false, beq_self_eq_true, ld_ptr (rdB_pre (hpw.trans H.sub) hb0), hs0, ld_ptr (H.pt 2 rfl), g1, g3, g5, dneg1, dneg2]
  obtain ⟨_, τ8, R8, _, d8, rfl, K8⟩ := l_toState_ret _ cs0 x0 (kState.pre hR0 (hB.trans (hpw.trans H.sub))) (by omega)
  refine by_hp R8 K8 ?_
  have H := H.add K8
  try simp only [List.cons_append, List.nil_append] at H
  have g8 := seg_full (kState.len (K8.rd 0 rfl))
  have g8 : (seg d8 0 4).bind (mkv true) = some (.agg d8) := g8
  have gl8 : d8.length = 4 := kState.len (K8.rd 0 rfl)
  try simp +contextual (maxSteps := 600000) (disch := omega) only [go_sem, Nat.reduceEqDiff, ↓reduceIte, Int.reduceEq, Int.reduceNeg, wrap_add, List.append_nil, ite_self, ne_eq, not_true_eq_false, bne_self_eq_false, beq_self_eq_true, ld_ptr (rdB_pre (hpw.trans H.sub) hb0), hs0, ld_ptr (H.pt 3 rfl), g1, g3, g5, g8]
  obtain ⟨c9_0, τ9, R9, K9⟩ := i_LivesWhose_ret _ d8 x0 (H.rd 0 rfl) x1 x2 x3 (by omega) (by omega) (by omega)
  refine by_hp R9 K9 ?_
  have H := H.add K9
  try simp only [List.cons_append, List.nil_append] at H
  have nt9_0 := RdN.notup (K9.sl 0 rfl)
  try simp +contextual (maxSteps := 600000) (disch := omega) only [go_sem, Nat.reduceEqDiff, ↓reduceIte, Int.reduceEq, Int.reduceNeg, wrap_add, List.append_nil, ite_self, ne_eq, not_true_eq_false, bne_self_eq_false, beq_self_eq_true, ld_ptr (rdB_pre (hpw.trans H.sub) hb0), hs0, ld_ptr (H.pt 4 rfl), g1, g3, g5, g8]
  try simp +contextual (maxSteps := 600000) (disch := omega) only [go_sem, Nat.reduceEqDiff, ↓reduceIte, Int.reduceEq, Int.reduceNeg, wrap_add, List.append_nil, ite_self, ne_eq, not_true_eq_false, bne_self_eq_false, beq_self_eq_true, ld_ptr (rdB_pre (hpw.trans H.sub) hb0), hs0, ld_ptr (H.pt 4 rfl), g1, g3, g5, g8]
  refine by_ret (l_eqIntS_ret _ _ _ _ _ (H.sl 0 rfl) (q2_0.pre H.sub) (by have := livesWhose_le x0 x1 x2 x3; omega)) ?_
  try simp +contextual (maxSteps := 600000) (disch := omega) only [go_sem, Nat.reduceEqDiff, ↓reduceIte, Int.reduceEq, Int.reduceNeg, wrap_add, List.append_nil, ite_self, ne_eq, not_true_eq_false, bne_self_eq_false, beq_self_eq_true, ld_ptr (rdB_pre (hpw.trans H.sub) hb0), hs0, ld_ptr (H.pt 4 rfl), g1, g3, g5, g8, decide_true, eq_self]
  refine by_ret (l_heldIntS_ret _ _ _ 1 (H.sl 3 rfl) (by omega) (by have := livesWhose_le x0 x1 x2 x3; omega)) ?_
  try simp +contextual (maxSteps := 600000) (disch := omega) only [go_sem, Nat.reduceEqDiff, ↓reduceIte, Int.reduceEq, Int.reduceNeg, wrap_add, List.append_nil, ite_self, ne_eq, not_true_eq_false, bne_self_eq_false, beq_self_eq_true, ld_ptr (rdB_pre (hpw.trans H.sub) hb0), hs0, ld_ptr (H.pt 4 rfl), g1, g3, g5, g8, dneg1, dneg2]
  try simp +contextual (maxSteps := 600000) (disch := omega) only [go_sem, Nat.reduceEqDiff, ↓reduceIte, Int.reduceEq, Int.reduceNeg, wrap_add, List.append_nil, ite_self, ne_eq, not_true_eq_false, bne_self_eq_false, beq_self_eq_true, ld_ptr (rdB_pre (hpw.trans H.sub) hb0), hs0, ld_ptr (H.pt 4 rfl), g1, g3, g5, g8, dneg1, dneg2]
  try simp +contextual (maxSteps := 600000) (disch := omega) only [go_sem, Nat.reduceEqDiff, ↓reduceIte, Int.reduceEq, Int.reduceNeg, wrap_add, List.append_nil, ite_self, ne_eq, not_true_eq_false, bne_self_eq_false, beq_self_eq_true, ld_ptr (rdB_pre (hpw.trans H.sub) hb0), hs0, ld_ptr (H.pt 4 rfl), g1, g3, g5, g8, dneg1, dneg2]
  exact (hB.trans (hpw.trans H.sub)).length_le
end Go.Proofs.Ytopannfdcikgiaa.Sy

