/- Texts of this proof, one behind the other. -/
import Derived.Test.YtffnefmklckngaaBBusiestOf1
import Derived.Test.YtffnefmklckngaaProg
import Derived.KernelRfl
/- Contracts of the laws' own functions: HtoTally. -/
namespace Go.Proofs.Ytffnefmklckngaa.Sy
open Go Go.RowKit
set_option linter.unusedSimpArgs false
set_option linter.unusedVariables false
abbrev n_l_toTally : Nat := 63
def F_l_toTally : Fn1 := ⟨14, [.c 2 true 3], (.seq (.reg [o 1 (.box (.t 0)), o 2 (.new [(.str ⟨#[]⟩), (.int .i64 0), (.int .i64 0)])]) (.seq (.reg [o 3 (.new [(.str ⟨#[]⟩), (.int .i64 0), (.int .i64 0)])]) (.seq (.reg [o 4 (.fad 0 (.t 1)), o 5 (.ld false 1 (.t 4)), o 6 (.fad 0 (.t 3)), on (.st 1 (.t 6) (.t 5))]) (.seq (.reg [o 7 (.fad 1 (.t 1)), o 8 (.ld false 1 (.t 7)), o 9 (.fad 1 (.t 3)), on (.st 1 (.t 9) (.t 8))]) (.seq (.reg [o 10 (.fad 2 (.t 1)), o 11 (.ld false 1 (.t 10)), o 12 (.fad 2 (.t 3)), on (.st 1 (.t 12) (.t 11))]) (.seq (.reg [o 13 (.ld true 3 (.t 3)), on (.st 3 (.t 2) (.t 13))]) .ret))))))⟩
theorem ir_l_toTally : compFn Try.prog n_l_toTally = some F_l_toTally := by kernel_rfl
theorem l_toTally_ret (σ : St) (x : Tally) : Ret Try.prog n_l_toTally [.agg [.str x.obj, .int .i64 x.rep, .int .i64 x.sum]] σ (.agg [.str x.obj, .int .i64 x.rep, .int .i64 x.sum]) σ := by
  refine ret_eq ir_l_toTally (Nat.le_of_ble_eq_true rfl) (by simp [vLt, cLt, sLt]) ?_
  simp +contextual (disch := omega) only [go_sem, Nat.reduceEqDiff, ↓reduceIte, Int.reduceEq, Int.reduceNeg, wrap_add, F_l_toTally]
end Go.Proofs.Ytffnefmklckngaa.Sy

/- Contracts of the laws' own functions: HtoTallyS. -/
namespace Go.Proofs.Ytffnefmklckngaa.Sy
open Go Go.RowKit
set_option linter.unusedSimpArgs false
set_option linter.unusedVariables false
abbrev n_l_toTallyS : Nat := 33
def F_l_toTallyS : Fn1 := ⟨23, [.t 2], (.seq (.reg [o 2 (.mov (.k .nilS))]) (.seq (.reg [o 5 (.mov (.t 0)), o 6 (.len false (.t 5)), o 7 (.mks 3 32 [(.str ⟨#[]⟩), (.int .i64 0), (.int .i64 0)] (.t 6) (.t 6)), o 3 (.mov (.t 7))]) (.seq (.seq (.reg [o 4 (.mov (.k (.int .i64 0)))]) (.blk 0 (.lop (.seq (.seq (.reg [o 8 (.mov (.t 4)), o 9 (.mov (.t 0)), o 10 (.len false (.t 9)), o 11 (.bin .lss (.t 8) (.t 10))]) (.cnd (.t 11) .skip (.ext 0))) (.seq (.blk 1 (.reg [o 14 (.mov (.t 3)), o 15 (.mov (.t 4)), o 16 (.mov (.t 0)), o 17 (.mov (.t 4)), o 18 (.iad 3 (.t 16) (.t 17)), o 19 (.ld true 3 (.t 18)), o 20 (.call 63 [(.t 19)]), o 21 (.iad 3 (.t 14) (.t 15)), on (.st 3 (.t 21) (.t 20))])) (.reg [o 12 (.mov (.t 4)), o 13 (.bin .add (.t 12) (.k (.int .i64 1))), o 4 (.mov (.t 13))])))))) (.seq (.reg [o 22 (.mov (.t 3)), o 2 (.mov (.t 22))]) .ret))))⟩
theorem ir_l_toTallyS : compFn Try.prog n_l_toTallyS = some F_l_toTallyS := by kernel_rfl
theorem l_toTallyS_ret (σ : St) (v : GV) (l : List Tally) (hR : RS pTally.kd σ v l) (hl : l.length ≤ 1099511627776) : ∃ r τ, Ret Try.prog n_l_toTallyS [v] σ r τ ∧ Hp σ τ [ow pTally.kd r l] := by
  refine ret_hp (rs := fun r => [ow pTally.kd r l]) ir_l_toTallyS (Nat.le_of_ble_eq_true rfl) ?_
  have hmk : ∀ ze, mksG 3 32 ze σ (some l.length) (some l.length) = some (.sl σ.length 0 l.length, σ ++ [some (.row 3 (reps l.length ze))]) := fun ze => mks_ok (by omega)
  simp +contextual (disch := omega) only [go_sem, Nat.reduceEqDiff, ↓reduceIte, Int.reduceEq, Int.reduceNeg, wrap_add, F_l_toTallyS, hR.len, hmk]
  have H0 := ((Hp.refl σ).new 3 (reps l.length (pTally.enc ⟨⟨#[]⟩, 0, 0⟩))).toRow 0 (p := pTally) rfl (List.replicate l.length ⟨⟨#[]⟩, 0, 0⟩) rfl (reps_enc _ _ _) l.length (by simp)
  refine vc_for l.length 4 (fun i env τ => env 0 = v ∧ env 3 = .sl σ.length 0 l.length ∧ Hp σ τ [ow pTally.kd (.sl σ.length 0 l.length) (l.take i ++ List.replicate (l.length - i) ⟨⟨#[]⟩, 0, 0⟩)]) rfl ⟨rfl, rfl, by rw [List.take_zero, List.nil_append, Nat.sub_zero]; exact H0⟩ ?_ ?_
  · rintro i env τ hi e4 c0 ⟨e0, e3, H⟩
    have h1 := hR.pre H.sub
    have h2 := H.sl 0 rfl
    have hj := fill_len (z := (⟨⟨#[]⟩, 0, 0⟩ : Tally)) hi
    simp +contextual (disch := omega) only [go_sem, Nat.reduceEqDiff, ↓reduceIte, Int.reduceEq, Int.reduceNeg, wrap_add, e0, e3, e4, c0, hR.len, Tally_at h1 hi]
    refine by_ret (l_toTally_ret τ l[i]) ?_
    obtain ⟨τ', es, H'⟩ := H.stw 0 rfl hj 3 (.agg [.str l[i].obj, .int .i64 l[i].rep, .int .i64 l[i].sum]) l[i] rfl rfl (by decide)
    rw [fill_step hi] at H'
    have es : stG 3 τ (atz 3 (.sl σ.length 0 l.length) i) (.agg [.str l[i].obj, .int .i64 l[i].rep, .int .i64 l[i].sum]) = some (.tup [], τ') := es
    simp +contextual (disch := omega) only [go_sem, Nat.reduceEqDiff, ↓reduceIte, Int.reduceEq, Int.reduceNeg, wrap_add, e0, e3, e4, c0, hR.len, Tally_at h1 hi, Tally_at h2 hj, es]
    exact H'
  · rintro env τ e4 c0 ⟨e0, e3, H⟩
    rw [fill_end] at H
    simp +contextual (disch := omega) only [go_sem, Nat.reduceEqDiff, ↓reduceIte, Int.reduceEq, Int.reduceNeg, wrap_add, e0, e3, e4, c0, hR.len]
    exact ⟨_, rfl, H⟩
end Go.Proofs.Ytffnefmklckngaa.Sy

/- Contracts of the laws' own functions: HtoState. -/
namespace Go.Proofs.Ytffnefmklckngaa.Sy
open Go Go.RowKit
set_option linter.unusedSimpArgs false
set_option linter.unusedVariables false
abbrev n_l_toState : Nat := 10
def F_l_toState : Fn1 := ⟨21, [.c 2 true 4], (.seq (.reg [o 1 (.box (.t 0)), o 2 (.new [.nilS, .nilS, .nilS, .nilS])]) (.seq (.reg [o 3 (.new [.nilS, .nilS, .nilS, .nilS])]) (.seq (.reg [o 4 (.fad 0 (.t 1)), o 5 (.ld false 1 (.t 4)), o 6 (.call 15 [(.t 5)]), o 7 (.fad 0 (.t 3)), on (.st 1 (.t 7) (.t 6))]) (.seq (.reg [o 8 (.fad 1 (.t 1)), o 9 (.ld false 1 (.t 8)), o 10 (.call 33 [(.t 9)]), o 11 (.fad 1 (.t 3)), on (.st 1 (.t 11) (.t 10))]) (.seq (.reg [o 12 (.fad 2 (.t 1)), o 13 (.ld false 1 (.t 12)), o 14 (.call 34 [(.t 13)]), o 15 (.fad 2 (.t 3)), on (.st 1 (.t 15) (.t 14))]) (.seq (.reg [o 16 (.fad 3 (.t 1)), o 17 (.ld false 1 (.t 16)), o 18 (.call 35 [(.t 17)]), o 19 (.fad 3 (.t 3)), on (.st 1 (.t 19) (.t 18))]) (.seq (.reg [o 20 (.ld true 4 (.t 3)), on (.st 4 (.t 2) (.t 20))]) .ret)))))))⟩
theorem ir_l_toState : compFn Try.prog n_l_toState = some F_l_toState := by kernel_rfl
theorem l_toState_ret (σ : St) (cs : List GV) (x : State) (hR : kState.R σ x cs) (hl : msState x ≤ 1099511627776) : ∃ r τ, Ret Try.prog n_l_toState [.agg cs] σ r τ ∧ σ <+: τ ∧ ∃ ds, r = .agg ds ∧ Hp σ τ [own kState ds x] := by
  have hlen := kState.len hR
  have hlen : cs.length = 4 := hlen
  obtain ⟨v0, v1, v2, v3, rfl, q0, q1, q2, q3⟩ := hR
  unfold msState at hl
  refine ret_new ir_l_toState (Nat.le_of_ble_eq_true rfl) ?_
  simp +contextual (disch := omega) only [go_sem, Nat.reduceEqDiff, ↓reduceIte, Int.reduceEq, Int.reduceNeg, wrap_add, F_l_toState, List.append_nil]
  have H := (((Hp.refl σ).new 1 (v0 :: v1 :: v2 :: v3 :: [])).new 1 [GV.nilS, GV.nilS, GV.nilS, GV.nilS]).new 1 [GV.nilS, GV.nilS, GV.nilS, GV.nilS]
  obtain ⟨r0, τ0, R0, K0⟩ := l_toIntS_ret _ v0 x.know (q0.pre H.sub) (by omega)
  refine by_hp R0 K0 ?_
  have e0 := (K0.sl 0 rfl).cell
  have H := H.add K0
  try simp only [go_sem] at H
  try simp +contextual (disch := omega) only [go_sem, Nat.reduceEqDiff, ↓reduceIte, Int.reduceEq, Int.reduceNeg, wrap_add, List.append_nil, ld_ptr (H.pt 3 rfl), ld_ptr (H.pt 1 rfl)]
  obtain ⟨_, es, H, _⟩ := H.st 1 rfl 1 0 (r0) (by rw [e0]; rfl) (by decide) (Nat.le_of_ble_eq_true rfl)
  try simp only [go_sem, List.set_cons_zero, List.set_cons_succ, e0] at H
  try simp +contextual (disch := omega) only [go_sem, Nat.reduceEqDiff, ↓reduceIte, Int.reduceEq, Int.reduceNeg, wrap_add, List.append_nil, es, ld_ptr (H.pt 3 rfl), ld_ptr (H.pt 1 rfl)]
  obtain ⟨r1, τ1, R1, K1⟩ := l_toTallyS_ret _ v1 x.tallies (q1.pre H.sub) (by omega)
  refine by_hp R1 K1 ?_
  have e1 := (K1.sl 0 rfl).cell
  have H := H.add K1
  try simp only [go_sem] at H
  try simp +contextual (disch := omega) only [go_sem, Nat.reduceEqDiff, ↓reduceIte, Int.reduceEq, Int.reduceNeg, wrap_add, List.append_nil, ld_ptr (H.pt 4 rfl), ld_ptr (H.pt 2 rfl)]
  obtain ⟨_, es, H, _⟩ := H.st 2 rfl 1 1 (r1) (by rw [e1]; rfl) (by decide) (Nat.le_of_ble_eq_true rfl)
  try simp only [go_sem, List.set_cons_zero, List.set_cons_succ, e1] at H
  try simp +contextual (disch := omega) only [go_sem, Nat.reduceEqDiff, ↓reduceIte, Int.reduceEq, Int.reduceNeg, wrap_add, List.append_nil, es, ld_ptr (H.pt 4 rfl), ld_ptr (H.pt 2 rfl)]
  obtain ⟨r2, τ2, R2, K2⟩ := l_toLiveS_ret _ v2 x.lives (q2.pre H.sub) (by omega)
  refine by_hp R2 K2 ?_
  have e2 := (K2.sl 0 rfl).cell
  have H := H.add K2
  try simp only [go_sem] at H
  try simp +contextual (disch := omega) only [go_sem, Nat.reduceEqDiff, ↓reduceIte, Int.reduceEq, Int.reduceNeg, wrap_add, List.append_nil, ld_ptr (H.pt 5 rfl), ld_ptr (H.pt 3 rfl)]
  obtain ⟨_, es, H, _⟩ := H.st 3 rfl 1 2 (r2) (by rw [e2]; rfl) (by decide) (Nat.le_of_ble_eq_true rfl)
  try simp only [go_sem, List.set_cons_zero, List.set_cons_succ, e2] at H
  try simp +contextual (disch := omega) only [go_sem, Nat.reduceEqDiff, ↓reduceIte, Int.reduceEq, Int.reduceNeg, wrap_add, List.append_nil, es, ld_ptr (H.pt 5 rfl), ld_ptr (H.pt 3 rfl)]
  obtain ⟨r3, τ3, R3, K3⟩ := l_toCellS_ret _ v3 x.cells (q3.pre H.sub) (by omega)
  refine by_hp R3 K3 ?_
  have e3 := (K3.sl 0 rfl).cell
  have H := H.add K3
  try simp only [go_sem] at H
  try simp +contextual (disch := omega) only [go_sem, Nat.reduceEqDiff, ↓reduceIte, Int.reduceEq, Int.reduceNeg, wrap_add, List.append_nil, ld_ptr (H.pt 6 rfl), ld_ptr (H.pt 4 rfl)]
  obtain ⟨_, es, H, _⟩ := H.st 4 rfl 1 3 (r3) (by rw [e3]; rfl) (by decide) (Nat.le_of_ble_eq_true rfl)
  try simp only [go_sem, List.set_cons_zero, List.set_cons_succ, e3] at H
  try simp +contextual (disch := omega) only [go_sem, Nat.reduceEqDiff, ↓reduceIte, Int.reduceEq, Int.reduceNeg, wrap_add, List.append_nil, es, ld_ptr (H.pt 6 rfl), ld_ptr (H.pt 4 rfl)]
  obtain ⟨_, es, H, _⟩ := H.st 5 rfl 4 0 (.agg (r0 :: r1 :: r2 :: r3 :: [])) (rfl) (by decide) (Nat.le_of_ble_eq_true rfl)
  try simp only [go_sem, List.set_cons_zero, List.set_cons_succ] at H
  try simp +contextual (disch := omega) only [go_sem, Nat.reduceEqDiff, ↓reduceIte, Int.reduceEq, Int.reduceNeg, wrap_add, List.append_nil, es, ld_ptr (H.pt 5 rfl)]
  have h0 := H.sub
  have H := (((H.pick 1 rfl).pick 2 rfl).pick 3 rfl)
  try simp only [List.eraseIdx_cons_succ, List.eraseIdx_cons_zero] at H
  exact ⟨_, rfl, h0, _, rfl, H.ownState.one⟩
end Go.Proofs.Ytffnefmklckngaa.Sy

/- From what an argument can hold to sizes. -/
namespace Go.Proofs.Ytffnefmklckngaa.Sy
open Go Go.RowKit
theorem zStrS_w {x : List ByteArray} (h : ((x).length ≤ 9223372036854775807 ∧ ∀ y4 ∈ x, (y4).size ≤ 9223372036854775807)) : x.length ≤ 9223372036854775807 ∧ ∀ y ∈ x, wString y := ⟨h.1, fun y hy => h.2 y hy⟩
theorem zIntSS_w {x : List (List Int)} (h : ((x).length ≤ 9223372036854775807 ∧ ∀ y5 ∈ x, ((y5).length ≤ 9223372036854775807 ∧ ∀ y4 ∈ y5, I64 (y4)))) : x.length ≤ 9223372036854775807 ∧ ∀ y ∈ x, wIntS y := ⟨h.1, fun y hy => (h.2 y hy).1⟩
theorem zTally_w {x : Tally} (h : zTally x) : wTally x := h.1
theorem zTallyS_w {x : List Tally} (h : ((x).length ≤ 9223372036854775807 ∧ ∀ y6 ∈ x, zTally (y6))) : x.length ≤ 9223372036854775807 ∧ ∀ y ∈ x, wTally y := ⟨h.1, fun y hy => zTally_w (h.2 y hy)⟩
theorem zLive_w {x : Live} (h : zLive x) : wLive x := ⟨h.2.1, h.2.2.1⟩
theorem zLiveS_w {x : List Live} (h : ((x).length ≤ 9223372036854775807 ∧ ∀ y5 ∈ x, zLive (y5))) : x.length ≤ 9223372036854775807 ∧ ∀ y ∈ x, wLive y := ⟨h.1, fun y hy => zLive_w (h.2 y hy)⟩
theorem zCell_w {x : Cell} (h : zCell x) : wCell x := h.1
theorem zCellS_w {x : List Cell} (h : ((x).length ≤ 9223372036854775807 ∧ ∀ y5 ∈ x, zCell (y5))) : x.length ≤ 9223372036854775807 ∧ ∀ y ∈ x, wCell y := ⟨h.1, fun y hy => zCell_w (h.2 y hy)⟩
theorem zEdit_w {x : Edit} (h : zEdit x) : wEdit x := ⟨h.2.1, h.2.2.1⟩
theorem zEditS_w {x : List Edit} (h : ((x).length ≤ 9223372036854775807 ∧ ∀ y5 ∈ x, zEdit (y5))) : x.length ≤ 9223372036854775807 ∧ ∀ y ∈ x, wEdit y := ⟨h.1, fun y hy => zEdit_w (h.2 y hy)⟩
theorem zWatch_w {x : Watch} (h : zWatch x) : wWatch x := ⟨h.2.1, h.2.2⟩
theorem zWatchS_w {x : List Watch} (h : ((x).length ≤ 9223372036854775807 ∧ ∀ y6 ∈ x, zWatch (y6))) : x.length ≤ 9223372036854775807 ∧ ∀ y ∈ x, wWatch y := ⟨h.1, fun y hy => zWatch_w (h.2 y hy)⟩
theorem zClash_w {x : Clash} (h : zClash x) : wClash x := ⟨h.1, h.2⟩
theorem zClashS_w {x : List Clash} (h : ((x).length ≤ 9223372036854775807 ∧ ∀ y6 ∈ x, zClash (y6))) : x.length ≤ 9223372036854775807 ∧ ∀ y ∈ x, wClash y := ⟨h.1, fun y hy => zClash_w (h.2 y hy)⟩
theorem zFile_w {x : File} (h : zFile x) : wFile x := h.1
theorem zFileS_w {x : List File} (h : ((x).length ≤ 9223372036854775807 ∧ ∀ y5 ∈ x, zFile (y5))) : x.length ≤ 9223372036854775807 ∧ ∀ y ∈ x, wFile y := ⟨h.1, fun y hy => zFile_w (h.2 y hy)⟩
theorem zLetter_w {x : Letter} (h : zLetter x) : wLetter x := h.2
theorem zLetterS_w {x : List Letter} (h : ((x).length ≤ 9223372036854775807 ∧ ∀ y7 ∈ x, zLetter (y7))) : x.length ≤ 9223372036854775807 ∧ ∀ y ∈ x, wLetter y := ⟨h.1, fun y hy => zLetter_w (h.2 y hy)⟩
theorem zEvent_w {x : Event} (h : zEvent x) : wEvent x := zEdit_w h.2.2.2
theorem zEventS_w {x : List Event} (h : ((x).length ≤ 9223372036854775807 ∧ ∀ y6 ∈ x, zEvent (y6))) : x.length ≤ 9223372036854775807 ∧ ∀ y ∈ x, wEvent y := ⟨h.1, fun y hy => zEvent_w (h.2 y hy)⟩
theorem zAct_w {x : Act} (h : zAct x) : wAct x := ⟨h.2.2.1.1, h.2.2.2.2.1, h.2.2.2.2.2.1⟩
theorem zActS_w {x : List Act} (h : ((x).length ≤ 9223372036854775807 ∧ ∀ y4 ∈ x, zAct (y4))) : x.length ≤ 9223372036854775807 ∧ ∀ y ∈ x, wAct y := ⟨h.1, fun y hy => zAct_w (h.2 y hy)⟩
theorem zState_w {x : State} (h : zState x) : wState x := ⟨h.1.1, zTallyS_w h.2.1, zLiveS_w h.2.2.1, zCellS_w h.2.2.2⟩
theorem zStateS_w {x : List State} (h : ((x).length ≤ 9223372036854775807 ∧ ∀ y6 ∈ x, zState (y6))) : x.length ≤ 9223372036854775807 ∧ ∀ y ∈ x, wState y := ⟨h.1, fun y hy => zState_w (h.2 y hy)⟩
theorem zDelta_w {x : Delta} (h : zDelta x) : wDelta x := ⟨h.1.1, h.2.1.1, zTallyS_w h.2.2.1, zLiveS_w h.2.2.2.1, h.2.2.2.2.1.1, zCellS_w h.2.2.2.2.2⟩
theorem zDeltaS_w {x : List Delta} (h : ((x).length ≤ 9223372036854775807 ∧ ∀ y6 ∈ x, zDelta (y6))) : x.length ≤ 9223372036854775807 ∧ ∀ y ∈ x, wDelta y := ⟨h.1, fun y hy => zDelta_w (h.2 y hy)⟩
theorem zUnit__w {x : Unit_} (h : zUnit_ x) : wUnit x := ⟨zAct_w h.2.1, zDelta_w h.2.2⟩
theorem zUnitS_w {x : List Unit_} (h : ((x).length ≤ 9223372036854775807 ∧ ∀ y6 ∈ x, zUnit_ (y6))) : x.length ≤ 9223372036854775807 ∧ ∀ y ∈ x, wUnit y := ⟨h.1, fun y hy => zUnit__w (h.2 y hy)⟩
theorem zLog_w {x : Log} (h : zLog x) : wLog x := ⟨zState_w h.2.2.1, zUnitS_w h.2.2.2.1, zUnitS_w h.2.2.2.2⟩
theorem zLogS_w {x : List Log} (h : ((x).length ≤ 9223372036854775807 ∧ ∀ y4 ∈ x, zLog (y4))) : x.length ≤ 9223372036854775807 ∧ ∀ y ∈ x, wLog y := ⟨h.1, fun y hy => zLog_w (h.2 y hy)⟩
theorem zCommit_w {x : Commit} (h : zCommit x) : wCommit x := ⟨h.2.1.1, zState_w h.2.2⟩
theorem zCommitS_w {x : List Commit} (h : ((x).length ≤ 9223372036854775807 ∧ ∀ y7 ∈ x, zCommit (y7))) : x.length ≤ 9223372036854775807 ∧ ∀ y ∈ x, wCommit y := ⟨h.1, fun y hy => zCommit_w (h.2 y hy)⟩
theorem zGraph_w {x : Graph} (h : zGraph x) : wGraph x := zCommitS_w h.1
theorem zGraphS_w {x : List Graph} (h : ((x).length ≤ 9223372036854775807 ∧ ∀ y6 ∈ x, zGraph (y6))) : x.length ≤ 9223372036854775807 ∧ ∀ y ∈ x, wGraph y := ⟨h.1, fun y hy => zGraph_w (h.2 y hy)⟩
theorem zReplica_w {x : Replica} (h : zReplica x) : wReplica x := ⟨zLog_w h.2.1, zGraph_w h.2.2.1, zFile_w h.2.2.2.1, zUnitS_w h.2.2.2.2⟩
theorem zReplicaS_w {x : List Replica} (h : ((x).length ≤ 9223372036854775807 ∧ ∀ y8 ∈ x, zReplica (y8))) : x.length ≤ 9223372036854775807 ∧ ∀ y ∈ x, wReplica y := ⟨h.1, fun y hy => zReplica_w (h.2 y hy)⟩
theorem zWorld__w {x : World_} (h : zWorld_ x) : wWorld x := ⟨zReplicaS_w h.1, zLetterS_w h.2.1, h.2.2.1.1, zIntSS_w h.2.2.2⟩
theorem zWorldS_w {x : List World_} (h : ((x).length ≤ 9223372036854775807 ∧ ∀ y7 ∈ x, zWorld_ (y7))) : x.length ≤ 9223372036854775807 ∧ ∀ y ∈ x, wWorld y := ⟨h.1, fun y hy => zWorld__w (h.2 y hy)⟩
theorem zScript_w {x : Script} (h : zScript x) : wScript x := ⟨h.1.1, zEventS_w h.2.1⟩
theorem zScriptS_w {x : List Script} (h : ((x).length ≤ 9223372036854775807 ∧ ∀ y7 ∈ x, zScript (y7))) : x.length ≤ 9223372036854775807 ∧ ∀ y ∈ x, wScript y := ⟨h.1, fun y hy => zScript_w (h.2 y hy)⟩
end Go.Proofs.Ytffnefmklckngaa.Sy

/- The law of BusiestOf. -/
namespace Go.Proofs.Ytffnefmklckngaa.Sy
open Go Go.RowKit
set_option linter.unusedSimpArgs false
set_option linter.unusedVariables false
set_option maxRecDepth 4000
abbrev n_l_FnExactBusiestOf : Nat := 3
def F_l_FnExactBusiestOf : Fn1 := ⟨27, [.t 2], (.seq (.reg [o 1 (.box (.t 0)), o 2 (.mov (.k (.bool false)))]) (.seq (.reg [o 3 (.mov (.k (.int .i64 1048576)))]) (.seq (.reg [o 7 (.ld true 4 (.t 1)), o 8 (.mov (.t 3)), o 9 (.call 8 [(.t 7), (.t 8)]), o 3 (.mov (.t 9))]) (.seq (.seq (.reg [o 10 (.mov (.t 3)), o 11 (.bin .lss (.t 10) (.k (.int .i64 0)))]) (.cnd (.t 11) (.seq (.reg [o 2 (.mov (.k (.bool true)))]) .ret) .skip)) (.seq (.reg [o 12 (.ld true 4 (.t 1)), o 13 (.call 10 [(.t 12)]), o 14 (.call 9 [(.t 13)]), o 4 (.mov (.t 14))]) (.seq (.reg [o 15 (.ld true 4 (.t 1)), o 16 (.call 10 [(.t 15)]), o 5 (.new [.nilS, .nilS, .nilS, .nilS]), on (.st 4 (.t 5) (.t 16))]) (.seq (.reg [o 17 (.ld true 4 (.t 5)), o 18 (.call 11 [(.t 17)]), o 6 (.mov (.t 18))]) (.seq (.seq (.reg [o 19 (.mov (.t 6)), o 20 (.mov (.t 4)), o 21 (.bin .neq (.t 19) (.t 20))]) (.cnd (.t 21) (.seq (.reg [o 2 (.mov (.k (.bool false)))]) .ret) .skip)) (.seq (.seq (.drw [o 22 (.ld true 4 (.t 5)), o 23 (.ld true 4 (.t 1)), o 24 (.call 10 [(.t 23)])] [o 25 (.call 12 [(.t 22), (.t 24)]), o 26 (.un .not (.t 25))]) (.cnd (.t 26) (.seq (.reg [o 2 (.mov (.k (.bool false)))]) .ret) .skip)) (.seq (.reg [o 2 (.mov (.k (.bool true)))]) .ret))))))))))⟩
theorem ir_l_FnExactBusiestOf : compFn Try.prog n_l_FnExactBusiestOf = some F_l_FnExactBusiestOf := by kernel_rfl
theorem law_BusiestOf (σ : St) (cs0 : List GV) (x0 : State) (hR0 : eState.R σ x0 cs0) (hw0 : zState x0) : ∃ r τ, Ret Try.prog n_l_FnExactBusiestOf [.agg cs0] σ r τ ∧ r = .bool true := by
  have hR0 := brState hR0
  have hl0 := kState.len hR0
  have hw0 := zState_w hw0
  refine ret_law ir_l_FnExactBusiestOf (Nat.le_of_ble_eq_true rfl) ?_
  have hB : σ <+: σ ++ [some (Blk.row 1 (cs0))] := pre1 _ _
  have hb0 : rdB (σ ++ [some (Blk.row 1 (cs0))]) (σ).length = some (cs0) := box_rd (List.prefix_refl _)
  have hs0 : (seg cs0 0 4).bind (mkv true) = some (.agg cs0) := seg_full hl0
  simp +contextual (disch := omega) only [go_sem, Nat.reduceEqDiff, ↓reduceIte, Int.reduceEq, Int.reduceNeg, wrap_add, F_l_FnExactBusiestOf, ld_ptr (rdB_pre (List.prefix_refl _) hb0), hs0, List.append_nil]
  refine by_ret (l_szState_ret _ cs0 x0 (kState.pre hR0 (hB.trans (List.prefix_refl _))) (1048576) hw0 (by omega) (by omega)) ?_
  have ge0 := @lf_ge (1048576) (msState x0)
  have gm0 := @lf_le (1048576) (msState x0) (by omega)
  try simp +contextual (disch := omega) only [go_sem, Nat.reduceEqDiff, ↓reduceIte, Int.reduceEq, Int.reduceNeg, wrap_add, List.append_nil, ite_self, ne_eq, not_true_eq_false, bne_self_eq_false, beq_self_eq_true, ld_ptr (rdB_pre (List.prefix_refl _) hb0), hs0]
  refine ⟨fun _ => hB.length_le, fun hn => ?_⟩
  have hn := of_decide_eq_false hn
  have hf0 := lf_some hn
  have hu0 : msState x0 ≤ 1048576 := by omega
  try simp +contextual (disch := omega) only [go_sem, Nat.reduceEqDiff, ↓reduceIte, Int.reduceEq, Int.reduceNeg, wrap_add, List.append_nil, ite_self, ne_eq, not_true_eq_false, bne_self_eq_false, beq_self_eq_true, ld_ptr (rdB_pre (List.prefix_refl _) hb0), hs0]
  have H := Hp.refl (σ ++ [some (Blk.row 1 (cs0))])
  try simp +contextual (disch := omega) only [go_sem, Nat.reduceEqDiff, ↓reduceIte, Int.reduceEq, Int.reduceNeg, wrap_add, List.append_nil, ite_self, ne_eq, not_true_eq_false, bne_self_eq_false, beq_self_eq_true, ld_ptr (rdB_pre H.sub hb0), hs0]
  obtain ⟨_, τ1, R1, _, d1, rfl, K1⟩ := l_toState_ret _ cs0 x0 (kState.pre hR0 (hB.trans H.sub)) (by omega)
  refine by_hp R1 K1 ?_
  have H := H.add K1
  try simp only [List.cons_append, List.nil_append] at H
  have g1 := seg_full (kState.len (K1.rd 0 rfl))
  have g1 : (seg d1 0 4).bind (mkv true) = some (.agg d1) := g1
  have gl1 : d1.length = 4 := kState.len (K1.rd 0 rfl)
  try simp +contextual (disch := omega) only [go_sem, Nat.reduceEqDiff, ↓reduceIte, Int.reduceEq, Int.reduceNeg, wrap_add, List.append_nil, ite_self, ne_eq, not_true_eq_false, bne_self_eq_false, beq_self_eq_true, ld_ptr (rdB_pre H.sub hb0), hs0, g1]
  refine by_ret (s_BusiestOf_ret _ d1 x0 (H.rd 0 rfl) (by omega)) ?_
  have hpw := H.sub
  have H := H.restart
  try simp +contextual (disch := omega) only [go_sem, Nat.reduceEqDiff, ↓reduceIte, Int.reduceEq, Int.reduceNeg, wrap_add, List.append_nil, ite_self, ne_eq, not_true_eq_false, bne_self_eq_false, beq_self_eq_true, ld_ptr (rdB_pre (hpw.trans H.sub) hb0), hs0, g1]
  obtain ⟨_, τ3, R3, _, d3, rfl, K3⟩ := l_toState_ret _ cs0 x0 (kState.pre hR0 (hB.trans (hpw.trans H.sub))) (by omega)
  refine by_hp R3 K3 ?_
  have H := H.add K3
  try simp only [List.cons_append, List.nil_append] at H
  have g3 := seg_full (kState.len (K3.rd 0 rfl))
  have g3 : (seg d3 0 4).bind (mkv true) = some (.agg d3) := g3
  have gl3 : d3.length = 4 := kState.len (K3.rd 0 rfl)
  try simp +contextual (disch := omega) only [go_sem, Nat.reduceEqDiff, ↓reduceIte, Int.reduceEq, Int.reduceNeg, wrap_add, List.append_nil, ite_self, ne_eq, not_true_eq_false, bne_self_eq_false, beq_self_eq_true, ld_ptr (rdB_pre (hpw.trans H.sub) hb0), hs0, g1, g3]
  have H := H.new 1 d3
  try simp +contextual (disch := omega) only [go_sem, Nat.reduceEqDiff, ↓reduceIte, Int.reduceEq, Int.reduceNeg, wrap_add, List.append_nil, ite_self, ne_eq, not_true_eq_false, bne_self_eq_false, beq_self_eq_true, ld_ptr (rdB_pre (hpw.trans H.sub) hb0), hs0, ld_ptr (H.pt 0 rfl), g1, g3, splice_full (cs := [GV.nilS, GV.nilS, GV.nilS, GV.nilS]) gl3 rfl, gl3]
  refine by_ret (i_BusiestOf_ret _ d3 x0 (H.rd 1 rfl) (by omega)) ?_
  try simp +contextual (disch := omega) only [go_sem, Nat.reduceEqDiff, ↓reduceIte, Int.reduceEq, Int.reduceNeg, wrap_add, List.append_nil, ite_self, ne_eq, not_true_eq_false, bne_self_eq_false, beq_self_eq_true, ld_ptr (rdB_pre (hpw.trans H.sub) hb0), hs0, ld_ptr (H.pt 0 rfl), g1, g3]
  try simp +contextual (disch := omega) only [go_sem, Nat.reduceEqDiff, ↓reduceIte, Int.reduceEq, Int.reduceNeg, wrap_add, List.append_nil, ite_self, ne_eq, not_true_eq_false, bne_self_eq_false, beq_self_eq_true, ld_ptr (rdB_pre (hpw.trans H.sub) hb0), hs0, ld_ptr (H.pt 0 rfl), g1, g3]
  try simp +contextual (disch := omega) only [go_sem, Nat.reduceEqDiff, ↓reduceIte, Int.reduceEq, Int.reduceNeg, wrap_add, List.append_nil, ite_self, ne_eq, not_true_eq_false, bne_self_eq_false, beq_self_eq_true, ld_ptr (rdB_pre (hpw.trans H.sub) hb0), hs0, ld_ptr (H.pt 0 rfl), g1, g3]
  obtain ⟨_, τ5, R5, _, d5, rfl, K5⟩ := l_toState_ret _ cs0 x0 (kState.pre hR0 (hB.trans (hpw.trans H.sub))) (by omega)
  refine by_hp R5 K5 ?_
  have H := H.add K5
  try simp only [List.cons_append, List.nil_append] at H
  have g5 := seg_full (kState.len (K5.rd 0 rfl))
  have g5 : (seg d5 0 4).bind (mkv true) = some (.agg d5) := g5
  have gl5 : d5.length = 4 := kState.len (K5.rd 0 rfl)
  try simp +contextual (disch := omega) only [go_sem, Nat.reduceEqDiff, ↓reduceIte, Int.reduceEq, Int.reduceNeg, wrap_add, List.append_nil, ite_self, ne_eq, not_true_eq_false, bne_self_eq_false, beq_self_eq_true, ld_ptr (rdB_pre (hpw.trans H.sub) hb0), hs0, ld_ptr (H.pt 1 rfl), g1, g3, g5]
  refine by_ret (l_eqState_ret _ _ _ _ _ (H.rd 2 rfl) (H.rd 0 rfl) (by omega)) ?_
  try simp +contextual (disch := omega) only [go_sem, Nat.reduceEqDiff, ↓reduceIte, Int.reduceEq, Int.reduceNeg, wrap_add, List.append_nil, ite_self, ne_eq, not_true_eq_false, bne_self_eq_false, beq_self_eq_true, ld_ptr (rdB_pre (hpw.trans H.sub) hb0), hs0, ld_ptr (H.pt 1 rfl), g1, g3, g5, decide_true, eq_self]
  exact (hB.trans (hpw.trans H.sub)).length_le
end Go.Proofs.Ytffnefmklckngaa.Sy

