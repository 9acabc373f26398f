/- Texts of this proof, one behind the other. -/
import Derived.Test.YtffnefmklckngaaGreatBSameReading3
import Derived.Test.YtffnefmklckngaaGreatProg
import Derived.KernelRfl
/- Contracts: is the same read? -/
namespace Go.Proofs.YtffnefmklckngaaGreat.Sy
open Go Go.RowKit
set_option linter.unusedSimpArgs false
set_option linter.unusedVariables false
set_option maxRecDepth 4000
abbrev n_s_l25Texts : Nat := 68
def F_s_l25Texts : Fn1 := ⟨26, [.t 4], (.seq (.reg [o 4 (.mov (.k (.bool false)))]) (.seq (.seq (.reg [o 6 (.mov (.t 0)), o 7 (.len false (.t 6)), o 8 (.mov (.t 1)), o 9 (.len false (.t 8)), o 10 (.bin .neq (.t 7) (.t 9))]) (.cnd (.t 10) (.seq (.reg [o 4 (.mov (.k (.bool false)))]) .ret) .skip)) (.seq (.seq (.reg [o 5 (.mov (.k (.int .i64 0)))]) (.blk 0 (.lop (.seq (.seq (.reg [o 11 (.mov (.t 5)), o 12 (.mov (.t 0)), o 13 (.len false (.t 12)), o 14 (.bin .lss (.t 11) (.t 13))]) (.cnd (.t 14) .skip (.ext 0))) (.seq (.blk 1 (.seq (.drw [o 17 (.mov (.t 0)), o 18 (.mov (.t 5)), o 19 (.iad 1 (.t 17) (.t 18)), o 20 (.ld false 1 (.t 19)), o 21 (.mov (.t 1)), o 22 (.mov (.t 5)), o 23 (.iad 1 (.t 21) (.t 22)), o 24 (.ld false 1 (.t 23))] [o 25 (.bin .neq (.t 20) (.t 24))]) (.cnd (.t 25) (.seq (.reg [o 4 (.mov (.k (.bool false)))]) .ret) .skip))) (.reg [o 15 (.mov (.t 5)), o 16 (.bin .add (.t 15) (.k (.int .i64 1))), o 5 (.mov (.t 16))])))))) (.seq (.reg [o 4 (.mov (.k (.bool true)))]) .ret))))⟩
theorem ir_s_l25Texts : compFn Tryz.prog n_s_l25Texts = some F_s_l25Texts := by kernel_rfl
abbrev n_slices_Equal_string_string : Nat := 79
def F_slices_Equal_string_string : Fn1 := ⟨26, [.t 4], (.seq (.reg [o 4 (.mov (.k (.bool false)))]) (.seq (.seq (.reg [o 6 (.mov (.t 0)), o 7 (.len false (.t 6)), o 8 (.mov (.t 1)), o 9 (.len false (.t 8)), o 10 (.bin .neq (.t 7) (.t 9))]) (.cnd (.t 10) (.seq (.reg [o 4 (.mov (.k (.bool false)))]) .ret) .skip)) (.seq (.seq (.reg [o 11 (.mov (.t 0)), o 12 (.len false (.t 11)), o 13 (.mov (.k (.int .i64 0)))]) (.blk 0 (.lop (.seq (.reg [o 14 (.bin .lss (.t 13) (.t 12))]) (.seq (.cnd (.t 14) .skip (.ext 0)) (.seq (.blk 1 (.seq (.reg [o 15 (.mov (.t 13)), o 5 (.mov (.t 15))]) (.seq (.drw [o 16 (.mov (.t 0)), o 17 (.mov (.t 5)), o 18 (.iad 1 (.t 16) (.t 17)), o 19 (.ld false 1 (.t 18)), o 20 (.mov (.t 1)), o 21 (.mov (.t 5)), o 22 (.iad 1 (.t 20) (.t 21)), o 23 (.ld false 1 (.t 22))] [o 24 (.bin .neq (.t 19) (.t 23))]) (.cnd (.t 24) (.seq (.reg [o 4 (.mov (.k (.bool false)))]) .ret) .skip)))) (.reg [o 25 (.bin .add (.t 13) (.k (.int .i64 1))), o 13 (.mov (.t 25))]))))))) (.seq (.reg [o 4 (.mov (.k (.bool true)))]) .ret))))⟩
theorem ir_slices_Equal_string_string : compFn Tryz.prog n_slices_Equal_string_string = some F_slices_Equal_string_string := by kernel_rfl
abbrev n_s_SameReading : Nat := 21
def F_s_SameReading : Fn1 := ⟨69, [.t 6], (.seq (.reg [o 3 (.box (.t 0)), o 4 (.box (.t 1)), o 6 (.mov (.k (.bool false)))]) (.seq (.reg [o 9 (.ld true 4 (.t 3)), o 10 (.mov (.t 2)), o 11 (.call 66 [(.t 9), (.t 10)]), o 7 (.mov (.t 11))]) (.seq (.seq (.drw [o 12 (.ld true 4 (.t 3)), o 13 (.mov (.t 2)), o 14 (.call 67 [(.t 12), (.t 13)]), o 15 (.ld true 4 (.t 4)), o 16 (.mov (.t 2)), o 17 (.call 67 [(.t 15), (.t 16)]), o 18 (.bin .neq (.t 14) (.t 17)), o 19 (.mov (.t 18)), og 20 19 false (.ld true 4 (.t 3)), og 21 19 false (.mov (.t 2)), og 22 19 false (.call 69 [(.t 20), (.t 21)]), og 23 19 false (.ld true 4 (.t 4)), og 24 19 false (.mov (.t 2)), og 25 19 false (.call 69 [(.t 23), (.t 24)]), og 26 19 false (.call 68 [(.t 22), (.t 25)]), og 27 19 false (.un .not (.t 26)), o 28 (.pick (.t 19) (.k (.bool true)) (.t 27)), o 29 (.mov (.t 28)), og 30 29 false (.mov (.t 7)), og 31 29 false (.ld true 4 (.t 4)), og 32 29 false (.mov (.t 2)), og 33 29 false (.call 66 [(.t 31), (.t 32)]), og 34 29 false (.call 68 [(.t 30), (.t 33)]), og 35 29 false (.un .not (.t 34)), o 36 (.pick (.t 29) (.k (.bool true)) (.t 35)), o 37 (.mov (.t 36)), og 38 37 false (.ld true 4 (.t 3)), og 39 37 false (.mov (.t 2)), og 40 37 false (.call 71 [(.t 38), (.t 39)]), og 41 37 false (.ld true 4 (.t 4))] [og 42 37 false (.mov (.t 2)), og 43 37 false (.call 71 [(.t 41), (.t 42)]), og 44 37 false (.call 70 [(.t 40), (.t 43)]), og 45 37 false (.un .not (.t 44)), o 46 (.pick (.t 37) (.k (.bool true)) (.t 45))]) (.cnd (.t 46) (.seq (.reg [o 6 (.mov (.k (.bool false)))]) .ret) .skip)) (.seq (.seq (.reg [o 8 (.mov (.k (.int .i64 0)))]) (.blk 0 (.lop (.seq (.seq (.reg [o 47 (.mov (.t 8)), o 48 (.mov (.t 7)), o 49 (.len false (.t 48)), o 50 (.bin .lss (.t 47) (.t 49))]) (.cnd (.t 50) .skip (.ext 0))) (.seq (.blk 1 (.seq (.drw [o 53 (.ld true 4 (.t 3)), o 54 (.mov (.t 2)), o 55 (.mov (.t 7)), o 56 (.mov (.t 8)), o 57 (.iad 1 (.t 55) (.t 56)), o 58 (.ld false 1 (.t 57)), o 59 (.call 72 [(.t 53), (.t 54), (.t 58)]), o 60 (.ld true 4 (.t 4)), o 61 (.mov (.t 2)), o 62 (.mov (.t 7)), o 63 (.mov (.t 8)), o 64 (.iad 1 (.t 62) (.t 63)), o 65 (.ld false 1 (.t 64))] [o 66 (.call 72 [(.t 60), (.t 61), (.t 65)]), o 67 (.call 70 [(.t 59), (.t 66)]), o 68 (.un .not (.t 67))]) (.cnd (.t 68) (.seq (.reg [o 6 (.mov (.k (.bool false)))]) .ret) .skip))) (.reg [o 51 (.mov (.t 8)), o 52 (.bin .add (.t 51) (.k (.int .i64 1))), o 8 (.mov (.t 52))])))))) (.seq (.reg [o 6 (.mov (.k (.bool true)))]) .ret)))))⟩
theorem ir_s_SameReading : compFn Tryz.prog n_s_SameReading = some F_s_SameReading := by kernel_rfl
abbrev n_i_SameReading : Nat := 23
def F_i_SameReading : Fn1 := ⟨62, [.t 6], (.seq (.reg [o 3 (.box (.t 0)), o 4 (.box (.t 1)), o 6 (.mov (.k (.bool false)))]) (.seq (.reg [o 10 (.ld true 4 (.t 3)), o 11 (.mov (.t 2)), o 12 (.call 77 [(.t 10), (.t 11)]), o 7 (.mov (.t 12))]) (.seq (.seq (.drw [o 13 (.ld true 4 (.t 3)), o 14 (.mov (.t 2)), o 15 (.call 78 [(.t 13), (.t 14)]), o 16 (.ld true 4 (.t 4)), o 17 (.mov (.t 2)), o 18 (.call 78 [(.t 16), (.t 17)]), o 19 (.bin .neq (.t 15) (.t 18)), o 20 (.mov (.t 19)), og 21 20 false (.ld true 4 (.t 3)), og 22 20 false (.mov (.t 2)), og 23 20 false (.call 80 [(.t 21), (.t 22)]), og 24 20 false (.ld true 4 (.t 4))] [og 25 20 false (.mov (.t 2)), og 26 20 false (.call 80 [(.t 24), (.t 25)]), og 27 20 false (.call 79 [(.t 23), (.t 26)]), og 28 20 false (.un .not (.t 27)), o 29 (.pick (.t 20) (.k (.bool true)) (.t 28)), o 30 (.mov (.t 29)), og 31 30 false (.mov (.t 7)), og 32 30 false (.ld true 4 (.t 4)), og 33 30 false (.mov (.t 2)), og 34 30 false (.call 77 [(.t 32), (.t 33)]), og 35 30 false (.call 79 [(.t 31), (.t 34)]), og 36 30 false (.un .not (.t 35)), o 37 (.pick (.t 30) (.k (.bool true)) (.t 36))]) (.cnd (.t 37) (.seq (.reg [o 6 (.mov (.k (.bool false)))]) .ret) .skip)) (.seq (.seq (.reg [o 38 (.mov (.t 7)), o 39 (.len false (.t 38)), o 40 (.mov (.k (.int .i64 0)))]) (.blk 0 (.lop (.seq (.reg [o 41 (.bin .lss (.t 40) (.t 39))]) (.seq (.cnd (.t 41) .skip (.ext 0)) (.seq (.blk 1 (.seq (.reg [o 42 (.iad 1 (.t 38) (.t 40)), o 43 (.ld false 1 (.t 42)), o 9 (.mov (.t 43))]) (.seq (.drw [o 44 (.ld true 4 (.t 3)), o 45 (.mov (.t 2)), o 46 (.mov (.t 9)), o 47 (.call 82 [(.t 44), (.t 45), (.t 46)]), o 48 (.ld true 4 (.t 4))] [o 49 (.mov (.t 2)), o 50 (.mov (.t 9)), o 51 (.call 82 [(.t 48), (.t 49), (.t 50)]), o 52 (.call 81 [(.t 47), (.t 51)]), o 53 (.un .not (.t 52))]) (.cnd (.t 53) (.seq (.reg [o 6 (.mov (.k (.bool false)))]) .ret) .skip)))) (.reg [o 54 (.bin .add (.t 40) (.k (.int .i64 1))), o 40 (.mov (.t 54))]))))))) (.seq (.drw [o 55 (.ld true 4 (.t 3)), o 56 (.mov (.t 2)), o 57 (.call 83 [(.t 55), (.t 56)]), o 58 (.ld true 4 (.t 4))] [o 59 (.mov (.t 2)), o 60 (.call 83 [(.t 58), (.t 59)]), o 61 (.call 81 [(.t 57), (.t 60)]), o 6 (.mov (.t 61))]) .ret)))))⟩
theorem ir_i_SameReading : compFn Tryz.prog n_i_SameReading = some F_i_SameReading := by kernel_rfl
theorem s_l25Texts_ret (σ : St) (v u : GV) (a b : List ByteArray) (ha : RS pS.kd σ v a) (hb : RS pS.kd σ u b) (hla : a.length ≤ 1099511627776) : Ret Tryz.prog n_s_l25Texts [v, u] σ (.bool (decide (a = b))) σ := by
  refine ret_eq ir_s_l25Texts (Nat.le_of_ble_eq_true rfl) trivial ?_
  simp +contextual (maxSteps := 600000) (disch := omega) only [go_sem, Nat.reduceEqDiff, ↓reduceIte, Int.reduceEq, Int.reduceNeg, wrap_add, F_s_l25Texts, ha.len, hb.len]
  refine ⟨fun hn => ?_, fun hn => ?_⟩
  · have : a ≠ b := fun h => by subst h; simp at hn
    simp [this]
  · have hlm : a.length = b.length := by have h2 : (a.length : Int) = b.length := by simpa using hn
                                         omega
    refine vc_for a.length 5 (fun i env τ => env 0 = v ∧ env 1 = u ∧ a.take i = b.take i ∧ σ <+: τ) rfl ⟨rfl, rfl, rfl, List.prefix_refl _⟩ ?_ ?_
    · rintro i env τ hi e5 c0 ⟨e0, e1, he, hp⟩
      have hj : i < b.length := by omega
      have hne : a[i] ≠ b[i] → a ≠ b := fun h h' => h (by subst h'; rfl)
      have hst : a[i] = b[i] → a.take (i + 1) = b.take (i + 1) := fun h => by rw [take_snoc hi, take_snoc hj, he, h]
      simp +contextual (maxSteps := 600000) (disch := omega) only [go_sem, Nat.reduceEqDiff, ↓reduceIte, Int.reduceEq, Int.reduceNeg, wrap_add, c0, e0, e1, e5, ha.len, hb.len, str_at (ha.pre hp) hi, str_at (hb.pre hp) hj, hp]
      refine ⟨fun h => ?_, fun h => ?_⟩
      · simp [hne (by simpa using h)]
      · simpa using hst (by simpa using h)
    · rintro env τ e5 c0 ⟨e0, e1, he, hp⟩
      rw [List.take_length, hlm, List.take_length] at he
      simp +contextual (maxSteps := 600000) (disch := omega) only [go_sem, Nat.reduceEqDiff, ↓reduceIte, Int.reduceEq, Int.reduceNeg, wrap_add, c0, e0, e1, e5, ha.len, hb.len, hp]
      simp [he]
theorem slices_Equal_string_ret (σ : St) (v u : GV) (a b : List ByteArray) (ha : RS pS.kd σ v a) (hb : RS pS.kd σ u b) (hla : a.length ≤ 1099511627776) : Ret Tryz.prog n_slices_Equal_string_string [v, u] σ (.bool (decide (a = b))) σ := by
  refine ret_eq ir_slices_Equal_string_string (Nat.le_of_ble_eq_true rfl) trivial ?_
  simp +contextual (maxSteps := 600000) (disch := omega) only [go_sem, Nat.reduceEqDiff, ↓reduceIte, Int.reduceEq, Int.reduceNeg, wrap_add, F_slices_Equal_string_string, ha.len, hb.len]
  refine ⟨fun hn => ?_, fun hn => ?_⟩
  · have : a ≠ b := fun h => by subst h; simp at hn
    simp [this]
  · have hlm : a.length = b.length := by have h2 : (a.length : Int) = b.length := by simpa using hn
                                         omega
    refine vc_for a.length 13 (fun i env τ => env 0 = v ∧ env 1 = u ∧ env 12 = gi a.length ∧ a.take i = b.take i ∧ σ <+: τ) rfl ⟨rfl, rfl, rfl, rfl, List.prefix_refl _⟩ ?_ ?_
    · rintro i env τ hi e13 c0 ⟨e0, e1, e12, he, hp⟩
      have hj : i < b.length := by omega
      have hne : a[i] ≠ b[i] → a ≠ b := fun h h' => h (by subst h'; rfl)
      have hst : a[i] = b[i] → a.take (i + 1) = b.take (i + 1) := fun h => by rw [take_snoc hi, take_snoc hj, he, h]
      simp +contextual (maxSteps := 600000) (disch := omega) only [go_sem, Nat.reduceEqDiff, ↓reduceIte, Int.reduceEq, Int.reduceNeg, wrap_add, c0, e0, e1, e12, e13, str_at (ha.pre hp) hi, str_at (hb.pre hp) hj, hp]
      refine ⟨fun h => ?_, fun h => ?_⟩
      · simp [hne (by simpa using h)]
      · simpa using hst (by simpa using h)
    · rintro env τ e13 c0 ⟨e0, e1, e12, he, hp⟩
      rw [List.take_length, hlm, List.take_length] at he
      simp +contextual (maxSteps := 600000) (disch := omega) only [go_sem, Nat.reduceEqDiff, ↓reduceIte, Int.reduceEq, Int.reduceNeg, wrap_add, c0, e0, e1, e12, e13, hp]
      simp [he]
theorem keysOf_le (s : State) (m : Bool) (o : ByteArray) : (keysOf s m o).length ≤ msState s := by
  have h1 := putAll_length txLt ((s.lives.filter (isLiveO m o)).map (·.key))
  rw [List.length_map] at h1
  have h2 : (s.lives.filter (isLiveO m o)).length ≤ s.lives.length := List.length_filter_le _ _
  have h3 : s.lives.length ≤ msState s := by unfold msState; omega
  unfold keysOf; omega
theorem mapOf_le (s : State) (o k : ByteArray) : (mapOf s o k).length ≤ msState s := by
  have h2 : (livesOf s true o k).length ≤ s.lives.length := List.length_filter_le _ _
  have h3 : s.lives.length ≤ msState s := by unfold msState; omega
  rw [mapOf, insAll_length, List.length_map]; omega
theorem rowOf_le (s : State) (o : ByteArray) : (rowOf s o).length ≤ 1200120 := by
  rw [rowOf, List.length_map]; exact rowL_len s o
def sameMaps (a b : State) (o : ByteArray) (ks : List ByteArray) : Bool := ks.all fun k => decide (mapOf a o k = mapOf b o k)
def sameReading (a b : State) (o : ByteArray) : Bool := decide (countOf a o = countOf b o) && (decide (keysOf a false o = keysOf b false o) && (decide (keysOf a true o = keysOf b true o) && (decide (rowOf a o = rowOf b o) && sameMaps a b o (keysOf a true o))))
theorem cnt_ne {x y : Int} : (x != y) = !decide (x = y) := by
  by_cases h : x = y <;> simp [h]
set_option maxHeartbeats 4000000 in
theorem s_SameReading_ret (σ : St) (cs : List GV) (a : State) (hR : kState.R σ a cs) (ds : List GV) (b : State) (hS : kState.R σ b ds) (o : ByteArray) (hl : msState a ≤ 1099511627776) (hm : msState b ≤ 1099511627776) (ho : o.size ≤ 1099511627776) : Ret Tryz.prog n_s_SameReading [.agg cs, .agg ds, .str o] σ (.bool (sameReading a b o)) σ := by
  have lc : cs.length = 4 := kState.len hR
  have ld : ds.length = 4 := kState.len hS
  have hk1 := keysOf_le a true o
  have hk2 := keysOf_le a false o
  have hr1 := rowOf_le a o
  refine ret_eq ir_s_SameReading (Nat.le_of_ble_eq_true rfl) trivial ?_
  have H := ((Hp.refl σ).new 1 cs).new 1 ds
  simp +contextual (maxSteps := 600000) (disch := omega) only [go_sem, Nat.reduceEqDiff, ↓reduceIte, Int.reduceEq, Int.reduceNeg, wrap_add, F_s_SameReading, ld_new2, seg_full lc]
  obtain ⟨r1, τ1, R1, K1⟩ := s_KeysOf_ret _ cs a (kState.pre hR H.sub) o hl
  refine by_hp R1 K1 ?_
  have H := H.add K1
  simp only [List.cons_append, List.nil_append] at H
  generalize hn2 : (σ ++ [some (Blk.row 1 cs)]).length = n2 at *
  generalize hn1 : σ.length = n1 at *
  simp +contextual (maxSteps := 600000) (disch := omega) only [go_sem, Nat.reduceEqDiff, ↓reduceIte, Int.reduceEq, Int.reduceNeg, wrap_add, ld_ptr (H.pt 2 rfl), seg_full lc]
  refine by_ret (s_CountOf_ret _ cs a (kState.pre hR H.sub) o hl) ?_
  simp +contextual (maxSteps := 600000) (disch := omega) only [go_sem, Nat.reduceEqDiff, ↓reduceIte, Int.reduceEq, Int.reduceNeg, wrap_add, ld_ptr (H.pt 1 rfl), seg_full ld]
  refine by_ret (s_CountOf_ret _ ds b (kState.pre hS H.sub) o hm) ?_
  cases h1 : decide (countOf a o = countOf b o) with
  | false =>
    have hE : sameReading a b o = false := by simp [sameReading, h1]
    simp +contextual (maxSteps := 600000) (disch := omega) only [go_sem, Nat.reduceEqDiff, ↓reduceIte, Int.reduceEq, Int.reduceNeg, wrap_add, cnt_ne, h1, hE, H.sub]
  | true =>
    simp +contextual (maxSteps := 600000) (disch := omega) only [go_sem, Nat.reduceEqDiff, ↓reduceIte, Int.reduceEq, Int.reduceNeg, wrap_add, cnt_ne, h1, ld_ptr (H.pt 2 rfl), seg_full lc]
    obtain ⟨r2, τ2, R2, K2⟩ := s_SetOf_ret _ cs a (kState.pre hR H.sub) o hl
    refine by_hp R2 K2 ?_
    have H := H.add K2
    simp only [List.cons_append, List.nil_append] at H
    simp +contextual (maxSteps := 600000) (disch := omega) only [go_sem, Nat.reduceEqDiff, ↓reduceIte, Int.reduceEq, Int.reduceNeg, wrap_add, cnt_ne, h1, ld_ptr (H.pt 2 rfl), seg_full ld]
    obtain ⟨r3, τ3, R3, K3⟩ := s_SetOf_ret _ ds b (kState.pre hS H.sub) o hm
    refine by_hp R3 K3 ?_
    have H := H.add K3
    simp only [List.cons_append, List.nil_append] at H
    simp +contextual (maxSteps := 600000) (disch := omega) only [go_sem, Nat.reduceEqDiff, ↓reduceIte, Int.reduceEq, Int.reduceNeg, wrap_add, cnt_ne, h1]
    refine by_ret (s_l25Texts_ret _ _ _ _ _ (H.sl 1 rfl) (H.sl 0 rfl) (by omega)) ?_
    cases h2 : decide (keysOf a false o = keysOf b false o) with
    | false =>
      have hE : sameReading a b o = false := by simp [sameReading, h2]
      simp +contextual (maxSteps := 600000) (disch := omega) only [go_sem, Nat.reduceEqDiff, ↓reduceIte, Int.reduceEq, Int.reduceNeg, wrap_add, hE, H.sub]
    | true =>
      simp +contextual (maxSteps := 600000) (disch := omega) only [go_sem, Nat.reduceEqDiff, ↓reduceIte, Int.reduceEq, Int.reduceNeg, wrap_add, ld_ptr (H.pt 3 rfl), seg_full ld]
      obtain ⟨r4, τ4, R4, K4⟩ := s_KeysOf_ret _ ds b (kState.pre hS H.sub) o hm
      refine by_hp R4 K4 ?_
      have H := H.add K4
      simp only [List.cons_append, List.nil_append] at H
      simp +contextual (maxSteps := 600000) (disch := omega) only [go_sem, Nat.reduceEqDiff, ↓reduceIte, Int.reduceEq, Int.reduceNeg, wrap_add, List.append_nil]
      refine by_ret (s_l25Texts_ret _ _ _ _ _ (H.sl 3 rfl) (H.sl 0 rfl) (by omega)) ?_
      cases h3 : decide (keysOf a true o = keysOf b true o) with
      | false =>
        have hE : sameReading a b o = false := by simp [sameReading, h3]
        simp +contextual (maxSteps := 600000) (disch := omega) only [go_sem, Nat.reduceEqDiff, ↓reduceIte, Int.reduceEq, Int.reduceNeg, wrap_add, hE, H.sub]
      | true =>
        simp +contextual (maxSteps := 600000) (disch := omega) only [go_sem, Nat.reduceEqDiff, ↓reduceIte, Int.reduceEq, Int.reduceNeg, wrap_add, ld_ptr (H.pt 5 rfl), seg_full lc]
        obtain ⟨r5, τ5, R5, K5⟩ := s_RowOf_ret _ cs a (kState.pre hR H.sub) o hl
        refine by_hp R5 K5 ?_
        have H := H.add K5
        simp only [List.cons_append, List.nil_append] at H
        simp +contextual (maxSteps := 600000) (disch := omega) only [go_sem, Nat.reduceEqDiff, ↓reduceIte, Int.reduceEq, Int.reduceNeg, wrap_add, ld_ptr (H.pt 5 rfl), seg_full ld]
        obtain ⟨r6, τ6, R6, K6⟩ := s_RowOf_ret _ ds b (kState.pre hS H.sub) o hm
        refine by_hp R6 K6 ?_
        have H := H.add K6
        simp only [List.cons_append, List.nil_append] at H
        simp +contextual (maxSteps := 600000) (disch := omega) only [go_sem, Nat.reduceEqDiff, ↓reduceIte, Int.reduceEq, Int.reduceNeg, wrap_add, List.append_nil]
        refine by_ret (s_Same_ret _ _ _ _ _ (H.sl 1 rfl) (H.sl 0 rfl) (by omega)) ?_
        cases h4 : decide (rowOf a o = rowOf b o) with
        | false =>
          have hE : sameReading a b o = false := by simp [sameReading, h4]
          simp +contextual (maxSteps := 600000) (disch := omega) only [go_sem, Nat.reduceEqDiff, ↓reduceIte, Int.reduceEq, Int.reduceNeg, wrap_add, hE, H.sub]
        | true =>
          have hE : sameReading a b o = sameMaps a b o (keysOf a true o) := by simp [sameReading, h1, h2, h3, h4]
          rw [hE]
          generalize hks : keysOf a true o = ks at *
          simp +contextual (maxSteps := 600000) (disch := omega) only [go_sem, Nat.reduceEqDiff, ↓reduceIte, Int.reduceEq, Int.reduceNeg, wrap_add, List.append_nil]
          refine vc_forR ks.length 8 0 (fun i env τ => env 2 = .str o ∧ env 3 = .ptr n1 0 ∧ env 4 = .ptr n2 0 ∧ env 7 = r1 ∧ (∀ j (hj : j < i) (hl : j < ks.length), mapOf a o ks[j] = mapOf b o ks[j]) ∧ Hp σ τ [ow pS.kd r1 ks, pt 1 n2 ds, pt 1 n1 cs]) (fun env τ => sameMaps a b o ks = true ∧ σ <+: τ) (fun env τ => env 6 = .bool false ∧ sameMaps a b o ks = false ∧ σ <+: τ) rfl ⟨rfl, rfl, rfl, rfl, fun j hj => by omega, H.drop1.drop1.drop1.drop1.drop1⟩ ?_ ?_ ?_ ?_
          · clear H
            rintro J Y W hJ hY hW i env τ hi e8 c0 ⟨e2, e3, e4, e7, ha, H⟩
            have i1 := str_at (H.sl 0 rfl) hi
            have hln := (H.sl 0 rfl).len
            obtain ⟨q1, τ7, Q1, L1⟩ := s_MapOf_ret _ cs a (kState.pre hR H.sub) o ks[i] hl
            simp +contextual (maxSteps := 600000) (disch := omega) only [go_sem, Nat.reduceEqDiff, ↓reduceIte, Int.reduceEq, Int.reduceNeg, wrap_add, c0, e2, e3, e4, e7, e8, i1, hln, ld_ptr (H.pt 2 rfl), seg_full lc]
            refine by_hp Q1 L1 ?_
            have H1 := H.add L1
            simp only [List.cons_append, List.nil_append] at H1
            have i2 := str_at (H1.sl 1 rfl) hi
            obtain ⟨q2, τ8, Q2, L2⟩ := s_MapOf_ret _ ds b (kState.pre hS H1.sub) o ks[i] hm
            simp +contextual (maxSteps := 600000) (disch := omega) only [go_sem, Nat.reduceEqDiff, ↓reduceIte, Int.reduceEq, Int.reduceNeg, wrap_add, e2, e3, e4, e7, e8, i2, ld_ptr (H1.pt 2 rfl), seg_full ld]
            refine by_hp Q2 L2 ?_
            have H2 := H1.add L2
            simp only [List.cons_append, List.nil_append] at H2
            simp +contextual (maxSteps := 600000) (disch := omega) only [go_sem, Nat.reduceEqDiff, ↓reduceIte, Int.reduceEq, Int.reduceNeg, wrap_add, List.append_nil]
            have hml := mapOf_le a o ks[i]
            refine by_ret (s_Same_ret _ _ _ _ _ (H2.sl 1 rfl) (H2.sl 0 rfl) (by omega)) ?_
            cases hq : decide (mapOf a o ks[i] = mapOf b o ks[i]) with
            | false =>
              have hno : sameMaps a b o ks = false := by
                unfold sameMaps
                rw [List.all_eq_false]
                exact ⟨ks[i], List.getElem_mem hi, by rw [hq]; simp⟩
              simp +contextual (maxSteps := 600000) (disch := omega) only [go_sem, Nat.reduceEqDiff, ↓reduceIte, Int.reduceEq, Int.reduceNeg, wrap_add, List.append_nil]
              refine hW _ _ ⟨?_, hno, H2.sub⟩
              simp +contextual (maxSteps := 600000) (disch := omega) only [go_sem, Nat.reduceEqDiff, ↓reduceIte, Int.reduceEq, Int.reduceNeg, wrap_add, List.append_nil]
            | true =>
              simp +contextual (maxSteps := 600000) (disch := omega) only [go_sem, Nat.reduceEqDiff, ↓reduceIte, Int.reduceEq, Int.reduceNeg, wrap_add, e2, e3, e4, e7, e8]
              refine hJ _ _ _ ⟨?_, ?_, ?_, ?_, fun j hj hl => ?_, H2.drop1.drop1⟩
              all_goals first | (simp +contextual (maxSteps := 600000) (disch := omega) only [go_sem, Nat.reduceEqDiff, ↓reduceIte, Int.reduceEq, Int.reduceNeg, wrap_add, e2, e3, e4, e7, e8]; done) | skip
              rcases Nat.lt_or_ge j i with h | h
              · exact ha j h hl
              · have : j = i := by omega
                subst this; simpa using hq
          · clear H
            rintro Y hY env τ e8 c0 ⟨e2, e3, e4, e7, ha, H⟩
            have hln := (H.sl 0 rfl).len
            have hyes : sameMaps a b o ks = true := by
              unfold sameMaps
              rw [List.all_eq_true]
              intro x hx
              obtain ⟨j, hj, rfl⟩ := List.getElem_of_mem hx
              simpa using ha j hj hj
            simp +contextual (maxSteps := 600000) (disch := omega) only [go_sem, Nat.reduceEqDiff, ↓reduceIte, Int.reduceEq, Int.reduceNeg, wrap_add, c0, e2, e3, e4, e7, e8, hln]
            exact hY _ _ ⟨hyes, H.sub⟩
          · clear H
            rintro env τ ⟨hy, hp⟩
            simp +contextual (maxSteps := 600000) (disch := omega) only [go_sem, Nat.reduceEqDiff, ↓reduceIte, Int.reduceEq, Int.reduceNeg, wrap_add, hy, hp]
          · clear H
            rintro env τ ⟨e6, hy, hp⟩
            simp +contextual (maxSteps := 600000) (disch := omega) only [go_sem, Nat.reduceEqDiff, ↓reduceIte, Int.reduceEq, Int.reduceNeg, wrap_add, e6, hy, hp]
set_option maxHeartbeats 4000000 in
theorem i_SameReading_ret (σ : St) (cs : List GV) (a : State) (hR : kState.R σ a cs) (ds : List GV) (b : State) (hS : kState.R σ b ds) (o : ByteArray) (hl : msState a ≤ 1099511627776) (hm : msState b ≤ 1099511627776) (ho : o.size ≤ 1099511627776) : Ret Tryz.prog n_i_SameReading [.agg cs, .agg ds, .str o] σ (.bool (sameReading a b o)) σ := by
  have lc : cs.length = 4 := kState.len hR
  have ld : ds.length = 4 := kState.len hS
  have hk1 := keysOf_le a true o
  have hk2 := keysOf_le a false o
  have hr1 := rowOf_le a o
  refine ret_eq ir_i_SameReading (Nat.le_of_ble_eq_true rfl) trivial ?_
  have H := ((Hp.refl σ).new 1 cs).new 1 ds
  simp +contextual (maxSteps := 600000) (disch := omega) only [go_sem, Nat.reduceEqDiff, ↓reduceIte, Int.reduceEq, Int.reduceNeg, wrap_add, F_i_SameReading, ld_new2, seg_full lc]
  obtain ⟨r1, τ1, R1, K1⟩ := i_KeysOf_ret _ cs a (kState.pre hR H.sub) o hl
  refine by_hp R1 K1 ?_
  have H := H.add K1
  simp only [List.cons_append, List.nil_append] at H
  generalize hn2 : (σ ++ [some (Blk.row 1 cs)]).length = n2 at *
  generalize hn1 : σ.length = n1 at *
  simp +contextual (maxSteps := 600000) (disch := omega) only [go_sem, Nat.reduceEqDiff, ↓reduceIte, Int.reduceEq, Int.reduceNeg, wrap_add, ld_ptr (H.pt 2 rfl), seg_full lc]
  refine by_ret (i_CountOf_ret _ cs a (kState.pre hR H.sub) o hl) ?_
  simp +contextual (maxSteps := 600000) (disch := omega) only [go_sem, Nat.reduceEqDiff, ↓reduceIte, Int.reduceEq, Int.reduceNeg, wrap_add, ld_ptr (H.pt 1 rfl), seg_full ld]
  refine by_ret (i_CountOf_ret _ ds b (kState.pre hS H.sub) o hm) ?_
  cases h1 : decide (countOf a o = countOf b o) with
  | false =>
    have hE : sameReading a b o = false := by simp [sameReading, h1]
    simp +contextual (maxSteps := 600000) (disch := omega) only [go_sem, Nat.reduceEqDiff, ↓reduceIte, Int.reduceEq, Int.reduceNeg, wrap_add, cnt_ne, h1, hE, H.sub]
  | true =>
    simp +contextual (maxSteps := 600000) (disch := omega) only [go_sem, Nat.reduceEqDiff, ↓reduceIte, Int.reduceEq, Int.reduceNeg, wrap_add, cnt_ne, h1, ld_ptr (H.pt 2 rfl), seg_full lc]
    obtain ⟨r2, τ2, R2, K2⟩ := i_SetOf_ret _ cs a (kState.pre hR H.sub) o hl
    refine by_hp R2 K2 ?_
    have H := H.add K2
    simp only [List.cons_append, List.nil_append] at H
    simp +contextual (maxSteps := 600000) (disch := omega) only [go_sem, Nat.reduceEqDiff, ↓reduceIte, Int.reduceEq, Int.reduceNeg, wrap_add, cnt_ne, h1, ld_ptr (H.pt 2 rfl), seg_full ld]
    obtain ⟨r3, τ3, R3, K3⟩ := i_SetOf_ret _ ds b (kState.pre hS H.sub) o hm
    refine by_hp R3 K3 ?_
    have H := H.add K3
    simp only [List.cons_append, List.nil_append] at H
    simp +contextual (maxSteps := 600000) (disch := omega) only [go_sem, Nat.reduceEqDiff, ↓reduceIte, Int.reduceEq, Int.reduceNeg, wrap_add, cnt_ne, h1]
    refine by_ret (slices_Equal_string_ret _ _ _ _ _ (H.sl 1 rfl) (H.sl 0 rfl) (by omega)) ?_
    cases h2 : decide (keysOf a false o = keysOf b false o) with
    | false =>
      have hE : sameReading a b o = false := by simp [sameReading, h2]
      simp +contextual (maxSteps := 600000) (disch := omega) only [go_sem, Nat.reduceEqDiff, ↓reduceIte, Int.reduceEq, Int.reduceNeg, wrap_add, hE, H.sub]
    | true =>
      simp +contextual (maxSteps := 600000) (disch := omega) only [go_sem, Nat.reduceEqDiff, ↓reduceIte, Int.reduceEq, Int.reduceNeg, wrap_add, ld_ptr (H.pt 3 rfl), seg_full ld]
      obtain ⟨r4, τ4, R4, K4⟩ := i_KeysOf_ret _ ds b (kState.pre hS H.sub) o hm
      refine by_hp R4 K4 ?_
      have H := H.add K4
      simp only [List.cons_append, List.nil_append] at H
      simp +contextual (maxSteps := 600000) (disch := omega) only [go_sem, Nat.reduceEqDiff, ↓reduceIte, Int.reduceEq, Int.reduceNeg, wrap_add, List.append_nil]
      refine by_ret (slices_Equal_string_ret _ _ _ _ _ (H.sl 3 rfl) (H.sl 0 rfl) (by omega)) ?_
      cases h3 : decide (keysOf a true o = keysOf b true o) with
      | false =>
        have hE : sameReading a b o = false := by simp [sameReading, h3]
        simp +contextual (maxSteps := 600000) (disch := omega) only [go_sem, Nat.reduceEqDiff, ↓reduceIte, Int.reduceEq, Int.reduceNeg, wrap_add, hE, H.sub]
      | true =>
        have hE : sameReading a b o = (decide (rowOf a o = rowOf b o) && sameMaps a b o (keysOf a true o)) := by simp [sameReading, h1, h2, h3]
        rw [hE]
        generalize hks : keysOf a true o = ks at *
        have hlnk := (H.sl 3 rfl).len
        simp +contextual (maxSteps := 600000) (disch := omega) only [go_sem, Nat.reduceEqDiff, ↓reduceIte, Int.reduceEq, Int.reduceNeg, wrap_add, hlnk]
        refine vc_forR ks.length 40 0 (fun i env τ => env 2 = .str o ∧ env 3 = .ptr n1 0 ∧ env 4 = .ptr n2 0 ∧ env 38 = r1 ∧ env 39 = gi ks.length ∧ (∀ j (hj : j < i) (hl : j < ks.length), mapOf a o ks[j] = mapOf b o ks[j]) ∧ Hp σ τ [ow pS.kd r1 ks, pt 1 n2 ds, pt 1 n1 cs]) (fun env τ => env 2 = .str o ∧ env 3 = .ptr n1 0 ∧ env 4 = .ptr n2 0 ∧ sameMaps a b o ks = true ∧ Hp σ τ [ow pS.kd r1 ks, pt 1 n2 ds, pt 1 n1 cs]) (fun env τ => env 6 = .bool false ∧ sameMaps a b o ks = false ∧ σ <+: τ) rfl ⟨rfl, rfl, rfl, rfl, rfl, fun j hj => by omega, H.drop1.drop1.drop1⟩ ?_ ?_ ?_ ?_
        · clear H
          rintro J Y W hJ hY hW i env τ hi e8 c0 ⟨e2, e3, e4, e7, e9, ha, H⟩
          have i1 := str_at (H.sl 0 rfl) hi
          obtain ⟨q1, τ7, Q1, L1⟩ := i_MapOf_ret _ cs a (kState.pre hR H.sub) o ks[i] hl
          simp +contextual (maxSteps := 600000) (disch := omega) only [go_sem, Nat.reduceEqDiff, ↓reduceIte, Int.reduceEq, Int.reduceNeg, wrap_add, c0, e2, e3, e4, e7, e8, e9, i1, ld_ptr (H.pt 2 rfl), seg_full lc]
          refine by_hp Q1 L1 ?_
          have H1 := H.add L1
          simp only [List.cons_append, List.nil_append] at H1
          obtain ⟨q2, τ8, Q2, L2⟩ := i_MapOf_ret _ ds b (kState.pre hS H1.sub) o ks[i] hm
          simp +contextual (maxSteps := 600000) (disch := omega) only [go_sem, Nat.reduceEqDiff, ↓reduceIte, Int.reduceEq, Int.reduceNeg, wrap_add, e2, e3, e4, e7, e8, e9, ld_ptr (H1.pt 2 rfl), seg_full ld]
          refine by_hp Q2 L2 ?_
          have H2 := H1.add L2
          simp only [List.cons_append, List.nil_append] at H2
          simp +contextual (maxSteps := 600000) (disch := omega) only [go_sem, Nat.reduceEqDiff, ↓reduceIte, Int.reduceEq, Int.reduceNeg, wrap_add, List.append_nil]
          have hml := mapOf_le a o ks[i]
          refine by_ret (slices_Equal_int_ret _ _ _ _ _ (H2.sl 1 rfl) (H2.sl 0 rfl) (by omega)) ?_
          cases hq : decide (mapOf a o ks[i] = mapOf b o ks[i]) with
          | false =>
            have hno : sameMaps a b o ks = false := by
              unfold sameMaps
              rw [List.all_eq_false]
              exact ⟨ks[i], List.getElem_mem hi, by rw [hq]; simp⟩
            simp +contextual (maxSteps := 600000) (disch := omega) only [go_sem, Nat.reduceEqDiff, ↓reduceIte, Int.reduceEq, Int.reduceNeg, wrap_add, List.append_nil]
            refine hW _ _ ⟨?_, hno, H2.sub⟩
            simp +contextual (maxSteps := 600000) (disch := omega) only [go_sem, Nat.reduceEqDiff, ↓reduceIte, Int.reduceEq, Int.reduceNeg, wrap_add, List.append_nil]
          | true =>
            simp +contextual (maxSteps := 600000) (disch := omega) only [go_sem, Nat.reduceEqDiff, ↓reduceIte, Int.reduceEq, Int.reduceNeg, wrap_add, e2, e3, e4, e7, e8, e9]
            refine hJ _ _ _ ⟨?_, ?_, ?_, ?_, ?_, fun j hj hl => ?_, H2.drop1.drop1⟩
            all_goals first | (simp +contextual (maxSteps := 600000) (disch := omega) only [go_sem, Nat.reduceEqDiff, ↓reduceIte, Int.reduceEq, Int.reduceNeg, wrap_add, e2, e3, e4, e7, e8, e9]; done) | skip
            rcases Nat.lt_or_ge j i with h | h
            · exact ha j h hl
            · have : j = i := by omega
              subst this; simpa using hq
        · clear H
          rintro Y hY env τ e8 c0 ⟨e2, e3, e4, e7, e9, ha, H⟩
          have hyes : sameMaps a b o ks = true := by
            unfold sameMaps
            rw [List.all_eq_true]
            intro x hx
            obtain ⟨j, hj, rfl⟩ := List.getElem_of_mem hx
            simpa using ha j hj hj
          simp +contextual (maxSteps := 600000) (disch := omega) only [go_sem, Nat.reduceEqDiff, ↓reduceIte, Int.reduceEq, Int.reduceNeg, wrap_add, c0, e2, e3, e4, e7, e8, e9]
          refine hY _ _ ⟨?_, ?_, ?_, hyes, H⟩
          all_goals simp +contextual (maxSteps := 600000) (disch := omega) only [go_sem, Nat.reduceEqDiff, ↓reduceIte, Int.reduceEq, Int.reduceNeg, wrap_add, e2, e3, e4]
        · clear H
          rintro env τ ⟨e2, e3, e4, hy, H⟩
          simp +contextual (maxSteps := 600000) (disch := omega) only [go_sem, Nat.reduceEqDiff, ↓reduceIte, Int.reduceEq, Int.reduceNeg, wrap_add, e2, e3, e4, ld_ptr (H.pt 2 rfl), seg_full lc]
          obtain ⟨r5, τ5, R5, K5⟩ := i_RowOf_ret _ cs a (kState.pre hR H.sub) o hl
          refine by_hp R5 K5 ?_
          have H := H.add K5
          simp only [List.cons_append, List.nil_append] at H
          simp +contextual (maxSteps := 600000) (disch := omega) only [go_sem, Nat.reduceEqDiff, ↓reduceIte, Int.reduceEq, Int.reduceNeg, wrap_add, e2, e3, e4, ld_ptr (H.pt 2 rfl), seg_full ld]
          obtain ⟨r6, τ6, R6, K6⟩ := i_RowOf_ret _ ds b (kState.pre hS H.sub) o hm
          refine by_hp R6 K6 ?_
          have H := H.add K6
          simp only [List.cons_append, List.nil_append] at H
          simp +contextual (maxSteps := 600000) (disch := omega) only [go_sem, Nat.reduceEqDiff, ↓reduceIte, Int.reduceEq, Int.reduceNeg, wrap_add, List.append_nil]
          refine by_ret (slices_Equal_int_ret _ _ _ _ _ (H.sl 1 rfl) (H.sl 0 rfl) (by omega)) ?_
          simp +contextual (maxSteps := 600000) (disch := omega) only [go_sem, Nat.reduceEqDiff, ↓reduceIte, Int.reduceEq, Int.reduceNeg, wrap_add, hy, Bool.and_true, H.sub]
        · clear H
          rintro env τ ⟨e6, hy, hp⟩
          simp +contextual (maxSteps := 600000) (disch := omega) only [go_sem, Nat.reduceEqDiff, ↓reduceIte, Int.reduceEq, Int.reduceNeg, wrap_add, e6, hy, Bool.and_false, hp]
end Go.Proofs.YtffnefmklckngaaGreat.Sy

/- Contracts of the laws' own functions: HeqDot. -/
namespace Go.Proofs.YtffnefmklckngaaGreat.Sy
open Go Go.RowKit
set_option linter.unusedSimpArgs false
set_option linter.unusedVariables false
abbrev n_l_eqDot : Nat := 114
def F_l_eqDot : Fn1 := ⟨15, [.t 4], (.seq (.reg [o 2 (.box (.t 0)), o 3 (.box (.t 1)), o 4 (.mov (.k (.bool false)))]) (.seq (.seq (.reg [o 5 (.fad 0 (.t 2)), o 6 (.ld false 1 (.t 5)), o 7 (.fad 0 (.t 3)), o 8 (.ld false 1 (.t 7)), o 9 (.bin .neq (.t 6) (.t 8))]) (.cnd (.t 9) (.seq (.reg [o 4 (.mov (.k (.bool false)))]) .ret) .skip)) (.seq (.seq (.reg [o 10 (.fad 1 (.t 2)), o 11 (.ld false 1 (.t 10)), o 12 (.fad 1 (.t 3)), o 13 (.ld false 1 (.t 12)), o 14 (.bin .neq (.t 11) (.t 13))]) (.cnd (.t 14) (.seq (.reg [o 4 (.mov (.k (.bool false)))]) .ret) .skip)) (.seq (.reg [o 4 (.mov (.k (.bool true)))]) .ret))))⟩
theorem ir_l_eqDot : compFn Tryz.prog n_l_eqDot = some F_l_eqDot := by kernel_rfl
theorem l_eqDot_ret (σ : St) (x y : Dot) : Ret Tryz.prog n_l_eqDot [.agg [.int .i64 x.rep, .int .i64 x.seq], .agg [.int .i64 y.rep, .int .i64 y.seq]] σ (.bool (decide (x = y))) σ := by
  refine ret_eq ir_l_eqDot (Nat.le_of_ble_eq_true rfl) trivial ?_
  simp +contextual (maxSteps := 600000) (disch := omega) only [go_sem, Nat.reduceEqDiff, ↓reduceIte, Int.reduceEq, Int.reduceNeg, wrap_add, F_l_eqDot, List.append_nil]
  refine ⟨fun hn => ?_, fun hn => ?_⟩
  · simp only [Dot.eq_iff]; simp at hn ⊢; simp [hn]
  have q0 : x.rep = y.rep := by simpa using hn
  refine ⟨fun hn => ?_, fun hn => ?_⟩
  · simp only [Dot.eq_iff]; simp at hn ⊢; simp [hn]
  have q1 : x.seq = y.seq := by simpa using hn
  simp only [Dot.eq_iff, q0, q1, and_self, decide_true]
end Go.Proofs.YtffnefmklckngaaGreat.Sy

/- Contracts of the laws' own functions: HeqCell. -/
namespace Go.Proofs.YtffnefmklckngaaGreat.Sy
open Go Go.RowKit
set_option linter.unusedSimpArgs false
set_option linter.unusedVariables false
abbrev n_l_eqCell : Nat := 137
def F_l_eqCell : Fn1 := ⟨37, [.t 4], (.seq (.reg [o 2 (.box (.t 0)), o 3 (.box (.t 1)), o 4 (.mov (.k (.bool false)))]) (.seq (.seq (.reg [o 5 (.fad 0 (.t 2)), o 6 (.ld false 1 (.t 5)), o 7 (.fad 0 (.t 3)), o 8 (.ld false 1 (.t 7)), o 9 (.bin .neq (.t 6) (.t 8))]) (.cnd (.t 9) (.seq (.reg [o 4 (.mov (.k (.bool false)))]) .ret) .skip)) (.seq (.seq (.reg [o 10 (.fad 1 (.t 2)), o 11 (.ld true 2 (.t 10)), o 12 (.fad 1 (.t 3)), o 13 (.ld true 2 (.t 12)), o 14 (.call 114 [(.t 11), (.t 13)]), o 15 (.un .not (.t 14))]) (.cnd (.t 15) (.seq (.reg [o 4 (.mov (.k (.bool false)))]) .ret) .skip)) (.seq (.seq (.reg [o 16 (.fad 3 (.t 2)), o 17 (.ld false 1 (.t 16)), o 18 (.fad 3 (.t 3)), o 19 (.ld false 1 (.t 18)), o 20 (.bin .neq (.t 17) (.t 19))]) (.cnd (.t 20) (.seq (.reg [o 4 (.mov (.k (.bool false)))]) .ret) .skip)) (.seq (.seq (.reg [o 21 (.fad 4 (.t 2)), o 22 (.ld true 2 (.t 21)), o 23 (.fad 4 (.t 3)), o 24 (.ld true 2 (.t 23)), o 25 (.call 114 [(.t 22), (.t 24)]), o 26 (.un .not (.t 25))]) (.cnd (.t 26) (.seq (.reg [o 4 (.mov (.k (.bool false)))]) .ret) .skip)) (.seq (.seq (.reg [o 27 (.fad 6 (.t 2)), o 28 (.ld false 1 (.t 27)), o 29 (.fad 6 (.t 3)), o 30 (.ld false 1 (.t 29)), o 31 (.bin .neq (.t 28) (.t 30))]) (.cnd (.t 31) (.seq (.reg [o 4 (.mov (.k (.bool false)))]) .ret) .skip)) (.seq (.seq (.reg [o 32 (.fad 7 (.t 2)), o 33 (.ld false 1 (.t 32)), o 34 (.fad 7 (.t 3)), o 35 (.ld false 1 (.t 34)), o 36 (.eqb true (.t 33) (.t 35))]) (.cnd (.t 36) (.seq (.reg [o 4 (.mov (.k (.bool false)))]) .ret) .skip)) (.seq (.reg [o 4 (.mov (.k (.bool true)))]) .ret))))))))⟩
theorem ir_l_eqCell : compFn Tryz.prog n_l_eqCell = some F_l_eqCell := by kernel_rfl
theorem l_eqCell_ret (σ : St) (x y : Cell) : Ret Tryz.prog n_l_eqCell [.agg [.str x.obj, .int .i64 x.dot.rep, .int .i64 x.dot.seq, .int .i64 x.time, .int .i64 x.ref.rep, .int .i64 x.ref.seq, .int .i64 x.val, .bool x.gone], .agg [.str y.obj, .int .i64 y.dot.rep, .int .i64 y.dot.seq, .int .i64 y.time, .int .i64 y.ref.rep, .int .i64 y.ref.seq, .int .i64 y.val, .bool y.gone]] σ (.bool (decide (x = y))) σ := by
  refine ret_eq ir_l_eqCell (Nat.le_of_ble_eq_true rfl) trivial ?_
  simp +contextual (maxSteps := 600000) (disch := omega) only [go_sem, Nat.reduceEqDiff, ↓reduceIte, Int.reduceEq, Int.reduceNeg, wrap_add, F_l_eqCell, List.append_nil]
  refine ⟨fun hn => ?_, fun hn => ?_⟩
  · simp only [Cell.eq_iff]; simp at hn ⊢; simp [hn]
  have q0 : x.obj = y.obj := by simpa using hn
  refine by_ret (l_eqDot_ret _ x.dot y.dot) ?_
  simp +contextual (maxSteps := 600000) (disch := omega) only [go_sem, Nat.reduceEqDiff, ↓reduceIte, Int.reduceEq, Int.reduceNeg, wrap_add, List.append_nil]
  refine ⟨fun hn => ?_, fun hn => ?_⟩
  · simp only [Cell.eq_iff]; simp at hn ⊢; simp [hn]
  have q1 : x.dot = y.dot := by simpa using hn
  refine ⟨fun hn => ?_, fun hn => ?_⟩
  · simp only [Cell.eq_iff]; simp at hn ⊢; simp [hn]
  have q2 : x.time = y.time := by simpa using hn
  refine by_ret (l_eqDot_ret _ x.ref y.ref) ?_
  simp +contextual (maxSteps := 600000) (disch := omega) only [go_sem, Nat.reduceEqDiff, ↓reduceIte, Int.reduceEq, Int.reduceNeg, wrap_add, List.append_nil]
  refine ⟨fun hn => ?_, fun hn => ?_⟩
  · simp only [Cell.eq_iff]; simp at hn ⊢; simp [hn]
  have q3 : x.ref = y.ref := by simpa using hn
  refine ⟨fun hn => ?_, fun hn => ?_⟩
  · simp only [Cell.eq_iff]; simp at hn ⊢; simp [hn]
  have q4 : x.val = y.val := by simpa using hn
  refine ⟨fun hn => ?_, fun hn => ?_⟩
  · simp only [Cell.eq_iff]; simp at hn ⊢; simp [hn]
  have q5 : x.gone = y.gone := by simpa using hn
  simp only [Cell.eq_iff, q0, q1, q2, q3, q4, q5, and_self, decide_true]
end Go.Proofs.YtffnefmklckngaaGreat.Sy

/- Contracts of the laws' own functions: HeqCellS. -/
namespace Go.Proofs.YtffnefmklckngaaGreat.Sy
open Go Go.RowKit
set_option linter.unusedSimpArgs false
set_option linter.unusedVariables false
abbrev n_l_eqCellS : Nat := 87
def F_l_eqCellS : Fn1 := ⟨27, [.t 4], (.seq (.reg [o 4 (.mov (.k (.bool false)))]) (.seq (.seq (.reg [o 6 (.mov (.t 0)), o 7 (.len false (.t 6)), o 8 (.mov (.t 1)), o 9 (.len false (.t 8)), o 10 (.bin .neq (.t 7) (.t 9))]) (.cnd (.t 10) (.seq (.reg [o 4 (.mov (.k (.bool false)))]) .ret) .skip)) (.seq (.seq (.reg [o 5 (.mov (.k (.int .i64 0)))]) (.blk 0 (.lop (.seq (.seq (.reg [o 11 (.mov (.t 5)), o 12 (.mov (.t 0)), o 13 (.len false (.t 12)), o 14 (.bin .lss (.t 11) (.t 13))]) (.cnd (.t 14) .skip (.ext 0))) (.seq (.blk 1 (.seq (.drw [o 17 (.mov (.t 0)), o 18 (.mov (.t 5)), o 19 (.iad 8 (.t 17) (.t 18)), o 20 (.ld true 8 (.t 19)), o 21 (.mov (.t 1)), o 22 (.mov (.t 5)), o 23 (.iad 8 (.t 21) (.t 22)), o 24 (.ld true 8 (.t 23))] [o 25 (.call 137 [(.t 20), (.t 24)]), o 26 (.un .not (.t 25))]) (.cnd (.t 26) (.seq (.reg [o 4 (.mov (.k (.bool false)))]) .ret) .skip))) (.reg [o 15 (.mov (.t 5)), o 16 (.bin .add (.t 15) (.k (.int .i64 1))), o 5 (.mov (.t 16))])))))) (.seq (.reg [o 4 (.mov (.k (.bool true)))]) .ret))))⟩
theorem ir_l_eqCellS : compFn Tryz.prog n_l_eqCellS = some F_l_eqCellS := by kernel_rfl
theorem l_eqCellS_ret (σ : St) (v u : GV) (l m : List Cell) (hv : RS pCell.kd σ v l) (hu : RS pCell.kd σ u m) (hl : (l.length + sumL msCell l) ≤ 1099511627776) : Ret Tryz.prog n_l_eqCellS [v, u] σ (.bool (decide (l = m))) σ := by
  refine ret_eq ir_l_eqCellS (Nat.le_of_ble_eq_true rfl) trivial ?_
  simp +contextual (maxSteps := 600000) (disch := omega) only [go_sem, Nat.reduceEqDiff, ↓reduceIte, Int.reduceEq, Int.reduceNeg, wrap_add, F_l_eqCellS, hv.len, hu.len]
  refine ⟨fun hn => ?_, fun hn => ?_⟩
  · have : l ≠ m := fun h => by subst h; simp at hn
    simp [this]
  have hlm : l.length = m.length := by have h2 : (l.length : Int) = m.length := by simpa using hn
                                       omega
  refine vc_for l.length 5 (fun i env τ => env 0 = v ∧ env 1 = u ∧ l.take i = m.take i ∧ σ <+: τ) rfl ⟨rfl, rfl, rfl, List.prefix_refl _⟩ ?_ ?_
  · rintro i env τ hi e5 c0 ⟨e0, e1, he, hp⟩
    have hj : i < m.length := by omega
    have h1 := hv.pre hp
    have h2 := hu.pre hp
    have hne : l[i] ≠ m[i] → l ≠ m := fun h h' => h (by subst h'; rfl)
    have hst : l[i] = m[i] → l.take (i + 1) = m.take (i + 1) := fun h => by rw [take_snoc hi, take_snoc hj, he, h]
    have hms : msCell l[i] ≤ sumL msCell l := sumL_mem (List.getElem_mem hi)
    simp +contextual (maxSteps := 600000) (disch := omega) only [go_sem, Nat.reduceEqDiff, ↓reduceIte, Int.reduceEq, Int.reduceNeg, wrap_add, c0, e0, e1, e5, hv.len, hu.len, Cell_at h1 hi, Cell_at h2 hj]
    refine by_ret (l_eqCell_ret τ l[i] m[i]) ?_
    simp +contextual (maxSteps := 600000) (disch := omega) only [go_sem, Nat.reduceEqDiff, ↓reduceIte, Int.reduceEq, Int.reduceNeg, wrap_add, e0, e1, e5, hp]
    refine ⟨fun h => ?_, fun h => ?_⟩
    · simp [hne (by simpa using h)]
    · simpa using hst (by simpa using h)
  · rintro env τ e5 c0 ⟨e0, e1, he, hp⟩
    rw [List.take_length, hlm, List.take_length] at he
    simp +contextual (maxSteps := 600000) (disch := omega) only [go_sem, Nat.reduceEqDiff, ↓reduceIte, Int.reduceEq, Int.reduceNeg, wrap_add, c0, e0, e1, e5, hv.len, hu.len, hp]
    simp [he]
end Go.Proofs.YtffnefmklckngaaGreat.Sy

/- Contracts of the laws' own functions: HeqIntS. -/
namespace Go.Proofs.YtffnefmklckngaaGreat.Sy
open Go Go.RowKit
set_option linter.unusedSimpArgs false
set_option linter.unusedVariables false
abbrev n_l_eqIntS : Nat := 84
def F_l_eqIntS : Fn1 := ⟨26, [.t 4], (.seq (.reg [o 4 (.mov (.k (.bool false)))]) (.seq (.seq (.reg [o 6 (.mov (.t 0)), o 7 (.len false (.t 6)), o 8 (.mov (.t 1)), o 9 (.len false (.t 8)), o 10 (.bin .neq (.t 7) (.t 9))]) (.cnd (.t 10) (.seq (.reg [o 4 (.mov (.k (.bool false)))]) .ret) .skip)) (.seq (.seq (.reg [o 5 (.mov (.k (.int .i64 0)))]) (.blk 0 (.lop (.seq (.seq (.reg [o 11 (.mov (.t 5)), o 12 (.mov (.t 0)), o 13 (.len false (.t 12)), o 14 (.bin .lss (.t 11) (.t 13))]) (.cnd (.t 14) .skip (.ext 0))) (.seq (.blk 1 (.seq (.drw [o 17 (.mov (.t 0)), o 18 (.mov (.t 5)), o 19 (.iad 1 (.t 17) (.t 18)), o 20 (.ld false 1 (.t 19)), o 21 (.mov (.t 1)), o 22 (.mov (.t 5)), o 23 (.iad 1 (.t 21) (.t 22)), o 24 (.ld false 1 (.t 23))] [o 25 (.bin .neq (.t 20) (.t 24))]) (.cnd (.t 25) (.seq (.reg [o 4 (.mov (.k (.bool false)))]) .ret) .skip))) (.reg [o 15 (.mov (.t 5)), o 16 (.bin .add (.t 15) (.k (.int .i64 1))), o 5 (.mov (.t 16))])))))) (.seq (.reg [o 4 (.mov (.k (.bool true)))]) .ret))))⟩
theorem ir_l_eqIntS : compFn Tryz.prog n_l_eqIntS = some F_l_eqIntS := by kernel_rfl
theorem l_eqIntS_ret (σ : St) (v u : GV) (l m : List Int) (hv : RS pI.kd σ v l) (hu : RS pI.kd σ u m) (hl : l.length ≤ 1099511627776) : Ret Tryz.prog n_l_eqIntS [v, u] σ (.bool (decide (l = m))) σ := by
  refine ret_eq ir_l_eqIntS (Nat.le_of_ble_eq_true rfl) trivial ?_
  simp +contextual (maxSteps := 600000) (disch := omega) only [go_sem, Nat.reduceEqDiff, ↓reduceIte, Int.reduceEq, Int.reduceNeg, wrap_add, F_l_eqIntS, hv.len, hu.len]
  refine ⟨fun hn => ?_, fun hn => ?_⟩
  · have : l ≠ m := fun h => by subst h; simp at hn
    simp [this]
  have hlm : l.length = m.length := by have h2 : (l.length : Int) = m.length := by simpa using hn
                                       omega
  refine vc_for l.length 5 (fun i env τ => env 0 = v ∧ env 1 = u ∧ l.take i = m.take i ∧ σ <+: τ) rfl ⟨rfl, rfl, rfl, List.prefix_refl _⟩ ?_ ?_
  · rintro i env τ hi e5 c0 ⟨e0, e1, he, hp⟩
    have hj : i < m.length := by omega
    have h1 := hv.pre hp
    have h2 := hu.pre hp
    have hne : l[i] ≠ m[i] → l ≠ m := fun h h' => h (by subst h'; rfl)
    have hst : l[i] = m[i] → l.take (i + 1) = m.take (i + 1) := fun h => by rw [take_snoc hi, take_snoc hj, he, h]
    simp +contextual (maxSteps := 600000) (disch := omega) only [go_sem, Nat.reduceEqDiff, ↓reduceIte, Int.reduceEq, Int.reduceNeg, wrap_add, c0, e0, e1, e5, hv.len, hu.len, int_at h1 hi, int_at h2 hj, hp]
    refine ⟨fun h => ?_, fun h => ?_⟩
    · simp [hne (by simpa using h)]
    · simpa using hst (by simpa using h)
  · rintro env τ e5 c0 ⟨e0, e1, he, hp⟩
    rw [List.take_length, hlm, List.take_length] at he
    simp +contextual (maxSteps := 600000) (disch := omega) only [go_sem, Nat.reduceEqDiff, ↓reduceIte, Int.reduceEq, Int.reduceNeg, wrap_add, c0, e0, e1, e5, hv.len, hu.len, hp]
    simp [he]
end Go.Proofs.YtffnefmklckngaaGreat.Sy

/- Contracts of the laws' own functions: HeqLive. -/
namespace Go.Proofs.YtffnefmklckngaaGreat.Sy
open Go Go.RowKit
set_option linter.unusedSimpArgs false
set_option linter.unusedVariables false
abbrev n_l_eqLive : Nat := 136
def F_l_eqLive : Fn1 := ⟨31, [.t 4], (.seq (.reg [o 2 (.box (.t 0)), o 3 (.box (.t 1)), o 4 (.mov (.k (.bool false)))]) (.seq (.seq (.reg [o 5 (.fad 0 (.t 2)), o 6 (.ld false 1 (.t 5)), o 7 (.fad 0 (.t 3)), o 8 (.ld false 1 (.t 7)), o 9 (.eqb true (.t 6) (.t 8))]) (.cnd (.t 9) (.seq (.reg [o 4 (.mov (.k (.bool false)))]) .ret) .skip)) (.seq (.seq (.reg [o 10 (.fad 1 (.t 2)), o 11 (.ld false 1 (.t 10)), o 12 (.fad 1 (.t 3)), o 13 (.ld false 1 (.t 12)), o 14 (.bin .neq (.t 11) (.t 13))]) (.cnd (.t 14) (.seq (.reg [o 4 (.mov (.k (.bool false)))]) .ret) .skip)) (.seq (.seq (.reg [o 15 (.fad 2 (.t 2)), o 16 (.ld false 1 (.t 15)), o 17 (.fad 2 (.t 3)), o 18 (.ld false 1 (.t 17)), o 19 (.bin .neq (.t 16) (.t 18))]) (.cnd (.t 19) (.seq (.reg [o 4 (.mov (.k (.bool false)))]) .ret) .skip)) (.seq (.seq (.reg [o 20 (.fad 3 (.t 2)), o 21 (.ld false 1 (.t 20)), o 22 (.fad 3 (.t 3)), o 23 (.ld false 1 (.t 22)), o 24 (.bin .neq (.t 21) (.t 23))]) (.cnd (.t 24) (.seq (.reg [o 4 (.mov (.k (.bool false)))]) .ret) .skip)) (.seq (.seq (.reg [o 25 (.fad 4 (.t 2)), o 26 (.ld true 2 (.t 25)), o 27 (.fad 4 (.t 3)), o 28 (.ld true 2 (.t 27)), o 29 (.call 114 [(.t 26), (.t 28)]), o 30 (.un .not (.t 29))]) (.cnd (.t 30) (.seq (.reg [o 4 (.mov (.k (.bool false)))]) .ret) .skip)) (.seq (.reg [o 4 (.mov (.k (.bool true)))]) .ret)))))))⟩
theorem ir_l_eqLive : compFn Tryz.prog n_l_eqLive = some F_l_eqLive := by kernel_rfl
theorem l_eqLive_ret (σ : St) (x y : Live) : Ret Tryz.prog n_l_eqLive [.agg [.bool x.map, .str x.obj, .str x.key, .int .i64 x.val, .int .i64 x.dot.rep, .int .i64 x.dot.seq], .agg [.bool y.map, .str y.obj, .str y.key, .int .i64 y.val, .int .i64 y.dot.rep, .int .i64 y.dot.seq]] σ (.bool (decide (x = y))) σ := by
  refine ret_eq ir_l_eqLive (Nat.le_of_ble_eq_true rfl) trivial ?_
  simp +contextual (maxSteps := 600000) (disch := omega) only [go_sem, Nat.reduceEqDiff, ↓reduceIte, Int.reduceEq, Int.reduceNeg, wrap_add, F_l_eqLive, List.append_nil]
  refine ⟨fun hn => ?_, fun hn => ?_⟩
  · simp only [Live.eq_iff]; simp at hn ⊢; simp [hn]
  have q0 : x.map = y.map := by simpa using hn
  refine ⟨fun hn => ?_, fun hn => ?_⟩
  · simp only [Live.eq_iff]; simp at hn ⊢; simp [hn]
  have q1 : x.obj = y.obj := by simpa using hn
  refine ⟨fun hn => ?_, fun hn => ?_⟩
  · simp only [Live.eq_iff]; simp at hn ⊢; simp [hn]
  have q2 : x.key = y.key := by simpa using hn
  refine ⟨fun hn => ?_, fun hn => ?_⟩
  · simp only [Live.eq_iff]; simp at hn ⊢; simp [hn]
  have q3 : x.val = y.val := by simpa using hn
  refine by_ret (l_eqDot_ret _ x.dot y.dot) ?_
  simp +contextual (maxSteps := 600000) (disch := omega) only [go_sem, Nat.reduceEqDiff, ↓reduceIte, Int.reduceEq, Int.reduceNeg, wrap_add, List.append_nil]
  refine ⟨fun hn => ?_, fun hn => ?_⟩
  · simp only [Live.eq_iff]; simp at hn ⊢; simp [hn]
  have q4 : x.dot = y.dot := by simpa using hn
  simp only [Live.eq_iff, q0, q1, q2, q3, q4, and_self, decide_true]
end Go.Proofs.YtffnefmklckngaaGreat.Sy

/- Contracts of the laws' own functions: HeqLiveS. -/
namespace Go.Proofs.YtffnefmklckngaaGreat.Sy
open Go Go.RowKit
set_option linter.unusedSimpArgs false
set_option linter.unusedVariables false
abbrev n_l_eqLiveS : Nat := 86
def F_l_eqLiveS : Fn1 := ⟨27, [.t 4], (.seq (.reg [o 4 (.mov (.k (.bool false)))]) (.seq (.seq (.reg [o 6 (.mov (.t 0)), o 7 (.len false (.t 6)), o 8 (.mov (.t 1)), o 9 (.len false (.t 8)), o 10 (.bin .neq (.t 7) (.t 9))]) (.cnd (.t 10) (.seq (.reg [o 4 (.mov (.k (.bool false)))]) .ret) .skip)) (.seq (.seq (.reg [o 5 (.mov (.k (.int .i64 0)))]) (.blk 0 (.lop (.seq (.seq (.reg [o 11 (.mov (.t 5)), o 12 (.mov (.t 0)), o 13 (.len false (.t 12)), o 14 (.bin .lss (.t 11) (.t 13))]) (.cnd (.t 14) .skip (.ext 0))) (.seq (.blk 1 (.seq (.drw [o 17 (.mov (.t 0)), o 18 (.mov (.t 5)), o 19 (.iad 6 (.t 17) (.t 18)), o 20 (.ld true 6 (.t 19)), o 21 (.mov (.t 1)), o 22 (.mov (.t 5)), o 23 (.iad 6 (.t 21) (.t 22)), o 24 (.ld true 6 (.t 23))] [o 25 (.call 136 [(.t 20), (.t 24)]), o 26 (.un .not (.t 25))]) (.cnd (.t 26) (.seq (.reg [o 4 (.mov (.k (.bool false)))]) .ret) .skip))) (.reg [o 15 (.mov (.t 5)), o 16 (.bin .add (.t 15) (.k (.int .i64 1))), o 5 (.mov (.t 16))])))))) (.seq (.reg [o 4 (.mov (.k (.bool true)))]) .ret))))⟩
theorem ir_l_eqLiveS : compFn Tryz.prog n_l_eqLiveS = some F_l_eqLiveS := by kernel_rfl
theorem l_eqLiveS_ret (σ : St) (v u : GV) (l m : List Live) (hv : RS pLive.kd σ v l) (hu : RS pLive.kd σ u m) (hl : (l.length + sumL msLive l) ≤ 1099511627776) : Ret Tryz.prog n_l_eqLiveS [v, u] σ (.bool (decide (l = m))) σ := by
  refine ret_eq ir_l_eqLiveS (Nat.le_of_ble_eq_true rfl) trivial ?_
  simp +contextual (maxSteps := 600000) (disch := omega) only [go_sem, Nat.reduceEqDiff, ↓reduceIte, Int.reduceEq, Int.reduceNeg, wrap_add, F_l_eqLiveS, hv.len, hu.len]
  refine ⟨fun hn => ?_, fun hn => ?_⟩
  · have : l ≠ m := fun h => by subst h; simp at hn
    simp [this]
  have hlm : l.length = m.length := by have h2 : (l.length : Int) = m.length := by simpa using hn
                                       omega
  refine vc_for l.length 5 (fun i env τ => env 0 = v ∧ env 1 = u ∧ l.take i = m.take i ∧ σ <+: τ) rfl ⟨rfl, rfl, rfl, List.prefix_refl _⟩ ?_ ?_
  · rintro i env τ hi e5 c0 ⟨e0, e1, he, hp⟩
    have hj : i < m.length := by omega
    have h1 := hv.pre hp
    have h2 := hu.pre hp
    have hne : l[i] ≠ m[i] → l ≠ m := fun h h' => h (by subst h'; rfl)
    have hst : l[i] = m[i] → l.take (i + 1) = m.take (i + 1) := fun h => by rw [take_snoc hi, take_snoc hj, he, h]
    have hms : msLive l[i] ≤ sumL msLive l := sumL_mem (List.getElem_mem hi)
    simp +contextual (maxSteps := 600000) (disch := omega) only [go_sem, Nat.reduceEqDiff, ↓reduceIte, Int.reduceEq, Int.reduceNeg, wrap_add, c0, e0, e1, e5, hv.len, hu.len, Live_at h1 hi, Live_at h2 hj]
    refine by_ret (l_eqLive_ret τ l[i] m[i]) ?_
    simp +contextual (maxSteps := 600000) (disch := omega) only [go_sem, Nat.reduceEqDiff, ↓reduceIte, Int.reduceEq, Int.reduceNeg, wrap_add, e0, e1, e5, hp]
    refine ⟨fun h => ?_, fun h => ?_⟩
    · simp [hne (by simpa using h)]
    · simpa using hst (by simpa using h)
  · rintro env τ e5 c0 ⟨e0, e1, he, hp⟩
    rw [List.take_length, hlm, List.take_length] at he
    simp +contextual (maxSteps := 600000) (disch := omega) only [go_sem, Nat.reduceEqDiff, ↓reduceIte, Int.reduceEq, Int.reduceNeg, wrap_add, c0, e0, e1, e5, hv.len, hu.len, hp]
    simp [he]
end Go.Proofs.YtffnefmklckngaaGreat.Sy

/- Contracts of the laws' own functions: HeqTally. -/
namespace Go.Proofs.YtffnefmklckngaaGreat.Sy
open Go Go.RowKit
set_option linter.unusedSimpArgs false
set_option linter.unusedVariables false
abbrev n_l_eqTally : Nat := 135
def F_l_eqTally : Fn1 := ⟨20, [.t 4], (.seq (.reg [o 2 (.box (.t 0)), o 3 (.box (.t 1)), o 4 (.mov (.k (.bool false)))]) (.seq (.seq (.reg [o 5 (.fad 0 (.t 2)), o 6 (.ld false 1 (.t 5)), o 7 (.fad 0 (.t 3)), o 8 (.ld false 1 (.t 7)), o 9 (.bin .neq (.t 6) (.t 8))]) (.cnd (.t 9) (.seq (.reg [o 4 (.mov (.k (.bool false)))]) .ret) .skip)) (.seq (.seq (.reg [o 10 (.fad 1 (.t 2)), o 11 (.ld false 1 (.t 10)), o 12 (.fad 1 (.t 3)), o 13 (.ld false 1 (.t 12)), o 14 (.bin .neq (.t 11) (.t 13))]) (.cnd (.t 14) (.seq (.reg [o 4 (.mov (.k (.bool false)))]) .ret) .skip)) (.seq (.seq (.reg [o 15 (.fad 2 (.t 2)), o 16 (.ld false 1 (.t 15)), o 17 (.fad 2 (.t 3)), o 18 (.ld false 1 (.t 17)), o 19 (.bin .neq (.t 16) (.t 18))]) (.cnd (.t 19) (.seq (.reg [o 4 (.mov (.k (.bool false)))]) .ret) .skip)) (.seq (.reg [o 4 (.mov (.k (.bool true)))]) .ret)))))⟩
theorem ir_l_eqTally : compFn Tryz.prog n_l_eqTally = some F_l_eqTally := by kernel_rfl
theorem l_eqTally_ret (σ : St) (x y : Tally) : Ret Tryz.prog n_l_eqTally [.agg [.str x.obj, .int .i64 x.rep, .int .i64 x.sum], .agg [.str y.obj, .int .i64 y.rep, .int .i64 y.sum]] σ (.bool (decide (x = y))) σ := by
  refine ret_eq ir_l_eqTally (Nat.le_of_ble_eq_true rfl) trivial ?_
  simp +contextual (maxSteps := 600000) (disch := omega) only [go_sem, Nat.reduceEqDiff, ↓reduceIte, Int.reduceEq, Int.reduceNeg, wrap_add, F_l_eqTally, List.append_nil]
  refine ⟨fun hn => ?_, fun hn => ?_⟩
  · simp only [Tally.eq_iff]; simp at hn ⊢; simp [hn]
  have q0 : x.obj = y.obj := by simpa using hn
  refine ⟨fun hn => ?_, fun hn => ?_⟩
  · simp only [Tally.eq_iff]; simp at hn ⊢; simp [hn]
  have q1 : x.rep = y.rep := by simpa using hn
  refine ⟨fun hn => ?_, fun hn => ?_⟩
  · simp only [Tally.eq_iff]; simp at hn ⊢; simp [hn]
  have q2 : x.sum = y.sum := by simpa using hn
  simp only [Tally.eq_iff, q0, q1, q2, and_self, decide_true]
end Go.Proofs.YtffnefmklckngaaGreat.Sy

/- Contracts of the laws' own functions: HeqTallyS. -/
namespace Go.Proofs.YtffnefmklckngaaGreat.Sy
open Go Go.RowKit
set_option linter.unusedSimpArgs false
set_option linter.unusedVariables false
abbrev n_l_eqTallyS : Nat := 85
def F_l_eqTallyS : Fn1 := ⟨27, [.t 4], (.seq (.reg [o 4 (.mov (.k (.bool false)))]) (.seq (.seq (.reg [o 6 (.mov (.t 0)), o 7 (.len false (.t 6)), o 8 (.mov (.t 1)), o 9 (.len false (.t 8)), o 10 (.bin .neq (.t 7) (.t 9))]) (.cnd (.t 10) (.seq (.reg [o 4 (.mov (.k (.bool false)))]) .ret) .skip)) (.seq (.seq (.reg [o 5 (.mov (.k (.int .i64 0)))]) (.blk 0 (.lop (.seq (.seq (.reg [o 11 (.mov (.t 5)), o 12 (.mov (.t 0)), o 13 (.len false (.t 12)), o 14 (.bin .lss (.t 11) (.t 13))]) (.cnd (.t 14) .skip (.ext 0))) (.seq (.blk 1 (.seq (.drw [o 17 (.mov (.t 0)), o 18 (.mov (.t 5)), o 19 (.iad 3 (.t 17) (.t 18)), o 20 (.ld true 3 (.t 19)), o 21 (.mov (.t 1)), o 22 (.mov (.t 5)), o 23 (.iad 3 (.t 21) (.t 22)), o 24 (.ld true 3 (.t 23))] [o 25 (.call 135 [(.t 20), (.t 24)]), o 26 (.un .not (.t 25))]) (.cnd (.t 26) (.seq (.reg [o 4 (.mov (.k (.bool false)))]) .ret) .skip))) (.reg [o 15 (.mov (.t 5)), o 16 (.bin .add (.t 15) (.k (.int .i64 1))), o 5 (.mov (.t 16))])))))) (.seq (.reg [o 4 (.mov (.k (.bool true)))]) .ret))))⟩
theorem ir_l_eqTallyS : compFn Tryz.prog n_l_eqTallyS = some F_l_eqTallyS := by kernel_rfl
theorem l_eqTallyS_ret (σ : St) (v u : GV) (l m : List Tally) (hv : RS pTally.kd σ v l) (hu : RS pTally.kd σ u m) (hl : (l.length + sumL msTally l) ≤ 1099511627776) : Ret Tryz.prog n_l_eqTallyS [v, u] σ (.bool (decide (l = m))) σ := by
  refine ret_eq ir_l_eqTallyS (Nat.le_of_ble_eq_true rfl) trivial ?_
  simp +contextual (maxSteps := 600000) (disch := omega) only [go_sem, Nat.reduceEqDiff, ↓reduceIte, Int.reduceEq, Int.reduceNeg, wrap_add, F_l_eqTallyS, hv.len, hu.len]
  refine ⟨fun hn => ?_, fun hn => ?_⟩
  · have : l ≠ m := fun h => by subst h; simp at hn
    simp [this]
  have hlm : l.length = m.length := by have h2 : (l.length : Int) = m.length := by simpa using hn
                                       omega
  refine vc_for l.length 5 (fun i env τ => env 0 = v ∧ env 1 = u ∧ l.take i = m.take i ∧ σ <+: τ) rfl ⟨rfl, rfl, rfl, List.prefix_refl _⟩ ?_ ?_
  · rintro i env τ hi e5 c0 ⟨e0, e1, he, hp⟩
    have hj : i < m.length := by omega
    have h1 := hv.pre hp
    have h2 := hu.pre hp
    have hne : l[i] ≠ m[i] → l ≠ m := fun h h' => h (by subst h'; rfl)
    have hst : l[i] = m[i] → l.take (i + 1) = m.take (i + 1) := fun h => by rw [take_snoc hi, take_snoc hj, he, h]
    have hms : msTally l[i] ≤ sumL msTally l := sumL_mem (List.getElem_mem hi)
    simp +contextual (maxSteps := 600000) (disch := omega) only [go_sem, Nat.reduceEqDiff, ↓reduceIte, Int.reduceEq, Int.reduceNeg, wrap_add, c0, e0, e1, e5, hv.len, hu.len, Tally_at h1 hi, Tally_at h2 hj]
    refine by_ret (l_eqTally_ret τ l[i] m[i]) ?_
    simp +contextual (maxSteps := 600000) (disch := omega) only [go_sem, Nat.reduceEqDiff, ↓reduceIte, Int.reduceEq, Int.reduceNeg, wrap_add, e0, e1, e5, hp]
    refine ⟨fun h => ?_, fun h => ?_⟩
    · simp [hne (by simpa using h)]
    · simpa using hst (by simpa using h)
  · rintro env τ e5 c0 ⟨e0, e1, he, hp⟩
    rw [List.take_length, hlm, List.take_length] at he
    simp +contextual (maxSteps := 600000) (disch := omega) only [go_sem, Nat.reduceEqDiff, ↓reduceIte, Int.reduceEq, Int.reduceNeg, wrap_add, c0, e0, e1, e5, hv.len, hu.len, hp]
    simp [he]
end Go.Proofs.YtffnefmklckngaaGreat.Sy

/- Contracts of the laws' own functions: HeqState. -/
namespace Go.Proofs.YtffnefmklckngaaGreat.Sy
open Go Go.RowKit
set_option linter.unusedSimpArgs false
set_option linter.unusedVariables false
abbrev n_l_eqState : Nat := 24
def F_l_eqState : Fn1 := ⟨29, [.t 4], (.seq (.reg [o 2 (.box (.t 0)), o 3 (.box (.t 1)), o 4 (.mov (.k (.bool false)))]) (.seq (.seq (.reg [o 5 (.fad 0 (.t 2)), o 6 (.ld false 1 (.t 5)), o 7 (.fad 0 (.t 3)), o 8 (.ld false 1 (.t 7)), o 9 (.call 84 [(.t 6), (.t 8)]), o 10 (.un .not (.t 9))]) (.cnd (.t 10) (.seq (.reg [o 4 (.mov (.k (.bool false)))]) .ret) .skip)) (.seq (.seq (.reg [o 11 (.fad 1 (.t 2)), o 12 (.ld false 1 (.t 11)), o 13 (.fad 1 (.t 3)), o 14 (.ld false 1 (.t 13)), o 15 (.call 85 [(.t 12), (.t 14)]), o 16 (.un .not (.t 15))]) (.cnd (.t 16) (.seq (.reg [o 4 (.mov (.k (.bool false)))]) .ret) .skip)) (.seq (.seq (.reg [o 17 (.fad 2 (.t 2)), o 18 (.ld false 1 (.t 17)), o 19 (.fad 2 (.t 3)), o 20 (.ld false 1 (.t 19)), o 21 (.call 86 [(.t 18), (.t 20)]), o 22 (.un .not (.t 21))]) (.cnd (.t 22) (.seq (.reg [o 4 (.mov (.k (.bool false)))]) .ret) .skip)) (.seq (.seq (.reg [o 23 (.fad 3 (.t 2)), o 24 (.ld false 1 (.t 23)), o 25 (.fad 3 (.t 3)), o 26 (.ld false 1 (.t 25)), o 27 (.call 87 [(.t 24), (.t 26)]), o 28 (.un .not (.t 27))]) (.cnd (.t 28) (.seq (.reg [o 4 (.mov (.k (.bool false)))]) .ret) .skip)) (.seq (.reg [o 4 (.mov (.k (.bool true)))]) .ret))))))⟩
theorem ir_l_eqState : compFn Tryz.prog n_l_eqState = some F_l_eqState := by kernel_rfl
theorem l_eqState_ret (σ : St) (cs ds : List GV) (x y : State) (hx : kState.R σ x cs) (hy : kState.R σ y ds) (hl : msState x ≤ 1099511627776) : Ret Tryz.prog n_l_eqState [.agg cs, .agg ds] σ (.bool (decide (x = y))) σ := by
  obtain ⟨v0, v1, v2, v3, rfl, q0_, q1_, q2_, q3_⟩ := hx
  obtain ⟨u0, u1, u2, u3, rfl, p0_, p1_, p2_, p3_⟩ := hy
  unfold msState at hl
  refine ret_eq ir_l_eqState (Nat.le_of_ble_eq_true rfl) trivial ?_
  simp +contextual (maxSteps := 600000) (disch := omega) only [go_sem, Nat.reduceEqDiff, ↓reduceIte, Int.reduceEq, Int.reduceNeg, wrap_add, F_l_eqState, List.append_nil]
  refine by_ret (l_eqIntS_ret _ v0 u0 x.know y.know (q0_.pre pre2) (p0_.pre pre2) (by omega)) ?_
  simp +contextual (maxSteps := 600000) (disch := omega) only [go_sem, Nat.reduceEqDiff, ↓reduceIte, Int.reduceEq, Int.reduceNeg, wrap_add, List.append_nil]
  refine ⟨fun hn => ?_, fun hn => ?_⟩
  · simp only [State.eq_iff]; simp at hn ⊢; simp [hn]
  have q0 : x.know = y.know := by simpa using hn
  refine by_ret (l_eqTallyS_ret _ v1 u1 x.tallies y.tallies (q1_.pre pre2) (p1_.pre pre2) (by omega)) ?_
  simp +contextual (maxSteps := 600000) (disch := omega) only [go_sem, Nat.reduceEqDiff, ↓reduceIte, Int.reduceEq, Int.reduceNeg, wrap_add, List.append_nil]
  refine ⟨fun hn => ?_, fun hn => ?_⟩
  · simp only [State.eq_iff]; simp at hn ⊢; simp [hn]
  have q1 : x.tallies = y.tallies := by simpa using hn
  refine by_ret (l_eqLiveS_ret _ v2 u2 x.lives y.lives (q2_.pre pre2) (p2_.pre pre2) (by omega)) ?_
  simp +contextual (maxSteps := 600000) (disch := omega) only [go_sem, Nat.reduceEqDiff, ↓reduceIte, Int.reduceEq, Int.reduceNeg, wrap_add, List.append_nil]
  refine ⟨fun hn => ?_, fun hn => ?_⟩
  · simp only [State.eq_iff]; simp at hn ⊢; simp [hn]
  have q2 : x.lives = y.lives := by simpa using hn
  refine by_ret (l_eqCellS_ret _ v3 u3 x.cells y.cells (q3_.pre pre2) (p3_.pre pre2) (by omega)) ?_
  simp +contextual (maxSteps := 600000) (disch := omega) only [go_sem, Nat.reduceEqDiff, ↓reduceIte, Int.reduceEq, Int.reduceNeg, wrap_add, List.append_nil]
  refine ⟨fun hn => ?_, fun hn => ?_⟩
  · simp only [State.eq_iff]; simp at hn ⊢; simp [hn]
  have q3 : x.cells = y.cells := by simpa using hn
  simp only [State.eq_iff, q0, q1, q2, q3, and_self, decide_true]
end Go.Proofs.YtffnefmklckngaaGreat.Sy

/- Contracts of the laws' own functions: HszCell. -/
namespace Go.Proofs.YtffnefmklckngaaGreat.Sy
open Go Go.RowKit
set_option linter.unusedSimpArgs false
set_option linter.unusedVariables false
abbrev n_l_szCell : Nat := 123
def F_l_szCell : Fn1 := ⟨13, [.t 4], (.seq (.reg [o 2 (.box (.t 0)), o 4 (.mov (.k (.int .i64 0)))]) (.seq (.reg [o 5 (.mov (.t 1)), o 6 (.fad 0 (.t 2)), o 7 (.ld false 1 (.t 6)), o 8 (.len true (.t 7)), o 9 (.bin .sub (.t 5) (.t 8)), o 1 (.mov (.t 9))]) (.seq (.seq (.reg [o 10 (.mov (.t 1)), o 11 (.bin .lss (.t 10) (.k (.int .i64 0)))]) (.cnd (.t 11) (.seq (.reg [o 4 (.mov (.k (.int .i64 (-1))))]) .ret) .skip)) (.seq (.reg [o 12 (.mov (.t 1)), o 4 (.mov (.t 12))]) .ret))))⟩
theorem ir_l_szCell : compFn Tryz.prog n_l_szCell = some F_l_szCell := by kernel_rfl
theorem l_szCell_ret (σ : St) (x : Cell) (n : Int) (hw : wCell x) (h0 : 0 ≤ n) (h1 : n ≤ 1099511627776) : Ret Tryz.prog n_l_szCell [.agg [.str x.obj, .int .i64 x.dot.rep, .int .i64 x.dot.seq, .int .i64 x.time, .int .i64 x.ref.rep, .int .i64 x.ref.seq, .int .i64 x.val, .bool x.gone], gi n] σ (gi (lf n (msCell x))) σ := by
  have w0 := hw; unfold wCell at w0
  refine ret_eq ir_l_szCell (Nat.le_of_ble_eq_true rfl) trivial ?_
  simp +contextual (maxSteps := 600000) (disch := omega) only [go_sem, Nat.reduceEqDiff, ↓reduceIte, Int.reduceEq, Int.reduceNeg, wrap_add, F_l_szCell, List.append_nil]
  refine ⟨fun hn => ?_, fun hn => ?_⟩
  · have hn := of_decide_eq_true hn
    unfold msCell lf; rw [if_pos (by omega)]
  have hn := of_decide_eq_false hn
  try simp (disch := omega) only [wrap_add]
  unfold msCell; rw [show lf n (x.obj.size) = n - ((x.obj.size : Nat) : Int) by unfold lf; rw [if_neg (by omega)]]; try omega
end Go.Proofs.YtffnefmklckngaaGreat.Sy

/- Contracts of the laws' own functions: HszCellS. -/
namespace Go.Proofs.YtffnefmklckngaaGreat.Sy
open Go Go.RowKit
set_option linter.unusedSimpArgs false
set_option linter.unusedVariables false
abbrev n_l_szCellS : Nat := 65
def F_l_szCellS : Fn1 := ⟨27, [.t 4], (.seq (.reg [o 4 (.mov (.k (.int .i64 0)))]) (.seq (.reg [o 6 (.mov (.t 1)), o 7 (.mov (.t 0)), o 8 (.len false (.t 7)), o 9 (.bin .sub (.t 6) (.t 8)), o 1 (.mov (.t 9))]) (.seq (.seq (.reg [o 10 (.mov (.t 1)), o 11 (.bin .lss (.t 10) (.k (.int .i64 0)))]) (.cnd (.t 11) (.seq (.reg [o 4 (.mov (.k (.int .i64 (-1))))]) .ret) .skip)) (.seq (.seq (.reg [o 5 (.mov (.k (.int .i64 0)))]) (.blk 0 (.lop (.seq (.seq (.reg [o 12 (.mov (.t 5)), o 13 (.mov (.t 0)), o 14 (.len false (.t 13)), o 15 (.bin .lss (.t 12) (.t 14))]) (.cnd (.t 15) .skip (.ext 0))) (.seq (.blk 1 (.seq (.reg [o 18 (.mov (.t 0)), o 19 (.mov (.t 5)), o 20 (.iad 8 (.t 18) (.t 19)), o 21 (.ld true 8 (.t 20)), o 22 (.mov (.t 1)), o 23 (.call 123 [(.t 21), (.t 22)]), o 1 (.mov (.t 23))]) (.seq (.reg [o 24 (.mov (.t 1)), o 25 (.bin .lss (.t 24) (.k (.int .i64 0)))]) (.cnd (.t 25) (.seq (.reg [o 4 (.mov (.k (.int .i64 (-1))))]) .ret) .skip)))) (.reg [o 16 (.mov (.t 5)), o 17 (.bin .add (.t 16) (.k (.int .i64 1))), o 5 (.mov (.t 17))])))))) (.seq (.reg [o 26 (.mov (.t 1)), o 4 (.mov (.t 26))]) .ret)))))⟩
theorem ir_l_szCellS : compFn Tryz.prog n_l_szCellS = some F_l_szCellS := by kernel_rfl
theorem l_szCellS_ret (σ : St) (v : GV) (l : List Cell) (hR : RS pCell.kd σ v l) (n : Int) (hw : l.length ≤ 9223372036854775807 ∧ ∀ y ∈ l, wCell y) (h0 : 0 ≤ n) (h1 : n ≤ 1099511627776) : Ret Tryz.prog n_l_szCellS [v, gi n] σ (gi (lf n (l.length + sumL msCell l))) σ := by
  obtain ⟨wl, we⟩ := hw
  refine ret_eq ir_l_szCellS (Nat.le_of_ble_eq_true rfl) trivial ?_
  simp +contextual (maxSteps := 600000) (disch := omega) only [go_sem, Nat.reduceEqDiff, ↓reduceIte, Int.reduceEq, Int.reduceNeg, wrap_add, F_l_szCellS, hR.len]
  refine ⟨fun hn => ?_, fun hn => ?_⟩
  · have hn := of_decide_eq_true hn
    unfold lf; rw [if_pos (by omega)]
  have hn := of_decide_eq_false hn
  refine vc_for l.length 5 (fun i env τ => ∃ m : Int, env 0 = v ∧ env 1 = gi m ∧ m = n - l.length - sumL msCell (l.take i) ∧ 0 ≤ m ∧ σ <+: τ) rfl ⟨n - l.length, rfl, rfl, by simp [sumL], by omega, List.prefix_refl _⟩ ?_ ?_
  · rintro i env τ hi e5 c0 ⟨m, e0, e1, em, hm, hp⟩
    have h1 := hR.pre hp
    have hs := sumL_snoc (f := msCell) hi
    have hst := sumL_take_le msCell l (i + 1)
    simp +contextual (maxSteps := 600000) (disch := omega) only [go_sem, Nat.reduceEqDiff, ↓reduceIte, Int.reduceEq, Int.reduceNeg, wrap_add, c0, e0, e1, e5, hR.len, Cell_at h1 hi]
    refine by_ret (l_szCell_ret τ l[i] m (we _ (List.getElem_mem hi)) hm (by omega)) ?_
    simp +contextual (maxSteps := 600000) (disch := omega) only [go_sem, Nat.reduceEqDiff, ↓reduceIte, Int.reduceEq, Int.reduceNeg, wrap_add, c0, e0, e1, e5, hp]
    have g0 := @lf_le m (msCell l[i]) hm
    have g1 := @lf_ge m (msCell l[i])
    refine ⟨fun hn => ?_, fun hn => ?_⟩
    · have hn := lf_neg.1 (of_decide_eq_true hn)
      unfold lf; rw [if_pos (by omega)]
    · have hn := of_decide_eq_false hn
      have f := lf_some hn
      exact ⟨_, rfl, by omega, by omega⟩
  · rintro env τ e5 c0 ⟨m, e0, e1, em, hm, hp⟩
    rw [List.take_length] at em
    simp +contextual (maxSteps := 600000) (disch := omega) only [go_sem, Nat.reduceEqDiff, ↓reduceIte, Int.reduceEq, Int.reduceNeg, wrap_add, c0, e0, e1, e5, hR.len, hp]
    unfold lf; rw [if_neg (by omega)]; omega
end Go.Proofs.YtffnefmklckngaaGreat.Sy

/- Contracts of the laws' own functions: HszIntS. -/
namespace Go.Proofs.YtffnefmklckngaaGreat.Sy
open Go Go.RowKit
set_option linter.unusedSimpArgs false
set_option linter.unusedVariables false
abbrev n_l_szIntS : Nat := 62
def F_l_szIntS : Fn1 := ⟨12, [.t 4], (.seq (.reg [o 4 (.mov (.k (.int .i64 0)))]) (.seq (.reg [o 5 (.mov (.t 1)), o 6 (.mov (.t 0)), o 7 (.len false (.t 6)), o 8 (.bin .sub (.t 5) (.t 7)), o 1 (.mov (.t 8))]) (.seq (.seq (.reg [o 9 (.mov (.t 1)), o 10 (.bin .lss (.t 9) (.k (.int .i64 0)))]) (.cnd (.t 10) (.seq (.reg [o 4 (.mov (.k (.int .i64 (-1))))]) .ret) .skip)) (.seq (.reg [o 11 (.mov (.t 1)), o 4 (.mov (.t 11))]) .ret))))⟩
theorem ir_l_szIntS : compFn Tryz.prog n_l_szIntS = some F_l_szIntS := by kernel_rfl
theorem l_szIntS_ret (σ : St) (v : GV) (l : List Int) (hR : RS pI.kd σ v l) (n : Int) (hw : l.length ≤ 9223372036854775807) (h0 : 0 ≤ n) (h1 : n ≤ 1099511627776) : Ret Tryz.prog n_l_szIntS [v, gi n] σ (gi (lf n l.length)) σ := by
  refine ret_eq ir_l_szIntS (Nat.le_of_ble_eq_true rfl) trivial ?_
  simp +contextual (maxSteps := 600000) (disch := omega) only [go_sem, Nat.reduceEqDiff, ↓reduceIte, Int.reduceEq, Int.reduceNeg, wrap_add, F_l_szIntS, hR.len]
  refine ⟨fun h => ?_, fun h => ?_⟩
  · rw [lf, if_pos (of_decide_eq_true h)]
  · rw [lf, if_neg (of_decide_eq_false h)]
end Go.Proofs.YtffnefmklckngaaGreat.Sy

/- Contracts of the laws' own functions: HszLive. -/
namespace Go.Proofs.YtffnefmklckngaaGreat.Sy
open Go Go.RowKit
set_option linter.unusedSimpArgs false
set_option linter.unusedVariables false
abbrev n_l_szLive : Nat := 122
def F_l_szLive : Fn1 := ⟨20, [.t 4], (.seq (.reg [o 2 (.box (.t 0)), o 4 (.mov (.k (.int .i64 0)))]) (.seq (.reg [o 5 (.mov (.t 1)), o 6 (.fad 1 (.t 2)), o 7 (.ld false 1 (.t 6)), o 8 (.len true (.t 7)), o 9 (.bin .sub (.t 5) (.t 8)), o 1 (.mov (.t 9))]) (.seq (.seq (.reg [o 10 (.mov (.t 1)), o 11 (.bin .lss (.t 10) (.k (.int .i64 0)))]) (.cnd (.t 11) (.seq (.reg [o 4 (.mov (.k (.int .i64 (-1))))]) .ret) .skip)) (.seq (.reg [o 12 (.mov (.t 1)), o 13 (.fad 2 (.t 2)), o 14 (.ld false 1 (.t 13)), o 15 (.len true (.t 14)), o 16 (.bin .sub (.t 12) (.t 15)), o 1 (.mov (.t 16))]) (.seq (.seq (.reg [o 17 (.mov (.t 1)), o 18 (.bin .lss (.t 17) (.k (.int .i64 0)))]) (.cnd (.t 18) (.seq (.reg [o 4 (.mov (.k (.int .i64 (-1))))]) .ret) .skip)) (.seq (.reg [o 19 (.mov (.t 1)), o 4 (.mov (.t 19))]) .ret))))))⟩
theorem ir_l_szLive : compFn Tryz.prog n_l_szLive = some F_l_szLive := by kernel_rfl
theorem l_szLive_ret (σ : St) (x : Live) (n : Int) (hw : wLive x) (h0 : 0 ≤ n) (h1 : n ≤ 1099511627776) : Ret Tryz.prog n_l_szLive [.agg [.bool x.map, .str x.obj, .str x.key, .int .i64 x.val, .int .i64 x.dot.rep, .int .i64 x.dot.seq], gi n] σ (gi (lf n (msLive x))) σ := by
  obtain ⟨w0, w1⟩ := hw
  refine ret_eq ir_l_szLive (Nat.le_of_ble_eq_true rfl) trivial ?_
  simp +contextual (maxSteps := 600000) (disch := omega) only [go_sem, Nat.reduceEqDiff, ↓reduceIte, Int.reduceEq, Int.reduceNeg, wrap_add, F_l_szLive, List.append_nil]
  refine ⟨fun hn => ?_, fun hn => ?_⟩
  · have hn := of_decide_eq_true hn
    unfold msLive lf; rw [if_pos (by omega)]
  have hn := of_decide_eq_false hn
  try simp (disch := omega) only [wrap_add]
  refine ⟨fun hn => ?_, fun hn => ?_⟩
  · have hn := of_decide_eq_true hn
    unfold msLive lf; rw [if_pos (by omega)]
  have hn := of_decide_eq_false hn
  try simp (disch := omega) only [wrap_add]
  unfold msLive; rw [show lf n (x.obj.size + x.key.size) = n - ((x.obj.size + x.key.size : Nat) : Int) by unfold lf; rw [if_neg (by omega)]]; try omega
end Go.Proofs.YtffnefmklckngaaGreat.Sy

/- Contracts of the laws' own functions: HszLiveS. -/
namespace Go.Proofs.YtffnefmklckngaaGreat.Sy
open Go Go.RowKit
set_option linter.unusedSimpArgs false
set_option linter.unusedVariables false
abbrev n_l_szLiveS : Nat := 64
def F_l_szLiveS : Fn1 := ⟨27, [.t 4], (.seq (.reg [o 4 (.mov (.k (.int .i64 0)))]) (.seq (.reg [o 6 (.mov (.t 1)), o 7 (.mov (.t 0)), o 8 (.len false (.t 7)), o 9 (.bin .sub (.t 6) (.t 8)), o 1 (.mov (.t 9))]) (.seq (.seq (.reg [o 10 (.mov (.t 1)), o 11 (.bin .lss (.t 10) (.k (.int .i64 0)))]) (.cnd (.t 11) (.seq (.reg [o 4 (.mov (.k (.int .i64 (-1))))]) .ret) .skip)) (.seq (.seq (.reg [o 5 (.mov (.k (.int .i64 0)))]) (.blk 0 (.lop (.seq (.seq (.reg [o 12 (.mov (.t 5)), o 13 (.mov (.t 0)), o 14 (.len false (.t 13)), o 15 (.bin .lss (.t 12) (.t 14))]) (.cnd (.t 15) .skip (.ext 0))) (.seq (.blk 1 (.seq (.reg [o 18 (.mov (.t 0)), o 19 (.mov (.t 5)), o 20 (.iad 6 (.t 18) (.t 19)), o 21 (.ld true 6 (.t 20)), o 22 (.mov (.t 1)), o 23 (.call 122 [(.t 21), (.t 22)]), o 1 (.mov (.t 23))]) (.seq (.reg [o 24 (.mov (.t 1)), o 25 (.bin .lss (.t 24) (.k (.int .i64 0)))]) (.cnd (.t 25) (.seq (.reg [o 4 (.mov (.k (.int .i64 (-1))))]) .ret) .skip)))) (.reg [o 16 (.mov (.t 5)), o 17 (.bin .add (.t 16) (.k (.int .i64 1))), o 5 (.mov (.t 17))])))))) (.seq (.reg [o 26 (.mov (.t 1)), o 4 (.mov (.t 26))]) .ret)))))⟩
theorem ir_l_szLiveS : compFn Tryz.prog n_l_szLiveS = some F_l_szLiveS := by kernel_rfl
theorem l_szLiveS_ret (σ : St) (v : GV) (l : List Live) (hR : RS pLive.kd σ v l) (n : Int) (hw : l.length ≤ 9223372036854775807 ∧ ∀ y ∈ l, wLive y) (h0 : 0 ≤ n) (h1 : n ≤ 1099511627776) : Ret Tryz.prog n_l_szLiveS [v, gi n] σ (gi (lf n (l.length + sumL msLive l))) σ := by
  obtain ⟨wl, we⟩ := hw
  refine ret_eq ir_l_szLiveS (Nat.le_of_ble_eq_true rfl) trivial ?_
  simp +contextual (maxSteps := 600000) (disch := omega) only [go_sem, Nat.reduceEqDiff, ↓reduceIte, Int.reduceEq, Int.reduceNeg, wrap_add, F_l_szLiveS, hR.len]
  refine ⟨fun hn => ?_, fun hn => ?_⟩
  · have hn := of_decide_eq_true hn
    unfold lf; rw [if_pos (by omega)]
  have hn := of_decide_eq_false hn
  refine vc_for l.length 5 (fun i env τ => ∃ m : Int, env 0 = v ∧ env 1 = gi m ∧ m = n - l.length - sumL msLive (l.take i) ∧ 0 ≤ m ∧ σ <+: τ) rfl ⟨n - l.length, rfl, rfl, by simp [sumL], by omega, List.prefix_refl _⟩ ?_ ?_
  · rintro i env τ hi e5 c0 ⟨m, e0, e1, em, hm, hp⟩
    have h1 := hR.pre hp
    have hs := sumL_snoc (f := msLive) hi
    have hst := sumL_take_le msLive l (i + 1)
    simp +contextual (maxSteps := 600000) (disch := omega) only [go_sem, Nat.reduceEqDiff, ↓reduceIte, Int.reduceEq, Int.reduceNeg, wrap_add, c0, e0, e1, e5, hR.len, Live_at h1 hi]
    refine by_ret (l_szLive_ret τ l[i] m (we _ (List.getElem_mem hi)) hm (by omega)) ?_
    simp +contextual (maxSteps := 600000) (disch := omega) only [go_sem, Nat.reduceEqDiff, ↓reduceIte, Int.reduceEq, Int.reduceNeg, wrap_add, c0, e0, e1, e5, hp]
    have g0 := @lf_le m (msLive l[i]) hm
    have g1 := @lf_ge m (msLive l[i])
    refine ⟨fun hn => ?_, fun hn => ?_⟩
    · have hn := lf_neg.1 (of_decide_eq_true hn)
      unfold lf; rw [if_pos (by omega)]
    · have hn := of_decide_eq_false hn
      have f := lf_some hn
      exact ⟨_, rfl, by omega, by omega⟩
  · rintro env τ e5 c0 ⟨m, e0, e1, em, hm, hp⟩
    rw [List.take_length] at em
    simp +contextual (maxSteps := 600000) (disch := omega) only [go_sem, Nat.reduceEqDiff, ↓reduceIte, Int.reduceEq, Int.reduceNeg, wrap_add, c0, e0, e1, e5, hR.len, hp]
    unfold lf; rw [if_neg (by omega)]; omega
end Go.Proofs.YtffnefmklckngaaGreat.Sy

/- Contracts of the laws' own functions: HszTally. -/
namespace Go.Proofs.YtffnefmklckngaaGreat.Sy
open Go Go.RowKit
set_option linter.unusedSimpArgs false
set_option linter.unusedVariables false
abbrev n_l_szTally : Nat := 121
def F_l_szTally : Fn1 := ⟨13, [.t 4], (.seq (.reg [o 2 (.box (.t 0)), o 4 (.mov (.k (.int .i64 0)))]) (.seq (.reg [o 5 (.mov (.t 1)), o 6 (.fad 0 (.t 2)), o 7 (.ld false 1 (.t 6)), o 8 (.len true (.t 7)), o 9 (.bin .sub (.t 5) (.t 8)), o 1 (.mov (.t 9))]) (.seq (.seq (.reg [o 10 (.mov (.t 1)), o 11 (.bin .lss (.t 10) (.k (.int .i64 0)))]) (.cnd (.t 11) (.seq (.reg [o 4 (.mov (.k (.int .i64 (-1))))]) .ret) .skip)) (.seq (.reg [o 12 (.mov (.t 1)), o 4 (.mov (.t 12))]) .ret))))⟩
theorem ir_l_szTally : compFn Tryz.prog n_l_szTally = some F_l_szTally := by kernel_rfl
theorem l_szTally_ret (σ : St) (x : Tally) (n : Int) (hw : wTally x) (h0 : 0 ≤ n) (h1 : n ≤ 1099511627776) : Ret Tryz.prog n_l_szTally [.agg [.str x.obj, .int .i64 x.rep, .int .i64 x.sum], gi n] σ (gi (lf n (msTally x))) σ := by
  have w0 := hw; unfold wTally at w0
  refine ret_eq ir_l_szTally (Nat.le_of_ble_eq_true rfl) trivial ?_
  simp +contextual (maxSteps := 600000) (disch := omega) only [go_sem, Nat.reduceEqDiff, ↓reduceIte, Int.reduceEq, Int.reduceNeg, wrap_add, F_l_szTally, List.append_nil]
  refine ⟨fun hn => ?_, fun hn => ?_⟩
  · have hn := of_decide_eq_true hn
    unfold msTally lf; rw [if_pos (by omega)]
  have hn := of_decide_eq_false hn
  try simp (disch := omega) only [wrap_add]
  unfold msTally; rw [show lf n (x.obj.size) = n - ((x.obj.size : Nat) : Int) by unfold lf; rw [if_neg (by omega)]]; try omega
end Go.Proofs.YtffnefmklckngaaGreat.Sy

/- Contracts of the laws' own functions: HszTallyS. -/
namespace Go.Proofs.YtffnefmklckngaaGreat.Sy
open Go Go.RowKit
set_option linter.unusedSimpArgs false
set_option linter.unusedVariables false
abbrev n_l_szTallyS : Nat := 63
def F_l_szTallyS : Fn1 := ⟨27, [.t 4], (.seq (.reg [o 4 (.mov (.k (.int .i64 0)))]) (.seq (.reg [o 6 (.mov (.t 1)), o 7 (.mov (.t 0)), o 8 (.len false (.t 7)), o 9 (.bin .sub (.t 6) (.t 8)), o 1 (.mov (.t 9))]) (.seq (.seq (.reg [o 10 (.mov (.t 1)), o 11 (.bin .lss (.t 10) (.k (.int .i64 0)))]) (.cnd (.t 11) (.seq (.reg [o 4 (.mov (.k (.int .i64 (-1))))]) .ret) .skip)) (.seq (.seq (.reg [o 5 (.mov (.k (.int .i64 0)))]) (.blk 0 (.lop (.seq (.seq (.reg [o 12 (.mov (.t 5)), o 13 (.mov (.t 0)), o 14 (.len false (.t 13)), o 15 (.bin .lss (.t 12) (.t 14))]) (.cnd (.t 15) .skip (.ext 0))) (.seq (.blk 1 (.seq (.reg [o 18 (.mov (.t 0)), o 19 (.mov (.t 5)), o 20 (.iad 3 (.t 18) (.t 19)), o 21 (.ld true 3 (.t 20)), o 22 (.mov (.t 1)), o 23 (.call 121 [(.t 21), (.t 22)]), o 1 (.mov (.t 23))]) (.seq (.reg [o 24 (.mov (.t 1)), o 25 (.bin .lss (.t 24) (.k (.int .i64 0)))]) (.cnd (.t 25) (.seq (.reg [o 4 (.mov (.k (.int .i64 (-1))))]) .ret) .skip)))) (.reg [o 16 (.mov (.t 5)), o 17 (.bin .add (.t 16) (.k (.int .i64 1))), o 5 (.mov (.t 17))])))))) (.seq (.reg [o 26 (.mov (.t 1)), o 4 (.mov (.t 26))]) .ret)))))⟩
theorem ir_l_szTallyS : compFn Tryz.prog n_l_szTallyS = some F_l_szTallyS := by kernel_rfl
theorem l_szTallyS_ret (σ : St) (v : GV) (l : List Tally) (hR : RS pTally.kd σ v l) (n : Int) (hw : l.length ≤ 9223372036854775807 ∧ ∀ y ∈ l, wTally y) (h0 : 0 ≤ n) (h1 : n ≤ 1099511627776) : Ret Tryz.prog n_l_szTallyS [v, gi n] σ (gi (lf n (l.length + sumL msTally l))) σ := by
  obtain ⟨wl, we⟩ := hw
  refine ret_eq ir_l_szTallyS (Nat.le_of_ble_eq_true rfl) trivial ?_
  simp +contextual (maxSteps := 600000) (disch := omega) only [go_sem, Nat.reduceEqDiff, ↓reduceIte, Int.reduceEq, Int.reduceNeg, wrap_add, F_l_szTallyS, hR.len]
  refine ⟨fun hn => ?_, fun hn => ?_⟩
  · have hn := of_decide_eq_true hn
    unfold lf; rw [if_pos (by omega)]
  have hn := of_decide_eq_false hn
  refine vc_for l.length 5 (fun i env τ => ∃ m : Int, env 0 = v ∧ env 1 = gi m ∧ m = n - l.length - sumL msTally (l.take i) ∧ 0 ≤ m ∧ σ <+: τ) rfl ⟨n - l.length, rfl, rfl, by simp [sumL], by omega, List.prefix_refl _⟩ ?_ ?_
  · rintro i env τ hi e5 c0 ⟨m, e0, e1, em, hm, hp⟩
    have h1 := hR.pre hp
    have hs := sumL_snoc (f := msTally) hi
    have hst := sumL_take_le msTally l (i + 1)
    simp +contextual (maxSteps := 600000) (disch := omega) only [go_sem, Nat.reduceEqDiff, ↓reduceIte, Int.reduceEq, Int.reduceNeg, wrap_add, c0, e0, e1, e5, hR.len, Tally_at h1 hi]
    refine by_ret (l_szTally_ret τ l[i] m (we _ (List.getElem_mem hi)) hm (by omega)) ?_
    simp +contextual (maxSteps := 600000) (disch := omega) only [go_sem, Nat.reduceEqDiff, ↓reduceIte, Int.reduceEq, Int.reduceNeg, wrap_add, c0, e0, e1, e5, hp]
    have g0 := @lf_le m (msTally l[i]) hm
    have g1 := @lf_ge m (msTally l[i])
    refine ⟨fun hn => ?_, fun hn => ?_⟩
    · have hn := lf_neg.1 (of_decide_eq_true hn)
      unfold lf; rw [if_pos (by omega)]
    · have hn := of_decide_eq_false hn
      have f := lf_some hn
      exact ⟨_, rfl, by omega, by omega⟩
  · rintro env τ e5 c0 ⟨m, e0, e1, em, hm, hp⟩
    rw [List.take_length] at em
    simp +contextual (maxSteps := 600000) (disch := omega) only [go_sem, Nat.reduceEqDiff, ↓reduceIte, Int.reduceEq, Int.reduceNeg, wrap_add, c0, e0, e1, e5, hR.len, hp]
    unfold lf; rw [if_neg (by omega)]; omega
end Go.Proofs.YtffnefmklckngaaGreat.Sy

/- Contracts of the laws' own functions: HszState. -/
namespace Go.Proofs.YtffnefmklckngaaGreat.Sy
open Go Go.RowKit
set_option linter.unusedSimpArgs false
set_option linter.unusedVariables false
abbrev n_l_szState : Nat := 20
def F_l_szState : Fn1 := ⟨30, [.t 4], (.seq (.reg [o 2 (.box (.t 0)), o 4 (.mov (.k (.int .i64 0)))]) (.seq (.reg [o 5 (.fad 0 (.t 2)), o 6 (.ld false 1 (.t 5)), o 7 (.mov (.t 1)), o 8 (.call 62 [(.t 6), (.t 7)]), o 1 (.mov (.t 8))]) (.seq (.seq (.reg [o 9 (.mov (.t 1)), o 10 (.bin .lss (.t 9) (.k (.int .i64 0)))]) (.cnd (.t 10) (.seq (.reg [o 4 (.mov (.k (.int .i64 (-1))))]) .ret) .skip)) (.seq (.reg [o 11 (.fad 1 (.t 2)), o 12 (.ld false 1 (.t 11)), o 13 (.mov (.t 1)), o 14 (.call 63 [(.t 12), (.t 13)]), o 1 (.mov (.t 14))]) (.seq (.seq (.reg [o 15 (.mov (.t 1)), o 16 (.bin .lss (.t 15) (.k (.int .i64 0)))]) (.cnd (.t 16) (.seq (.reg [o 4 (.mov (.k (.int .i64 (-1))))]) .ret) .skip)) (.seq (.reg [o 17 (.fad 2 (.t 2)), o 18 (.ld false 1 (.t 17)), o 19 (.mov (.t 1)), o 20 (.call 64 [(.t 18), (.t 19)]), o 1 (.mov (.t 20))]) (.seq (.seq (.reg [o 21 (.mov (.t 1)), o 22 (.bin .lss (.t 21) (.k (.int .i64 0)))]) (.cnd (.t 22) (.seq (.reg [o 4 (.mov (.k (.int .i64 (-1))))]) .ret) .skip)) (.seq (.reg [o 23 (.fad 3 (.t 2)), o 24 (.ld false 1 (.t 23)), o 25 (.mov (.t 1)), o 26 (.call 65 [(.t 24), (.t 25)]), o 1 (.mov (.t 26))]) (.seq (.seq (.reg [o 27 (.mov (.t 1)), o 28 (.bin .lss (.t 27) (.k (.int .i64 0)))]) (.cnd (.t 28) (.seq (.reg [o 4 (.mov (.k (.int .i64 (-1))))]) .ret) .skip)) (.seq (.reg [o 29 (.mov (.t 1)), o 4 (.mov (.t 29))]) .ret))))))))))⟩
theorem ir_l_szState : compFn Tryz.prog n_l_szState = some F_l_szState := by kernel_rfl
theorem l_szState_ret (σ : St) (cs : List GV) (x : State) (hR : kState.R σ x cs) (n : Int) (hw : wState x) (h0 : 0 ≤ n) (h1 : n ≤ 1099511627776) : Ret Tryz.prog n_l_szState [.agg cs, gi n] σ (gi (lf n (msState x))) σ := by
  obtain ⟨v0, v1, v2, v3, rfl, q0, q1, q2, q3⟩ := hR
  obtain ⟨w0, w1, w2, w3⟩ := hw
  refine ret_eq ir_l_szState (Nat.le_of_ble_eq_true rfl) trivial ?_
  simp +contextual (maxSteps := 600000) (disch := omega) only [go_sem, Nat.reduceEqDiff, ↓reduceIte, Int.reduceEq, Int.reduceNeg, wrap_add, F_l_szState, List.append_nil]
  refine by_ret (l_szIntS_ret _ v0 x.know (q0.pre (pre1 _ _)) (n) w0 (by omega) (by omega)) ?_
  simp +contextual (maxSteps := 600000) (disch := omega) only [go_sem, Nat.reduceEqDiff, ↓reduceIte, Int.reduceEq, Int.reduceNeg, wrap_add, List.append_nil]
  have g0 := @lf_le (n) (x.know.length) (by omega)
  refine ⟨fun hn => ?_, fun hn => ?_⟩
  · have hn := of_decide_eq_true hn
    have hn := lf_neg.1 hn
    unfold msState lf; rw [if_pos (by omega)]
  have hn := of_decide_eq_false hn
  have f0 := lf_some hn
  try simp (disch := omega) only [wrap_add]
  refine by_ret (l_szTallyS_ret _ v1 x.tallies (q1.pre (pre1 _ _)) (lf (n) (x.know.length)) w1 (by omega) (by omega)) ?_
  simp +contextual (maxSteps := 600000) (disch := omega) only [go_sem, Nat.reduceEqDiff, ↓reduceIte, Int.reduceEq, Int.reduceNeg, wrap_add, List.append_nil]
  have g1 := @lf_le (lf (n) (x.know.length)) ((x.tallies.length + sumL msTally x.tallies)) (by omega)
  refine ⟨fun hn => ?_, fun hn => ?_⟩
  · have hn := of_decide_eq_true hn
    have hn := lf_neg.1 hn
    unfold msState lf; rw [if_pos (by omega)]
  have hn := of_decide_eq_false hn
  have f1 := lf_some hn
  try simp (disch := omega) only [wrap_add]
  refine by_ret (l_szLiveS_ret _ v2 x.lives (q2.pre (pre1 _ _)) (lf (lf (n) (x.know.length)) ((x.tallies.length + sumL msTally x.tallies))) w2 (by omega) (by omega)) ?_
  simp +contextual (maxSteps := 600000) (disch := omega) only [go_sem, Nat.reduceEqDiff, ↓reduceIte, Int.reduceEq, Int.reduceNeg, wrap_add, List.append_nil]
  have g2 := @lf_le (lf (lf (n) (x.know.length)) ((x.tallies.length + sumL msTally x.tallies))) ((x.lives.length + sumL msLive x.lives)) (by omega)
  refine ⟨fun hn => ?_, fun hn => ?_⟩
  · have hn := of_decide_eq_true hn
    have hn := lf_neg.1 hn
    unfold msState lf; rw [if_pos (by omega)]
  have hn := of_decide_eq_false hn
  have f2 := lf_some hn
  try simp (disch := omega) only [wrap_add]
  refine by_ret (l_szCellS_ret _ v3 x.cells (q3.pre (pre1 _ _)) (lf (lf (lf (n) (x.know.length)) ((x.tallies.length + sumL msTally x.tallies))) ((x.lives.length + sumL msLive x.lives))) w3 (by omega) (by omega)) ?_
  simp +contextual (maxSteps := 600000) (disch := omega) only [go_sem, Nat.reduceEqDiff, ↓reduceIte, Int.reduceEq, Int.reduceNeg, wrap_add, List.append_nil]
  have g3 := @lf_le (lf (lf (lf (n) (x.know.length)) ((x.tallies.length + sumL msTally x.tallies))) ((x.lives.length + sumL msLive x.lives))) ((x.cells.length + sumL msCell x.cells)) (by omega)
  refine ⟨fun hn => ?_, fun hn => ?_⟩
  · have hn := of_decide_eq_true hn
    have hn := lf_neg.1 hn
    unfold msState lf; rw [if_pos (by omega)]
  have hn := of_decide_eq_false hn
  have f3 := lf_some hn
  try simp (disch := omega) only [wrap_add]
  unfold msState; rw [show lf n (x.know.length + (x.tallies.length + sumL msTally x.tallies) + (x.lives.length + sumL msLive x.lives) + (x.cells.length + sumL msCell x.cells)) = n - ((x.know.length + (x.tallies.length + sumL msTally x.tallies) + (x.lives.length + sumL msLive x.lives) + (x.cells.length + sumL msCell x.cells) : Nat) : Int) by unfold lf; rw [if_neg (by omega)]]; try omega
end Go.Proofs.YtffnefmklckngaaGreat.Sy

/- Contracts of the laws' own functions: records of our own. -/
namespace Go.Proofs.YtffnefmklckngaaGreat.Sy
open Go Go.RowKit
set_option linter.unusedSimpArgs false
set_option linter.unusedVariables false
theorem Hp.ownState {σ τ : St} {rs : List Thg} {x : State} {v0 : GV} {v1 : GV} {v2 : GV} {v3 : GV} (H : Hp σ τ (ow pI.kd v0 x.know :: ow pTally.kd v1 x.tallies :: ow pLive.kd v2 x.lives :: ow pCell.kd v3 x.cells :: rs)) : Hp σ τ (own kState (v0 :: v1 :: v2 :: v3 :: []) x :: rs) := by
  refine (H.join.join.join).conv ?_
  rintro fp ⟨_, f3, ⟨_, f2, ⟨f0, f1, h0, h1, rfl⟩, h2, rfl⟩, h3, rfl⟩
  exact ⟨v0, v1, v2, v3, f0, f1, f2, f3, rfl, h0, h1, h2, h3, by simp [List.append_assoc]⟩
end Go.Proofs.YtffnefmklckngaaGreat.Sy

/- Contracts of the laws' own functions: HtoDot. -/
namespace Go.Proofs.YtffnefmklckngaaGreat.Sy
open Go Go.RowKit
set_option linter.unusedSimpArgs false
set_option linter.unusedVariables false
abbrev n_l_toDot : Nat := 169
def F_l_toDot : Fn1 := ⟨11, [.c 2 true 2], (.seq (.reg [o 1 (.box (.t 0)), o 2 (.new [(.int .i64 0), (.int .i64 0)])]) (.seq (.reg [o 3 (.new [(.int .i64 0), (.int .i64 0)])]) (.seq (.reg [o 4 (.fad 0 (.t 1)), o 5 (.ld false 1 (.t 4)), o 6 (.fad 0 (.t 3)), on (.st 1 (.t 6) (.t 5))]) (.seq (.reg [o 7 (.fad 1 (.t 1)), o 8 (.ld false 1 (.t 7)), o 9 (.fad 1 (.t 3)), on (.st 1 (.t 9) (.t 8))]) (.seq (.reg [o 10 (.ld true 2 (.t 3)), on (.st 2 (.t 2) (.t 10))]) .ret)))))⟩
theorem ir_l_toDot : compFn Tryz.prog n_l_toDot = some F_l_toDot := by kernel_rfl
theorem l_toDot_ret (σ : St) (x : Dot) : Ret Tryz.prog n_l_toDot [.agg [.int .i64 x.rep, .int .i64 x.seq]] σ (.agg [.int .i64 x.rep, .int .i64 x.seq]) σ := by
  refine ret_eq ir_l_toDot (Nat.le_of_ble_eq_true rfl) (by simp [vLt, cLt, sLt]) ?_
  simp +contextual (maxSteps := 600000) (disch := omega) only [go_sem, Nat.reduceEqDiff, ↓reduceIte, Int.reduceEq, Int.reduceNeg, wrap_add, F_l_toDot]
end Go.Proofs.YtffnefmklckngaaGreat.Sy

/- Contracts of the laws' own functions: HtoCell. -/
namespace Go.Proofs.YtffnefmklckngaaGreat.Sy
open Go Go.RowKit
set_option linter.unusedSimpArgs false
set_option linter.unusedVariables false
abbrev n_l_toCell : Nat := 130
def F_l_toCell : Fn1 := ⟨25, [.c 2 true 8], (.seq (.reg [o 1 (.box (.t 0)), o 2 (.new [(.str ⟨#[]⟩), (.int .i64 0), (.int .i64 0), (.int .i64 0), (.int .i64 0), (.int .i64 0), (.int .i64 0), (.bool false)])]) (.seq (.reg [o 3 (.new [(.str ⟨#[]⟩), (.int .i64 0), (.int .i64 0), (.int .i64 0), (.int .i64 0), (.int .i64 0), (.int .i64 0), (.bool false)])]) (.seq (.reg [o 4 (.fad 0 (.t 1)), o 5 (.ld false 1 (.t 4)), o 6 (.fad 0 (.t 3)), on (.st 1 (.t 6) (.t 5))]) (.seq (.reg [o 7 (.fad 1 (.t 1)), o 8 (.ld true 2 (.t 7)), o 9 (.call 169 [(.t 8)]), o 10 (.fad 1 (.t 3)), on (.st 2 (.t 10) (.t 9))]) (.seq (.reg [o 11 (.fad 3 (.t 1)), o 12 (.ld false 1 (.t 11)), o 13 (.fad 3 (.t 3)), on (.st 1 (.t 13) (.t 12))]) (.seq (.reg [o 14 (.fad 4 (.t 1)), o 15 (.ld true 2 (.t 14)), o 16 (.call 169 [(.t 15)]), o 17 (.fad 4 (.t 3)), on (.st 2 (.t 17) (.t 16))]) (.seq (.reg [o 18 (.fad 6 (.t 1)), o 19 (.ld false 1 (.t 18)), o 20 (.fad 6 (.t 3)), on (.st 1 (.t 20) (.t 19))]) (.seq (.reg [o 21 (.fad 7 (.t 1)), o 22 (.ld false 1 (.t 21)), o 23 (.fad 7 (.t 3)), on (.st 1 (.t 23) (.t 22))]) (.seq (.reg [o 24 (.ld true 8 (.t 3)), on (.st 8 (.t 2) (.t 24))]) .ret)))))))))⟩
theorem ir_l_toCell : compFn Tryz.prog n_l_toCell = some F_l_toCell := by kernel_rfl
theorem l_toCell_ret (σ : St) (x : Cell) : Ret Tryz.prog n_l_toCell [.agg [.str x.obj, .int .i64 x.dot.rep, .int .i64 x.dot.seq, .int .i64 x.time, .int .i64 x.ref.rep, .int .i64 x.ref.seq, .int .i64 x.val, .bool x.gone]] σ (.agg [.str x.obj, .int .i64 x.dot.rep, .int .i64 x.dot.seq, .int .i64 x.time, .int .i64 x.ref.rep, .int .i64 x.ref.seq, .int .i64 x.val, .bool x.gone]) σ := by
  refine ret_eq ir_l_toCell (Nat.le_of_ble_eq_true rfl) (by simp [vLt, cLt, sLt]) ?_
  simp +contextual (maxSteps := 600000) (disch := omega) only [go_sem, Nat.reduceEqDiff, ↓reduceIte, Int.reduceEq, Int.reduceNeg, wrap_add, F_l_toCell]
  refine by_ret (l_toDot_ret _ x.dot) ?_
  simp +contextual (maxSteps := 600000) (disch := omega) only [go_sem, Nat.reduceEqDiff, ↓reduceIte, Int.reduceEq, Int.reduceNeg, wrap_add, List.append_nil]
  refine by_ret (l_toDot_ret _ x.ref) ?_
  simp +contextual (maxSteps := 600000) (disch := omega) only [go_sem, Nat.reduceEqDiff, ↓reduceIte, Int.reduceEq, Int.reduceNeg, wrap_add, List.append_nil]
end Go.Proofs.YtffnefmklckngaaGreat.Sy

/- Contracts of the laws' own functions: HtoCellS. -/
namespace Go.Proofs.YtffnefmklckngaaGreat.Sy
open Go Go.RowKit
set_option linter.unusedSimpArgs false
set_option linter.unusedVariables false
abbrev n_l_toCellS : Nat := 76
def F_l_toCellS : Fn1 := ⟨23, [.t 2], (.seq (.reg [o 2 (.mov (.k .nilS))]) (.seq (.reg [o 5 (.mov (.t 0)), o 6 (.len false (.t 5)), o 7 (.mks 8 72 [(.str ⟨#[]⟩), (.int .i64 0), (.int .i64 0), (.int .i64 0), (.int .i64 0), (.int .i64 0), (.int .i64 0), (.bool false)] (.t 6) (.t 6)), o 3 (.mov (.t 7))]) (.seq (.seq (.reg [o 4 (.mov (.k (.int .i64 0)))]) (.blk 0 (.lop (.seq (.seq (.reg [o 8 (.mov (.t 4)), o 9 (.mov (.t 0)), o 10 (.len false (.t 9)), o 11 (.bin .lss (.t 8) (.t 10))]) (.cnd (.t 11) .skip (.ext 0))) (.seq (.blk 1 (.reg [o 14 (.mov (.t 3)), o 15 (.mov (.t 4)), o 16 (.mov (.t 0)), o 17 (.mov (.t 4)), o 18 (.iad 8 (.t 16) (.t 17)), o 19 (.ld true 8 (.t 18)), o 20 (.call 130 [(.t 19)]), o 21 (.iad 8 (.t 14) (.t 15)), on (.st 8 (.t 21) (.t 20))])) (.reg [o 12 (.mov (.t 4)), o 13 (.bin .add (.t 12) (.k (.int .i64 1))), o 4 (.mov (.t 13))])))))) (.seq (.reg [o 22 (.mov (.t 3)), o 2 (.mov (.t 22))]) .ret))))⟩
theorem ir_l_toCellS : compFn Tryz.prog n_l_toCellS = some F_l_toCellS := by kernel_rfl
theorem l_toCellS_ret (σ : St) (v : GV) (l : List Cell) (hR : RS pCell.kd σ v l) (hl : l.length ≤ 1099511627776) : ∃ r τ, Ret Tryz.prog n_l_toCellS [v] σ r τ ∧ Hp σ τ [ow pCell.kd r l] := by
  refine ret_hp (rs := fun r => [ow pCell.kd r l]) ir_l_toCellS (Nat.le_of_ble_eq_true rfl) ?_
  have hmk : ∀ ze, mksG 8 72 ze σ (some l.length) (some l.length) = some (.sl σ.length 0 l.length, σ ++ [some (.row 8 (reps l.length ze))]) := fun ze => mks_ok (by omega)
  simp +contextual (maxSteps := 600000) (disch := omega) only [go_sem, Nat.reduceEqDiff, ↓reduceIte, Int.reduceEq, Int.reduceNeg, wrap_add, F_l_toCellS, hR.len, hmk]
  have H0 := ((Hp.refl σ).new 8 (reps l.length (pCell.enc ⟨⟨#[]⟩, ⟨0, 0⟩, 0, ⟨0, 0⟩, 0, false⟩))).toRow 0 (p := pCell) rfl (List.replicate l.length ⟨⟨#[]⟩, ⟨0, 0⟩, 0, ⟨0, 0⟩, 0, false⟩) rfl (reps_enc _ _ _) l.length (by simp)
  refine vc_for l.length 4 (fun i env τ => env 0 = v ∧ env 3 = .sl σ.length 0 l.length ∧ Hp σ τ [ow pCell.kd (.sl σ.length 0 l.length) (l.take i ++ List.replicate (l.length - i) ⟨⟨#[]⟩, ⟨0, 0⟩, 0, ⟨0, 0⟩, 0, false⟩)]) rfl ⟨rfl, rfl, by rw [List.take_zero, List.nil_append, Nat.sub_zero]; exact H0⟩ ?_ ?_
  · rintro i env τ hi e4 c0 ⟨e0, e3, H⟩
    have h1 := hR.pre H.sub
    have h2 := H.sl 0 rfl
    have hj := fill_len (z := (⟨⟨#[]⟩, ⟨0, 0⟩, 0, ⟨0, 0⟩, 0, false⟩ : Cell)) hi
    simp +contextual (maxSteps := 600000) (disch := omega) only [go_sem, Nat.reduceEqDiff, ↓reduceIte, Int.reduceEq, Int.reduceNeg, wrap_add, e0, e3, e4, c0, hR.len, Cell_at h1 hi]
    refine by_ret (l_toCell_ret τ l[i]) ?_
    obtain ⟨τ', es, H'⟩ := H.stw 0 rfl hj 8 (.agg [.str l[i].obj, .int .i64 l[i].dot.rep, .int .i64 l[i].dot.seq, .int .i64 l[i].time, .int .i64 l[i].ref.rep, .int .i64 l[i].ref.seq, .int .i64 l[i].val, .bool l[i].gone]) l[i] rfl rfl (by decide)
    rw [fill_step hi] at H'
    have es : stG 8 τ (atz 8 (.sl σ.length 0 l.length) i) (.agg [.str l[i].obj, .int .i64 l[i].dot.rep, .int .i64 l[i].dot.seq, .int .i64 l[i].time, .int .i64 l[i].ref.rep, .int .i64 l[i].ref.seq, .int .i64 l[i].val, .bool l[i].gone]) = some (.tup [], τ') := es
    simp +contextual (maxSteps := 600000) (disch := omega) only [go_sem, Nat.reduceEqDiff, ↓reduceIte, Int.reduceEq, Int.reduceNeg, wrap_add, e0, e3, e4, c0, hR.len, Cell_at h1 hi, Cell_at h2 hj, es]
    exact H'
  · rintro env τ e4 c0 ⟨e0, e3, H⟩
    rw [fill_end] at H
    simp +contextual (maxSteps := 600000) (disch := omega) only [go_sem, Nat.reduceEqDiff, ↓reduceIte, Int.reduceEq, Int.reduceNeg, wrap_add, e0, e3, e4, c0, hR.len]
    exact ⟨_, rfl, H⟩
end Go.Proofs.YtffnefmklckngaaGreat.Sy

/- Contracts of the laws' own functions: HtoIntS. -/
namespace Go.Proofs.YtffnefmklckngaaGreat.Sy
open Go Go.RowKit
set_option linter.unusedSimpArgs false
set_option linter.unusedVariables false
abbrev n_l_toIntS : Nat := 73
def F_l_toIntS : Fn1 := ⟨22, [.t 2], (.seq (.reg [o 2 (.mov (.k .nilS))]) (.seq (.reg [o 5 (.mov (.t 0)), o 6 (.len false (.t 5)), o 7 (.mks 1 8 [(.int .i64 0)] (.t 6) (.t 6)), o 3 (.mov (.t 7))]) (.seq (.seq (.reg [o 4 (.mov (.k (.int .i64 0)))]) (.blk 0 (.lop (.seq (.seq (.reg [o 8 (.mov (.t 4)), o 9 (.mov (.t 0)), o 10 (.len false (.t 9)), o 11 (.bin .lss (.t 8) (.t 10))]) (.cnd (.t 11) .skip (.ext 0))) (.seq (.blk 1 (.reg [o 14 (.mov (.t 3)), o 15 (.mov (.t 4)), o 16 (.mov (.t 0)), o 17 (.mov (.t 4)), o 18 (.iad 1 (.t 16) (.t 17)), o 19 (.ld false 1 (.t 18)), o 20 (.iad 1 (.t 14) (.t 15)), on (.st 1 (.t 20) (.t 19))])) (.reg [o 12 (.mov (.t 4)), o 13 (.bin .add (.t 12) (.k (.int .i64 1))), o 4 (.mov (.t 13))])))))) (.seq (.reg [o 21 (.mov (.t 3)), o 2 (.mov (.t 21))]) .ret))))⟩
theorem ir_l_toIntS : compFn Tryz.prog n_l_toIntS = some F_l_toIntS := by kernel_rfl
theorem l_toIntS_ret (σ : St) (v : GV) (l : List Int) (hR : RS pI.kd σ v l) (hl : l.length ≤ 1099511627776) : ∃ r τ, Ret Tryz.prog n_l_toIntS [v] σ r τ ∧ Hp σ τ [ow pI.kd r l] := by
  refine ret_hp (rs := fun r => [ow pI.kd r l]) ir_l_toIntS (Nat.le_of_ble_eq_true rfl) ?_
  have hmk : ∀ ze, mksG 1 8 ze σ (some l.length) (some l.length) = some (.sl σ.length 0 l.length, σ ++ [some (.row 1 (reps l.length ze))]) := fun ze => mks_ok (by omega)
  simp +contextual (maxSteps := 600000) (disch := omega) only [go_sem, Nat.reduceEqDiff, ↓reduceIte, Int.reduceEq, Int.reduceNeg, wrap_add, F_l_toIntS, hR.len, hmk]
  have H0 := ((Hp.refl σ).new 1 (reps l.length (pI.enc 0))).toRow 0 (p := pI) rfl (List.replicate l.length 0) rfl (reps_enc _ _ _) l.length (by simp)
  refine vc_for l.length 4 (fun i env τ => env 0 = v ∧ env 3 = .sl σ.length 0 l.length ∧ Hp σ τ [ow pI.kd (.sl σ.length 0 l.length) (l.take i ++ List.replicate (l.length - i) 0)]) rfl ⟨rfl, rfl, by rw [List.take_zero, List.nil_append, Nat.sub_zero]; exact H0⟩ ?_ ?_
  · rintro i env τ hi e4 c0 ⟨e0, e3, H⟩
    have h1 := hR.pre H.sub
    have h2 := H.sl 0 rfl
    have hj := fill_len (z := (0 : Int)) hi
    obtain ⟨τ', es, H'⟩ := H.stw 0 rfl hj 1 (.int .i64 l[i]) l[i] rfl rfl (by decide)
    rw [fill_step hi] at H'
    have es : stG 1 τ (atz 1 (.sl σ.length 0 l.length) i) (.int .i64 l[i]) = some (.tup [], τ') := es
    simp +contextual (maxSteps := 600000) (disch := omega) only [go_sem, Nat.reduceEqDiff, ↓reduceIte, Int.reduceEq, Int.reduceNeg, wrap_add, e0, e3, e4, c0, hR.len, int_at h1 hi, int_at h2 hj, es]
    exact H'
  · rintro env τ e4 c0 ⟨e0, e3, H⟩
    rw [fill_end] at H
    simp +contextual (maxSteps := 600000) (disch := omega) only [go_sem, Nat.reduceEqDiff, ↓reduceIte, Int.reduceEq, Int.reduceNeg, wrap_add, e0, e3, e4, c0, hR.len]
    exact ⟨_, rfl, H⟩
end Go.Proofs.YtffnefmklckngaaGreat.Sy

/- Contracts of the laws' own functions: HtoLive. -/
namespace Go.Proofs.YtffnefmklckngaaGreat.Sy
open Go Go.RowKit
set_option linter.unusedSimpArgs false
set_option linter.unusedVariables false
abbrev n_l_toLive : Nat := 129
def F_l_toLive : Fn1 := ⟨21, [.c 2 true 6], (.seq (.reg [o 1 (.box (.t 0)), o 2 (.new [(.bool false), (.str ⟨#[]⟩), (.str ⟨#[]⟩), (.int .i64 0), (.int .i64 0), (.int .i64 0)])]) (.seq (.reg [o 3 (.new [(.bool false), (.str ⟨#[]⟩), (.str ⟨#[]⟩), (.int .i64 0), (.int .i64 0), (.int .i64 0)])]) (.seq (.reg [o 4 (.fad 0 (.t 1)), o 5 (.ld false 1 (.t 4)), o 6 (.fad 0 (.t 3)), on (.st 1 (.t 6) (.t 5))]) (.seq (.reg [o 7 (.fad 1 (.t 1)), o 8 (.ld false 1 (.t 7)), o 9 (.fad 1 (.t 3)), on (.st 1 (.t 9) (.t 8))]) (.seq (.reg [o 10 (.fad 2 (.t 1)), o 11 (.ld false 1 (.t 10)), o 12 (.fad 2 (.t 3)), on (.st 1 (.t 12) (.t 11))]) (.seq (.reg [o 13 (.fad 3 (.t 1)), o 14 (.ld false 1 (.t 13)), o 15 (.fad 3 (.t 3)), on (.st 1 (.t 15) (.t 14))]) (.seq (.reg [o 16 (.fad 4 (.t 1)), o 17 (.ld true 2 (.t 16)), o 18 (.call 169 [(.t 17)]), o 19 (.fad 4 (.t 3)), on (.st 2 (.t 19) (.t 18))]) (.seq (.reg [o 20 (.ld true 6 (.t 3)), on (.st 6 (.t 2) (.t 20))]) .ret))))))))⟩
theorem ir_l_toLive : compFn Tryz.prog n_l_toLive = some F_l_toLive := by kernel_rfl
theorem l_toLive_ret (σ : St) (x : Live) : Ret Tryz.prog n_l_toLive [.agg [.bool x.map, .str x.obj, .str x.key, .int .i64 x.val, .int .i64 x.dot.rep, .int .i64 x.dot.seq]] σ (.agg [.bool x.map, .str x.obj, .str x.key, .int .i64 x.val, .int .i64 x.dot.rep, .int .i64 x.dot.seq]) σ := by
  refine ret_eq ir_l_toLive (Nat.le_of_ble_eq_true rfl) (by simp [vLt, cLt, sLt]) ?_
  simp +contextual (maxSteps := 600000) (disch := omega) only [go_sem, Nat.reduceEqDiff, ↓reduceIte, Int.reduceEq, Int.reduceNeg, wrap_add, F_l_toLive]
  refine by_ret (l_toDot_ret _ x.dot) ?_
  simp +contextual (maxSteps := 600000) (disch := omega) only [go_sem, Nat.reduceEqDiff, ↓reduceIte, Int.reduceEq, Int.reduceNeg, wrap_add, List.append_nil]
end Go.Proofs.YtffnefmklckngaaGreat.Sy

/- Contracts of the laws' own functions: HtoLiveS. -/
namespace Go.Proofs.YtffnefmklckngaaGreat.Sy
open Go Go.RowKit
set_option linter.unusedSimpArgs false
set_option linter.unusedVariables false
abbrev n_l_toLiveS : Nat := 75
def F_l_toLiveS : Fn1 := ⟨23, [.t 2], (.seq (.reg [o 2 (.mov (.k .nilS))]) (.seq (.reg [o 5 (.mov (.t 0)), o 6 (.len false (.t 5)), o 7 (.mks 6 64 [(.bool false), (.str ⟨#[]⟩), (.str ⟨#[]⟩), (.int .i64 0), (.int .i64 0), (.int .i64 0)] (.t 6) (.t 6)), o 3 (.mov (.t 7))]) (.seq (.seq (.reg [o 4 (.mov (.k (.int .i64 0)))]) (.blk 0 (.lop (.seq (.seq (.reg [o 8 (.mov (.t 4)), o 9 (.mov (.t 0)), o 10 (.len false (.t 9)), o 11 (.bin .lss (.t 8) (.t 10))]) (.cnd (.t 11) .skip (.ext 0))) (.seq (.blk 1 (.reg [o 14 (.mov (.t 3)), o 15 (.mov (.t 4)), o 16 (.mov (.t 0)), o 17 (.mov (.t 4)), o 18 (.iad 6 (.t 16) (.t 17)), o 19 (.ld true 6 (.t 18)), o 20 (.call 129 [(.t 19)]), o 21 (.iad 6 (.t 14) (.t 15)), on (.st 6 (.t 21) (.t 20))])) (.reg [o 12 (.mov (.t 4)), o 13 (.bin .add (.t 12) (.k (.int .i64 1))), o 4 (.mov (.t 13))])))))) (.seq (.reg [o 22 (.mov (.t 3)), o 2 (.mov (.t 22))]) .ret))))⟩
theorem ir_l_toLiveS : compFn Tryz.prog n_l_toLiveS = some F_l_toLiveS := by kernel_rfl
theorem l_toLiveS_ret (σ : St) (v : GV) (l : List Live) (hR : RS pLive.kd σ v l) (hl : l.length ≤ 1099511627776) : ∃ r τ, Ret Tryz.prog n_l_toLiveS [v] σ r τ ∧ Hp σ τ [ow pLive.kd r l] := by
  refine ret_hp (rs := fun r => [ow pLive.kd r l]) ir_l_toLiveS (Nat.le_of_ble_eq_true rfl) ?_
  have hmk : ∀ ze, mksG 6 64 ze σ (some l.length) (some l.length) = some (.sl σ.length 0 l.length, σ ++ [some (.row 6 (reps l.length ze))]) := fun ze => mks_ok (by omega)
  simp +contextual (maxSteps := 600000) (disch := omega) only [go_sem, Nat.reduceEqDiff, ↓reduceIte, Int.reduceEq, Int.reduceNeg, wrap_add, F_l_toLiveS, hR.len, hmk]
  have H0 := ((Hp.refl σ).new 6 (reps l.length (pLive.enc ⟨false, ⟨#[]⟩, ⟨#[]⟩, 0, ⟨0, 0⟩⟩))).toRow 0 (p := pLive) rfl (List.replicate l.length ⟨false, ⟨#[]⟩, ⟨#[]⟩, 0, ⟨0, 0⟩⟩) rfl (reps_enc _ _ _) l.length (by simp)
  refine vc_for l.length 4 (fun i env τ => env 0 = v ∧ env 3 = .sl σ.length 0 l.length ∧ Hp σ τ [ow pLive.kd (.sl σ.length 0 l.length) (l.take i ++ List.replicate (l.length - i) ⟨false, ⟨#[]⟩, ⟨#[]⟩, 0, ⟨0, 0⟩⟩)]) rfl ⟨rfl, rfl, by rw [List.take_zero, List.nil_append, Nat.sub_zero]; exact H0⟩ ?_ ?_
  · rintro i env τ hi e4 c0 ⟨e0, e3, H⟩
    have h1 := hR.pre H.sub
    have h2 := H.sl 0 rfl
    have hj := fill_len (z := (⟨false, ⟨#[]⟩, ⟨#[]⟩, 0, ⟨0, 0⟩⟩ : Live)) hi
    simp +contextual (maxSteps := 600000) (disch := omega) only [go_sem, Nat.reduceEqDiff, ↓reduceIte, Int.reduceEq, Int.reduceNeg, wrap_add, e0, e3, e4, c0, hR.len, Live_at h1 hi]
    refine by_ret (l_toLive_ret τ l[i]) ?_
    obtain ⟨τ', es, H'⟩ := H.stw 0 rfl hj 6 (.agg [.bool l[i].map, .str l[i].obj, .str l[i].key, .int .i64 l[i].val, .int .i64 l[i].dot.rep, .int .i64 l[i].dot.seq]) l[i] rfl rfl (by decide)
    rw [fill_step hi] at H'
    have es : stG 6 τ (atz 6 (.sl σ.length 0 l.length) i) (.agg [.bool l[i].map, .str l[i].obj, .str l[i].key, .int .i64 l[i].val, .int .i64 l[i].dot.rep, .int .i64 l[i].dot.seq]) = some (.tup [], τ') := es
    simp +contextual (maxSteps := 600000) (disch := omega) only [go_sem, Nat.reduceEqDiff, ↓reduceIte, Int.reduceEq, Int.reduceNeg, wrap_add, e0, e3, e4, c0, hR.len, Live_at h1 hi, Live_at h2 hj, es]
    exact H'
  · rintro env τ e4 c0 ⟨e0, e3, H⟩
    rw [fill_end] at H
    simp +contextual (maxSteps := 600000) (disch := omega) only [go_sem, Nat.reduceEqDiff, ↓reduceIte, Int.reduceEq, Int.reduceNeg, wrap_add, e0, e3, e4, c0, hR.len]
    exact ⟨_, rfl, H⟩
end Go.Proofs.YtffnefmklckngaaGreat.Sy

/- Contracts of the laws' own functions: HtoTally. -/
namespace Go.Proofs.YtffnefmklckngaaGreat.Sy
open Go Go.RowKit
set_option linter.unusedSimpArgs false
set_option linter.unusedVariables false
abbrev n_l_toTally : Nat := 128
def F_l_toTally : Fn1 := ⟨14, [.c 2 true 3], (.seq (.reg [o 1 (.box (.t 0)), o 2 (.new [(.str ⟨#[]⟩), (.int .i64 0), (.int .i64 0)])]) (.seq (.reg [o 3 (.new [(.str ⟨#[]⟩), (.int .i64 0), (.int .i64 0)])]) (.seq (.reg [o 4 (.fad 0 (.t 1)), o 5 (.ld false 1 (.t 4)), o 6 (.fad 0 (.t 3)), on (.st 1 (.t 6) (.t 5))]) (.seq (.reg [o 7 (.fad 1 (.t 1)), o 8 (.ld false 1 (.t 7)), o 9 (.fad 1 (.t 3)), on (.st 1 (.t 9) (.t 8))]) (.seq (.reg [o 10 (.fad 2 (.t 1)), o 11 (.ld false 1 (.t 10)), o 12 (.fad 2 (.t 3)), on (.st 1 (.t 12) (.t 11))]) (.seq (.reg [o 13 (.ld true 3 (.t 3)), on (.st 3 (.t 2) (.t 13))]) .ret))))))⟩
theorem ir_l_toTally : compFn Tryz.prog n_l_toTally = some F_l_toTally := by kernel_rfl
theorem l_toTally_ret (σ : St) (x : Tally) : Ret Tryz.prog n_l_toTally [.agg [.str x.obj, .int .i64 x.rep, .int .i64 x.sum]] σ (.agg [.str x.obj, .int .i64 x.rep, .int .i64 x.sum]) σ := by
  refine ret_eq ir_l_toTally (Nat.le_of_ble_eq_true rfl) (by simp [vLt, cLt, sLt]) ?_
  simp +contextual (maxSteps := 600000) (disch := omega) only [go_sem, Nat.reduceEqDiff, ↓reduceIte, Int.reduceEq, Int.reduceNeg, wrap_add, F_l_toTally]
end Go.Proofs.YtffnefmklckngaaGreat.Sy

/- Contracts of the laws' own functions: HtoTallyS. -/
namespace Go.Proofs.YtffnefmklckngaaGreat.Sy
open Go Go.RowKit
set_option linter.unusedSimpArgs false
set_option linter.unusedVariables false
abbrev n_l_toTallyS : Nat := 74
def F_l_toTallyS : Fn1 := ⟨23, [.t 2], (.seq (.reg [o 2 (.mov (.k .nilS))]) (.seq (.reg [o 5 (.mov (.t 0)), o 6 (.len false (.t 5)), o 7 (.mks 3 32 [(.str ⟨#[]⟩), (.int .i64 0), (.int .i64 0)] (.t 6) (.t 6)), o 3 (.mov (.t 7))]) (.seq (.seq (.reg [o 4 (.mov (.k (.int .i64 0)))]) (.blk 0 (.lop (.seq (.seq (.reg [o 8 (.mov (.t 4)), o 9 (.mov (.t 0)), o 10 (.len false (.t 9)), o 11 (.bin .lss (.t 8) (.t 10))]) (.cnd (.t 11) .skip (.ext 0))) (.seq (.blk 1 (.reg [o 14 (.mov (.t 3)), o 15 (.mov (.t 4)), o 16 (.mov (.t 0)), o 17 (.mov (.t 4)), o 18 (.iad 3 (.t 16) (.t 17)), o 19 (.ld true 3 (.t 18)), o 20 (.call 128 [(.t 19)]), o 21 (.iad 3 (.t 14) (.t 15)), on (.st 3 (.t 21) (.t 20))])) (.reg [o 12 (.mov (.t 4)), o 13 (.bin .add (.t 12) (.k (.int .i64 1))), o 4 (.mov (.t 13))])))))) (.seq (.reg [o 22 (.mov (.t 3)), o 2 (.mov (.t 22))]) .ret))))⟩
theorem ir_l_toTallyS : compFn Tryz.prog n_l_toTallyS = some F_l_toTallyS := by kernel_rfl
theorem l_toTallyS_ret (σ : St) (v : GV) (l : List Tally) (hR : RS pTally.kd σ v l) (hl : l.length ≤ 1099511627776) : ∃ r τ, Ret Tryz.prog n_l_toTallyS [v] σ r τ ∧ Hp σ τ [ow pTally.kd r l] := by
  refine ret_hp (rs := fun r => [ow pTally.kd r l]) ir_l_toTallyS (Nat.le_of_ble_eq_true rfl) ?_
  have hmk : ∀ ze, mksG 3 32 ze σ (some l.length) (some l.length) = some (.sl σ.length 0 l.length, σ ++ [some (.row 3 (reps l.length ze))]) := fun ze => mks_ok (by omega)
  simp +contextual (maxSteps := 600000) (disch := omega) only [go_sem, Nat.reduceEqDiff, ↓reduceIte, Int.reduceEq, Int.reduceNeg, wrap_add, F_l_toTallyS, hR.len, hmk]
  have H0 := ((Hp.refl σ).new 3 (reps l.length (pTally.enc ⟨⟨#[]⟩, 0, 0⟩))).toRow 0 (p := pTally) rfl (List.replicate l.length ⟨⟨#[]⟩, 0, 0⟩) rfl (reps_enc _ _ _) l.length (by simp)
  refine vc_for l.length 4 (fun i env τ => env 0 = v ∧ env 3 = .sl σ.length 0 l.length ∧ Hp σ τ [ow pTally.kd (.sl σ.length 0 l.length) (l.take i ++ List.replicate (l.length - i) ⟨⟨#[]⟩, 0, 0⟩)]) rfl ⟨rfl, rfl, by rw [List.take_zero, List.nil_append, Nat.sub_zero]; exact H0⟩ ?_ ?_
  · rintro i env τ hi e4 c0 ⟨e0, e3, H⟩
    have h1 := hR.pre H.sub
    have h2 := H.sl 0 rfl
    have hj := fill_len (z := (⟨⟨#[]⟩, 0, 0⟩ : Tally)) hi
    simp +contextual (maxSteps := 600000) (disch := omega) only [go_sem, Nat.reduceEqDiff, ↓reduceIte, Int.reduceEq, Int.reduceNeg, wrap_add, e0, e3, e4, c0, hR.len, Tally_at h1 hi]
    refine by_ret (l_toTally_ret τ l[i]) ?_
    obtain ⟨τ', es, H'⟩ := H.stw 0 rfl hj 3 (.agg [.str l[i].obj, .int .i64 l[i].rep, .int .i64 l[i].sum]) l[i] rfl rfl (by decide)
    rw [fill_step hi] at H'
    have es : stG 3 τ (atz 3 (.sl σ.length 0 l.length) i) (.agg [.str l[i].obj, .int .i64 l[i].rep, .int .i64 l[i].sum]) = some (.tup [], τ') := es
    simp +contextual (maxSteps := 600000) (disch := omega) only [go_sem, Nat.reduceEqDiff, ↓reduceIte, Int.reduceEq, Int.reduceNeg, wrap_add, e0, e3, e4, c0, hR.len, Tally_at h1 hi, Tally_at h2 hj, es]
    exact H'
  · rintro env τ e4 c0 ⟨e0, e3, H⟩
    rw [fill_end] at H
    simp +contextual (maxSteps := 600000) (disch := omega) only [go_sem, Nat.reduceEqDiff, ↓reduceIte, Int.reduceEq, Int.reduceNeg, wrap_add, e0, e3, e4, c0, hR.len]
    exact ⟨_, rfl, H⟩
end Go.Proofs.YtffnefmklckngaaGreat.Sy

/- Contracts of the laws' own functions: HtoState. -/
namespace Go.Proofs.YtffnefmklckngaaGreat.Sy
open Go Go.RowKit
set_option linter.unusedSimpArgs false
set_option linter.unusedVariables false
abbrev n_l_toState : Nat := 22
def F_l_toState : Fn1 := ⟨21, [.c 2 true 4], (.seq (.reg [o 1 (.box (.t 0)), o 2 (.new [.nilS, .nilS, .nilS, .nilS])]) (.seq (.reg [o 3 (.new [.nilS, .nilS, .nilS, .nilS])]) (.seq (.reg [o 4 (.fad 0 (.t 1)), o 5 (.ld false 1 (.t 4)), o 6 (.call 73 [(.t 5)]), o 7 (.fad 0 (.t 3)), on (.st 1 (.t 7) (.t 6))]) (.seq (.reg [o 8 (.fad 1 (.t 1)), o 9 (.ld false 1 (.t 8)), o 10 (.call 74 [(.t 9)]), o 11 (.fad 1 (.t 3)), on (.st 1 (.t 11) (.t 10))]) (.seq (.reg [o 12 (.fad 2 (.t 1)), o 13 (.ld false 1 (.t 12)), o 14 (.call 75 [(.t 13)]), o 15 (.fad 2 (.t 3)), on (.st 1 (.t 15) (.t 14))]) (.seq (.reg [o 16 (.fad 3 (.t 1)), o 17 (.ld false 1 (.t 16)), o 18 (.call 76 [(.t 17)]), o 19 (.fad 3 (.t 3)), on (.st 1 (.t 19) (.t 18))]) (.seq (.reg [o 20 (.ld true 4 (.t 3)), on (.st 4 (.t 2) (.t 20))]) .ret)))))))⟩
theorem ir_l_toState : compFn Tryz.prog n_l_toState = some F_l_toState := by kernel_rfl
theorem l_toState_ret (σ : St) (cs : List GV) (x : State) (hR : kState.R σ x cs) (hl : msState x ≤ 1099511627776) : ∃ r τ, Ret Tryz.prog n_l_toState [.agg cs] σ r τ ∧ σ <+: τ ∧ ∃ ds, r = .agg ds ∧ Hp σ τ [own kState ds x] := by
  have hlen := kState.len hR
  have hlen : cs.length = 4 := hlen
  obtain ⟨v0, v1, v2, v3, rfl, q0, q1, q2, q3⟩ := hR
  unfold msState at hl
  refine ret_new ir_l_toState (Nat.le_of_ble_eq_true rfl) ?_
  simp +contextual (maxSteps := 600000) (disch := omega) only [go_sem, Nat.reduceEqDiff, ↓reduceIte, Int.reduceEq, Int.reduceNeg, wrap_add, F_l_toState, List.append_nil]
  have H := (((Hp.refl σ).new 1 (v0 :: v1 :: v2 :: v3 :: [])).new 1 [GV.nilS, GV.nilS, GV.nilS, GV.nilS]).new 1 [GV.nilS, GV.nilS, GV.nilS, GV.nilS]
  obtain ⟨r0, τ0, R0, K0⟩ := l_toIntS_ret _ v0 x.know (q0.pre H.sub) (by omega)
  refine by_hp R0 K0 ?_
  have e0 := (K0.sl 0 rfl).cell
  have H := H.add K0
  try simp only [go_sem] at H
  try simp +contextual (maxSteps := 600000) (disch := omega) only [go_sem, Nat.reduceEqDiff, ↓reduceIte, Int.reduceEq, Int.reduceNeg, wrap_add, List.append_nil, ld_ptr (H.pt 3 rfl), ld_ptr (H.pt 1 rfl)]
  obtain ⟨_, es, H, _⟩ := H.st 1 rfl 1 0 (r0) (by rw [e0]; rfl) (by decide) (Nat.le_of_ble_eq_true rfl)
  try simp only [go_sem, List.set_cons_zero, List.set_cons_succ, e0] at H
  try simp +contextual (maxSteps := 600000) (disch := omega) only [go_sem, Nat.reduceEqDiff, ↓reduceIte, Int.reduceEq, Int.reduceNeg, wrap_add, List.append_nil, es, ld_ptr (H.pt 3 rfl), ld_ptr (H.pt 1 rfl)]
  obtain ⟨r1, τ1, R1, K1⟩ := l_toTallyS_ret _ v1 x.tallies (q1.pre H.sub) (by omega)
  refine by_hp R1 K1 ?_
  have e1 := (K1.sl 0 rfl).cell
  have H := H.add K1
  try simp only [go_sem] at H
  try simp +contextual (maxSteps := 600000) (disch := omega) only [go_sem, Nat.reduceEqDiff, ↓reduceIte, Int.reduceEq, Int.reduceNeg, wrap_add, List.append_nil, ld_ptr (H.pt 4 rfl), ld_ptr (H.pt 2 rfl)]
  obtain ⟨_, es, H, _⟩ := H.st 2 rfl 1 1 (r1) (by rw [e1]; rfl) (by decide) (Nat.le_of_ble_eq_true rfl)
  try simp only [go_sem, List.set_cons_zero, List.set_cons_succ, e1] at H
  try simp +contextual (maxSteps := 600000) (disch := omega) only [go_sem, Nat.reduceEqDiff, ↓reduceIte, Int.reduceEq, Int.reduceNeg, wrap_add, List.append_nil, es, ld_ptr (H.pt 4 rfl), ld_ptr (H.pt 2 rfl)]
  obtain ⟨r2, τ2, R2, K2⟩ := l_toLiveS_ret _ v2 x.lives (q2.pre H.sub) (by omega)
  refine by_hp R2 K2 ?_
  have e2 := (K2.sl 0 rfl).cell
  have H := H.add K2
  try simp only [go_sem] at H
  try simp +contextual (maxSteps := 600000) (disch := omega) only [go_sem, Nat.reduceEqDiff, ↓reduceIte, Int.reduceEq, Int.reduceNeg, wrap_add, List.append_nil, ld_ptr (H.pt 5 rfl), ld_ptr (H.pt 3 rfl)]
  obtain ⟨_, es, H, _⟩ := H.st 3 rfl 1 2 (r2) (by rw [e2]; rfl) (by decide) (Nat.le_of_ble_eq_true rfl)
  try simp only [go_sem, List.set_cons_zero, List.set_cons_succ, e2] at H
  try simp +contextual (maxSteps := 600000) (disch := omega) only [go_sem, Nat.reduceEqDiff, ↓reduceIte, Int.reduceEq, Int.reduceNeg, wrap_add, List.append_nil, es, ld_ptr (H.pt 5 rfl), ld_ptr (H.pt 3 rfl)]
  obtain ⟨r3, τ3, R3, K3⟩ := l_toCellS_ret _ v3 x.cells (q3.pre H.sub) (by omega)
  refine by_hp R3 K3 ?_
  have e3 := (K3.sl 0 rfl).cell
  have H := H.add K3
  try simp only [go_sem] at H
  try simp +contextual (maxSteps := 600000) (disch := omega) only [go_sem, Nat.reduceEqDiff, ↓reduceIte, Int.reduceEq, Int.reduceNeg, wrap_add, List.append_nil, ld_ptr (H.pt 6 rfl), ld_ptr (H.pt 4 rfl)]
  obtain ⟨_, es, H, _⟩ := H.st 4 rfl 1 3 (r3) (by rw [e3]; rfl) (by decide) (Nat.le_of_ble_eq_true rfl)
  try simp only [go_sem, List.set_cons_zero, List.set_cons_succ, e3] at H
  try simp +contextual (maxSteps := 600000) (disch := omega) only [go_sem, Nat.reduceEqDiff, ↓reduceIte, Int.reduceEq, Int.reduceNeg, wrap_add, List.append_nil, es, ld_ptr (H.pt 6 rfl), ld_ptr (H.pt 4 rfl)]
  obtain ⟨_, es, H, _⟩ := H.st 5 rfl 4 0 (.agg (r0 :: r1 :: r2 :: r3 :: [])) (rfl) (by decide) (Nat.le_of_ble_eq_true rfl)
  try simp only [go_sem, List.set_cons_zero, List.set_cons_succ] at H
  try simp +contextual (maxSteps := 600000) (disch := omega) only [go_sem, Nat.reduceEqDiff, ↓reduceIte, Int.reduceEq, Int.reduceNeg, wrap_add, List.append_nil, es, ld_ptr (H.pt 5 rfl)]
  have h0 := H.sub
  have H := (((H.pick 1 rfl).pick 2 rfl).pick 3 rfl)
  try simp only [List.eraseIdx_cons_succ, List.eraseIdx_cons_zero] at H
  exact ⟨_, rfl, h0, _, rfl, H.ownState.one⟩
end Go.Proofs.YtffnefmklckngaaGreat.Sy

/- From what an argument can hold to sizes. -/
namespace Go.Proofs.YtffnefmklckngaaGreat.Sy
open Go Go.RowKit
theorem zTally_w {x : Tally} (h : zTally x) : wTally x := h.1
theorem zTallyS_w {x : List Tally} (h : ((x).length ≤ 9223372036854775807 ∧ ∀ y6 ∈ x, zTally (y6))) : x.length ≤ 9223372036854775807 ∧ ∀ y ∈ x, wTally y := ⟨h.1, fun y hy => zTally_w (h.2 y hy)⟩
theorem zLive_w {x : Live} (h : zLive x) : wLive x := ⟨h.2.1, h.2.2.1⟩
theorem zLiveS_w {x : List Live} (h : ((x).length ≤ 9223372036854775807 ∧ ∀ y5 ∈ x, zLive (y5))) : x.length ≤ 9223372036854775807 ∧ ∀ y ∈ x, wLive y := ⟨h.1, fun y hy => zLive_w (h.2 y hy)⟩
theorem zCell_w {x : Cell} (h : zCell x) : wCell x := h.1
theorem zCellS_w {x : List Cell} (h : ((x).length ≤ 9223372036854775807 ∧ ∀ y5 ∈ x, zCell (y5))) : x.length ≤ 9223372036854775807 ∧ ∀ y ∈ x, wCell y := ⟨h.1, fun y hy => zCell_w (h.2 y hy)⟩
theorem zState_w {x : State} (h : zState x) : wState x := ⟨h.1.1, zTallyS_w h.2.1, zLiveS_w h.2.2.1, zCellS_w h.2.2.2⟩
end Go.Proofs.YtffnefmklckngaaGreat.Sy

/- The law of SameReading. -/
namespace Go.Proofs.YtffnefmklckngaaGreat.Sy
open Go Go.RowKit
set_option linter.unusedSimpArgs false
set_option linter.unusedVariables false
set_option maxRecDepth 4000
abbrev n_l_FnExactSameReading : Nat := 5
def F_l_FnExactSameReading : Fn1 := ⟨52, [.t 6], (.seq (.reg [o 3 (.box (.t 0)), o 4 (.box (.t 1)), o 6 (.mov (.k (.bool false)))]) (.seq (.seq (.reg [o 12 (.mov (.t 2)), o 13 (.len true (.t 12)), o 14 (.bin .gtr (.t 13) (.k (.int .i64 1048576)))]) (.cnd (.t 14) (.seq (.reg [o 6 (.mov (.k (.bool true)))]) .ret) .skip)) (.seq (.reg [o 7 (.mov (.k (.int .i64 1048576)))]) (.seq (.reg [o 15 (.ld true 4 (.t 3)), o 16 (.mov (.t 7)), o 17 (.call 20 [(.t 15), (.t 16)]), o 7 (.mov (.t 17))]) (.seq (.seq (.reg [o 18 (.mov (.t 7)), o 19 (.bin .lss (.t 18) (.k (.int .i64 0)))]) (.cnd (.t 19) (.seq (.reg [o 6 (.mov (.k (.bool true)))]) .ret) .skip)) (.seq (.reg [o 20 (.ld true 4 (.t 4)), o 21 (.mov (.t 7)), o 22 (.call 20 [(.t 20), (.t 21)]), o 7 (.mov (.t 22))]) (.seq (.seq (.reg [o 23 (.mov (.t 7)), o 24 (.bin .lss (.t 23) (.k (.int .i64 0)))]) (.cnd (.t 24) (.seq (.reg [o 6 (.mov (.k (.bool true)))]) .ret) .skip)) (.seq (.drw [o 25 (.ld true 4 (.t 3)), o 26 (.call 22 [(.t 25)]), o 27 (.ld true 4 (.t 4))] [o 28 (.call 22 [(.t 27)]), o 29 (.mov (.t 2)), o 30 (.call 21 [(.t 26), (.t 28), (.t 29)]), o 8 (.mov (.t 30))]) (.seq (.reg [o 31 (.ld true 4 (.t 3)), o 32 (.call 22 [(.t 31)]), o 9 (.new [.nilS, .nilS, .nilS, .nilS]), on (.st 4 (.t 9) (.t 32))]) (.seq (.reg [o 33 (.ld true 4 (.t 4)), o 34 (.call 22 [(.t 33)]), o 10 (.new [.nilS, .nilS, .nilS, .nilS]), on (.st 4 (.t 10) (.t 34))]) (.seq (.reg [o 35 (.ld true 4 (.t 9)), o 36 (.ld true 4 (.t 10)), o 37 (.mov (.t 2)), o 38 (.call 23 [(.t 35), (.t 36), (.t 37)]), o 11 (.mov (.t 38))]) (.seq (.seq (.reg [o 39 (.mov (.t 11)), o 40 (.mov (.t 8)), o 41 (.eqb true (.t 39) (.t 40))]) (.cnd (.t 41) (.seq (.reg [o 6 (.mov (.k (.bool false)))]) .ret) .skip)) (.seq (.seq (.drw [o 42 (.ld true 4 (.t 9)), o 43 (.ld true 4 (.t 3)), o 44 (.call 22 [(.t 43)])] [o 45 (.call 24 [(.t 42), (.t 44)]), o 46 (.un .not (.t 45))]) (.cnd (.t 46) (.seq (.reg [o 6 (.mov (.k (.bool false)))]) .ret) .skip)) (.seq (.seq (.drw [o 47 (.ld true 4 (.t 10)), o 48 (.ld true 4 (.t 4)), o 49 (.call 22 [(.t 48)])] [o 50 (.call 24 [(.t 47), (.t 49)]), o 51 (.un .not (.t 50))]) (.cnd (.t 51) (.seq (.reg [o 6 (.mov (.k (.bool false)))]) .ret) .skip)) (.seq (.reg [o 6 (.mov (.k (.bool true)))]) .ret)))))))))))))))⟩
theorem ir_l_FnExactSameReading : compFn Tryz.prog n_l_FnExactSameReading = some F_l_FnExactSameReading := by kernel_rfl
theorem law_SameReading (σ : St) (cs0 : List GV) (x0 : State) (hR0 : eState.R σ x0 cs0) (hw0 : zState x0) (cs1 : List GV) (x1 : State) (hR1 : eState.R σ x1 cs1) (hw1 : zState x1) (x2 : ByteArray) (hw2 : x2.size ≤ 9223372036854775807) : ∃ r τ, Ret Tryz.prog n_l_FnExactSameReading [.agg cs0, .agg cs1, .str x2] σ r τ ∧ r = .bool true := by
  have hR0 := brState hR0
  have hl0 := kState.len hR0
  have hw0 := zState_w hw0
  have hR1 := brState hR1
  have hl1 := kState.len hR1
  have hw1 := zState_w hw1
  refine ret_law ir_l_FnExactSameReading (Nat.le_of_ble_eq_true rfl) ?_
  have hB : σ <+: σ ++ [some (Blk.row 1 (cs0))] ++ [some (Blk.row 1 (cs1))] := pre2
  have hb0 : rdB (σ ++ [some (Blk.row 1 (cs0))] ++ [some (Blk.row 1 (cs1))]) (σ).length = some (cs0) := box_rd2 (List.prefix_refl _)
  have hs0 : (seg cs0 0 4).bind (mkv true) = some (.agg cs0) := seg_full hl0
  have hb1 : rdB (σ ++ [some (Blk.row 1 (cs0))] ++ [some (Blk.row 1 (cs1))]) (σ ++ [some (Blk.row 1 (cs0))]).length = some (cs1) := box_rd (List.prefix_refl _)
  have hs1 : (seg cs1 0 4).bind (mkv true) = some (.agg cs1) := seg_full hl1
  simp +contextual (maxSteps := 600000) (disch := omega) only [go_sem, Nat.reduceEqDiff, ↓reduceIte, Int.reduceEq, Int.reduceNeg, wrap_add, F_l_FnExactSameReading, ld_ptr (rdB_pre (List.prefix_refl _) hb0), hs0, ld_ptr (rdB_pre (List.prefix_refl _) hb1), hs1, List.append_nil]
  refine ⟨fun _ => hB.length_le, fun hn => ?_⟩
  have hz2 := of_decide_eq_false hn
  try simp only [Int.not_lt] at hz2
  try simp +contextual (maxSteps := 600000) (disch := omega) only [go_sem, Nat.reduceEqDiff, ↓reduceIte, Int.reduceEq, Int.reduceNeg, wrap_add, List.append_nil, ite_self, ne_eq, not_true_eq_false, bne_self_eq_false, beq_self_eq_true, ld_ptr (rdB_pre (List.prefix_refl _) hb0), hs0, ld_ptr (rdB_pre (List.prefix_refl _) hb1), hs1]
  refine by_ret (l_szState_ret _ cs0 x0 (kState.pre hR0 (hB.trans (List.prefix_refl _))) (1048576) hw0 (by omega) (by omega)) ?_
  have ge0 := @lf_ge (1048576) (msState x0)
  have gm0 := @lf_le (1048576) (msState x0) (by omega)
  try simp +contextual (maxSteps := 600000) (disch := omega) only [go_sem, Nat.reduceEqDiff, ↓reduceIte, Int.reduceEq, Int.reduceNeg, wrap_add, List.append_nil, ite_self, ne_eq, not_true_eq_false, bne_self_eq_false, beq_self_eq_true, ld_ptr (rdB_pre (List.prefix_refl _) hb0), hs0, ld_ptr (rdB_pre (List.prefix_refl _) hb1), hs1]
  refine ⟨fun _ => hB.length_le, fun hn => ?_⟩
  have hn := of_decide_eq_false hn
  have hf0 := lf_some hn
  have hu0 : msState x0 ≤ 1048576 := by omega
  try simp +contextual (maxSteps := 600000) (disch := omega) only [go_sem, Nat.reduceEqDiff, ↓reduceIte, Int.reduceEq, Int.reduceNeg, wrap_add, List.append_nil, ite_self, ne_eq, not_true_eq_false, bne_self_eq_false, beq_self_eq_true, ld_ptr (rdB_pre (List.prefix_refl _) hb0), hs0, ld_ptr (rdB_pre (List.prefix_refl _) hb1), hs1]
  refine by_ret (l_szState_ret _ cs1 x1 (kState.pre hR1 (hB.trans (List.prefix_refl _))) (lf (1048576) (msState x0)) hw1 (by omega) (by omega)) ?_
  have ge1 := @lf_ge (lf (1048576) (msState x0)) (msState x1)
  have gm1 := @lf_le (lf (1048576) (msState x0)) (msState x1) (by omega)
  try simp +contextual (maxSteps := 600000) (disch := omega) only [go_sem, Nat.reduceEqDiff, ↓reduceIte, Int.reduceEq, Int.reduceNeg, wrap_add, List.append_nil, ite_self, ne_eq, not_true_eq_false, bne_self_eq_false, beq_self_eq_true, ld_ptr (rdB_pre (List.prefix_refl _) hb0), hs0, ld_ptr (rdB_pre (List.prefix_refl _) hb1), hs1]
  refine ⟨fun _ => hB.length_le, fun hn => ?_⟩
  have hn := of_decide_eq_false hn
  have hf1 := lf_some hn
  have hu1 : msState x1 ≤ 1048576 := by omega
  try simp +contextual (maxSteps := 600000) (disch := omega) only [go_sem, Nat.reduceEqDiff, ↓reduceIte, Int.reduceEq, Int.reduceNeg, wrap_add, List.append_nil, ite_self, ne_eq, not_true_eq_false, bne_self_eq_false, beq_self_eq_true, ld_ptr (rdB_pre (List.prefix_refl _) hb0), hs0, ld_ptr (rdB_pre (List.prefix_refl _) hb1), hs1]
  have H := Hp.refl (σ ++ [some (Blk.row 1 (cs0))] ++ [some (Blk.row 1 (cs1))])
  try simp +contextual (maxSteps := 600000) (disch := omega) only [go_sem, Nat.reduceEqDiff, ↓reduceIte, Int.reduceEq, Int.reduceNeg, wrap_add, List.append_nil, ite_self, ne_eq, not_true_eq_false, bne_self_eq_false, beq_self_eq_true, ld_ptr (rdB_pre H.sub hb0), hs0, ld_ptr (rdB_pre H.sub hb1), hs1]
  obtain ⟨_, τ1, R1, _, d1, rfl, K1⟩ := l_toState_ret _ cs0 x0 (kState.pre hR0 (hB.trans H.sub)) (by omega)
  refine by_hp R1 K1 ?_
  have H := H.add K1
  try simp only [List.cons_append, List.nil_append] at H
  have g1 := seg_full (kState.len (K1.rd 0 rfl))
  have g1 : (seg d1 0 4).bind (mkv true) = some (.agg d1) := g1
  have gl1 : d1.length = 4 := kState.len (K1.rd 0 rfl)
  try simp +contextual (maxSteps := 600000) (disch := omega) only [go_sem, Nat.reduceEqDiff, ↓reduceIte, Int.reduceEq, Int.reduceNeg, wrap_add, List.append_nil, ite_self, ne_eq, not_true_eq_false, bne_self_eq_false, beq_self_eq_true, ld_ptr (rdB_pre H.sub hb0), hs0, ld_ptr (rdB_pre H.sub hb1), hs1, g1]
  obtain ⟨_, τ2, R2, _, d2, rfl, K2⟩ := l_toState_ret _ cs1 x1 (kState.pre hR1 (hB.trans H.sub)) (by omega)
  refine by_hp R2 K2 ?_
  have H := H.add K2
  try simp only [List.cons_append, List.nil_append] at H
  have g2 := seg_full (kState.len (K2.rd 0 rfl))
  have g2 : (seg d2 0 4).bind (mkv true) = some (.agg d2) := g2
  have gl2 : d2.length = 4 := kState.len (K2.rd 0 rfl)
  try simp +contextual (maxSteps := 600000) (disch := omega) only [go_sem, Nat.reduceEqDiff, ↓reduceIte, Int.reduceEq, Int.reduceNeg, wrap_add, List.append_nil, ite_self, ne_eq, not_true_eq_false, bne_self_eq_false, beq_self_eq_true, ld_ptr (rdB_pre H.sub hb0), hs0, ld_ptr (rdB_pre H.sub hb1), hs1, g1, g2]
  refine by_ret (s_SameReading_ret _ d1 x0 (H.rd 1 rfl) d2 x1 (H.rd 0 rfl) x2 (by omega) (by omega) (by omega)) ?_
  have hpw := H.sub
  have H := H.restart
  try simp +contextual (maxSteps := 600000) (disch := omega) only [go_sem, Nat.reduceEqDiff, ↓reduceIte, Int.reduceEq, Int.reduceNeg, wrap_add, List.append_nil, ite_self, ne_eq, not_true_eq_false, bne_self_eq_false, beq_self_eq_true, ld_ptr (rdB_pre (hpw.trans H.sub) hb0), hs0, ld_ptr (rdB_pre (hpw.trans H.sub) hb1), hs1, g1, g2]
  obtain ⟨_, τ4, R4, _, d4, rfl, K4⟩ := l_toState_ret _ cs0 x0 (kState.pre hR0 (hB.trans (hpw.trans H.sub))) (by omega)
  refine by_hp R4 K4 ?_
  have H := H.add K4
  try simp only [List.cons_append, List.nil_append] at H
  have g4 := seg_full (kState.len (K4.rd 0 rfl))
  have g4 : (seg d4 0 4).bind (mkv true) = some (.agg d4) := g4
  have gl4 : d4.length = 4 := kState.len (K4.rd 0 rfl)
  try simp +contextual (maxSteps := 600000) (disch := omega) only [go_sem, Nat.reduceEqDiff, ↓reduceIte, Int.reduceEq, Int.reduceNeg, wrap_add, List.append_nil, ite_self, ne_eq, not_true_eq_false, bne_self_eq_false, beq_self_eq_true, ld_ptr (rdB_pre (hpw.trans H.sub) hb0), hs0, ld_ptr (rdB_pre (hpw.trans H.sub) hb1), hs1, g1, g2, g4]
  have H := H.new 1 d4
  try simp +contextual (maxSteps := 600000) (disch := omega) only [go_sem, Nat.reduceEqDiff, ↓reduceIte, Int.reduceEq, Int.reduceNeg, wrap_add, List.append_nil, ite_self, ne_eq, not_true_eq_false, bne_self_eq_false, beq_self_eq_true, ld_ptr (rdB_pre (hpw.trans H.sub) hb0), hs0, ld_ptr (rdB_pre (hpw.trans H.sub) hb1), hs1, ld_ptr (H.pt 0 rfl), g1, g2, g4, splice_full (cs := [GV.nilS, GV.nilS, GV.nilS, GV.nilS]) gl4 rfl, gl4]
  obtain ⟨_, τ5, R5, _, d5, rfl, K5⟩ := l_toState_ret _ cs1 x1 (kState.pre hR1 (hB.trans (hpw.trans H.sub))) (by omega)
  refine by_hp R5 K5 ?_
  have H := H.add K5
  try simp only [List.cons_append, List.nil_append] at H
  have g5 := seg_full (kState.len (K5.rd 0 rfl))
  have g5 : (seg d5 0 4).bind (mkv true) = some (.agg d5) := g5
  have gl5 : d5.length = 4 := kState.len (K5.rd 0 rfl)
  try simp +contextual (maxSteps := 600000) (disch := omega) only [go_sem, Nat.reduceEqDiff, ↓reduceIte, Int.reduceEq, Int.reduceNeg, wrap_add, List.append_nil, ite_self, ne_eq, not_true_eq_false, bne_self_eq_false, beq_self_eq_true, ld_ptr (rdB_pre (hpw.trans H.sub) hb0), hs0, ld_ptr (rdB_pre (hpw.trans H.sub) hb1), hs1, ld_ptr (H.pt 1 rfl), g1, g2, g4, g5]
  have H := H.new 1 d5
  try simp +contextual (maxSteps := 600000) (disch := omega) only [go_sem, Nat.reduceEqDiff, ↓reduceIte, Int.reduceEq, Int.reduceNeg, wrap_add, List.append_nil, ite_self, ne_eq, not_true_eq_false, bne_self_eq_false, beq_self_eq_true, ld_ptr (rdB_pre (hpw.trans H.sub) hb0), hs0, ld_ptr (rdB_pre (hpw.trans H.sub) hb1), hs1, ld_ptr (H.pt 0 rfl), ld_ptr (H.pt 2 rfl), g1, g2, g4, g5, splice_full (cs := [GV.nilS, GV.nilS, GV.nilS, GV.nilS]) gl5 rfl, gl5]
  refine by_ret (i_SameReading_ret _ d4 x0 (H.rd 3 rfl) d5 x1 (H.rd 1 rfl) x2 (by omega) (by omega) (by omega)) ?_
  try simp +contextual (maxSteps := 600000) (disch := omega) only [go_sem, Nat.reduceEqDiff, ↓reduceIte, Int.reduceEq, Int.reduceNeg, wrap_add, List.append_nil, ite_self, ne_eq, not_true_eq_false, bne_self_eq_false, beq_self_eq_true, ld_ptr (rdB_pre (hpw.trans H.sub) hb0), hs0, ld_ptr (rdB_pre (hpw.trans H.sub) hb1), hs1, ld_ptr (H.pt 0 rfl), ld_ptr (H.pt 2 rfl), g1, g2, g4, g5]
  try simp +contextual (maxSteps := 600000) (disch := omega) only [go_sem, Nat.reduceEqDiff, ↓reduceIte, Int.reduceEq, Int.reduceNeg, wrap_add, List.append_nil, ite_self, ne_eq, not_true_eq_false, bne_self_eq_false, beq_self_eq_true, ld_ptr (rdB_pre (hpw.trans H.sub) hb0), hs0, ld_ptr (rdB_pre (hpw.trans H.sub) hb1), hs1, ld_ptr (H.pt 0 rfl), ld_ptr (H.pt 2 rfl), g1, g2, g4, g5]
  try simp +contextual (maxSteps := 600000) (disch := omega) only [go_sem, Nat.reduceEqDiff, ↓reduceIte, Int.reduceEq, Int.reduceNeg, wrap_add, List.append_nil, ite_self, ne_eq, not_true_eq_false, bne_self_eq_false, beq_self_eq_true, ld_ptr (rdB_pre (hpw.trans H.sub) hb0), hs0, ld_ptr (rdB_pre (hpw.trans H.sub) hb1), hs1, ld_ptr (H.pt 0 rfl), ld_ptr (H.pt 2 rfl), g1, g2, g4, g5]
  obtain ⟨_, τ7, R7, _, d7, rfl, K7⟩ := l_toState_ret _ cs0 x0 (kState.pre hR0 (hB.trans (hpw.trans H.sub))) (by omega)
  refine by_hp R7 K7 ?_
  have H := H.add K7
  try simp only [List.cons_append, List.nil_append] at H
  have g7 := seg_full (kState.len (K7.rd 0 rfl))
  have g7 : (seg d7 0 4).bind (mkv true) = some (.agg d7) := g7
  have gl7 : d7.length = 4 := kState.len (K7.rd 0 rfl)
  try simp +contextual (maxSteps := 600000) (disch := omega) only [go_sem, Nat.reduceEqDiff, ↓reduceIte, Int.reduceEq, Int.reduceNeg, wrap_add, List.append_nil, ite_self, ne_eq, not_true_eq_false, bne_self_eq_false, beq_self_eq_true, ld_ptr (rdB_pre (hpw.trans H.sub) hb0), hs0, ld_ptr (rdB_pre (hpw.trans H.sub) hb1), hs1, ld_ptr (H.pt 1 rfl), ld_ptr (H.pt 3 rfl), g1, g2, g4, g5, g7]
  refine by_ret (l_eqState_ret _ _ _ _ _ (H.rd 4 rfl) (H.rd 0 rfl) (by omega)) ?_
  try simp +contextual (maxSteps := 600000) (disch := omega) only [go_sem, Nat.reduceEqDiff, ↓reduceIte, Int.reduceEq, Int.reduceNeg, wrap_add, List.append_nil, ite_self, ne_eq, not_true_eq_false, bne_self_eq_false, beq_self_eq_true, ld_ptr (rdB_pre (hpw.trans H.sub) hb0), hs0, ld_ptr (rdB_pre (hpw.trans H.sub) hb1), hs1, ld_ptr (H.pt 1 rfl), ld_ptr (H.pt 3 rfl), g1, g2, g4, g5, g7, decide_true, eq_self]
  try simp +contextual (maxSteps := 600000) (disch := omega) only [go_sem, Nat.reduceEqDiff, ↓reduceIte, Int.reduceEq, Int.reduceNeg, wrap_add, List.append_nil, ite_self, ne_eq, not_true_eq_false, bne_self_eq_false, beq_self_eq_true, ld_ptr (rdB_pre (hpw.trans H.sub) hb0), hs0, ld_ptr (rdB_pre (hpw.trans H.sub) hb1), hs1, ld_ptr (H.pt 1 rfl), ld_ptr (H.pt 3 rfl), g1, g2, g4, g5, g7]
  obtain ⟨_, τ8, R8, _, d8, rfl, K8⟩ := l_toState_ret _ cs1 x1 (kState.pre hR1 (hB.trans (hpw.trans H.sub))) (by omega)
  refine by_hp R8 K8 ?_
  have H := H.add K8
  try simp only [List.cons_append, List.nil_append] at H
  have g8 := seg_full (kState.len (K8.rd 0 rfl))
  have g8 : (seg d8 0 4).bind (mkv true) = some (.agg d8) := g8
  have gl8 : d8.length = 4 := kState.len (K8.rd 0 rfl)
  try simp +contextual (maxSteps := 600000) (disch := omega) only [go_sem, Nat.reduceEqDiff, ↓reduceIte, Int.reduceEq, Int.reduceNeg, wrap_add, List.append_nil, ite_self, ne_eq, not_true_eq_false, bne_self_eq_false, beq_self_eq_true, ld_ptr (rdB_pre (hpw.trans H.sub) hb0), hs0, ld_ptr (rdB_pre (hpw.trans H.sub) hb1), hs1, ld_ptr (H.pt 2 rfl), ld_ptr (H.pt 4 rfl), g1, g2, g4, g5, g7, g8]
  refine by_ret (l_eqState_ret _ _ _ _ _ (H.rd 3 rfl) (H.rd 0 rfl) (by omega)) ?_
  try simp +contextual (maxSteps := 600000) (disch := omega) only [go_sem, Nat.reduceEqDiff, ↓reduceIte, Int.reduceEq, Int.reduceNeg, wrap_add, List.append_nil, ite_self, ne_eq, not_true_eq_false, bne_self_eq_false, beq_self_eq_true, ld_ptr (rdB_pre (hpw.trans H.sub) hb0), hs0, ld_ptr (rdB_pre (hpw.trans H.sub) hb1), hs1, ld_ptr (H.pt 2 rfl), ld_ptr (H.pt 4 rfl), g1, g2, g4, g5, g7, g8, decide_true, eq_self]
  exact (hB.trans (hpw.trans H.sub)).length_le
end Go.Proofs.YtffnefmklckngaaGreat.Sy

