/- Texts of this proof, one behind the other. -/
import Derived.Test.YtffnefmklckngaaGreatBSameReading2
import Derived.Test.YtffnefmklckngaaGreatProg
import Derived.KernelRfl
import Derived.Sort.LotC
import Derived.Sort.AssemblyPlain
/- Contracts: rows, as the program tells them. -/
namespace Go.Proofs.YtffnefmklckngaaGreat.Sy
open Go Go.RowKit
set_option linter.unusedSimpArgs false
set_option linter.unusedVariables false
set_option maxRecDepth 4000
abbrev n_i_RowDots : Nat := 193
def F_i_RowDots : Fn1 := ⟨82, [.t 4], (.seq (.reg [o 2 (.box (.t 0)), o 4 (.mov (.k .nilS))]) (.seq (.reg [o 12 (.lit 2 0 [] []), o 5 (.mov (.t 12))]) (.seq (.seq (.reg [o 13 (.ld true 4 (.t 2)), o 14 (.call 146 [(.t 13)]), o 15 (.un .not (.t 14))]) (.cnd (.t 15) (.seq (.reg [o 16 (.mov (.t 5)), o 4 (.mov (.t 16))]) .ret) .skip)) (.seq (.reg [o 17 (.lit 8 0 [] []), o 6 (.mov (.t 17))]) (.seq (.seq (.reg [o 18 (.fad 3 (.t 2)), o 19 (.ld false 1 (.t 18)), o 20 (.len false (.t 19)), o 21 (.mov (.k (.int .i64 0)))]) (.blk 0 (.lop (.seq (.reg [o 22 (.bin .lss (.t 21) (.t 20))]) (.seq (.cnd (.t 22) .skip (.ext 0)) (.seq (.blk 1 (.seq (.reg [o 23 (.iad 8 (.t 19) (.t 21)), o 24 (.ld true 8 (.t 23)), o 8 (.new [(.str ⟨#[]⟩), (.int .i64 0), (.int .i64 0), (.int .i64 0), (.int .i64 0), (.int .i64 0), (.int .i64 0), (.bool false)]), on (.st 8 (.t 8) (.t 24))]) (.seq (.reg [o 25 (.fad 0 (.t 8)), o 26 (.ld false 1 (.t 25)), o 27 (.mov (.t 1)), o 28 (.bin .eql (.t 26) (.t 27))]) (.cnd (.t 28) (.reg [o 29 (.mov (.t 6)), o 30 (.ld true 8 (.t 8)), o 31 (.lit 8 1 [(.str ⟨#[]⟩), (.int .i64 0), (.int .i64 0), (.int .i64 0), (.int .i64 0), (.int .i64 0), (.int .i64 0), (.bool false)] [(0, 8, (.t 30))]), o 32 (.app 8 72 [(.str ⟨#[]⟩), (.int .i64 0), (.int .i64 0), (.int .i64 0), (.int .i64 0), (.int .i64 0), (.int .i64 0), (.bool false)] (.t 29) (.t 31)), o 6 (.mov (.t 32))]) .skip)))) (.reg [o 33 (.bin .add (.t 21) (.k (.int .i64 1))), o 21 (.mov (.t 33))]))))))) (.seq (.reg [o 34 (.mov (.t 6)), o 35 (.call 231 [(.t 34), (.k (.fn 232 []))])]) (.seq (.reg [o 36 (.build [(.int .i64 0), (.int .i64 0)] []), o 37 (.lit 2 1 [(.int .i64 0), (.int .i64 0)] [(0, 2, (.t 36))]), o 9 (.mov (.t 37))]) (.seq (.blk 2 (.lop (.seq (.seq (.reg [o 38 (.mov (.t 9)), o 39 (.len false (.t 38)), o 40 (.bin .gtr (.t 39) (.k (.int .i64 0)))]) (.cnd (.t 40) .skip (.ext 2))) (.blk 3 (.seq (.reg [o 41 (.mov (.t 9)), o 42 (.mov (.t 9)), o 43 (.len false (.t 42)), o 44 (.bin .sub (.t 43) (.k (.int .i64 1))), o 45 (.iad 2 (.t 41) (.t 44)), o 46 (.ld true 2 (.t 45)), o 10 (.new [(.int .i64 0), (.int .i64 0)]), on (.st 2 (.t 10) (.t 46))]) (.seq (.reg [o 47 (.mov (.t 9)), o 48 (.mov (.t 9)), o 49 (.len false (.t 48)), o 50 (.bin .sub (.t 49) (.k (.int .i64 1))), o 51 (.cut 2 (.t 47) none (some (.t 50))), o 9 (.mov (.t 51))]) (.seq (.seq (.reg [o 52 (.ld true 2 (.t 10)), o 53 (.build [(.int .i64 0), (.int .i64 0)] []), o 54 (.eqs true [.i .i64, .i .i64] (.t 52) (.t 53))]) (.cnd (.t 54) (.reg [o 55 (.mov (.t 5)), o 56 (.ld true 2 (.t 10)), o 57 (.lit 2 1 [(.int .i64 0), (.int .i64 0)] [(0, 2, (.t 56))]), o 58 (.app 2 16 [(.int .i64 0), (.int .i64 0)] (.t 55) (.t 57)), o 5 (.mov (.t 58))]) .skip)) (.seq (.reg [o 59 (.mov (.t 6)), o 60 (.len false (.t 59)), o 61 (.bin .sub (.t 60) (.k (.int .i64 1))), o 11 (.mov (.t 61))]) (.blk 4 (.lop (.seq (.seq (.reg [o 62 (.mov (.t 11)), o 63 (.bin .geq (.t 62) (.k (.int .i64 0)))]) (.cnd (.t 63) .skip (.ext 4))) (.seq (.blk 5 (.seq (.drw [o 66 (.mov (.t 6)), o 67 (.mov (.t 11)), o 68 (.iad 8 (.t 66) (.t 67)), o 69 (.fad 4 (.t 68)), o 70 (.ld true 2 (.t 69)), o 71 (.ld true 2 (.t 10))] [o 72 (.eqs false [.i .i64, .i .i64] (.t 70) (.t 71))]) (.cnd (.t 72) (.reg [o 73 (.mov (.t 9)), o 74 (.mov (.t 6)), o 75 (.mov (.t 11)), o 76 (.iad 8 (.t 74) (.t 75)), o 77 (.fad 1 (.t 76)), o 78 (.ld true 2 (.t 77)), o 79 (.lit 2 1 [(.int .i64 0), (.int .i64 0)] [(0, 2, (.t 78))]), o 80 (.app 2 16 [(.int .i64 0), (.int .i64 0)] (.t 73) (.t 79)), o 9 (.mov (.t 80))]) .skip))) (.reg [o 64 (.mov (.t 11)), o 65 (.bin .sub (.t 64) (.k (.int .i64 1))), o 11 (.mov (.t 65))]))))))))))))) (.seq (.reg [o 81 (.mov (.t 5)), o 4 (.mov (.t 81))]) .ret)))))))))⟩
theorem ir_i_RowDots : compFn Tryz.prog n_i_RowDots = some F_i_RowDots := by kernel_rfl
theorem obj_snoc {l : List Cell} {o : ByteArray} {i : Nat} (hi : i < l.length) : (l.take (i + 1)).filter (isObj o) = if isObj o l[i] then (l.take i).filter (isObj o) ++ [l[i]] else (l.take i).filter (isObj o) := by
  rw [filter_snoc' hi]
  split <;> simp
theorem dot_row {l : List Cell} (d : Dot) {j : Nat} (hj : j < l.length) : ((l.drop j).filter (isRef d)) = if isRef d l[j] then l[j] :: (l.drop (j + 1)).filter (isRef d) else (l.drop (j + 1)).filter (isRef d) := by
  rw [List.drop_eq_getElem_cons hj, List.filter_cons]
/-- The last of a row of dots is taken off. -/
theorem Hp.popDot {σ τ : St} {rs : List Thg} {v : GV} {S : List Dot} {d : Dot} (H : Hp σ τ rs) (k : Nat) (hk : rs[k]? = some (ow pDot.kd v (S ++ [d]))) : ∃ g off, v = .sl g off (S.length + 1) ∧ zOk τ 2 v = true ∧ Hp σ τ (rs.set k (ow pDot.kd (.sl g off S.length) S)) := by
  obtain ⟨a, hO, hnd, hbd, ht⟩ := (H.pick k hk).turn
  have hkl := (List.getElem?_eq_some_iff.1 hk).1
  rcases OS.flat.1 hO with ⟨h, _⟩ | ⟨g, pre, post, rfl, hB, rfl⟩
  · simp at h
  · refine ⟨g, pre.length, by simp, ?_, ?_⟩
    · have : zOk τ 2 (.sl g pre.length (S ++ [d]).length) = true := by simp [zOk, bk_some.1 hB]; rfl
      exact this
    · refine Hp.unpick (ht (a' := [g]) ⟨by simp, fun g' h => .inl h, by simp, fun _ _ _ => rfl⟩ (OS.flat.2 (.inr ⟨g, pre, pDot.cells [d] ++ post, rfl, ?_, rfl⟩))) hkl
      rw [hB, Pl.cells_append]; simp
/-- A loop that is left at one place alone. -/
theorem vc_lopY {P : Program} {a : Cd} {Q : Ex → Env → St → Prop} {env : Env} {σ : St} (I : Nat → Env → St → Prop) (n j0 : Nat) (X : Env → St → Prop) (h0 : I n env σ)
    (hs : ∀ (J : Nat → Env → St → Prop) (Y : Env → St → Prop), (∀ k env σ, I k env σ → J k env σ) → (∀ env σ, X env σ → Y env σ) → ∀ k env σ, I k env σ → vc P a (fun e env' σ' => match e with | .nxt => ∃ k', k' < k ∧ J k' env' σ' | .ext j => j = j0 ∧ Y env' σ' | .ret => False) env σ)
    (hx : ∀ env σ, X env σ → Q (.ext j0) env σ) : vc P (.lop a) Q env σ := by
  refine vc_lop I n h0 fun k env σ hI => vc_mono (hs I X (fun _ _ _ h => h) (fun _ _ h => h) k env σ hI) fun e env' σ' he => ?_
  cases e with
  | nxt => exact he
  | ret => exact he.elim
  | ext j => obtain ⟨rfl, he⟩ := he; exact hx _ _ he
set_option maxHeartbeats 4000000 in
theorem i_RowDots_ret (σ : St) (cs : List GV) (s : State) (hR : kState.R σ s cs) (o : ByteArray) (hl : msState s ≤ 1099511627776) : ∃ r τ, Ret Tryz.prog n_i_RowDots [.agg cs, .str o] σ r τ ∧ Hp σ τ [ow pDot.kd r (rowD s o)] := by
  have hR0 := hR
  obtain ⟨a, b, c, v, rfl, _, _, _, hc⟩ := hR
  obtain ⟨l1, l2, l3, l4, _⟩ := msState_all hl
  refine ret_dr ir_i_RowDots (Nat.le_of_ble_eq_true rfl) ?_
  have H := ((Hp.refl σ).new 1 [a, b, c, v]).nil_Dot
  simp +contextual (maxSteps := 600000) (disch := omega) only [go_sem, Nat.reduceEqDiff, ↓reduceIte, Int.reduceEq, Int.reduceNeg, wrap_add, F_i_RowDots, ld_new, ld_new2, seg_full (cs := [a, b, c, v]) rfl]
  refine by_bool (i_StateOk_ret _ _ s (kState.pre hR0 H.sub) hl) (fun hok => ?_) (fun hok => ?_)
  rotate_left
  · have e : rowD s o = [] := by simp [rowD, hok]
    simp +contextual (maxSteps := 600000) (disch := omega) only [go_sem, Nat.reduceEqDiff, ↓reduceIte, Int.reduceEq, Int.reduceNeg, wrap_add, List.append_nil]
    exact ⟨_, rfl, by rw [e]; exact H.one⟩
  have e : rowD s o = (rowC s o).map (·.dot) := by simp [rowD, hok]
  have hcr := celR_of hok
  have hbd := rowC_len hcr o
  have hnd := hcr.nd
  rw [e]
  have H := H.nil_Cell
  simp +contextual (maxSteps := 600000) (disch := omega) only [go_sem, Nat.reduceEqDiff, ↓reduceIte, Int.reduceEq, Int.reduceNeg, wrap_add, ld_ptr (H.pt 2 rfl), hc.len]
  generalize hn1 : σ.length = n1 at *
  refine vc_forX s.cells.length 21 0 (fun i env τ => env 1 = .str o ∧ env 19 = v ∧ env 20 = gi s.cells.length ∧ ∃ u w, env 5 = u ∧ env 6 = w ∧ Hp σ τ [ow pCell.kd w ((s.cells.take i).filter (isObj o)), ow pDot.kd u [], pt 1 n1 [a, b, c, v]]) (fun env τ => ∃ u w, env 5 = u ∧ env 6 = w ∧ Hp σ τ [ow pCell.kd w (s.cells.filter (isObj o)), ow pDot.kd u [], pt 1 n1 [a, b, c, v]]) rfl ⟨rfl, rfl, rfl, _, _, rfl, rfl, H⟩ ?_ ?_ ?_
  · clear H
    rintro J Y hJ hY i env τ hi e21 c0 ⟨e1, e19, e20, u, w, e5, e6, H⟩
    have C1 := Cell_at (hc.pre H.sub) hi
    have hfl := filter_take_len s.cells (isObj o) i
    have hsn := obj_snoc (o := o) hi
    have G := H.grow (pre1 τ (some (Blk.row 1 (cellV s.cells[i]))))
    cases ho : decide (s.cells[i].obj = o) with
    | false =>
      have hk0 : isObj o s.cells[i] = false := ho
      rw [hk0, if_neg (by simp)] at hsn
      simp +contextual (maxSteps := 600000) (disch := omega) only [go_sem, Nat.reduceEqDiff, ↓reduceIte, Int.reduceEq, Int.reduceNeg, wrap_add, c0, e1, e5, e6, e19, e20, e21, C1, ho]
      refine hJ _ _ _ ⟨?_, ?_, ?_, u, w, ?_, ?_, by rw [hsn]; exact G⟩
      all_goals simp +contextual (maxSteps := 600000) (disch := omega) only [go_sem, Nat.reduceEqDiff, ↓reduceIte, Int.reduceEq, Int.reduceNeg, wrap_add, e1, e5, e6, e19, e20, e21]
    | true =>
      have hk0 : isObj o s.cells[i] = true := ho
      rw [hk0, if_pos rfl] at hsn
      obtain ⟨w', τ3, e8, H3⟩ := G.app_Cell 0 rfl s.cells[i] (by omega)
      simp +contextual (maxSteps := 600000) (disch := omega) only [go_sem, Nat.reduceEqDiff, ↓reduceIte, Int.reduceEq, Int.reduceNeg, wrap_add, c0, e1, e5, e6, e19, e20, e21, C1, ho, e8]
      refine hJ _ _ _ ⟨?_, ?_, ?_, u, w', ?_, ?_, by rw [hsn]; exact H3⟩
      all_goals simp +contextual (maxSteps := 600000) (disch := omega) only [go_sem, Nat.reduceEqDiff, ↓reduceIte, Int.reduceEq, Int.reduceNeg, wrap_add, e1, e5, e6, e19, e20, e21]
  · clear H
    rintro Y hY env τ e21 c0 ⟨e1, e19, e20, u, w, e5, e6, H⟩
    rw [List.take_length] at H
    simp +contextual (maxSteps := 600000) (disch := omega) only [go_sem, Nat.reduceEqDiff, ↓reduceIte, Int.reduceEq, Int.reduceNeg, wrap_add, c0, e1, e5, e6, e19, e20, e21]
    refine hY _ _ ⟨u, w, ?_, ?_, H⟩
    all_goals simp +contextual (maxSteps := 600000) (disch := omega) only [go_sem, Nat.reduceEqDiff, ↓reduceIte, Int.reduceEq, Int.reduceNeg, wrap_add, e5, e6]
  clear H
  rintro env τ ⟨u, w, e5, e6, H⟩
  have hfl := List.length_filter_le (isObj o) s.cells
  obtain ⟨τ1, R1, H⟩ := slices_SortFunc_Cell_ret H 0 rfl (by omega) (hnd.sublist ((List.filter_sublist).map _))
  simp +contextual (maxSteps := 600000) (disch := omega) only [go_sem, Nat.reduceEqDiff, ↓reduceIte, Int.reduceEq, Int.reduceNeg, wrap_add, e5, e6]
  refine by_mut R1 ?_
  have H : Hp σ τ1 [ow pCell.kd w (objC s.cells o), ow pDot.kd u [], pt 1 n1 [a, b, c, v]] := H
  have H := (H.new 2 [gi 0, gi 0]).toRow (p := pDot) 0 rfl [⟨0, 0⟩] rfl rfl 1 rfl
  have H : Hp σ _ [ow pDot.kd (.sl τ1.length 0 1) [⟨0, 0⟩], ow pCell.kd w (objC s.cells o), ow pDot.kd u [], pt 1 n1 [a, b, c, v]] := H
  simp +contextual (maxSteps := 600000) (disch := omega) only [go_sem, Nat.reduceEqDiff, ↓reduceIte, Int.reduceEq, Int.reduceNeg, wrap_add, e5, e6]
  obtain ⟨hz1, hz2⟩ := adq_zero hcr o
  have hnz : ∀ c ∈ objC s.cells o, c.dot ≠ ⟨0, 0⟩ := fun c hcm h0 => by
    have := hcr.dot c (objC_mem.1 hcm).1
    rw [h0, zero_notOk] at this; cases this
  have hscl := objC_len s.cells o
  have htot : stackD (objC s.cells o) [⟨0, 0⟩] = (rowC s o).map (·.dot) := by
    simp [stackD, selfD, isZ, rowC]
  have hM0 : stackM (objC s.cells o) [⟨0, 0⟩] = 1 + (rowC s o).length := by simp [stackM, rowC]
  generalize hT : rowC s o = T at *
  generalize hsc : objC s.cells o = sc at *
  refine vc_lopY (fun n env τ => ∃ (ws ud : GV) (S D : List Dot), env 5 = ud ∧ env 6 = w ∧ env 9 = ws ∧ stackM sc S = n ∧ n ≤ 1 + T.length ∧ (∀ d ∈ S, Adq sc fuel d) ∧ D ++ stackD sc S = T.map (·.dot) ∧ Hp σ τ [ow pDot.kd ws S, ow pCell.kd w sc, ow pDot.kd ud D, pt 1 n1 [a, b, c, v]]) (1 + T.length) 2 (fun env τ => ∃ ud, env 5 = ud ∧ Hp σ τ [ow pDot.kd ud (T.map (·.dot))]) ⟨_, u, [⟨0, 0⟩], [], by simp +contextual (maxSteps := 600000) (disch := omega) only [go_sem, Nat.reduceEqDiff, ↓reduceIte, Int.reduceEq, Int.reduceNeg, wrap_add, e5], by simp +contextual (maxSteps := 600000) (disch := omega) only [go_sem, Nat.reduceEqDiff, ↓reduceIte, Int.reduceEq, Int.reduceNeg, wrap_add, e6], rfl, hM0, Nat.le_refl _, fun d hd => by rw [List.mem_singleton.1 hd]; exact hz1, by rw [htot]; rfl, H⟩ ?_ ?_
  · clear H e5 e6
    rintro J Y hJ hY n env τ ⟨ws, ud, S, D, e5, e6, e9, hn, hnT, hA, hE, H⟩
    have hSl := stackM_len (sc := sc) S
    have hDl := congrArg List.length hE
    simp only [List.length_append, List.length_map] at hDl
    rcases List.eq_nil_or_concat S with rfl | ⟨S0, d, rfl⟩
    · have hlenS : lenG false ws = some 0 := (H.sl 0 rfl).len
      have c0 : decide ((0 : Int) < 0) = false := rfl
      simp +contextual (maxSteps := 600000) (disch := omega) only [go_sem, Nat.reduceEqDiff, ↓reduceIte, Int.reduceEq, Int.reduceNeg, wrap_add, e5, e6, e9, hlenS, c0]
      refine hY _ _ ⟨ud, ?_, ?_⟩
      · simp +contextual (maxSteps := 600000) (disch := omega) only [go_sem, Nat.reduceEqDiff, ↓reduceIte, Int.reduceEq, Int.reduceNeg, wrap_add, e5]
      · have : D = T.map (·.dot) := by rw [← hE]; simp [stackD]
        rw [← this]
        exact (H.pick 2 rfl).one
    · rw [List.concat_eq_append] at *
      have hdA := hA d (by simp)
      have hlenS : lenG false ws = some ((S0.length : Int) + 1) := by
        have := (H.sl 0 rfl).len
        rw [this]; simp
      have c0 : decide ((0 : Int) < (S0.length : Int) + 1) = true := decide_eq_true (by omega)
      have hl1 : (S0.length : Int) + 1 - 1 = (S0.length : Int) := by omega
      have hSl0 : S0.length + 1 ≤ 1 + T.length := by simp only [List.length_append, List.length_cons, List.length_nil] at hSl; omega
      have C1 := Dot_at (H.sl 0 rfl) (i := S0.length) (by simp)
      have hgd : (S0 ++ [d])[S0.length]'(by simp) = d := by simp
      rw [hgd] at C1
      have hpop := stackD_pop (S := S0) hdA hnz
      have hmp := stackM_pop (S := S0) hdA
      rw [hpop] at hE
      rw [hmp] at hn
      have hA2 : ∀ x ∈ S0 ++ ((sc.filter (isRef d)).map (·.dot)).reverse, Adq sc fuel x := fun x hx => by
        rcases List.mem_append.1 hx with h | h
        · exact hA x (by simp [h])
        · obtain ⟨y, hy, rfl⟩ := List.mem_map.1 (List.mem_reverse.1 h)
          exact hz2 y (List.mem_filter.1 hy).1
      obtain ⟨g, off, rfl, hzk, HN⟩ := (H.new 1 [gi d.rep, gi d.seq]).popDot 1 rfl
      have HN : Hp σ _ [pt 1 τ.length [gi d.rep, gi d.seq], ow pDot.kd (.sl g off S0.length) S0, ow pCell.kd w sc, ow pDot.kd ud D, pt 1 n1 [a, b, c, v]] := HN
      have hcut := cutHi (z := 2) (g := g) (off := off) (n := S0.length + 1) (k := S0.length) (by omega)
      have hlenC := (HN.sl 2 rfl).len
      have hlD := (HN.pt 0 rfl)
      cases hz : decide (d = ⟨0, 0⟩) with
      | true =>
        have hse : selfD d = [] := by unfold selfD; rw [if_pos (show isZ d = true from hz)]
        rw [hse, List.nil_append] at hE
        simp +contextual (maxSteps := 600000) (disch := omega) only [go_sem, Nat.reduceEqDiff, ↓reduceIte, Int.reduceEq, Int.reduceNeg, wrap_add, e5, e6, e9, hlenS, c0, hl1, natOf_nat, C1, hzk, hcut, ld_ptr hlD, hz, hlenC, Option.map_none, Option.map_some]
        generalize hnb : τ.length = nb at *
        refine vc_lopY (fun n env τ => ∃ (m : Nat) (wz : GV), env 5 = ud ∧ env 6 = w ∧ env 9 = wz ∧ env 10 = .ptr nb 0 ∧ env 11 = gi ((m : Int) - 1) ∧ m = n ∧ m ≤ sc.length ∧ Hp σ τ [pt 1 nb [gi d.rep, gi d.seq], ow pDot.kd wz (S0 ++ (((sc.drop m).filter (isRef d)).map (·.dot)).reverse), ow pCell.kd w sc, ow pDot.kd ud D, pt 1 n1 [a, b, c, v]]) sc.length 4 (fun env τ => ∃ (wz : GV), env 5 = ud ∧ env 6 = w ∧ env 9 = wz ∧ Hp σ τ [pt 1 nb [gi d.rep, gi d.seq], ow pDot.kd wz (S0 ++ ((sc.filter (isRef d)).map (·.dot)).reverse), ow pCell.kd w sc, ow pDot.kd ud D, pt 1 n1 [a, b, c, v]]) ⟨sc.length, .sl g off S0.length, by simp +contextual (maxSteps := 600000) (disch := omega) only [go_sem, Nat.reduceEqDiff, ↓reduceIte, Int.reduceEq, Int.reduceNeg, wrap_add, e5], by simp +contextual (maxSteps := 600000) (disch := omega) only [go_sem, Nat.reduceEqDiff, ↓reduceIte, Int.reduceEq, Int.reduceNeg, wrap_add, e6], by simp +contextual (maxSteps := 600000) (disch := omega) only [go_sem, Nat.reduceEqDiff, ↓reduceIte, Int.reduceEq, Int.reduceNeg, wrap_add, List.append_nil], by simp +contextual (maxSteps := 600000) (disch := omega) only [go_sem, Nat.reduceEqDiff, ↓reduceIte, Int.reduceEq, Int.reduceNeg, wrap_add, List.append_nil], by simp +contextual (maxSteps := 600000) (disch := omega) only [go_sem, Nat.reduceEqDiff, ↓reduceIte, Int.reduceEq, Int.reduceNeg, wrap_add, List.append_nil], rfl, Nat.le_refl _, by simp only [List.drop_length, List.filter_nil, List.map_nil, List.reverse_nil, List.append_nil]; exact HN⟩ ?_ ?_
        · clear H HN e5 e6 e9 hlD hzk
          rintro J2 Y2 hJ2 hY2 n2 env τ ⟨m, wz, e5, e6, e9, e10, e11, hn2, hm, HN⟩
          have hfd := List.length_filter_le (isRef d) (sc.drop m)
          rw [List.length_drop] at hfd
          cases m with
          | zero =>
            have e11 : env 11 = gi (-1) := e11
            have c1 : decide ((0 : Int) ≤ -1) = false := rfl
            rw [List.drop_zero] at HN
            simp +contextual (maxSteps := 600000) (disch := omega) only [go_sem, Nat.reduceEqDiff, ↓reduceIte, Int.reduceEq, Int.reduceNeg, wrap_add, e5, e6, e9, e10, e11, c1]
            refine hY2 _ _ ⟨wz, ?_, ?_, ?_, HN⟩
            all_goals simp +contextual (maxSteps := 600000) (disch := omega) only [go_sem, Nat.reduceEqDiff, ↓reduceIte, Int.reduceEq, Int.reduceNeg, wrap_add, e5, e6, e9]
          | succ j =>
            have e11 : env 11 = gi (j : Int) := by rw [e11]; congr 1; omega
            have c1 : decide ((0 : Int) ≤ j) = true := by simp
            have C2 := Cell_at (HN.sl 2 rfl) (i := j) (by omega)
            have hdr := dot_row d (l := sc) (j := j) (by omega)
            cases hr : decide (sc[j].ref = d) with
            | false =>
              have hk0 : isRef d sc[j] = false := hr
              rw [hk0, if_neg (by simp)] at hdr
              simp +contextual (maxSteps := 600000) (disch := omega) only [go_sem, Nat.reduceEqDiff, ↓reduceIte, Int.reduceEq, Int.reduceNeg, wrap_add, e5, e6, e9, e10, e11, c1, natOf_nat, C2, ld_ptr (HN.pt 0 rfl), hr]
              refine ⟨j, by omega, hJ2 _ _ _ ⟨j, wz, ?_, ?_, ?_, ?_, ?_, rfl, by omega, by rw [hdr]; exact HN⟩⟩
              all_goals simp +contextual (maxSteps := 600000) (disch := omega) only [go_sem, Nat.reduceEqDiff, ↓reduceIte, Int.reduceEq, Int.reduceNeg, wrap_add, e5, e6, e9, e10, e11]
            | true =>
              have hk0 : isRef d sc[j] = true := hr
              rw [hk0, if_pos rfl] at hdr
              obtain ⟨w2, τ4, e7, H4⟩ := HN.app_Dot 1 rfl sc[j].dot (by simp only [List.length_append, List.length_reverse, List.length_map]; omega)
              simp +contextual (maxSteps := 600000) (disch := omega) only [go_sem, Nat.reduceEqDiff, ↓reduceIte, Int.reduceEq, Int.reduceNeg, wrap_add, e5, e6, e9, e10, e11, c1, natOf_nat, C2, ld_ptr (HN.pt 0 rfl), hr, e7]
              refine ⟨j, by omega, hJ2 _ _ _ ⟨j, w2, ?_, ?_, ?_, ?_, ?_, rfl, by omega, ?_⟩⟩
              all_goals first | (simp +contextual (maxSteps := 600000) (disch := omega) only [go_sem, Nat.reduceEqDiff, ↓reduceIte, Int.reduceEq, Int.reduceNeg, wrap_add, e5, e6, e9, e10, e11]; done) | skip
              rw [hdr, List.map_cons, List.reverse_cons, ← List.append_assoc]
              exact H4
        · clear H HN e5 e6 e9 hlD hzk
          rintro env τ ⟨wz, e5, e6, e9, HN⟩
          simp +contextual (maxSteps := 600000) (disch := omega) only [go_sem, Nat.reduceEqDiff, ↓reduceIte, Int.reduceEq, Int.reduceNeg, wrap_add, e5, e6, e9]
          refine ⟨n - 1, by omega, hJ _ _ _ ⟨wz, ud, _, D, ?_, ?_, ?_, by omega, ?_, hA2, hE, HN.drop1⟩⟩
          all_goals first | (simp +contextual (maxSteps := 600000) (disch := omega) only [go_sem, Nat.reduceEqDiff, ↓reduceIte, Int.reduceEq, Int.reduceNeg, wrap_add, e5, e6, e9]; done) | omega
      | false =>
        have hse : selfD d = [d] := by unfold selfD; rw [if_neg (by rw [isZ, hz]; simp)]
        rw [hse, ← List.append_assoc] at hE
        obtain ⟨ud2, τ3, e8, HN⟩ := HN.app_Dot 3 rfl d (by omega)
        have HN : Hp σ τ3 [pt 1 τ.length [gi d.rep, gi d.seq], ow pDot.kd (.sl g off S0.length) S0, ow pCell.kd w sc, ow pDot.kd ud2 (D ++ [d]), pt 1 n1 [a, b, c, v]] := HN
        generalize hDD : D ++ [d] = D2 at *
        simp +contextual (maxSteps := 600000) (disch := omega) only [go_sem, Nat.reduceEqDiff, ↓reduceIte, Int.reduceEq, Int.reduceNeg, wrap_add, e5, e6, e9, hlenS, c0, hl1, natOf_nat, C1, hzk, hcut, ld_ptr hlD, hz, hlenC, e8, Option.map_none, Option.map_some]
        generalize hnb : τ.length = nb at *
        refine vc_lopY (fun n env τ => ∃ (m : Nat) (wz : GV), env 5 = ud2 ∧ env 6 = w ∧ env 9 = wz ∧ env 10 = .ptr nb 0 ∧ env 11 = gi ((m : Int) - 1) ∧ m = n ∧ m ≤ sc.length ∧ Hp σ τ [pt 1 nb [gi d.rep, gi d.seq], ow pDot.kd wz (S0 ++ (((sc.drop m).filter (isRef d)).map (·.dot)).reverse), ow pCell.kd w sc, ow pDot.kd ud2 D2, pt 1 n1 [a, b, c, v]]) sc.length 4 (fun env τ => ∃ (wz : GV), env 5 = ud2 ∧ env 6 = w ∧ env 9 = wz ∧ Hp σ τ [pt 1 nb [gi d.rep, gi d.seq], ow pDot.kd wz (S0 ++ ((sc.filter (isRef d)).map (·.dot)).reverse), ow pCell.kd w sc, ow pDot.kd ud2 D2, pt 1 n1 [a, b, c, v]]) ⟨sc.length, .sl g off S0.length, by simp +contextual (maxSteps := 600000) (disch := omega) only [go_sem, Nat.reduceEqDiff, ↓reduceIte, Int.reduceEq, Int.reduceNeg, wrap_add, e5], by simp +contextual (maxSteps := 600000) (disch := omega) only [go_sem, Nat.reduceEqDiff, ↓reduceIte, Int.reduceEq, Int.reduceNeg, wrap_add, e6], by simp +contextual (maxSteps := 600000) (disch := omega) only [go_sem, Nat.reduceEqDiff, ↓reduceIte, Int.reduceEq, Int.reduceNeg, wrap_add, List.append_nil], by simp +contextual (maxSteps := 600000) (disch := omega) only [go_sem, Nat.reduceEqDiff, ↓reduceIte, Int.reduceEq, Int.reduceNeg, wrap_add, List.append_nil], by simp +contextual (maxSteps := 600000) (disch := omega) only [go_sem, Nat.reduceEqDiff, ↓reduceIte, Int.reduceEq, Int.reduceNeg, wrap_add, List.append_nil], rfl, Nat.le_refl _, by simp only [List.drop_length, List.filter_nil, List.map_nil, List.reverse_nil, List.append_nil]; exact HN⟩ ?_ ?_
        · clear H HN e5 e6 e9 hlD hzk
          rintro J2 Y2 hJ2 hY2 n2 env τ ⟨m, wz, e5, e6, e9, e10, e11, hn2, hm, HN⟩
          have hfd := List.length_filter_le (isRef d) (sc.drop m)
          rw [List.length_drop] at hfd
          cases m with
          | zero =>
            have e11 : env 11 = gi (-1) := e11
            have c1 : decide ((0 : Int) ≤ -1) = false := rfl
            rw [List.drop_zero] at HN
            simp +contextual (maxSteps := 600000) (disch := omega) only [go_sem, Nat.reduceEqDiff, ↓reduceIte, Int.reduceEq, Int.reduceNeg, wrap_add, e5, e6, e9, e10, e11, c1]
            refine hY2 _ _ ⟨wz, ?_, ?_, ?_, HN⟩
            all_goals simp +contextual (maxSteps := 600000) (disch := omega) only [go_sem, Nat.reduceEqDiff, ↓reduceIte, Int.reduceEq, Int.reduceNeg, wrap_add, e5, e6, e9]
          | succ j =>
            have e11 : env 11 = gi (j : Int) := by rw [e11]; congr 1; omega
            have c1 : decide ((0 : Int) ≤ j) = true := by simp
            have C2 := Cell_at (HN.sl 2 rfl) (i := j) (by omega)
            have hdr := dot_row d (l := sc) (j := j) (by omega)
            cases hr : decide (sc[j].ref = d) with
            | false =>
              have hk0 : isRef d sc[j] = false := hr
              rw [hk0, if_neg (by simp)] at hdr
              simp +contextual (maxSteps := 600000) (disch := omega) only [go_sem, Nat.reduceEqDiff, ↓reduceIte, Int.reduceEq, Int.reduceNeg, wrap_add, e5, e6, e9, e10, e11, c1, natOf_nat, C2, ld_ptr (HN.pt 0 rfl), hr]
              refine ⟨j, by omega, hJ2 _ _ _ ⟨j, wz, ?_, ?_, ?_, ?_, ?_, rfl, by omega, by rw [hdr]; exact HN⟩⟩
              all_goals simp +contextual (maxSteps := 600000) (disch := omega) only [go_sem, Nat.reduceEqDiff, ↓reduceIte, Int.reduceEq, Int.reduceNeg, wrap_add, e5, e6, e9, e10, e11]
            | true =>
              have hk0 : isRef d sc[j] = true := hr
              rw [hk0, if_pos rfl] at hdr
              obtain ⟨w2, τ4, e7, H4⟩ := HN.app_Dot 1 rfl sc[j].dot (by simp only [List.length_append, List.length_reverse, List.length_map]; omega)
              simp +contextual (maxSteps := 600000) (disch := omega) only [go_sem, Nat.reduceEqDiff, ↓reduceIte, Int.reduceEq, Int.reduceNeg, wrap_add, e5, e6, e9, e10, e11, c1, natOf_nat, C2, ld_ptr (HN.pt 0 rfl), hr, e7]
              refine ⟨j, by omega, hJ2 _ _ _ ⟨j, w2, ?_, ?_, ?_, ?_, ?_, rfl, by omega, ?_⟩⟩
              all_goals first | (simp +contextual (maxSteps := 600000) (disch := omega) only [go_sem, Nat.reduceEqDiff, ↓reduceIte, Int.reduceEq, Int.reduceNeg, wrap_add, e5, e6, e9, e10, e11]; done) | skip
              rw [hdr, List.map_cons, List.reverse_cons, ← List.append_assoc]
              exact H4
        · clear H HN e5 e6 e9 hlD hzk
          rintro env τ ⟨wz, e5, e6, e9, HN⟩
          simp +contextual (maxSteps := 600000) (disch := omega) only [go_sem, Nat.reduceEqDiff, ↓reduceIte, Int.reduceEq, Int.reduceNeg, wrap_add, e5, e6, e9]
          refine ⟨n - 1, by omega, hJ _ _ _ ⟨wz, ud2, _, D2, ?_, ?_, ?_, by omega, ?_, hA2, hE, HN.drop1⟩⟩
          all_goals first | (simp +contextual (maxSteps := 600000) (disch := omega) only [go_sem, Nat.reduceEqDiff, ↓reduceIte, Int.reduceEq, Int.reduceNeg, wrap_add, e5, e6, e9]; done) | omega
  · clear H e5 e6
    rintro env τ ⟨ud, e5, H⟩
    simp +contextual (maxSteps := 600000) (disch := omega) only [go_sem, Nat.reduceEqDiff, ↓reduceIte, Int.reduceEq, Int.reduceNeg, wrap_add, e5]
    exact ⟨_, rfl, H⟩
end Go.Proofs.YtffnefmklckngaaGreat.Sy

/- Contracts: whose hand it was, in a row. -/
namespace Go.Proofs.YtffnefmklckngaaGreat.Sy
open Go Go.RowKit
set_option linter.unusedSimpArgs false
set_option linter.unusedVariables false
set_option maxRecDepth 4000
abbrev n_i_rowCells : Nat := 134
def F_i_rowCells : Fn1 := ⟨34, [.t 4], (.seq (.reg [o 2 (.box (.t 0)), o 4 (.mov (.k .nilS))]) (.seq (.reg [o 9 (.lit 8 0 [] []), o 5 (.mov (.t 9))]) (.seq (.seq (.reg [o 10 (.ld true 4 (.t 2)), o 11 (.mov (.t 1)), o 12 (.call 193 [(.t 10), (.t 11)]), o 13 (.len false (.t 12)), o 14 (.mov (.k (.int .i64 0)))]) (.blk 0 (.lop (.seq (.reg [o 15 (.bin .lss (.t 14) (.t 13))]) (.seq (.cnd (.t 15) .skip (.ext 0)) (.seq (.blk 1 (.seq (.reg [o 16 (.iad 2 (.t 12) (.t 14)), o 17 (.ld true 2 (.t 16)), o 7 (.new [(.int .i64 0), (.int .i64 0)]), on (.st 2 (.t 7) (.t 17))]) (.seq (.drw [o 18 (.fad 3 (.t 2)), o 19 (.ld false 1 (.t 18)), o 20 (.ld true 4 (.t 2)), o 21 (.ld true 2 (.t 7)), o 22 (.call 152 [(.t 20), (.t 21)]), o 23 (.iad 8 (.t 19) (.t 22)), o 24 (.ld true 8 (.t 23)), o 8 (.new [(.str ⟨#[]⟩), (.int .i64 0), (.int .i64 0), (.int .i64 0), (.int .i64 0), (.int .i64 0), (.int .i64 0), (.bool false)])] [on (.st 8 (.t 8) (.t 24))]) (.seq (.reg [o 25 (.fad 7 (.t 8)), o 26 (.ld false 1 (.t 25)), o 27 (.un .not (.t 26))]) (.cnd (.t 27) (.reg [o 28 (.mov (.t 5)), o 29 (.ld true 8 (.t 8)), o 30 (.lit 8 1 [(.str ⟨#[]⟩), (.int .i64 0), (.int .i64 0), (.int .i64 0), (.int .i64 0), (.int .i64 0), (.int .i64 0), (.bool false)] [(0, 8, (.t 29))]), o 31 (.app 8 72 [(.str ⟨#[]⟩), (.int .i64 0), (.int .i64 0), (.int .i64 0), (.int .i64 0), (.int .i64 0), (.int .i64 0), (.bool false)] (.t 28) (.t 30)), o 5 (.mov (.t 31))]) .skip))))) (.reg [o 32 (.bin .add (.t 14) (.k (.int .i64 1))), o 14 (.mov (.t 32))]))))))) (.seq (.reg [o 33 (.mov (.t 5)), o 4 (.mov (.t 33))]) .ret))))⟩
theorem ir_i_rowCells : compFn Tryz.prog n_i_rowCells = some F_i_rowCells := by kernel_rfl
def goneNot (c : Cell) : Bool := !c.gone
theorem rowT (s : State) (o : ByteArray) : ∃ T : List Cell, rowD s o = T.map (·.dot) ∧ rowL s o = T.filter goneNot ∧ T.length ≤ 1200120 ∧ ∀ c ∈ T, ∃ k, ∃ hk : k < s.cells.length, cellNo s.cells c.dot = k ∧ s.cells[k] = c := by
  cases h : stateOk s with
  | true =>
    refine ⟨rowC s o, by simp [rowD, h], by simp only [rowL, h, if_true]; rfl, rowC_len (celR_of h) o, fun c hc => ?_⟩
    obtain ⟨k, hk, h1, h2⟩ := rowD_cell h hc
    exact ⟨k, hk, by simp [cellNo, h1], h2⟩
  | false => exact ⟨[], by simp [rowD, h], by simp [rowL, h], by simp, fun c hc => by simp at hc⟩
theorem gone_snoc {l : List Cell} {i : Nat} (hi : i < l.length) : (l.take (i + 1)).filter goneNot = if goneNot l[i] then (l.take i).filter goneNot ++ [l[i]] else (l.take i).filter goneNot := by
  rw [filter_snoc' hi]
  split <;> simp
theorem i_rowCells_ret (σ : St) (cs : List GV) (s : State) (hR : kState.R σ s cs) (o : ByteArray) (hl : msState s ≤ 1099511627776) : ∃ r τ, Ret Tryz.prog n_i_rowCells [.agg cs, .str o] σ r τ ∧ Hp σ τ [ow pCell.kd r (rowL s o)] := by
  have hR0 := hR
  obtain ⟨a, b, c, v, rfl, _, _, _, hc⟩ := hR
  obtain ⟨l1, l2, l3, l4, _⟩ := msState_all hl
  refine ret_dr ir_i_rowCells (Nat.le_of_ble_eq_true rfl) ?_
  have H := ((Hp.refl σ).new 1 [a, b, c, v]).nil_Cell
  simp +contextual (maxSteps := 600000) (disch := omega) only [go_sem, Nat.reduceEqDiff, ↓reduceIte, Int.reduceEq, Int.reduceNeg, wrap_add, F_i_rowCells, ld_new, ld_new2, seg_full (cs := [a, b, c, v]) rfl]
  obtain ⟨r1, τ1, R1, K1⟩ := i_RowDots_ret _ _ s (kState.pre hR0 H.sub) o hl
  obtain ⟨T, hT1, hT2, hT3, hT4⟩ := rowT s o
  rw [hT1] at K1
  rw [hT2]
  refine by_hp R1 K1 ?_
  have H := H.add K1
  simp only [List.cons_append, List.nil_append] at H
  have hlen0 := (H.sl 0 rfl).len
  rw [List.length_map] at hlen0
  simp +contextual (maxSteps := 600000) (disch := omega) only [go_sem, Nat.reduceEqDiff, ↓reduceIte, Int.reduceEq, Int.reduceNeg, wrap_add, hlen0]
  generalize hn1 : σ.length = n1 at *
  refine vc_forJ T.length 14 (fun i env τ => env 2 = .ptr n1 0 ∧ env 12 = r1 ∧ env 13 = gi T.length ∧ ∃ u, env 5 = u ∧ Hp σ τ [ow pCell.kd u ((T.take i).filter goneNot), ow pDot.kd r1 (T.map fun x : Cell => x.dot), pt 1 n1 [a, b, c, v]]) rfl ⟨rfl, rfl, rfl, _, rfl, H.pick 1 rfl⟩ ?_ ?_
  · clear H
    rintro J hJ i env τ hi e14 c0 ⟨e2, e12, e13, u, e5, H⟩
    have hfl := filter_take_len T goneNot i
    have hsn := gone_snoc hi
    have C1 := Dot_at (H.sl 1 rfl) (i := i) (by simpa using hi)
    rw [List.getElem_map] at C1
    obtain ⟨k, hk, hk1, hk2⟩ := hT4 T[i] (List.getElem_mem hi)
    have G := H.grow (pre1 τ (some (Blk.row 1 [gi T[i].dot.rep, gi T[i].dot.seq])))
    have CA := i_CellAt_ret _ _ s (kState.pre hR0 G.sub) T[i].dot hl
    rw [hk1] at CA
    have C2 := Cell_at (hc.pre G.sub) hk
    rw [hk2] at C2
    simp +contextual (maxSteps := 600000) (disch := omega) only [go_sem, Nat.reduceEqDiff, ↓reduceIte, Int.reduceEq, Int.reduceNeg, wrap_add, c0, e2, e5, e12, e13, e14, C1, ld_ptr (G.pt 2 rfl), seg_full (cs := [a, b, c, v]) rfl]
    refine by_ret CA ?_
    cases hg : T[i].gone with
    | true =>
      have hk0 : goneNot T[i] = false := by simp [goneNot, hg]
      rw [hk0, if_neg (by simp)] at hsn
      have G2 := G.grow (pre1 _ (some (Blk.row 1 [.str T[i].obj, gi T[i].dot.rep, gi T[i].dot.seq, gi T[i].time, gi T[i].ref.rep, gi T[i].ref.seq, gi T[i].val, .bool true])))
      simp +contextual (maxSteps := 600000) (disch := omega) only [go_sem, Nat.reduceEqDiff, ↓reduceIte, Int.reduceEq, Int.reduceNeg, wrap_add, c0, e2, e5, e12, e13, e14, natOf_nat, C2, hg]
      refine hJ _ _ _ ⟨?_, ?_, ?_, u, ?_, by rw [hsn]; exact G2⟩
      all_goals simp +contextual (maxSteps := 600000) (disch := omega) only [go_sem, Nat.reduceEqDiff, ↓reduceIte, Int.reduceEq, Int.reduceNeg, wrap_add, e2, e5, e12, e13, e14]
    | false =>
      have hk0 : goneNot T[i] = true := by simp [goneNot, hg]
      rw [hk0, if_pos rfl] at hsn
      have G2 := G.grow (pre1 _ (some (Blk.row 1 [.str T[i].obj, gi T[i].dot.rep, gi T[i].dot.seq, gi T[i].time, gi T[i].ref.rep, gi T[i].ref.seq, gi T[i].val, .bool false])))
      obtain ⟨w', τ3, e8, H3⟩ := G2.app_Cell 0 rfl T[i] (by omega)
      simp only [hg] at e8
      simp +contextual (maxSteps := 600000) (disch := omega) only [go_sem, Nat.reduceEqDiff, ↓reduceIte, Int.reduceEq, Int.reduceNeg, wrap_add, c0, e2, e5, e12, e13, e14, natOf_nat, C2, hg, e8]
      refine hJ _ _ _ ⟨?_, ?_, ?_, w', ?_, by rw [hsn]; exact H3⟩
      all_goals simp +contextual (maxSteps := 600000) (disch := omega) only [go_sem, Nat.reduceEqDiff, ↓reduceIte, Int.reduceEq, Int.reduceNeg, wrap_add, e2, e5, e12, e13, e14]
  · clear H
    rintro env τ e14 c0 ⟨e2, e12, e13, u, e5, H⟩
    rw [List.take_length] at H
    simp +contextual (maxSteps := 600000) (disch := omega) only [go_sem, Nat.reduceEqDiff, ↓reduceIte, Int.reduceEq, Int.reduceNeg, wrap_add, c0, e2, e5, e12, e13, e14]
    exact ⟨_, rfl, H.one⟩
end Go.Proofs.YtffnefmklckngaaGreat.Sy

/- Sorts: by insertion. -/
namespace Go.Proofs.YtffnefmklckngaaGreat.Sy.O
open Go Go.RowKit Go.Proofs.YtffnefmklckngaaGreat.Sy Go.Sort
set_option linter.unusedSimpArgs false
set_option linter.unusedVariables false
set_option maxRecDepth 4000
variable {α : Type} [Inhabited α] {lt : α → α → Bool} {σ0 σ : St} {rs : List Thg} {k : Nat} {v : GV} {d : Array α}
theorem ins_ret (S : SrtO α lt) (H : Holds S.e σ0 σ rs k v d) {a b : Nat} (hab : a ≤ b) (hb : b ≤ d.size) (hs : d.size ≤ 1099511627776) : ∃ τ, Ret Tryz.prog S.q.insertionSort [v, gi a, gi b] σ (.tup []) τ ∧ Holds S.e σ0 τ rs k v (insertionSort lt d a b) := by
  have key : ∃ r τ, Ret Tryz.prog S.q.insertionSort [v, gi a, gi b] σ r τ ∧ r = .tup [] ∧ Holds S.e σ0 τ rs k v (insertionSort lt d a b) := by
    refine ret_mut S.h_insertionSort (Nat.le_of_ble_eq_true rfl) ?_
    simp +contextual (maxSteps := 600000) (disch := omega) only [go_sem, Nat.reduceEqDiff, ↓reduceIte, Int.reduceEq, Int.reduceNeg, wrap_add, G_insertionSort_o]
    refine vc_lopJ (fun n env τ => ∃ (i : Nat) (D : Array α), env 0 = v ∧ env 1 = gi a ∧ env 2 = gi b  ∧ env 6 = gi i ∧ b - i = n ∧ a < i ∧ D.size = d.size ∧ σ.length ≤ τ.length ∧ Holds S.e σ0 τ rs k v D ∧ insOuter lt a b i D = insertionSort lt d a b) (b - (a + 1)) ⟨a + 1, d, rfl, rfl, rfl, rfl, rfl, by omega, rfl, Nat.le_refl _, H, rfl⟩ ?_
    rintro J hJ n env τ ⟨i, D, e0, e1, e2, ei, hn, hai, hD, hle, hH, hE⟩
    rw [insOuter] at hE
    rcases Nat.lt_or_ge i b with hi | hi
    · rw [if_pos hi] at hE
      have c0 : decide ((i : Int) < b) = true := by simp; omega
      simp +contextual (maxSteps := 600000) (disch := omega) only [go_sem, Nat.reduceEqDiff, ↓reduceIte, Int.reduceEq, Int.reduceNeg, wrap_add, e0, e1, e2, ei, c0]
      refine vc_lopJ (fun n env τ => ∃ (j : Nat) (E : Array α), env 0 = v ∧ env 1 = gi a ∧ env 2 = gi b  ∧ env 6 = gi i ∧ env 7 = gi j ∧ j = n ∧ j ≤ i ∧ E.size = d.size ∧ σ.length ≤ τ.length ∧ Holds S.e σ0 τ rs k v E ∧ insInner lt a j E = insInner lt a i D) i ⟨i, D, by simp +contextual (maxSteps := 600000) (disch := omega) only [go_sem, Nat.reduceEqDiff, ↓reduceIte, Int.reduceEq, Int.reduceNeg, wrap_add, e0], by simp +contextual (maxSteps := 600000) (disch := omega) only [go_sem, Nat.reduceEqDiff, ↓reduceIte, Int.reduceEq, Int.reduceNeg, wrap_add, e1], by simp +contextual (maxSteps := 600000) (disch := omega) only [go_sem, Nat.reduceEqDiff, ↓reduceIte, Int.reduceEq, Int.reduceNeg, wrap_add, e2], by simp +contextual (maxSteps := 600000) (disch := omega) only [go_sem, Nat.reduceEqDiff, ↓reduceIte, Int.reduceEq, Int.reduceNeg, wrap_add, ei], rfl, rfl, Nat.le_refl _, hD, hle, hH, rfl⟩ ?_
      clear hH hle e0 e1 e2 ei
      rintro J2 hJ2 n2 env τ ⟨j, E, e0, e1, e2, ei, ej, hnj, hji, hE2, hle, hH, hI⟩
      have fin : ∀ env', env' 0 = v → env' 1 = gi a → env' 2 = gi b → env' 6 = gi ((i : Int) + 1) → insInner lt a i D = E → ∃ k', k' < n ∧ J k' env' τ := fun env' h0 h1 h2 h6 hEq => ⟨b - (i + 1), by omega, hJ _ _ _ ⟨i + 1, E, h0, h1, h2, h6, rfl, by omega, hE2, hle, hH, by rw [← hEq]; exact hE⟩⟩
      have cj : decide ((a : Int) < j) = decide (a < j) := by simp
      by_cases hc : a < j
      · obtain ⟨m, rfl⟩ : ∃ m, j = m + 1 := ⟨j - 1, by omega⟩
        rw [decide_eq_true hc] at cj
        have cj : decide ((a : Int) < (m : Int) + 1) = true := cj
        have n1 : natOf (some (.int .i64 ((m : Int) + 1))) = some (m + 1) := natOf_of (by simp)
        have m1 : (m : Int) + 1 - 1 = m := by omega
        obtain ⟨τ1, τ2, s1, s2, hH2, hl2⟩ := hH.sw (a := m + 1) (b := m) (by omega) (by omega)
        rw [insInner] at hI
        simp +contextual (maxSteps := 600000) (disch := omega) only [go_sem, Nat.reduceEqDiff, ↓reduceIte, Int.reduceEq, Int.reduceNeg, wrap_add, e0, e1, e2, ei, ej, cj, n1, m1, natOf_nat, hH.iad (j := m + 1) (by omega), hH.ld (j := m + 1) (by omega), hH.iad (j := m) (by omega), hH.ld (j := m) (by omega)]
        refine by_ret (S.call _ _ _) ?_
        cases hl : lt E[m + 1]! E[m]! with
        | true =>
          rw [if_pos (by simp [hl]; omega)] at hI
          simp +contextual (maxSteps := 600000) (disch := omega) only [go_sem, Nat.reduceEqDiff, ↓reduceIte, Int.reduceEq, Int.reduceNeg, wrap_add, e0, e1, e2, ei, ej, cj, n1, m1, natOf_nat, hl, hH.iad (j := m + 1) (by omega), hH.ld (j := m + 1) (by omega), hH.iad (j := m) (by omega), hH.ld (j := m) (by omega), s1, s2]
          refine ⟨m, by omega, hJ2 _ _ _ ⟨m, swp E (m + 1) m, ?_, ?_, ?_, ?_, ?_, rfl, by omega, by rw [Go.Sort.swp_size]; exact hE2, by omega, hH2, hI⟩⟩
          all_goals simp +contextual (maxSteps := 600000) (disch := omega) only [go_sem, Nat.reduceEqDiff, ↓reduceIte, Int.reduceEq, Int.reduceNeg, wrap_add, e0, e1, e2, ei, ej, m1]
        | false =>
          rw [if_neg (by simp [hl])] at hI
          simp +contextual (maxSteps := 600000) (disch := omega) only [go_sem, Nat.reduceEqDiff, ↓reduceIte, Int.reduceEq, Int.reduceNeg, wrap_add, e0, e1, e2, ei, ej, cj, hl, ]
          refine fin _ ?_ ?_ ?_ ?_ hI.symm
          all_goals simp +contextual (maxSteps := 600000) (disch := omega) only [go_sem, Nat.reduceEqDiff, ↓reduceIte, Int.reduceEq, Int.reduceNeg, wrap_add, e0, e1, e2, ei]
      · rw [decide_eq_false hc] at cj
        have hI : insInner lt a i D = E := by
          rw [← hI]
          cases j with
          | zero => rfl
          | succ j => rw [insInner, if_neg (by simp; intro h; omega)]
        simp +contextual (maxSteps := 600000) (disch := omega) only [go_sem, Nat.reduceEqDiff, ↓reduceIte, Int.reduceEq, Int.reduceNeg, wrap_add, e0, e1, e2, ei, ej, cj]
        refine fin _ ?_ ?_ ?_ ?_ hI
        all_goals simp +contextual (maxSteps := 600000) (disch := omega) only [go_sem, Nat.reduceEqDiff, ↓reduceIte, Int.reduceEq, Int.reduceNeg, wrap_add, e0, e1, e2, ei]
    · rw [if_neg (by omega)] at hE
      have c0 : decide ((i : Int) < b) = false := by simp; omega
      simp +contextual (maxSteps := 600000) (disch := omega) only [go_sem, Nat.reduceEqDiff, ↓reduceIte, Int.reduceEq, Int.reduceNeg, wrap_add, e0, e1, e2, ei, c0]
      exact ⟨_, rfl, hle, rfl, by rw [← hE]; exact hH⟩
  obtain ⟨r, τ, R, rfl, h⟩ := key
  exact ⟨τ, R, h⟩
end Go.Proofs.YtffnefmklckngaaGreat.Sy.O

/- Sorts: by a heap; turned round. -/
namespace Go.Proofs.YtffnefmklckngaaGreat.Sy.O
open Go Go.RowKit Go.Proofs.YtffnefmklckngaaGreat.Sy Go.Sort
set_option linter.unusedSimpArgs false
set_option linter.unusedVariables false
set_option maxRecDepth 4000
variable {α : Type} [Inhabited α] {lt : α → α → Bool} {σ0 σ : St} {rs : List Thg} {k : Nat} {v : GV} {d : Array α}
theorem siftDown_size (lt : α → α → Bool) (hi F : Nat) : ∀ (n root : Nat) (d : Array α), hi - root ≤ n → (siftDown lt hi F root d).size = d.size
  | 0, root, d, h => by rw [siftDown, dif_pos (by omega)]
  | n + 1, root, d, h => by
    rw [siftDown]
    split
    · rfl
    · split
      · split
        · rfl
        · split
          · rw [siftDown_size lt hi F n _ _ (by omega), Go.Sort.swp_size]
          · rfl
      · split
        · rfl
        · rw [siftDown_size lt hi F n _ _ (by omega), Go.Sort.swp_size]
theorem sift_ret (S : SrtO α lt) (H : Holds S.e σ0 σ rs k v d) {lo hi F : Nat} (hb : F + hi ≤ d.size) (hlo : lo ≤ d.size) (hs : d.size ≤ 1099511627776) : ∃ τ, Ret Tryz.prog S.q.siftDown [v, gi lo, gi hi, gi F] σ (.tup []) τ ∧ Holds S.e σ0 τ rs k v (siftDown lt hi F lo d) := by
  have key : ∃ r τ, Ret Tryz.prog S.q.siftDown [v, gi lo, gi hi, gi F] σ r τ ∧ r = .tup [] ∧ Holds S.e σ0 τ rs k v (siftDown lt hi F lo d) := by
    refine ret_mut S.h_siftDown (Nat.le_of_ble_eq_true rfl) ?_
    simp +contextual (maxSteps := 600000) (disch := omega) only [go_sem, Nat.reduceEqDiff, ↓reduceIte, Int.reduceEq, Int.reduceNeg, wrap_add, G_siftDown_o]
    refine vc_lopJ (fun n env τ => ∃ (r : Nat) (D : Array α), env 0 = v ∧ env 1 = gi lo ∧ env 2 = gi hi ∧ env 3 = gi F  ∧ env 8 = gi r ∧ hi - r = n ∧ r ≤ d.size ∧ D.size = d.size ∧ σ.length ≤ τ.length ∧ Holds S.e σ0 τ rs k v D ∧ siftDown lt hi F r D = siftDown lt hi F lo d) (hi - lo) ⟨lo, d, rfl, rfl, rfl, rfl, rfl, rfl, hlo, rfl, Nat.le_refl _, H, rfl⟩ ?_
    rintro J hJ n env τ ⟨r, D, e0, e1, e2, e3, er, hn, hr, hD, hle, hH, hE⟩
    rw [siftDown] at hE
    have w2 : IntKind.i64.wrap (2 * (r : Int)) = 2 * (r : Int) := wrap_add (by omega) (by omega)
    by_cases h1 : 2 * r + 1 ≥ hi
    · rw [dif_pos h1] at hE
      have c1 : decide ((hi : Int) ≤ 2 * (r : Int) + 1) = true := by simp; omega
      simp +contextual (maxSteps := 600000) (disch := omega) only [go_sem, Nat.reduceEqDiff, ↓reduceIte, Int.reduceEq, Int.reduceNeg, wrap_add, e0, e1, e2, e3, er, w2, c1]
      exact ⟨_, rfl, hle, rfl, by rw [← hE]; exact hH⟩
    · rw [dif_neg h1] at hE
      have c1 : decide ((hi : Int) ≤ 2 * (r : Int) + 1) = false := by simp; omega
      have nr : natOf (some (.int .i64 ((F : Int) + r))) = some (F + r) := natOf_of (by simp)
      have ir := hH.iad (j := F + r) (by omega)
      have lr := hH.ld (j := F + r) (by omega)
      by_cases hA : 2 * r + 2 < hi
      · have cA : decide (2 * (r : Int) + 1 + 1 < hi) = true := by simp; omega
        have nc : natOf (some (.int .i64 ((F : Int) + (2 * (r : Int) + 1)))) = some (F + (2 * r + 1)) := natOf_of (by simp)
        have nc2 : natOf (some (.int .i64 ((F : Int) + (2 * (r : Int) + 1) + 1))) = some (F + (2 * r + 1) + 1) := natOf_of (by simp)
        have ic := hH.iad (j := F + (2 * r + 1)) (by omega)
        have lc := hH.ld (j := F + (2 * r + 1)) (by omega)
        have ic2 := hH.iad (j := F + (2 * r + 1) + 1) (by omega)
        have lc2 := hH.ld (j := F + (2 * r + 1) + 1) (by omega)
        simp +contextual (maxSteps := 600000) (disch := omega) only [go_sem, Nat.reduceEqDiff, ↓reduceIte, Int.reduceEq, Int.reduceNeg, wrap_add, e0, e1, e2, e3, er, w2, c1, cA, nc, nc2, ic, lc, ic2, lc2]
        refine by_ret (S.call _ _ _) ?_
        cases hl1 : lt D[F + (2 * r + 1)]! D[F + (2 * r + 1) + 1]! with
        | true =>
          clear nc ic lc
          rw [if_pos (by simp [hl1]; omega)] at hE
          rw [dif_pos hA] at hE
          obtain ⟨c, hc⟩ : ∃ c, c = 2 * r + 2 := ⟨_, rfl⟩
          rw [← hc] at hE
          have ncI : 2 * (r : Int) + 1 + 1 = c := by omega
          have nc : natOf (some (.int .i64 ((F : Int) + c))) = some (F + c) := natOf_of (by simp)
          have ic := hH.iad (j := F + c) (by omega)
          have lc := hH.ld (j := F + c) (by omega)
          simp +contextual (maxSteps := 600000) (disch := omega) only [go_sem, Nat.reduceEqDiff, ↓reduceIte, Int.reduceEq, Int.reduceNeg, wrap_add, e0, e1, e2, e3, er, w2, cA, nr, nc, ncI, hl1, ir, lr, ic, lc]
          obtain ⟨τ1, τ2, s1, s2, hH2, hl2⟩ := hH.sw (a := F + r) (b := F + c) (by omega) (by omega)
          refine by_ret (S.call _ _ _) ?_
          cases hl : lt D[F + r]! D[F + c]! with
          | true =>
            rw [if_neg (by simp [hl])] at hE
            simp +contextual (maxSteps := 600000) (disch := omega) only [go_sem, Nat.reduceEqDiff, ↓reduceIte, Int.reduceEq, Int.reduceNeg, wrap_add, e0, e1, e2, e3, er, w2, c1, cA, nr, nc, ncI, hl, ir, lr, ic, lc, s1, s2]
            refine ⟨hi - c, by omega, hJ _ _ _ ⟨c, swp D (F + r) (F + c), ?_, ?_, ?_, ?_, ?_, rfl, by omega, by rw [Go.Sort.swp_size]; exact hD, by omega, hH2, hE⟩⟩
            all_goals simp +contextual (maxSteps := 600000) (disch := omega) only [go_sem, Nat.reduceEqDiff, ↓reduceIte, Int.reduceEq, Int.reduceNeg, wrap_add, e0, e1, e2, e3, er, ncI]
          | false =>
            rw [if_pos (by simp [hl])] at hE
            simp +contextual (maxSteps := 600000) (disch := omega) only [go_sem, Nat.reduceEqDiff, ↓reduceIte, Int.reduceEq, Int.reduceNeg, wrap_add, e0, e1, e2, e3, er, hl]
            exact ⟨_, rfl, hle, rfl, by rw [← hE]; exact hH⟩
        | false =>
          rw [if_neg (by simp [hl1])] at hE
          obtain ⟨c, hc⟩ : ∃ c, c = 2 * r + 1 := ⟨_, rfl⟩
          rw [← hc] at hE ic lc
          have ncI : 2 * (r : Int) + 1 = c := by omega
          rw [← hc, ncI] at nc
          simp +contextual (maxSteps := 600000) (disch := omega) only [go_sem, Nat.reduceEqDiff, ↓reduceIte, Int.reduceEq, Int.reduceNeg, wrap_add, e0, e1, e2, e3, er, w2, cA, nr, nc, ncI, hl1, ir, lr, ic, lc]
          obtain ⟨τ1, τ2, s1, s2, hH2, hl2⟩ := hH.sw (a := F + r) (b := F + c) (by omega) (by omega)
          refine by_ret (S.call _ _ _) ?_
          cases hl : lt D[F + r]! D[F + c]! with
          | true =>
            rw [if_neg (by simp [hl])] at hE
            simp +contextual (maxSteps := 600000) (disch := omega) only [go_sem, Nat.reduceEqDiff, ↓reduceIte, Int.reduceEq, Int.reduceNeg, wrap_add, e0, e1, e2, e3, er, w2, c1, cA, nr, nc, ncI, hl, ir, lr, ic, lc, s1, s2]
            refine ⟨hi - c, by omega, hJ _ _ _ ⟨c, swp D (F + r) (F + c), ?_, ?_, ?_, ?_, ?_, rfl, by omega, by rw [Go.Sort.swp_size]; exact hD, by omega, hH2, hE⟩⟩
            all_goals simp +contextual (maxSteps := 600000) (disch := omega) only [go_sem, Nat.reduceEqDiff, ↓reduceIte, Int.reduceEq, Int.reduceNeg, wrap_add, e0, e1, e2, e3, er, ncI]
          | false =>
            rw [if_pos (by simp [hl])] at hE
            simp +contextual (maxSteps := 600000) (disch := omega) only [go_sem, Nat.reduceEqDiff, ↓reduceIte, Int.reduceEq, Int.reduceNeg, wrap_add, e0, e1, e2, e3, er, hl]
            exact ⟨_, rfl, hle, rfl, by rw [← hE]; exact hH⟩
      · have cA : decide (2 * (r : Int) + 1 + 1 < hi) = false := by simp; omega
        rw [if_neg (by simp; intro h; omega)] at hE
        obtain ⟨c, hc⟩ : ∃ c, c = 2 * r + 1 := ⟨_, rfl⟩
        rw [← hc] at hE
        have ncI : 2 * (r : Int) + 1 = c := by omega
        have nc : natOf (some (.int .i64 ((F : Int) + c))) = some (F + c) := natOf_of (by simp)
        have ic := hH.iad (j := F + c) (by omega)
        have lc := hH.ld (j := F + c) (by omega)
        rw [ncI] at c1 cA
        simp +contextual (maxSteps := 600000) (disch := omega) only [go_sem, Nat.reduceEqDiff, ↓reduceIte, Int.reduceEq, Int.reduceNeg, wrap_add, e0, e1, e2, e3, er, w2, c1, cA, nr, nc, ncI, ir, lr, ic, lc]
        obtain ⟨τ1, τ2, s1, s2, hH2, hl2⟩ := hH.sw (a := F + r) (b := F + c) (by omega) (by omega)
        refine by_ret (S.call _ _ _) ?_
        cases hl : lt D[F + r]! D[F + c]! with
        | true =>
          rw [if_neg (by simp [hl])] at hE
          simp +contextual (maxSteps := 600000) (disch := omega) only [go_sem, Nat.reduceEqDiff, ↓reduceIte, Int.reduceEq, Int.reduceNeg, wrap_add, e0, e1, e2, e3, er, w2, c1, cA, nr, nc, ncI, hl, ir, lr, ic, lc, s1, s2]
          refine ⟨hi - c, by omega, hJ _ _ _ ⟨c, swp D (F + r) (F + c), ?_, ?_, ?_, ?_, ?_, rfl, by omega, by rw [Go.Sort.swp_size]; exact hD, by omega, hH2, hE⟩⟩
          all_goals simp +contextual (maxSteps := 600000) (disch := omega) only [go_sem, Nat.reduceEqDiff, ↓reduceIte, Int.reduceEq, Int.reduceNeg, wrap_add, e0, e1, e2, e3, er, ncI]
        | false =>
          rw [if_pos (by simp [hl])] at hE
          simp +contextual (maxSteps := 600000) (disch := omega) only [go_sem, Nat.reduceEqDiff, ↓reduceIte, Int.reduceEq, Int.reduceNeg, wrap_add, e0, e1, e2, e3, er, hl]
          exact ⟨_, rfl, hle, rfl, by rw [← hE]; exact hH⟩
  obtain ⟨r, τ, R, rfl, h⟩ := key
  exact ⟨τ, R, h⟩
theorem heap_ret (S : SrtO α lt) (H : Holds S.e σ0 σ rs k v d) {a b : Nat} (hab : a ≤ b) (hb : b ≤ d.size) (hs : d.size ≤ 1099511627776) : ∃ τ, Ret Tryz.prog S.q.heapSort [v, gi a, gi b] σ (.tup []) τ ∧ Holds S.e σ0 τ rs k v (heapSort lt d a b) := by
  have key : ∃ r τ, Ret Tryz.prog S.q.heapSort [v, gi a, gi b] σ r τ ∧ r = .tup [] ∧ Holds S.e σ0 τ rs k v (heapSort lt d a b) := by
    refine ret_mut S.h_heapSort (Nat.le_of_ble_eq_true rfl) ?_
    obtain ⟨h, hh⟩ : ∃ h, h = b - a := ⟨_, rfl⟩
    have hI : (b : Int) - a = h := by omega
    have hq : ((h : Int) - 1).tdiv 2 = (((h - 1) / 2 + 1 : Nat) : Int) - 1 := by
      rcases Nat.eq_zero_or_pos h with rfl | hp
      · rfl
      · have : (h : Int) - 1 = ((h - 1 : Nat) : Int) := by omega
        rw [this]
        have h2 : ((h - 1 : Nat) : Int).tdiv 2 = (((h - 1) / 2 : Nat) : Int) := rfl
        rw [h2]; omega
    obtain ⟨M, hM⟩ : ∃ M, M = (h - 1) / 2 + 1 := ⟨_, rfl⟩
    rw [← hM] at hq
    have hE : heapSort lt d a b = heapPop lt a h (heapBuild lt h a M d) := by rw [heapSort, hM, hh]
    rw [hE]
    simp +contextual (maxSteps := 600000) (disch := omega) only [go_sem, Nat.reduceEqDiff, ↓reduceIte, Int.reduceEq, Int.reduceNeg, wrap_add, G_heapSort_o, hI, hq]
    refine vc_lopJ (fun n env τ => ∃ (m : Nat) (D : Array α), env 0 = v ∧ env 1 = gi a ∧ env 2 = gi b  ∧ env 6 = gi a ∧ env 7 = gi 0 ∧ env 8 = gi h ∧ env 9 = gi ((m : Int) - 1) ∧ m = n ∧ m ≤ M ∧ D.size = d.size ∧ σ.length ≤ τ.length ∧ Holds S.e σ0 τ rs k v D ∧ heapBuild lt h a m D = heapBuild lt h a M d) M ⟨M, d, rfl, rfl, rfl, rfl, rfl, rfl, rfl, rfl, Nat.le_refl _, rfl, Nat.le_refl _, H, rfl⟩ ?_
    rintro J hJ n env τ ⟨m, D, e0, e1, e2, e6, e7, e8, e9, hn, hm, hD, hle, hH, hE⟩
    cases m with
    | succ j =>
      have e9 : env 9 = gi (j : Int) := by rw [e9]; congr 1; omega
      have c0 : decide ((0 : Int) ≤ j) = true := by simp
      rw [heapBuild] at hE
      simp +contextual (maxSteps := 600000) (disch := omega) only [go_sem, Nat.reduceEqDiff, ↓reduceIte, Int.reduceEq, Int.reduceNeg, wrap_add, e0, e1, e2, e6, e7, e8, e9, c0]
      obtain ⟨τ1, R, hH1⟩ := sift_ret S hH (lo := j) (hi := h) (F := a) (by omega) (by omega) (by omega)
      have hl1 := R.2.1
      refine by_mut R ?_
      simp +contextual (maxSteps := 600000) (disch := omega) only [go_sem, Nat.reduceEqDiff, ↓reduceIte, Int.reduceEq, Int.reduceNeg, wrap_add, e0, e1, e2, e6, e7, e8, e9]
      refine ⟨j, by omega, hJ _ _ _ ⟨j, _, ?_, ?_, ?_, ?_, ?_, ?_, ?_, rfl, by omega, ?_, by omega, hH1, hE⟩⟩
      all_goals first | (simp +contextual (maxSteps := 600000) (disch := omega) only [go_sem, Nat.reduceEqDiff, ↓reduceIte, Int.reduceEq, Int.reduceNeg, wrap_add, e0, e1, e2, e6, e7, e8, e9]; done) | (rw [siftDown_size lt h a _ _ _ (Nat.le_refl _)]; exact hD)
    | zero =>
      have e9 : env 9 = gi (-1) := e9
      rw [heapBuild] at hE
      simp +contextual (maxSteps := 600000) (disch := omega) only [go_sem, Nat.reduceEqDiff, ↓reduceIte, Int.reduceEq, Int.reduceNeg, wrap_add, e0, e1, e2, e6, e7, e8, e9]
      have c0 : decide ((0 : Int) ≤ -1) = false := rfl
      simp +contextual (maxSteps := 600000) (disch := omega) only [go_sem, Nat.reduceEqDiff, ↓reduceIte, Int.reduceEq, Int.reduceNeg, wrap_add, e0, e1, e2, e6, e7, e8, e9, c0]
      refine vc_lopJ (fun n env τ => ∃ (m : Nat) (E : Array α), env 0 = v ∧ env 1 = gi a ∧ env 2 = gi b  ∧ env 6 = gi a ∧ env 7 = gi 0 ∧ env 8 = gi h ∧ env 10 = gi ((m : Int) - 1) ∧ m = n ∧ m ≤ h ∧ E.size = d.size ∧ σ.length ≤ τ.length ∧ Holds S.e σ0 τ rs k v E ∧ heapPop lt a m E = heapPop lt a h (heapBuild lt h a M d)) h ⟨h, D, by simp +contextual (maxSteps := 600000) (disch := omega) only [go_sem, Nat.reduceEqDiff, ↓reduceIte, Int.reduceEq, Int.reduceNeg, wrap_add, e0], by simp +contextual (maxSteps := 600000) (disch := omega) only [go_sem, Nat.reduceEqDiff, ↓reduceIte, Int.reduceEq, Int.reduceNeg, wrap_add, e1], by simp +contextual (maxSteps := 600000) (disch := omega) only [go_sem, Nat.reduceEqDiff, ↓reduceIte, Int.reduceEq, Int.reduceNeg, wrap_add, e2], by simp +contextual (maxSteps := 600000) (disch := omega) only [go_sem, Nat.reduceEqDiff, ↓reduceIte, Int.reduceEq, Int.reduceNeg, wrap_add, e6], by simp +contextual (maxSteps := 600000) (disch := omega) only [go_sem, Nat.reduceEqDiff, ↓reduceIte, Int.reduceEq, Int.reduceNeg, wrap_add, e7], by simp +contextual (maxSteps := 600000) (disch := omega) only [go_sem, Nat.reduceEqDiff, ↓reduceIte, Int.reduceEq, Int.reduceNeg, wrap_add, e8], rfl, rfl, Nat.le_refl _, hD, hle, hH, by rw [hE]⟩ ?_
      clear hH hle e0 e1 e2 e6 e7 e8 e9
      rintro J2 hJ2 n2 env τ ⟨m, E, e0, e1, e2, e6, e7, e8, e9, hn2, hm, hE2, hle, hH, hP⟩
      cases m with
      | succ j =>
        have e9 : env 10 = gi (j : Int) := by rw [e9]; congr 1; omega
        have c0 : decide ((0 : Int) ≤ j) = true := by simp
        rw [heapPop] at hP
        have nr : natOf (some (.int .i64 ((a : Int) + j))) = some (a + j) := natOf_of (by simp)
        obtain ⟨τ1, τ2, s1, s2, hH2, hl2⟩ := hH.sw (a := a) (b := a + j) (by omega) (by omega)
        obtain ⟨τ3, R, hH3⟩ := sift_ret S hH2 (lo := 0) (hi := j) (F := a) (by rw [Go.Sort.swp_size]; omega) (by omega) (by rw [Go.Sort.swp_size]; omega)
        have hl3 := R.2.1
        simp +contextual (maxSteps := 600000) (disch := omega) only [go_sem, Nat.reduceEqDiff, ↓reduceIte, Int.reduceEq, Int.reduceNeg, wrap_add, e0, e1, e2, e6, e7, e8, e9, c0, nr, natOf_nat, hH.iad (j := a) (by omega), hH.ld (j := a) (by omega), hH.iad (j := a + j) (by omega), hH.ld (j := a + j) (by omega), s1, s2]
        refine by_mut R ?_
        simp +contextual (maxSteps := 600000) (disch := omega) only [go_sem, Nat.reduceEqDiff, ↓reduceIte, Int.reduceEq, Int.reduceNeg, wrap_add, e0, e1, e2, e6, e7, e8, e9]
        refine ⟨j, by omega, hJ2 _ _ _ ⟨j, _, ?_, ?_, ?_, ?_, ?_, ?_, ?_, rfl, by omega, ?_, by omega, hH3, hP⟩⟩
        all_goals first | (simp +contextual (maxSteps := 600000) (disch := omega) only [go_sem, Nat.reduceEqDiff, ↓reduceIte, Int.reduceEq, Int.reduceNeg, wrap_add, e0, e1, e2, e6, e7, e8, e9]; done) | (rw [siftDown_size lt _ a _ _ _ (Nat.le_refl _), Go.Sort.swp_size]; exact hE2)
      | zero =>
        have e9 : env 10 = gi (-1) := e9
        rw [heapPop] at hP
        simp +contextual (maxSteps := 600000) (disch := omega) only [go_sem, Nat.reduceEqDiff, ↓reduceIte, Int.reduceEq, Int.reduceNeg, wrap_add, e0, e1, e2, e6, e7, e8, e9, c0]
        exact ⟨_, rfl, hle, rfl, by rw [← hP]; exact hH⟩
  obtain ⟨r, τ, R, rfl, h⟩ := key
  exact ⟨τ, R, h⟩
theorem rev_ret (S : SrtO α lt) (H : Holds S.e σ0 σ rs k v d) {a b : Nat} (hab : a < b) (hb : b ≤ d.size) (hs : d.size ≤ 1099511627776) : ∃ τ, Ret Tryz.prog S.q.reverseRange [v, gi a, gi b] σ (.tup []) τ ∧ Holds S.e σ0 τ rs k v (reverseRange d a b) := by
  have key : ∃ r τ, Ret Tryz.prog S.q.reverseRange [v, gi a, gi b] σ r τ ∧ r = .tup [] ∧ Holds S.e σ0 τ rs k v (reverseRange d a b) := by
    refine ret_mut S.h_reverseRange (Nat.le_of_ble_eq_true rfl) ?_
    have hbI : (b : Int) - 1 = ((b - 1 : Nat) : Int) := by omega
    obtain ⟨h, hh⟩ : ∃ h, h = b - 1 := ⟨_, rfl⟩
    have hE : reverseRange d a b = reverseLoop a h d := by rw [reverseRange, hh]
    rw [hE]
    rw [← hh] at hbI
    simp +contextual (maxSteps := 600000) (disch := omega) only [go_sem, Nat.reduceEqDiff, ↓reduceIte, Int.reduceEq, Int.reduceNeg, wrap_add, G_reverseRange_o, hbI]
    refine vc_lopJ (fun n env τ => ∃ (i j : Nat) (D : Array α), env 0 = v ∧ env 6 = gi i ∧ env 7 = gi j ∧ j - i = n ∧ a ≤ i ∧ i ≤ d.size ∧ j ≤ h ∧ D.size = d.size ∧ σ.length ≤ τ.length ∧ Holds S.e σ0 τ rs k v D ∧ reverseLoop i j D = reverseLoop a h d) (h - a) ⟨a, h, d, rfl, rfl, rfl, rfl, Nat.le_refl _, by omega, Nat.le_refl _, rfl, Nat.le_refl _, H, rfl⟩ ?_
    rintro J hJ n env τ ⟨i, j, D, e0, e6, e7, hn, hi, hi2, hj, hD, hle, hH, hE⟩
    rw [reverseLoop] at hE
    rcases Nat.lt_or_ge i j with hlt | hge
    · rw [if_pos hlt] at hE
      have c0 : decide ((i : Int) < j) = true := by simp; omega
      obtain ⟨τ1, τ2, s1, s2, hH2, hl2⟩ := hH.sw (a := i) (b := j) (by omega) (by omega)
      have j1 : (j : Int) - 1 = ((j - 1 : Nat) : Int) := by omega
      simp +contextual (maxSteps := 600000) (disch := omega) only [go_sem, Nat.reduceEqDiff, ↓reduceIte, Int.reduceEq, Int.reduceNeg, wrap_add, e0, e6, e7, c0, natOf_nat, hH.iad (j := i) (by omega), hH.ld (j := i) (by omega), hH.iad (j := j) (by omega), hH.ld (j := j) (by omega), s1, s2]
      refine ⟨(j - 1) - (i + 1), by omega, hJ _ _ _ ⟨i + 1, j - 1, swp D i j, ?_, ?_, ?_, rfl, by omega, by omega, by omega, by rw [Go.Sort.swp_size]; exact hD, by omega, hH2, hE⟩⟩
      all_goals simp +contextual (maxSteps := 600000) (disch := omega) only [go_sem, Nat.reduceEqDiff, ↓reduceIte, Int.reduceEq, Int.reduceNeg, wrap_add, e0, e6, e7, j1]
    · rw [if_neg (by omega)] at hE
      have c0 : decide ((i : Int) < j) = false := by simp; omega
      simp +contextual (maxSteps := 600000) (disch := omega) only [go_sem, Nat.reduceEqDiff, ↓reduceIte, Int.reduceEq, Int.reduceNeg, wrap_add, e0, e6, e7, c0]
      exact ⟨_, rfl, hle, rfl, by rw [← hE]; exact hH⟩
  obtain ⟨r, τ, R, rfl, h⟩ := key
  exact ⟨τ, R, h⟩
end Go.Proofs.YtffnefmklckngaaGreat.Sy.O

/- Sorts: parts. -/
namespace Go.Proofs.YtffnefmklckngaaGreat.Sy.O
open Go Go.RowKit Go.Proofs.YtffnefmklckngaaGreat.Sy Go.Sort
set_option linter.unusedSimpArgs false
set_option linter.unusedVariables false
set_option maxRecDepth 4000
variable {α : Type} [Inhabited α] {lt : α → α → Bool} {σ0 σ : St} {rs : List Thg} {k : Nat} {v : GV} {d : Array α}
theorem pe_ret (S : SrtO α lt) (H : Holds S.e σ0 σ rs k v d) {a b p : Nat} (hab : a < b) (hp : p < b) (hb : b ≤ d.size) (hs : d.size ≤ 1099511627776) : ∃ τ, Ret Tryz.prog S.q.partitionEqual [v, gi a, gi b, gi p] σ (gi (partitionEqual lt d a b p).1) τ ∧ Holds S.e σ0 τ rs k v (partitionEqual lt d a b p).2 := by
  have key : ∃ r τ, Ret Tryz.prog S.q.partitionEqual [v, gi a, gi b, gi p] σ r τ ∧ r = gi (partitionEqual lt d a b p).1 ∧ Holds S.e σ0 τ rs k v (partitionEqual lt d a b p).2 := by
    refine ret_mut S.h_partitionEqual (Nat.le_of_ble_eq_true rfl) ?_
    obtain ⟨τ1, τ2, s1, s2, hH, hl2⟩ := H.sw (a := a) (b := p) (by omega) (by omega)
    obtain ⟨h, hh⟩ : ∃ h, h = b - 1 := ⟨_, rfl⟩
    have hbI : (b : Int) - 1 = h := by omega
    have hsz := Go.Sort.swp_size d a p
    rw [partitionEqual, ← hh]
    obtain ⟨D0, hD0⟩ : ∃ D0, D0 = swp d a p := ⟨_, rfl⟩
    rw [← hD0] at hH hsz
    simp +contextual (maxSteps := 600000) (disch := omega) only [go_sem, Nat.reduceEqDiff, ↓reduceIte, Int.reduceEq, Int.reduceNeg, wrap_add, G_partitionEqual_o, hbI, natOf_nat, H.iad (j := a) (by omega), H.ld (j := a) (by omega), H.iad (j := p) (by omega), H.ld (j := p) (by omega), s1, s2]
    rw [← hD0]
    refine vc_lopJ (fun n env τ => ∃ (i j : Nat) (D : Array α), env 0 = v ∧ env 1 = gi a  ∧ env 9 = gi i ∧ env 10 = gi j ∧ j + 1 - i = n ∧ 1 ≤ i ∧ i ≤ j + 1 ∧ j < b ∧ D.size = d.size ∧ σ.length ≤ τ.length ∧ Holds S.e σ0 τ rs k v D ∧ partEqLoop lt a i j D = partEqLoop lt a (a + 1) h D0) (h + 1 - (a + 1)) ⟨a + 1, h, D0, rfl, rfl, rfl, rfl, rfl, by omega, by omega, by omega, hsz, by omega, hH, rfl⟩ ?_
    clear hH
    rintro J hJ n env τ ⟨i, j, D, e0, e1, e9, e10, hn, hi, hij, hj, hD, hle, hH, hE⟩
    rw [partEqLoop_eq] at hE
    have ia := hH.iad (j := a) (by omega)
    have la := hH.ld (j := a) (by omega)
    simp +contextual (maxSteps := 600000) (disch := omega) only [go_sem, Nat.reduceEqDiff, ↓reduceIte, Int.reduceEq, Int.reduceNeg, wrap_add, List.append_nil]
    refine vc_lopX (fun n env τ' => ∃ (x : Nat), env 0 = v ∧ env 1 = gi a  ∧ env 9 = gi x ∧ env 10 = gi j ∧ j + 1 - x = n ∧ i ≤ x ∧ x ≤ j + 1 ∧ τ = τ' ∧ scanUp (fun x => !lt D[a]! x) D j x = scanUp (fun x => !lt D[a]! x) D j i) (j + 1 - i) 2 (fun env τ' => env 0 = v ∧ env 1 = gi a  ∧ env 9 = gi (scanUp (fun x => !lt D[a]! x) D j i : Nat) ∧ env 10 = gi j ∧ τ = τ') ⟨i, e0, e1, e9, e10, rfl, Nat.le_refl _, hij, rfl, rfl⟩ ?_ ?_
    · clear e0 e1 e9 e10
      rintro J2 Y2 hJ2 hY2 n2 env τ' ⟨x, e0, e1, e9, e10, hn2, hx1, hx2, rfl, hU⟩
      rw [scanUp] at hU
      rcases Nat.lt_or_ge j x with hx | hx
      · rw [if_neg (by simp; intro h; omega)] at hU
        have c0 : decide ((x : Int) ≤ j) = false := by simp; omega
        simp +contextual (maxSteps := 600000) (disch := omega) only [go_sem, Nat.reduceEqDiff, ↓reduceIte, Int.reduceEq, Int.reduceNeg, wrap_add, e0, e1, e9, e10, c0]
        refine hY2 _ _ ⟨?_, ?_, ?_, ?_, rfl⟩
        all_goals simp +contextual (maxSteps := 600000) (disch := omega) only [go_sem, Nat.reduceEqDiff, ↓reduceIte, Int.reduceEq, Int.reduceNeg, wrap_add, e0, e1, e9, e10, hU]
      · have c0 : decide ((x : Int) ≤ j) = true := by simp; omega
        simp +contextual (maxSteps := 600000) (disch := omega) only [go_sem, Nat.reduceEqDiff, ↓reduceIte, Int.reduceEq, Int.reduceNeg, wrap_add, e0, e1, e9, e10, c0, natOf_nat, ia, la, hH.iad (j := x) (by omega), hH.ld (j := x) (by omega)]
        refine by_ret (S.call _ _ _) ?_
        cases hl : lt D[a]! D[x]! with
        | true =>
          rw [if_neg (by simp [hl])] at hU
          simp +contextual (maxSteps := 600000) (disch := omega) only [go_sem, Nat.reduceEqDiff, ↓reduceIte, Int.reduceEq, Int.reduceNeg, wrap_add, e0, e1, e9, e10, c0, hl]
          refine hY2 _ _ ⟨?_, ?_, ?_, ?_, rfl⟩
          all_goals simp +contextual (maxSteps := 600000) (disch := omega) only [go_sem, Nat.reduceEqDiff, ↓reduceIte, Int.reduceEq, Int.reduceNeg, wrap_add, e0, e1, e9, e10, hU]
        | false =>
          rw [if_pos (by simp [hl]; omega)] at hU
          simp +contextual (maxSteps := 600000) (disch := omega) only [go_sem, Nat.reduceEqDiff, ↓reduceIte, Int.reduceEq, Int.reduceNeg, wrap_add, e0, e1, e9, e10, c0, hl]
          refine ⟨j + 1 - (x + 1), by omega, hJ2 _ _ _ ⟨x + 1, ?_, ?_, ?_, ?_, rfl, by omega, by omega, rfl, hU⟩⟩
          all_goals simp +contextual (maxSteps := 600000) (disch := omega) only [go_sem, Nat.reduceEqDiff, ↓reduceIte, Int.reduceEq, Int.reduceNeg, wrap_add, e0, e1, e9, e10]
    · clear e0 e1 e9 e10
      rintro env τ' ⟨e0, e1, e9, e10, rfl⟩
      obtain ⟨u1, u2, -, u4⟩ := scanUp_spec (fun x => !lt D[a]! x) D j _ i rfl
      have u2 := u2 hij
      obtain ⟨x, hx⟩ : ∃ x, x = scanUp (fun x => !lt D[a]! x) D j i := ⟨_, rfl⟩
      rw [← hx] at hE e9 u1 u2 u4
      simp +contextual (maxSteps := 600000) (disch := omega) only [go_sem, Nat.reduceEqDiff, ↓reduceIte, Int.reduceEq, Int.reduceNeg, wrap_add, List.append_nil]
      refine vc_lopX (fun n env τ' => ∃ (y : Nat), env 0 = v ∧ env 1 = gi a  ∧ env 9 = gi x ∧ env 10 = gi y ∧ y + 1 = n ∧ y ≤ j ∧ x ≤ y + 1 ∧ τ = τ' ∧ scanDown (fun x => lt D[a]! x) D x y = scanDown (fun x => lt D[a]! x) D x j) (j + 1) 4 (fun env τ' => env 0 = v ∧ env 1 = gi a  ∧ env 9 = gi x ∧ env 10 = gi (scanDown (fun x => lt D[a]! x) D x j : Nat) ∧ τ = τ' ∧ x ≤ scanDown (fun x => lt D[a]! x) D x j + 1) ⟨j, e0, e1, e9, e10, rfl, Nat.le_refl _, u2, rfl, rfl⟩ ?_ ?_
      · clear e0 e1 e9 e10
        rintro J2 Y2 hJ2 hY2 n2 env τ' ⟨y, e0, e1, e9, e10, hn2, hy1, hy2, rfl, hU⟩
        rcases Nat.lt_or_ge y x with hlt | hge
        · have hU : scanDown (fun x => lt D[a]! x) D x j = y := by
            rw [← hU]
            cases y with
            | zero => rfl
            | succ y => rw [scanDown, if_neg (by simp; intro h; omega)]
          have c0 : decide ((x : Int) ≤ y) = false := by simp; omega
          simp +contextual (maxSteps := 600000) (disch := omega) only [go_sem, Nat.reduceEqDiff, ↓reduceIte, Int.reduceEq, Int.reduceNeg, wrap_add, e0, e1, e9, e10, c0]
          refine hY2 _ _ ⟨?_, ?_, ?_, ?_, rfl, by omega⟩
          all_goals simp +contextual (maxSteps := 600000) (disch := omega) only [go_sem, Nat.reduceEqDiff, ↓reduceIte, Int.reduceEq, Int.reduceNeg, wrap_add, e0, e1, e9, e10, hU]
        · have c0 : decide ((x : Int) ≤ y) = true := by simp; omega
          obtain ⟨z, rfl⟩ : ∃ z, y = z + 1 := ⟨y - 1, by omega⟩
          rw [scanDown] at hU
          have c0 : decide ((x : Int) ≤ (z : Int) + 1) = true := c0
          have n1 : natOf (some (.int .i64 ((z : Int) + 1))) = some (z + 1) := natOf_of (by simp)
          have z1 : (z : Int) + 1 - 1 = z := by omega
          simp +contextual (maxSteps := 600000) (disch := omega) only [go_sem, Nat.reduceEqDiff, ↓reduceIte, Int.reduceEq, Int.reduceNeg, wrap_add, e0, e1, e9, e10, c0, natOf_nat, n1, ia, la, hH.iad (j := z + 1) (by omega), hH.ld (j := z + 1) (by omega)]
          refine by_ret (S.call _ _ _) ?_
          cases hl : lt D[a]! D[z + 1]! with
          | false =>
            rw [if_neg (by simp [hl])] at hU
            simp +contextual (maxSteps := 600000) (disch := omega) only [go_sem, Nat.reduceEqDiff, ↓reduceIte, Int.reduceEq, Int.reduceNeg, wrap_add, e0, e1, e9, e10, c0, hl]
            refine hY2 _ _ ⟨?_, ?_, ?_, ?_, rfl, by omega⟩
            all_goals simp +contextual (maxSteps := 600000) (disch := omega) only [go_sem, Nat.reduceEqDiff, ↓reduceIte, Int.reduceEq, Int.reduceNeg, wrap_add, e0, e1, e9, e10, ← hU]
          | true =>
            rw [if_pos (by simp [hl]; omega)] at hU
            simp +contextual (maxSteps := 600000) (disch := omega) only [go_sem, Nat.reduceEqDiff, ↓reduceIte, Int.reduceEq, Int.reduceNeg, wrap_add, e0, e1, e9, e10, c0, z1, hl]
            refine ⟨z + 1, by omega, hJ2 _ _ _ ⟨z, ?_, ?_, ?_, ?_, rfl, by omega, by omega, rfl, hU⟩⟩
            all_goals simp +contextual (maxSteps := 600000) (disch := omega) only [go_sem, Nat.reduceEqDiff, ↓reduceIte, Int.reduceEq, Int.reduceNeg, wrap_add, e0, e1, e9, e10]
      · clear e0 e1 e9 e10
        rintro env τ' ⟨e0, e1, e9, e10, rfl, hxy⟩
        have w1 := scanDown_le (fun x => lt D[a]! x) D x j
        have w4 := (scanDown_spec (fun x => lt D[a]! x) D x j).2.2.2
        obtain ⟨y, hy⟩ : ∃ y, y = scanDown (fun x => lt D[a]! x) D x j := ⟨_, rfl⟩
        rw [← hy] at hE e10 w1 w4 hxy
        rcases Nat.lt_or_ge y x with hlt | hge
        · rw [if_pos hlt] at hE
          have c0 : decide ((y : Int) < x) = true := by simp; omega
          simp +contextual (maxSteps := 600000) (disch := omega) only [go_sem, Nat.reduceEqDiff, ↓reduceIte, Int.reduceEq, Int.reduceNeg, wrap_add, e0, e1, e9, e10, c0]
          exact ⟨_, rfl, hle, by rw [← hE], by rw [← hE]; exact hH⟩
        · rw [if_neg (by omega)] at hE
          have hne : x ≠ y := by
            rintro rfl
            have q1 : (!lt D[a]! D[x]!) = false := u4 w1
            have q2 : lt D[a]! D[x]! = false := w4 (Nat.le_refl _) (by omega)
            rw [q2] at q1; cases q1
          have c0 : decide ((y : Int) < x) = false := by simp; omega
          have y1 : (y : Int) - 1 = ((y - 1 : Nat) : Int) := by omega
          obtain ⟨τ3, τ4, s3, s4, hH4, hl4⟩ := hH.sw (a := x) (b := y) (by omega) (by omega)
          simp +contextual (maxSteps := 600000) (disch := omega) only [go_sem, Nat.reduceEqDiff, ↓reduceIte, Int.reduceEq, Int.reduceNeg, wrap_add, e0, e1, e9, e10, c0, natOf_nat, hH.iad (j := x) (by omega), hH.ld (j := x) (by omega), hH.iad (j := y) (by omega), hH.ld (j := y) (by omega), s3, s4]
          refine ⟨y - 1 + 1 - (x + 1), by omega, hJ _ _ _ ⟨x + 1, y - 1, swp D x y, ?_, ?_, ?_, ?_, rfl, by omega, by omega, by omega, by rw [Go.Sort.swp_size]; exact hD, by omega, hH4, hE⟩⟩
          all_goals simp +contextual (maxSteps := 600000) (disch := omega) only [go_sem, Nat.reduceEqDiff, ↓reduceIte, Int.reduceEq, Int.reduceNeg, wrap_add, e0, e1, e9, e10, y1]
  obtain ⟨r, τ, R, rfl, h⟩ := key
  exact ⟨τ, R, h⟩
set_option maxHeartbeats 2000000 in
theorem part_ret (S : SrtO α lt) (H : Holds S.e σ0 σ rs k v d) {a b p : Nat} (hab : a < b) (hp : p < b) (hb : b ≤ d.size) (hs : d.size ≤ 1099511627776) : ∃ τ, Ret Tryz.prog S.q.partition [v, gi a, gi b, gi p] σ (.tup [gi (partition lt d a b p).1, .bool (partition lt d a b p).2.1]) τ ∧ Holds S.e σ0 τ rs k v (partition lt d a b p).2.2 := by
  have key : ∃ r τ, Ret Tryz.prog S.q.partition [v, gi a, gi b, gi p] σ r τ ∧ r = .tup [gi (partition lt d a b p).1, .bool (partition lt d a b p).2.1] ∧ Holds S.e σ0 τ rs k v (partition lt d a b p).2.2 := by
    refine ret_mut S.h_partition (Nat.le_of_ble_eq_true rfl) ?_
    obtain ⟨τ1, τ, s1, s2, hH, hl2⟩ := H.sw (a := a) (b := p) (by omega) (by omega)
    obtain ⟨j, hh⟩ : ∃ h, h = b - 1 := ⟨_, rfl⟩
    have hbI : (b : Int) - 1 = j := by omega
    have hD := Go.Sort.swp_size d a p
    obtain ⟨P0, hP0⟩ : ∃ P0, P0 = partition lt d a b p := ⟨_, rfl⟩
    rw [← hP0]
    have hE := hP0.symm
    simp only [partition] at hE
    rw [← hh] at hE
    obtain ⟨D, hD0⟩ : ∃ D0, D0 = swp d a p := ⟨_, rfl⟩
    rw [← hD0] at hH hD hE
    simp +contextual (maxSteps := 600000) (disch := omega) only [go_sem, Nat.reduceEqDiff, ↓reduceIte, Int.reduceEq, Int.reduceNeg, wrap_add, G_partition_o, hbI, natOf_nat, H.iad (j := a) (by omega), H.ld (j := a) (by omega), H.iad (j := p) (by omega), H.ld (j := p) (by omega), s1, s2]
    have ia := hH.iad (j := a) (by omega)
    have la := hH.ld (j := a) (by omega)
    obtain ⟨i, hi⟩ : ∃ i, i = a + 1 := ⟨_, rfl⟩
    rw [← hi] at hE
    have hij : i ≤ j + 1 := by omega
    refine vc_lopX (fun n env τ' => ∃ (x : Nat), env 0 = v ∧ env 1 = gi a  ∧ env 10 = gi x ∧ env 11 = gi j ∧ j + 1 - x = n ∧ i ≤ x ∧ x ≤ j + 1 ∧ τ = τ' ∧ scanUp (fun x => lt x D[a]!) D j x = scanUp (fun x => lt x D[a]!) D j i) (j + 1 - i) 0 (fun env τ' => env 0 = v ∧ env 1 = gi a  ∧ env 10 = gi (scanUp (fun x => lt x D[a]!) D j i : Nat) ∧ env 11 = gi j ∧ τ = τ') ⟨i, rfl,rfl,(by rw[hi];rfl),rfl, rfl, Nat.le_refl _, hij, rfl, rfl⟩ ?_ ?_
    · skip
      rintro J2 Y2 hJ2 hY2 n2 env τ' ⟨x, e0, e1, e9, e10, hn2, hx1, hx2, rfl, hU⟩
      rw [scanUp] at hU
      rcases Nat.lt_or_ge j x with hx | hx
      · rw [if_neg (by simp; intro h; omega)] at hU
        have c0 : decide ((x : Int) ≤ j) = false := by simp; omega
        simp +contextual (maxSteps := 600000) (disch := omega) only [go_sem, Nat.reduceEqDiff, ↓reduceIte, Int.reduceEq, Int.reduceNeg, wrap_add, e0, e1, e9, e10, c0]
        refine hY2 _ _ ⟨?_, ?_, ?_, ?_, rfl⟩
        all_goals simp +contextual (maxSteps := 600000) (disch := omega) only [go_sem, Nat.reduceEqDiff, ↓reduceIte, Int.reduceEq, Int.reduceNeg, wrap_add, e0, e1, e9, e10, hU]
      · have c0 : decide ((x : Int) ≤ j) = true := by simp; omega
        simp +contextual (maxSteps := 600000) (disch := omega) only [go_sem, Nat.reduceEqDiff, ↓reduceIte, Int.reduceEq, Int.reduceNeg, wrap_add, e0, e1, e9, e10, c0, natOf_nat, ia, la, hH.iad (j := x) (by omega), hH.ld (j := x) (by omega)]
        refine by_ret (S.call _ _ _) ?_
        cases hl : lt D[x]! D[a]! with
        | false =>
          rw [if_neg (by simp [hl])] at hU
          simp +contextual (maxSteps := 600000) (disch := omega) only [go_sem, Nat.reduceEqDiff, ↓reduceIte, Int.reduceEq, Int.reduceNeg, wrap_add, e0, e1, e9, e10, c0, hl]
          refine hY2 _ _ ⟨?_, ?_, ?_, ?_, rfl⟩
          all_goals simp +contextual (maxSteps := 600000) (disch := omega) only [go_sem, Nat.reduceEqDiff, ↓reduceIte, Int.reduceEq, Int.reduceNeg, wrap_add, e0, e1, e9, e10, hU]
        | true =>
          rw [if_pos (by simp [hl]; omega)] at hU
          simp +contextual (maxSteps := 600000) (disch := omega) only [go_sem, Nat.reduceEqDiff, ↓reduceIte, Int.reduceEq, Int.reduceNeg, wrap_add, e0, e1, e9, e10, c0, hl]
          refine ⟨j + 1 - (x + 1), by omega, hJ2 _ _ _ ⟨x + 1, ?_, ?_, ?_, ?_, rfl, by omega, by omega, rfl, hU⟩⟩
          all_goals simp +contextual (maxSteps := 600000) (disch := omega) only [go_sem, Nat.reduceEqDiff, ↓reduceIte, Int.reduceEq, Int.reduceNeg, wrap_add, e0, e1, e9, e10]
    skip
    rintro env τ' ⟨e0, e1, e9, e10, rfl⟩
    obtain ⟨u1, u2, -, u4⟩ := scanUp_spec (fun x => lt x D[a]!) D j _ i rfl
    have u2 := u2 hij
    obtain ⟨x, hx⟩ : ∃ x, x = scanUp (fun x => lt x D[a]!) D j i := ⟨_, rfl⟩
    rw [← hx] at hE e9 u1 u2 u4
    simp +contextual (maxSteps := 600000) (disch := omega) only [go_sem, Nat.reduceEqDiff, ↓reduceIte, Int.reduceEq, Int.reduceNeg, wrap_add, List.append_nil]
    refine vc_lopX (fun n env τ' => ∃ (y : Nat), env 0 = v ∧ env 1 = gi a  ∧ env 10 = gi x ∧ env 11 = gi y ∧ y + 1 = n ∧ y ≤ j ∧ x ≤ y + 1 ∧ τ = τ' ∧ scanDown (fun x => !lt x D[a]!) D x y = scanDown (fun x => !lt x D[a]!) D x j) (j + 1) 2 (fun env τ' => env 0 = v ∧ env 1 = gi a  ∧ env 10 = gi x ∧ env 11 = gi (scanDown (fun x => !lt x D[a]!) D x j : Nat) ∧ τ = τ' ∧ x ≤ scanDown (fun x => !lt x D[a]!) D x j + 1) ⟨j, e0, e1, e9, e10, rfl, Nat.le_refl _, u2, rfl, rfl⟩ ?_ ?_
    · clear e0 e1 e9 e10
      rintro J2 Y2 hJ2 hY2 n2 env τ' ⟨y, e0, e1, e9, e10, hn2, hy1, hy2, rfl, hU⟩
      rcases Nat.lt_or_ge y x with hlt | hge
      · have hU : scanDown (fun x => !lt x D[a]!) D x j = y := by
          rw [← hU]
          cases y with
          | zero => rfl
          | succ y => rw [scanDown, if_neg (by simp; intro h; omega)]
        have c0 : decide ((x : Int) ≤ y) = false := by simp; omega
        simp +contextual (maxSteps := 600000) (disch := omega) only [go_sem, Nat.reduceEqDiff, ↓reduceIte, Int.reduceEq, Int.reduceNeg, wrap_add, e0, e1, e9, e10, c0]
        refine hY2 _ _ ⟨?_, ?_, ?_, ?_, rfl, by omega⟩
        all_goals simp +contextual (maxSteps := 600000) (disch := omega) only [go_sem, Nat.reduceEqDiff, ↓reduceIte, Int.reduceEq, Int.reduceNeg, wrap_add, e0, e1, e9, e10, hU]
      · obtain ⟨z, rfl⟩ : ∃ z, y = z + 1 := ⟨y - 1, by omega⟩
        rw [scanDown] at hU
        have c0 : decide ((x : Int) ≤ (z : Int) + 1) = true := by simp; omega
        have n1 : natOf (some (.int .i64 ((z : Int) + 1))) = some (z + 1) := natOf_of (by simp)
        have z1 : (z : Int) + 1 - 1 = z := by omega
        simp +contextual (maxSteps := 600000) (disch := omega) only [go_sem, Nat.reduceEqDiff, ↓reduceIte, Int.reduceEq, Int.reduceNeg, wrap_add, e0, e1, e9, e10, c0, natOf_nat, n1, ia, la, hH.iad (j := z + 1) (by omega), hH.ld (j := z + 1) (by omega)]
        refine by_ret (S.call _ _ _) ?_
        cases hl : lt D[z + 1]! D[a]! with
        | true =>
          rw [if_neg (by simp [hl])] at hU
          simp +contextual (maxSteps := 600000) (disch := omega) only [go_sem, Nat.reduceEqDiff, ↓reduceIte, Int.reduceEq, Int.reduceNeg, wrap_add, e0, e1, e9, e10, c0, hl]
          refine hY2 _ _ ⟨?_, ?_, ?_, ?_, rfl, by omega⟩
          all_goals simp +contextual (maxSteps := 600000) (disch := omega) only [go_sem, Nat.reduceEqDiff, ↓reduceIte, Int.reduceEq, Int.reduceNeg, wrap_add, e0, e1, e9, e10, ← hU]
        | false =>
          rw [if_pos (by simp [hl]; omega)] at hU
          simp +contextual (maxSteps := 600000) (disch := omega) only [go_sem, Nat.reduceEqDiff, ↓reduceIte, Int.reduceEq, Int.reduceNeg, wrap_add, e0, e1, e9, e10, c0, z1, hl]
          refine ⟨z + 1, by omega, hJ2 _ _ _ ⟨z, ?_, ?_, ?_, ?_, rfl, by omega, by omega, rfl, hU⟩⟩
          all_goals simp +contextual (maxSteps := 600000) (disch := omega) only [go_sem, Nat.reduceEqDiff, ↓reduceIte, Int.reduceEq, Int.reduceNeg, wrap_add, e0, e1, e9, e10]
    clear e0 e1 e9 e10
    rintro env τ' ⟨e0, e1, e9, e10, rfl, hxy⟩
    have w1 := scanDown_le (fun x => !lt x D[a]!) D x j
    have w4 := (scanDown_spec (fun x => !lt x D[a]!) D x j).2.2.2
    obtain ⟨y, hy⟩ : ∃ y, y = scanDown (fun x => !lt x D[a]!) D x j := ⟨_, rfl⟩
    rw [← hy] at hE e10 w1 w4 hxy
    have hne : x ≠ y := by
      rintro rfl
      have q1 : lt D[x]! D[a]! = false := u4 w1
      have q2 : (!lt D[x]! D[a]!) = false := w4 (Nat.le_refl _) (by omega)
      rw [q1] at q2; cases q2
    rcases Nat.lt_or_ge y x with hlt | hge
    · rw [if_pos hlt] at hE
      subst hE
      have c0 : decide ((y : Int) < x) = true := by simp; omega
      obtain ⟨τ3, τ4, s3, s4, hH4, hl4⟩ := hH.sw (a := y) (b := a) (by omega) (by omega)
      simp +contextual (maxSteps := 600000) (disch := omega) only [go_sem, Nat.reduceEqDiff, ↓reduceIte, Int.reduceEq, Int.reduceNeg, wrap_add, e0, e1, e9, e10, c0, natOf_nat, hH.iad (j := a) (by omega), hH.ld (j := a) (by omega), hH.iad (j := y) (by omega), hH.ld (j := y) (by omega), s3, s4]
      exact ⟨_, rfl, by omega, rfl, hH4⟩
    · rw [if_neg (by omega)] at hE
      subst hE
      have c0 : decide ((y : Int) < x) = false := by simp; omega
      have y1 : (y : Int) - 1 = ((y - 1 : Nat) : Int) := by omega
      obtain ⟨τ3, τ4, s3, s4, hH4, hl4⟩ := hH.sw (a := x) (b := y) (by omega) (by omega)
      simp +contextual (maxSteps := 600000) (disch := omega) only [go_sem, Nat.reduceEqDiff, ↓reduceIte, Int.reduceEq, Int.reduceNeg, wrap_add, e0, e1, e9, e10, c0, natOf_nat, hH.iad (j := x) (by omega), hH.ld (j := x) (by omega), hH.iad (j := y) (by omega), hH.ld (j := y) (by omega), s3, s4]
      obtain ⟨x0, hx0⟩ : ∃ x0, x0 = x + 1 := ⟨_, rfl⟩
      obtain ⟨y0, hy0⟩ : ∃ y0, y0 = y - 1 := ⟨_, rfl⟩
      have hD4 : (swp D x y).size = d.size := by rw [Go.Sort.swp_size]; exact hD
      obtain ⟨D4, hD40⟩ : ∃ D4, D4 = swp D x y := ⟨_, rfl⟩
      rw [← hx0, ← hy0, ← hD40]
      rw [← hD40] at hH4 hD4
      obtain ⟨R, hR⟩ : ∃ R, R = partLoop lt a x0 y0 D4 := ⟨_, rfl⟩
      rw [← hR]
      refine vc_lopJ (fun n env τ => ∃ (i j : Nat) (D : Array α), env 0 = v ∧ env 1 = gi a  ∧ env 10 = gi i ∧ env 11 = gi j ∧ j + 1 - i = n ∧ 1 ≤ i ∧ i ≤ j + 1 ∧ j < b ∧ D.size = d.size ∧ σ.length ≤ τ.length ∧ Holds S.e σ0 τ rs k v D ∧ partLoop lt a i j D = R) (y0 + 1 - x0) ⟨x0, y0, D4, by simp +contextual (maxSteps := 600000) (disch := omega) only [go_sem, Nat.reduceEqDiff, ↓reduceIte, Int.reduceEq, Int.reduceNeg, wrap_add, e0], by simp +contextual (maxSteps := 600000) (disch := omega) only [go_sem, Nat.reduceEqDiff, ↓reduceIte, Int.reduceEq, Int.reduceNeg, wrap_add, e1], by rw [hx0]; simp +contextual (maxSteps := 600000) (disch := omega) only [go_sem, Nat.reduceEqDiff, ↓reduceIte, Int.reduceEq, Int.reduceNeg, wrap_add, e9], by rw [hy0]; simp +contextual (maxSteps := 600000) (disch := omega) only [go_sem, Nat.reduceEqDiff, ↓reduceIte, Int.reduceEq, Int.reduceNeg, wrap_add, y1], rfl, by omega, by omega, by omega, hD4, by omega, hH4, hR.symm⟩ ?_
      clear hH hH4 hij ia la s1 s2 s3 s4 e0 e1 e9 e10 c0 y1 hi u1 u2 u4 w1 w4 hxy hne hge hx hy hx0 hy0 hD40 hD4 hD hD0 hl2 hl4
      rintro J hJ n env τ ⟨i, j, D, e0, e1, e9, e10, hn, hi, hij, hj, hD, hle, hH, hE⟩
      rw [partLoop_eq] at hE
      have ia := hH.iad (j := a) (by omega)
      have la := hH.ld (j := a) (by omega)
      simp +contextual (maxSteps := 600000) (disch := omega) only [go_sem, Nat.reduceEqDiff, ↓reduceIte, Int.reduceEq, Int.reduceNeg, wrap_add, List.append_nil]
      refine vc_lopX (fun n env τ' => ∃ (x : Nat), env 0 = v ∧ env 1 = gi a  ∧ env 10 = gi x ∧ env 11 = gi j ∧ j + 1 - x = n ∧ i ≤ x ∧ x ≤ j + 1 ∧ τ = τ' ∧ scanUp (fun x => lt x D[a]!) D j x = scanUp (fun x => lt x D[a]!) D j i) (j + 1 - i) 6 (fun env τ' => env 0 = v ∧ env 1 = gi a  ∧ env 10 = gi (scanUp (fun x => lt x D[a]!) D j i : Nat) ∧ env 11 = gi j ∧ τ = τ') ⟨i, e0,e1,e9,e10, rfl, Nat.le_refl _, hij, rfl, rfl⟩ ?_ ?_
      · clear e0 e1 e9 e10
        rintro J2 Y2 hJ2 hY2 n2 env τ' ⟨x, e0, e1, e9, e10, hn2, hx1, hx2, rfl, hU⟩
        rw [scanUp] at hU
        rcases Nat.lt_or_ge j x with hx | hx
        · rw [if_neg (by simp; intro h; omega)] at hU
          have c0 : decide ((x : Int) ≤ j) = false := by simp; omega
          simp +contextual (maxSteps := 600000) (disch := omega) only [go_sem, Nat.reduceEqDiff, ↓reduceIte, Int.reduceEq, Int.reduceNeg, wrap_add, e0, e1, e9, e10, c0]
          refine hY2 _ _ ⟨?_, ?_, ?_, ?_, rfl⟩
          all_goals simp +contextual (maxSteps := 600000) (disch := omega) only [go_sem, Nat.reduceEqDiff, ↓reduceIte, Int.reduceEq, Int.reduceNeg, wrap_add, e0, e1, e9, e10, hU]
        · have c0 : decide ((x : Int) ≤ j) = true := by simp; omega
          simp +contextual (maxSteps := 600000) (disch := omega) only [go_sem, Nat.reduceEqDiff, ↓reduceIte, Int.reduceEq, Int.reduceNeg, wrap_add, e0, e1, e9, e10, c0, natOf_nat, ia, la, hH.iad (j := x) (by omega), hH.ld (j := x) (by omega)]
          refine by_ret (S.call _ _ _) ?_
          cases hl : lt D[x]! D[a]! with
          | false =>
            rw [if_neg (by simp [hl])] at hU
            simp +contextual (maxSteps := 600000) (disch := omega) only [go_sem, Nat.reduceEqDiff, ↓reduceIte, Int.reduceEq, Int.reduceNeg, wrap_add, e0, e1, e9, e10, c0, hl]
            refine hY2 _ _ ⟨?_, ?_, ?_, ?_, rfl⟩
            all_goals simp +contextual (maxSteps := 600000) (disch := omega) only [go_sem, Nat.reduceEqDiff, ↓reduceIte, Int.reduceEq, Int.reduceNeg, wrap_add, e0, e1, e9, e10, hU]
          | true =>
            rw [if_pos (by simp [hl]; omega)] at hU
            simp +contextual (maxSteps := 600000) (disch := omega) only [go_sem, Nat.reduceEqDiff, ↓reduceIte, Int.reduceEq, Int.reduceNeg, wrap_add, e0, e1, e9, e10, c0, hl]
            refine ⟨j + 1 - (x + 1), by omega, hJ2 _ _ _ ⟨x + 1, ?_, ?_, ?_, ?_, rfl, by omega, by omega, rfl, hU⟩⟩
            all_goals simp +contextual (maxSteps := 600000) (disch := omega) only [go_sem, Nat.reduceEqDiff, ↓reduceIte, Int.reduceEq, Int.reduceNeg, wrap_add, e0, e1, e9, e10]
      clear e0 e1 e9 e10
      rintro env τ' ⟨e0, e1, e9, e10, rfl⟩
      obtain ⟨u1, u2, -, u4⟩ := scanUp_spec (fun x => lt x D[a]!) D j _ i rfl
      have u2 := u2 hij
      obtain ⟨x, hx⟩ : ∃ x, x = scanUp (fun x => lt x D[a]!) D j i := ⟨_, rfl⟩
      rw [← hx] at hE e9 u1 u2 u4
      simp +contextual (maxSteps := 600000) (disch := omega) only [go_sem, Nat.reduceEqDiff, ↓reduceIte, Int.reduceEq, Int.reduceNeg, wrap_add, List.append_nil]
      refine vc_lopX (fun n env τ' => ∃ (y : Nat), env 0 = v ∧ env 1 = gi a  ∧ env 10 = gi x ∧ env 11 = gi y ∧ y + 1 = n ∧ y ≤ j ∧ x ≤ y + 1 ∧ τ = τ' ∧ scanDown (fun x => !lt x D[a]!) D x y = scanDown (fun x => !lt x D[a]!) D x j) (j + 1) 8 (fun env τ' => env 0 = v ∧ env 1 = gi a  ∧ env 10 = gi x ∧ env 11 = gi (scanDown (fun x => !lt x D[a]!) D x j : Nat) ∧ τ = τ' ∧ x ≤ scanDown (fun x => !lt x D[a]!) D x j + 1) ⟨j, e0, e1, e9, e10, rfl, Nat.le_refl _, u2, rfl, rfl⟩ ?_ ?_
      · clear e0 e1 e9 e10
        rintro J2 Y2 hJ2 hY2 n2 env τ' ⟨y, e0, e1, e9, e10, hn2, hy1, hy2, rfl, hU⟩
        rcases Nat.lt_or_ge y x with hlt | hge
        · have hU : scanDown (fun x => !lt x D[a]!) D x j = y := by
            rw [← hU]
            cases y with
            | zero => rfl
            | succ y => rw [scanDown, if_neg (by simp; intro h; omega)]
          have c0 : decide ((x : Int) ≤ y) = false := by simp; omega
          simp +contextual (maxSteps := 600000) (disch := omega) only [go_sem, Nat.reduceEqDiff, ↓reduceIte, Int.reduceEq, Int.reduceNeg, wrap_add, e0, e1, e9, e10, c0]
          refine hY2 _ _ ⟨?_, ?_, ?_, ?_, rfl, by omega⟩
          all_goals simp +contextual (maxSteps := 600000) (disch := omega) only [go_sem, Nat.reduceEqDiff, ↓reduceIte, Int.reduceEq, Int.reduceNeg, wrap_add, e0, e1, e9, e10, hU]
        · obtain ⟨z, rfl⟩ : ∃ z, y = z + 1 := ⟨y - 1, by omega⟩
          rw [scanDown] at hU
          have c0 : decide ((x : Int) ≤ (z : Int) + 1) = true := by simp; omega
          have n1 : natOf (some (.int .i64 ((z : Int) + 1))) = some (z + 1) := natOf_of (by simp)
          have z1 : (z : Int) + 1 - 1 = z := by omega
          simp +contextual (maxSteps := 600000) (disch := omega) only [go_sem, Nat.reduceEqDiff, ↓reduceIte, Int.reduceEq, Int.reduceNeg, wrap_add, e0, e1, e9, e10, c0, natOf_nat, n1, ia, la, hH.iad (j := z + 1) (by omega), hH.ld (j := z + 1) (by omega)]
          refine by_ret (S.call _ _ _) ?_
          cases hl : lt D[z + 1]! D[a]! with
          | true =>
            rw [if_neg (by simp [hl])] at hU
            simp +contextual (maxSteps := 600000) (disch := omega) only [go_sem, Nat.reduceEqDiff, ↓reduceIte, Int.reduceEq, Int.reduceNeg, wrap_add, e0, e1, e9, e10, c0, hl]
            refine hY2 _ _ ⟨?_, ?_, ?_, ?_, rfl, by omega⟩
            all_goals simp +contextual (maxSteps := 600000) (disch := omega) only [go_sem, Nat.reduceEqDiff, ↓reduceIte, Int.reduceEq, Int.reduceNeg, wrap_add, e0, e1, e9, e10, ← hU]
          | false =>
            rw [if_pos (by simp [hl]; omega)] at hU
            simp +contextual (maxSteps := 600000) (disch := omega) only [go_sem, Nat.reduceEqDiff, ↓reduceIte, Int.reduceEq, Int.reduceNeg, wrap_add, e0, e1, e9, e10, c0, z1, hl]
            refine ⟨z + 1, by omega, hJ2 _ _ _ ⟨z, ?_, ?_, ?_, ?_, rfl, by omega, by omega, rfl, hU⟩⟩
            all_goals simp +contextual (maxSteps := 600000) (disch := omega) only [go_sem, Nat.reduceEqDiff, ↓reduceIte, Int.reduceEq, Int.reduceNeg, wrap_add, e0, e1, e9, e10]
      clear e0 e1 e9 e10
      rintro env τ' ⟨e0, e1, e9, e10, rfl, hxy⟩
      have w1 := scanDown_le (fun x => !lt x D[a]!) D x j
      have w4 := (scanDown_spec (fun x => !lt x D[a]!) D x j).2.2.2
      obtain ⟨y, hy⟩ : ∃ y, y = scanDown (fun x => !lt x D[a]!) D x j := ⟨_, rfl⟩
      rw [← hy] at hE e10 w1 w4 hxy
      have hne : x ≠ y := by
        rintro rfl
        have q1 : lt D[x]! D[a]! = false := u4 w1
        have q2 : (!lt D[x]! D[a]!) = false := w4 (Nat.le_refl _) (by omega)
        rw [q1] at q2; cases q2
      rcases Nat.lt_or_ge y x with hlt | hge
      · rw [if_pos hlt] at hE
        subst hE
        have c0 : decide ((y : Int) < x) = true := by simp; omega
        obtain ⟨τ3, τ4, s3, s4, hH4, hl4⟩ := hH.sw (a := y) (b := a) (by omega) (by omega)
        simp +contextual (maxSteps := 600000) (disch := omega) only [go_sem, Nat.reduceEqDiff, ↓reduceIte, Int.reduceEq, Int.reduceNeg, wrap_add, e0, e1, e9, e10, c0, natOf_nat, hH.iad (j := a) (by omega), hH.ld (j := a) (by omega), hH.iad (j := y) (by omega), hH.ld (j := y) (by omega), s3, s4]
        exact ⟨_, rfl, by omega, rfl, hH4⟩
      · rw [if_neg (by omega)] at hE
        have c0 : decide ((y : Int) < x) = false := by simp; omega
        have y1 : (y : Int) - 1 = ((y - 1 : Nat) : Int) := by omega
        obtain ⟨τ3, τ4, s3, s4, hH4, hl4⟩ := hH.sw (a := x) (b := y) (by omega) (by omega)
        simp +contextual (maxSteps := 600000) (disch := omega) only [go_sem, Nat.reduceEqDiff, ↓reduceIte, Int.reduceEq, Int.reduceNeg, wrap_add, e0, e1, e9, e10, c0, natOf_nat, hH.iad (j := x) (by omega), hH.ld (j := x) (by omega), hH.iad (j := y) (by omega), hH.ld (j := y) (by omega), s3, s4]
        refine ⟨y - 1 + 1 - (x + 1), by omega, hJ _ _ _ ⟨x + 1, y - 1, swp D x y, ?_, ?_, ?_, ?_, rfl, by omega, by omega, by omega, by rw [Go.Sort.swp_size]; exact hD, by omega, hH4, hE⟩⟩
        all_goals simp +contextual (maxSteps := 600000) (disch := omega) only [go_sem, Nat.reduceEqDiff, ↓reduceIte, Int.reduceEq, Int.reduceNeg, wrap_add, e0, e1, e9, e10, y1]
  obtain ⟨r, τ, R, rfl, h⟩ := key
  exact ⟨τ, R, h⟩
end Go.Proofs.YtffnefmklckngaaGreat.Sy.O

/- Sorts: a little insertion. -/
namespace Go.Proofs.YtffnefmklckngaaGreat.Sy.O
open Go Go.RowKit Go.Proofs.YtffnefmklckngaaGreat.Sy Go.Sort
set_option linter.unusedSimpArgs false
set_option linter.unusedVariables false
set_option maxRecDepth 4000
variable {α : Type} [Inhabited α] {lt : α → α → Bool} {σ0 σ : St} {rs : List Thg} {k : Nat} {v : GV} {d : Array α}
theorem scanSorted_ge (lt : α → α → Bool) (d : Array α) (b : Nat) : ∀ (n i : Nat), b - i = n → i ≤ scanSorted lt d b i ∧ (i ≤ b → scanSorted lt d b i ≤ b) := by
  intro n
  induction n with
  | zero =>
    intro i hn
    rw [scanSorted, if_neg (by simp; intro h; omega)]
    exact ⟨Nat.le_refl _, fun h => h⟩
  | succ n ih =>
    intro i hn
    rw [scanSorted]
    split
    · have := ih (i + 1) (by omega)
      exact ⟨by omega, fun _ => this.2 (by omega)⟩
    · exact ⟨Nat.le_refl _, fun h => h⟩
theorem shiftDown_size (lt : α → α → Bool) : ∀ (j : Nat) (d : Array α), (shiftDown lt j d).size = d.size
  | 0, _ => rfl
  | j + 1, d => by
    rw [shiftDown]
    split
    · rfl
    · rw [shiftDown_size lt j, Go.Sort.swp_size]
theorem shiftUp_size (lt : α → α → Bool) (b : Nat) : ∀ (n j : Nat) (d : Array α), b - j = n → (shiftUp lt b j d).size = d.size := by
  intro n
  induction n with
  | zero => intro j d h; rw [shiftUp, if_neg (by omega)]
  | succ n ih =>
    intro j d h
    rw [shiftUp, if_pos (by omega)]
    split
    · rfl
    · rw [ih _ _ (by omega), Go.Sort.swp_size]
set_option maxHeartbeats 2000000 in
theorem pis_ret (S : SrtO α lt) (H : Holds S.e σ0 σ rs k v d) {a b : Nat} (hab : a < b) (hb : b ≤ d.size) (hs : d.size ≤ 1099511627776) : ∃ τ, Ret Tryz.prog S.q.partialInsertionSort [v, gi a, gi b] σ (.bool (partialInsertionSort lt d a b).2) τ ∧ Holds S.e σ0 τ rs k v (partialInsertionSort lt d a b).1 := by
  have key : ∃ r τ, Ret Tryz.prog S.q.partialInsertionSort [v, gi a, gi b] σ r τ ∧ r = .bool (partialInsertionSort lt d a b).2 ∧ Holds S.e σ0 τ rs k v (partialInsertionSort lt d a b).1 := by
    refine ret_mut S.h_partialInsertionSort (Nat.le_of_ble_eq_true rfl) ?_
    rw [partialInsertionSort]
    obtain ⟨R, hR⟩ : ∃ R, R = partialIns lt a b 5 (a + 1) d := ⟨_, rfl⟩
    rw [← hR]
    simp +contextual (maxSteps := 600000) (disch := omega) only [go_sem, Nat.reduceEqDiff, ↓reduceIte, Int.reduceEq, Int.reduceNeg, wrap_add, G_partialInsertionSort_o]
    refine vc_lopJ (fun n env τ => ∃ (s i : Nat) (D : Array α), env 0 = v ∧ env 1 = gi a ∧ env 2 = gi b  ∧ env 7 = gi i ∧ env 8 = gi s ∧ 5 - s = n ∧ s ≤ 5 ∧ a < i ∧ i ≤ b ∧ D.size = d.size ∧ σ.length ≤ τ.length ∧ Holds S.e σ0 τ rs k v D ∧ partialIns lt a b (5 - s) i D = R) 5 ⟨0, a + 1, d, rfl, rfl, rfl, rfl, rfl, rfl, by omega, by omega, by omega, rfl, Nat.le_refl _, H, hR.symm⟩ ?_
    rintro J hJ n env τ ⟨s, i0, D, e0, e1, e2, e7, e8, hn, hs5, hai, hib, hD, hle, hH, hE⟩
    rcases Nat.lt_or_ge s 5 with h5 | h5
    · have c0 : decide ((s : Int) < 5) = true := by simp; omega
      obtain ⟨m, hm⟩ : ∃ m, 5 - s = m + 1 := ⟨4 - s, by omega⟩
      rw [hm, partialIns] at hE
      dsimp only at hE
      simp +contextual (maxSteps := 600000) (disch := omega) only [go_sem, Nat.reduceEqDiff, ↓reduceIte, Int.reduceEq, Int.reduceNeg, wrap_add, e0, e1, e2, e7, e8, c0]
      refine vc_lopX (fun n env τ' => ∃ (x : Nat), env 0 = v ∧ env 1 = gi a ∧ env 2 = gi b  ∧ env 7 = gi x ∧ env 8 = gi s ∧ b - x = n ∧ i0 ≤ x ∧ x ≤ b ∧ τ = τ' ∧ scanSorted lt D b x = scanSorted lt D b i0) (b - i0) 2 (fun env τ' => env 0 = v ∧ env 1 = gi a ∧ env 2 = gi b  ∧ env 7 = gi (scanSorted lt D b i0 : Nat) ∧ env 8 = gi s ∧ τ = τ') ⟨i0, by simp +contextual (maxSteps := 600000) (disch := omega) only [go_sem, Nat.reduceEqDiff, ↓reduceIte, Int.reduceEq, Int.reduceNeg, wrap_add, e0], by simp +contextual (maxSteps := 600000) (disch := omega) only [go_sem, Nat.reduceEqDiff, ↓reduceIte, Int.reduceEq, Int.reduceNeg, wrap_add, e1], by simp +contextual (maxSteps := 600000) (disch := omega) only [go_sem, Nat.reduceEqDiff, ↓reduceIte, Int.reduceEq, Int.reduceNeg, wrap_add, e2], by simp +contextual (maxSteps := 600000) (disch := omega) only [go_sem, Nat.reduceEqDiff, ↓reduceIte, Int.reduceEq, Int.reduceNeg, wrap_add, e7], by simp +contextual (maxSteps := 600000) (disch := omega) only [go_sem, Nat.reduceEqDiff, ↓reduceIte, Int.reduceEq, Int.reduceNeg, wrap_add, e8], rfl, Nat.le_refl _, hib, rfl, rfl⟩ ?_ ?_
      · clear e0 e1 e2 e7 e8
        rintro J2 Y2 hJ2 hY2 n2 env τ' ⟨x, e0, e1, e2, e7, e8, hn2, hx1, hx2, rfl, hU⟩
        rw [scanSorted] at hU
        rcases Nat.lt_or_ge x b with hx | hx
        · have c1 : decide ((x : Int) < b) = true := by simp; omega
          have x1 : (x : Int) - 1 = ((x - 1 : Nat) : Int) := by omega
          simp +contextual (maxSteps := 600000) (disch := omega) only [go_sem, Nat.reduceEqDiff, ↓reduceIte, Int.reduceEq, Int.reduceNeg, wrap_add, e0, e1, e2, e7, e8, c1, x1, natOf_nat, hH.iad (j := x) (by omega), hH.ld (j := x) (by omega), hH.iad (j := x - 1) (by omega), hH.ld (j := x - 1) (by omega)]
          refine by_ret (S.call _ _ _) ?_
          cases hl : lt D[x]! D[x - 1]! with
          | true =>
            rw [if_neg (by simp [hl])] at hU
            simp +contextual (maxSteps := 600000) (disch := omega) only [go_sem, Nat.reduceEqDiff, ↓reduceIte, Int.reduceEq, Int.reduceNeg, wrap_add, e0, e1, e2, e7, e8, c1, hl]
            refine hY2 _ _ ⟨?_, ?_, ?_, ?_, ?_, rfl⟩
            all_goals simp +contextual (maxSteps := 600000) (disch := omega) only [go_sem, Nat.reduceEqDiff, ↓reduceIte, Int.reduceEq, Int.reduceNeg, wrap_add, e0, e1, e2, e7, e8, hU]
          | false =>
            rw [if_pos (by simp [hl]; omega)] at hU
            simp +contextual (maxSteps := 600000) (disch := omega) only [go_sem, Nat.reduceEqDiff, ↓reduceIte, Int.reduceEq, Int.reduceNeg, wrap_add, e0, e1, e2, e7, e8, c1, hl]
            refine ⟨b - (x + 1), by omega, hJ2 _ _ _ ⟨x + 1, ?_, ?_, ?_, ?_, ?_, rfl, by omega, by omega, rfl, hU⟩⟩
            all_goals simp +contextual (maxSteps := 600000) (disch := omega) only [go_sem, Nat.reduceEqDiff, ↓reduceIte, Int.reduceEq, Int.reduceNeg, wrap_add, e0, e1, e2, e7, e8]
        · rw [if_neg (by simp; intro h; omega)] at hU
          have c1 : decide ((x : Int) < b) = false := by simp; omega
          simp +contextual (maxSteps := 600000) (disch := omega) only [go_sem, Nat.reduceEqDiff, ↓reduceIte, Int.reduceEq, Int.reduceNeg, wrap_add, e0, e1, e2, e7, e8, c1]
          refine hY2 _ _ ⟨?_, ?_, ?_, ?_, ?_, rfl⟩
          all_goals simp +contextual (maxSteps := 600000) (disch := omega) only [go_sem, Nat.reduceEqDiff, ↓reduceIte, Int.reduceEq, Int.reduceNeg, wrap_add, e0, e1, e2, e7, e8, hU]
      clear e0 e1 e2 e7 e8
      rintro env τ' ⟨e0, e1, e2, e7, e8, rfl⟩
      obtain ⟨g1, g2⟩ := scanSorted_ge lt D b _ i0 rfl
      have g2 := g2 hib
      obtain ⟨i, hi⟩ : ∃ i, i = scanSorted lt D b i0 := ⟨_, rfl⟩
      rw [← hi] at hE e7 g1 g2
      by_cases h1 : i = b
      · rw [if_pos h1] at hE
        subst hE
        have c1 : ((b : Int) == b) = true := by simp
        rw [h1] at e7
        simp +contextual (maxSteps := 600000) (disch := omega) only [go_sem, Nat.reduceEqDiff, ↓reduceIte, Int.reduceEq, Int.reduceNeg, wrap_add, e0, e1, e2, e7, e8, c1]
        exact ⟨_, rfl, hle, rfl, hH⟩
      · rw [if_neg h1] at hE
        have c1 : ((i : Int) == b) = false := by simp; omega
        by_cases h50 : b - a < 50
        · rw [if_pos h50] at hE
          subst hE
          have c2 : decide ((b : Int) - a < 50) = true := by simp; omega
          simp +contextual (maxSteps := 600000) (disch := omega) only [go_sem, Nat.reduceEqDiff, ↓reduceIte, Int.reduceEq, Int.reduceNeg, wrap_add, e0, e1, e2, e7, e8, c1, c2]
          exact ⟨_, rfl, hle, rfl, hH⟩
        · rw [if_neg h50] at hE
          have c2 : decide ((b : Int) - a < 50) = false := by simp; omega
          have i1 : (i : Int) - 1 = ((i - 1 : Nat) : Int) := by omega
          obtain ⟨τ1, τ2, s1, s2, hH1, hl1⟩ := hH.sw (a := i) (b := i - 1) (by omega) (by omega)
          simp +contextual (maxSteps := 600000) (disch := omega) only [go_sem, Nat.reduceEqDiff, ↓reduceIte, Int.reduceEq, Int.reduceNeg, wrap_add, e0, e1, e2, e7, e8, c1, c2, i1, natOf_nat, hH.iad (j := i) (by omega), hH.ld (j := i) (by omega), hH.iad (j := i - 1) (by omega), hH.ld (j := i - 1) (by omega), s1, s2]
          have hD1 : (swp D i (i - 1)).size = d.size := by rw [Go.Sort.swp_size]; exact hD
          have hle1 : σ.length ≤ τ2.length := by omega
          obtain ⟨D1, hD10⟩ : ∃ D1, D1 = swp D i (i - 1) := ⟨_, rfl⟩
          rw [← hD10] at hE hD1 hH1
          clear hH hle s1 s2
          by_cases hA : i - a ≥ 2
          · rw [if_pos hA] at hE
            have cA : decide ((2 : Int) ≤ (i : Int) - a) = true := by simp; omega
            simp +contextual (maxSteps := 600000) (disch := omega) only [go_sem, Nat.reduceEqDiff, ↓reduceIte, Int.reduceEq, Int.reduceNeg, wrap_add, e0, e1, e2, e7, e8, cA]
            refine vc_lopX (fun n env τ => ∃ (j : Nat) (E : Array α), env 0 = v ∧ env 1 = gi a ∧ env 2 = gi b  ∧ env 7 = gi i ∧ env 8 = gi s ∧ env 9 = gi j ∧ j = n ∧ j < b ∧ E.size = d.size ∧ σ.length ≤ τ.length ∧ Holds S.e σ0 τ rs k v E ∧ shiftDown lt j E = shiftDown lt (i - 1) D1) (i - 1) 4 (fun env τ => env 0 = v ∧ env 1 = gi a ∧ env 2 = gi b  ∧ env 7 = gi i ∧ env 8 = gi s ∧ σ.length ≤ τ.length ∧ Holds S.e σ0 τ rs k v (shiftDown lt (i - 1) D1)) ⟨i - 1, D1, by simp +contextual (maxSteps := 600000) (disch := omega) only [go_sem, Nat.reduceEqDiff, ↓reduceIte, Int.reduceEq, Int.reduceNeg, wrap_add, e0], by simp +contextual (maxSteps := 600000) (disch := omega) only [go_sem, Nat.reduceEqDiff, ↓reduceIte, Int.reduceEq, Int.reduceNeg, wrap_add, e1], by simp +contextual (maxSteps := 600000) (disch := omega) only [go_sem, Nat.reduceEqDiff, ↓reduceIte, Int.reduceEq, Int.reduceNeg, wrap_add, e2], by simp +contextual (maxSteps := 600000) (disch := omega) only [go_sem, Nat.reduceEqDiff, ↓reduceIte, Int.reduceEq, Int.reduceNeg, wrap_add, e7], by simp +contextual (maxSteps := 600000) (disch := omega) only [go_sem, Nat.reduceEqDiff, ↓reduceIte, Int.reduceEq, Int.reduceNeg, wrap_add, e8], by simp +contextual (maxSteps := 600000) (disch := omega) only [go_sem, Nat.reduceEqDiff, ↓reduceIte, Int.reduceEq, Int.reduceNeg, wrap_add, i1], rfl, by omega, hD1, hle1, hH1, rfl⟩ ?_ ?_
            · clear e0 e1 e2 e7 e8
              rintro J2 Y2 hJ2 hY2 n2 env τ ⟨j, E, e0, e1, e2, e7, e8, e9, hn2, hj, hE2, hle2, hH, hU⟩
              cases j with
              | zero =>
                have c5 : decide ((1 : Int) ≤ 0) = false := rfl
                simp +contextual (maxSteps := 600000) (disch := omega) only [go_sem, Nat.reduceEqDiff, ↓reduceIte, Int.reduceEq, Int.reduceNeg, wrap_add, e0, e1, e2, e7, e8, e9, c5, Int.natCast_zero]
                refine hY2 _ _ ⟨?_, ?_, ?_, ?_, ?_, hle2, by rw [← hU]; exact hH⟩
                all_goals simp +contextual (maxSteps := 600000) (disch := omega) only [go_sem, Nat.reduceEqDiff, ↓reduceIte, Int.reduceEq, Int.reduceNeg, wrap_add, e0, e1, e2, e7, e8]
              | succ m =>
                have c5 : decide ((1 : Int) ≤ (m : Int) + 1) = true := decide_eq_true (by omega)
                have n1 : natOf (some (.int .i64 ((m : Int) + 1))) = some (m + 1) := natOf_of (by simp)
                have m1 : (m : Int) + 1 - 1 = m := by omega
                rw [shiftDown] at hU
                simp +contextual (maxSteps := 600000) (disch := omega) only [go_sem, Nat.reduceEqDiff, ↓reduceIte, Int.reduceEq, Int.reduceNeg, wrap_add, e0, e1, e2, e7, e8, e9, c5, n1, m1, natOf_nat, hH.iad (j := m + 1) (by omega), hH.ld (j := m + 1) (by omega), hH.iad (j := m) (by omega), hH.ld (j := m) (by omega)]
                refine by_ret (S.call _ _ _) ?_
                cases hl : lt E[m + 1]! E[m]! with
                | false =>
                  rw [if_pos (by simp [hl])] at hU
                  simp +contextual (maxSteps := 600000) (disch := omega) only [go_sem, Nat.reduceEqDiff, ↓reduceIte, Int.reduceEq, Int.reduceNeg, wrap_add, e0, e1, e2, e7, e8, e9, hl]
                  refine hY2 _ _ ⟨?_, ?_, ?_, ?_, ?_, hle2, by rw [← hU]; exact hH⟩
                  all_goals simp +contextual (maxSteps := 600000) (disch := omega) only [go_sem, Nat.reduceEqDiff, ↓reduceIte, Int.reduceEq, Int.reduceNeg, wrap_add, e0, e1, e2, e7, e8]
                | true =>
                  rw [if_neg (by simp [hl])] at hU
                  obtain ⟨τ3, τ4, s3, s4, hH4, hl4⟩ := hH.sw (a := m + 1) (b := m) (by omega) (by omega)
                  simp +contextual (maxSteps := 600000) (disch := omega) only [go_sem, Nat.reduceEqDiff, ↓reduceIte, Int.reduceEq, Int.reduceNeg, wrap_add, e0, e1, e2, e7, e8, e9, n1, m1, natOf_nat, hl, hH.iad (j := m + 1) (by omega), hH.ld (j := m + 1) (by omega), hH.iad (j := m) (by omega), hH.ld (j := m) (by omega), s3, s4]
                  refine ⟨m, by omega, hJ2 _ _ _ ⟨m, swp E (m + 1) m, ?_, ?_, ?_, ?_, ?_, ?_, rfl, by omega, by rw [Go.Sort.swp_size]; exact hE2, by omega, hH4, hU⟩⟩
                  all_goals simp +contextual (maxSteps := 600000) (disch := omega) only [go_sem, Nat.reduceEqDiff, ↓reduceIte, Int.reduceEq, Int.reduceNeg, wrap_add, e0, e1, e2, e7, e8, m1]
            clear e0 e1 e2 e7 e8 hH1 hle1
            rintro env τ ⟨e0, e1, e2, e7, e8, hle2, hH2⟩
            have hD2 := (shiftDown_size lt (i - 1) D1).trans hD1
            obtain ⟨D2, hD20⟩ : ∃ D2, D2 = shiftDown lt (i - 1) D1 := ⟨_, rfl⟩
            rw [← hD20] at hE hD2 hH2
            simp +contextual (maxSteps := 600000) (disch := omega) only [go_sem, Nat.reduceEqDiff, ↓reduceIte, Int.reduceEq, Int.reduceNeg, wrap_add, List.append_nil]
            by_cases hB : b - i ≥ 2
            · rw [if_pos hB] at hE
              have cB : decide ((2 : Int) ≤ (b : Int) - i) = true := by simp; omega
              simp +contextual (maxSteps := 600000) (disch := omega) only [go_sem, Nat.reduceEqDiff, ↓reduceIte, Int.reduceEq, Int.reduceNeg, wrap_add, e0, e1, e2, e7, e8, cB, cA]
              refine vc_lopX (fun n env τ => ∃ (j : Nat) (E : Array α), env 0 = v ∧ env 1 = gi a ∧ env 2 = gi b  ∧ env 7 = gi i ∧ env 8 = gi s ∧ env 10 = gi j ∧ b - j = n ∧ 1 ≤ j ∧ j ≤ b ∧ E.size = d.size ∧ σ.length ≤ τ.length ∧ Holds S.e σ0 τ rs k v E ∧ shiftUp lt b j E = shiftUp lt b (i + 1) D2) (b - (i + 1)) 6 (fun env τ => env 0 = v ∧ env 1 = gi a ∧ env 2 = gi b  ∧ env 7 = gi i ∧ env 8 = gi s ∧ σ.length ≤ τ.length ∧ Holds S.e σ0 τ rs k v (shiftUp lt b (i + 1) D2)) ⟨i + 1, D2, by simp +contextual (maxSteps := 600000) (disch := omega) only [go_sem, Nat.reduceEqDiff, ↓reduceIte, Int.reduceEq, Int.reduceNeg, wrap_add, e0], by simp +contextual (maxSteps := 600000) (disch := omega) only [go_sem, Nat.reduceEqDiff, ↓reduceIte, Int.reduceEq, Int.reduceNeg, wrap_add, e1], by simp +contextual (maxSteps := 600000) (disch := omega) only [go_sem, Nat.reduceEqDiff, ↓reduceIte, Int.reduceEq, Int.reduceNeg, wrap_add, e2], by simp +contextual (maxSteps := 600000) (disch := omega) only [go_sem, Nat.reduceEqDiff, ↓reduceIte, Int.reduceEq, Int.reduceNeg, wrap_add, e7], by simp +contextual (maxSteps := 600000) (disch := omega) only [go_sem, Nat.reduceEqDiff, ↓reduceIte, Int.reduceEq, Int.reduceNeg, wrap_add, e8], by simp +contextual (maxSteps := 600000) (disch := omega) only [go_sem, Nat.reduceEqDiff, ↓reduceIte, Int.reduceEq, Int.reduceNeg, wrap_add, e7], rfl, by omega, by omega, hD2, hle2, hH2, rfl⟩ ?_ ?_
              · clear e0 e1 e2 e7 e8
                rintro J2 Y2 hJ2 hY2 n2 env τ ⟨j, E, e0, e1, e2, e7, e8, e9, hn2, hj1, hj, hE2, hle3, hH, hU⟩
                rw [shiftUp] at hU
                rcases Nat.lt_or_ge j b with hjb | hjb
                · rw [if_pos hjb] at hU
                  have c5 : decide ((j : Int) < b) = true := by simp; omega
                  have j1 : (j : Int) - 1 = ((j - 1 : Nat) : Int) := by omega
                  simp +contextual (maxSteps := 600000) (disch := omega) only [go_sem, Nat.reduceEqDiff, ↓reduceIte, Int.reduceEq, Int.reduceNeg, wrap_add, e0, e1, e2, e7, e8, e9, c5, j1, natOf_nat, hH.iad (j := j) (by omega), hH.ld (j := j) (by omega), hH.iad (j := j - 1) (by omega), hH.ld (j := j - 1) (by omega)]
                  refine by_ret (S.call _ _ _) ?_
                  cases hl : lt E[j]! E[j - 1]! with
                  | false =>
                    rw [if_pos (by simp [hl])] at hU
                    simp +contextual (maxSteps := 600000) (disch := omega) only [go_sem, Nat.reduceEqDiff, ↓reduceIte, Int.reduceEq, Int.reduceNeg, wrap_add, e0, e1, e2, e7, e8, e9, hl]
                    refine hY2 _ _ ⟨?_, ?_, ?_, ?_, ?_, hle3, by rw [← hU]; exact hH⟩
                    all_goals simp +contextual (maxSteps := 600000) (disch := omega) only [go_sem, Nat.reduceEqDiff, ↓reduceIte, Int.reduceEq, Int.reduceNeg, wrap_add, e0, e1, e2, e7, e8]
                  | true =>
                    rw [if_neg (by simp [hl])] at hU
                    obtain ⟨τ3, τ4, s3, s4, hH4, hl4⟩ := hH.sw (a := j) (b := j - 1) (by omega) (by omega)
                    simp +contextual (maxSteps := 600000) (disch := omega) only [go_sem, Nat.reduceEqDiff, ↓reduceIte, Int.reduceEq, Int.reduceNeg, wrap_add, e0, e1, e2, e7, e8, e9, j1, natOf_nat, hl, hH.iad (j := j) (by omega), hH.ld (j := j) (by omega), hH.iad (j := j - 1) (by omega), hH.ld (j := j - 1) (by omega), s3, s4]
                    refine ⟨b - (j + 1), by omega, hJ2 _ _ _ ⟨j + 1, swp E j (j - 1), ?_, ?_, ?_, ?_, ?_, ?_, rfl, by omega, by omega, by rw [Go.Sort.swp_size]; exact hE2, by omega, hH4, hU⟩⟩
                    all_goals simp +contextual (maxSteps := 600000) (disch := omega) only [go_sem, Nat.reduceEqDiff, ↓reduceIte, Int.reduceEq, Int.reduceNeg, wrap_add, e0, e1, e2, e7, e8, e9]
                · rw [if_neg (by omega)] at hU
                  have c5 : decide ((j : Int) < b) = false := by simp; omega
                  simp +contextual (maxSteps := 600000) (disch := omega) only [go_sem, Nat.reduceEqDiff, ↓reduceIte, Int.reduceEq, Int.reduceNeg, wrap_add, e0, e1, e2, e7, e8, e9, c5]
                  refine hY2 _ _ ⟨?_, ?_, ?_, ?_, ?_, hle3, by rw [← hU]; exact hH⟩
                  all_goals simp +contextual (maxSteps := 600000) (disch := omega) only [go_sem, Nat.reduceEqDiff, ↓reduceIte, Int.reduceEq, Int.reduceNeg, wrap_add, e0, e1, e2, e7, e8]
              clear e0 e1 e2 e7 e8 hH2 hle2
              rintro env τ ⟨e0, e1, e2, e7, e8, hle2, hH2⟩
              simp +contextual (maxSteps := 600000) (disch := omega) only [go_sem, Nat.reduceEqDiff, ↓reduceIte, Int.reduceEq, Int.reduceNeg, wrap_add, e0, e1, e2, e7, e8]
              refine ⟨n - 1, by omega, hJ _ _ _ ⟨s + 1, i, _, ?_, ?_, ?_, ?_, ?_, by omega, by omega, by omega, by omega, (by rw [shiftUp_size lt b _ _ _ rfl]; exact hD2), hle2, hH2, by rw [← hE]; congr 1; omega⟩⟩
              all_goals simp +contextual (maxSteps := 600000) (disch := omega) only [go_sem, Nat.reduceEqDiff, ↓reduceIte, Int.reduceEq, Int.reduceNeg, wrap_add, e0, e1, e2, e7, e8]
            · rw [if_neg hB] at hE
              have cB : decide ((2 : Int) ≤ (b : Int) - i) = false := by simp; omega
              simp +contextual (maxSteps := 600000) (disch := omega) only [go_sem, Nat.reduceEqDiff, ↓reduceIte, Int.reduceEq, Int.reduceNeg, wrap_add, e0, e1, e2, e7, e8, cB, cA]
              refine ⟨n - 1, by omega, hJ _ _ _ ⟨s + 1, i, _, ?_, ?_, ?_, ?_, ?_, by omega, by omega, by omega, by omega, hD2, hle2, hH2, by rw [← hE]; congr 1; omega⟩⟩
              all_goals simp +contextual (maxSteps := 600000) (disch := omega) only [go_sem, Nat.reduceEqDiff, ↓reduceIte, Int.reduceEq, Int.reduceNeg, wrap_add, e0, e1, e2, e7, e8]
          · rw [if_neg hA] at hE
            have cA : decide ((2 : Int) ≤ (i : Int) - a) = false := by simp; omega
            obtain ⟨D2, hD20⟩ : ∃ D2, D2 = D1 := ⟨_, rfl⟩
            have hD2 := hD1
            have hH2 := hH1
            have hle2 := hle1
            rw [← hD20] at hE hD2 hH2
            by_cases hB : b - i ≥ 2
            · rw [if_pos hB] at hE
              have cB : decide ((2 : Int) ≤ (b : Int) - i) = true := by simp; omega
              simp +contextual (maxSteps := 600000) (disch := omega) only [go_sem, Nat.reduceEqDiff, ↓reduceIte, Int.reduceEq, Int.reduceNeg, wrap_add, e0, e1, e2, e7, e8, cB, cA]
              refine vc_lopX (fun n env τ => ∃ (j : Nat) (E : Array α), env 0 = v ∧ env 1 = gi a ∧ env 2 = gi b  ∧ env 7 = gi i ∧ env 8 = gi s ∧ env 10 = gi j ∧ b - j = n ∧ 1 ≤ j ∧ j ≤ b ∧ E.size = d.size ∧ σ.length ≤ τ.length ∧ Holds S.e σ0 τ rs k v E ∧ shiftUp lt b j E = shiftUp lt b (i + 1) D2) (b - (i + 1)) 6 (fun env τ => env 0 = v ∧ env 1 = gi a ∧ env 2 = gi b  ∧ env 7 = gi i ∧ env 8 = gi s ∧ σ.length ≤ τ.length ∧ Holds S.e σ0 τ rs k v (shiftUp lt b (i + 1) D2)) ⟨i + 1, D2, by simp +contextual (maxSteps := 600000) (disch := omega) only [go_sem, Nat.reduceEqDiff, ↓reduceIte, Int.reduceEq, Int.reduceNeg, wrap_add, e0], by simp +contextual (maxSteps := 600000) (disch := omega) only [go_sem, Nat.reduceEqDiff, ↓reduceIte, Int.reduceEq, Int.reduceNeg, wrap_add, e1], by simp +contextual (maxSteps := 600000) (disch := omega) only [go_sem, Nat.reduceEqDiff, ↓reduceIte, Int.reduceEq, Int.reduceNeg, wrap_add, e2], by simp +contextual (maxSteps := 600000) (disch := omega) only [go_sem, Nat.reduceEqDiff, ↓reduceIte, Int.reduceEq, Int.reduceNeg, wrap_add, e7], by simp +contextual (maxSteps := 600000) (disch := omega) only [go_sem, Nat.reduceEqDiff, ↓reduceIte, Int.reduceEq, Int.reduceNeg, wrap_add, e8], by simp +contextual (maxSteps := 600000) (disch := omega) only [go_sem, Nat.reduceEqDiff, ↓reduceIte, Int.reduceEq, Int.reduceNeg, wrap_add, e7], rfl, by omega, by omega, hD2, hle2, hH2, rfl⟩ ?_ ?_
              · clear e0 e1 e2 e7 e8
                rintro J2 Y2 hJ2 hY2 n2 env τ ⟨j, E, e0, e1, e2, e7, e8, e9, hn2, hj1, hj, hE2, hle3, hH, hU⟩
                rw [shiftUp] at hU
                rcases Nat.lt_or_ge j b with hjb | hjb
                · rw [if_pos hjb] at hU
                  have c5 : decide ((j : Int) < b) = true := by simp; omega
                  have j1 : (j : Int) - 1 = ((j - 1 : Nat) : Int) := by omega
                  simp +contextual (maxSteps := 600000) (disch := omega) only [go_sem, Nat.reduceEqDiff, ↓reduceIte, Int.reduceEq, Int.reduceNeg, wrap_add, e0, e1, e2, e7, e8, e9, c5, j1, natOf_nat, hH.iad (j := j) (by omega), hH.ld (j := j) (by omega), hH.iad (j := j - 1) (by omega), hH.ld (j := j - 1) (by omega)]
                  refine by_ret (S.call _ _ _) ?_
                  cases hl : lt E[j]! E[j - 1]! with
                  | false =>
                    rw [if_pos (by simp [hl])] at hU
                    simp +contextual (maxSteps := 600000) (disch := omega) only [go_sem, Nat.reduceEqDiff, ↓reduceIte, Int.reduceEq, Int.reduceNeg, wrap_add, e0, e1, e2, e7, e8, e9, hl]
                    refine hY2 _ _ ⟨?_, ?_, ?_, ?_, ?_, hle3, by rw [← hU]; exact hH⟩
                    all_goals simp +contextual (maxSteps := 600000) (disch := omega) only [go_sem, Nat.reduceEqDiff, ↓reduceIte, Int.reduceEq, Int.reduceNeg, wrap_add, e0, e1, e2, e7, e8]
                  | true =>
                    rw [if_neg (by simp [hl])] at hU
                    obtain ⟨τ3, τ4, s3, s4, hH4, hl4⟩ := hH.sw (a := j) (b := j - 1) (by omega) (by omega)
                    simp +contextual (maxSteps := 600000) (disch := omega) only [go_sem, Nat.reduceEqDiff, ↓reduceIte, Int.reduceEq, Int.reduceNeg, wrap_add, e0, e1, e2, e7, e8, e9, j1, natOf_nat, hl, hH.iad (j := j) (by omega), hH.ld (j := j) (by omega), hH.iad (j := j - 1) (by omega), hH.ld (j := j - 1) (by omega), s3, s4]
                    refine ⟨b - (j + 1), by omega, hJ2 _ _ _ ⟨j + 1, swp E j (j - 1), ?_, ?_, ?_, ?_, ?_, ?_, rfl, by omega, by omega, by rw [Go.Sort.swp_size]; exact hE2, by omega, hH4, hU⟩⟩
                    all_goals simp +contextual (maxSteps := 600000) (disch := omega) only [go_sem, Nat.reduceEqDiff, ↓reduceIte, Int.reduceEq, Int.reduceNeg, wrap_add, e0, e1, e2, e7, e8, e9]
                · rw [if_neg (by omega)] at hU
                  have c5 : decide ((j : Int) < b) = false := by simp; omega
                  simp +contextual (maxSteps := 600000) (disch := omega) only [go_sem, Nat.reduceEqDiff, ↓reduceIte, Int.reduceEq, Int.reduceNeg, wrap_add, e0, e1, e2, e7, e8, e9, c5]
                  refine hY2 _ _ ⟨?_, ?_, ?_, ?_, ?_, hle3, by rw [← hU]; exact hH⟩
                  all_goals simp +contextual (maxSteps := 600000) (disch := omega) only [go_sem, Nat.reduceEqDiff, ↓reduceIte, Int.reduceEq, Int.reduceNeg, wrap_add, e0, e1, e2, e7, e8]
              clear e0 e1 e2 e7 e8 hH2 hle2
              rintro env τ ⟨e0, e1, e2, e7, e8, hle2, hH2⟩
              simp +contextual (maxSteps := 600000) (disch := omega) only [go_sem, Nat.reduceEqDiff, ↓reduceIte, Int.reduceEq, Int.reduceNeg, wrap_add, e0, e1, e2, e7, e8]
              refine ⟨n - 1, by omega, hJ _ _ _ ⟨s + 1, i, _, ?_, ?_, ?_, ?_, ?_, by omega, by omega, by omega, by omega, (by rw [shiftUp_size lt b _ _ _ rfl]; exact hD2), hle2, hH2, by rw [← hE]; congr 1; omega⟩⟩
              all_goals simp +contextual (maxSteps := 600000) (disch := omega) only [go_sem, Nat.reduceEqDiff, ↓reduceIte, Int.reduceEq, Int.reduceNeg, wrap_add, e0, e1, e2, e7, e8]
            · rw [if_neg hB] at hE
              have cB : decide ((2 : Int) ≤ (b : Int) - i) = false := by simp; omega
              simp +contextual (maxSteps := 600000) (disch := omega) only [go_sem, Nat.reduceEqDiff, ↓reduceIte, Int.reduceEq, Int.reduceNeg, wrap_add, e0, e1, e2, e7, e8, cB, cA]
              refine ⟨n - 1, by omega, hJ _ _ _ ⟨s + 1, i, _, ?_, ?_, ?_, ?_, ?_, by omega, by omega, by omega, by omega, hD2, hle2, hH2, by rw [← hE]; congr 1; omega⟩⟩
              all_goals simp +contextual (maxSteps := 600000) (disch := omega) only [go_sem, Nat.reduceEqDiff, ↓reduceIte, Int.reduceEq, Int.reduceNeg, wrap_add, e0, e1, e2, e7, e8]
    · have c0 : decide ((s : Int) < 5) = false := by simp; omega
      have hm : 5 - s = 0 := by omega
      rw [hm, partialIns] at hE
      subst hE
      simp +contextual (maxSteps := 600000) (disch := omega) only [go_sem, Nat.reduceEqDiff, ↓reduceIte, Int.reduceEq, Int.reduceNeg, wrap_add, e0, e1, e2, e7, e8, c0]
      exact ⟨_, rfl, hle, rfl, hH⟩
  obtain ⟨r, τ, R, rfl, h⟩ := key
  exact ⟨τ, R, h⟩
end Go.Proofs.YtffnefmklckngaaGreat.Sy.O

/- Sorts: the pivot; patterns broken. -/
namespace Go.Proofs.YtffnefmklckngaaGreat.Sy.O
open Go Go.RowKit Go.Proofs.YtffnefmklckngaaGreat.Sy Go.Sort
set_option linter.unusedSimpArgs false
set_option linter.unusedVariables false
set_option maxRecDepth 4000
variable {α : Type} [Inhabited α] {lt : α → α → Bool} {σ0 σ : St} {rs : List Thg} {k g : Nat} {s : Int} {v : GV} {d : Array α}
theorem order2_ret (S : SrtO α lt) (H : Holds S.e σ0 σ (pt 1 g [gi s] :: rs) (k + 1) v d) {a b : Nat} (ha : a < d.size) (hb : b < d.size) : ∃ (r1 r2 : Nat) (s' : Int) (τ : St), Ret Tryz.prog S.q.order2 [v, gi a, gi b, .ptr g 0] σ (.tup [gi r1, gi r2]) τ ∧ Holds S.e σ0 τ (pt 1 g [gi s'] :: rs) (k + 1) v d ∧ ((r1 = a ∧ r2 = b) ∨ (r1 = b ∧ r2 = a)) := by
  have key : ∃ r τ, Ret Tryz.prog S.q.order2 [v, gi a, gi b, .ptr g 0] σ r τ ∧ ∃ (r1 r2 : Nat) (s' : Int), r = .tup [gi r1, gi r2] ∧ Holds S.e σ0 τ (pt 1 g [gi s'] :: rs) (k + 1) v d ∧ ((r1 = a ∧ r2 = b) ∨ (r1 = b ∧ r2 = a)) := by
    refine ret_mut S.h_order2 (Nat.le_of_ble_eq_true rfl) ?_
    simp +contextual (maxSteps := 600000) (disch := omega) only [go_sem, Nat.reduceEqDiff, ↓reduceIte, Int.reduceEq, Int.reduceNeg, wrap_add, G_order2_o, natOf_nat, H.iad ha, H.ld ha, H.iad hb, H.ld hb]
    refine by_ret (S.call _ _ _) ?_
    cases hl : lt d[b]! d[a]! with
    | true =>
      have l1 := ld_ptr (a := false) (n := 1) (off := 0) (H.2.pt 0 rfl)
      have l1 : ldG false 1 σ (.ptr g 0) = some (gi s) := l1
      obtain ⟨τ1, st1, H1, hl1⟩ := H.2.st 0 rfl 1 0 (gi (IntKind.i64.wrap (s + 1))) rfl (by decide) (by simp)
      simp +contextual (maxSteps := 600000) (disch := omega) only [go_sem, Nat.reduceEqDiff, ↓reduceIte, Int.reduceEq, Int.reduceNeg, wrap_add, hl, l1, st1]
      exact ⟨_, rfl, by omega, b, a, IntKind.i64.wrap (s + 1), rfl, ⟨H.1, H1⟩, .inr ⟨rfl, rfl⟩⟩
    | false =>
      simp +contextual (maxSteps := 600000) (disch := omega) only [go_sem, Nat.reduceEqDiff, ↓reduceIte, Int.reduceEq, Int.reduceNeg, wrap_add, hl]
      exact ⟨_, rfl, a, b, s, rfl, H, .inl ⟨rfl, rfl⟩⟩
  obtain ⟨r, τ, R, r1, r2, s', rfl, h1, h2⟩ := key
  exact ⟨r1, r2, s', τ, R, h1, h2⟩
theorem median_ret (S : SrtO α lt) (H : Holds S.e σ0 σ (pt 1 g [gi s] :: rs) (k + 1) v d) {a b c : Nat} (ha : a < d.size) (hb : b < d.size) (hc : c < d.size) : ∃ (r1 : Nat) (s' : Int) (τ : St), Ret Tryz.prog S.q.median [v, gi a, gi b, gi c, .ptr g 0] σ (gi r1) τ ∧ Holds S.e σ0 τ (pt 1 g [gi s'] :: rs) (k + 1) v d ∧ (r1 = a ∨ r1 = b ∨ r1 = c) := by
  have key : ∃ r τ, Ret Tryz.prog S.q.median [v, gi a, gi b, gi c, .ptr g 0] σ r τ ∧ ∃ (r1 : Nat) (s' : Int), r = gi r1 ∧ Holds S.e σ0 τ (pt 1 g [gi s'] :: rs) (k + 1) v d ∧ (r1 = a ∨ r1 = b ∨ r1 = c) := by
    refine ret_mut S.h_median (Nat.le_of_ble_eq_true rfl) ?_
    simp +contextual (maxSteps := 600000) (disch := omega) only [go_sem, Nat.reduceEqDiff, ↓reduceIte, Int.reduceEq, Int.reduceNeg, wrap_add, G_median_o]
    obtain ⟨a1, b1, s1, τ1, R1, H1, h1⟩ := order2_ret S H ha hb
    refine by_mut R1 ?_
    simp +contextual (maxSteps := 600000) (disch := omega) only [go_sem, Nat.reduceEqDiff, ↓reduceIte, Int.reduceEq, Int.reduceNeg, wrap_add, List.append_nil]
    obtain ⟨b2, c2, s2, τ2, R2, H2, h2⟩ := order2_ret S H1 (a := b1) (b := c) (by omega) hc
    refine by_mut R2 ?_
    simp +contextual (maxSteps := 600000) (disch := omega) only [go_sem, Nat.reduceEqDiff, ↓reduceIte, Int.reduceEq, Int.reduceNeg, wrap_add, List.append_nil]
    obtain ⟨a3, b3, s3, τ3, R3, H3, h3⟩ := order2_ret S H2 (a := a1) (b := b2) (by omega) (by omega)
    refine by_mut R3 ?_
    simp +contextual (maxSteps := 600000) (disch := omega) only [go_sem, Nat.reduceEqDiff, ↓reduceIte, Int.reduceEq, Int.reduceNeg, wrap_add, List.append_nil]
    have := R1.2.1
    have := R2.2.1
    have := R3.2.1
    exact ⟨_, rfl, by omega, b3, s3, rfl, H3, by omega⟩
  obtain ⟨r, τ, R, r1, s', rfl, h1, h2⟩ := key
  exact ⟨r1, s', τ, R, h1, h2⟩
theorem medAdj_ret (S : SrtO α lt) (H : Holds S.e σ0 σ (pt 1 g [gi s] :: rs) (k + 1) v d) {a : Nat} (h0 : 0 < a) (ha : a + 1 < d.size) (hs : d.size ≤ 1099511627776) : ∃ (r1 : Nat) (s' : Int) (τ : St), Ret Tryz.prog S.q.medianAdjacent [v, gi a, .ptr g 0] σ (gi r1) τ ∧ Holds S.e σ0 τ (pt 1 g [gi s'] :: rs) (k + 1) v d ∧ a ≤ r1 + 1 ∧ r1 ≤ a + 1 := by
  have key : ∃ r τ, Ret Tryz.prog S.q.medianAdjacent [v, gi a, .ptr g 0] σ r τ ∧ ∃ (r1 : Nat) (s' : Int), r = gi r1 ∧ Holds S.e σ0 τ (pt 1 g [gi s'] :: rs) (k + 1) v d ∧ a ≤ r1 + 1 ∧ r1 ≤ a + 1 := by
    refine ret_mut S.h_medianAdjacent (Nat.le_of_ble_eq_true rfl) ?_
    obtain ⟨p, rfl⟩ : ∃ p, a = p + 1 := ⟨a - 1, by omega⟩
    have p1 : (p : Int) + 1 - 1 = p := by omega
    simp +contextual (maxSteps := 600000) (disch := omega) only [go_sem, Nat.reduceEqDiff, ↓reduceIte, Int.reduceEq, Int.reduceNeg, wrap_add, G_medianAdjacent_o, p1]
    obtain ⟨r1, s1, τ1, R1, H1, h1⟩ := median_ret S H (a := p) (b := p + 1) (c := p + 1 + 1) (by omega) (by omega) (by omega)
    refine by_mut R1 ?_
    simp +contextual (maxSteps := 600000) (disch := omega) only [go_sem, Nat.reduceEqDiff, ↓reduceIte, Int.reduceEq, Int.reduceNeg, wrap_add, List.append_nil]
    have := R1.2.1
    exact ⟨_, rfl, by omega, r1, s1, rfl, H1, by omega, by omega⟩
  obtain ⟨r, τ, R, r1, s', rfl, h1, h2⟩ := key
  exact ⟨r1, s', τ, R, h1, h2⟩
theorem choose_ret (S : SrtO α lt) (H : Holds S.e σ0 σ rs k v d) {a b : Nat} (hab : a < b) (hb : b ≤ d.size) (hs : d.size ≤ 1099511627776) : ∃ (p h : Nat) (τ : St), Ret Tryz.prog S.q.choosePivot [v, gi a, gi b] σ (.tup [gi p, gi h]) τ ∧ Holds S.e σ0 τ rs k v d ∧ a ≤ p ∧ p < b ∧ h ≤ 2 := by
  have key : ∃ r τ, Ret Tryz.prog S.q.choosePivot [v, gi a, gi b] σ r τ ∧ ∃ (p h : Nat), r = .tup [gi p, gi h] ∧ Holds S.e σ0 τ rs k v d ∧ a ≤ p ∧ p < b ∧ h ≤ 2 := by
    refine ret_mut S.h_choosePivot (Nat.le_of_ble_eq_true rfl) ?_
    obtain ⟨l, hl⟩ : ∃ l, l = b - a := ⟨_, rfl⟩
    have hlI : (b : Int) - a = l := by omega
    obtain ⟨q, hq⟩ : ∃ q, q = l / 4 := ⟨_, rfl⟩
    have hqI : (l : Int).tdiv 4 = q := by rw [hq]; rfl
    obtain ⟨i, hi⟩ : ∃ i, i = a + q * 1 := ⟨_, rfl⟩
    obtain ⟨j, hj⟩ : ∃ i, i = a + q * 2 := ⟨_, rfl⟩
    obtain ⟨m, hm⟩ : ∃ i, i = a + q * 3 := ⟨_, rfl⟩
    have hiI : (a : Int) + q * 1 = i := by omega
    have hjI : (a : Int) + q * 2 = j := by omega
    have hmI : (a : Int) + q * 3 = m := by omega
    have H0 : Holds S.e σ0 (σ ++ [some (.row 1 [gi 0])]) (pt 1 σ.length [gi 0] :: rs) (k + 1) v d := ⟨by simpa using H.1, H.2.new 1 [gi 0]⟩
    have L0 : (σ ++ [some (Blk.row 1 [GV.int IntKind.i64 0])]).length = σ.length + 1 := by simp
    have L1 : (σ ++ [some (Blk.row 1 [gi 0])]).length = σ.length + 1 := L0
    by_cases h8 : 8 ≤ l
    · have c8 : decide ((8 : Int) ≤ l) = true := by simp; omega
      by_cases h50 : 50 ≤ l
      · have c50 : decide ((50 : Int) ≤ l) = true := by simp; omega
        simp +contextual (maxSteps := 600000) (disch := omega) only [go_sem, Nat.reduceEqDiff, ↓reduceIte, Int.reduceEq, Int.reduceNeg, wrap_add, G_choosePivot_o, hlI, hqI, hiI, hjI, hmI, c8, c50]
        obtain ⟨i1, s1, τ1, R1, H1, h1, h1'⟩ := medAdj_ret S H0 (a := i) (by omega) (by omega) hs
        refine by_mut R1 ?_
        simp +contextual (maxSteps := 600000) (disch := omega) only [go_sem, Nat.reduceEqDiff, ↓reduceIte, Int.reduceEq, Int.reduceNeg, wrap_add, List.append_nil]
        obtain ⟨j1, s2, τ2, R2, H2, h2, h2'⟩ := medAdj_ret S H1 (a := j) (by omega) (by omega) hs
        refine by_mut R2 ?_
        simp +contextual (maxSteps := 600000) (disch := omega) only [go_sem, Nat.reduceEqDiff, ↓reduceIte, Int.reduceEq, Int.reduceNeg, wrap_add, List.append_nil]
        obtain ⟨m1, s3, τ3, R3, H3, h3, h3'⟩ := medAdj_ret S H2 (a := m) (by omega) (by omega) hs
        refine by_mut R3 ?_
        simp +contextual (maxSteps := 600000) (disch := omega) only [go_sem, Nat.reduceEqDiff, ↓reduceIte, Int.reduceEq, Int.reduceNeg, wrap_add, List.append_nil]
        obtain ⟨p, s4, τ4, R4, H4, h4⟩ := median_ret S H3 (a := i1) (b := j1) (c := m1) (by omega) (by omega) (by omega)
        refine by_mut R4 ?_
        have := R1.2.1
        have := R2.2.1
        have := R3.2.1
        have := R4.2.1
        have l1 : ldG false 1 τ4 (.ptr σ.length 0) = some (gi s4) := ld_ptr (a := false) (n := 1) (off := 0) ((H4).2.pt 0 rfl)
        simp +contextual (maxSteps := 600000) (disch := omega) only [go_sem, Nat.reduceEqDiff, ↓reduceIte, Int.reduceEq, Int.reduceNeg, wrap_add, l1]
        have hout : Holds S.e σ0 τ4 rs k v d := ⟨H.1, (H4).2.drop1⟩
        have key0 : ((s4 : Int) == 0) = decide ((s4 : Int) = 0) := rfl
        by_cases h0 : (s4 : Int) = 0
        · have c0 : ((s4 : Int) == 0) = true := by simp [h0]
          simp +contextual (maxSteps := 600000) (disch := omega) only [go_sem, Nat.reduceEqDiff, ↓reduceIte, Int.reduceEq, Int.reduceNeg, wrap_add, c0]
          exact ⟨_, rfl, by omega, p, 1, rfl, hout, by omega, by omega, by omega⟩
        · have c0 : ((s4 : Int) == 0) = false := by simp [h0]
          by_cases h12 : (s4 : Int) = 12
          · have c1 : ((s4 : Int) == 12) = true := by simp [h12]
            simp +contextual (maxSteps := 600000) (disch := omega) only [go_sem, Nat.reduceEqDiff, ↓reduceIte, Int.reduceEq, Int.reduceNeg, wrap_add, c0, c1]
            exact ⟨_, rfl, by omega, p, 2, rfl, hout, by omega, by omega, by omega⟩
          · have c1 : ((s4 : Int) == 12) = false := by simp [h12]
            simp +contextual (maxSteps := 600000) (disch := omega) only [go_sem, Nat.reduceEqDiff, ↓reduceIte, Int.reduceEq, Int.reduceNeg, wrap_add, c0, c1]
            exact ⟨_, rfl, by omega, p, 0, rfl, hout, by omega, by omega, by omega⟩
      · have c50 : decide ((50 : Int) ≤ l) = false := by simp; omega
        simp +contextual (maxSteps := 600000) (disch := omega) only [go_sem, Nat.reduceEqDiff, ↓reduceIte, Int.reduceEq, Int.reduceNeg, wrap_add, G_choosePivot_o, hlI, hqI, hiI, hjI, hmI, c8, c50]
        obtain ⟨p, s4, τ4, R4, H4, h4⟩ := median_ret S H0 (a := i) (b := j) (c := m) (by omega) (by omega) (by omega)
        refine by_mut R4 ?_
        have := R4.2.1
        have l1 : ldG false 1 τ4 (.ptr σ.length 0) = some (gi s4) := ld_ptr (a := false) (n := 1) (off := 0) ((H4).2.pt 0 rfl)
        simp +contextual (maxSteps := 600000) (disch := omega) only [go_sem, Nat.reduceEqDiff, ↓reduceIte, Int.reduceEq, Int.reduceNeg, wrap_add, l1]
        have hout : Holds S.e σ0 τ4 rs k v d := ⟨H.1, (H4).2.drop1⟩
        have key0 : ((s4 : Int) == 0) = decide ((s4 : Int) = 0) := rfl
        by_cases h0 : (s4 : Int) = 0
        · have c0 : ((s4 : Int) == 0) = true := by simp [h0]
          simp +contextual (maxSteps := 600000) (disch := omega) only [go_sem, Nat.reduceEqDiff, ↓reduceIte, Int.reduceEq, Int.reduceNeg, wrap_add, c0]
          exact ⟨_, rfl, by omega, p, 1, rfl, hout, by omega, by omega, by omega⟩
        · have c0 : ((s4 : Int) == 0) = false := by simp [h0]
          by_cases h12 : (s4 : Int) = 12
          · have c1 : ((s4 : Int) == 12) = true := by simp [h12]
            simp +contextual (maxSteps := 600000) (disch := omega) only [go_sem, Nat.reduceEqDiff, ↓reduceIte, Int.reduceEq, Int.reduceNeg, wrap_add, c0, c1]
            exact ⟨_, rfl, by omega, p, 2, rfl, hout, by omega, by omega, by omega⟩
          · have c1 : ((s4 : Int) == 12) = false := by simp [h12]
            simp +contextual (maxSteps := 600000) (disch := omega) only [go_sem, Nat.reduceEqDiff, ↓reduceIte, Int.reduceEq, Int.reduceNeg, wrap_add, c0, c1]
            exact ⟨_, rfl, by omega, p, 0, rfl, hout, by omega, by omega, by omega⟩
    · have c8 : decide ((8 : Int) ≤ l) = false := by simp; omega
      have l1 : ldG false 1 (σ ++ [some (.row 1 [gi 0])]) (.ptr σ.length 0) = some (gi 0) := ld_ptr (a := false) (n := 1) (off := 0) (H0.2.pt 0 rfl)
      have c0 : ((0 : Int) == 0) = true := rfl
      simp +contextual (maxSteps := 600000) (disch := omega) only [go_sem, Nat.reduceEqDiff, ↓reduceIte, Int.reduceEq, Int.reduceNeg, wrap_add, G_choosePivot_o, hlI, hqI, hiI, hjI, hmI, c8, l1, c0]
      exact ⟨_, rfl, by omega, j, 1, rfl, ⟨H.1, H0.2.drop1⟩, by omega, by omega, by omega⟩
  obtain ⟨r, τ, R, p, h, rfl, h1, h2⟩ := key
  exact ⟨p, h, τ, R, h1, h2⟩
theorem break_ret (S : SrtO α lt) (H : Holds S.e σ0 σ rs k v d) {a b : Nat} (hab : a ≤ b) (hb : b ≤ d.size) (hs : d.size ≤ 1099511627776) : ∃ (d' : Array α) (τ : St), Ret Tryz.prog S.q.breakPatterns [v, gi a, gi b] σ (.tup []) τ ∧ Holds S.e σ0 τ rs k v d' ∧ PermIn a b d d' := by
  have key : ∃ r τ, Ret Tryz.prog S.q.breakPatterns [v, gi a, gi b] σ r τ ∧ ∃ (d' : Array α), r = .tup [] ∧ Holds S.e σ0 τ rs k v d' ∧ PermIn a b d d' := by
    refine ret_mut S.h_breakPatterns (Nat.le_of_ble_eq_true rfl) ?_
    obtain ⟨h, hh⟩ : ∃ l, l = b - a := ⟨_, rfl⟩
    have hhI : (b : Int) - a = h := by omega
    by_cases h8 : 8 ≤ h
    · have c8 : decide ((8 : Int) ≤ h) = true := by simp; omega
      have wu : IntKind.u64.wrap (h : Int) = h := wrapU64 (by omega) (by omega)
      obtain ⟨q, hq⟩ : ∃ q, q = h / 4 := ⟨_, rfl⟩
      have hqI : (h : Int).tdiv 4 = q := by rw [hq]; rfl
      obtain ⟨m, hm⟩ : ∃ i, i = a + q * 2 := ⟨_, rfl⟩
      have hmI : (a : Int) + q * 2 = m := by omega
      have hmJ : (m : Int) - 1 = ((m - 1 : Nat) : Int) := by omega
      have H0 : Holds S.e σ0 (σ ++ [some (.row 1 [.int .u64 h])]) (pt 1 σ.length [.int .u64 h] :: rs) (k + 1) v d := ⟨by simpa using H.1, H.2.new 1 [.int .u64 h]⟩
      have sp : splice [GV.int .u64 0] 0 [GV.int .u64 (h : Int)] = [.int .u64 h] := rfl
      simp +contextual (maxSteps := 600000) (disch := omega) only [go_sem, Nat.reduceEqDiff, ↓reduceIte, Int.reduceEq, Int.reduceNeg, wrap_add, G_breakPatterns_o, hhI, c8, wu, GV.cells, sp, List.length_cons, List.length_nil, Nat.reduceAdd, Nat.le_refl, Nat.zero_lt_one, and_self, if_true]
      rw [S.hnp]
      have hbl : h ≤ 1099511627776 := by omega
      refine by_ret (np2_ret _ h hbl) ?_
      obtain ⟨M, hM⟩ : ∃ M, M = 2 ^ bitsLen h := ⟨_, rfl⟩
      have hM1 := Go.Sort.two_pow_bitsLen_le (n := h) (by omega)
      have hM2 := Nat.two_pow_pos (bitsLen h)
      rw [← hM] at hM1 hM2
      rw [← hM]
      have M1 : (M : Int) - 1 = ((M - 1 : Nat) : Int) := by omega
      have wM : IntKind.u64.wrap ((M - 1 : Nat) : Int) = ((M - 1 : Nat) : Int) := wrapU64 (by omega) (by omega)
      have L0 : (σ ++ [some (Blk.row 1 [GV.int .u64 (h : Int)])]).length = σ.length + 1 := by simp
      simp +contextual (maxSteps := 600000) (disch := omega) only [go_sem, Nat.reduceEqDiff, ↓reduceIte, Int.reduceEq, Int.reduceNeg, wrap_add, hqI, hmI, hmJ]
      refine vc_lopJ (fun n env τ => ∃ (x : Nat) (y : Int) (D : Array α), env 0 = v ∧ env 1 = gi a ∧ env 6 = gi h ∧ env 7 = .ptr σ.length 0 ∧ env 8 = .int .u64 (M : Nat) ∧ env 9 = gi x ∧ m + 2 - x = n ∧ m - 1 ≤ x ∧ x ≤ m + 2 ∧ σ.length ≤ τ.length ∧ Holds S.e σ0 τ (pt 1 σ.length [.int .u64 y] :: rs) (k + 1) v D ∧ PermIn a b d D) (m + 2 - (m - 1)) ⟨m - 1, h, d, rfl, rfl, rfl, rfl, rfl, rfl, rfl, Nat.le_refl _, by omega, by omega, H0, permIn_refl _ _ _⟩ ?_
      rintro J hJ n env τ ⟨x, y, D, e0, e1, e6, e7, e8, e9, hn, hx1, hx2, hle, hH, hP⟩
      have hD : D.size = d.size := hP.1
      by_cases hx : x ≤ m + 1
      · have c0 : decide ((x : Int) ≤ (m : Int) + 1) = true := by simp; omega
        simp +contextual (maxSteps := 600000) (disch := omega) only [go_sem, Nat.reduceEqDiff, ↓reduceIte, Int.reduceEq, Int.reduceNeg, wrap_add, e0, e1, e6, e7, e8, e9, hqI, hmI, c0]
        rw [S.hxs]
        obtain ⟨y', τ1, R1, H1⟩ := xs_ret hH.2 0 rfl
        have hle1 := R1.2.1
        have H1 : Holds S.e σ0 τ1 (pt 1 σ.length [.int .u64 y'] :: rs) (k + 1) v D := ⟨hH.1, H1⟩
        obtain ⟨w, hw, hwE⟩ := andU (y := y') (m := M - 1) (by omega)
        have ww : IntKind.i64.wrap (w : Int) = w := wrap_add (by omega) (by omega)
        refine by_mut R1 ?_
        simp +contextual (maxSteps := 600000) (disch := omega) only [go_sem, Nat.reduceEqDiff, ↓reduceIte, Int.reduceEq, Int.reduceNeg, wrap_add, e0, e1, e6, e7, e8, e9, M1, wM, hwE, ww]
        obtain ⟨z, hz, hzI⟩ : ∃ z : Nat, z < h ∧ (z : Int) = if h ≤ w then (w : Int) - h else w := by
          by_cases hc : h ≤ w
          · exact ⟨w - h, by omega, by rw [if_pos hc]; omega⟩
          · exact ⟨w, by omega, by rw [if_neg hc]⟩
        have nz : natOf (some (.int .i64 ((a : Int) + z))) = some (a + z) := natOf_of (by simp)
        obtain ⟨τ3, τ4, s3, s4, hH4, hl4⟩ := H1.sw (a := x) (b := a + z) (by omega) (by omega)
        have hP2 := permIn_trans _ _ _ _ _ hP (swp_permIn D a b x (a + z) (by omega) (by omega) (by omega) (by omega) (by omega))
        by_cases hc : h ≤ w
        · rw [if_pos hc] at hzI
          have cc : decide ((h : Int) ≤ w) = true := by simp; omega
          simp +contextual (maxSteps := 600000) (disch := omega) only [go_sem, Nat.reduceEqDiff, ↓reduceIte, Int.reduceEq, Int.reduceNeg, wrap_add, e0, e1, e6, e7, e8, e9, cc, ← hzI, nz, natOf_nat, H1.iad (j := x) (by omega), H1.ld (j := x) (by omega), H1.iad (j := a + z) (by omega), H1.ld (j := a + z) (by omega), s3, s4]
          refine ⟨m + 2 - (x + 1), by omega, hJ _ _ _ ⟨x + 1, y', _, ?_, ?_, ?_, ?_, ?_, ?_, rfl, by omega, by omega, by omega, hH4, hP2⟩⟩
          all_goals simp +contextual (maxSteps := 600000) (disch := omega) only [go_sem, Nat.reduceEqDiff, ↓reduceIte, Int.reduceEq, Int.reduceNeg, wrap_add, e0, e1, e6, e7, e8, e9]
        · rw [if_neg hc] at hzI
          have hzw : z = w := by omega
          rw [hzw] at nz s3 s4 hH4 hP2 hz
          have cc : decide ((h : Int) ≤ w) = false := by simp; omega
          simp +contextual (maxSteps := 600000) (disch := omega) only [go_sem, Nat.reduceEqDiff, ↓reduceIte, Int.reduceEq, Int.reduceNeg, wrap_add, e0, e1, e6, e7, e8, e9, cc, nz, natOf_nat, H1.iad (j := x) (by omega), H1.ld (j := x) (by omega), H1.iad (j := a + w) (by omega), H1.ld (j := a + w) (by omega), s3, s4]
          refine ⟨m + 2 - (x + 1), by omega, hJ _ _ _ ⟨x + 1, y', _, ?_, ?_, ?_, ?_, ?_, ?_, rfl, by omega, by omega, by omega, hH4, hP2⟩⟩
          all_goals simp +contextual (maxSteps := 600000) (disch := omega) only [go_sem, Nat.reduceEqDiff, ↓reduceIte, Int.reduceEq, Int.reduceNeg, wrap_add, e0, e1, e6, e7, e8, e9]
      · have c0 : decide ((x : Int) ≤ (m : Int) + 1) = false := by simp; omega
        simp +contextual (maxSteps := 600000) (disch := omega) only [go_sem, Nat.reduceEqDiff, ↓reduceIte, Int.reduceEq, Int.reduceNeg, wrap_add, e0, e1, e6, e7, e8, e9, hqI, hmI, c0]
        exact ⟨_, rfl, hle, D, rfl, ⟨H.1, hH.2.drop1⟩, hP⟩
    · have c8 : decide ((8 : Int) ≤ h) = false := by simp; omega
      simp +contextual (maxSteps := 600000) (disch := omega) only [go_sem, Nat.reduceEqDiff, ↓reduceIte, Int.reduceEq, Int.reduceNeg, wrap_add, G_breakPatterns_o, hhI, c8]
      exact ⟨_, rfl, d, rfl, H, permIn_refl _ _ _⟩
  obtain ⟨r, τ, R, d', rfl, h⟩ := key
  exact ⟨d', τ, R, h⟩
end Go.Proofs.YtffnefmklckngaaGreat.Sy.O

/- Sorts: all of it. -/
namespace Go.Proofs.YtffnefmklckngaaGreat.Sy.O
open Go Go.RowKit Go.Proofs.YtffnefmklckngaaGreat.Sy Go.Sort
set_option linter.unusedSimpArgs false
set_option linter.unusedVariables false
set_option maxRecDepth 4000
variable {α : Type} [Inhabited α] {lt : α → α → Bool} {σ0 : St} {rs : List Thg} {k : Nat} {v : GV}
set_option maxHeartbeats 2000000 in
theorem pdq_ret (S : SrtO α lt) (hS : SWO lt) : ∀ (n : Nat) (d : Array α) (a b l : Nat) (σ : St), b - a ≤ n → a ≤ b → b ≤ d.size → d.size ≤ 1099511627776 → l ≤ 1099511627776 → Below lt a b d → Holds S.e σ0 σ rs k v d → ∃ (d' : Array α) (τ : St), Ret Tryz.prog S.q.pdqsort [v, gi a, gi b, gi l] σ (.tup []) τ ∧ Holds S.e σ0 τ rs k v d' ∧ PermIn a b d d' ∧ SortedIn lt a b d' := by
  intro n
  induction n with
  | zero =>
    intro d a b l σ hn hab hb hs hl hB H
    have key : ∃ r τ, Ret Tryz.prog S.q.pdqsort [v, gi a, gi b, gi l] σ r τ ∧ r = .tup [] ∧ Holds S.e σ0 τ rs k v (insertionSort lt d a b) := by
      refine ret_mut S.h_pdqsort (Nat.le_of_ble_eq_true rfl) ?_
      obtain rfl : a = b := by omega
      simp +contextual (maxSteps := 600000) (disch := omega) only [go_sem, Nat.reduceEqDiff, ↓reduceIte, Int.reduceEq, Int.reduceNeg, wrap_add, G_pdqsort_o]
      refine vc_lop (fun n env τ => env 0 = v ∧ env 1 = gi a ∧ env 2 = gi a  ∧ τ = σ) 0 ⟨rfl, rfl, rfl, rfl⟩ ?_
      rintro n env τ ⟨e0, e1, e2, rfl⟩
      have a0 : (a : Int) - a = 0 := by omega
      have c0 : decide ((0 : Int) ≤ 12) = true := rfl
      simp +contextual (maxSteps := 600000) (disch := omega) only [go_sem, Nat.reduceEqDiff, ↓reduceIte, Int.reduceEq, Int.reduceNeg, wrap_add, e0, e1, e2, a0, c0]
      obtain ⟨τ1, R, H1⟩ := ins_ret S H (a := a) (b := a) (Nat.le_refl _) hb hs
      refine by_mut R ?_
      simp +contextual (maxSteps := 600000) (disch := omega) only [go_sem, Nat.reduceEqDiff, ↓reduceIte, Int.reduceEq, Int.reduceNeg, wrap_add, List.append_nil]
      exact ⟨_, rfl, R.2.1, rfl, H1⟩
    obtain ⟨r, τ, R, rfl, H1⟩ := key
    obtain ⟨p1, p2⟩ := insertionSort_holds hS d a b hab hb
    exact ⟨_, τ, R, H1, p1, p2⟩
  | succ N ih =>
    intro d a b l σ hn hab hb hs hl hB H
    have key : ∃ r τ, Ret Tryz.prog S.q.pdqsort [v, gi a, gi b, gi l] σ r τ ∧ ∃ d', r = .tup [] ∧ Holds S.e σ0 τ rs k v d' ∧ PermIn a b d d' ∧ SortedIn lt a b d' := by
      refine ret_mut S.h_pdqsort (Nat.le_of_ble_eq_true rfl) ?_
      simp +contextual (maxSteps := 600000) (disch := omega) only [go_sem, Nat.reduceEqDiff, ↓reduceIte, Int.reduceEq, Int.reduceNeg, wrap_add, G_pdqsort_o]
      refine vc_lopJ (fun n env τ => ∃ (x y l : Nat) (wb wp : Bool) (D : Array α), env 0 = v ∧ env 1 = gi x ∧ env 2 = gi y ∧ env 3 = gi l  ∧ env 8 = .bool wb ∧ env 9 = .bool wp ∧ y - x = n ∧ l ≤ 1099511627776 ∧ a ≤ x ∧ x ≤ y ∧ y ≤ b ∧ D.size = d.size ∧ σ.length ≤ τ.length ∧ Holds S.e σ0 τ rs k v D ∧ Below lt x y D ∧ ∀ R, PermIn x y D R → SortedIn lt x y R → PermIn a b d R ∧ SortedIn lt a b R) (b - a) ⟨a, b, l, true, true, d, rfl, rfl, rfl, rfl, rfl, rfl, rfl, hl, Nat.le_refl _, hab, Nat.le_refl _, rfl, Nat.le_refl _, H, hB, fun R h1 h2 => ⟨h1, h2⟩⟩ ?_
      clear H hB hl
      rintro J hJ n env τ ⟨x, y, l, wb, wp, D, e0, e1, e2, e3, e8, e9, hn2, hl, hax, hxy, hyb, hD, hle, hH, hB, hfin⟩
      rw [vc_blk]
      obtain ⟨h, hh⟩ : ∃ h, h = y - x := ⟨_, rfl⟩
      have hhI : (y : Int) - x = h := by omega
      refine vc_seqX (fun env τ' => env 0 = v ∧ env 1 = gi x ∧ env 2 = gi y ∧ env 3 = gi l  ∧ env 8 = .bool wb ∧ env 9 = .bool wp ∧ env 10 = gi h ∧ τ = τ') (fun Y hY => by
        simp +contextual (maxSteps := 600000) (disch := omega) only [go_sem, Nat.reduceEqDiff, ↓reduceIte, Int.reduceEq, Int.reduceNeg, wrap_add, e0, e1, e2, e3, e8, e9, hhI]
        refine hY _ _ ⟨?_, ?_, ?_, ?_, ?_, ?_, ?_, rfl⟩
        all_goals simp +contextual (maxSteps := 600000) (disch := omega) only [go_sem, Nat.reduceEqDiff, ↓reduceIte, Int.reduceEq, Int.reduceNeg, wrap_add, e0, e1, e2, e3, e8, e9, hhI]) ?_
      clear e0 e1 e2 e3 e8 e9
      rintro env τ' ⟨e0, e1, e2, e3, e8, e9, e10, rfl⟩
      refine vc_seqX (fun env τ' => env 0 = v ∧ env 1 = gi x ∧ env 2 = gi y ∧ env 3 = gi l  ∧ env 8 = .bool wb ∧ env 9 = .bool wp ∧ env 10 = gi h ∧ τ = τ' ∧ 12 < h) (fun Y hY => by
        by_cases h12 : h ≤ 12
        · have c0 : decide ((h : Int) ≤ 12) = true := by simp; omega
          simp +contextual (maxSteps := 600000) (disch := omega) only [go_sem, Nat.reduceEqDiff, ↓reduceIte, Int.reduceEq, Int.reduceNeg, wrap_add, e0, e1, e2, e3, e8, e9, e10, c0]
          obtain ⟨τ1, R, H1⟩ := ins_ret S hH (a := x) (b := y) hxy (by omega) (by omega)
          refine by_mut R ?_
          simp +contextual (maxSteps := 600000) (disch := omega) only [go_sem, Nat.reduceEqDiff, ↓reduceIte, Int.reduceEq, Int.reduceNeg, wrap_add, List.append_nil]
          obtain ⟨p1, p2⟩ := insertionSort_holds hS D x y hxy (by omega)
          have := R.2.1
          exact ⟨_, rfl, by omega, _, rfl, H1, hfin _ p1 p2⟩
        · have c0 : decide ((h : Int) ≤ 12) = false := by simp; omega
          simp +contextual (maxSteps := 600000) (disch := omega) only [go_sem, Nat.reduceEqDiff, ↓reduceIte, Int.reduceEq, Int.reduceNeg, wrap_add, e0, e1, e2, e3, e8, e9, e10, c0]
          refine hY _ _ ⟨?_, ?_, ?_, ?_, ?_, ?_, ?_, rfl, by omega⟩
          all_goals simp +contextual (maxSteps := 600000) (disch := omega) only [go_sem, Nat.reduceEqDiff, ↓reduceIte, Int.reduceEq, Int.reduceNeg, wrap_add, e0, e1, e2, e3, e8, e9, e10]) ?_
      clear e0 e1 e2 e3 e8 e9 e10
      rintro env τ' ⟨e0, e1, e2, e3, e8, e9, e10, rfl, h12⟩
      refine vc_seqX (fun env τ' => env 0 = v ∧ env 1 = gi x ∧ env 2 = gi y ∧ env 3 = gi l  ∧ env 8 = .bool wb ∧ env 9 = .bool wp ∧ env 10 = gi h ∧ τ = τ' ∧ 0 < l) (fun Y hY => by
        by_cases h0 : l = 0
        · have c0 : ((l : Int) == 0) = true := by simp [h0]
          simp +contextual (maxSteps := 600000) (disch := omega) only [go_sem, Nat.reduceEqDiff, ↓reduceIte, Int.reduceEq, Int.reduceNeg, wrap_add, e0, e1, e2, e3, e8, e9, e10, c0]
          obtain ⟨τ1, R, H1⟩ := heap_ret S hH (a := x) (b := y) hxy (by omega) (by omega)
          refine by_mut R ?_
          simp +contextual (maxSteps := 600000) (disch := omega) only [go_sem, Nat.reduceEqDiff, ↓reduceIte, Int.reduceEq, Int.reduceNeg, wrap_add, List.append_nil]
          obtain ⟨p1, p2⟩ := heapSort_holds hS D x y hxy (by omega)
          have := R.2.1
          exact ⟨_, rfl, by omega, _, rfl, H1, hfin _ p1 p2⟩
        · have c0 : ((l : Int) == 0) = false := by simp; omega
          simp +contextual (maxSteps := 600000) (disch := omega) only [go_sem, Nat.reduceEqDiff, ↓reduceIte, Int.reduceEq, Int.reduceNeg, wrap_add, e0, e1, e2, e3, e8, e9, e10, c0]
          refine hY _ _ ⟨?_, ?_, ?_, ?_, ?_, ?_, ?_, rfl, by omega⟩
          all_goals simp +contextual (maxSteps := 600000) (disch := omega) only [go_sem, Nat.reduceEqDiff, ↓reduceIte, Int.reduceEq, Int.reduceNeg, wrap_add, e0, e1, e2, e3, e8, e9, e10]) ?_
      clear e0 e1 e2 e3 e8 e9 e10
      rintro env τ' ⟨e0, e1, e2, e3, e8, e9, e10, rfl, h0⟩
      refine vc_seqX (fun env τ' => ∃ (l' : Nat) (E : Array α), env 0 = v ∧ env 1 = gi x ∧ env 2 = gi y ∧ env 3 = gi l'  ∧ env 8 = .bool wb ∧ env 9 = .bool wp ∧ env 10 = gi h ∧ l' ≤ l ∧ τ.length ≤ τ'.length ∧ Holds S.e σ0 τ' rs k v E ∧ PermIn x y D E) (fun Y hY => by
        cases hwb : wb with
        | true =>
          rw [hwb] at e8
          simp +contextual (maxSteps := 600000) (disch := omega) only [go_sem, Nat.reduceEqDiff, ↓reduceIte, Int.reduceEq, Int.reduceNeg, wrap_add, e0, e1, e2, e3, e8, e9, e10]
          refine hY _ _ ⟨l, D, ?_, ?_, ?_, ?_, ?_, ?_, ?_, Nat.le_refl _, Nat.le_refl _, hH, permIn_refl _ _ _⟩
          all_goals simp +contextual (maxSteps := 600000) (disch := omega) only [go_sem, Nat.reduceEqDiff, ↓reduceIte, Int.reduceEq, Int.reduceNeg, wrap_add, e0, e1, e2, e3, e8, e9, e10, hwb]
        | false =>
          rw [hwb] at e8
          simp +contextual (maxSteps := 600000) (disch := omega) only [go_sem, Nat.reduceEqDiff, ↓reduceIte, Int.reduceEq, Int.reduceNeg, wrap_add, e0, e1, e2, e3, e8, e9, e10]
          obtain ⟨E, τ1, R, H1, p1⟩ := break_ret S hH (a := x) (b := y) hxy (by omega) (by omega)
          refine by_mut R ?_
          have l1 : (l : Int) - 1 = ((l - 1 : Nat) : Int) := by omega
          simp +contextual (maxSteps := 600000) (disch := omega) only [go_sem, Nat.reduceEqDiff, ↓reduceIte, Int.reduceEq, Int.reduceNeg, wrap_add, e0, e1, e2, e3, e8, e9, e10]
          refine hY _ _ ⟨l - 1, E, ?_, ?_, ?_, ?_, ?_, ?_, ?_, by omega, R.2.1, H1, p1⟩
          all_goals simp +contextual (maxSteps := 600000) (disch := omega) only [go_sem, Nat.reduceEqDiff, ↓reduceIte, Int.reduceEq, Int.reduceNeg, wrap_add, e0, e1, e2, e3, e8, e9, e10, l1, hwb]) ?_
      clear e0 e1 e2 e3 e8 e9 e10
      rintro env τ1 ⟨l1, D1, e0, e1, e2, e3, e8, e9, e10, hl1, hle1, hH1, hP1⟩
      have hD1 : D1.size = D.size := hP1.1
      refine vc_seqX (fun env τ' => ∃ (p q : Nat), env 0 = v ∧ env 1 = gi x ∧ env 2 = gi y ∧ env 3 = gi l1  ∧ env 8 = .bool wb ∧ env 9 = .bool wp ∧ env 10 = gi h ∧ env 11 = gi p ∧ env 12 = gi q ∧ τ1.length ≤ τ'.length ∧ Holds S.e σ0 τ' rs k v D1 ∧ x ≤ p ∧ p < y ∧ q ≤ 2) (fun Y hY => by
        simp +contextual (maxSteps := 600000) (disch := omega) only [go_sem, Nat.reduceEqDiff, ↓reduceIte, Int.reduceEq, Int.reduceNeg, wrap_add, e0, e1, e2, e3, e8, e9, e10]
        obtain ⟨p, q, τ2, R, H2, g1, g2, g3⟩ := choose_ret S hH1 (a := x) (b := y) (by omega) (by omega) (by omega)
        refine by_mut R ?_
        simp +contextual (maxSteps := 600000) (disch := omega) only [go_sem, Nat.reduceEqDiff, ↓reduceIte, Int.reduceEq, Int.reduceNeg, wrap_add, e0, e1, e2, e3, e8, e9, e10]
        refine hY _ _ ⟨p, q, ?_, ?_, ?_, ?_, ?_, ?_, ?_, ?_, ?_, R.2.1, H2, g1, g2, g3⟩
        all_goals simp +contextual (maxSteps := 600000) (disch := omega) only [go_sem, Nat.reduceEqDiff, ↓reduceIte, Int.reduceEq, Int.reduceNeg, wrap_add, e0, e1, e2, e3, e8, e9, e10]) ?_
      clear e0 e1 e2 e3 e8 e9 e10 hH hH1
      rintro env τ2 ⟨p0, q0, e0, e1, e2, e3, e8, e9, e10, e11, e12, hle2, hH2, g1, g2, g3⟩
      refine vc_seqX (fun env τ' => ∃ (p q : Nat) (E : Array α), env 0 = v ∧ env 1 = gi x ∧ env 2 = gi y ∧ env 3 = gi l1  ∧ env 8 = .bool wb ∧ env 9 = .bool wp ∧ env 10 = gi h ∧ env 11 = gi p ∧ env 12 = gi q ∧ τ2.length ≤ τ'.length ∧ Holds S.e σ0 τ' rs k v E ∧ x ≤ p ∧ p < y ∧ PermIn x y D1 E) (fun Y hY => by
        by_cases hq : q0 = 2
        · have c0 : ((q0 : Int) == 2) = true := by simp [hq]
          simp +contextual (maxSteps := 600000) (disch := omega) only [go_sem, Nat.reduceEqDiff, ↓reduceIte, Int.reduceEq, Int.reduceNeg, wrap_add, e0, e1, e2, e3, e8, e9, e10, e11, e12, c0]
          obtain ⟨τ3, R, H3⟩ := rev_ret S hH2 (a := x) (b := y) (by omega) (by omega) (by omega)
          refine by_mut R ?_
          have r1 : (y : Int) - 1 - ((p0 : Int) - x) = ((y - 1 - (p0 - x) : Nat) : Int) := by omega
          simp +contextual (maxSteps := 600000) (disch := omega) only [go_sem, Nat.reduceEqDiff, ↓reduceIte, Int.reduceEq, Int.reduceNeg, wrap_add, e0, e1, e2, e3, e8, e9, e10, e11, e12, r1]
          refine hY _ _ ⟨y - 1 - (p0 - x), 1, _, ?_, ?_, ?_, ?_, ?_, ?_, ?_, ?_, ?_, R.2.1, H3, by omega, by omega, reverseRange_holds D1 x y hxy (by omega)⟩
          all_goals simp +contextual (maxSteps := 600000) (disch := omega) only [go_sem, Nat.reduceEqDiff, ↓reduceIte, Int.reduceEq, Int.reduceNeg, wrap_add, e0, e1, e2, e3, e8, e9, e10, e11, Int.natCast_one]
        · have c0 : ((q0 : Int) == 2) = false := by simp; omega
          simp +contextual (maxSteps := 600000) (disch := omega) only [go_sem, Nat.reduceEqDiff, ↓reduceIte, Int.reduceEq, Int.reduceNeg, wrap_add, e0, e1, e2, e3, e8, e9, e10, e11, e12, c0]
          refine hY _ _ ⟨p0, q0, D1, ?_, ?_, ?_, ?_, ?_, ?_, ?_, ?_, ?_, Nat.le_refl _, hH2, g1, g2, permIn_refl _ _ _⟩
          all_goals simp +contextual (maxSteps := 600000) (disch := omega) only [go_sem, Nat.reduceEqDiff, ↓reduceIte, Int.reduceEq, Int.reduceNeg, wrap_add, e0, e1, e2, e3, e8, e9, e10, e11, e12]) ?_
      clear e0 e1 e2 e3 e8 e9 e10 e11 e12 hH2 g1 g2 g3
      rintro env τ3 ⟨p, q, D2, e0, e1, e2, e3, e8, e9, e10, e11, e12, hle3, hH3, g1, g2, hP2⟩
      have hD2 : D2.size = D1.size := hP2.1
      have hP02 := permIn_trans _ _ _ _ _ hP1 hP2
      have B2 : Below lt x y D2 := hB.perm (by omega) hP02
      refine vc_seqX (fun env τ' => ∃ (E : Array α), env 0 = v ∧ env 1 = gi x ∧ env 2 = gi y ∧ env 3 = gi l1  ∧ env 8 = .bool wb ∧ env 9 = .bool wp ∧ env 10 = gi h ∧ env 11 = gi p ∧ τ3.length ≤ τ'.length ∧ Holds S.e σ0 τ' rs k v E ∧ PermIn x y D2 E) (fun Y hY => by
        have stay : ∀ env', env' 0 = v → env' 1 = gi x → env' 2 = gi y → env' 3 = gi l1 → env' 8 = .bool wb → env' 9 = .bool wp → env' 10 = gi h → env' 11 = gi p → Y env' τ3 := fun env' a0 a1 a2 a3 a8 a9 a10 a11 => hY _ _ ⟨D2, a0, a1, a2, a3, a8, a9, a10, a11, Nat.le_refl _, hH3, permIn_refl _ _ _⟩
        cases hwb : wb with
        | false =>
          rw [hwb] at e8
          simp +contextual (maxSteps := 600000) (disch := omega) only [go_sem, Nat.reduceEqDiff, ↓reduceIte, Int.reduceEq, Int.reduceNeg, wrap_add, e0, e1, e2, e3, e8, e9, e10, e11, e12]
          refine stay _ ?_ ?_ ?_ ?_ ?_ ?_ ?_ ?_
          all_goals simp +contextual (maxSteps := 600000) (disch := omega) only [go_sem, Nat.reduceEqDiff, ↓reduceIte, Int.reduceEq, Int.reduceNeg, wrap_add, e0, e1, e2, e3, e8, e9, e10, e11, e12, hwb]
        | true =>
          rw [hwb] at e8
          cases hwp : wp with
          | false =>
            rw [hwp] at e9
            simp +contextual (maxSteps := 600000) (disch := omega) only [go_sem, Nat.reduceEqDiff, ↓reduceIte, Int.reduceEq, Int.reduceNeg, wrap_add, e0, e1, e2, e3, e8, e9, e10, e11, e12]
            refine stay _ ?_ ?_ ?_ ?_ ?_ ?_ ?_ ?_
            all_goals simp +contextual (maxSteps := 600000) (disch := omega) only [go_sem, Nat.reduceEqDiff, ↓reduceIte, Int.reduceEq, Int.reduceNeg, wrap_add, e0, e1, e2, e3, e8, e9, e10, e11, e12, hwb, hwp]
          | true =>
            rw [hwp] at e9
            by_cases hq : q = 1
            · have c0 : ((q : Int) == 1) = true := by simp [hq]
              simp +contextual (maxSteps := 600000) (disch := omega) only [go_sem, Nat.reduceEqDiff, ↓reduceIte, Int.reduceEq, Int.reduceNeg, wrap_add, e0, e1, e2, e3, e8, e9, e10, e11, e12, c0]
              obtain ⟨τ4, R, H4⟩ := pis_ret S hH3 (a := x) (b := y) (by omega) (by omega) (by omega)
              obtain ⟨p1, p2⟩ := partialInsertionSort_holds hS D2 x y (by omega) (by omega) B2
              have := R.2.1
              refine by_mut R ?_
              cases hr : (partialInsertionSort lt D2 x y).2 with
              | true =>
                simp +contextual (maxSteps := 600000) (disch := omega) only [go_sem, Nat.reduceEqDiff, ↓reduceIte, Int.reduceEq, Int.reduceNeg, wrap_add, List.append_nil]
                exact ⟨_, rfl, by omega, _, rfl, H4, hfin _ (permIn_trans _ _ _ _ _ hP02 p1) (p2 hr)⟩
              | false =>
                simp +contextual (maxSteps := 600000) (disch := omega) only [go_sem, Nat.reduceEqDiff, ↓reduceIte, Int.reduceEq, Int.reduceNeg, wrap_add, e0, e1, e2, e3, e8, e9, e10, e11, e12]
                refine hY _ _ ⟨_, ?_, ?_, ?_, ?_, ?_, ?_, ?_, ?_, R.2.1, H4, p1⟩
                all_goals simp +contextual (maxSteps := 600000) (disch := omega) only [go_sem, Nat.reduceEqDiff, ↓reduceIte, Int.reduceEq, Int.reduceNeg, wrap_add, e0, e1, e2, e3, e8, e9, e10, e11, e12, hwb, hwp]
            · have c0 : ((q : Int) == 1) = false := by simp; omega
              simp +contextual (maxSteps := 600000) (disch := omega) only [go_sem, Nat.reduceEqDiff, ↓reduceIte, Int.reduceEq, Int.reduceNeg, wrap_add, e0, e1, e2, e3, e8, e9, e10, e11, e12, c0]
              refine stay _ ?_ ?_ ?_ ?_ ?_ ?_ ?_ ?_
              all_goals simp +contextual (maxSteps := 600000) (disch := omega) only [go_sem, Nat.reduceEqDiff, ↓reduceIte, Int.reduceEq, Int.reduceNeg, wrap_add, e0, e1, e2, e3, e8, e9, e10, e11, e12, hwb, hwp]) ?_
      clear e0 e1 e2 e3 e8 e9 e10 e11 e12 hH3
      rintro env τ4 ⟨D3, e0, e1, e2, e3, e8, e9, e10, e11, hle4, hH4, hP3⟩
      have hD3 : D3.size = D2.size := hP3.1
      have hP03 := permIn_trans _ _ _ _ _ hP02 hP3
      have B3 : Below lt x y D3 := B2.perm (by omega) hP3
      refine vc_seqX (fun env τ' => env 0 = v ∧ env 1 = gi x ∧ env 2 = gi y ∧ env 3 = gi l1  ∧ env 8 = .bool wb ∧ env 9 = .bool wp ∧ env 10 = gi h ∧ env 11 = gi p ∧ τ4 = τ') (fun Y hY => by
        rcases Nat.eq_zero_or_pos x with hx | hx
        · have c0 : decide ((0 : Int) < x) = false := by simp; omega
          simp +contextual (maxSteps := 600000) (disch := omega) only [go_sem, Nat.reduceEqDiff, ↓reduceIte, Int.reduceEq, Int.reduceNeg, wrap_add, e0, e1, e2, e3, e8, e9, e10, e11, c0]
          refine hY _ _ ⟨?_, ?_, ?_, ?_, ?_, ?_, ?_, ?_, rfl⟩
          all_goals simp +contextual (maxSteps := 600000) (disch := omega) only [go_sem, Nat.reduceEqDiff, ↓reduceIte, Int.reduceEq, Int.reduceNeg, wrap_add, e0, e1, e2, e3, e8, e9, e10, e11]
        · have c0 : decide ((0 : Int) < x) = true := by simp; omega
          have x1 : (x : Int) - 1 = ((x - 1 : Nat) : Int) := by omega
          simp +contextual (maxSteps := 600000) (disch := omega) only [go_sem, Nat.reduceEqDiff, ↓reduceIte, Int.reduceEq, Int.reduceNeg, wrap_add, e0, e1, e2, e3, e8, e9, e10, e11, c0, x1, natOf_nat, hH4.iad (j := x - 1) (by omega), hH4.ld (j := x - 1) (by omega), hH4.iad (j := p) (by omega), hH4.ld (j := p) (by omega)]
          refine by_ret (S.call _ _ _) ?_
          cases hlt : lt D3[x - 1]! D3[p]! with
          | true =>
            simp +contextual (maxSteps := 600000) (disch := omega) only [go_sem, Nat.reduceEqDiff, ↓reduceIte, Int.reduceEq, Int.reduceNeg, wrap_add, e0, e1, e2, e3, e8, e9, e10, e11, c0, hlt]
            refine hY _ _ ⟨?_, ?_, ?_, ?_, ?_, ?_, ?_, ?_, rfl⟩
            all_goals simp +contextual (maxSteps := 600000) (disch := omega) only [go_sem, Nat.reduceEqDiff, ↓reduceIte, Int.reduceEq, Int.reduceNeg, wrap_add, e0, e1, e2, e3, e8, e9, e10, e11]
          | false =>
            simp +contextual (maxSteps := 600000) (disch := omega) only [go_sem, Nat.reduceEqDiff, ↓reduceIte, Int.reduceEq, Int.reduceNeg, wrap_add, e0, e1, e2, e3, e8, e9, e10, e11, c0, hlt]
            obtain ⟨τ5, R, H5⟩ := pe_ret S hH4 (a := x) (b := y) (p := p) (by omega) g2 (by omega) (by omega)
            have := R.2.1
            refine by_mut R ?_
            obtain ⟨mid, D4, hX⟩ : ∃ m D4, partitionEqual lt D3 x y p = (m, D4) := ⟨_, _, rfl⟩
            rw [hX] at H5
            rw [hX]
            obtain ⟨k1, k2, k3, k4, k5⟩ := round_eq hS (partitionEqual_holds lt) hx g1 g2 (by omega) B3 hlt hX
            simp +contextual (maxSteps := 600000) (disch := omega) only [go_sem, Nat.reduceEqDiff, ↓reduceIte, Int.reduceEq, Int.reduceNeg, wrap_add, e0, e1, e2, e3, e8, e9, e10, e11]
            refine ⟨y - mid, by omega, hJ _ _ _ ⟨mid, y, l1, wb, wp, D4, ?_, ?_, ?_, ?_, ?_, ?_, rfl, by omega, by omega, k2, hyb, by omega, by omega, H5, k4, fun R h1 h2 => ?_⟩⟩
            all_goals first | (simp +contextual (maxSteps := 600000) (disch := omega) only [go_sem, Nat.reduceEqDiff, ↓reduceIte, Int.reduceEq, Int.reduceNeg, wrap_add, e0, e1, e2, e3, e8, e9, e10, e11]; done) | skip
            obtain ⟨m1, m2⟩ := k5 R h1 h2
            exact hfin R (permIn_trans _ _ _ _ _ hP03 m1) m2) ?_
      clear e0 e1 e2 e3 e8 e9 e10 e11
      rintro env τ' ⟨e0, e1, e2, e3, e8, e9, e10, e11, rfl⟩
      obtain ⟨τ5, R5, H5⟩ := part_ret S hH4 (a := x) (b := y) (p := p) (by omega) g2 (by omega) (by omega)
      have hle5 := R5.2.1
      obtain ⟨mid, ap, D4, hX⟩ : ∃ m ap D4, partition lt D3 x y p = (m, ap, D4) := ⟨_, _, _, rfl⟩
      rw [hX] at H5 R5
      obtain ⟨k1, k2, k3, k4, k5, k6, k7⟩ := round_part hS (partition_holds lt) g1 g2 (by omega) B3 hX
      simp +contextual (maxSteps := 600000) (disch := omega) only [go_sem, Nat.reduceEqDiff, ↓reduceIte, Int.reduceEq, Int.reduceNeg, wrap_add, e0, e1, e2, e3, e8, e9, e10, e11]
      refine by_mut R5 ?_
      obtain ⟨q8, hq8⟩ : ∃ q, q = h / 8 := ⟨_, rfl⟩
      have hqI : (h : Int).tdiv 8 = q8 := by rw [hq8]; rfl
      have m1 : (mid : Int) - x = ((mid - x : Nat) : Int) := by omega
      have m2 : (y : Int) - mid = ((y - mid : Nat) : Int) := by omega
      by_cases hlr : mid - x < y - mid
      · have c0 : decide (((mid - x : Nat) : Int) < ((y - mid : Nat) : Int)) = true := by simp; omega
        simp +contextual (maxSteps := 600000) (disch := omega) only [go_sem, Nat.reduceEqDiff, ↓reduceIte, Int.reduceEq, Int.reduceNeg, wrap_add, e0, e1, e2, e3, e8, e9, e10, e11, hqI, m1, m2, c0]
        obtain ⟨L, τ6, R6, H6, p1, p2⟩ := ih D4 x mid l1 τ5 (by omega) k1 (by omega) (by omega) (by omega) k4 H5
        have hle6 := R6.2.1
        refine by_mut R6 ?_
        obtain ⟨k8, k9⟩ := k6 L p1 p2
        have hL : L.size = D4.size := p1.1
        simp +contextual (maxSteps := 600000) (disch := omega) only [go_sem, Nat.reduceEqDiff, ↓reduceIte, Int.reduceEq, Int.reduceNeg, wrap_add, e0, e1, e2, e3, e8, e9, e10, e11]
        refine ⟨y - (mid + 1), by omega, hJ _ _ _ ⟨mid + 1, y, l1, decide ((q8 : Int) ≤ ((mid - x : Nat) : Int)), ap, L, ?_, ?_, ?_, ?_, ?_, ?_, rfl, by omega, by omega, by omega, hyb, by omega, by omega, H6, k8, fun R h1 h2 => ?_⟩⟩
        all_goals first | (simp +contextual (maxSteps := 600000) (disch := omega) only [go_sem, Nat.reduceEqDiff, ↓reduceIte, Int.reduceEq, Int.reduceNeg, wrap_add, e0, e1, e2, e3, e8, e9, e10, e11]; done) | skip
        obtain ⟨n1, n2⟩ := k9 R h1 h2
        exact hfin R (permIn_trans _ _ _ _ _ hP03 n1) n2
      · have c0 : decide (((mid - x : Nat) : Int) < ((y - mid : Nat) : Int)) = false := by simp; omega
        simp +contextual (maxSteps := 600000) (disch := omega) only [go_sem, Nat.reduceEqDiff, ↓reduceIte, Int.reduceEq, Int.reduceNeg, wrap_add, e0, e1, e2, e3, e8, e9, e10, e11, hqI, m1, m2, c0]
        obtain ⟨L, τ6, R6, H6, p1, p2⟩ := ih D4 (mid + 1) y l1 τ5 (by omega) (by omega) (by omega) (by omega) (by omega) k5 H5
        have hle6 := R6.2.1
        refine by_mut R6 ?_
        obtain ⟨k8, k9⟩ := k7 L p1 p2
        have hL : L.size = D4.size := p1.1
        simp +contextual (maxSteps := 600000) (disch := omega) only [go_sem, Nat.reduceEqDiff, ↓reduceIte, Int.reduceEq, Int.reduceNeg, wrap_add, e0, e1, e2, e3, e8, e9, e10, e11]
        refine ⟨mid - x, by omega, hJ _ _ _ ⟨x, mid, l1, decide ((q8 : Int) ≤ ((y - mid : Nat) : Int)), ap, L, ?_, ?_, ?_, ?_, ?_, ?_, rfl, by omega, by omega, by omega, by omega, by omega, by omega, H6, k8, fun R h1 h2 => ?_⟩⟩
        all_goals first | (simp +contextual (maxSteps := 600000) (disch := omega) only [go_sem, Nat.reduceEqDiff, ↓reduceIte, Int.reduceEq, Int.reduceNeg, wrap_add, e0, e1, e2, e3, e8, e9, e10, e11]; done) | skip
        obtain ⟨n1, n2⟩ := k9 R h1 h2
        exact hfin R (permIn_trans _ _ _ _ _ hP03 n1) n2
    obtain ⟨r, τ, R, d', rfl, h⟩ := key
    exact ⟨d', τ, R, h⟩
end Go.Proofs.YtffnefmklckngaaGreat.Sy.O

/- Sorts: what slices.Sort and SortFunc do. -/
namespace Go.Proofs.YtffnefmklckngaaGreat.Sy.O
open Go Go.RowKit Go.Proofs.YtffnefmklckngaaGreat.Sy Go.Sort
set_option linter.unusedSimpArgs false
set_option linter.unusedVariables false
set_option maxRecDepth 4000
variable {α : Type} [Inhabited α] {lt : α → α → Bool} {σ0 σ : St} {rs : List Thg} {v : GV}
theorem sorted_of {d d' : Array α} (h : PermIn 0 d.size d d') (h4 : SortedIn lt 0 d.size d') : d'.toList.Perm d.toList ∧ Up lt d'.toList := by
  obtain ⟨h1, h2, h3⟩ := h
  constructor
  · have e1 : d'.extract 0 d.size = d' := by rw [← h1]; simp
    have e2 : d.extract 0 d.size = d := by simp
    rw [e1, e2] at h3
    exact h3
  · rw [Up, List.pairwise_iff_getElem]
    intro i j hi hj hij
    simp only [Array.length_toList] at hi hj
    have := h4 i j (Nat.zero_le _) hij (by omega)
    rw [getElem!_pos d' j hj, getElem!_pos d' i hi] at this
    simpa using this
theorem sort_ret (S : SrtO α lt) (hS : SWO lt) {l : List α} (H : Hp σ0 σ rs) (k : Nat) (hk : rs[k]? = some (ow S.e.p.kd v l)) (hl : l.length ≤ 1099511627776) (htri : ∀ x ∈ l, ∀ y ∈ l, lt x y = false → lt y x = false → x = y) : ∃ τ, Ret Tryz.prog S.nS [v] σ (.tup []) τ ∧ Hp σ0 τ (rs.set k (ow S.e.p.kd v (insAll lt l))) := by
  have key : ∃ r τ, Ret Tryz.prog S.nS [v] σ r τ ∧ r = .tup [] ∧ Hp σ0 τ (rs.set k (ow S.e.p.kd v (insAll lt l))) := by
    refine ret_mut S.h_Sort (Nat.le_of_ble_eq_true rfl) ?_
    have hlen := (H.sl k hk).len
    have wu : IntKind.u64.wrap (l.length : Int) = l.length := wrapU64 (by omega) (by omega)
    simp +contextual (maxSteps := 600000) (disch := omega) only [go_sem, Nat.reduceEqDiff, ↓reduceIte, Int.reduceEq, Int.reduceNeg, wrap_add, G_Sort_o, hlen, wu]
    refine by_ret (bitsLen_ret σ l.length hl) ?_
    simp +contextual (maxSteps := 600000) (disch := omega) only [go_sem, Nat.reduceEqDiff, ↓reduceIte, Int.reduceEq, Int.reduceNeg, wrap_add, List.append_nil]
    have HH : Holds S.e σ0 σ rs k v l.toArray := Holds.of H (by simpa using hk)
    have hb := bits_40 hl
    obtain ⟨d', τ, R, H1, p1, p2⟩ := pdq_ret S hS l.length l.toArray 0 l.length (bitsLen l.length) σ (by omega) (by omega) (by simp) (by simpa using hl) (by omega) (.inl rfl) HH
    have hz : ((0 : Nat) : Int) = 0 := rfl
    rw [hz] at R
    refine by_mut R ?_
    simp +contextual (maxSteps := 600000) (disch := omega) only [go_sem, Nat.reduceEqDiff, ↓reduceIte, Int.reduceEq, Int.reduceNeg, wrap_add, List.append_nil]
    have hsz : l.length = l.toArray.size := by simp
    rw [hsz] at p1 p2
    obtain ⟨q1, q2⟩ := sorted_of p1 p2
    have hE : d'.toList = insAll lt l := sort_insAll hS htri (by simpa using q1) q2
    exact ⟨_, rfl, R.2.1, rfl, by rw [← hE]; exact H1.2⟩
  obtain ⟨r, τ, R, rfl, h⟩ := key
  exact ⟨τ, R, h⟩
end Go.Proofs.YtffnefmklckngaaGreat.Sy.O

/- Sorts of numbers. -/
namespace Go.Proofs.YtffnefmklckngaaGreat.Sy
open Go Go.RowKit
set_option linter.unusedSimpArgs false
set_option linter.unusedVariables false
set_option maxRecDepth 4000
abbrev n_cmp_Less_int : Nat := 226
def F_cmp_Less_int : Fn1 := ⟨17, [.t 4], (.seq (.reg [o 4 (.mov (.k (.bool false)))]) (.seq (.reg [o 5 (.mov (.t 0)), o 6 (.call 120 [(.t 5)]), o 7 (.mov (.t 6)), og 8 7 true (.mov (.t 1)), og 9 7 true (.call 120 [(.t 8)]), og 10 7 true (.un .not (.t 9)), o 11 (.pick (.t 7) (.t 10) (.k (.bool false))), o 12 (.mov (.t 11)), og 13 12 false (.mov (.t 0)), og 14 12 false (.mov (.t 1)), og 15 12 false (.bin .lss (.t 13) (.t 14)), o 16 (.pick (.t 12) (.k (.bool true)) (.t 15)), o 4 (.mov (.t 16))]) .ret))⟩
theorem ir_cmp_Less_int : compFn Tryz.prog n_cmp_Less_int = some F_cmp_Less_int := by kernel_rfl
abbrev n_slices_Sort_int_int : Nat := 133
abbrev n_slices_pdqsortOrdered_int : Nat := 191
abbrev n_slices_insertionSortOrdered_int : Nat := 220
abbrev n_slices_siftDownOrdered_int : Nat := 254
abbrev n_slices_heapSortOrdered_int : Nat := 221
abbrev n_slices_reverseRangeOrdered_int : Nat := 224
abbrev n_slices_partialInsertionSortOrdered_int : Nat := 225
abbrev n_slices_partitionEqualOrdered_int : Nat := 227
abbrev n_slices_partitionOrdered_int : Nat := 228
abbrev n_slices_breakPatternsOrdered_int : Nat := 222
abbrev n_slices_order2Ordered_int : Nat := 266
abbrev n_slices_medianOrdered_int : Nat := 258
abbrev n_slices_medianAdjacentOrdered_int : Nat := 257
abbrev n_slices_choosePivotOrdered_int : Nat := 223
def elI : El Int := ⟨pI, false, gi, fun _ => rfl, fun _ => rfl, by decide⟩
theorem cmp_Less_int_ret (σ : St) (a b : Int) : Ret Tryz.prog n_cmp_Less_int [gi a, gi b] σ (.bool (ltI a b)) σ := by
  refine ret_eq ir_cmp_Less_int (Nat.le_of_ble_eq_true rfl) trivial ?_
  simp +contextual (maxSteps := 600000) (disch := omega) only [go_sem, Nat.reduceEqDiff, ↓reduceIte, Int.reduceEq, Int.reduceNeg, wrap_add, F_cmp_Less_int]
  refine by_ret (cmp_isNaN_int_ret σ a) ?_
  simp +contextual (maxSteps := 600000) (disch := omega) only [go_sem, Nat.reduceEqDiff, ↓reduceIte, Int.reduceEq, Int.reduceNeg, wrap_add, ltI]
def qI : SN := ⟨n_slices_insertionSortOrdered_int, n_slices_siftDownOrdered_int, n_slices_heapSortOrdered_int, n_slices_reverseRangeOrdered_int, n_slices_partialInsertionSortOrdered_int, n_slices_partitionEqualOrdered_int, n_slices_partitionOrdered_int, n_slices_breakPatternsOrdered_int, n_slices_order2Ordered_int, n_slices_medianOrdered_int, n_slices_medianAdjacentOrdered_int, n_slices_choosePivotOrdered_int, n_slices_pdqsortOrdered_int, n_cmp_Less_int, n_slices_nextPowerOfTwo, n_slices_xorshift_Next⟩
def srtI : SrtO Int ltI where
  e := elI
  q := qI
  call := cmp_Less_int_ret
  h_insertionSort := by kernel_rfl
  h_siftDown := by kernel_rfl
  h_heapSort := by kernel_rfl
  h_reverseRange := by kernel_rfl
  h_partialInsertionSort := by kernel_rfl
  h_partitionEqual := by kernel_rfl
  h_partition := by kernel_rfl
  h_breakPatterns := by kernel_rfl
  h_order2 := by kernel_rfl
  h_median := by kernel_rfl
  h_medianAdjacent := by kernel_rfl
  h_choosePivot := by kernel_rfl
  h_pdqsort := by kernel_rfl
  nS := n_slices_Sort_int_int
  h_Sort := by kernel_rfl
  hnp := rfl
  hxs := rfl
theorem slices_Sort_int_ret {σ0 σ : St} {rs : List Thg} {v : GV} {l : List Int} (H : Hp σ0 σ rs) (k : Nat) (hk : rs[k]? = some (ow pI.kd v l)) (hl : l.length ≤ 1099511627776) : ∃ τ, Ret Tryz.prog n_slices_Sort_int_int [v] σ (.tup []) τ ∧ Hp σ0 τ (rs.set k (ow pI.kd v (insAll ltI l))) :=
  O.sort_ret srtI swo_ltI H k hk hl fun x _ y _ => tri_ltI x y
end Go.Proofs.YtffnefmklckngaaGreat.Sy

/- Contracts: who holds what lives. -/
namespace Go.Proofs.YtffnefmklckngaaGreat.Sy
open Go Go.RowKit
set_option linter.unusedSimpArgs false
set_option linter.unusedVariables false
set_option maxRecDepth 4000
abbrev n_s_LivesOf : Nat := 127
def F_s_LivesOf : Fn1 := ⟨46, [.t 8], (.seq (.reg [o 4 (.box (.t 0)), o 8 (.mov (.k .nilS))]) (.seq (.reg [o 12 (.lit 6 0 [] []), o 9 (.mov (.t 12))]) (.seq (.seq (.reg [o 10 (.mov (.k (.int .i64 0)))]) (.blk 0 (.lop (.seq (.seq (.reg [o 13 (.mov (.t 10)), o 14 (.fad 2 (.t 4)), o 15 (.ld false 1 (.t 14)), o 16 (.len false (.t 15)), o 17 (.bin .lss (.t 13) (.t 16))]) (.cnd (.t 17) .skip (.ext 0))) (.seq (.blk 1 (.seq (.reg [o 20 (.fad 2 (.t 4)), o 21 (.ld false 1 (.t 20)), o 22 (.mov (.t 10)), o 23 (.iad 6 (.t 21) (.t 22)), o 24 (.ld true 6 (.t 23)), o 11 (.new [(.bool false), (.str ⟨#[]⟩), (.str ⟨#[]⟩), (.int .i64 0), (.int .i64 0), (.int .i64 0)]), on (.st 6 (.t 11) (.t 24))]) (.seq (.reg [o 25 (.fad 0 (.t 11)), o 26 (.ld false 1 (.t 25)), o 27 (.mov (.t 1)), o 28 (.eqb false (.t 26) (.t 27)), o 29 (.mov (.t 28)), og 30 29 true (.fad 1 (.t 11)), og 31 29 true (.ld false 1 (.t 30)), og 32 29 true (.mov (.t 2)), og 33 29 true (.bin .eql (.t 31) (.t 32)), o 34 (.pick (.t 29) (.t 33) (.k (.bool false))), o 35 (.mov (.t 34)), og 36 35 true (.fad 2 (.t 11)), og 37 35 true (.ld false 1 (.t 36)), og 38 35 true (.mov (.t 3)), og 39 35 true (.bin .eql (.t 37) (.t 38)), o 40 (.pick (.t 35) (.t 39) (.k (.bool false)))]) (.cnd (.t 40) (.reg [o 41 (.mov (.t 9)), o 42 (.ld true 6 (.t 11)), o 43 (.lit 6 1 [(.bool false), (.str ⟨#[]⟩), (.str ⟨#[]⟩), (.int .i64 0), (.int .i64 0), (.int .i64 0)] [(0, 6, (.t 42))]), o 44 (.app 6 64 [(.bool false), (.str ⟨#[]⟩), (.str ⟨#[]⟩), (.int .i64 0), (.int .i64 0), (.int .i64 0)] (.t 41) (.t 43)), o 9 (.mov (.t 44))]) .skip)))) (.reg [o 18 (.mov (.t 10)), o 19 (.bin .add (.t 18) (.k (.int .i64 1))), o 10 (.mov (.t 19))])))))) (.seq (.reg [o 45 (.mov (.t 9)), o 8 (.mov (.t 45))]) .ret))))⟩
theorem ir_s_LivesOf : compFn Tryz.prog n_s_LivesOf = some F_s_LivesOf := by kernel_rfl
abbrev n_i_LivesOf : Nat := 132
def F_i_LivesOf : Fn1 := ⟨42, [.t 8], (.seq (.reg [o 4 (.box (.t 0)), o 8 (.mov (.k .nilS))]) (.seq (.reg [o 12 (.lit 6 0 [] []), o 9 (.mov (.t 12))]) (.seq (.seq (.reg [o 13 (.fad 2 (.t 4)), o 14 (.ld false 1 (.t 13)), o 15 (.len false (.t 14)), o 16 (.mov (.k (.int .i64 0)))]) (.blk 0 (.lop (.seq (.reg [o 17 (.bin .lss (.t 16) (.t 15))]) (.seq (.cnd (.t 17) .skip (.ext 0)) (.seq (.blk 1 (.seq (.reg [o 18 (.iad 6 (.t 14) (.t 16)), o 19 (.ld true 6 (.t 18)), o 11 (.new [(.bool false), (.str ⟨#[]⟩), (.str ⟨#[]⟩), (.int .i64 0), (.int .i64 0), (.int .i64 0)]), on (.st 6 (.t 11) (.t 19))]) (.seq (.reg [o 20 (.fad 0 (.t 11)), o 21 (.ld false 1 (.t 20)), o 22 (.mov (.t 1)), o 23 (.eqb false (.t 21) (.t 22)), o 24 (.mov (.t 23)), og 25 24 true (.fad 1 (.t 11)), og 26 24 true (.ld false 1 (.t 25)), og 27 24 true (.mov (.t 2)), og 28 24 true (.bin .eql (.t 26) (.t 27)), o 29 (.pick (.t 24) (.t 28) (.k (.bool false))), o 30 (.mov (.t 29)), og 31 30 true (.fad 2 (.t 11)), og 32 30 true (.ld false 1 (.t 31)), og 33 30 true (.mov (.t 3)), og 34 30 true (.bin .eql (.t 32) (.t 33)), o 35 (.pick (.t 30) (.t 34) (.k (.bool false)))]) (.cnd (.t 35) (.reg [o 36 (.mov (.t 9)), o 37 (.ld true 6 (.t 11)), o 38 (.lit 6 1 [(.bool false), (.str ⟨#[]⟩), (.str ⟨#[]⟩), (.int .i64 0), (.int .i64 0), (.int .i64 0)] [(0, 6, (.t 37))]), o 39 (.app 6 64 [(.bool false), (.str ⟨#[]⟩), (.str ⟨#[]⟩), (.int .i64 0), (.int .i64 0), (.int .i64 0)] (.t 36) (.t 38)), o 9 (.mov (.t 39))]) .skip)))) (.reg [o 40 (.bin .add (.t 16) (.k (.int .i64 1))), o 16 (.mov (.t 40))]))))))) (.seq (.reg [o 41 (.mov (.t 9)), o 8 (.mov (.t 41))]) .ret))))⟩
theorem ir_i_LivesOf : compFn Tryz.prog n_i_LivesOf = some F_i_LivesOf := by kernel_rfl
theorem live_snoc {l : List Live} {m : Bool} {o k : ByteArray} {i : Nat} (hi : i < l.length) : (l.take (i + 1)).filter (isLive m o k) = if isLive m o k l[i] then (l.take i).filter (isLive m o k) ++ [l[i]] else (l.take i).filter (isLive m o k) := by
  rw [filter_snoc' hi]
  split <;> simp
theorem s_LivesOf_ret (σ : St) (cs : List GV) (s : State) (hR : kState.R σ s cs) (m : Bool) (o k : ByteArray) (hl : msState s ≤ 1099511627776) :
    ∃ r τ, Ret Tryz.prog n_s_LivesOf [.agg cs, .bool m, .str o, .str k] σ r τ ∧ Hp σ τ [ow pLive.kd r (livesOf s m o k)] := by
  obtain ⟨a, b, c, v, rfl, _, _, hv, _⟩ := hR
  obtain ⟨l1, l2, l3, l4, _⟩ := msState_all hl
  refine ret_dr ir_s_LivesOf (Nat.le_of_ble_eq_true rfl) ?_
  have H := ((Hp.refl σ).new 1 [a, b, c, v]).nil_Live
  simp +contextual (maxSteps := 600000) (disch := omega) only [go_sem, Nat.reduceEqDiff, ↓reduceIte, Int.reduceEq, Int.reduceNeg, wrap_add, F_s_LivesOf]
  generalize hb : σ.length = n1 at *
  refine vc_forJ s.lives.length 10 (fun i env τ => env 1 = .bool m ∧ env 2 = .str o ∧ env 3 = .str k ∧ env 4 = .ptr n1 0 ∧ ∃ w, env 9 = w ∧ Hp σ τ [ow pLive.kd w ((s.lives.take i).filter (isLive m o k)), pt 1 n1 [a, b, c, v]]) rfl ⟨rfl, rfl, rfl, rfl, _, rfl, H⟩ ?_ ?_
  · rintro J hJ i env τ hi e10 c0 ⟨e1, e2, e3, e4, w, e9, H⟩
    have hfl := List.length_filter_le (isLive m o k) (s.lives.take i)
    rw [List.length_take] at hfl
    have C1 := Live_at (hv.pre H.sub) hi
    have G := H.grow (pre1 τ (some (Blk.row 1 [.bool s.lives[i].map, .str s.lives[i].obj, .str s.lives[i].key, gi s.lives[i].val, gi s.lives[i].dot.rep, gi s.lives[i].dot.seq])))
    have hfs := live_snoc (m := m) (o := o) (k := k) hi
    cases hm : (s.lives[i].map == m) with
    | false =>
      have hk0 : isLive m o k s.lives[i] = false := by simp [isLive, hm]
      rw [if_neg (by simp [hk0])] at hfs
      simp +contextual (maxSteps := 600000) (disch := omega) only [go_sem, Nat.reduceEqDiff, ↓reduceIte, Int.reduceEq, Int.reduceNeg, wrap_add, c0, e1, e2, e3, e4, e9, e10, C1, ld_ptr (H.pt 1 rfl), hv.len, hm, Bool.false_bne]
      refine hJ _ _ _ ⟨?_, ?_, ?_, ?_, w, ?_, by rw [hfs]; exact G⟩
      all_goals simp +contextual (maxSteps := 600000) (disch := omega) only [go_sem, Nat.reduceEqDiff, ↓reduceIte, Int.reduceEq, Int.reduceNeg, wrap_add, e1, e2, e3, e4, e9, e10]
    | true =>
      cases ho : decide (s.lives[i].obj = o) with
      | false =>
        have hk0 : isLive m o k s.lives[i] = false := by simp [isLive, hm, ho]
        rw [if_neg (by simp [hk0])] at hfs
        simp +contextual (maxSteps := 600000) (disch := omega) only [go_sem, Nat.reduceEqDiff, ↓reduceIte, Int.reduceEq, Int.reduceNeg, wrap_add, c0, e1, e2, e3, e4, e9, e10, C1, ld_ptr (H.pt 1 rfl), hv.len, hm, ho, Bool.false_bne]
        refine hJ _ _ _ ⟨?_, ?_, ?_, ?_, w, ?_, by rw [hfs]; exact G⟩
        all_goals simp +contextual (maxSteps := 600000) (disch := omega) only [go_sem, Nat.reduceEqDiff, ↓reduceIte, Int.reduceEq, Int.reduceNeg, wrap_add, e1, e2, e3, e4, e9, e10]
      | true =>
        cases hk : decide (s.lives[i].key = k) with
        | false =>
          have hk0 : isLive m o k s.lives[i] = false := by simp [isLive, hm, ho, hk]
          rw [if_neg (by simp [hk0])] at hfs
          simp +contextual (maxSteps := 600000) (disch := omega) only [go_sem, Nat.reduceEqDiff, ↓reduceIte, Int.reduceEq, Int.reduceNeg, wrap_add, c0, e1, e2, e3, e4, e9, e10, C1, ld_ptr (H.pt 1 rfl), hv.len, hm, ho, hk, Bool.false_bne]
          refine hJ _ _ _ ⟨?_, ?_, ?_, ?_, w, ?_, by rw [hfs]; exact G⟩
          all_goals simp +contextual (maxSteps := 600000) (disch := omega) only [go_sem, Nat.reduceEqDiff, ↓reduceIte, Int.reduceEq, Int.reduceNeg, wrap_add, e1, e2, e3, e4, e9, e10]
        | true =>
          have hk0 : isLive m o k s.lives[i] = true := by simp [isLive, hm, ho, hk]
          rw [if_pos hk0] at hfs
          obtain ⟨w', τ3, e5, H3⟩ := G.app_Live 0 rfl s.lives[i] (by omega)
          simp +contextual (maxSteps := 600000) (disch := omega) only [go_sem, Nat.reduceEqDiff, ↓reduceIte, Int.reduceEq, Int.reduceNeg, wrap_add, c0, e1, e2, e3, e4, e9, e10, C1, ld_ptr (H.pt 1 rfl), hv.len, hm, ho, hk, Bool.false_bne, e5]
          refine hJ _ _ _ ⟨?_, ?_, ?_, ?_, w', ?_, by rw [hfs]; exact H3⟩
          all_goals simp +contextual (maxSteps := 600000) (disch := omega) only [go_sem, Nat.reduceEqDiff, ↓reduceIte, Int.reduceEq, Int.reduceNeg, wrap_add, e1, e2, e3, e4, e9, e10]
  · rintro env τ e10 c0 ⟨e1, e2, e3, e4, w, e9, H⟩
    rw [List.take_length] at H
    simp +contextual (maxSteps := 600000) (disch := omega) only [go_sem, Nat.reduceEqDiff, ↓reduceIte, Int.reduceEq, Int.reduceNeg, wrap_add, c0, e1, e2, e3, e4, e9, e10, ld_ptr (H.pt 1 rfl), hv.len]
    exact ⟨_, rfl, H.one⟩
theorem i_LivesOf_ret (σ : St) (cs : List GV) (s : State) (hR : kState.R σ s cs) (m : Bool) (o k : ByteArray) (hl : msState s ≤ 1099511627776) :
    ∃ r τ, Ret Tryz.prog n_i_LivesOf [.agg cs, .bool m, .str o, .str k] σ r τ ∧ Hp σ τ [ow pLive.kd r (livesOf s m o k)] := by
  obtain ⟨a, b, c, v, rfl, _, _, hv, _⟩ := hR
  obtain ⟨l1, l2, l3, l4, _⟩ := msState_all hl
  refine ret_dr ir_i_LivesOf (Nat.le_of_ble_eq_true rfl) ?_
  have H := ((Hp.refl σ).new 1 [a, b, c, v]).nil_Live
  simp +contextual (maxSteps := 600000) (disch := omega) only [go_sem, Nat.reduceEqDiff, ↓reduceIte, Int.reduceEq, Int.reduceNeg, wrap_add, F_i_LivesOf, hv.len]
  generalize hb : σ.length = n1 at *
  refine vc_forJ s.lives.length 16 (fun i env τ => env 1 = .bool m ∧ env 2 = .str o ∧ env 3 = .str k ∧ env 14 = c ∧ env 15 = gi s.lives.length ∧ ∃ w, env 9 = w ∧ Hp σ τ [ow pLive.kd w ((s.lives.take i).filter (isLive m o k)), pt 1 n1 [a, b, c, v]]) rfl ⟨rfl, rfl, rfl, rfl, rfl, _, rfl, H⟩ ?_ ?_
  · rintro J hJ i env τ hi e10 c0 ⟨e1, e2, e3, e4, e15, w, e9, H⟩
    have hfl := List.length_filter_le (isLive m o k) (s.lives.take i)
    rw [List.length_take] at hfl
    have C1 := Live_at (hv.pre H.sub) hi
    have G := H.grow (pre1 τ (some (Blk.row 1 [.bool s.lives[i].map, .str s.lives[i].obj, .str s.lives[i].key, gi s.lives[i].val, gi s.lives[i].dot.rep, gi s.lives[i].dot.seq])))
    have hfs := live_snoc (m := m) (o := o) (k := k) hi
    cases hm : (s.lives[i].map == m) with
    | false =>
      have hk0 : isLive m o k s.lives[i] = false := by simp [isLive, hm]
      rw [if_neg (by simp [hk0])] at hfs
      simp +contextual (maxSteps := 600000) (disch := omega) only [go_sem, Nat.reduceEqDiff, ↓reduceIte, Int.reduceEq, Int.reduceNeg, wrap_add, c0, e1, e2, e3, e4, e15, e9, e10, C1, hm, Bool.false_bne]
      refine hJ _ _ _ ⟨?_, ?_, ?_, ?_, ?_, w, ?_, by rw [hfs]; exact G⟩
      all_goals simp +contextual (maxSteps := 600000) (disch := omega) only [go_sem, Nat.reduceEqDiff, ↓reduceIte, Int.reduceEq, Int.reduceNeg, wrap_add, e1, e2, e3, e4, e15, e9, e10]
    | true =>
      cases ho : decide (s.lives[i].obj = o) with
      | false =>
        have hk0 : isLive m o k s.lives[i] = false := by simp [isLive, hm, ho]
        rw [if_neg (by simp [hk0])] at hfs
        simp +contextual (maxSteps := 600000) (disch := omega) only [go_sem, Nat.reduceEqDiff, ↓reduceIte, Int.reduceEq, Int.reduceNeg, wrap_add, c0, e1, e2, e3, e4, e15, e9, e10, C1, hm, ho, Bool.false_bne]
        refine hJ _ _ _ ⟨?_, ?_, ?_, ?_, ?_, w, ?_, by rw [hfs]; exact G⟩
        all_goals simp +contextual (maxSteps := 600000) (disch := omega) only [go_sem, Nat.reduceEqDiff, ↓reduceIte, Int.reduceEq, Int.reduceNeg, wrap_add, e1, e2, e3, e4, e15, e9, e10]
      | true =>
        cases hk : decide (s.lives[i].key = k) with
        | false =>
          have hk0 : isLive m o k s.lives[i] = false := by simp [isLive, hm, ho, hk]
          rw [if_neg (by simp [hk0])] at hfs
          simp +contextual (maxSteps := 600000) (disch := omega) only [go_sem, Nat.reduceEqDiff, ↓reduceIte, Int.reduceEq, Int.reduceNeg, wrap_add, c0, e1, e2, e3, e4, e15, e9, e10, C1, hm, ho, hk, Bool.false_bne]
          refine hJ _ _ _ ⟨?_, ?_, ?_, ?_, ?_, w, ?_, by rw [hfs]; exact G⟩
          all_goals simp +contextual (maxSteps := 600000) (disch := omega) only [go_sem, Nat.reduceEqDiff, ↓reduceIte, Int.reduceEq, Int.reduceNeg, wrap_add, e1, e2, e3, e4, e15, e9, e10]
        | true =>
          have hk0 : isLive m o k s.lives[i] = true := by simp [isLive, hm, ho, hk]
          rw [if_pos hk0] at hfs
          obtain ⟨w', τ3, e5, H3⟩ := G.app_Live 0 rfl s.lives[i] (by omega)
          simp +contextual (maxSteps := 600000) (disch := omega) only [go_sem, Nat.reduceEqDiff, ↓reduceIte, Int.reduceEq, Int.reduceNeg, wrap_add, c0, e1, e2, e3, e4, e15, e9, e10, C1, hm, ho, hk, Bool.false_bne, e5]
          refine hJ _ _ _ ⟨?_, ?_, ?_, ?_, ?_, w', ?_, by rw [hfs]; exact H3⟩
          all_goals simp +contextual (maxSteps := 600000) (disch := omega) only [go_sem, Nat.reduceEqDiff, ↓reduceIte, Int.reduceEq, Int.reduceNeg, wrap_add, e1, e2, e3, e4, e15, e9, e10]
  · rintro env τ e10 c0 ⟨e1, e2, e3, e4, e15, w, e9, H⟩
    rw [List.take_length] at H
    simp +contextual (maxSteps := 600000) (disch := omega) only [go_sem, Nat.reduceEqDiff, ↓reduceIte, Int.reduceEq, Int.reduceNeg, wrap_add, c0, e1, e2, e3, e4, e15, e9, e10]
    exact ⟨_, rfl, H.one⟩
end Go.Proofs.YtffnefmklckngaaGreat.Sy

/- Sorts of texts. -/
namespace Go.Proofs.YtffnefmklckngaaGreat.Sy
open Go Go.RowKit
set_option linter.unusedSimpArgs false
set_option linter.unusedVariables false
set_option maxRecDepth 4000
abbrev n_cmp_Less_string : Nat := 251
def F_cmp_Less_string : Fn1 := ⟨17, [.t 4], (.seq (.reg [o 4 (.mov (.k (.bool false)))]) (.seq (.reg [o 5 (.mov (.t 0)), o 6 (.call 260 [(.t 5)]), o 7 (.mov (.t 6)), og 8 7 true (.mov (.t 1)), og 9 7 true (.call 260 [(.t 8)]), og 10 7 true (.un .not (.t 9)), o 11 (.pick (.t 7) (.t 10) (.k (.bool false))), o 12 (.mov (.t 11)), og 13 12 false (.mov (.t 0)), og 14 12 false (.mov (.t 1)), og 15 12 false (.bin .lss (.t 13) (.t 14)), o 16 (.pick (.t 12) (.k (.bool true)) (.t 15)), o 4 (.mov (.t 16))]) .ret))⟩
theorem ir_cmp_Less_string : compFn Tryz.prog n_cmp_Less_string = some F_cmp_Less_string := by kernel_rfl
abbrev n_slices_Sort_string_string : Nat := 189
abbrev n_slices_Compact_string_string : Nat := 190
abbrev n_slices_pdqsortOrdered_string : Nat := 219
abbrev n_slices_insertionSortOrdered_string : Nat := 245
abbrev n_slices_siftDownOrdered_string : Nat := 263
abbrev n_slices_heapSortOrdered_string : Nat := 246
abbrev n_slices_reverseRangeOrdered_string : Nat := 249
abbrev n_slices_partialInsertionSortOrdered_string : Nat := 250
abbrev n_slices_partitionEqualOrdered_string : Nat := 252
abbrev n_slices_partitionOrdered_string : Nat := 253
abbrev n_slices_breakPatternsOrdered_string : Nat := 247
abbrev n_slices_order2Ordered_string : Nat := 291
abbrev n_slices_medianOrdered_string : Nat := 265
abbrev n_slices_medianAdjacentOrdered_string : Nat := 264
abbrev n_slices_choosePivotOrdered_string : Nat := 248
def elS : El ByteArray := ⟨pS, false, .str, fun _ => rfl, fun _ => rfl, by decide⟩
theorem cmp_Less_string_ret (σ : St) (a b : ByteArray) : Ret Tryz.prog n_cmp_Less_string [.str a, .str b] σ (.bool (txLt a b)) σ := by
  refine ret_eq ir_cmp_Less_string (Nat.le_of_ble_eq_true rfl) trivial ?_
  simp +contextual (maxSteps := 600000) (disch := omega) only [go_sem, Nat.reduceEqDiff, ↓reduceIte, Int.reduceEq, Int.reduceNeg, wrap_add, F_cmp_Less_string]
  refine by_ret (cmp_isNaN_string_ret σ a) ?_
  simp +contextual (maxSteps := 600000) (disch := omega) only [go_sem, Nat.reduceEqDiff, ↓reduceIte, Int.reduceEq, Int.reduceNeg, wrap_add, txLt]
def qS : SN := ⟨n_slices_insertionSortOrdered_string, n_slices_siftDownOrdered_string, n_slices_heapSortOrdered_string, n_slices_reverseRangeOrdered_string, n_slices_partialInsertionSortOrdered_string, n_slices_partitionEqualOrdered_string, n_slices_partitionOrdered_string, n_slices_breakPatternsOrdered_string, n_slices_order2Ordered_string, n_slices_medianOrdered_string, n_slices_medianAdjacentOrdered_string, n_slices_choosePivotOrdered_string, n_slices_pdqsortOrdered_string, n_cmp_Less_string, n_slices_nextPowerOfTwo, n_slices_xorshift_Next⟩
def srtS : SrtO ByteArray txLt where
  e := elS
  q := qS
  call := cmp_Less_string_ret
  h_insertionSort := by kernel_rfl
  h_siftDown := by kernel_rfl
  h_heapSort := by kernel_rfl
  h_reverseRange := by kernel_rfl
  h_partialInsertionSort := by kernel_rfl
  h_partitionEqual := by kernel_rfl
  h_partition := by kernel_rfl
  h_breakPatterns := by kernel_rfl
  h_order2 := by kernel_rfl
  h_median := by kernel_rfl
  h_medianAdjacent := by kernel_rfl
  h_choosePivot := by kernel_rfl
  h_pdqsort := by kernel_rfl
  nS := n_slices_Sort_string_string
  h_Sort := by kernel_rfl
  hnp := rfl
  hxs := rfl
theorem slices_Sort_string_ret {σ0 σ : St} {rs : List Thg} {v : GV} {l : List ByteArray} (H : Hp σ0 σ rs) (k : Nat) (hk : rs[k]? = some (ow pS.kd v l)) (hl : l.length ≤ 1099511627776) : ∃ τ, Ret Tryz.prog n_slices_Sort_string_string [v] σ (.tup []) τ ∧ Hp σ0 τ (rs.set k (ow pS.kd v (insAll txLt l))) :=
  O.sort_ret srtS swo_txLt H k hk hl fun x _ y _ => tri_txLt x y
end Go.Proofs.YtffnefmklckngaaGreat.Sy

/- Contracts: what is read of a state. -/
namespace Go.Proofs.YtffnefmklckngaaGreat.Sy
open Go Go.RowKit
set_option linter.unusedSimpArgs false
set_option linter.unusedVariables false
set_option maxRecDepth 4000
abbrev n_s_CountOf : Nat := 67
def F_s_CountOf : Fn1 := ⟨33, [.t 4], (.seq (.reg [o 2 (.box (.t 0)), o 4 (.mov (.k (.int .i64 0)))]) (.seq (.reg [o 5 (.mov (.k (.int .i64 0)))]) (.seq (.seq (.reg [o 6 (.mov (.k (.int .i64 0)))]) (.blk 0 (.lop (.seq (.seq (.reg [o 7 (.mov (.t 6)), o 8 (.fad 1 (.t 2)), o 9 (.ld false 1 (.t 8)), o 10 (.len false (.t 9)), o 11 (.bin .lss (.t 7) (.t 10))]) (.cnd (.t 11) .skip (.ext 0))) (.seq (.blk 1 (.seq (.reg [o 14 (.fad 1 (.t 2)), o 15 (.ld false 1 (.t 14)), o 16 (.mov (.t 6)), o 17 (.iad 3 (.t 15) (.t 16)), o 18 (.fad 0 (.t 17)), o 19 (.ld false 1 (.t 18)), o 20 (.mov (.t 1)), o 21 (.bin .eql (.t 19) (.t 20))]) (.cnd (.t 21) (.reg [o 22 (.mov (.t 5)), o 23 (.fad 1 (.t 2)), o 24 (.ld false 1 (.t 23)), o 25 (.mov (.t 6)), o 26 (.iad 3 (.t 24) (.t 25)), o 27 (.fad 2 (.t 26)), o 28 (.ld false 1 (.t 27)), o 29 (.bin .rem (.t 28) (.k (.int .i64 1000000))), o 30 (.bin .add (.t 22) (.t 29)), o 31 (.bin .rem (.t 30) (.k (.int .i64 1000000))), o 5 (.mov (.t 31))]) .skip))) (.reg [o 12 (.mov (.t 6)), o 13 (.bin .add (.t 12) (.k (.int .i64 1))), o 6 (.mov (.t 13))])))))) (.seq (.reg [o 32 (.mov (.t 5)), o 4 (.mov (.t 32))]) .ret))))⟩
theorem ir_s_CountOf : compFn Tryz.prog n_s_CountOf = some F_s_CountOf := by kernel_rfl
abbrev n_i_CountOf : Nat := 78
def F_i_CountOf : Fn1 := ⟨27, [.t 4], (.seq (.reg [o 2 (.box (.t 0)), o 4 (.mov (.k (.int .i64 0)))]) (.seq (.reg [o 5 (.mov (.k (.int .i64 0)))]) (.seq (.seq (.reg [o 8 (.fad 1 (.t 2)), o 9 (.ld false 1 (.t 8)), o 10 (.len false (.t 9)), o 11 (.mov (.k (.int .i64 0)))]) (.blk 0 (.lop (.seq (.reg [o 12 (.bin .lss (.t 11) (.t 10))]) (.seq (.cnd (.t 12) .skip (.ext 0)) (.seq (.blk 1 (.seq (.reg [o 13 (.iad 3 (.t 9) (.t 11)), o 14 (.ld true 3 (.t 13)), o 7 (.new [(.str ⟨#[]⟩), (.int .i64 0), (.int .i64 0)]), on (.st 3 (.t 7) (.t 14))]) (.seq (.reg [o 15 (.fad 0 (.t 7)), o 16 (.ld false 1 (.t 15)), o 17 (.mov (.t 1)), o 18 (.bin .eql (.t 16) (.t 17))]) (.cnd (.t 18) (.reg [o 19 (.mov (.t 5)), o 20 (.fad 2 (.t 7)), o 21 (.ld false 1 (.t 20)), o 22 (.bin .rem (.t 21) (.k (.int .i64 1000000))), o 23 (.bin .add (.t 19) (.t 22)), o 24 (.bin .rem (.t 23) (.k (.int .i64 1000000))), o 5 (.mov (.t 24))]) .skip)))) (.reg [o 25 (.bin .add (.t 11) (.k (.int .i64 1))), o 11 (.mov (.t 25))]))))))) (.seq (.reg [o 26 (.mov (.t 5)), o 4 (.mov (.t 26))]) .ret))))⟩
theorem ir_i_CountOf : compFn Tryz.prog n_i_CountOf = some F_i_CountOf := by kernel_rfl
abbrev n_s_l08Put : Nat := 186
def F_s_l08Put : Fn1 := ⟨50, [.t 4], (.seq (.reg [o 4 (.mov (.k .nilS))]) (.seq (.reg [o 8 (.lit 1 0 [] []), o 5 (.mov (.t 8))]) (.seq (.reg [o 6 (.mov (.k (.bool false)))]) (.seq (.seq (.reg [o 7 (.mov (.k (.int .i64 0)))]) (.blk 0 (.lop (.seq (.seq (.reg [o 9 (.mov (.t 7)), o 10 (.mov (.t 0)), o 11 (.len false (.t 10)), o 12 (.bin .lss (.t 9) (.t 11))]) (.cnd (.t 12) .skip (.ext 0))) (.seq (.blk 1 (.seq (.seq (.reg [o 15 (.mov (.t 0)), o 16 (.mov (.t 7)), o 17 (.iad 1 (.t 15) (.t 16)), o 18 (.ld false 1 (.t 17)), o 19 (.mov (.t 1)), o 20 (.bin .eql (.t 18) (.t 19))]) (.cnd (.t 20) (.seq (.reg [o 21 (.mov (.t 0)), o 4 (.mov (.t 21))]) .ret) .skip)) (.seq (.seq (.reg [o 22 (.mov (.t 6)), o 23 (.un .not (.t 22)), o 24 (.mov (.t 23)), og 25 24 true (.mov (.t 0)), og 26 24 true (.mov (.t 7)), og 27 24 true (.iad 1 (.t 25) (.t 26)), og 28 24 true (.ld false 1 (.t 27)), og 29 24 true (.mov (.t 1)), og 30 24 true (.bin .gtr (.t 28) (.t 29)), o 31 (.pick (.t 24) (.t 30) (.k (.bool false)))]) (.cnd (.t 31) (.seq (.reg [o 32 (.mov (.t 5)), o 33 (.mov (.t 1)), o 34 (.lit 1 1 [(.str ⟨#[]⟩)] [(0, 1, (.t 33))]), o 35 (.app 1 16 [(.str ⟨#[]⟩)] (.t 32) (.t 34)), o 5 (.mov (.t 35))]) (.reg [o 6 (.mov (.k (.bool true)))])) .skip)) (.reg [o 36 (.mov (.t 5)), o 37 (.mov (.t 0)), o 38 (.mov (.t 7)), o 39 (.iad 1 (.t 37) (.t 38)), o 40 (.ld false 1 (.t 39)), o 41 (.lit 1 1 [(.str ⟨#[]⟩)] [(0, 1, (.t 40))]), o 42 (.app 1 16 [(.str ⟨#[]⟩)] (.t 36) (.t 41)), o 5 (.mov (.t 42))])))) (.reg [o 13 (.mov (.t 7)), o 14 (.bin .add (.t 13) (.k (.int .i64 1))), o 7 (.mov (.t 14))])))))) (.seq (.seq (.reg [o 43 (.mov (.t 6)), o 44 (.un .not (.t 43))]) (.cnd (.t 44) (.reg [o 45 (.mov (.t 5)), o 46 (.mov (.t 1)), o 47 (.lit 1 1 [(.str ⟨#[]⟩)] [(0, 1, (.t 46))]), o 48 (.app 1 16 [(.str ⟨#[]⟩)] (.t 45) (.t 47)), o 5 (.mov (.t 48))]) .skip)) (.seq (.reg [o 49 (.mov (.t 5)), o 4 (.mov (.t 49))]) .ret))))))⟩
theorem ir_s_l08Put : compFn Tryz.prog n_s_l08Put = some F_s_l08Put := by kernel_rfl
theorem tmod_bd (x : Int) : -1000000 < x.tmod 1000000 ∧ x.tmod 1000000 < 1000000 := by
  have h1 := Int.tmod_lt_of_pos x (b := 1000000) (by decide)
  have h2 := Int.tmod_lt_of_pos (-x) (b := 1000000) (by decide)
  rw [Int.neg_tmod] at h2
  omega
theorem count_take {l : List Tally} {o : ByteArray} {i : Nat} (hi : i < l.length) : (l.take (i + 1)).foldl (countF o) 0 = if l[i].obj = o then addM ((l.take i).foldl (countF o) 0) (l[i].sum.tmod 1000000) else (l.take i).foldl (countF o) 0 := by
  rw [List.take_succ_eq_append_getElem hi, countF_snoc]; rfl
theorem s_CountOf_ret (σ : St) (cs : List GV) (s : State) (hR : kState.R σ s cs) (o : ByteArray) (hl : msState s ≤ 1099511627776) : Ret Tryz.prog n_s_CountOf [.agg cs, .str o] σ (gi (countOf s o)) σ := by
  obtain ⟨a, b, c, v, rfl, _, hb, _, _⟩ := hR
  obtain ⟨l1, l2, l3, l4, _⟩ := msState_all hl
  refine ret_eq ir_s_CountOf (Nat.le_of_ble_eq_true rfl) trivial ?_
  simp +contextual (maxSteps := 600000) (disch := omega) only [go_sem, Nat.reduceEqDiff, ↓reduceIte, Int.reduceEq, Int.reduceNeg, wrap_add, F_s_CountOf]
  have hB : rdB (σ ++ [some (Blk.row 1 [a, b, c, v])]) σ.length = some [a, b, c, v] := box_rd (List.prefix_refl _)
  generalize hn1 : σ.length = n1 at *
  refine vc_forX s.tallies.length 6 0 (fun i env τ => env 1 = .str o ∧ env 2 = .ptr n1 0 ∧ env 5 = gi ((s.tallies.take i).foldl (countF o) 0) ∧ σ ++ [some (Blk.row 1 [a, b, c, v])] <+: τ) (fun env τ => env 5 = gi (countOf s o) ∧ σ ++ [some (Blk.row 1 [a, b, c, v])] <+: τ) rfl ⟨rfl, rfl, rfl, List.prefix_refl _⟩ ?_ ?_ ?_
  · rintro J Y hJ hY i env τ hi e6 c0 ⟨e1, e2, e5, hp⟩
    have T := Tally_at (hb.pre ((pre1 _ _).trans hp)) hi
    have hln := (hb.pre ((pre1 _ _).trans hp)).len
    have hbd := countF_bd (l := s.tallies.take i) (o := o) (n := 0) (by decide)
    have htm := tmod_bd s.tallies[i].sum
    have hst := count_take (o := o) hi
    generalize (s.tallies.take i).foldl (countF o) 0 = n at *
    cases ho : decide (s.tallies[i].obj = o) with
    | false =>
      have ho2 : ¬ s.tallies[i].obj = o := by simpa using ho
      rw [if_neg ho2] at hst
      simp +contextual (maxSteps := 600000) (disch := omega) only [go_sem, Nat.reduceEqDiff, ↓reduceIte, Int.reduceEq, Int.reduceNeg, wrap_add, c0, e1, e2, e5, e6, ld_ptr (rdB_pre hp hB), T, hln, ho]
      refine hJ _ _ _ ⟨?_, ?_, ?_, hp⟩
      all_goals simp +contextual (maxSteps := 600000) (disch := omega) only [go_sem, Nat.reduceEqDiff, ↓reduceIte, Int.reduceEq, Int.reduceNeg, wrap_add, e1, e2, e5, hst]
    | true =>
      have ho2 : s.tallies[i].obj = o := by simpa using ho
      rw [if_pos ho2] at hst
      have w1 : IntKind.i64.wrap (n + s.tallies[i].sum.tmod 1000000) = n + s.tallies[i].sum.tmod 1000000 := wrap_add (by omega) (by omega)
      simp +contextual (maxSteps := 600000) (disch := omega) only [go_sem, Nat.reduceEqDiff, ↓reduceIte, Int.reduceEq, Int.reduceNeg, wrap_add, c0, e1, e2, e5, e6, ld_ptr (rdB_pre hp hB), T, hln, ho, w1]
      refine hJ _ _ _ ⟨?_, ?_, ?_, hp⟩
      all_goals simp +contextual (maxSteps := 600000) (disch := omega) only [go_sem, Nat.reduceEqDiff, ↓reduceIte, Int.reduceEq, Int.reduceNeg, wrap_add, e1, e2, e5, hst, addM]
  · rintro Y hY env τ e6 c0 ⟨e1, e2, e5, hp⟩
    rw [List.take_length] at e5
    have hln := (hb.pre ((pre1 _ _).trans hp)).len
    simp +contextual (maxSteps := 600000) (disch := omega) only [go_sem, Nat.reduceEqDiff, ↓reduceIte, Int.reduceEq, Int.reduceNeg, wrap_add, c0, e1, e2, e5, e6, ld_ptr (rdB_pre hp hB), hln]
    refine hY _ _ ⟨?_, hp⟩
    simp +contextual (maxSteps := 600000) (disch := omega) only [go_sem, Nat.reduceEqDiff, ↓reduceIte, Int.reduceEq, Int.reduceNeg, wrap_add, e5, countOf]
  · rintro env τ ⟨e5, hp⟩
    simp +contextual (maxSteps := 600000) (disch := omega) only [go_sem, Nat.reduceEqDiff, ↓reduceIte, Int.reduceEq, Int.reduceNeg, wrap_add, e5]
    exact (pre1 _ _).trans hp
theorem i_CountOf_ret (σ : St) (cs : List GV) (s : State) (hR : kState.R σ s cs) (o : ByteArray) (hl : msState s ≤ 1099511627776) : Ret Tryz.prog n_i_CountOf [.agg cs, .str o] σ (gi (countOf s o)) σ := by
  obtain ⟨a, b, c, v, rfl, _, hb, _, _⟩ := hR
  obtain ⟨l1, l2, l3, l4, _⟩ := msState_all hl
  refine ret_eq ir_i_CountOf (Nat.le_of_ble_eq_true rfl) trivial ?_
  simp +contextual (maxSteps := 600000) (disch := omega) only [go_sem, Nat.reduceEqDiff, ↓reduceIte, Int.reduceEq, Int.reduceNeg, wrap_add, F_i_CountOf, hb.len]
  refine vc_forX s.tallies.length 11 0 (fun i env τ => env 1 = .str o ∧ env 9 = b ∧ env 10 = gi s.tallies.length ∧ env 5 = gi ((s.tallies.take i).foldl (countF o) 0) ∧ σ <+: τ) (fun env τ => env 5 = gi (countOf s o) ∧ σ <+: τ) rfl ⟨rfl, rfl, rfl, rfl, pre1 _ _⟩ ?_ ?_ ?_
  · rintro J Y hJ hY i env τ hi e11 c0 ⟨e1, e9, e10, e5, hp⟩
    have T := Tally_at (hb.pre hp) hi
    have hp2 := pre_app hp [some (Blk.row 1 [.str s.tallies[i].obj, gi s.tallies[i].rep, gi s.tallies[i].sum])]
    have hbd := countF_bd (l := s.tallies.take i) (o := o) (n := 0) (by decide)
    have htm := tmod_bd s.tallies[i].sum
    have hst := count_take (o := o) hi
    generalize (s.tallies.take i).foldl (countF o) 0 = n at *
    cases ho : decide (s.tallies[i].obj = o) with
    | false =>
      have ho2 : ¬ s.tallies[i].obj = o := by simpa using ho
      rw [if_neg ho2] at hst
      simp +contextual (maxSteps := 600000) (disch := omega) only [go_sem, Nat.reduceEqDiff, ↓reduceIte, Int.reduceEq, Int.reduceNeg, wrap_add, c0, e1, e9, e10, e5, e11, T, ho]
      refine hJ _ _ _ ⟨?_, ?_, ?_, ?_, hp2⟩
      all_goals simp +contextual (maxSteps := 600000) (disch := omega) only [go_sem, Nat.reduceEqDiff, ↓reduceIte, Int.reduceEq, Int.reduceNeg, wrap_add, e1, e9, e10, e5, hst]
    | true =>
      have ho2 : s.tallies[i].obj = o := by simpa using ho
      rw [if_pos ho2] at hst
      have w1 : IntKind.i64.wrap (n + s.tallies[i].sum.tmod 1000000) = n + s.tallies[i].sum.tmod 1000000 := wrap_add (by omega) (by omega)
      simp +contextual (maxSteps := 600000) (disch := omega) only [go_sem, Nat.reduceEqDiff, ↓reduceIte, Int.reduceEq, Int.reduceNeg, wrap_add, c0, e1, e9, e10, e5, e11, T, ho, w1]
      refine hJ _ _ _ ⟨?_, ?_, ?_, ?_, hp2⟩
      all_goals simp +contextual (maxSteps := 600000) (disch := omega) only [go_sem, Nat.reduceEqDiff, ↓reduceIte, Int.reduceEq, Int.reduceNeg, wrap_add, e1, e9, e10, e5, hst, addM]
  · rintro Y hY env τ e11 c0 ⟨e1, e9, e10, e5, hp⟩
    rw [List.take_length] at e5
    simp +contextual (maxSteps := 600000) (disch := omega) only [go_sem, Nat.reduceEqDiff, ↓reduceIte, Int.reduceEq, Int.reduceNeg, wrap_add, c0, e1, e9, e10, e5, e11]
    refine hY _ _ ⟨?_, hp⟩
    simp +contextual (maxSteps := 600000) (disch := omega) only [go_sem, Nat.reduceEqDiff, ↓reduceIte, Int.reduceEq, Int.reduceNeg, wrap_add, e5, countOf]
  · rintro env τ ⟨e5, hp⟩
    simp +contextual (maxSteps := 600000) (disch := omega) only [go_sem, Nat.reduceEqDiff, ↓reduceIte, Int.reduceEq, Int.reduceNeg, wrap_add, e5, hp]
/-- The first thing comes to stand in another's place. -/
theorem Hp.moveTo {σ τ : St} {r r' : Thg} {rs : List Thg} (H : Hp σ τ (r :: rs)) (k : Nat) (hk : rs[k]? = some r') : Hp σ τ (rs.set k r) := by
  have hkl := (List.getElem?_eq_some_iff.1 hk).1
  have h1 := (H.pick (k + 1) hk).drop1
  exact Hp.unpick h1 hkl
/-- A loop that counts, is left at one place, and may hand back within. -/
theorem vc_forR {P : Program} {a : Cd} {Q : Ex → Env → St → Prop} {env : Env} {σ : St} (n ri j0 : Nat) (I : Nat → Env → St → Prop) (X Z : Env → St → Prop) (hr : env ri = gi 0) (h0 : I 0 env σ)
    (hs : ∀ (J : Nat → Env → St → Prop) (Y W : Env → St → Prop), (∀ i env σ, I i env σ → J i env σ) → (∀ env σ, X env σ → Y env σ) → (∀ env σ, Z env σ → W env σ) → ∀ i env σ, i < n → env ri = gi i → decide ((i : Int) < n) = true → I i env σ → vc P a (fun e env' σ' => match e with | .nxt => env' ri = gi ((i : Int) + 1) ∧ J (i + 1) env' σ' | .ext j => j = j0 ∧ Y env' σ' | .ret => W env' σ') env σ)
    (he : ∀ (Y : Env → St → Prop), (∀ env σ, X env σ → Y env σ) → ∀ env σ, env ri = gi n → decide ((n : Int) < n) = false → I n env σ → vc P a (fun e env' σ' => match e with | .nxt => False | .ext j => j = j0 ∧ Y env' σ' | .ret => False) env σ)
    (hx : ∀ env σ, X env σ → Q (.ext j0) env σ) (hz : ∀ env σ, Z env σ → Q .ret env σ) : vc P (.lop a) Q env σ := by
  refine vc_for n ri I hr h0 (fun i env σ h1 h2 h3 h4 => vc_mono (hs I X Z (fun _ _ _ h => h) (fun _ _ h => h) (fun _ _ h => h) i env σ h1 h2 h3 h4) fun e env' σ' hq => ?_) (fun env σ h1 h2 h3 => vc_mono (he X (fun _ _ h => h) env σ h1 h2 h3) fun e env' σ' hq => ?_)
  · cases e with
    | nxt => exact hq
    | ret => exact hz _ _ hq
    | ext j => obtain ⟨rfl, hq⟩ := hq; exact hx _ _ hq
  · cases e with
    | nxt => exact hq
    | ret => exact hq.elim
    | ext j => obtain ⟨rfl, hq⟩ := hq; exact hx _ _ hq
theorem s_l08Put_ret {σ0 σ : St} {rs : List Thg} {w : GV} {l : List ByteArray} (s : ByteArray) (H : Hp σ0 σ rs) (k : Nat) (hk : rs[k]? = some (ow pS.kd w l)) (hl : l.length ≤ 1099511627776) : ∃ w' τ, Ret Tryz.prog n_s_l08Put [w, .str s] σ w' τ ∧ Hp σ0 τ (rs.set k (ow pS.kd w' (putU txLt s l))) := by
  have key : ∃ r τ, Ret Tryz.prog n_s_l08Put [w, .str s] σ r τ ∧ Hp σ0 τ (rs.set k (ow pS.kd r (putU txLt s l))) := by
    have hkl := (List.getElem?_eq_some_iff.1 hk).1
    have hset : rs.set k (ow pS.kd w l) = rs := by rw [← (List.getElem?_eq_some_iff.1 hk).2, List.set_getElem_self]
    refine ret_dr ir_s_l08Put (Nat.le_of_ble_eq_true rfl) ?_
    have H := H.nil_str
    simp +contextual (maxSteps := 600000) (disch := omega) only [go_sem, Nat.reduceEqDiff, ↓reduceIte, Int.reduceEq, Int.reduceNeg, wrap_add, F_s_l08Put]
    refine vc_forR l.length 7 0 (fun i env τ => env 0 = w ∧ env 1 = .str s ∧ ∃ (u : GV) (put : Bool) (nxt : List ByteArray), env 5 = u ∧ env 6 = .bool put ∧ (∀ j (hj : j < i) (hl : j < l.length), l[j] ≠ s) ∧ insG txLt s l nxt i put ∧ Hp σ0 τ (ow pS.kd u nxt :: rs)) (fun env τ => env 1 = .str s ∧ ∃ (u : GV) (put : Bool) (nxt : List ByteArray), env 5 = u ∧ env 6 = .bool put ∧ s ∉ l ∧ insG txLt s l nxt l.length put ∧ Hp σ0 τ (ow pS.kd u nxt :: rs)) (fun env τ => env 4 = w ∧ s ∈ l ∧ Hp σ0 τ rs) rfl ⟨rfl, rfl, _, false, [], rfl, rfl, fun j hj => by omega, insG_nil, H⟩ ?_ ?_ ?_ ?_
    · clear H
      rintro J Y W hJ hY hW i env τ hi e7 c0 ⟨e0, e1, u, put, nxt, e5, e6, ha, hok, H⟩
      have hk1 : (ow pS.kd u nxt :: rs)[k + 1]? = some (ow pS.kd w l) := hk
      have hnl := insG_len hok
      have i1 := str_at (H.sl (k + 1) hk1) hi
      have hln := (H.sl (k + 1) hk1).len
      cases heq : decide (l[i] = s) with
      | true =>
        have hm : s ∈ l := by
          have : l[i] = s := by simpa using heq
          rw [← this]; exact List.getElem_mem hi
        simp +contextual (maxSteps := 600000) (disch := omega) only [go_sem, Nat.reduceEqDiff, ↓reduceIte, Int.reduceEq, Int.reduceNeg, wrap_add, c0, e0, e1, e5, e6, e7, i1, hln, heq]
        refine hW _ _ ⟨?_, hm, H.drop1⟩
        simp +contextual (maxSteps := 600000) (disch := omega) only [go_sem, Nat.reduceEqDiff, ↓reduceIte, Int.reduceEq, Int.reduceNeg, wrap_add, e0]
      | false =>
        have hne : l[i] ≠ s := by simpa using heq
        have ha2 : ∀ j (hj : j < i + 1) (hl : j < l.length), l[j] ≠ s := fun j hj hl => by
          rcases Nat.lt_or_ge j i with h | h
          · exact ha j h hl
          · have : j = i := by omega
            subst this; exact hne
        cases put with
        | true =>
          obtain ⟨w', τ3, e8, H3⟩ := H.app_str 0 rfl l[i] (by omega)
          simp +contextual (maxSteps := 600000) (disch := omega) only [go_sem, Nat.reduceEqDiff, ↓reduceIte, Int.reduceEq, Int.reduceNeg, wrap_add, c0, e0, e1, e5, e6, e7, i1, hln, heq, e8]
          refine hJ _ _ _ ⟨?_, ?_, w', true, _, ?_, ?_, ha2, insG_step hok hi (.inl rfl), H3⟩
          all_goals simp +contextual (maxSteps := 600000) (disch := omega) only [go_sem, Nat.reduceEqDiff, ↓reduceIte, Int.reduceEq, Int.reduceNeg, wrap_add, e0, e1, e6]
        | false =>
          cases hlt : txLt s l[i] with
          | false =>
            obtain ⟨w', τ3, e8, H3⟩ := H.app_str 0 rfl l[i] (by omega)
            simp +contextual (maxSteps := 600000) (disch := omega) only [go_sem, Nat.reduceEqDiff, ↓reduceIte, Int.reduceEq, Int.reduceNeg, wrap_add, c0, e0, e1, e5, e6, e7, i1, hln, heq, hlt, e8]
            refine hJ _ _ _ ⟨?_, ?_, w', false, _, ?_, ?_, ha2, insG_step hok hi (.inr hlt), H3⟩
            all_goals simp +contextual (maxSteps := 600000) (disch := omega) only [go_sem, Nat.reduceEqDiff, ↓reduceIte, Int.reduceEq, Int.reduceNeg, wrap_add, e0, e1, e6]
          | true =>
            obtain ⟨w', τ3, e8, H3⟩ := H.app_str 0 rfl s (by omega)
            have H3 : Hp σ0 τ3 (ow pS.kd w' (nxt ++ [s]) :: rs) := H3
            have hp := insG_put hok hi hlt
            have hnl2 := insG_len hp
            simp only [List.length_append, List.length_cons, List.length_nil] at hnl2
            have i2 := str_at (H3.sl (k + 1) hk) hi
            obtain ⟨w2, τ4, e9, H4⟩ := H3.app_str 0 rfl l[i] (by simp; omega)
            simp +contextual (maxSteps := 600000) (disch := omega) only [go_sem, Nat.reduceEqDiff, ↓reduceIte, Int.reduceEq, Int.reduceNeg, wrap_add, c0, e0, e1, e5, e6, e7, i1, hln, heq, hlt, e8, i2, e9]
            refine hJ _ _ _ ⟨?_, ?_, w2, true, _, ?_, ?_, ha2, hp, H4⟩
            all_goals simp +contextual (maxSteps := 600000) (disch := omega) only [go_sem, Nat.reduceEqDiff, ↓reduceIte, Int.reduceEq, Int.reduceNeg, wrap_add, e0, e1, e6]
    · clear H
      rintro Y hY env τ e7 c0 ⟨e0, e1, u, put, nxt, e5, e6, ha, hok, H⟩
      have hk1 : (ow pS.kd u nxt :: rs)[k + 1]? = some (ow pS.kd w l) := hk
      have hln := (H.sl (k + 1) hk1).len
      have hni : s ∉ l := fun hm => by
        obtain ⟨j, hj, he⟩ := List.getElem_of_mem hm
        exact ha j hj hj he
      simp +contextual (maxSteps := 600000) (disch := omega) only [go_sem, Nat.reduceEqDiff, ↓reduceIte, Int.reduceEq, Int.reduceNeg, wrap_add, c0, e0, e1, e5, e6, e7, hln]
      refine hY _ _ ⟨?_, u, put, nxt, ?_, ?_, hni, hok, H⟩
      all_goals simp +contextual (maxSteps := 600000) (disch := omega) only [go_sem, Nat.reduceEqDiff, ↓reduceIte, Int.reduceEq, Int.reduceNeg, wrap_add, e1, e5, e6]
    · clear H
      rintro env τ ⟨e1, u, put, nxt, e5, e6, hni, hok, H⟩
      have hnl := insG_len hok
      have hend := insG_end hok
      have hpu : putU txLt s l = insB txLt s l := by rw [putU, if_neg hni]
      cases put with
      | true =>
        simp +contextual (maxSteps := 600000) (disch := omega) only [go_sem, Nat.reduceEqDiff, ↓reduceIte, Int.reduceEq, Int.reduceNeg, wrap_add, e1, e5, e6]
        refine ⟨_, rfl, ?_⟩
        rw [hpu, ← hend]
        exact (H.perm (List.Perm.refl _)).moveTo k hk
      | false =>
        obtain ⟨w', τ3, e8, H3⟩ := H.app_str 0 rfl s (by omega)
        simp +contextual (maxSteps := 600000) (disch := omega) only [go_sem, Nat.reduceEqDiff, ↓reduceIte, Int.reduceEq, Int.reduceNeg, wrap_add, e1, e5, e6, e8]
        refine ⟨_, rfl, ?_⟩
        rw [hpu, ← hend]
        exact Hp.moveTo H3 k hk
    · clear H
      rintro env τ ⟨e4, hm, H⟩
      have hpu : putU txLt s l = l := by rw [putU, if_pos hm]
      simp +contextual (maxSteps := 600000) (disch := omega) only [go_sem, Nat.reduceEqDiff, ↓reduceIte, Int.reduceEq, Int.reduceNeg, wrap_add, e4]
      exact ⟨_, rfl, by rw [hpu, hset]; exact H⟩
  obtain ⟨r, τ, R, h⟩ := key
  exact ⟨r, τ, R, h⟩
end Go.Proofs.YtffnefmklckngaaGreat.Sy

/- Contracts: keys, sets, maps, rows. -/
namespace Go.Proofs.YtffnefmklckngaaGreat.Sy
open Go Go.RowKit
set_option linter.unusedSimpArgs false
set_option linter.unusedVariables false
set_option maxRecDepth 4000
abbrev n_s_l08Keys : Nat := 124
def F_s_l08Keys : Fn1 := ⟨44, [.t 6], (.seq (.reg [o 3 (.box (.t 0)), o 6 (.mov (.k .nilS))]) (.seq (.reg [o 9 (.lit 1 0 [] []), o 7 (.mov (.t 9))]) (.seq (.seq (.reg [o 8 (.mov (.k (.int .i64 0)))]) (.blk 0 (.lop (.seq (.seq (.reg [o 10 (.mov (.t 8)), o 11 (.fad 2 (.t 3)), o 12 (.ld false 1 (.t 11)), o 13 (.len false (.t 12)), o 14 (.bin .lss (.t 10) (.t 13))]) (.cnd (.t 14) .skip (.ext 0))) (.seq (.blk 1 (.seq (.reg [o 17 (.fad 2 (.t 3)), o 18 (.ld false 1 (.t 17)), o 19 (.mov (.t 8)), o 20 (.iad 6 (.t 18) (.t 19)), o 21 (.fad 0 (.t 20)), o 22 (.ld false 1 (.t 21)), o 23 (.mov (.t 1)), o 24 (.eqb false (.t 22) (.t 23)), o 25 (.mov (.t 24)), og 26 25 true (.fad 2 (.t 3)), og 27 25 true (.ld false 1 (.t 26)), og 28 25 true (.mov (.t 8)), og 29 25 true (.iad 6 (.t 27) (.t 28)), og 30 25 true (.fad 1 (.t 29)), og 31 25 true (.ld false 1 (.t 30)), og 32 25 true (.mov (.t 2)), og 33 25 true (.bin .eql (.t 31) (.t 32)), o 34 (.pick (.t 25) (.t 33) (.k (.bool false)))]) (.cnd (.t 34) (.reg [o 35 (.mov (.t 7)), o 36 (.fad 2 (.t 3)), o 37 (.ld false 1 (.t 36)), o 38 (.mov (.t 8)), o 39 (.iad 6 (.t 37) (.t 38)), o 40 (.fad 2 (.t 39)), o 41 (.ld false 1 (.t 40)), o 42 (.call 186 [(.t 35), (.t 41)]), o 7 (.mov (.t 42))]) .skip))) (.reg [o 15 (.mov (.t 8)), o 16 (.bin .add (.t 15) (.k (.int .i64 1))), o 8 (.mov (.t 16))])))))) (.seq (.reg [o 43 (.mov (.t 7)), o 6 (.mov (.t 43))]) .ret))))⟩
theorem ir_s_l08Keys : compFn Tryz.prog n_s_l08Keys = some F_s_l08Keys := by kernel_rfl
abbrev n_i_keysIn : Nat := 131
def F_i_keysIn : Fn1 := ⟨38, [.t 6], (.seq (.reg [o 3 (.box (.t 0)), o 6 (.mov (.k .nilS))]) (.seq (.reg [o 10 (.lit 1 0 [] []), o 7 (.mov (.t 10))]) (.seq (.seq (.reg [o 11 (.fad 2 (.t 3)), o 12 (.ld false 1 (.t 11)), o 13 (.len false (.t 12)), o 14 (.mov (.k (.int .i64 0)))]) (.blk 0 (.lop (.seq (.reg [o 15 (.bin .lss (.t 14) (.t 13))]) (.seq (.cnd (.t 15) .skip (.ext 0)) (.seq (.blk 1 (.seq (.reg [o 16 (.iad 6 (.t 12) (.t 14)), o 17 (.ld true 6 (.t 16)), o 9 (.new [(.bool false), (.str ⟨#[]⟩), (.str ⟨#[]⟩), (.int .i64 0), (.int .i64 0), (.int .i64 0)]), on (.st 6 (.t 9) (.t 17))]) (.seq (.reg [o 18 (.fad 0 (.t 9)), o 19 (.ld false 1 (.t 18)), o 20 (.mov (.t 1)), o 21 (.eqb false (.t 19) (.t 20)), o 22 (.mov (.t 21)), og 23 22 true (.fad 1 (.t 9)), og 24 22 true (.ld false 1 (.t 23)), og 25 22 true (.mov (.t 2)), og 26 22 true (.bin .eql (.t 24) (.t 25)), o 27 (.pick (.t 22) (.t 26) (.k (.bool false)))]) (.cnd (.t 27) (.reg [o 28 (.mov (.t 7)), o 29 (.fad 2 (.t 9)), o 30 (.ld false 1 (.t 29)), o 31 (.lit 1 1 [(.str ⟨#[]⟩)] [(0, 1, (.t 30))]), o 32 (.app 1 16 [(.str ⟨#[]⟩)] (.t 28) (.t 31)), o 7 (.mov (.t 32))]) .skip)))) (.reg [o 33 (.bin .add (.t 14) (.k (.int .i64 1))), o 14 (.mov (.t 33))]))))))) (.seq (.reg [o 34 (.mov (.t 7)), o 35 (.call 189 [(.t 34)])]) (.seq (.reg [o 36 (.mov (.t 7)), o 37 (.call 190 [(.t 36)]), o 6 (.mov (.t 37))]) .ret)))))⟩
theorem ir_i_keysIn : compFn Tryz.prog n_i_keysIn = some F_i_keysIn := by kernel_rfl
abbrev n_s_SetOf : Nat := 69
def F_s_SetOf : Fn1 := ⟨8, [.t 4], (.seq (.reg [o 2 (.box (.t 0)), o 4 (.mov (.k .nilS))]) (.seq (.reg [o 5 (.ld true 4 (.t 2)), o 6 (.mov (.t 1)), o 7 (.call 124 [(.t 5), (.k (.bool false)), (.t 6)]), o 4 (.mov (.t 7))]) .ret))⟩
theorem ir_s_SetOf : compFn Tryz.prog n_s_SetOf = some F_s_SetOf := by kernel_rfl
abbrev n_i_SetOf : Nat := 80
def F_i_SetOf : Fn1 := ⟨8, [.t 4], (.seq (.reg [o 2 (.box (.t 0)), o 4 (.mov (.k .nilS))]) (.seq (.reg [o 5 (.ld true 4 (.t 2)), o 6 (.mov (.t 1)), o 7 (.call 131 [(.t 5), (.k (.bool false)), (.t 6)]), o 4 (.mov (.t 7))]) .ret))⟩
theorem ir_i_SetOf : compFn Tryz.prog n_i_SetOf = some F_i_SetOf := by kernel_rfl
abbrev n_s_KeysOf : Nat := 66
def F_s_KeysOf : Fn1 := ⟨8, [.t 4], (.seq (.reg [o 2 (.box (.t 0)), o 4 (.mov (.k .nilS))]) (.seq (.reg [o 5 (.ld true 4 (.t 2)), o 6 (.mov (.t 1)), o 7 (.call 124 [(.t 5), (.k (.bool true)), (.t 6)]), o 4 (.mov (.t 7))]) .ret))⟩
theorem ir_s_KeysOf : compFn Tryz.prog n_s_KeysOf = some F_s_KeysOf := by kernel_rfl
abbrev n_i_KeysOf : Nat := 77
def F_i_KeysOf : Fn1 := ⟨8, [.t 4], (.seq (.reg [o 2 (.box (.t 0)), o 4 (.mov (.k .nilS))]) (.seq (.reg [o 5 (.ld true 4 (.t 2)), o 6 (.mov (.t 1)), o 7 (.call 131 [(.t 5), (.k (.bool true)), (.t 6)]), o 4 (.mov (.t 7))]) .ret))⟩
theorem ir_i_KeysOf : compFn Tryz.prog n_i_KeysOf = some F_i_KeysOf := by kernel_rfl
abbrev n_s_MapOf : Nat := 72
def F_s_MapOf : Fn1 := ⟨72, [.t 6], (.seq (.reg [o 3 (.box (.t 0)), o 6 (.mov (.k .nilS))]) (.seq (.reg [o 13 (.lit 1 0 [] []), o 7 (.mov (.t 13))]) (.seq (.reg [o 14 (.ld true 4 (.t 3)), o 15 (.mov (.t 1)), o 16 (.mov (.t 2)), o 17 (.call 127 [(.t 14), (.k (.bool true)), (.t 15), (.t 16)]), o 8 (.mov (.t 17))]) (.seq (.seq (.reg [o 9 (.mov (.k (.int .i64 0)))]) (.blk 0 (.lop (.seq (.seq (.reg [o 18 (.mov (.t 9)), o 19 (.mov (.t 8)), o 20 (.len false (.t 19)), o 21 (.bin .lss (.t 18) (.t 20))]) (.cnd (.t 21) .skip (.ext 0))) (.seq (.blk 1 (.seq (.reg [o 24 (.lit 1 0 [] []), o 10 (.mov (.t 24))]) (.seq (.reg [o 11 (.mov (.k (.bool false)))]) (.seq (.seq (.reg [o 12 (.mov (.k (.int .i64 0)))]) (.blk 2 (.lop (.seq (.seq (.reg [o 25 (.mov (.t 12)), o 26 (.mov (.t 7)), o 27 (.len false (.t 26)), o 28 (.bin .lss (.t 25) (.t 27))]) (.cnd (.t 28) .skip (.ext 2))) (.seq (.blk 3 (.seq (.seq (.drw [o 31 (.mov (.t 11)), o 32 (.un .not (.t 31)), o 33 (.mov (.t 32)), og 34 33 true (.mov (.t 7)), og 35 33 true (.mov (.t 12)), og 36 33 true (.iad 1 (.t 34) (.t 35)), og 37 33 true (.ld false 1 (.t 36)), og 38 33 true (.mov (.t 8)), og 39 33 true (.mov (.t 9)), og 40 33 true (.iad 6 (.t 38) (.t 39)), og 41 33 true (.fad 3 (.t 40)), og 42 33 true (.ld false 1 (.t 41))] [og 43 33 true (.bin .gtr (.t 37) (.t 42)), o 44 (.pick (.t 33) (.t 43) (.k (.bool false)))]) (.cnd (.t 44) (.seq (.reg [o 45 (.mov (.t 10)), o 46 (.mov (.t 8)), o 47 (.mov (.t 9)), o 48 (.iad 6 (.t 46) (.t 47)), o 49 (.fad 3 (.t 48)), o 50 (.ld false 1 (.t 49)), o 51 (.lit 1 1 [(.int .i64 0)] [(0, 1, (.t 50))]), o 52 (.app 1 8 [(.int .i64 0)] (.t 45) (.t 51)), o 10 (.mov (.t 52))]) (.reg [o 11 (.mov (.k (.bool true)))])) .skip)) (.reg [o 53 (.mov (.t 10)), o 54 (.mov (.t 7)), o 55 (.mov (.t 12)), o 56 (.iad 1 (.t 54) (.t 55)), o 57 (.ld false 1 (.t 56)), o 58 (.lit 1 1 [(.int .i64 0)] [(0, 1, (.t 57))]), o 59 (.app 1 8 [(.int .i64 0)] (.t 53) (.t 58)), o 10 (.mov (.t 59))]))) (.reg [o 29 (.mov (.t 12)), o 30 (.bin .add (.t 29) (.k (.int .i64 1))), o 12 (.mov (.t 30))])))))) (.seq (.seq (.reg [o 60 (.mov (.t 11)), o 61 (.un .not (.t 60))]) (.cnd (.t 61) (.reg [o 62 (.mov (.t 10)), o 63 (.mov (.t 8)), o 64 (.mov (.t 9)), o 65 (.iad 6 (.t 63) (.t 64)), o 66 (.fad 3 (.t 65)), o 67 (.ld false 1 (.t 66)), o 68 (.lit 1 1 [(.int .i64 0)] [(0, 1, (.t 67))]), o 69 (.app 1 8 [(.int .i64 0)] (.t 62) (.t 68)), o 10 (.mov (.t 69))]) .skip)) (.reg [o 70 (.mov (.t 10)), o 7 (.mov (.t 70))])))))) (.reg [o 22 (.mov (.t 9)), o 23 (.bin .add (.t 22) (.k (.int .i64 1))), o 9 (.mov (.t 23))])))))) (.seq (.reg [o 71 (.mov (.t 7)), o 6 (.mov (.t 71))]) .ret)))))⟩
theorem ir_s_MapOf : compFn Tryz.prog n_s_MapOf = some F_s_MapOf := by kernel_rfl
abbrev n_i_MapOf : Nat := 82
def F_i_MapOf : Fn1 := ⟨29, [.t 6], (.seq (.reg [o 3 (.box (.t 0)), o 6 (.mov (.k .nilS))]) (.seq (.reg [o 10 (.lit 1 0 [] []), o 7 (.mov (.t 10))]) (.seq (.seq (.reg [o 11 (.ld true 4 (.t 3)), o 12 (.mov (.t 1)), o 13 (.mov (.t 2)), o 14 (.call 132 [(.t 11), (.k (.bool true)), (.t 12), (.t 13)]), o 15 (.len false (.t 14)), o 16 (.mov (.k (.int .i64 0)))]) (.blk 0 (.lop (.seq (.reg [o 17 (.bin .lss (.t 16) (.t 15))]) (.seq (.cnd (.t 17) .skip (.ext 0)) (.seq (.blk 1 (.seq (.reg [o 18 (.iad 6 (.t 14) (.t 16)), o 19 (.ld true 6 (.t 18)), o 9 (.new [(.bool false), (.str ⟨#[]⟩), (.str ⟨#[]⟩), (.int .i64 0), (.int .i64 0), (.int .i64 0)]), on (.st 6 (.t 9) (.t 19))]) (.reg [o 20 (.mov (.t 7)), o 21 (.fad 3 (.t 9)), o 22 (.ld false 1 (.t 21)), o 23 (.lit 1 1 [(.int .i64 0)] [(0, 1, (.t 22))]), o 24 (.app 1 8 [(.int .i64 0)] (.t 20) (.t 23)), o 7 (.mov (.t 24))]))) (.reg [o 25 (.bin .add (.t 16) (.k (.int .i64 1))), o 16 (.mov (.t 25))]))))))) (.seq (.reg [o 26 (.mov (.t 7)), o 27 (.call 133 [(.t 26)])]) (.seq (.reg [o 28 (.mov (.t 7)), o 6 (.mov (.t 28))]) .ret)))))⟩
theorem ir_i_MapOf : compFn Tryz.prog n_i_MapOf = some F_i_MapOf := by kernel_rfl
abbrev n_s_RowOf : Nat := 71
def F_s_RowOf : Fn1 := ⟨37, [.t 4], (.seq (.reg [o 2 (.box (.t 0)), o 4 (.mov (.k .nilS))]) (.seq (.reg [o 8 (.lit 1 0 [] []), o 5 (.mov (.t 8))]) (.seq (.seq (.reg [o 9 (.ld true 4 (.t 2)), o 10 (.call 125 [(.t 9)]), o 11 (.un .not (.t 10))]) (.cnd (.t 11) (.seq (.reg [o 12 (.mov (.t 5)), o 4 (.mov (.t 12))]) .ret) .skip)) (.seq (.reg [o 13 (.ld true 4 (.t 2)), o 14 (.mov (.t 1)), o 15 (.call 126 [(.t 13), (.t 14)]), o 6 (.mov (.t 15))]) (.seq (.seq (.reg [o 7 (.mov (.k (.int .i64 0)))]) (.blk 0 (.lop (.seq (.seq (.reg [o 16 (.mov (.t 7)), o 17 (.mov (.t 6)), o 18 (.len false (.t 17)), o 19 (.bin .lss (.t 16) (.t 18))]) (.cnd (.t 19) .skip (.ext 0))) (.seq (.blk 1 (.seq (.reg [o 22 (.mov (.t 6)), o 23 (.mov (.t 7)), o 24 (.iad 8 (.t 22) (.t 23)), o 25 (.fad 7 (.t 24)), o 26 (.ld false 1 (.t 25)), o 27 (.un .not (.t 26))]) (.cnd (.t 27) (.reg [o 28 (.mov (.t 5)), o 29 (.mov (.t 6)), o 30 (.mov (.t 7)), o 31 (.iad 8 (.t 29) (.t 30)), o 32 (.fad 6 (.t 31)), o 33 (.ld false 1 (.t 32)), o 34 (.lit 1 1 [(.int .i64 0)] [(0, 1, (.t 33))]), o 35 (.app 1 8 [(.int .i64 0)] (.t 28) (.t 34)), o 5 (.mov (.t 35))]) .skip))) (.reg [o 20 (.mov (.t 7)), o 21 (.bin .add (.t 20) (.k (.int .i64 1))), o 7 (.mov (.t 21))])))))) (.seq (.reg [o 36 (.mov (.t 5)), o 4 (.mov (.t 36))]) .ret))))))⟩
theorem ir_s_RowOf : compFn Tryz.prog n_s_RowOf = some F_s_RowOf := by kernel_rfl
abbrev n_i_RowOf : Nat := 83
def F_i_RowOf : Fn1 := ⟨24, [.t 4], (.seq (.reg [o 2 (.box (.t 0)), o 4 (.mov (.k .nilS))]) (.seq (.reg [o 8 (.lit 1 0 [] []), o 5 (.mov (.t 8))]) (.seq (.seq (.reg [o 9 (.ld true 4 (.t 2)), o 10 (.mov (.t 1)), o 11 (.call 134 [(.t 9), (.t 10)]), o 12 (.len false (.t 11)), o 13 (.mov (.k (.int .i64 0)))]) (.blk 0 (.lop (.seq (.reg [o 14 (.bin .lss (.t 13) (.t 12))]) (.seq (.cnd (.t 14) .skip (.ext 0)) (.seq (.blk 1 (.seq (.reg [o 15 (.iad 8 (.t 11) (.t 13)), o 16 (.ld true 8 (.t 15)), o 7 (.new [(.str ⟨#[]⟩), (.int .i64 0), (.int .i64 0), (.int .i64 0), (.int .i64 0), (.int .i64 0), (.int .i64 0), (.bool false)]), on (.st 8 (.t 7) (.t 16))]) (.reg [o 17 (.mov (.t 5)), o 18 (.fad 6 (.t 7)), o 19 (.ld false 1 (.t 18)), o 20 (.lit 1 1 [(.int .i64 0)] [(0, 1, (.t 19))]), o 21 (.app 1 8 [(.int .i64 0)] (.t 17) (.t 20)), o 5 (.mov (.t 21))]))) (.reg [o 22 (.bin .add (.t 13) (.k (.int .i64 1))), o 13 (.mov (.t 22))]))))))) (.seq (.reg [o 23 (.mov (.t 5)), o 4 (.mov (.t 23))]) .ret))))⟩
theorem ir_i_RowOf : compFn Tryz.prog n_i_RowOf = some F_i_RowOf := by kernel_rfl
def eqS : Eqs elS := ⟨fun x y => by
  show binG .eql (.str x) (.str y) = _
  simp only [bin_seql], fun x y => by
  show binG .neq (.str x) (.str y) = _
  simp only [bin_sneq], [.str ⟨#[]⟩], rfl⟩
theorem slices_Compact_string_ir : compFn Tryz.prog n_slices_Compact_string_string = some (G_Compact elS.p.z elS.g eqS.ze) := by kernel_rfl
theorem slices_Compact_string_ret {σ0 σ : St} {rs : List Thg} {v : GV} {l : List ByteArray} (H : Hp σ0 σ rs) (k : Nat) (hk : rs[k]? = some (ow pS.kd v l)) (hl : l.length ≤ 1099511627776) : ∃ v' τ, Ret Tryz.prog n_slices_Compact_string_string [v] σ v' τ ∧ Hp σ0 τ (rs.set k (ow pS.kd v' (compact l))) :=
  compact_ret eqS slices_Compact_string_ir H k hk hl
theorem keys_snoc {l : List Live} {m : Bool} {o : ByteArray} {i : Nat} (hi : i < l.length) : ((l.take (i + 1)).filter (isLiveO m o)).map (·.key) = if isLiveO m o l[i] then ((l.take i).filter (isLiveO m o)).map (·.key) ++ [l[i].key] else ((l.take i).filter (isLiveO m o)).map (·.key) := by
  rw [filter_snoc' hi]
  split <;> simp
theorem s_l08Keys_ret (σ : St) (cs : List GV) (s : State) (hR : kState.R σ s cs) (m : Bool) (o : ByteArray) (hl : msState s ≤ 1099511627776) : ∃ r τ, Ret Tryz.prog n_s_l08Keys [.agg cs, .bool m, .str o] σ r τ ∧ Hp σ τ [ow pS.kd r (keysOf s m o)] := by
  obtain ⟨a, b, c, v, rfl, _, _, hv, _⟩ := hR
  obtain ⟨l1, l2, l3, l4, _⟩ := msState_all hl
  refine ret_dr ir_s_l08Keys (Nat.le_of_ble_eq_true rfl) ?_
  have H := ((Hp.refl σ).new 1 [a, b, c, v]).nil_str
  simp +contextual (maxSteps := 600000) (disch := omega) only [go_sem, Nat.reduceEqDiff, ↓reduceIte, Int.reduceEq, Int.reduceNeg, wrap_add, F_s_l08Keys]
  generalize hb : σ.length = n1 at *
  refine vc_forX s.lives.length 8 0 (fun i env τ => env 1 = .bool m ∧ env 2 = .str o ∧ env 3 = .ptr n1 0 ∧ ∃ w, env 7 = w ∧ Hp σ τ [ow pS.kd w (putAll txLt (((s.lives.take i).filter (isLiveO m o)).map (·.key))), pt 1 n1 [a, b, c, v]]) (fun env τ => ∃ w, env 7 = w ∧ Hp σ τ [ow pS.kd w (keysOf s m o)]) rfl ⟨rfl, rfl, rfl, _, rfl, H⟩ ?_ ?_ ?_
  · clear H
    rintro J Y hJ hY i env τ hi e8 c0 ⟨e1, e2, e3, w, e7, H⟩
    have hfl := filter_take_len s.lives (isLiveO m o) i
    have hpl := putAll_length txLt (((s.lives.take i).filter (isLiveO m o)).map (·.key))
    rw [List.length_map] at hpl
    have C1 := Live_at (hv.pre H.sub) hi
    have hln := (hv.pre H.sub).len
    have hks := keys_snoc (m := m) (o := o) hi
    cases hm : (s.lives[i].map == m) with
    | false =>
      have hk0 : isLiveO m o s.lives[i] = false := by simp [isLiveO, hm]
      rw [hk0, if_neg (by simp)] at hks
      simp +contextual (maxSteps := 600000) (disch := omega) only [go_sem, Nat.reduceEqDiff, ↓reduceIte, Int.reduceEq, Int.reduceNeg, wrap_add, c0, e1, e2, e3, e7, e8, C1, ld_ptr (H.pt 1 rfl), hln, hm, Bool.false_bne]
      refine hJ _ _ _ ⟨?_, ?_, ?_, w, ?_, by rw [hks]; exact H⟩
      all_goals simp +contextual (maxSteps := 600000) (disch := omega) only [go_sem, Nat.reduceEqDiff, ↓reduceIte, Int.reduceEq, Int.reduceNeg, wrap_add, e1, e2, e3, e7]
    | true =>
      cases ho : decide (s.lives[i].obj = o) with
      | false =>
        have hk0 : isLiveO m o s.lives[i] = false := by simp [isLiveO, hm, ho]
        rw [hk0, if_neg (by simp)] at hks
        simp +contextual (maxSteps := 600000) (disch := omega) only [go_sem, Nat.reduceEqDiff, ↓reduceIte, Int.reduceEq, Int.reduceNeg, wrap_add, c0, e1, e2, e3, e7, e8, C1, ld_ptr (H.pt 1 rfl), hln, hm, ho, Bool.false_bne]
        refine hJ _ _ _ ⟨?_, ?_, ?_, w, ?_, by rw [hks]; exact H⟩
        all_goals simp +contextual (maxSteps := 600000) (disch := omega) only [go_sem, Nat.reduceEqDiff, ↓reduceIte, Int.reduceEq, Int.reduceNeg, wrap_add, e1, e2, e3, e7]
      | true =>
        have hk0 : isLiveO m o s.lives[i] = true := by simp [isLiveO, hm, ho]
        rw [hk0, if_pos rfl] at hks
        obtain ⟨w', τ3, R3, H3⟩ := s_l08Put_ret s.lives[i].key H 0 rfl (by omega)
        simp +contextual (maxSteps := 600000) (disch := omega) only [go_sem, Nat.reduceEqDiff, ↓reduceIte, Int.reduceEq, Int.reduceNeg, wrap_add, c0, e1, e2, e3, e7, e8, C1, ld_ptr (H.pt 1 rfl), hln, hm, ho, Bool.false_bne]
        refine by_mut R3 ?_
        simp +contextual (maxSteps := 600000) (disch := omega) only [go_sem, Nat.reduceEqDiff, ↓reduceIte, Int.reduceEq, Int.reduceNeg, wrap_add, e1, e2, e3, e7, e8]
        refine hJ _ _ _ ⟨?_, ?_, ?_, w', ?_, ?_⟩
        all_goals first | (simp +contextual (maxSteps := 600000) (disch := omega) only [go_sem, Nat.reduceEqDiff, ↓reduceIte, Int.reduceEq, Int.reduceNeg, wrap_add, e1, e2, e3, e7]; done) | skip
        rw [hks, putAll_snoc]
        exact H3
  · clear H
    rintro Y hY env τ e8 c0 ⟨e1, e2, e3, w, e7, H⟩
    rw [List.take_length] at H
    have hln := (hv.pre H.sub).len
    simp +contextual (maxSteps := 600000) (disch := omega) only [go_sem, Nat.reduceEqDiff, ↓reduceIte, Int.reduceEq, Int.reduceNeg, wrap_add, c0, e1, e2, e3, e7, e8, ld_ptr (H.pt 1 rfl), hln]
    refine hY _ _ ⟨w, ?_, H.one⟩
    simp +contextual (maxSteps := 600000) (disch := omega) only [go_sem, Nat.reduceEqDiff, ↓reduceIte, Int.reduceEq, Int.reduceNeg, wrap_add, e7]
  · clear H
    rintro env τ ⟨w, e7, H⟩
    simp +contextual (maxSteps := 600000) (disch := omega) only [go_sem, Nat.reduceEqDiff, ↓reduceIte, Int.reduceEq, Int.reduceNeg, wrap_add, e7]
    exact ⟨_, rfl, H⟩
theorem i_keysIn_ret (σ : St) (cs : List GV) (s : State) (hR : kState.R σ s cs) (m : Bool) (o : ByteArray) (hl : msState s ≤ 1099511627776) : ∃ r τ, Ret Tryz.prog n_i_keysIn [.agg cs, .bool m, .str o] σ r τ ∧ Hp σ τ [ow pS.kd r (keysOf s m o)] := by
  obtain ⟨a, b, c, v, rfl, _, _, hv, _⟩ := hR
  obtain ⟨l1, l2, l3, l4, _⟩ := msState_all hl
  refine ret_dr ir_i_keysIn (Nat.le_of_ble_eq_true rfl) ?_
  have H := ((Hp.refl σ).new 1 [a, b, c, v]).nil_str
  simp +contextual (maxSteps := 600000) (disch := omega) only [go_sem, Nat.reduceEqDiff, ↓reduceIte, Int.reduceEq, Int.reduceNeg, wrap_add, F_i_keysIn, hv.len]
  generalize hb : σ.length = n1 at *
  refine vc_forX s.lives.length 14 0 (fun i env τ => env 1 = .bool m ∧ env 2 = .str o ∧ env 12 = c ∧ env 13 = gi s.lives.length ∧ ∃ w, env 7 = w ∧ Hp σ τ [ow pS.kd w (((s.lives.take i).filter (isLiveO m o)).map (·.key)), pt 1 n1 [a, b, c, v]]) (fun env τ => ∃ w, env 7 = w ∧ Hp σ τ [ow pS.kd w ((s.lives.filter (isLiveO m o)).map (·.key)), pt 1 n1 [a, b, c, v]]) rfl ⟨rfl, rfl, rfl, rfl, _, rfl, H⟩ ?_ ?_ ?_
  · clear H
    rintro J Y hJ hY i env τ hi e14 c0 ⟨e1, e2, e12, e13, w, e7, H⟩
    have hfl := filter_take_len s.lives (isLiveO m o) i
    have C1 := Live_at (hv.pre H.sub) hi
    have G := H.grow (pre1 τ (some (Blk.row 1 [.bool s.lives[i].map, .str s.lives[i].obj, .str s.lives[i].key, gi s.lives[i].val, gi s.lives[i].dot.rep, gi s.lives[i].dot.seq])))
    have hks := keys_snoc (m := m) (o := o) hi
    cases hm : (s.lives[i].map == m) with
    | false =>
      have hk0 : isLiveO m o s.lives[i] = false := by simp [isLiveO, hm]
      rw [hk0, if_neg (by simp)] at hks
      simp +contextual (maxSteps := 600000) (disch := omega) only [go_sem, Nat.reduceEqDiff, ↓reduceIte, Int.reduceEq, Int.reduceNeg, wrap_add, c0, e1, e2, e12, e13, e7, e14, C1, hm, Bool.false_bne]
      refine hJ _ _ _ ⟨?_, ?_, ?_, ?_, w, ?_, by rw [hks]; exact G⟩
      all_goals simp +contextual (maxSteps := 600000) (disch := omega) only [go_sem, Nat.reduceEqDiff, ↓reduceIte, Int.reduceEq, Int.reduceNeg, wrap_add, e1, e2, e12, e13, e7]
    | true =>
      cases ho : decide (s.lives[i].obj = o) with
      | false =>
        have hk0 : isLiveO m o s.lives[i] = false := by simp [isLiveO, hm, ho]
        rw [hk0, if_neg (by simp)] at hks
        simp +contextual (maxSteps := 600000) (disch := omega) only [go_sem, Nat.reduceEqDiff, ↓reduceIte, Int.reduceEq, Int.reduceNeg, wrap_add, c0, e1, e2, e12, e13, e7, e14, C1, hm, ho, Bool.false_bne]
        refine hJ _ _ _ ⟨?_, ?_, ?_, ?_, w, ?_, by rw [hks]; exact G⟩
        all_goals simp +contextual (maxSteps := 600000) (disch := omega) only [go_sem, Nat.reduceEqDiff, ↓reduceIte, Int.reduceEq, Int.reduceNeg, wrap_add, e1, e2, e12, e13, e7]
      | true =>
        have hk0 : isLiveO m o s.lives[i] = true := by simp [isLiveO, hm, ho]
        rw [hk0, if_pos rfl] at hks
        obtain ⟨w', τ3, e8, H3⟩ := G.app_str 0 rfl s.lives[i].key (by rw [List.length_map]; omega)
        simp +contextual (maxSteps := 600000) (disch := omega) only [go_sem, Nat.reduceEqDiff, ↓reduceIte, Int.reduceEq, Int.reduceNeg, wrap_add, c0, e1, e2, e12, e13, e7, e14, C1, hm, ho, Bool.false_bne, e8]
        refine hJ _ _ _ ⟨?_, ?_, ?_, ?_, w', ?_, ?_⟩
        all_goals first | (simp +contextual (maxSteps := 600000) (disch := omega) only [go_sem, Nat.reduceEqDiff, ↓reduceIte, Int.reduceEq, Int.reduceNeg, wrap_add, e1, e2, e12, e13, e7]; done) | skip
        rw [hks]
        exact H3
  · clear H
    rintro Y hY env τ e14 c0 ⟨e1, e2, e12, e13, w, e7, H⟩
    rw [List.take_length] at H
    simp +contextual (maxSteps := 600000) (disch := omega) only [go_sem, Nat.reduceEqDiff, ↓reduceIte, Int.reduceEq, Int.reduceNeg, wrap_add, c0, e1, e2, e12, e13, e7, e14]
    refine hY _ _ ⟨w, ?_, H⟩
    simp +contextual (maxSteps := 600000) (disch := omega) only [go_sem, Nat.reduceEqDiff, ↓reduceIte, Int.reduceEq, Int.reduceNeg, wrap_add, e7]
  · clear H
    rintro env τ ⟨w, e7, H⟩
    have hfl := List.length_filter_le (isLiveO m o) s.lives
    generalize hK : (s.lives.filter (isLiveO m o)).map (·.key) = K at *
    have hKl : K.length ≤ 1099511627776 := by rw [← hK, List.length_map]; omega
    obtain ⟨τ2, R2, H2⟩ := slices_Sort_string_ret H 0 rfl hKl
    simp +contextual (maxSteps := 600000) (disch := omega) only [go_sem, Nat.reduceEqDiff, ↓reduceIte, Int.reduceEq, Int.reduceNeg, wrap_add, e7]
    refine by_mut R2 ?_
    simp +contextual (maxSteps := 600000) (disch := omega) only [go_sem, Nat.reduceEqDiff, ↓reduceIte, Int.reduceEq, Int.reduceNeg, wrap_add, e7]
    obtain ⟨w3, τ3, R3, H3⟩ := slices_Compact_string_ret H2 0 rfl (by rw [insAll_length]; exact hKl)
    refine by_mut R3 ?_
    simp +contextual (maxSteps := 600000) (disch := omega) only [go_sem, Nat.reduceEqDiff, ↓reduceIte, Int.reduceEq, Int.reduceNeg, wrap_add, List.append_nil]
    refine ⟨_, rfl, ?_⟩
    have hE : compact (insAll txLt K) = keysOf s m o := by
      rw [keysOf, hK]
      exact compact_sorted swo_txLt tri_txLt (insAll_perm _ _) (insAll_up swo_txLt _)
    rw [← hE]
    exact H3.one
theorem s_SetOf_ret (σ : St) (cs : List GV) (s : State) (hR : kState.R σ s cs) (o : ByteArray) (hl : msState s ≤ 1099511627776) : ∃ r τ, Ret Tryz.prog n_s_SetOf [.agg cs, .str o] σ r τ ∧ Hp σ τ [ow pS.kd r (keysOf s false o)] := by
  have hlen : cs.length = 4 := kState.len hR
  refine ret_dr ir_s_SetOf (Nat.le_of_ble_eq_true rfl) ?_
  have H := (Hp.refl σ).new 1 cs
  simp +contextual (maxSteps := 600000) (disch := omega) only [go_sem, Nat.reduceEqDiff, ↓reduceIte, Int.reduceEq, Int.reduceNeg, wrap_add, F_s_SetOf, ld_new, seg_full hlen]
  obtain ⟨r, τ, R, K⟩ := s_l08Keys_ret _ cs s (kState.pre hR H.sub) false o hl
  refine by_hp R K ?_
  have H := H.add K
  simp +contextual (maxSteps := 600000) (disch := omega) only [go_sem, Nat.reduceEqDiff, ↓reduceIte, Int.reduceEq, Int.reduceNeg, wrap_add, List.append_nil]
  exact ⟨_, rfl, H.one⟩
theorem s_KeysOf_ret (σ : St) (cs : List GV) (s : State) (hR : kState.R σ s cs) (o : ByteArray) (hl : msState s ≤ 1099511627776) : ∃ r τ, Ret Tryz.prog n_s_KeysOf [.agg cs, .str o] σ r τ ∧ Hp σ τ [ow pS.kd r (keysOf s true o)] := by
  have hlen : cs.length = 4 := kState.len hR
  refine ret_dr ir_s_KeysOf (Nat.le_of_ble_eq_true rfl) ?_
  have H := (Hp.refl σ).new 1 cs
  simp +contextual (maxSteps := 600000) (disch := omega) only [go_sem, Nat.reduceEqDiff, ↓reduceIte, Int.reduceEq, Int.reduceNeg, wrap_add, F_s_KeysOf, ld_new, seg_full hlen]
  obtain ⟨r, τ, R, K⟩ := s_l08Keys_ret _ cs s (kState.pre hR H.sub) true o hl
  refine by_hp R K ?_
  have H := H.add K
  simp +contextual (maxSteps := 600000) (disch := omega) only [go_sem, Nat.reduceEqDiff, ↓reduceIte, Int.reduceEq, Int.reduceNeg, wrap_add, List.append_nil]
  exact ⟨_, rfl, H.one⟩
theorem i_SetOf_ret (σ : St) (cs : List GV) (s : State) (hR : kState.R σ s cs) (o : ByteArray) (hl : msState s ≤ 1099511627776) : ∃ r τ, Ret Tryz.prog n_i_SetOf [.agg cs, .str o] σ r τ ∧ Hp σ τ [ow pS.kd r (keysOf s false o)] := by
  have hlen : cs.length = 4 := kState.len hR
  refine ret_dr ir_i_SetOf (Nat.le_of_ble_eq_true rfl) ?_
  have H := (Hp.refl σ).new 1 cs
  simp +contextual (maxSteps := 600000) (disch := omega) only [go_sem, Nat.reduceEqDiff, ↓reduceIte, Int.reduceEq, Int.reduceNeg, wrap_add, F_i_SetOf, ld_new, seg_full hlen]
  obtain ⟨r, τ, R, K⟩ := i_keysIn_ret _ cs s (kState.pre hR H.sub) false o hl
  refine by_hp R K ?_
  have H := H.add K
  simp +contextual (maxSteps := 600000) (disch := omega) only [go_sem, Nat.reduceEqDiff, ↓reduceIte, Int.reduceEq, Int.reduceNeg, wrap_add, List.append_nil]
  exact ⟨_, rfl, H.one⟩
theorem i_KeysOf_ret (σ : St) (cs : List GV) (s : State) (hR : kState.R σ s cs) (o : ByteArray) (hl : msState s ≤ 1099511627776) : ∃ r τ, Ret Tryz.prog n_i_KeysOf [.agg cs, .str o] σ r τ ∧ Hp σ τ [ow pS.kd r (keysOf s true o)] := by
  have hlen : cs.length = 4 := kState.len hR
  refine ret_dr ir_i_KeysOf (Nat.le_of_ble_eq_true rfl) ?_
  have H := (Hp.refl σ).new 1 cs
  simp +contextual (maxSteps := 600000) (disch := omega) only [go_sem, Nat.reduceEqDiff, ↓reduceIte, Int.reduceEq, Int.reduceNeg, wrap_add, F_i_KeysOf, ld_new, seg_full hlen]
  obtain ⟨r, τ, R, K⟩ := i_keysIn_ret _ cs s (kState.pre hR H.sub) true o hl
  refine by_hp R K ?_
  have H := H.add K
  simp +contextual (maxSteps := 600000) (disch := omega) only [go_sem, Nat.reduceEqDiff, ↓reduceIte, Int.reduceEq, Int.reduceNeg, wrap_add, List.append_nil]
  exact ⟨_, rfl, H.one⟩
theorem vals_snoc {l : List Live} {i : Nat} (hi : i < l.length) : insAll ltI ((l.take (i + 1)).map (·.val)) = insB ltI l[i].val (insAll ltI ((l.take i).map (·.val))) := by
  rw [List.take_succ_eq_append_getElem hi, List.map_append, List.map_cons, List.map_nil, insAll_snoc]
set_option maxHeartbeats 2000000 in
theorem s_MapOf_ret (σ : St) (cs : List GV) (s : State) (hR : kState.R σ s cs) (o k : ByteArray) (hl : msState s ≤ 1099511627776) : ∃ r τ, Ret Tryz.prog n_s_MapOf [.agg cs, .str o, .str k] σ r τ ∧ Hp σ τ [ow pI.kd r (mapOf s o k)] := by
  have hR0 := hR
  obtain ⟨a, b, c, v, rfl, _, _, hv, _⟩ := hR
  obtain ⟨l1, l2, l3, l4, _⟩ := msState_all hl
  refine ret_dr ir_s_MapOf (Nat.le_of_ble_eq_true rfl) ?_
  have H := ((Hp.refl σ).new 1 [a, b, c, v]).nil_int
  simp +contextual (maxSteps := 600000) (disch := omega) only [go_sem, Nat.reduceEqDiff, ↓reduceIte, Int.reduceEq, Int.reduceNeg, wrap_add, F_s_MapOf, ld_new2, seg_full (cs := [a, b, c, v]) rfl]
  obtain ⟨r1, τ1, R1, K1⟩ := s_LivesOf_ret _ _ s (kState.pre hR0 H.sub) true o k hl
  refine by_hp R1 K1 ?_
  have H := H.add K1
  simp only [List.cons_append, List.nil_append] at H
  generalize hL : livesOf s true o k = L at *
  have hLl : L.length ≤ 1099511627776 := by
    have := List.length_filter_le (isLive true o k) s.lives
    rw [← hL]; unfold livesOf; omega
  simp +contextual (maxSteps := 600000) (disch := omega) only [go_sem, Nat.reduceEqDiff, ↓reduceIte, Int.reduceEq, Int.reduceNeg, wrap_add, List.append_nil]
  refine vc_forX L.length 9 0 (fun i env τ => env 8 = r1 ∧ ∃ w n1, env 7 = w ∧ Hp σ τ [ow pI.kd w (insAll ltI ((L.take i).map (·.val))), ow pLive.kd r1 L, pt 1 n1 [a, b, c, v]]) (fun env τ => ∃ w, env 7 = w ∧ Hp σ τ [ow pI.kd w (insAll ltI (L.map (·.val)))]) rfl ⟨rfl, _, _, rfl, (H.pick 1 rfl)⟩ ?_ ?_ ?_
  · clear H
    rintro J Y hJ hY i env τ hi e9 c0 ⟨e8, w, n1, e7, H⟩
    have hlen := (H.sl 1 rfl).len
    have hal := insAll_length ltI ((L.take i).map (·.val))
    rw [List.length_map, List.length_take] at hal
    have hsn := vals_snoc hi
    generalize hacc : insAll ltI ((L.take i).map (·.val)) = acc at *
    have H1 := H.nil_int
    simp +contextual (maxSteps := 600000) (disch := omega) only [go_sem, Nat.reduceEqDiff, ↓reduceIte, Int.reduceEq, Int.reduceNeg, wrap_add, c0, e7, e8, e9, hlen]
    refine vc_forX acc.length 12 2 (fun j env τ => env 8 = r1 ∧ env 9 = gi i ∧ env 7 = w ∧ ∃ (u : GV) (put : Bool) (nxt : List Int), env 10 = u ∧ env 11 = .bool put ∧ insG ltI L[i].val acc nxt j put ∧ Hp σ τ [ow pI.kd u nxt, ow pI.kd w acc, ow pLive.kd r1 L, pt 1 n1 [a, b, c, v]]) (fun env τ => env 8 = r1 ∧ env 9 = gi i ∧ env 7 = w ∧ ∃ (u : GV) (put : Bool) (nxt : List Int), env 10 = u ∧ env 11 = .bool put ∧ insG ltI L[i].val acc nxt acc.length put ∧ Hp σ τ [ow pI.kd u nxt, ow pI.kd w acc, ow pLive.kd r1 L, pt 1 n1 [a, b, c, v]]) rfl ⟨by simp +contextual (maxSteps := 600000) (disch := omega) only [go_sem, Nat.reduceEqDiff, ↓reduceIte, Int.reduceEq, Int.reduceNeg, wrap_add, e8], by simp +contextual (maxSteps := 600000) (disch := omega) only [go_sem, Nat.reduceEqDiff, ↓reduceIte, Int.reduceEq, Int.reduceNeg, wrap_add, e9], by simp +contextual (maxSteps := 600000) (disch := omega) only [go_sem, Nat.reduceEqDiff, ↓reduceIte, Int.reduceEq, Int.reduceNeg, wrap_add, e7], _, false, [], by simp +contextual (maxSteps := 600000) (disch := omega) only [go_sem, Nat.reduceEqDiff, ↓reduceIte, Int.reduceEq, Int.reduceNeg, wrap_add, List.append_nil], by simp +contextual (maxSteps := 600000) (disch := omega) only [go_sem, Nat.reduceEqDiff, ↓reduceIte, Int.reduceEq, Int.reduceNeg, wrap_add, List.append_nil], insG_nil, H1⟩ ?_ ?_ ?_
    · clear e7 e8 e9 H H1
      rintro J2 Y2 hJ2 hY2 j env τ hj e12 c1 ⟨e8, e9, e7, u, put, nxt, e10, e11, hok, H⟩
      have hnl := insG_len hok
      have i1 := int_at (H.sl 1 rfl) hj
      have hlen := (H.sl 1 rfl).len
      have C1 := Live_at (H.sl 2 rfl) hi
      cases put with
      | true =>
        obtain ⟨w', τ3, e5, H3⟩ := H.app_int 0 rfl acc[j] (by omega)
        simp +contextual (maxSteps := 600000) (disch := omega) only [go_sem, Nat.reduceEqDiff, ↓reduceIte, Int.reduceEq, Int.reduceNeg, wrap_add, c1, e7, e8, e9, e10, e11, e12, i1, hlen, e5]
        refine hJ2 _ _ _ ⟨?_, ?_, ?_, w', true, _, ?_, ?_, insG_step hok hj (.inl rfl), H3⟩
        all_goals simp +contextual (maxSteps := 600000) (disch := omega) only [go_sem, Nat.reduceEqDiff, ↓reduceIte, Int.reduceEq, Int.reduceNeg, wrap_add, e7, e8, e9, e11]
      | false =>
        cases hlt : decide (L[i].val < acc[j]) with
        | false =>
          obtain ⟨w', τ3, e5, H3⟩ := H.app_int 0 rfl acc[j] (by omega)
          simp +contextual (maxSteps := 600000) (disch := omega) only [go_sem, Nat.reduceEqDiff, ↓reduceIte, Int.reduceEq, Int.reduceNeg, wrap_add, c1, e7, e8, e9, e10, e11, e12, i1, hlen, C1, hlt, e5]
          refine hJ2 _ _ _ ⟨?_, ?_, ?_, w', false, _, ?_, ?_, insG_step hok hj (.inr hlt), H3⟩
          all_goals simp +contextual (maxSteps := 600000) (disch := omega) only [go_sem, Nat.reduceEqDiff, ↓reduceIte, Int.reduceEq, Int.reduceNeg, wrap_add, e7, e8, e9, e11]
        | true =>
          obtain ⟨w', τ3, e5, H3⟩ := H.app_int 0 rfl L[i].val (by omega)
          have H3 : Hp σ τ3 [ow pI.kd w' (nxt ++ [L[i].val]), ow pI.kd w acc, ow pLive.kd r1 L, pt 1 n1 [a, b, c, v]] := H3
          have hp := insG_put hok hj hlt
          have hnl2 := insG_len hp
          simp only [List.length_append, List.length_cons, List.length_nil] at hnl2
          have i2 := int_at (H3.sl 1 rfl) hj
          obtain ⟨w2, τ4, e6, H4⟩ := H3.app_int 0 rfl acc[j] (by simp; omega)
          simp +contextual (maxSteps := 600000) (disch := omega) only [go_sem, Nat.reduceEqDiff, ↓reduceIte, Int.reduceEq, Int.reduceNeg, wrap_add, c1, e7, e8, e9, e10, e11, e12, i1, hlen, C1, hlt, e5, i2, e6]
          refine hJ2 _ _ _ ⟨?_, ?_, ?_, w2, true, _, ?_, ?_, hp, H4⟩
          all_goals simp +contextual (maxSteps := 600000) (disch := omega) only [go_sem, Nat.reduceEqDiff, ↓reduceIte, Int.reduceEq, Int.reduceNeg, wrap_add, e7, e8, e9, e11]
    · clear e7 e8 e9 H H1
      rintro Y2 hY2 env τ e12 c1 ⟨e8, e9, e7, u, put, nxt, e10, e11, hok, H⟩
      have hlen := (H.sl 1 rfl).len
      simp +contextual (maxSteps := 600000) (disch := omega) only [go_sem, Nat.reduceEqDiff, ↓reduceIte, Int.reduceEq, Int.reduceNeg, wrap_add, c1, e7, e8, e9, e10, e11, e12, hlen]
      refine hY2 _ _ ⟨?_, ?_, ?_, u, put, nxt, ?_, ?_, hok, H⟩
      all_goals simp +contextual (maxSteps := 600000) (disch := omega) only [go_sem, Nat.reduceEqDiff, ↓reduceIte, Int.reduceEq, Int.reduceNeg, wrap_add, e7, e8, e9, e10, e11]
    · clear e7 e8 e9 H H1
      rintro env τ ⟨e8, e9, e7, u, put, nxt, e10, e11, hok, H⟩
      have hnl := insG_len hok
      have hend := insG_end hok
      have C1 := Live_at (H.sl 2 rfl) hi
      cases put with
      | true =>
        simp +contextual (maxSteps := 600000) (disch := omega) only [go_sem, Nat.reduceEqDiff, ↓reduceIte, Int.reduceEq, Int.reduceNeg, wrap_add, e7, e8, e9, e10, e11]
        refine hJ _ _ _ ⟨?_, u, n1, ?_, ?_⟩
        all_goals first | (simp +contextual (maxSteps := 600000) (disch := omega) only [go_sem, Nat.reduceEqDiff, ↓reduceIte, Int.reduceEq, Int.reduceNeg, wrap_add, e7, e8, e9, e10, e11]; done) | skip
        rw [hsn, ← hend]
        exact (H.pick 1 rfl).drop1
      | false =>
        obtain ⟨w', τ3, e5, H3⟩ := H.app_int 0 rfl L[i].val (by omega)
        simp +contextual (maxSteps := 600000) (disch := omega) only [go_sem, Nat.reduceEqDiff, ↓reduceIte, Int.reduceEq, Int.reduceNeg, wrap_add, e7, e8, e9, e10, e11, C1, e5]
        refine hJ _ _ _ ⟨?_, w', n1, ?_, ?_⟩
        all_goals first | (simp +contextual (maxSteps := 600000) (disch := omega) only [go_sem, Nat.reduceEqDiff, ↓reduceIte, Int.reduceEq, Int.reduceNeg, wrap_add, e7, e8, e9, e10, e11]; done) | skip
        rw [hsn, ← hend]
        exact (H3.pick 1 rfl).drop1
  · clear H
    rintro Y hY env τ e9 c0 ⟨e8, w, n1, e7, H⟩
    rw [List.take_length] at H
    have hlen := (H.sl 1 rfl).len
    simp +contextual (maxSteps := 600000) (disch := omega) only [go_sem, Nat.reduceEqDiff, ↓reduceIte, Int.reduceEq, Int.reduceNeg, wrap_add, c0, e7, e8, e9, hlen]
    refine hY _ _ ⟨w, ?_, H.one⟩
    simp +contextual (maxSteps := 600000) (disch := omega) only [go_sem, Nat.reduceEqDiff, ↓reduceIte, Int.reduceEq, Int.reduceNeg, wrap_add, e7]
  · clear H
    rintro env τ ⟨w, e7, H⟩
    simp +contextual (maxSteps := 600000) (disch := omega) only [go_sem, Nat.reduceEqDiff, ↓reduceIte, Int.reduceEq, Int.reduceNeg, wrap_add, e7]
    exact ⟨_, rfl, by rw [mapOf, hL]; exact H⟩
theorem i_MapOf_ret (σ : St) (cs : List GV) (s : State) (hR : kState.R σ s cs) (o k : ByteArray) (hl : msState s ≤ 1099511627776) : ∃ r τ, Ret Tryz.prog n_i_MapOf [.agg cs, .str o, .str k] σ r τ ∧ Hp σ τ [ow pI.kd r (mapOf s o k)] := by
  have hR0 := hR
  obtain ⟨a, b, c, v, rfl, _, _, hv, _⟩ := hR
  obtain ⟨l1, l2, l3, l4, _⟩ := msState_all hl
  refine ret_dr ir_i_MapOf (Nat.le_of_ble_eq_true rfl) ?_
  have H := ((Hp.refl σ).new 1 [a, b, c, v]).nil_int
  simp +contextual (maxSteps := 600000) (disch := omega) only [go_sem, Nat.reduceEqDiff, ↓reduceIte, Int.reduceEq, Int.reduceNeg, wrap_add, F_i_MapOf, ld_new2, seg_full (cs := [a, b, c, v]) rfl]
  obtain ⟨r1, τ1, R1, K1⟩ := i_LivesOf_ret _ _ s (kState.pre hR0 H.sub) true o k hl
  refine by_hp R1 K1 ?_
  have H := H.add K1
  simp only [List.cons_append, List.nil_append] at H
  generalize hL : livesOf s true o k = L at *
  have hLl : L.length ≤ 1099511627776 := by
    have := List.length_filter_le (isLive true o k) s.lives
    rw [← hL]; unfold livesOf; omega
  have hlen0 := (H.sl 0 rfl).len
  simp +contextual (maxSteps := 600000) (disch := omega) only [go_sem, Nat.reduceEqDiff, ↓reduceIte, Int.reduceEq, Int.reduceNeg, wrap_add, hlen0]
  refine vc_forX L.length 16 0 (fun i env τ => env 14 = r1 ∧ env 15 = gi L.length ∧ ∃ w n1, env 7 = w ∧ Hp σ τ [ow pI.kd w ((L.take i).map (·.val)), ow pLive.kd r1 L, pt 1 n1 [a, b, c, v]]) (fun env τ => ∃ w, env 7 = w ∧ Hp σ τ [ow pI.kd w (L.map (·.val))]) rfl ⟨rfl, rfl, _, _, rfl, (H.pick 1 rfl)⟩ ?_ ?_ ?_
  · clear H
    rintro J Y hJ hY i env τ hi e16 c0 ⟨e14, e15, w, n1, e7, H⟩
    have C1 := Live_at (H.sl 1 rfl) hi
    have G := H.grow (pre1 τ (some (Blk.row 1 [.bool L[i].map, .str L[i].obj, .str L[i].key, gi L[i].val, gi L[i].dot.rep, gi L[i].dot.seq])))
    obtain ⟨w', τ3, e5, H3⟩ := G.app_int 0 rfl L[i].val (by simp; omega)
    simp +contextual (maxSteps := 600000) (disch := omega) only [go_sem, Nat.reduceEqDiff, ↓reduceIte, Int.reduceEq, Int.reduceNeg, wrap_add, c0, e7, e14, e15, e16, C1, e5]
    refine hJ _ _ _ ⟨?_, ?_, w', n1, ?_, ?_⟩
    all_goals first | (simp +contextual (maxSteps := 600000) (disch := omega) only [go_sem, Nat.reduceEqDiff, ↓reduceIte, Int.reduceEq, Int.reduceNeg, wrap_add, e7, e14, e15, e16]; done) | skip
    rw [List.take_succ_eq_append_getElem hi, List.map_append, List.map_cons, List.map_nil]
    exact H3
  · clear H
    rintro Y hY env τ e16 c0 ⟨e14, e15, w, n1, e7, H⟩
    rw [List.take_length] at H
    simp +contextual (maxSteps := 600000) (disch := omega) only [go_sem, Nat.reduceEqDiff, ↓reduceIte, Int.reduceEq, Int.reduceNeg, wrap_add, c0, e7, e14, e15, e16]
    refine hY _ _ ⟨w, ?_, H.one⟩
    simp +contextual (maxSteps := 600000) (disch := omega) only [go_sem, Nat.reduceEqDiff, ↓reduceIte, Int.reduceEq, Int.reduceNeg, wrap_add, e7]
  · clear H
    rintro env τ ⟨w, e7, H⟩
    obtain ⟨τ2, R2, H2⟩ := slices_Sort_int_ret H 0 rfl (by simp; omega)
    simp +contextual (maxSteps := 600000) (disch := omega) only [go_sem, Nat.reduceEqDiff, ↓reduceIte, Int.reduceEq, Int.reduceNeg, wrap_add, e7]
    refine by_mut R2 ?_
    simp +contextual (maxSteps := 600000) (disch := omega) only [go_sem, Nat.reduceEqDiff, ↓reduceIte, Int.reduceEq, Int.reduceNeg, wrap_add, e7]
    exact ⟨_, rfl, by rw [mapOf, hL]; exact H2⟩
theorem i_RowOf_ret (σ : St) (cs : List GV) (s : State) (hR : kState.R σ s cs) (o : ByteArray) (hl : msState s ≤ 1099511627776) : ∃ r τ, Ret Tryz.prog n_i_RowOf [.agg cs, .str o] σ r τ ∧ Hp σ τ [ow pI.kd r (rowOf s o)] := by
  have hlen := kState.len hR
  have hlen : cs.length = 4 := hlen
  refine ret_dr ir_i_RowOf (Nat.le_of_ble_eq_true rfl) ?_
  have H := ((Hp.refl σ).new 1 cs).nil_int
  simp +contextual (maxSteps := 600000) (disch := omega) only [go_sem, Nat.reduceEqDiff, ↓reduceIte, Int.reduceEq, Int.reduceNeg, wrap_add, F_i_RowOf, ld_new, ld_new2, seg_full hlen]
  obtain ⟨r1, τ1, R1, K1⟩ := i_rowCells_ret _ cs s (kState.pre hR H.sub) o hl
  have hb := rowL_len s o
  rw [rowOf]
  generalize rowL s o = T at *
  refine by_hp R1 K1 ?_
  have H := H.add K1
  simp only [List.cons_append, List.nil_append] at H
  have hlen0 := (H.sl 0 rfl).len
  simp +contextual (maxSteps := 600000) (disch := omega) only [go_sem, Nat.reduceEqDiff, ↓reduceIte, Int.reduceEq, Int.reduceNeg, wrap_add, hlen0]
  generalize hn1 : σ.length = n1 at *
  refine vc_forJ T.length 13 (fun i env τ => env 11 = r1 ∧ env 12 = gi T.length ∧ ∃ u, env 5 = u ∧ Hp σ τ [ow pI.kd u ((T.take i).map (·.val)), ow pCell.kd r1 T, pt 1 n1 cs]) rfl ⟨rfl, rfl, _, rfl, H.pick 1 rfl⟩ ?_ ?_
  · clear H
    rintro J hJ i env τ hi e13 c0 ⟨e11, e12, u, e5, H⟩
    have C1 := Cell_at (H.sl 1 rfl) hi
    have G := H.grow (pre1 τ (some (Blk.row 1 (cellV T[i]))))
    obtain ⟨w', τ3, e8, H3⟩ := G.app_int 0 rfl T[i].val (by simp; omega)
    simp +contextual (maxSteps := 600000) (disch := omega) only [go_sem, Nat.reduceEqDiff, ↓reduceIte, Int.reduceEq, Int.reduceNeg, wrap_add, c0, e5, e11, e12, e13, C1, e8]
    refine hJ _ _ _ ⟨?_, ?_, w', ?_, ?_⟩
    all_goals first | (simp +contextual (maxSteps := 600000) (disch := omega) only [go_sem, Nat.reduceEqDiff, ↓reduceIte, Int.reduceEq, Int.reduceNeg, wrap_add, e5, e11, e12, e13]; done) | skip
    rw [List.take_succ_eq_append_getElem hi, List.map_append, List.map_cons, List.map_nil]
    exact H3
  · clear H
    rintro env τ e13 c0 ⟨e11, e12, u, e5, H⟩
    rw [List.take_length] at H
    simp +contextual (maxSteps := 600000) (disch := omega) only [go_sem, Nat.reduceEqDiff, ↓reduceIte, Int.reduceEq, Int.reduceNeg, wrap_add, c0, e5, e11, e12, e13]
    exact ⟨_, rfl, H.one⟩
theorem s_RowOf_ret (σ : St) (cs : List GV) (s : State) (hR : kState.R σ s cs) (o : ByteArray) (hl : msState s ≤ 1099511627776) : ∃ r τ, Ret Tryz.prog n_s_RowOf [.agg cs, .str o] σ r τ ∧ Hp σ τ [ow pI.kd r (rowOf s o)] := by
  have hlen := kState.len hR
  have hlen : cs.length = 4 := hlen
  refine ret_dr ir_s_RowOf (Nat.le_of_ble_eq_true rfl) ?_
  have H := ((Hp.refl σ).new 1 cs).nil_int
  simp +contextual (maxSteps := 600000) (disch := omega) only [go_sem, Nat.reduceEqDiff, ↓reduceIte, Int.reduceEq, Int.reduceNeg, wrap_add, F_s_RowOf, ld_new, ld_new2, seg_full hlen]
  refine by_bool (s_StateOk_ret _ _ s (kState.pre hR H.sub) hl) (fun hok => ?_) (fun hok => ?_)
  rotate_left
  · have e : rowOf s o = [] := by simp [rowOf, rowL, hok]
    simp +contextual (maxSteps := 600000) (disch := omega) only [go_sem, Nat.reduceEqDiff, ↓reduceIte, Int.reduceEq, Int.reduceNeg, wrap_add, List.append_nil]
    exact ⟨_, rfl, by rw [e]; exact H.one⟩
  have e : rowOf s o = ((rowC s o).filter goneNot).map (·.val) := by simp only [rowOf, rowL, hok, if_true]; rfl
  rw [e]
  simp +contextual (maxSteps := 600000) (disch := omega) only [go_sem, Nat.reduceEqDiff, ↓reduceIte, Int.reduceEq, Int.reduceNeg, wrap_add, ld_new, ld_new2, seg_full hlen]
  obtain ⟨r1, τ1, R1, K1⟩ := s_l08Row_ret _ cs s (kState.pre hR H.sub) o hok hl
  refine by_hp R1 K1 ?_
  have H := H.add K1
  simp only [List.cons_append, List.nil_append] at H
  have hb := rowC_len (celR_of hok) o
  generalize rowC s o = T at *
  simp +contextual (maxSteps := 600000) (disch := omega) only [go_sem, Nat.reduceEqDiff, ↓reduceIte, Int.reduceEq, Int.reduceNeg, wrap_add, List.append_nil]
  generalize hn1 : σ.length = n1 at *
  refine vc_forJ T.length 7 (fun i env τ => env 6 = r1 ∧ ∃ u, env 5 = u ∧ Hp σ τ [ow pI.kd u (((T.take i).filter goneNot).map (·.val)), ow pCell.kd r1 T, pt 1 n1 cs]) rfl ⟨rfl, _, rfl, H.pick 1 rfl⟩ ?_ ?_
  · clear H
    rintro J hJ i env τ hi e7 c0 ⟨e6, u, e5, H⟩
    have hfl := filter_take_len T goneNot i
    have hsn := gone_snoc hi
    have C1 := Cell_at (H.sl 1 rfl) hi
    have hln := (H.sl 1 rfl).len
    cases hg : T[i].gone with
    | true =>
      have hk0 : goneNot T[i] = false := by simp [goneNot, hg]
      rw [hk0, if_neg (by simp)] at hsn
      simp +contextual (maxSteps := 600000) (disch := omega) only [go_sem, Nat.reduceEqDiff, ↓reduceIte, Int.reduceEq, Int.reduceNeg, wrap_add, c0, e5, e6, e7, hln, C1, hg]
      refine hJ _ _ _ ⟨?_, u, ?_, by rw [hsn]; exact H⟩
      all_goals simp +contextual (maxSteps := 600000) (disch := omega) only [go_sem, Nat.reduceEqDiff, ↓reduceIte, Int.reduceEq, Int.reduceNeg, wrap_add, e5, e6, e7]
    | false =>
      have hk0 : goneNot T[i] = true := by simp [goneNot, hg]
      rw [hk0, if_pos rfl] at hsn
      obtain ⟨w', τ3, e8, H3⟩ := H.app_int 0 rfl T[i].val (by simp; omega)
      simp +contextual (maxSteps := 600000) (disch := omega) only [go_sem, Nat.reduceEqDiff, ↓reduceIte, Int.reduceEq, Int.reduceNeg, wrap_add, c0, e5, e6, e7, hln, C1, hg, e8]
      refine hJ _ _ _ ⟨?_, w', ?_, ?_⟩
      all_goals first | (simp +contextual (maxSteps := 600000) (disch := omega) only [go_sem, Nat.reduceEqDiff, ↓reduceIte, Int.reduceEq, Int.reduceNeg, wrap_add, e5, e6, e7]; done) | skip
      rw [hsn, List.map_append, List.map_cons, List.map_nil]
      exact H3
  · clear H
    rintro env τ e7 c0 ⟨e6, u, e5, H⟩
    rw [List.take_length] at H
    have hln := (H.sl 1 rfl).len
    simp +contextual (maxSteps := 600000) (disch := omega) only [go_sem, Nat.reduceEqDiff, ↓reduceIte, Int.reduceEq, Int.reduceNeg, wrap_add, c0, e5, e6, e7, hln]
    exact ⟨_, rfl, H.one⟩
end Go.Proofs.YtffnefmklckngaaGreat.Sy

