/- Texts of this proof, one behind the other. -/
import Derived.Test.YtffnefmklckngaaBRowWhose2
import Derived.Test.YtffnefmklckngaaProg
import Derived.KernelRfl
/- Contracts: rows, as the program tells them. -/
namespace Go.Proofs.Ytffnefmklckngaa.Sy
open Go Go.RowKit
set_option linter.unusedSimpArgs false
set_option linter.unusedVariables false
set_option maxRecDepth 4000
abbrev n_i_RowDots : Nat := 81
def F_i_RowDots : Fn1 := ⟨82, [.t 4], (.seq (.reg [o 2 (.box (.t 0)), o 4 (.mov (.k .nilS))]) (.seq (.reg [o 12 (.lit 2 0 [] []), o 5 (.mov (.t 12))]) (.seq (.seq (.reg [o 13 (.ld true 4 (.t 2)), o 14 (.call 36 [(.t 13)]), o 15 (.un .not (.t 14))]) (.cnd (.t 15) (.seq (.reg [o 16 (.mov (.t 5)), o 4 (.mov (.t 16))]) .ret) .skip)) (.seq (.reg [o 17 (.lit 8 0 [] []), o 6 (.mov (.t 17))]) (.seq (.seq (.reg [o 18 (.fad 3 (.t 2)), o 19 (.ld false 1 (.t 18)), o 20 (.len false (.t 19)), o 21 (.mov (.k (.int .i64 0)))]) (.blk 0 (.lop (.seq (.reg [o 22 (.bin .lss (.t 21) (.t 20))]) (.seq (.cnd (.t 22) .skip (.ext 0)) (.seq (.blk 1 (.seq (.reg [o 23 (.iad 8 (.t 19) (.t 21)), o 24 (.ld true 8 (.t 23)), o 8 (.new [(.str ⟨#[]⟩), (.int .i64 0), (.int .i64 0), (.int .i64 0), (.int .i64 0), (.int .i64 0), (.int .i64 0), (.bool false)]), on (.st 8 (.t 8) (.t 24))]) (.seq (.reg [o 25 (.fad 0 (.t 8)), o 26 (.ld false 1 (.t 25)), o 27 (.mov (.t 1)), o 28 (.bin .eql (.t 26) (.t 27))]) (.cnd (.t 28) (.reg [o 29 (.mov (.t 6)), o 30 (.ld true 8 (.t 8)), o 31 (.lit 8 1 [(.str ⟨#[]⟩), (.int .i64 0), (.int .i64 0), (.int .i64 0), (.int .i64 0), (.int .i64 0), (.int .i64 0), (.bool false)] [(0, 8, (.t 30))]), o 32 (.app 8 72 [(.str ⟨#[]⟩), (.int .i64 0), (.int .i64 0), (.int .i64 0), (.int .i64 0), (.int .i64 0), (.int .i64 0), (.bool false)] (.t 29) (.t 31)), o 6 (.mov (.t 32))]) .skip)))) (.reg [o 33 (.bin .add (.t 21) (.k (.int .i64 1))), o 21 (.mov (.t 33))]))))))) (.seq (.reg [o 34 (.mov (.t 6)), o 35 (.call 95 [(.t 34), (.k (.fn 96 []))])]) (.seq (.reg [o 36 (.build [(.int .i64 0), (.int .i64 0)] []), o 37 (.lit 2 1 [(.int .i64 0), (.int .i64 0)] [(0, 2, (.t 36))]), o 9 (.mov (.t 37))]) (.seq (.blk 2 (.lop (.seq (.seq (.reg [o 38 (.mov (.t 9)), o 39 (.len false (.t 38)), o 40 (.bin .gtr (.t 39) (.k (.int .i64 0)))]) (.cnd (.t 40) .skip (.ext 2))) (.blk 3 (.seq (.reg [o 41 (.mov (.t 9)), o 42 (.mov (.t 9)), o 43 (.len false (.t 42)), o 44 (.bin .sub (.t 43) (.k (.int .i64 1))), o 45 (.iad 2 (.t 41) (.t 44)), o 46 (.ld true 2 (.t 45)), o 10 (.new [(.int .i64 0), (.int .i64 0)]), on (.st 2 (.t 10) (.t 46))]) (.seq (.reg [o 47 (.mov (.t 9)), o 48 (.mov (.t 9)), o 49 (.len false (.t 48)), o 50 (.bin .sub (.t 49) (.k (.int .i64 1))), o 51 (.cut 2 (.t 47) none (some (.t 50))), o 9 (.mov (.t 51))]) (.seq (.seq (.reg [o 52 (.ld true 2 (.t 10)), o 53 (.build [(.int .i64 0), (.int .i64 0)] []), o 54 (.eqs true [.i .i64, .i .i64] (.t 52) (.t 53))]) (.cnd (.t 54) (.reg [o 55 (.mov (.t 5)), o 56 (.ld true 2 (.t 10)), o 57 (.lit 2 1 [(.int .i64 0), (.int .i64 0)] [(0, 2, (.t 56))]), o 58 (.app 2 16 [(.int .i64 0), (.int .i64 0)] (.t 55) (.t 57)), o 5 (.mov (.t 58))]) .skip)) (.seq (.reg [o 59 (.mov (.t 6)), o 60 (.len false (.t 59)), o 61 (.bin .sub (.t 60) (.k (.int .i64 1))), o 11 (.mov (.t 61))]) (.blk 4 (.lop (.seq (.seq (.reg [o 62 (.mov (.t 11)), o 63 (.bin .geq (.t 62) (.k (.int .i64 0)))]) (.cnd (.t 63) .skip (.ext 4))) (.seq (.blk 5 (.seq (.drw [o 66 (.mov (.t 6)), o 67 (.mov (.t 11)), o 68 (.iad 8 (.t 66) (.t 67)), o 69 (.fad 4 (.t 68)), o 70 (.ld true 2 (.t 69)), o 71 (.ld true 2 (.t 10))] [o 72 (.eqs false [.i .i64, .i .i64] (.t 70) (.t 71))]) (.cnd (.t 72) (.reg [o 73 (.mov (.t 9)), o 74 (.mov (.t 6)), o 75 (.mov (.t 11)), o 76 (.iad 8 (.t 74) (.t 75)), o 77 (.fad 1 (.t 76)), o 78 (.ld true 2 (.t 77)), o 79 (.lit 2 1 [(.int .i64 0), (.int .i64 0)] [(0, 2, (.t 78))]), o 80 (.app 2 16 [(.int .i64 0), (.int .i64 0)] (.t 73) (.t 79)), o 9 (.mov (.t 80))]) .skip))) (.reg [o 64 (.mov (.t 11)), o 65 (.bin .sub (.t 64) (.k (.int .i64 1))), o 11 (.mov (.t 65))]))))))))))))) (.seq (.reg [o 81 (.mov (.t 5)), o 4 (.mov (.t 81))]) .ret)))))))))⟩
theorem ir_i_RowDots : compFn Try.prog n_i_RowDots = some F_i_RowDots := by kernel_rfl
theorem obj_snoc {l : List Cell} {o : ByteArray} {i : Nat} (hi : i < l.length) : (l.take (i + 1)).filter (isObj o) = if isObj o l[i] then (l.take i).filter (isObj o) ++ [l[i]] else (l.take i).filter (isObj o) := by
  rw [filter_snoc' hi]
  split <;> simp
theorem dot_row {l : List Cell} (d : Dot) {j : Nat} (hj : j < l.length) : ((l.drop j).filter (isRef d)) = if isRef d l[j] then l[j] :: (l.drop (j + 1)).filter (isRef d) else (l.drop (j + 1)).filter (isRef d) := by
  rw [List.drop_eq_getElem_cons hj, List.filter_cons]
theorem eqDot2 {x d : Dot} : (⟨x.rep, x.seq⟩ : Dot) = x := rfl
/-- The last of a row of dots is taken off. -/
theorem Hp.popDot {σ τ : St} {rs : List Thg} {v : GV} {S : List Dot} {d : Dot} (H : Hp σ τ rs) (k : Nat) (hk : rs[k]? = some (ow pDot.kd v (S ++ [d]))) : ∃ g off, v = .sl g off (S.length + 1) ∧ zOk τ 2 v = true ∧ Hp σ τ (rs.set k (ow pDot.kd (.sl g off S.length) S)) := by
  obtain ⟨a, hO, hnd, hbd, ht⟩ := (H.pick k hk).turn
  have hkl := (List.getElem?_eq_some_iff.1 hk).1
  rcases OS.flat.1 hO with ⟨h, _⟩ | ⟨g, pre, post, rfl, hB, rfl⟩
  · simp at h
  · refine ⟨g, pre.length, by simp, ?_, ?_⟩
    · have : zOk τ 2 (.sl g pre.length (S ++ [d]).length) = true := by simp [zOk, bk_some.1 hB]; rfl
      exact this
    · refine Hp.unpick (ht (a' := [g]) ⟨by simp, fun g' h => .inl h, by simp, fun _ _ _ => rfl⟩ (OS.flat.2 (.inr ⟨g, pre, pDot.cells [d] ++ post, rfl, ?_, rfl⟩))) hkl
      rw [hB, Pl.cells_append]; simp
/-- A loop that is left at one place alone. -/
theorem vc_lopY {P : Program} {a : Cd} {Q : Ex → Env → St → Prop} {env : Env} {σ : St} (I : Nat → Env → St → Prop) (n j0 : Nat) (X : Env → St → Prop) (h0 : I n env σ)
    (hs : ∀ (J : Nat → Env → St → Prop) (Y : Env → St → Prop), (∀ k env σ, I k env σ → J k env σ) → (∀ env σ, X env σ → Y env σ) → ∀ k env σ, I k env σ → vc P a (fun e env' σ' => match e with | .nxt => ∃ k', k' < k ∧ J k' env' σ' | .ext j => j = j0 ∧ Y env' σ' | .ret => False) env σ)
    (hx : ∀ env σ, X env σ → Q (.ext j0) env σ) : vc P (.lop a) Q env σ := by
  refine vc_lop I n h0 fun k env σ hI => vc_mono (hs I X (fun _ _ _ h => h) (fun _ _ h => h) k env σ hI) fun e env' σ' he => ?_
  cases e with
  | nxt => exact he
  | ret => exact he.elim
  | ext j => obtain ⟨rfl, he⟩ := he; exact hx _ _ he
set_option maxHeartbeats 4000000 in
theorem i_RowDots_ret (σ : St) (cs : List GV) (s : State) (hR : kState.R σ s cs) (o : ByteArray) (hl : msState s ≤ 1099511627776) : ∃ r τ, Ret Try.prog n_i_RowDots [.agg cs, .str o] σ r τ ∧ Hp σ τ [ow pDot.kd r (rowD s o)] := by
  have hR0 := hR
  obtain ⟨a, b, c, v, rfl, _, _, _, hc⟩ := hR
  obtain ⟨l1, l2, l3, l4, _⟩ := msState_all hl
  refine ret_dr ir_i_RowDots (Nat.le_of_ble_eq_true rfl) ?_
  have H := ((Hp.refl σ).new 1 [a, b, c, v]).nil_Dot
  simp +contextual (maxSteps := 600000) (disch := omega) only [go_sem, Nat.reduceEqDiff, ↓reduceIte, Int.reduceEq, Int.reduceNeg, wrap_add, F_i_RowDots, ld_new, ld_new2, seg_full (cs := [a, b, c, v]) rfl]
  refine by_bool (i_StateOk_ret _ _ s (kState.pre hR0 H.sub) hl) (fun hok => ?_) (fun hok => ?_)
  rotate_left
  · have e : rowD s o = [] := by simp [rowD, hok]
    simp +contextual (maxSteps := 600000) (disch := omega) only [go_sem, Nat.reduceEqDiff, ↓reduceIte, Int.reduceEq, Int.reduceNeg, wrap_add, List.append_nil]
    exact ⟨_, rfl, by rw [e]; exact H.one⟩
  have e : rowD s o = (rowC s o).map (·.dot) := by simp [rowD, hok]
  have hcr := celR_of hok
  have hbd := rowC_len hcr o
  have hnd := hcr.nd
  rw [e]
  have H := H.nil_Cell
  simp +contextual (maxSteps := 600000) (disch := omega) only [go_sem, Nat.reduceEqDiff, ↓reduceIte, Int.reduceEq, Int.reduceNeg, wrap_add, ld_ptr (H.pt 2 rfl), hc.len]
  generalize hn1 : σ.length = n1 at *
  refine vc_forX s.cells.length 21 0 (fun i env τ => env 1 = .str o ∧ env 19 = v ∧ env 20 = gi s.cells.length ∧ ∃ u w, env 5 = u ∧ env 6 = w ∧ Hp σ τ [ow pCell.kd w ((s.cells.take i).filter (isObj o)), ow pDot.kd u [], pt 1 n1 [a, b, c, v]]) (fun env τ => ∃ u w, env 5 = u ∧ env 6 = w ∧ Hp σ τ [ow pCell.kd w (s.cells.filter (isObj o)), ow pDot.kd u [], pt 1 n1 [a, b, c, v]]) rfl ⟨rfl, rfl, rfl, _, _, rfl, rfl, H⟩ ?_ ?_ ?_
  · clear H
    rintro J Y hJ hY i env τ hi e21 c0 ⟨e1, e19, e20, u, w, e5, e6, H⟩
    have C1 := Cell_at (hc.pre H.sub) hi
    have hfl := filter_take_len s.cells (isObj o) i
    have hsn := obj_snoc (o := o) hi
    have G := H.grow (pre1 τ (some (Blk.row 1 (cellV s.cells[i]))))
    cases ho : decide (s.cells[i].obj = o) with
    | false =>
      have hk0 : isObj o s.cells[i] = false := ho
      rw [hk0, if_neg (by simp)] at hsn
      simp +contextual (maxSteps := 600000) (disch := omega) only [go_sem, Nat.reduceEqDiff, ↓reduceIte, Int.reduceEq, Int.reduceNeg, wrap_add, c0, e1, e5, e6, e19, e20, e21, C1, ho]
      refine hJ _ _ _ ⟨?_, ?_, ?_, u, w, ?_, ?_, by rw [hsn]; exact G⟩
      all_goals simp +contextual (maxSteps := 600000) (disch := omega) only [go_sem, Nat.reduceEqDiff, ↓reduceIte, Int.reduceEq, Int.reduceNeg, wrap_add, e1, e5, e6, e19, e20, e21]
    | true =>
      have hk0 : isObj o s.cells[i] = true := ho
      rw [hk0, if_pos rfl] at hsn
      obtain ⟨w', τ3, e8, H3⟩ := G.app_Cell 0 rfl s.cells[i] (by omega)
      simp +contextual (maxSteps := 600000) (disch := omega) only [go_sem, Nat.reduceEqDiff, ↓reduceIte, Int.reduceEq, Int.reduceNeg, wrap_add, c0, e1, e5, e6, e19, e20, e21, C1, ho, e8]
      refine hJ _ _ _ ⟨?_, ?_, ?_, u, w', ?_, ?_, by rw [hsn]; exact H3⟩
      all_goals simp +contextual (maxSteps := 600000) (disch := omega) only [go_sem, Nat.reduceEqDiff, ↓reduceIte, Int.reduceEq, Int.reduceNeg, wrap_add, e1, e5, e6, e19, e20, e21]
  · clear H
    rintro Y hY env τ e21 c0 ⟨e1, e19, e20, u, w, e5, e6, H⟩
    rw [List.take_length] at H
    simp +contextual (maxSteps := 600000) (disch := omega) only [go_sem, Nat.reduceEqDiff, ↓reduceIte, Int.reduceEq, Int.reduceNeg, wrap_add, c0, e1, e5, e6, e19, e20, e21]
    refine hY _ _ ⟨u, w, ?_, ?_, H⟩
    all_goals simp +contextual (maxSteps := 600000) (disch := omega) only [go_sem, Nat.reduceEqDiff, ↓reduceIte, Int.reduceEq, Int.reduceNeg, wrap_add, e5, e6]
  clear H
  rintro env τ ⟨u, w, e5, e6, H⟩
  have hfl := List.length_filter_le (isObj o) s.cells
  obtain ⟨τ1, R1, H⟩ := slices_SortFunc_Cell_ret H 0 rfl (by omega) (hnd.sublist ((List.filter_sublist).map _))
  simp +contextual (maxSteps := 600000) (disch := omega) only [go_sem, Nat.reduceEqDiff, ↓reduceIte, Int.reduceEq, Int.reduceNeg, wrap_add, e5, e6]
  refine by_mut R1 ?_
  have H : Hp σ τ1 [ow pCell.kd w (objC s.cells o), ow pDot.kd u [], pt 1 n1 [a, b, c, v]] := H
  have H := (H.new 2 [gi 0, gi 0]).toRow (p := pDot) 0 rfl [⟨0, 0⟩] rfl rfl 1 rfl
  have H : Hp σ _ [ow pDot.kd (.sl τ1.length 0 1) [⟨0, 0⟩], ow pCell.kd w (objC s.cells o), ow pDot.kd u [], pt 1 n1 [a, b, c, v]] := H
  simp +contextual (maxSteps := 600000) (disch := omega) only [go_sem, Nat.reduceEqDiff, ↓reduceIte, Int.reduceEq, Int.reduceNeg, wrap_add, e5, e6]
  obtain ⟨hz1, hz2⟩ := adq_zero hcr o
  have hnz : ∀ c ∈ objC s.cells o, c.dot ≠ ⟨0, 0⟩ := fun c hcm h0 => by
    have := hcr.dot c (objC_mem.1 hcm).1
    rw [h0, zero_notOk] at this; cases this
  have hscl := objC_len s.cells o
  have htot : stackD (objC s.cells o) [⟨0, 0⟩] = (rowC s o).map (·.dot) := by
    simp [stackD, selfD, isZ, rowC]
  have hM0 : stackM (objC s.cells o) [⟨0, 0⟩] = 1 + (rowC s o).length := by simp [stackM, rowC]
  generalize hT : rowC s o = T at *
  generalize hsc : objC s.cells o = sc at *
  refine vc_lopY (fun n env τ => ∃ (ws ud : GV) (S D : List Dot), env 5 = ud ∧ env 6 = w ∧ env 9 = ws ∧ stackM sc S = n ∧ n ≤ 1 + T.length ∧ (∀ d ∈ S, Adq sc fuel d) ∧ D ++ stackD sc S = T.map (·.dot) ∧ Hp σ τ [ow pDot.kd ws S, ow pCell.kd w sc, ow pDot.kd ud D, pt 1 n1 [a, b, c, v]]) (1 + T.length) 2 (fun env τ => ∃ ud, env 5 = ud ∧ Hp σ τ [ow pDot.kd ud (T.map (·.dot))]) ⟨_, u, [⟨0, 0⟩], [], by simp +contextual (maxSteps := 600000) (disch := omega) only [go_sem, Nat.reduceEqDiff, ↓reduceIte, Int.reduceEq, Int.reduceNeg, wrap_add, e5], by simp +contextual (maxSteps := 600000) (disch := omega) only [go_sem, Nat.reduceEqDiff, ↓reduceIte, Int.reduceEq, Int.reduceNeg, wrap_add, e6], rfl, hM0, Nat.le_refl _, fun d hd => by rw [List.mem_singleton.1 hd]; exact hz1, by rw [htot]; rfl, H⟩ ?_ ?_
  · clear H e5 e6
    rintro J Y hJ hY n env τ ⟨ws, ud, S, D, e5, e6, e9, hn, hnT, hA, hE, H⟩
    have hSl := stackM_len (sc := sc) S
    have hDl := congrArg List.length hE
    simp only [List.length_append, List.length_map] at hDl
    rcases List.eq_nil_or_concat S with rfl | ⟨S0, d, rfl⟩
    · have hlenS : lenG false ws = some 0 := (H.sl 0 rfl).len
      have c0 : decide ((0 : Int) < 0) = false := rfl
      simp +contextual (maxSteps := 600000) (disch := omega) only [go_sem, Nat.reduceEqDiff, ↓reduceIte, Int.reduceEq, Int.reduceNeg, wrap_add, e5, e6, e9, hlenS, c0]
      refine hY _ _ ⟨ud, ?_, ?_⟩
      · simp +contextual (maxSteps := 600000) (disch := omega) only [go_sem, Nat.reduceEqDiff, ↓reduceIte, Int.reduceEq, Int.reduceNeg, wrap_add, e5]
      · have : D = T.map (·.dot) := by rw [← hE]; simp [stackD]
        rw [← this]
        exact (H.pick 2 rfl).one
    · rw [List.concat_eq_append] at *
      have hdA := hA d (by simp)
      have hlenS : lenG false ws = some ((S0.length : Int) + 1) := by
        have := (H.sl 0 rfl).len
        rw [this]; simp
      have c0 : decide ((0 : Int) < (S0.length : Int) + 1) = true := decide_eq_true (by omega)
      have hl1 : (S0.length : Int) + 1 - 1 = (S0.length : Int) := by omega
      have hSl0 : S0.length + 1 ≤ 1 + T.length := by simp only [List.length_append, List.length_cons, List.length_nil] at hSl; omega
      have C1 := Dot_at (H.sl 0 rfl) (i := S0.length) (by simp)
      have hgd : (S0 ++ [d])[S0.length]'(by simp) = d := by simp
      rw [hgd] at C1
      have hpop := stackD_pop (S := S0) hdA hnz
      have hmp := stackM_pop (S := S0) hdA
      rw [hpop] at hE
      rw [hmp] at hn
      have hA2 : ∀ x ∈ S0 ++ ((sc.filter (isRef d)).map (·.dot)).reverse, Adq sc fuel x := fun x hx => by
        rcases List.mem_append.1 hx with h | h
        · exact hA x (by simp [h])
        · obtain ⟨y, hy, rfl⟩ := List.mem_map.1 (List.mem_reverse.1 h)
          exact hz2 y (List.mem_filter.1 hy).1
      obtain ⟨g, off, rfl, hzk, HN⟩ := (H.new 1 [gi d.rep, gi d.seq]).popDot 1 rfl
      have HN : Hp σ _ [pt 1 τ.length [gi d.rep, gi d.seq], ow pDot.kd (.sl g off S0.length) S0, ow pCell.kd w sc, ow pDot.kd ud D, pt 1 n1 [a, b, c, v]] := HN
      have hcut := cutHi (z := 2) (g := g) (off := off) (n := S0.length + 1) (k := S0.length) (by omega)
      have hlenC := (HN.sl 2 rfl).len
      have hlD := (HN.pt 0 rfl)
      cases hz : decide (d = ⟨0, 0⟩) with
      | true =>
        have hse : selfD d = [] := by unfold selfD; rw [if_pos (show isZ d = true from hz)]
        rw [hse, List.nil_append] at hE
        simp +contextual (maxSteps := 600000) (disch := omega) only [go_sem, Nat.reduceEqDiff, ↓reduceIte, Int.reduceEq, Int.reduceNeg, wrap_add, e5, e6, e9, hlenS, c0, hl1, natOf_nat, C1, hzk, hcut, ld_ptr hlD, hz, hlenC, Option.map_none, Option.map_some]
        generalize hnb : τ.length = nb at *
        refine vc_lopY (fun n env τ => ∃ (m : Nat) (wz : GV), env 5 = ud ∧ env 6 = w ∧ env 9 = wz ∧ env 10 = .ptr nb 0 ∧ env 11 = gi ((m : Int) - 1) ∧ m = n ∧ m ≤ sc.length ∧ Hp σ τ [pt 1 nb [gi d.rep, gi d.seq], ow pDot.kd wz (S0 ++ (((sc.drop m).filter (isRef d)).map (·.dot)).reverse), ow pCell.kd w sc, ow pDot.kd ud D, pt 1 n1 [a, b, c, v]]) sc.length 4 (fun env τ => ∃ (wz : GV), env 5 = ud ∧ env 6 = w ∧ env 9 = wz ∧ Hp σ τ [pt 1 nb [gi d.rep, gi d.seq], ow pDot.kd wz (S0 ++ ((sc.filter (isRef d)).map (·.dot)).reverse), ow pCell.kd w sc, ow pDot.kd ud D, pt 1 n1 [a, b, c, v]]) ⟨sc.length, .sl g off S0.length, by simp +contextual (maxSteps := 600000) (disch := omega) only [go_sem, Nat.reduceEqDiff, ↓reduceIte, Int.reduceEq, Int.reduceNeg, wrap_add, e5], by simp +contextual (maxSteps := 600000) (disch := omega) only [go_sem, Nat.reduceEqDiff, ↓reduceIte, Int.reduceEq, Int.reduceNeg, wrap_add, e6], by simp +contextual (maxSteps := 600000) (disch := omega) only [go_sem, Nat.reduceEqDiff, ↓reduceIte, Int.reduceEq, Int.reduceNeg, wrap_add, List.append_nil], by simp +contextual (maxSteps := 600000) (disch := omega) only [go_sem, Nat.reduceEqDiff, ↓reduceIte, Int.reduceEq, Int.reduceNeg, wrap_add, List.append_nil], by simp +contextual (maxSteps := 600000) (disch := omega) only [go_sem, Nat.reduceEqDiff, ↓reduceIte, Int.reduceEq, Int.reduceNeg, wrap_add, List.append_nil], rfl, Nat.le_refl _, by simp only [List.drop_length, List.filter_nil, List.map_nil, List.reverse_nil, List.append_nil]; exact HN⟩ ?_ ?_
        · clear H HN e5 e6 e9 hlD hzk
          rintro J2 Y2 hJ2 hY2 n2 env τ ⟨m, wz, e5, e6, e9, e10, e11, hn2, hm, HN⟩
          have hfd := List.length_filter_le (isRef d) (sc.drop m)
          rw [List.length_drop] at hfd
          cases m with
          | zero =>
            have e11 : env 11 = gi (-1) := e11
            have c1 : decide ((0 : Int) ≤ -1) = false := rfl
            rw [List.drop_zero] at HN
            simp +contextual (maxSteps := 600000) (disch := omega) only [go_sem, Nat.reduceEqDiff, ↓reduceIte, Int.reduceEq, Int.reduceNeg, wrap_add, e5, e6, e9, e10, e11, c1]
            refine hY2 _ _ ⟨wz, ?_, ?_, ?_, HN⟩
            all_goals simp +contextual (maxSteps := 600000) (disch := omega) only [go_sem, Nat.reduceEqDiff, ↓reduceIte, Int.reduceEq, Int.reduceNeg, wrap_add, e5, e6, e9]
          | succ j =>
            have e11 : env 11 = gi (j : Int) := by rw [e11]; congr 1; omega
            have c1 : decide ((0 : Int) ≤ j) = true := by simp
            have C2 := Cell_at (HN.sl 2 rfl) (i := j) (by omega)
            have hdr := dot_row d (l := sc) (j := j) (by omega)
            cases hr : decide (sc[j].ref = d) with
            | false =>
              have hk0 : isRef d sc[j] = false := hr
              rw [hk0, if_neg (by simp)] at hdr
              simp +contextual (maxSteps := 600000) (disch := omega) only [go_sem, Nat.reduceEqDiff, ↓reduceIte, Int.reduceEq, Int.reduceNeg, wrap_add, e5, e6, e9, e10, e11, c1, natOf_nat, C2, ld_ptr (HN.pt 0 rfl), hr]
              refine ⟨j, by omega, hJ2 _ _ _ ⟨j, wz, ?_, ?_, ?_, ?_, ?_, rfl, by omega, by rw [hdr]; exact HN⟩⟩
              all_goals simp +contextual (maxSteps := 600000) (disch := omega) only [go_sem, Nat.reduceEqDiff, ↓reduceIte, Int.reduceEq, Int.reduceNeg, wrap_add, e5, e6, e9, e10, e11]
            | true =>
              have hk0 : isRef d sc[j] = true := hr
              rw [hk0, if_pos rfl] at hdr
              obtain ⟨w2, τ4, e7, H4⟩ := HN.app_Dot 1 rfl sc[j].dot (by simp only [List.length_append, List.length_reverse, List.length_map]; omega)
              simp +contextual (maxSteps := 600000) (disch := omega) only [go_sem, Nat.reduceEqDiff, ↓reduceIte, Int.reduceEq, Int.reduceNeg, wrap_add, e5, e6, e9, e10, e11, c1, natOf_nat, C2, ld_ptr (HN.pt 0 rfl), hr, e7]
              refine ⟨j, by omega, hJ2 _ _ _ ⟨j, w2, ?_, ?_, ?_, ?_, ?_, rfl, by omega, ?_⟩⟩
              all_goals first | (simp +contextual (maxSteps := 600000) (disch := omega) only [go_sem, Nat.reduceEqDiff, ↓reduceIte, Int.reduceEq, Int.reduceNeg, wrap_add, e5, e6, e9, e10, e11]; done) | skip
              rw [hdr, List.map_cons, List.reverse_cons, ← List.append_assoc]
              exact H4
        · clear H HN e5 e6 e9 hlD hzk
          rintro env τ ⟨wz, e5, e6, e9, HN⟩
          simp +contextual (maxSteps := 600000) (disch := omega) only [go_sem, Nat.reduceEqDiff, ↓reduceIte, Int.reduceEq, Int.reduceNeg, wrap_add, e5, e6, e9]
          refine ⟨n - 1, by omega, hJ _ _ _ ⟨wz, ud, _, D, ?_, ?_, ?_, by omega, ?_, hA2, hE, HN.drop1⟩⟩
          all_goals first | (simp +contextual (maxSteps := 600000) (disch := omega) only [go_sem, Nat.reduceEqDiff, ↓reduceIte, Int.reduceEq, Int.reduceNeg, wrap_add, e5, e6, e9]; done) | omega
      | false =>
        have hse : selfD d = [d] := by unfold selfD; rw [if_neg (by rw [isZ, hz]; simp)]
        rw [hse, ← List.append_assoc] at hE
        obtain ⟨ud2, τ3, e8, HN⟩ := HN.app_Dot 3 rfl d (by omega)
        have HN : Hp σ τ3 [pt 1 τ.length [gi d.rep, gi d.seq], ow pDot.kd (.sl g off S0.length) S0, ow pCell.kd w sc, ow pDot.kd ud2 (D ++ [d]), pt 1 n1 [a, b, c, v]] := HN
        generalize hDD : D ++ [d] = D2 at *
        simp +contextual (maxSteps := 600000) (disch := omega) only [go_sem, Nat.reduceEqDiff, ↓reduceIte, Int.reduceEq, Int.reduceNeg, wrap_add, e5, e6, e9, hlenS, c0, hl1, natOf_nat, C1, hzk, hcut, ld_ptr hlD, hz, hlenC, e8, Option.map_none, Option.map_some]
        generalize hnb : τ.length = nb at *
        refine vc_lopY (fun n env τ => ∃ (m : Nat) (wz : GV), env 5 = ud2 ∧ env 6 = w ∧ env 9 = wz ∧ env 10 = .ptr nb 0 ∧ env 11 = gi ((m : Int) - 1) ∧ m = n ∧ m ≤ sc.length ∧ Hp σ τ [pt 1 nb [gi d.rep, gi d.seq], ow pDot.kd wz (S0 ++ (((sc.drop m).filter (isRef d)).map (·.dot)).reverse), ow pCell.kd w sc, ow pDot.kd ud2 D2, pt 1 n1 [a, b, c, v]]) sc.length 4 (fun env τ => ∃ (wz : GV), env 5 = ud2 ∧ env 6 = w ∧ env 9 = wz ∧ Hp σ τ [pt 1 nb [gi d.rep, gi d.seq], ow pDot.kd wz (S0 ++ ((sc.filter (isRef d)).map (·.dot)).reverse), ow pCell.kd w sc, ow pDot.kd ud2 D2, pt 1 n1 [a, b, c, v]]) ⟨sc.length, .sl g off S0.length, by simp +contextual (maxSteps := 600000) (disch := omega) only [go_sem, Nat.reduceEqDiff, ↓reduceIte, Int.reduceEq, Int.reduceNeg, wrap_add, e5], by simp +contextual (maxSteps := 600000) (disch := omega) only [go_sem, Nat.reduceEqDiff, ↓reduceIte, Int.reduceEq, Int.reduceNeg, wrap_add, e6], by simp +contextual (maxSteps := 600000) (disch := omega) only [go_sem, Nat.reduceEqDiff, ↓reduceIte, Int.reduceEq, Int.reduceNeg, wrap_add, List.append_nil], by simp +contextual (maxSteps := 600000) (disch := omega) only [go_sem, Nat.reduceEqDiff, ↓reduceIte, Int.reduceEq, Int.reduceNeg, wrap_add, List.append_nil], by simp +contextual (maxSteps := 600000) (disch := omega) only [go_sem, Nat.reduceEqDiff, ↓reduceIte, Int.reduceEq, Int.reduceNeg, wrap_add, List.append_nil], rfl, Nat.le_refl _, by simp only [List.drop_length, List.filter_nil, List.map_nil, List.reverse_nil, List.append_nil]; exact HN⟩ ?_ ?_
        · clear H HN e5 e6 e9 hlD hzk
          rintro J2 Y2 hJ2 hY2 n2 env τ ⟨m, wz, e5, e6, e9, e10, e11, hn2, hm, HN⟩
          have hfd := List.length_filter_le (isRef d) (sc.drop m)
          rw [List.length_drop] at hfd
          cases m with
          | zero =>
            have e11 : env 11 = gi (-1) := e11
            have c1 : decide ((0 : Int) ≤ -1) = false := rfl
            rw [List.drop_zero] at HN
            simp +contextual (maxSteps := 600000) (disch := omega) only [go_sem, Nat.reduceEqDiff, ↓reduceIte, Int.reduceEq, Int.reduceNeg, wrap_add, e5, e6, e9, e10, e11, c1]
            refine hY2 _ _ ⟨wz, ?_, ?_, ?_, HN⟩
            all_goals simp +contextual (maxSteps := 600000) (disch := omega) only [go_sem, Nat.reduceEqDiff, ↓reduceIte, Int.reduceEq, Int.reduceNeg, wrap_add, e5, e6, e9]
          | succ j =>
            have e11 : env 11 = gi (j : Int) := by rw [e11]; congr 1; omega
            have c1 : decide ((0 : Int) ≤ j) = true := by simp
            have C2 := Cell_at (HN.sl 2 rfl) (i := j) (by omega)
            have hdr := dot_row d (l := sc) (j := j) (by omega)
            cases hr : decide (sc[j].ref = d) with
            | false =>
              have hk0 : isRef d sc[j] = false := hr
              rw [hk0, if_neg (by simp)] at hdr
              simp +contextual (maxSteps := 600000) (disch := omega) only [go_sem, Nat.reduceEqDiff, ↓reduceIte, Int.reduceEq, Int.reduceNeg, wrap_add, e5, e6, e9, e10, e11, c1, natOf_nat, C2, ld_ptr (HN.pt 0 rfl), hr]
              refine ⟨j, by omega, hJ2 _ _ _ ⟨j, wz, ?_, ?_, ?_, ?_, ?_, rfl, by omega, by rw [hdr]; exact HN⟩⟩
              all_goals simp +contextual (maxSteps := 600000) (disch := omega) only [go_sem, Nat.reduceEqDiff, ↓reduceIte, Int.reduceEq, Int.reduceNeg, wrap_add, e5, e6, e9, e10, e11]
            | true =>
              have hk0 : isRef d sc[j] = true := hr
              rw [hk0, if_pos rfl] at hdr
              obtain ⟨w2, τ4, e7, H4⟩ := HN.app_Dot 1 rfl sc[j].dot (by simp only [List.length_append, List.length_reverse, List.length_map]; omega)
              simp +contextual (maxSteps := 600000) (disch := omega) only [go_sem, Nat.reduceEqDiff, ↓reduceIte, Int.reduceEq, Int.reduceNeg, wrap_add, e5, e6, e9, e10, e11, c1, natOf_nat, C2, ld_ptr (HN.pt 0 rfl), hr, e7]
              refine ⟨j, by omega, hJ2 _ _ _ ⟨j, w2, ?_, ?_, ?_, ?_, ?_, rfl, by omega, ?_⟩⟩
              all_goals first | (simp +contextual (maxSteps := 600000) (disch := omega) only [go_sem, Nat.reduceEqDiff, ↓reduceIte, Int.reduceEq, Int.reduceNeg, wrap_add, e5, e6, e9, e10, e11]; done) | skip
              rw [hdr, List.map_cons, List.reverse_cons, ← List.append_assoc]
              exact H4
        · clear H HN e5 e6 e9 hlD hzk
          rintro env τ ⟨wz, e5, e6, e9, HN⟩
          simp +contextual (maxSteps := 600000) (disch := omega) only [go_sem, Nat.reduceEqDiff, ↓reduceIte, Int.reduceEq, Int.reduceNeg, wrap_add, e5, e6, e9]
          refine ⟨n - 1, by omega, hJ _ _ _ ⟨wz, ud2, _, D2, ?_, ?_, ?_, by omega, ?_, hA2, hE, HN.drop1⟩⟩
          all_goals first | (simp +contextual (maxSteps := 600000) (disch := omega) only [go_sem, Nat.reduceEqDiff, ↓reduceIte, Int.reduceEq, Int.reduceNeg, wrap_add, e5, e6, e9]; done) | omega
  · clear H e5 e6
    rintro env τ ⟨ud, e5, H⟩
    simp +contextual (maxSteps := 600000) (disch := omega) only [go_sem, Nat.reduceEqDiff, ↓reduceIte, Int.reduceEq, Int.reduceNeg, wrap_add, e5]
    exact ⟨_, rfl, H⟩
end Go.Proofs.Ytffnefmklckngaa.Sy

/- Contracts: whose hand it was, in a row. -/
namespace Go.Proofs.Ytffnefmklckngaa.Sy
open Go Go.RowKit
set_option linter.unusedSimpArgs false
set_option linter.unusedVariables false
set_option maxRecDepth 4000
abbrev n_i_rowCells : Nat := 54
def F_i_rowCells : Fn1 := ⟨34, [.t 4], (.seq (.reg [o 2 (.box (.t 0)), o 4 (.mov (.k .nilS))]) (.seq (.reg [o 9 (.lit 8 0 [] []), o 5 (.mov (.t 9))]) (.seq (.seq (.reg [o 10 (.ld true 4 (.t 2)), o 11 (.mov (.t 1)), o 12 (.call 81 [(.t 10), (.t 11)]), o 13 (.len false (.t 12)), o 14 (.mov (.k (.int .i64 0)))]) (.blk 0 (.lop (.seq (.reg [o 15 (.bin .lss (.t 14) (.t 13))]) (.seq (.cnd (.t 15) .skip (.ext 0)) (.seq (.blk 1 (.seq (.reg [o 16 (.iad 2 (.t 12) (.t 14)), o 17 (.ld true 2 (.t 16)), o 7 (.new [(.int .i64 0), (.int .i64 0)]), on (.st 2 (.t 7) (.t 17))]) (.seq (.drw [o 18 (.fad 3 (.t 2)), o 19 (.ld false 1 (.t 18)), o 20 (.ld true 4 (.t 2)), o 21 (.ld true 2 (.t 7)), o 22 (.call 75 [(.t 20), (.t 21)]), o 23 (.iad 8 (.t 19) (.t 22)), o 24 (.ld true 8 (.t 23)), o 8 (.new [(.str ⟨#[]⟩), (.int .i64 0), (.int .i64 0), (.int .i64 0), (.int .i64 0), (.int .i64 0), (.int .i64 0), (.bool false)])] [on (.st 8 (.t 8) (.t 24))]) (.seq (.reg [o 25 (.fad 7 (.t 8)), o 26 (.ld false 1 (.t 25)), o 27 (.un .not (.t 26))]) (.cnd (.t 27) (.reg [o 28 (.mov (.t 5)), o 29 (.ld true 8 (.t 8)), o 30 (.lit 8 1 [(.str ⟨#[]⟩), (.int .i64 0), (.int .i64 0), (.int .i64 0), (.int .i64 0), (.int .i64 0), (.int .i64 0), (.bool false)] [(0, 8, (.t 29))]), o 31 (.app 8 72 [(.str ⟨#[]⟩), (.int .i64 0), (.int .i64 0), (.int .i64 0), (.int .i64 0), (.int .i64 0), (.int .i64 0), (.bool false)] (.t 28) (.t 30)), o 5 (.mov (.t 31))]) .skip))))) (.reg [o 32 (.bin .add (.t 14) (.k (.int .i64 1))), o 14 (.mov (.t 32))]))))))) (.seq (.reg [o 33 (.mov (.t 5)), o 4 (.mov (.t 33))]) .ret))))⟩
theorem ir_i_rowCells : compFn Try.prog n_i_rowCells = some F_i_rowCells := by kernel_rfl
abbrev n_s_RowWhose : Nat := 25
def F_s_RowWhose : Fn1 := ⟨45, [.t 4], (.seq (.reg [o 2 (.box (.t 0)), o 4 (.mov (.k .nilS))]) (.seq (.reg [o 9 (.lit 1 0 [] []), o 5 (.mov (.t 9))]) (.seq (.reg [o 10 (.ld true 4 (.t 2)), o 11 (.mov (.t 1)), o 12 (.call 52 [(.t 10), (.t 11)]), o 6 (.mov (.t 12))]) (.seq (.seq (.reg [o 7 (.mov (.k (.int .i64 0)))]) (.blk 0 (.lop (.seq (.seq (.reg [o 13 (.mov (.t 7)), o 14 (.mov (.t 6)), o 15 (.len false (.t 14)), o 16 (.bin .lss (.t 13) (.t 15))]) (.cnd (.t 16) .skip (.ext 0))) (.seq (.blk 1 (.seq (.drw [o 19 (.ld true 4 (.t 2)), o 20 (.mov (.t 6)), o 21 (.mov (.t 7)), o 22 (.iad 2 (.t 20) (.t 21)), o 23 (.ld true 2 (.t 22))] [o 24 (.call 53 [(.t 19), (.t 23)]), o 8 (.mov (.t 24))]) (.seq (.reg [o 25 (.mov (.t 8)), o 26 (.bin .geq (.t 25) (.k (.int .i64 0))), o 27 (.mov (.t 26)), og 28 27 true (.fad 3 (.t 2)), og 29 27 true (.ld false 1 (.t 28)), og 30 27 true (.mov (.t 8)), og 31 27 true (.iad 8 (.t 29) (.t 30)), og 32 27 true (.fad 7 (.t 31)), og 33 27 true (.ld false 1 (.t 32)), og 34 27 true (.un .not (.t 33)), o 35 (.pick (.t 27) (.t 34) (.k (.bool false)))]) (.cnd (.t 35) (.reg [o 36 (.mov (.t 5)), o 37 (.mov (.t 6)), o 38 (.mov (.t 7)), o 39 (.iad 2 (.t 37) (.t 38)), o 40 (.fad 0 (.t 39)), o 41 (.ld false 1 (.t 40)), o 42 (.lit 1 1 [(.int .i64 0)] [(0, 1, (.t 41))]), o 43 (.app 1 8 [(.int .i64 0)] (.t 36) (.t 42)), o 5 (.mov (.t 43))]) .skip)))) (.reg [o 17 (.mov (.t 7)), o 18 (.bin .add (.t 17) (.k (.int .i64 1))), o 7 (.mov (.t 18))])))))) (.seq (.reg [o 44 (.mov (.t 5)), o 4 (.mov (.t 44))]) .ret)))))⟩
theorem ir_s_RowWhose : compFn Try.prog n_s_RowWhose = some F_s_RowWhose := by kernel_rfl
abbrev n_i_RowWhose : Nat := 26
def F_i_RowWhose : Fn1 := ⟨25, [.t 4], (.seq (.reg [o 2 (.box (.t 0)), o 4 (.mov (.k .nilS))]) (.seq (.reg [o 8 (.lit 1 0 [] []), o 5 (.mov (.t 8))]) (.seq (.seq (.reg [o 9 (.ld true 4 (.t 2)), o 10 (.mov (.t 1)), o 11 (.call 54 [(.t 9), (.t 10)]), o 12 (.len false (.t 11)), o 13 (.mov (.k (.int .i64 0)))]) (.blk 0 (.lop (.seq (.reg [o 14 (.bin .lss (.t 13) (.t 12))]) (.seq (.cnd (.t 14) .skip (.ext 0)) (.seq (.blk 1 (.seq (.reg [o 15 (.iad 8 (.t 11) (.t 13)), o 16 (.ld true 8 (.t 15)), o 7 (.new [(.str ⟨#[]⟩), (.int .i64 0), (.int .i64 0), (.int .i64 0), (.int .i64 0), (.int .i64 0), (.int .i64 0), (.bool false)]), on (.st 8 (.t 7) (.t 16))]) (.reg [o 17 (.mov (.t 5)), o 18 (.fad 1 (.t 7)), o 19 (.fad 0 (.t 18)), o 20 (.ld false 1 (.t 19)), o 21 (.lit 1 1 [(.int .i64 0)] [(0, 1, (.t 20))]), o 22 (.app 1 8 [(.int .i64 0)] (.t 17) (.t 21)), o 5 (.mov (.t 22))]))) (.reg [o 23 (.bin .add (.t 13) (.k (.int .i64 1))), o 13 (.mov (.t 23))]))))))) (.seq (.reg [o 24 (.mov (.t 5)), o 4 (.mov (.t 24))]) .ret))))⟩
theorem ir_i_RowWhose : compFn Try.prog n_i_RowWhose = some F_i_RowWhose := by kernel_rfl
def goneNot (c : Cell) : Bool := !c.gone
theorem rowT (s : State) (o : ByteArray) : ∃ T : List Cell, rowD s o = T.map (·.dot) ∧ rowL s o = T.filter goneNot ∧ T.length ≤ 1200120 ∧ ∀ c ∈ T, ∃ k, ∃ hk : k < s.cells.length, cellNo s.cells c.dot = k ∧ s.cells[k] = c := by
  cases h : stateOk s with
  | true =>
    refine ⟨rowC s o, by simp [rowD, h], by simp only [rowL, h, if_true]; rfl, rowC_len (celR_of h) o, fun c hc => ?_⟩
    obtain ⟨k, hk, h1, h2⟩ := rowD_cell h hc
    exact ⟨k, hk, by simp [cellNo, h1], h2⟩
  | false => exact ⟨[], by simp [rowD, h], by simp [rowL, h], by simp, fun c hc => by simp at hc⟩
theorem gone_snoc {l : List Cell} {i : Nat} (hi : i < l.length) : (l.take (i + 1)).filter goneNot = if goneNot l[i] then (l.take i).filter goneNot ++ [l[i]] else (l.take i).filter goneNot := by
  rw [filter_snoc' hi]
  split <;> simp
theorem i_rowCells_ret (σ : St) (cs : List GV) (s : State) (hR : kState.R σ s cs) (o : ByteArray) (hl : msState s ≤ 1099511627776) : ∃ r τ, Ret Try.prog n_i_rowCells [.agg cs, .str o] σ r τ ∧ Hp σ τ [ow pCell.kd r (rowL s o)] := by
  have hR0 := hR
  obtain ⟨a, b, c, v, rfl, _, _, _, hc⟩ := hR
  obtain ⟨l1, l2, l3, l4, _⟩ := msState_all hl
  refine ret_dr ir_i_rowCells (Nat.le_of_ble_eq_true rfl) ?_
  have H := ((Hp.refl σ).new 1 [a, b, c, v]).nil_Cell
  simp +contextual (maxSteps := 600000) (disch := omega) only [go_sem, Nat.reduceEqDiff, ↓reduceIte, Int.reduceEq, Int.reduceNeg, wrap_add, F_i_rowCells, ld_new, ld_new2, seg_full (cs := [a, b, c, v]) rfl]
  obtain ⟨r1, τ1, R1, K1⟩ := i_RowDots_ret _ _ s (kState.pre hR0 H.sub) o hl
  obtain ⟨T, hT1, hT2, hT3, hT4⟩ := rowT s o
  rw [hT1] at K1
  rw [hT2]
  refine by_hp R1 K1 ?_
  have H := H.add K1
  simp only [List.cons_append, List.nil_append] at H
  have hlen0 := (H.sl 0 rfl).len
  rw [List.length_map] at hlen0
  simp +contextual (maxSteps := 600000) (disch := omega) only [go_sem, Nat.reduceEqDiff, ↓reduceIte, Int.reduceEq, Int.reduceNeg, wrap_add, hlen0]
  generalize hn1 : σ.length = n1 at *
  refine vc_forJ T.length 14 (fun i env τ => env 2 = .ptr n1 0 ∧ env 12 = r1 ∧ env 13 = gi T.length ∧ ∃ u, env 5 = u ∧ Hp σ τ [ow pCell.kd u ((T.take i).filter goneNot), ow pDot.kd r1 (T.map fun x : Cell => x.dot), pt 1 n1 [a, b, c, v]]) rfl ⟨rfl, rfl, rfl, _, rfl, H.pick 1 rfl⟩ ?_ ?_
  · clear H
    rintro J hJ i env τ hi e14 c0 ⟨e2, e12, e13, u, e5, H⟩
    have hfl := filter_take_len T goneNot i
    have hsn := gone_snoc hi
    have C1 := Dot_at (H.sl 1 rfl) (i := i) (by simpa using hi)
    rw [List.getElem_map] at C1
    obtain ⟨k, hk, hk1, hk2⟩ := hT4 T[i] (List.getElem_mem hi)
    have G := H.grow (pre1 τ (some (Blk.row 1 [gi T[i].dot.rep, gi T[i].dot.seq])))
    have CA := i_CellAt_ret _ _ s (kState.pre hR0 G.sub) T[i].dot hl
    rw [hk1] at CA
    have C2 := Cell_at (hc.pre G.sub) hk
    rw [hk2] at C2
    simp +contextual (maxSteps := 600000) (disch := omega) only [go_sem, Nat.reduceEqDiff, ↓reduceIte, Int.reduceEq, Int.reduceNeg, wrap_add, c0, e2, e5, e12, e13, e14, C1, ld_ptr (G.pt 2 rfl), seg_full (cs := [a, b, c, v]) rfl]
    refine by_ret CA ?_
    cases hg : T[i].gone with
    | true =>
      have hk0 : goneNot T[i] = false := by simp [goneNot, hg]
      rw [hk0, if_neg (by simp)] at hsn
      have G2 := G.grow (pre1 _ (some (Blk.row 1 [.str T[i].obj, gi T[i].dot.rep, gi T[i].dot.seq, gi T[i].time, gi T[i].ref.rep, gi T[i].ref.seq, gi T[i].val, .bool true])))
      simp +contextual (maxSteps := 600000) (disch := omega) only [go_sem, Nat.reduceEqDiff, ↓reduceIte, Int.reduceEq, Int.reduceNeg, wrap_add, c0, e2, e5, e12, e13, e14, natOf_nat, C2, hg]
      refine hJ _ _ _ ⟨?_, ?_, ?_, u, ?_, by rw [hsn]; exact G2⟩
      all_goals simp +contextual (maxSteps := 600000) (disch := omega) only [go_sem, Nat.reduceEqDiff, ↓reduceIte, Int.reduceEq, Int.reduceNeg, wrap_add, e2, e5, e12, e13, e14]
    | false =>
      have hk0 : goneNot T[i] = true := by simp [goneNot, hg]
      rw [hk0, if_pos rfl] at hsn
      have G2 := G.grow (pre1 _ (some (Blk.row 1 [.str T[i].obj, gi T[i].dot.rep, gi T[i].dot.seq, gi T[i].time, gi T[i].ref.rep, gi T[i].ref.seq, gi T[i].val, .bool false])))
      obtain ⟨w', τ3, e8, H3⟩ := G2.app_Cell 0 rfl T[i] (by omega)
      simp only [hg] at e8
      simp +contextual (maxSteps := 600000) (disch := omega) only [go_sem, Nat.reduceEqDiff, ↓reduceIte, Int.reduceEq, Int.reduceNeg, wrap_add, c0, e2, e5, e12, e13, e14, natOf_nat, C2, hg, e8]
      refine hJ _ _ _ ⟨?_, ?_, ?_, w', ?_, by rw [hsn]; exact H3⟩
      all_goals simp +contextual (maxSteps := 600000) (disch := omega) only [go_sem, Nat.reduceEqDiff, ↓reduceIte, Int.reduceEq, Int.reduceNeg, wrap_add, e2, e5, e12, e13, e14]
  · clear H
    rintro env τ e14 c0 ⟨e2, e12, e13, u, e5, H⟩
    rw [List.take_length] at H
    simp +contextual (maxSteps := 600000) (disch := omega) only [go_sem, Nat.reduceEqDiff, ↓reduceIte, Int.reduceEq, Int.reduceNeg, wrap_add, c0, e2, e5, e12, e13, e14]
    exact ⟨_, rfl, H.one⟩
theorem i_RowWhose_r0 (σ : St) (cs : List GV) (s : State) (hR : kState.R σ s cs) (o : ByteArray) (hl : msState s ≤ 1099511627776) : ∃ r τ, Ret Try.prog n_i_RowWhose [.agg cs, .str o] σ r τ ∧ Hp σ τ [ow pI.kd r (rowWhose s o)] := by
  have hlen := kState.len hR
  have hlen : cs.length = 4 := hlen
  refine ret_dr ir_i_RowWhose (Nat.le_of_ble_eq_true rfl) ?_
  have H := ((Hp.refl σ).new 1 cs).nil_int
  simp +contextual (maxSteps := 600000) (disch := omega) only [go_sem, Nat.reduceEqDiff, ↓reduceIte, Int.reduceEq, Int.reduceNeg, wrap_add, F_i_RowWhose, ld_new, ld_new2, seg_full hlen]
  obtain ⟨r1, τ1, R1, K1⟩ := i_rowCells_ret _ cs s (kState.pre hR H.sub) o hl
  have hb := rowL_len s o
  rw [rowWhose]
  generalize rowL s o = T at *
  refine by_hp R1 K1 ?_
  have H := H.add K1
  simp only [List.cons_append, List.nil_append] at H
  have hlen0 := (H.sl 0 rfl).len
  simp +contextual (maxSteps := 600000) (disch := omega) only [go_sem, Nat.reduceEqDiff, ↓reduceIte, Int.reduceEq, Int.reduceNeg, wrap_add, hlen0]
  generalize hn1 : σ.length = n1 at *
  refine vc_forJ T.length 13 (fun i env τ => env 11 = r1 ∧ env 12 = gi T.length ∧ ∃ u, env 5 = u ∧ Hp σ τ [ow pI.kd u ((T.take i).map (·.dot.rep)), ow pCell.kd r1 T, pt 1 n1 cs]) rfl ⟨rfl, rfl, _, rfl, H.pick 1 rfl⟩ ?_ ?_
  · clear H
    rintro J hJ i env τ hi e13 c0 ⟨e11, e12, u, e5, H⟩
    have C1 := Cell_at (H.sl 1 rfl) hi
    have G := H.grow (pre1 τ (some (Blk.row 1 (cellV T[i]))))
    obtain ⟨w', τ3, e8, H3⟩ := G.app_int 0 rfl T[i].dot.rep (by simp; omega)
    simp +contextual (maxSteps := 600000) (disch := omega) only [go_sem, Nat.reduceEqDiff, ↓reduceIte, Int.reduceEq, Int.reduceNeg, wrap_add, c0, e5, e11, e12, e13, C1, e8]
    refine hJ _ _ _ ⟨?_, ?_, w', ?_, ?_⟩
    all_goals first | (simp +contextual (maxSteps := 600000) (disch := omega) only [go_sem, Nat.reduceEqDiff, ↓reduceIte, Int.reduceEq, Int.reduceNeg, wrap_add, e5, e11, e12, e13]; done) | skip
    rw [List.take_succ_eq_append_getElem hi, List.map_append, List.map_cons, List.map_nil]
    exact H3
  · clear H
    rintro env τ e13 c0 ⟨e11, e12, u, e5, H⟩
    rw [List.take_length] at H
    simp +contextual (maxSteps := 600000) (disch := omega) only [go_sem, Nat.reduceEqDiff, ↓reduceIte, Int.reduceEq, Int.reduceNeg, wrap_add, c0, e5, e11, e12, e13]
    exact ⟨_, rfl, H.one⟩
theorem s_RowWhose_r0 (σ : St) (cs : List GV) (s : State) (hR : kState.R σ s cs) (o : ByteArray) (hl : msState s ≤ 1099511627776) : ∃ r τ, Ret Try.prog n_s_RowWhose [.agg cs, .str o] σ r τ ∧ Hp σ τ [ow pI.kd r (rowWhose s o)] := by
  have hR0 := hR
  obtain ⟨a, b, c, v, rfl, _, _, _, hc⟩ := hR
  obtain ⟨l1, l2, l3, l4, _⟩ := msState_all hl
  refine ret_dr ir_s_RowWhose (Nat.le_of_ble_eq_true rfl) ?_
  have H := ((Hp.refl σ).new 1 [a, b, c, v]).nil_int
  simp +contextual (maxSteps := 600000) (disch := omega) only [go_sem, Nat.reduceEqDiff, ↓reduceIte, Int.reduceEq, Int.reduceNeg, wrap_add, F_s_RowWhose, ld_new, ld_new2, seg_full (cs := [a, b, c, v]) rfl]
  obtain ⟨r1, τ1, R1, K1⟩ := s_RowDots_ret _ _ s (kState.pre hR0 H.sub) o hl
  obtain ⟨T, hT1, hT2, hT3, hT4⟩ := rowT s o
  rw [hT1] at K1
  rw [rowWhose, hT2]
  refine by_hp R1 K1 ?_
  have H := H.add K1
  simp only [List.cons_append, List.nil_append] at H
  simp +contextual (maxSteps := 600000) (disch := omega) only [go_sem, Nat.reduceEqDiff, ↓reduceIte, Int.reduceEq, Int.reduceNeg, wrap_add, List.append_nil]
  generalize hn1 : σ.length = n1 at *
  refine vc_forJ T.length 7 (fun i env τ => env 2 = .ptr n1 0 ∧ env 6 = r1 ∧ ∃ u, env 5 = u ∧ Hp σ τ [ow pI.kd u (((T.take i).filter goneNot).map (·.dot.rep)), ow pDot.kd r1 (T.map fun x : Cell => x.dot), pt 1 n1 [a, b, c, v]]) rfl ⟨rfl, rfl, _, rfl, H.pick 1 rfl⟩ ?_ ?_
  · clear H
    rintro J hJ i env τ hi e7 c0 ⟨e2, e6, u, e5, H⟩
    have hfl := filter_take_len T goneNot i
    have hsn := gone_snoc hi
    have C1 := Dot_at (H.sl 1 rfl) (i := i) (by simpa using hi)
    rw [List.getElem_map] at C1
    have hlen0 := (H.sl 1 rfl).len
    rw [List.length_map] at hlen0
    obtain ⟨k, hk, hk1, hk2⟩ := hT4 T[i] (List.getElem_mem hi)
    have CA := s_CellAt_ret _ _ s (kState.pre hR0 H.sub) T[i].dot hl
    rw [hk1] at CA
    have C2 := Cell_at (hc.pre H.sub) hk
    rw [hk2] at C2
    have c9 : decide ((0 : Int) ≤ (k : Int)) = true := by simp
    simp +contextual (maxSteps := 600000) (disch := omega) only [go_sem, Nat.reduceEqDiff, ↓reduceIte, Int.reduceEq, Int.reduceNeg, wrap_add, c0, e2, e5, e6, e7, hlen0, C1, ld_ptr (H.pt 2 rfl), seg_full (cs := [a, b, c, v]) rfl]
    refine by_ret CA ?_
    cases hg : T[i].gone with
    | true =>
      have hk0 : goneNot T[i] = false := by simp [goneNot, hg]
      rw [hk0, if_neg (by simp)] at hsn
      simp +contextual (maxSteps := 600000) (disch := omega) only [go_sem, Nat.reduceEqDiff, ↓reduceIte, Int.reduceEq, Int.reduceNeg, wrap_add, c0, e2, e5, e6, e7, c9, natOf_nat, C2, hg, ld_ptr (H.pt 2 rfl)]
      refine hJ _ _ _ ⟨?_, ?_, u, ?_, by rw [hsn]; exact H⟩
      all_goals simp +contextual (maxSteps := 600000) (disch := omega) only [go_sem, Nat.reduceEqDiff, ↓reduceIte, Int.reduceEq, Int.reduceNeg, wrap_add, e2, e5, e6, e7]
    | false =>
      have hk0 : goneNot T[i] = true := by simp [goneNot, hg]
      rw [hk0, if_pos rfl] at hsn
      obtain ⟨w', τ3, e8, H3⟩ := H.app_int 0 rfl T[i].dot.rep (by simp; omega)
      simp +contextual (maxSteps := 600000) (disch := omega) only [go_sem, Nat.reduceEqDiff, ↓reduceIte, Int.reduceEq, Int.reduceNeg, wrap_add, c0, e2, e5, e6, e7, c9, natOf_nat, C1, C2, hg, ld_ptr (H.pt 2 rfl), e8]
      refine hJ _ _ _ ⟨?_, ?_, w', ?_, ?_⟩
      all_goals first | (simp +contextual (maxSteps := 600000) (disch := omega) only [go_sem, Nat.reduceEqDiff, ↓reduceIte, Int.reduceEq, Int.reduceNeg, wrap_add, e2, e5, e6, e7]; done) | skip
      rw [hsn, List.map_append, List.map_cons, List.map_nil]
      exact H3
  · clear H
    rintro env τ e7 c0 ⟨e2, e6, u, e5, H⟩
    rw [List.take_length] at H
    have hlen0 := (H.sl 1 rfl).len
    rw [List.length_map] at hlen0
    simp +contextual (maxSteps := 600000) (disch := omega) only [go_sem, Nat.reduceEqDiff, ↓reduceIte, Int.reduceEq, Int.reduceNeg, wrap_add, c0, e2, e5, e6, e7, hlen0]
    exact ⟨_, rfl, H.one⟩
theorem rowWhose_le (s : State) (o : ByteArray) : (rowWhose s o).length ≤ 1200120 := by
  rw [rowWhose, List.length_map]; exact rowL_len s o
theorem s_RowWhose_ret (σ : St) (cs : List GV) (s : State) (hR : kState.R σ s cs) (o : ByteArray) (hl : msState s ≤ 1099511627776) (ho : o.size ≤ 1099511627776) : ∃ r τ, Ret Try.prog n_s_RowWhose [.agg cs, .str o] σ r τ ∧ σ <+: τ ∧ RS pI.kd τ r (rowWhose s o) := by
  obtain ⟨r, τ, R, H⟩ := s_RowWhose_r0 σ cs s hR o hl
  exact ⟨r, τ, R, H.sub, H.sl 0 rfl⟩
theorem i_RowWhose_ret (σ : St) (cs : List GV) (s : State) (hR : kState.R σ s cs) (o : ByteArray) (hl : msState s ≤ 1099511627776) (ho : o.size ≤ 1099511627776) : ∃ r τ, Ret Try.prog n_i_RowWhose [.agg cs, .str o] σ r τ ∧ Hp σ τ [ow pI.kd r (rowWhose s o)] := i_RowWhose_r0 σ cs s hR o hl
end Go.Proofs.Ytffnefmklckngaa.Sy

/- Contracts of the laws' own functions: HeqIntS. -/
namespace Go.Proofs.Ytffnefmklckngaa.Sy
open Go Go.RowKit
set_option linter.unusedSimpArgs false
set_option linter.unusedVariables false
abbrev n_l_eqIntS : Nat := 17
def F_l_eqIntS : Fn1 := ⟨26, [.t 4], (.seq (.reg [o 4 (.mov (.k (.bool false)))]) (.seq (.seq (.reg [o 6 (.mov (.t 0)), o 7 (.len false (.t 6)), o 8 (.mov (.t 1)), o 9 (.len false (.t 8)), o 10 (.bin .neq (.t 7) (.t 9))]) (.cnd (.t 10) (.seq (.reg [o 4 (.mov (.k (.bool false)))]) .ret) .skip)) (.seq (.seq (.reg [o 5 (.mov (.k (.int .i64 0)))]) (.blk 0 (.lop (.seq (.seq (.reg [o 11 (.mov (.t 5)), o 12 (.mov (.t 0)), o 13 (.len false (.t 12)), o 14 (.bin .lss (.t 11) (.t 13))]) (.cnd (.t 14) .skip (.ext 0))) (.seq (.blk 1 (.seq (.drw [o 17 (.mov (.t 0)), o 18 (.mov (.t 5)), o 19 (.iad 1 (.t 17) (.t 18)), o 20 (.ld false 1 (.t 19)), o 21 (.mov (.t 1)), o 22 (.mov (.t 5)), o 23 (.iad 1 (.t 21) (.t 22)), o 24 (.ld false 1 (.t 23))] [o 25 (.bin .neq (.t 20) (.t 24))]) (.cnd (.t 25) (.seq (.reg [o 4 (.mov (.k (.bool false)))]) .ret) .skip))) (.reg [o 15 (.mov (.t 5)), o 16 (.bin .add (.t 15) (.k (.int .i64 1))), o 5 (.mov (.t 16))])))))) (.seq (.reg [o 4 (.mov (.k (.bool true)))]) .ret))))⟩
theorem ir_l_eqIntS : compFn Try.prog n_l_eqIntS = some F_l_eqIntS := by kernel_rfl
theorem l_eqIntS_ret (σ : St) (v u : GV) (l m : List Int) (hv : RS pI.kd σ v l) (hu : RS pI.kd σ u m) (hl : l.length ≤ 1099511627776) : Ret Try.prog n_l_eqIntS [v, u] σ (.bool (decide (l = m))) σ := by
  refine ret_eq ir_l_eqIntS (Nat.le_of_ble_eq_true rfl) trivial ?_
  simp +contextual (maxSteps := 600000) (disch := omega) only [go_sem, Nat.reduceEqDiff, ↓reduceIte, Int.reduceEq, Int.reduceNeg, wrap_add, F_l_eqIntS, hv.len, hu.len]
  refine ⟨fun hn => ?_, fun hn => ?_⟩
  · have : l ≠ m := fun h => by subst h; simp at hn
    simp [this]
  have hlm : l.length = m.length := by have h2 : (l.length : Int) = m.length := by simpa using hn
                                       omega
  refine vc_for l.length 5 (fun i env τ => env 0 = v ∧ env 1 = u ∧ l.take i = m.take i ∧ σ <+: τ) rfl ⟨rfl, rfl, rfl, List.prefix_refl _⟩ ?_ ?_
  · rintro i env τ hi e5 c0 ⟨e0, e1, he, hp⟩
    have hj : i < m.length := by omega
    have h1 := hv.pre hp
    have h2 := hu.pre hp
    have hne : l[i] ≠ m[i] → l ≠ m := fun h h' => h (by subst h'; rfl)
    have hst : l[i] = m[i] → l.take (i + 1) = m.take (i + 1) := fun h => by rw [take_snoc hi, take_snoc hj, he, h]
    simp +contextual (maxSteps := 600000) (disch := omega) only [go_sem, Nat.reduceEqDiff, ↓reduceIte, Int.reduceEq, Int.reduceNeg, wrap_add, c0, e0, e1, e5, hv.len, hu.len, int_at h1 hi, int_at h2 hj, hp]
    refine ⟨fun h => ?_, fun h => ?_⟩
    · simp [hne (by simpa using h)]
    · simpa using hst (by simpa using h)
  · rintro env τ e5 c0 ⟨e0, e1, he, hp⟩
    rw [List.take_length, hlm, List.take_length] at he
    simp +contextual (maxSteps := 600000) (disch := omega) only [go_sem, Nat.reduceEqDiff, ↓reduceIte, Int.reduceEq, Int.reduceNeg, wrap_add, c0, e0, e1, e5, hv.len, hu.len, hp]
    simp [he]
end Go.Proofs.Ytffnefmklckngaa.Sy

/- Contracts of the laws' own functions: HeqDot. -/
namespace Go.Proofs.Ytffnefmklckngaa.Sy
open Go Go.RowKit
set_option linter.unusedSimpArgs false
set_option linter.unusedVariables false
abbrev n_l_eqDot : Nat := 90
def F_l_eqDot : Fn1 := ⟨15, [.t 4], (.seq (.reg [o 2 (.box (.t 0)), o 3 (.box (.t 1)), o 4 (.mov (.k (.bool false)))]) (.seq (.seq (.reg [o 5 (.fad 0 (.t 2)), o 6 (.ld false 1 (.t 5)), o 7 (.fad 0 (.t 3)), o 8 (.ld false 1 (.t 7)), o 9 (.bin .neq (.t 6) (.t 8))]) (.cnd (.t 9) (.seq (.reg [o 4 (.mov (.k (.bool false)))]) .ret) .skip)) (.seq (.seq (.reg [o 10 (.fad 1 (.t 2)), o 11 (.ld false 1 (.t 10)), o 12 (.fad 1 (.t 3)), o 13 (.ld false 1 (.t 12)), o 14 (.bin .neq (.t 11) (.t 13))]) (.cnd (.t 14) (.seq (.reg [o 4 (.mov (.k (.bool false)))]) .ret) .skip)) (.seq (.reg [o 4 (.mov (.k (.bool true)))]) .ret))))⟩
theorem ir_l_eqDot : compFn Try.prog n_l_eqDot = some F_l_eqDot := by kernel_rfl
theorem l_eqDot_ret (σ : St) (x y : Dot) : Ret Try.prog n_l_eqDot [.agg [.int .i64 x.rep, .int .i64 x.seq], .agg [.int .i64 y.rep, .int .i64 y.seq]] σ (.bool (decide (x = y))) σ := by
  refine ret_eq ir_l_eqDot (Nat.le_of_ble_eq_true rfl) trivial ?_
  simp +contextual (maxSteps := 600000) (disch := omega) only [go_sem, Nat.reduceEqDiff, ↓reduceIte, Int.reduceEq, Int.reduceNeg, wrap_add, F_l_eqDot, List.append_nil]
  refine ⟨fun hn => ?_, fun hn => ?_⟩
  · simp only [Dot.eq_iff]; simp at hn ⊢; simp [hn]
  have q0 : x.rep = y.rep := by simpa using hn
  refine ⟨fun hn => ?_, fun hn => ?_⟩
  · simp only [Dot.eq_iff]; simp at hn ⊢; simp [hn]
  have q1 : x.seq = y.seq := by simpa using hn
  simp only [Dot.eq_iff, q0, q1, and_self, decide_true]
end Go.Proofs.Ytffnefmklckngaa.Sy

/- Contracts of the laws' own functions: HeqCell. -/
namespace Go.Proofs.Ytffnefmklckngaa.Sy
open Go Go.RowKit
set_option linter.unusedSimpArgs false
set_option linter.unusedVariables false
abbrev n_l_eqCell : Nat := 73
def F_l_eqCell : Fn1 := ⟨37, [.t 4], (.seq (.reg [o 2 (.box (.t 0)), o 3 (.box (.t 1)), o 4 (.mov (.k (.bool false)))]) (.seq (.seq (.reg [o 5 (.fad 0 (.t 2)), o 6 (.ld false 1 (.t 5)), o 7 (.fad 0 (.t 3)), o 8 (.ld false 1 (.t 7)), o 9 (.bin .neq (.t 6) (.t 8))]) (.cnd (.t 9) (.seq (.reg [o 4 (.mov (.k (.bool false)))]) .ret) .skip)) (.seq (.seq (.reg [o 10 (.fad 1 (.t 2)), o 11 (.ld true 2 (.t 10)), o 12 (.fad 1 (.t 3)), o 13 (.ld true 2 (.t 12)), o 14 (.call 90 [(.t 11), (.t 13)]), o 15 (.un .not (.t 14))]) (.cnd (.t 15) (.seq (.reg [o 4 (.mov (.k (.bool false)))]) .ret) .skip)) (.seq (.seq (.reg [o 16 (.fad 3 (.t 2)), o 17 (.ld false 1 (.t 16)), o 18 (.fad 3 (.t 3)), o 19 (.ld false 1 (.t 18)), o 20 (.bin .neq (.t 17) (.t 19))]) (.cnd (.t 20) (.seq (.reg [o 4 (.mov (.k (.bool false)))]) .ret) .skip)) (.seq (.seq (.reg [o 21 (.fad 4 (.t 2)), o 22 (.ld true 2 (.t 21)), o 23 (.fad 4 (.t 3)), o 24 (.ld true 2 (.t 23)), o 25 (.call 90 [(.t 22), (.t 24)]), o 26 (.un .not (.t 25))]) (.cnd (.t 26) (.seq (.reg [o 4 (.mov (.k (.bool false)))]) .ret) .skip)) (.seq (.seq (.reg [o 27 (.fad 6 (.t 2)), o 28 (.ld false 1 (.t 27)), o 29 (.fad 6 (.t 3)), o 30 (.ld false 1 (.t 29)), o 31 (.bin .neq (.t 28) (.t 30))]) (.cnd (.t 31) (.seq (.reg [o 4 (.mov (.k (.bool false)))]) .ret) .skip)) (.seq (.seq (.reg [o 32 (.fad 7 (.t 2)), o 33 (.ld false 1 (.t 32)), o 34 (.fad 7 (.t 3)), o 35 (.ld false 1 (.t 34)), o 36 (.eqb true (.t 33) (.t 35))]) (.cnd (.t 36) (.seq (.reg [o 4 (.mov (.k (.bool false)))]) .ret) .skip)) (.seq (.reg [o 4 (.mov (.k (.bool true)))]) .ret))))))))⟩
theorem ir_l_eqCell : compFn Try.prog n_l_eqCell = some F_l_eqCell := by kernel_rfl
theorem l_eqCell_ret (σ : St) (x y : Cell) : Ret Try.prog n_l_eqCell [.agg [.str x.obj, .int .i64 x.dot.rep, .int .i64 x.dot.seq, .int .i64 x.time, .int .i64 x.ref.rep, .int .i64 x.ref.seq, .int .i64 x.val, .bool x.gone], .agg [.str y.obj, .int .i64 y.dot.rep, .int .i64 y.dot.seq, .int .i64 y.time, .int .i64 y.ref.rep, .int .i64 y.ref.seq, .int .i64 y.val, .bool y.gone]] σ (.bool (decide (x = y))) σ := by
  refine ret_eq ir_l_eqCell (Nat.le_of_ble_eq_true rfl) trivial ?_
  simp +contextual (maxSteps := 600000) (disch := omega) only [go_sem, Nat.reduceEqDiff, ↓reduceIte, Int.reduceEq, Int.reduceNeg, wrap_add, F_l_eqCell, List.append_nil]
  refine ⟨fun hn => ?_, fun hn => ?_⟩
  · simp only [Cell.eq_iff]; simp at hn ⊢; simp [hn]
  have q0 : x.obj = y.obj := by simpa using hn
  refine by_ret (l_eqDot_ret _ x.dot y.dot) ?_
  simp +contextual (maxSteps := 600000) (disch := omega) only [go_sem, Nat.reduceEqDiff, ↓reduceIte, Int.reduceEq, Int.reduceNeg, wrap_add, List.append_nil]
  refine ⟨fun hn => ?_, fun hn => ?_⟩
  · simp only [Cell.eq_iff]; simp at hn ⊢; simp [hn]
  have q1 : x.dot = y.dot := by simpa using hn
  refine ⟨fun hn => ?_, fun hn => ?_⟩
  · simp only [Cell.eq_iff]; simp at hn ⊢; simp [hn]
  have q2 : x.time = y.time := by simpa using hn
  refine by_ret (l_eqDot_ret _ x.ref y.ref) ?_
  simp +contextual (maxSteps := 600000) (disch := omega) only [go_sem, Nat.reduceEqDiff, ↓reduceIte, Int.reduceEq, Int.reduceNeg, wrap_add, List.append_nil]
  refine ⟨fun hn => ?_, fun hn => ?_⟩
  · simp only [Cell.eq_iff]; simp at hn ⊢; simp [hn]
  have q3 : x.ref = y.ref := by simpa using hn
  refine ⟨fun hn => ?_, fun hn => ?_⟩
  · simp only [Cell.eq_iff]; simp at hn ⊢; simp [hn]
  have q4 : x.val = y.val := by simpa using hn
  refine ⟨fun hn => ?_, fun hn => ?_⟩
  · simp only [Cell.eq_iff]; simp at hn ⊢; simp [hn]
  have q5 : x.gone = y.gone := by simpa using hn
  simp only [Cell.eq_iff, q0, q1, q2, q3, q4, q5, and_self, decide_true]
end Go.Proofs.Ytffnefmklckngaa.Sy

/- Contracts of the laws' own functions: HeqCellS. -/
namespace Go.Proofs.Ytffnefmklckngaa.Sy
open Go Go.RowKit
set_option linter.unusedSimpArgs false
set_option linter.unusedVariables false
abbrev n_l_eqCellS : Nat := 41
def F_l_eqCellS : Fn1 := ⟨27, [.t 4], (.seq (.reg [o 4 (.mov (.k (.bool false)))]) (.seq (.seq (.reg [o 6 (.mov (.t 0)), o 7 (.len false (.t 6)), o 8 (.mov (.t 1)), o 9 (.len false (.t 8)), o 10 (.bin .neq (.t 7) (.t 9))]) (.cnd (.t 10) (.seq (.reg [o 4 (.mov (.k (.bool false)))]) .ret) .skip)) (.seq (.seq (.reg [o 5 (.mov (.k (.int .i64 0)))]) (.blk 0 (.lop (.seq (.seq (.reg [o 11 (.mov (.t 5)), o 12 (.mov (.t 0)), o 13 (.len false (.t 12)), o 14 (.bin .lss (.t 11) (.t 13))]) (.cnd (.t 14) .skip (.ext 0))) (.seq (.blk 1 (.seq (.drw [o 17 (.mov (.t 0)), o 18 (.mov (.t 5)), o 19 (.iad 8 (.t 17) (.t 18)), o 20 (.ld true 8 (.t 19)), o 21 (.mov (.t 1)), o 22 (.mov (.t 5)), o 23 (.iad 8 (.t 21) (.t 22)), o 24 (.ld true 8 (.t 23))] [o 25 (.call 73 [(.t 20), (.t 24)]), o 26 (.un .not (.t 25))]) (.cnd (.t 26) (.seq (.reg [o 4 (.mov (.k (.bool false)))]) .ret) .skip))) (.reg [o 15 (.mov (.t 5)), o 16 (.bin .add (.t 15) (.k (.int .i64 1))), o 5 (.mov (.t 16))])))))) (.seq (.reg [o 4 (.mov (.k (.bool true)))]) .ret))))⟩
theorem ir_l_eqCellS : compFn Try.prog n_l_eqCellS = some F_l_eqCellS := by kernel_rfl
theorem l_eqCellS_ret (σ : St) (v u : GV) (l m : List Cell) (hv : RS pCell.kd σ v l) (hu : RS pCell.kd σ u m) (hl : (l.length + sumL msCell l) ≤ 1099511627776) : Ret Try.prog n_l_eqCellS [v, u] σ (.bool (decide (l = m))) σ := by
  refine ret_eq ir_l_eqCellS (Nat.le_of_ble_eq_true rfl) trivial ?_
  simp +contextual (maxSteps := 600000) (disch := omega) only [go_sem, Nat.reduceEqDiff, ↓reduceIte, Int.reduceEq, Int.reduceNeg, wrap_add, F_l_eqCellS, hv.len, hu.len]
  refine ⟨fun hn => ?_, fun hn => ?_⟩
  · have : l ≠ m := fun h => by subst h; simp at hn
    simp [this]
  have hlm : l.length = m.length := by have h2 : (l.length : Int) = m.length := by simpa using hn
                                       omega
  refine vc_for l.length 5 (fun i env τ => env 0 = v ∧ env 1 = u ∧ l.take i = m.take i ∧ σ <+: τ) rfl ⟨rfl, rfl, rfl, List.prefix_refl _⟩ ?_ ?_
  · rintro i env τ hi e5 c0 ⟨e0, e1, he, hp⟩
    have hj : i < m.length := by omega
    have h1 := hv.pre hp
    have h2 := hu.pre hp
    have hne : l[i] ≠ m[i] → l ≠ m := fun h h' => h (by subst h'; rfl)
    have hst : l[i] = m[i] → l.take (i + 1) = m.take (i + 1) := fun h => by rw [take_snoc hi, take_snoc hj, he, h]
    have hms : msCell l[i] ≤ sumL msCell l := sumL_mem (List.getElem_mem hi)
    simp +contextual (maxSteps := 600000) (disch := omega) only [go_sem, Nat.reduceEqDiff, ↓reduceIte, Int.reduceEq, Int.reduceNeg, wrap_add, c0, e0, e1, e5, hv.len, hu.len, Cell_at h1 hi, Cell_at h2 hj]
    refine by_ret (l_eqCell_ret τ l[i] m[i]) ?_
    simp +contextual (maxSteps := 600000) (disch := omega) only [go_sem, Nat.reduceEqDiff, ↓reduceIte, Int.reduceEq, Int.reduceNeg, wrap_add, e0, e1, e5, hp]
    refine ⟨fun h => ?_, fun h => ?_⟩
    · simp [hne (by simpa using h)]
    · simpa using hst (by simpa using h)
  · rintro env τ e5 c0 ⟨e0, e1, he, hp⟩
    rw [List.take_length, hlm, List.take_length] at he
    simp +contextual (maxSteps := 600000) (disch := omega) only [go_sem, Nat.reduceEqDiff, ↓reduceIte, Int.reduceEq, Int.reduceNeg, wrap_add, c0, e0, e1, e5, hv.len, hu.len, hp]
    simp [he]
end Go.Proofs.Ytffnefmklckngaa.Sy

/- Contracts of the laws' own functions: HeqLive. -/
namespace Go.Proofs.Ytffnefmklckngaa.Sy
open Go Go.RowKit
set_option linter.unusedSimpArgs false
set_option linter.unusedVariables false
abbrev n_l_eqLive : Nat := 72
def F_l_eqLive : Fn1 := ⟨31, [.t 4], (.seq (.reg [o 2 (.box (.t 0)), o 3 (.box (.t 1)), o 4 (.mov (.k (.bool false)))]) (.seq (.seq (.reg [o 5 (.fad 0 (.t 2)), o 6 (.ld false 1 (.t 5)), o 7 (.fad 0 (.t 3)), o 8 (.ld false 1 (.t 7)), o 9 (.eqb true (.t 6) (.t 8))]) (.cnd (.t 9) (.seq (.reg [o 4 (.mov (.k (.bool false)))]) .ret) .skip)) (.seq (.seq (.reg [o 10 (.fad 1 (.t 2)), o 11 (.ld false 1 (.t 10)), o 12 (.fad 1 (.t 3)), o 13 (.ld false 1 (.t 12)), o 14 (.bin .neq (.t 11) (.t 13))]) (.cnd (.t 14) (.seq (.reg [o 4 (.mov (.k (.bool false)))]) .ret) .skip)) (.seq (.seq (.reg [o 15 (.fad 2 (.t 2)), o 16 (.ld false 1 (.t 15)), o 17 (.fad 2 (.t 3)), o 18 (.ld false 1 (.t 17)), o 19 (.bin .neq (.t 16) (.t 18))]) (.cnd (.t 19) (.seq (.reg [o 4 (.mov (.k (.bool false)))]) .ret) .skip)) (.seq (.seq (.reg [o 20 (.fad 3 (.t 2)), o 21 (.ld false 1 (.t 20)), o 22 (.fad 3 (.t 3)), o 23 (.ld false 1 (.t 22)), o 24 (.bin .neq (.t 21) (.t 23))]) (.cnd (.t 24) (.seq (.reg [o 4 (.mov (.k (.bool false)))]) .ret) .skip)) (.seq (.seq (.reg [o 25 (.fad 4 (.t 2)), o 26 (.ld true 2 (.t 25)), o 27 (.fad 4 (.t 3)), o 28 (.ld true 2 (.t 27)), o 29 (.call 90 [(.t 26), (.t 28)]), o 30 (.un .not (.t 29))]) (.cnd (.t 30) (.seq (.reg [o 4 (.mov (.k (.bool false)))]) .ret) .skip)) (.seq (.reg [o 4 (.mov (.k (.bool true)))]) .ret)))))))⟩
theorem ir_l_eqLive : compFn Try.prog n_l_eqLive = some F_l_eqLive := by kernel_rfl
theorem l_eqLive_ret (σ : St) (x y : Live) : Ret Try.prog n_l_eqLive [.agg [.bool x.map, .str x.obj, .str x.key, .int .i64 x.val, .int .i64 x.dot.rep, .int .i64 x.dot.seq], .agg [.bool y.map, .str y.obj, .str y.key, .int .i64 y.val, .int .i64 y.dot.rep, .int .i64 y.dot.seq]] σ (.bool (decide (x = y))) σ := by
  refine ret_eq ir_l_eqLive (Nat.le_of_ble_eq_true rfl) trivial ?_
  simp +contextual (maxSteps := 600000) (disch := omega) only [go_sem, Nat.reduceEqDiff, ↓reduceIte, Int.reduceEq, Int.reduceNeg, wrap_add, F_l_eqLive, List.append_nil]
  refine ⟨fun hn => ?_, fun hn => ?_⟩
  · simp only [Live.eq_iff]; simp at hn ⊢; simp [hn]
  have q0 : x.map = y.map := by simpa using hn
  refine ⟨fun hn => ?_, fun hn => ?_⟩
  · simp only [Live.eq_iff]; simp at hn ⊢; simp [hn]
  have q1 : x.obj = y.obj := by simpa using hn
  refine ⟨fun hn => ?_, fun hn => ?_⟩
  · simp only [Live.eq_iff]; simp at hn ⊢; simp [hn]
  have q2 : x.key = y.key := by simpa using hn
  refine ⟨fun hn => ?_, fun hn => ?_⟩
  · simp only [Live.eq_iff]; simp at hn ⊢; simp [hn]
  have q3 : x.val = y.val := by simpa using hn
  refine by_ret (l_eqDot_ret _ x.dot y.dot) ?_
  simp +contextual (maxSteps := 600000) (disch := omega) only [go_sem, Nat.reduceEqDiff, ↓reduceIte, Int.reduceEq, Int.reduceNeg, wrap_add, List.append_nil]
  refine ⟨fun hn => ?_, fun hn => ?_⟩
  · simp only [Live.eq_iff]; simp at hn ⊢; simp [hn]
  have q4 : x.dot = y.dot := by simpa using hn
  simp only [Live.eq_iff, q0, q1, q2, q3, q4, and_self, decide_true]
end Go.Proofs.Ytffnefmklckngaa.Sy

/- Contracts of the laws' own functions: HeqLiveS. -/
namespace Go.Proofs.Ytffnefmklckngaa.Sy
open Go Go.RowKit
set_option linter.unusedSimpArgs false
set_option linter.unusedVariables false
abbrev n_l_eqLiveS : Nat := 40
def F_l_eqLiveS : Fn1 := ⟨27, [.t 4], (.seq (.reg [o 4 (.mov (.k (.bool false)))]) (.seq (.seq (.reg [o 6 (.mov (.t 0)), o 7 (.len false (.t 6)), o 8 (.mov (.t 1)), o 9 (.len false (.t 8)), o 10 (.bin .neq (.t 7) (.t 9))]) (.cnd (.t 10) (.seq (.reg [o 4 (.mov (.k (.bool false)))]) .ret) .skip)) (.seq (.seq (.reg [o 5 (.mov (.k (.int .i64 0)))]) (.blk 0 (.lop (.seq (.seq (.reg [o 11 (.mov (.t 5)), o 12 (.mov (.t 0)), o 13 (.len false (.t 12)), o 14 (.bin .lss (.t 11) (.t 13))]) (.cnd (.t 14) .skip (.ext 0))) (.seq (.blk 1 (.seq (.drw [o 17 (.mov (.t 0)), o 18 (.mov (.t 5)), o 19 (.iad 6 (.t 17) (.t 18)), o 20 (.ld true 6 (.t 19)), o 21 (.mov (.t 1)), o 22 (.mov (.t 5)), o 23 (.iad 6 (.t 21) (.t 22)), o 24 (.ld true 6 (.t 23))] [o 25 (.call 72 [(.t 20), (.t 24)]), o 26 (.un .not (.t 25))]) (.cnd (.t 26) (.seq (.reg [o 4 (.mov (.k (.bool false)))]) .ret) .skip))) (.reg [o 15 (.mov (.t 5)), o 16 (.bin .add (.t 15) (.k (.int .i64 1))), o 5 (.mov (.t 16))])))))) (.seq (.reg [o 4 (.mov (.k (.bool true)))]) .ret))))⟩
theorem ir_l_eqLiveS : compFn Try.prog n_l_eqLiveS = some F_l_eqLiveS := by kernel_rfl
theorem l_eqLiveS_ret (σ : St) (v u : GV) (l m : List Live) (hv : RS pLive.kd σ v l) (hu : RS pLive.kd σ u m) (hl : (l.length + sumL msLive l) ≤ 1099511627776) : Ret Try.prog n_l_eqLiveS [v, u] σ (.bool (decide (l = m))) σ := by
  refine ret_eq ir_l_eqLiveS (Nat.le_of_ble_eq_true rfl) trivial ?_
  simp +contextual (maxSteps := 600000) (disch := omega) only [go_sem, Nat.reduceEqDiff, ↓reduceIte, Int.reduceEq, Int.reduceNeg, wrap_add, F_l_eqLiveS, hv.len, hu.len]
  refine ⟨fun hn => ?_, fun hn => ?_⟩
  · have : l ≠ m := fun h => by subst h; simp at hn
    simp [this]
  have hlm : l.length = m.length := by have h2 : (l.length : Int) = m.length := by simpa using hn
                                       omega
  refine vc_for l.length 5 (fun i env τ => env 0 = v ∧ env 1 = u ∧ l.take i = m.take i ∧ σ <+: τ) rfl ⟨rfl, rfl, rfl, List.prefix_refl _⟩ ?_ ?_
  · rintro i env τ hi e5 c0 ⟨e0, e1, he, hp⟩
    have hj : i < m.length := by omega
    have h1 := hv.pre hp
    have h2 := hu.pre hp
    have hne : l[i] ≠ m[i] → l ≠ m := fun h h' => h (by subst h'; rfl)
    have hst : l[i] = m[i] → l.take (i + 1) = m.take (i + 1) := fun h => by rw [take_snoc hi, take_snoc hj, he, h]
    have hms : msLive l[i] ≤ sumL msLive l := sumL_mem (List.getElem_mem hi)
    simp +contextual (maxSteps := 600000) (disch := omega) only [go_sem, Nat.reduceEqDiff, ↓reduceIte, Int.reduceEq, Int.reduceNeg, wrap_add, c0, e0, e1, e5, hv.len, hu.len, Live_at h1 hi, Live_at h2 hj]
    refine by_ret (l_eqLive_ret τ l[i] m[i]) ?_
    simp +contextual (maxSteps := 600000) (disch := omega) only [go_sem, Nat.reduceEqDiff, ↓reduceIte, Int.reduceEq, Int.reduceNeg, wrap_add, e0, e1, e5, hp]
    refine ⟨fun h => ?_, fun h => ?_⟩
    · simp [hne (by simpa using h)]
    · simpa using hst (by simpa using h)
  · rintro env τ e5 c0 ⟨e0, e1, he, hp⟩
    rw [List.take_length, hlm, List.take_length] at he
    simp +contextual (maxSteps := 600000) (disch := omega) only [go_sem, Nat.reduceEqDiff, ↓reduceIte, Int.reduceEq, Int.reduceNeg, wrap_add, c0, e0, e1, e5, hv.len, hu.len, hp]
    simp [he]
end Go.Proofs.Ytffnefmklckngaa.Sy

/- Contracts of the laws' own functions: HeqTally. -/
namespace Go.Proofs.Ytffnefmklckngaa.Sy
open Go Go.RowKit
set_option linter.unusedSimpArgs false
set_option linter.unusedVariables false
abbrev n_l_eqTally : Nat := 71
def F_l_eqTally : Fn1 := ⟨20, [.t 4], (.seq (.reg [o 2 (.box (.t 0)), o 3 (.box (.t 1)), o 4 (.mov (.k (.bool false)))]) (.seq (.seq (.reg [o 5 (.fad 0 (.t 2)), o 6 (.ld false 1 (.t 5)), o 7 (.fad 0 (.t 3)), o 8 (.ld false 1 (.t 7)), o 9 (.bin .neq (.t 6) (.t 8))]) (.cnd (.t 9) (.seq (.reg [o 4 (.mov (.k (.bool false)))]) .ret) .skip)) (.seq (.seq (.reg [o 10 (.fad 1 (.t 2)), o 11 (.ld false 1 (.t 10)), o 12 (.fad 1 (.t 3)), o 13 (.ld false 1 (.t 12)), o 14 (.bin .neq (.t 11) (.t 13))]) (.cnd (.t 14) (.seq (.reg [o 4 (.mov (.k (.bool false)))]) .ret) .skip)) (.seq (.seq (.reg [o 15 (.fad 2 (.t 2)), o 16 (.ld false 1 (.t 15)), o 17 (.fad 2 (.t 3)), o 18 (.ld false 1 (.t 17)), o 19 (.bin .neq (.t 16) (.t 18))]) (.cnd (.t 19) (.seq (.reg [o 4 (.mov (.k (.bool false)))]) .ret) .skip)) (.seq (.reg [o 4 (.mov (.k (.bool true)))]) .ret)))))⟩
theorem ir_l_eqTally : compFn Try.prog n_l_eqTally = some F_l_eqTally := by kernel_rfl
theorem l_eqTally_ret (σ : St) (x y : Tally) : Ret Try.prog n_l_eqTally [.agg [.str x.obj, .int .i64 x.rep, .int .i64 x.sum], .agg [.str y.obj, .int .i64 y.rep, .int .i64 y.sum]] σ (.bool (decide (x = y))) σ := by
  refine ret_eq ir_l_eqTally (Nat.le_of_ble_eq_true rfl) trivial ?_
  simp +contextual (maxSteps := 600000) (disch := omega) only [go_sem, Nat.reduceEqDiff, ↓reduceIte, Int.reduceEq, Int.reduceNeg, wrap_add, F_l_eqTally, List.append_nil]
  refine ⟨fun hn => ?_, fun hn => ?_⟩
  · simp only [Tally.eq_iff]; simp at hn ⊢; simp [hn]
  have q0 : x.obj = y.obj := by simpa using hn
  refine ⟨fun hn => ?_, fun hn => ?_⟩
  · simp only [Tally.eq_iff]; simp at hn ⊢; simp [hn]
  have q1 : x.rep = y.rep := by simpa using hn
  refine ⟨fun hn => ?_, fun hn => ?_⟩
  · simp only [Tally.eq_iff]; simp at hn ⊢; simp [hn]
  have q2 : x.sum = y.sum := by simpa using hn
  simp only [Tally.eq_iff, q0, q1, q2, and_self, decide_true]
end Go.Proofs.Ytffnefmklckngaa.Sy

/- Contracts of the laws' own functions: HeqTallyS. -/
namespace Go.Proofs.Ytffnefmklckngaa.Sy
open Go Go.RowKit
set_option linter.unusedSimpArgs false
set_option linter.unusedVariables false
abbrev n_l_eqTallyS : Nat := 39
def F_l_eqTallyS : Fn1 := ⟨27, [.t 4], (.seq (.reg [o 4 (.mov (.k (.bool false)))]) (.seq (.seq (.reg [o 6 (.mov (.t 0)), o 7 (.len false (.t 6)), o 8 (.mov (.t 1)), o 9 (.len false (.t 8)), o 10 (.bin .neq (.t 7) (.t 9))]) (.cnd (.t 10) (.seq (.reg [o 4 (.mov (.k (.bool false)))]) .ret) .skip)) (.seq (.seq (.reg [o 5 (.mov (.k (.int .i64 0)))]) (.blk 0 (.lop (.seq (.seq (.reg [o 11 (.mov (.t 5)), o 12 (.mov (.t 0)), o 13 (.len false (.t 12)), o 14 (.bin .lss (.t 11) (.t 13))]) (.cnd (.t 14) .skip (.ext 0))) (.seq (.blk 1 (.seq (.drw [o 17 (.mov (.t 0)), o 18 (.mov (.t 5)), o 19 (.iad 3 (.t 17) (.t 18)), o 20 (.ld true 3 (.t 19)), o 21 (.mov (.t 1)), o 22 (.mov (.t 5)), o 23 (.iad 3 (.t 21) (.t 22)), o 24 (.ld true 3 (.t 23))] [o 25 (.call 71 [(.t 20), (.t 24)]), o 26 (.un .not (.t 25))]) (.cnd (.t 26) (.seq (.reg [o 4 (.mov (.k (.bool false)))]) .ret) .skip))) (.reg [o 15 (.mov (.t 5)), o 16 (.bin .add (.t 15) (.k (.int .i64 1))), o 5 (.mov (.t 16))])))))) (.seq (.reg [o 4 (.mov (.k (.bool true)))]) .ret))))⟩
theorem ir_l_eqTallyS : compFn Try.prog n_l_eqTallyS = some F_l_eqTallyS := by kernel_rfl
theorem l_eqTallyS_ret (σ : St) (v u : GV) (l m : List Tally) (hv : RS pTally.kd σ v l) (hu : RS pTally.kd σ u m) (hl : (l.length + sumL msTally l) ≤ 1099511627776) : Ret Try.prog n_l_eqTallyS [v, u] σ (.bool (decide (l = m))) σ := by
  refine ret_eq ir_l_eqTallyS (Nat.le_of_ble_eq_true rfl) trivial ?_
  simp +contextual (maxSteps := 600000) (disch := omega) only [go_sem, Nat.reduceEqDiff, ↓reduceIte, Int.reduceEq, Int.reduceNeg, wrap_add, F_l_eqTallyS, hv.len, hu.len]
  refine ⟨fun hn => ?_, fun hn => ?_⟩
  · have : l ≠ m := fun h => by subst h; simp at hn
    simp [this]
  have hlm : l.length = m.length := by have h2 : (l.length : Int) = m.length := by simpa using hn
                                       omega
  refine vc_for l.length 5 (fun i env τ => env 0 = v ∧ env 1 = u ∧ l.take i = m.take i ∧ σ <+: τ) rfl ⟨rfl, rfl, rfl, List.prefix_refl _⟩ ?_ ?_
  · rintro i env τ hi e5 c0 ⟨e0, e1, he, hp⟩
    have hj : i < m.length := by omega
    have h1 := hv.pre hp
    have h2 := hu.pre hp
    have hne : l[i] ≠ m[i] → l ≠ m := fun h h' => h (by subst h'; rfl)
    have hst : l[i] = m[i] → l.take (i + 1) = m.take (i + 1) := fun h => by rw [take_snoc hi, take_snoc hj, he, h]
    have hms : msTally l[i] ≤ sumL msTally l := sumL_mem (List.getElem_mem hi)
    simp +contextual (maxSteps := 600000) (disch := omega) only [go_sem, Nat.reduceEqDiff, ↓reduceIte, Int.reduceEq, Int.reduceNeg, wrap_add, c0, e0, e1, e5, hv.len, hu.len, Tally_at h1 hi, Tally_at h2 hj]
    refine by_ret (l_eqTally_ret τ l[i] m[i]) ?_
    simp +contextual (maxSteps := 600000) (disch := omega) only [go_sem, Nat.reduceEqDiff, ↓reduceIte, Int.reduceEq, Int.reduceNeg, wrap_add, e0, e1, e5, hp]
    refine ⟨fun h => ?_, fun h => ?_⟩
    · simp [hne (by simpa using h)]
    · simpa using hst (by simpa using h)
  · rintro env τ e5 c0 ⟨e0, e1, he, hp⟩
    rw [List.take_length, hlm, List.take_length] at he
    simp +contextual (maxSteps := 600000) (disch := omega) only [go_sem, Nat.reduceEqDiff, ↓reduceIte, Int.reduceEq, Int.reduceNeg, wrap_add, c0, e0, e1, e5, hv.len, hu.len, hp]
    simp [he]
end Go.Proofs.Ytffnefmklckngaa.Sy

/- Contracts of the laws' own functions: HeqState. -/
namespace Go.Proofs.Ytffnefmklckngaa.Sy
open Go Go.RowKit
set_option linter.unusedSimpArgs false
set_option linter.unusedVariables false
abbrev n_l_eqState : Nat := 12
def F_l_eqState : Fn1 := ⟨29, [.t 4], (.seq (.reg [o 2 (.box (.t 0)), o 3 (.box (.t 1)), o 4 (.mov (.k (.bool false)))]) (.seq (.seq (.reg [o 5 (.fad 0 (.t 2)), o 6 (.ld false 1 (.t 5)), o 7 (.fad 0 (.t 3)), o 8 (.ld false 1 (.t 7)), o 9 (.call 17 [(.t 6), (.t 8)]), o 10 (.un .not (.t 9))]) (.cnd (.t 10) (.seq (.reg [o 4 (.mov (.k (.bool false)))]) .ret) .skip)) (.seq (.seq (.reg [o 11 (.fad 1 (.t 2)), o 12 (.ld false 1 (.t 11)), o 13 (.fad 1 (.t 3)), o 14 (.ld false 1 (.t 13)), o 15 (.call 39 [(.t 12), (.t 14)]), o 16 (.un .not (.t 15))]) (.cnd (.t 16) (.seq (.reg [o 4 (.mov (.k (.bool false)))]) .ret) .skip)) (.seq (.seq (.reg [o 17 (.fad 2 (.t 2)), o 18 (.ld false 1 (.t 17)), o 19 (.fad 2 (.t 3)), o 20 (.ld false 1 (.t 19)), o 21 (.call 40 [(.t 18), (.t 20)]), o 22 (.un .not (.t 21))]) (.cnd (.t 22) (.seq (.reg [o 4 (.mov (.k (.bool false)))]) .ret) .skip)) (.seq (.seq (.reg [o 23 (.fad 3 (.t 2)), o 24 (.ld false 1 (.t 23)), o 25 (.fad 3 (.t 3)), o 26 (.ld false 1 (.t 25)), o 27 (.call 41 [(.t 24), (.t 26)]), o 28 (.un .not (.t 27))]) (.cnd (.t 28) (.seq (.reg [o 4 (.mov (.k (.bool false)))]) .ret) .skip)) (.seq (.reg [o 4 (.mov (.k (.bool true)))]) .ret))))))⟩
theorem ir_l_eqState : compFn Try.prog n_l_eqState = some F_l_eqState := by kernel_rfl
theorem l_eqState_ret (σ : St) (cs ds : List GV) (x y : State) (hx : kState.R σ x cs) (hy : kState.R σ y ds) (hl : msState x ≤ 1099511627776) : Ret Try.prog n_l_eqState [.agg cs, .agg ds] σ (.bool (decide (x = y))) σ := by
  obtain ⟨v0, v1, v2, v3, rfl, q0_, q1_, q2_, q3_⟩ := hx
  obtain ⟨u0, u1, u2, u3, rfl, p0_, p1_, p2_, p3_⟩ := hy
  unfold msState at hl
  refine ret_eq ir_l_eqState (Nat.le_of_ble_eq_true rfl) trivial ?_
  simp +contextual (maxSteps := 600000) (disch := omega) only [go_sem, Nat.reduceEqDiff, ↓reduceIte, Int.reduceEq, Int.reduceNeg, wrap_add, F_l_eqState, List.append_nil]
  refine by_ret (l_eqIntS_ret _ v0 u0 x.know y.know (q0_.pre pre2) (p0_.pre pre2) (by omega)) ?_
  simp +contextual (maxSteps := 600000) (disch := omega) only [go_sem, Nat.reduceEqDiff, ↓reduceIte, Int.reduceEq, Int.reduceNeg, wrap_add, List.append_nil]
  refine ⟨fun hn => ?_, fun hn => ?_⟩
  · simp only [State.eq_iff]; simp at hn ⊢; simp [hn]
  have q0 : x.know = y.know := by simpa using hn
  refine by_ret (l_eqTallyS_ret _ v1 u1 x.tallies y.tallies (q1_.pre pre2) (p1_.pre pre2) (by omega)) ?_
  simp +contextual (maxSteps := 600000) (disch := omega) only [go_sem, Nat.reduceEqDiff, ↓reduceIte, Int.reduceEq, Int.reduceNeg, wrap_add, List.append_nil]
  refine ⟨fun hn => ?_, fun hn => ?_⟩
  · simp only [State.eq_iff]; simp at hn ⊢; simp [hn]
  have q1 : x.tallies = y.tallies := by simpa using hn
  refine by_ret (l_eqLiveS_ret _ v2 u2 x.lives y.lives (q2_.pre pre2) (p2_.pre pre2) (by omega)) ?_
  simp +contextual (maxSteps := 600000) (disch := omega) only [go_sem, Nat.reduceEqDiff, ↓reduceIte, Int.reduceEq, Int.reduceNeg, wrap_add, List.append_nil]
  refine ⟨fun hn => ?_, fun hn => ?_⟩
  · simp only [State.eq_iff]; simp at hn ⊢; simp [hn]
  have q2 : x.lives = y.lives := by simpa using hn
  refine by_ret (l_eqCellS_ret _ v3 u3 x.cells y.cells (q3_.pre pre2) (p3_.pre pre2) (by omega)) ?_
  simp +contextual (maxSteps := 600000) (disch := omega) only [go_sem, Nat.reduceEqDiff, ↓reduceIte, Int.reduceEq, Int.reduceNeg, wrap_add, List.append_nil]
  refine ⟨fun hn => ?_, fun hn => ?_⟩
  · simp only [State.eq_iff]; simp at hn ⊢; simp [hn]
  have q3 : x.cells = y.cells := by simpa using hn
  simp only [State.eq_iff, q0, q1, q2, q3, and_self, decide_true]
end Go.Proofs.Ytffnefmklckngaa.Sy

/- Contracts of the laws' own functions: records of our own. -/
namespace Go.Proofs.Ytffnefmklckngaa.Sy
open Go Go.RowKit
set_option linter.unusedSimpArgs false
set_option linter.unusedVariables false
theorem Hp.ownAct {σ τ : St} {rs : List Thg} {x : Act} {v2 : GV} (H : Hp σ τ (ow pI.kd v2 x.knew :: rs)) : Hp σ τ (own kAct ((GV.int .i64 x.dot.rep) :: (GV.int .i64 x.dot.seq) :: (GV.int .i64 x.time) :: v2 :: (GV.int .i64 x.kind) :: (GV.str x.obj) :: (GV.str x.key) :: (GV.int .i64 x.val) :: (GV.int .i64 x.ref.rep) :: (GV.int .i64 x.ref.seq) :: []) x :: rs) := by
  refine (H).conv ?_
  intro fp h0
  exact ⟨v2, fp, rfl, h0, rfl⟩
theorem Hp.splitAct {σ τ : St} {rs : List Thg} {x : Act} {cs : List GV} (H : Hp σ τ (own kAct cs x :: rs)) : ∃ v2, cs = (GV.int .i64 x.dot.rep) :: (GV.int .i64 x.dot.seq) :: (GV.int .i64 x.time) :: v2 :: (GV.int .i64 x.kind) :: (GV.str x.obj) :: (GV.str x.key) :: (GV.int .i64 x.val) :: (GV.int .i64 x.ref.rep) :: (GV.int .i64 x.ref.seq) :: [] ∧ Hp σ τ (ow pI.kd v2 x.knew :: rs) := by
  obtain ⟨h, fp, ⟨a, b, ⟨v2, f0, rfl, h0, rfl⟩, hs, rfl⟩, hn, hb⟩ := H
  exact ⟨v2, rfl, h, _, ⟨_, _, h0, hs, rfl⟩, by simpa [List.append_assoc] using hn, by simpa [List.append_assoc] using hb⟩
theorem Hp.ownState {σ τ : St} {rs : List Thg} {x : State} {v0 : GV} {v1 : GV} {v2 : GV} {v3 : GV} (H : Hp σ τ (ow pI.kd v0 x.know :: ow pTally.kd v1 x.tallies :: ow pLive.kd v2 x.lives :: ow pCell.kd v3 x.cells :: rs)) : Hp σ τ (own kState (v0 :: v1 :: v2 :: v3 :: []) x :: rs) := by
  refine (H.join.join.join).conv ?_
  rintro fp ⟨_, f3, ⟨_, f2, ⟨f0, f1, h0, h1, rfl⟩, h2, rfl⟩, h3, rfl⟩
  exact ⟨v0, v1, v2, v3, f0, f1, f2, f3, rfl, h0, h1, h2, h3, by simp [List.append_assoc]⟩
theorem Hp.splitState {σ τ : St} {rs : List Thg} {x : State} {cs : List GV} (H : Hp σ τ (own kState cs x :: rs)) : ∃ v0 v1 v2 v3, cs = v0 :: v1 :: v2 :: v3 :: [] ∧ Hp σ τ (ow pI.kd v0 x.know :: ow pTally.kd v1 x.tallies :: ow pLive.kd v2 x.lives :: ow pCell.kd v3 x.cells :: rs) := by
  obtain ⟨h, fp, ⟨a, b, ⟨v0, v1, v2, v3, f0, f1, f2, f3, rfl, h0, h1, h2, h3, rfl⟩, hs, rfl⟩, hn, hb⟩ := H
  exact ⟨v0, v1, v2, v3, rfl, h, _, ⟨_, _, h0, ⟨_, _, h1, ⟨_, _, h2, ⟨_, _, h3, hs, rfl⟩, rfl⟩, rfl⟩, rfl⟩, by simpa [List.append_assoc] using hn, by simpa [List.append_assoc] using hb⟩
theorem Hp.ownDelta {σ τ : St} {rs : List Thg} {x : Delta} {v0 : GV} {v1 : GV} {v2 : GV} {v3 : GV} {v4 : GV} {v5 : GV} (H : Hp σ τ (ow pI.kd v0 x.base :: ow pI.kd v1 x.know :: ow pTally.kd v2 x.tallies :: ow pLive.kd v3 x.lives :: ow pDot.kd v4 x.dead :: ow pCell.kd v5 x.cells :: rs)) : Hp σ τ (own kDelta (v0 :: v1 :: v2 :: v3 :: v4 :: v5 :: []) x :: rs) := by
  refine (H.join.join.join.join.join).conv ?_
  rintro fp ⟨_, f5, ⟨_, f4, ⟨_, f3, ⟨_, f2, ⟨f0, f1, h0, h1, rfl⟩, h2, rfl⟩, h3, rfl⟩, h4, rfl⟩, h5, rfl⟩
  exact ⟨v0, v1, v2, v3, v4, v5, f0, f1, f2, f3, f4, f5, rfl, h0, h1, h2, h3, h4, h5, by simp [List.append_assoc]⟩
theorem Hp.splitDelta {σ τ : St} {rs : List Thg} {x : Delta} {cs : List GV} (H : Hp σ τ (own kDelta cs x :: rs)) : ∃ v0 v1 v2 v3 v4 v5, cs = v0 :: v1 :: v2 :: v3 :: v4 :: v5 :: [] ∧ Hp σ τ (ow pI.kd v0 x.base :: ow pI.kd v1 x.know :: ow pTally.kd v2 x.tallies :: ow pLive.kd v3 x.lives :: ow pDot.kd v4 x.dead :: ow pCell.kd v5 x.cells :: rs) := by
  obtain ⟨h, fp, ⟨a, b, ⟨v0, v1, v2, v3, v4, v5, f0, f1, f2, f3, f4, f5, rfl, h0, h1, h2, h3, h4, h5, rfl⟩, hs, rfl⟩, hn, hb⟩ := H
  exact ⟨v0, v1, v2, v3, v4, v5, rfl, h, _, ⟨_, _, h0, ⟨_, _, h1, ⟨_, _, h2, ⟨_, _, h3, ⟨_, _, h4, ⟨_, _, h5, hs, rfl⟩, rfl⟩, rfl⟩, rfl⟩, rfl⟩, rfl⟩, by simpa [List.append_assoc] using hn, by simpa [List.append_assoc] using hb⟩
theorem Hp.ownUnit_ {σ τ : St} {rs : List Thg} {x : Unit_} {v1 : List GV} {v2 : List GV} (H : Hp σ τ (own kAct v1 x.act :: own kDelta v2 x.delta :: rs)) : Hp σ τ (own kUnit_ ((GV.bool x.batch) :: v1 ++ (v2 ++ ([]))) x :: rs) := by
  refine (H.join).conv ?_
  rintro fp ⟨f0, f1, h0, h1, rfl⟩
  exact ⟨v1, v2, f0, f1, rfl, h0, h1, by simp [List.append_assoc]⟩
theorem Hp.splitUnit_ {σ τ : St} {rs : List Thg} {x : Unit_} {cs : List GV} (H : Hp σ τ (own kUnit_ cs x :: rs)) : ∃ v1 v2, cs = (GV.bool x.batch) :: v1 ++ (v2 ++ ([])) ∧ Hp σ τ (own kAct v1 x.act :: own kDelta v2 x.delta :: rs) := by
  obtain ⟨h, fp, ⟨a, b, ⟨v1, v2, f0, f1, rfl, h0, h1, rfl⟩, hs, rfl⟩, hn, hb⟩ := H
  exact ⟨v1, v2, rfl, h, _, ⟨_, _, h0, ⟨_, _, h1, hs, rfl⟩, rfl⟩, by simpa [List.append_assoc] using hn, by simpa [List.append_assoc] using hb⟩
theorem Hp.ownLog {σ τ : St} {rs : List Thg} {x : Log} {v2 : List GV} {v3 : GV} {v4 : GV} (H : Hp σ τ (own kState v2 x.state :: ow kUnit_ v3 x.units :: ow kUnit_ v4 x.waits :: rs)) : Hp σ τ (own kLog ((GV.int .i64 x.rep) :: (GV.int .i64 x.time) :: v2 ++ (v3 :: v4 :: [])) x :: rs) := by
  refine (H.join.join).conv ?_
  rintro fp ⟨_, f2, ⟨f0, f1, h0, h1, rfl⟩, h2, rfl⟩
  exact ⟨v2, v3, v4, f0, f1, f2, rfl, h0, h1, h2, by simp [List.append_assoc]⟩
theorem Hp.splitLog {σ τ : St} {rs : List Thg} {x : Log} {cs : List GV} (H : Hp σ τ (own kLog cs x :: rs)) : ∃ v2 v3 v4, cs = (GV.int .i64 x.rep) :: (GV.int .i64 x.time) :: v2 ++ (v3 :: v4 :: []) ∧ Hp σ τ (own kState v2 x.state :: ow kUnit_ v3 x.units :: ow kUnit_ v4 x.waits :: rs) := by
  obtain ⟨h, fp, ⟨a, b, ⟨v2, v3, v4, f0, f1, f2, rfl, h0, h1, h2, rfl⟩, hs, rfl⟩, hn, hb⟩ := H
  exact ⟨v2, v3, v4, rfl, h, _, ⟨_, _, h0, ⟨_, _, h1, ⟨_, _, h2, hs, rfl⟩, rfl⟩, rfl⟩, by simpa [List.append_assoc] using hn, by simpa [List.append_assoc] using hb⟩
theorem Hp.ownCommit {σ τ : St} {rs : List Thg} {x : Commit} {v1 : GV} {v2 : List GV} (H : Hp σ τ (ow pI.kd v1 x.ups :: own kState v2 x.state :: rs)) : Hp σ τ (own kCommit ((GV.int .i64 x.id.rep) :: (GV.int .i64 x.id.seq) :: v1 :: v2 ++ ([])) x :: rs) := by
  refine (H.join).conv ?_
  rintro fp ⟨f0, f1, h0, h1, rfl⟩
  exact ⟨v1, v2, f0, f1, rfl, h0, h1, by simp [List.append_assoc]⟩
theorem Hp.splitCommit {σ τ : St} {rs : List Thg} {x : Commit} {cs : List GV} (H : Hp σ τ (own kCommit cs x :: rs)) : ∃ v1 v2, cs = (GV.int .i64 x.id.rep) :: (GV.int .i64 x.id.seq) :: v1 :: v2 ++ ([]) ∧ Hp σ τ (ow pI.kd v1 x.ups :: own kState v2 x.state :: rs) := by
  obtain ⟨h, fp, ⟨a, b, ⟨v1, v2, f0, f1, rfl, h0, h1, rfl⟩, hs, rfl⟩, hn, hb⟩ := H
  exact ⟨v1, v2, rfl, h, _, ⟨_, _, h0, ⟨_, _, h1, hs, rfl⟩, rfl⟩, by simpa [List.append_assoc] using hn, by simpa [List.append_assoc] using hb⟩
theorem Hp.ownGraph {σ τ : St} {rs : List Thg} {x : Graph} {v0 : GV} (H : Hp σ τ (ow kCommit v0 x.commits :: rs)) : Hp σ τ (own kGraph (v0 :: (GV.int .i64 x.head) :: []) x :: rs) := by
  refine (H).conv ?_
  intro fp h0
  exact ⟨v0, fp, rfl, h0, rfl⟩
theorem Hp.splitGraph {σ τ : St} {rs : List Thg} {x : Graph} {cs : List GV} (H : Hp σ τ (own kGraph cs x :: rs)) : ∃ v0, cs = v0 :: (GV.int .i64 x.head) :: [] ∧ Hp σ τ (ow kCommit v0 x.commits :: rs) := by
  obtain ⟨h, fp, ⟨a, b, ⟨v0, f0, rfl, h0, rfl⟩, hs, rfl⟩, hn, hb⟩ := H
  exact ⟨v0, rfl, h, _, ⟨_, _, h0, hs, rfl⟩, by simpa [List.append_assoc] using hn, by simpa [List.append_assoc] using hb⟩
theorem Hp.ownReplica {σ τ : St} {rs : List Thg} {x : Replica} {v1 : List GV} {v2 : List GV} {v4 : GV} (H : Hp σ τ (own kLog v1 x.log :: own kGraph v2 x.graph :: ow kUnit_ v4 x.out :: rs)) : Hp σ τ (own kReplica ((GV.int .i64 x.way) :: v1 ++ (v2 ++ ((GV.str x.file.text) :: (GV.int .i64 x.file.synced) :: v4 :: []))) x :: rs) := by
  refine (H.join.join).conv ?_
  rintro fp ⟨_, f2, ⟨f0, f1, h0, h1, rfl⟩, h2, rfl⟩
  exact ⟨v1, v2, v4, f0, f1, f2, rfl, h0, h1, h2, by simp [List.append_assoc]⟩
theorem Hp.splitReplica {σ τ : St} {rs : List Thg} {x : Replica} {cs : List GV} (H : Hp σ τ (own kReplica cs x :: rs)) : ∃ v1 v2 v4, cs = (GV.int .i64 x.way) :: v1 ++ (v2 ++ ((GV.str x.file.text) :: (GV.int .i64 x.file.synced) :: v4 :: [])) ∧ Hp σ τ (own kLog v1 x.log :: own kGraph v2 x.graph :: ow kUnit_ v4 x.out :: rs) := by
  obtain ⟨h, fp, ⟨a, b, ⟨v1, v2, v4, f0, f1, f2, rfl, h0, h1, h2, rfl⟩, hs, rfl⟩, hn, hb⟩ := H
  exact ⟨v1, v2, v4, rfl, h, _, ⟨_, _, h0, ⟨_, _, h1, ⟨_, _, h2, hs, rfl⟩, rfl⟩, rfl⟩, by simpa [List.append_assoc] using hn, by simpa [List.append_assoc] using hb⟩
theorem Hp.ownWorld_ {σ τ : St} {rs : List Thg} {x : World_} {v0 : GV} {v1 : GV} {v2 : GV} {v3 : GV} (H : Hp σ τ (ow kReplica v0 x.replicas :: ow pLetter.kd v1 x.net :: ow pI.kd v2 x.codes :: ow (Kd.sl pI.kd) v3 x.synced :: rs)) : Hp σ τ (own kWorld_ (v0 :: v1 :: v2 :: v3 :: []) x :: rs) := by
  refine (H.join.join.join).conv ?_
  rintro fp ⟨_, f3, ⟨_, f2, ⟨f0, f1, h0, h1, rfl⟩, h2, rfl⟩, h3, rfl⟩
  exact ⟨v0, v1, v2, v3, f0, f1, f2, f3, rfl, h0, h1, h2, h3, by simp [List.append_assoc]⟩
theorem Hp.splitWorld_ {σ τ : St} {rs : List Thg} {x : World_} {cs : List GV} (H : Hp σ τ (own kWorld_ cs x :: rs)) : ∃ v0 v1 v2 v3, cs = v0 :: v1 :: v2 :: v3 :: [] ∧ Hp σ τ (ow kReplica v0 x.replicas :: ow pLetter.kd v1 x.net :: ow pI.kd v2 x.codes :: ow (Kd.sl pI.kd) v3 x.synced :: rs) := by
  obtain ⟨h, fp, ⟨a, b, ⟨v0, v1, v2, v3, f0, f1, f2, f3, rfl, h0, h1, h2, h3, rfl⟩, hs, rfl⟩, hn, hb⟩ := H
  exact ⟨v0, v1, v2, v3, rfl, h, _, ⟨_, _, h0, ⟨_, _, h1, ⟨_, _, h2, ⟨_, _, h3, hs, rfl⟩, rfl⟩, rfl⟩, rfl⟩, by simpa [List.append_assoc] using hn, by simpa [List.append_assoc] using hb⟩
theorem Hp.ownScript {σ τ : St} {rs : List Thg} {x : Script} {v0 : GV} {v1 : GV} (H : Hp σ τ (ow pI.kd v0 x.ways :: ow pEvent.kd v1 x.events :: rs)) : Hp σ τ (own kScript (v0 :: v1 :: (GV.bool x.calm) :: []) x :: rs) := by
  refine (H.join).conv ?_
  rintro fp ⟨f0, f1, h0, h1, rfl⟩
  exact ⟨v0, v1, f0, f1, rfl, h0, h1, by simp [List.append_assoc]⟩
theorem Hp.splitScript {σ τ : St} {rs : List Thg} {x : Script} {cs : List GV} (H : Hp σ τ (own kScript cs x :: rs)) : ∃ v0 v1, cs = v0 :: v1 :: (GV.bool x.calm) :: [] ∧ Hp σ τ (ow pI.kd v0 x.ways :: ow pEvent.kd v1 x.events :: rs) := by
  obtain ⟨h, fp, ⟨a, b, ⟨v0, v1, f0, f1, rfl, h0, h1, rfl⟩, hs, rfl⟩, hn, hb⟩ := H
  exact ⟨v0, v1, rfl, h, _, ⟨_, _, h0, ⟨_, _, h1, hs, rfl⟩, rfl⟩, by simpa [List.append_assoc] using hn, by simpa [List.append_assoc] using hb⟩
end Go.Proofs.Ytffnefmklckngaa.Sy

/- Contracts of the laws' own functions: marks. -/
namespace Go.Proofs.Ytffnefmklckngaa.Sy
open Go Go.RowKit
set_option linter.unusedSimpArgs false
set_option linter.unusedVariables false
def mInt (k : Int) : Int := k
def mString (k : Int) : ByteArray := mtx k
def mDot (k : Int) : Dot := ⟨k, k + 1⟩
def mTally (k : Int) : Tally := ⟨mtx (k), k + 1, k + 1 + 1⟩
def mLive (k : Int) : Live := ⟨((k).tmod 3 == 0), mtx (k + 1), mtx (k + 1 + 1), k + 1 + 1 + 1, ⟨k + 1 + 1 + 1 + 1, k + 1 + 1 + 1 + 1 + 1⟩⟩
def mCell (k : Int) : Cell := ⟨mtx (k), ⟨k + 1, k + 1 + 1⟩, k + 1 + 1 + 1, ⟨k + 1 + 1 + 1 + 1, k + 1 + 1 + 1 + 1 + 1⟩, k + 1 + 1 + 1 + 1 + 1 + 1, ((k + 1 + 1 + 1 + 1 + 1 + 1 + 1).tmod 3 == 0)⟩
def mEdit (k : Int) : Edit := ⟨k, mtx (k + 1), mtx (k + 1 + 1), k + 1 + 1 + 1, k + 1 + 1 + 1 + 1⟩
def mWatch (k : Int) : Watch := ⟨k, mtx (k + 1), mtx (k + 1 + 1)⟩
def mClash (k : Int) : Clash := ⟨mtx (k), mtx (k + 1)⟩
def mFile (k : Int) : File := ⟨mtx (k), k + 1⟩
def mLetter (k : Int) : Letter := ⟨k, mtx (k + 1)⟩
def mEvent (k : Int) : Event := ⟨k, k + 1, k + 1 + 1, ⟨k + 1 + 1 + 1, mtx (k + 1 + 1 + 1 + 1), mtx (k + 1 + 1 + 1 + 1 + 1), k + 1 + 1 + 1 + 1 + 1 + 1, k + 1 + 1 + 1 + 1 + 1 + 1 + 1⟩⟩
end Go.Proofs.Ytffnefmklckngaa.Sy

/- Contracts of the laws' own functions: HheIntS. -/
namespace Go.Proofs.Ytffnefmklckngaa.Sy
open Go Go.RowKit
set_option linter.unusedSimpArgs false
set_option linter.unusedVariables false
abbrev n_l_heldIntS : Nat := 27
def F_l_heldIntS : Fn1 := ⟨21, [.t 4], (.seq (.reg [o 4 (.mov (.k (.int .i64 0)))]) (.seq (.seq (.reg [o 5 (.mov (.k (.int .i64 0)))]) (.blk 0 (.lop (.seq (.seq (.reg [o 6 (.mov (.t 5)), o 7 (.mov (.t 0)), o 8 (.len false (.t 7)), o 9 (.bin .lss (.t 6) (.t 8))]) (.cnd (.t 9) .skip (.ext 0))) (.seq (.blk 1 (.seq (.seq (.reg [o 12 (.mov (.t 0)), o 13 (.mov (.t 5)), o 14 (.iad 1 (.t 12) (.t 13)), o 15 (.ld false 1 (.t 14)), o 16 (.mov (.t 1)), o 17 (.bin .neq (.t 15) (.t 16))]) (.cnd (.t 17) (.seq (.reg [o 4 (.mov (.k (.int .i64 (-1))))]) .ret) .skip)) (.reg [o 18 (.mov (.t 1)), o 19 (.bin .add (.t 18) (.k (.int .i64 1))), o 1 (.mov (.t 19))]))) (.reg [o 10 (.mov (.t 5)), o 11 (.bin .add (.t 10) (.k (.int .i64 1))), o 5 (.mov (.t 11))])))))) (.seq (.reg [o 20 (.mov (.t 1)), o 4 (.mov (.t 20))]) .ret)))⟩
theorem ir_l_heldIntS : compFn Try.prog n_l_heldIntS = some F_l_heldIntS := by kernel_rfl
theorem l_heldIntS_ret (σ : St) (v : GV) (n : Nat) (k : Int) (hR : RS pI.kd σ v (mkF mInt 1 k n)) (h0 : 0 ≤ k) (hk : k + 1 * n ≤ 4611686018427387904) : Ret Try.prog n_l_heldIntS [v, gi k] σ (gi (k + 1 * n)) σ := by
  refine ret_eq ir_l_heldIntS (Nat.le_of_ble_eq_true rfl) trivial ?_
  have hln := hR.len
  rw [mkF_length] at hln
  simp +contextual (maxSteps := 600000) (disch := omega) only [go_sem, Nat.reduceEqDiff, ↓reduceIte, Int.reduceEq, Int.reduceNeg, wrap_add, F_l_heldIntS]
  refine vc_for n 5 (fun i env τ => env 0 = v ∧ env 1 = gi (k + 1 * (i : Int)) ∧ σ <+: τ) rfl ⟨rfl, (by show gi k = gi (k + 1 * 0); simp), List.prefix_refl _⟩ ?_ ?_
  · rintro i env τ hi e5 c0 ⟨e0, e1, hp⟩
    have hj : i < (mkF mInt 1 k n).length := by rw [mkF_length]; exact hi
    have hat := int_at (hR.pre hp) hj
    simp only [mkF_get, mInt] at hat
    simp +contextual (maxSteps := 600000) (disch := omega) only [go_sem, Nat.reduceEqDiff, ↓reduceIte, Int.reduceEq, Int.reduceNeg, wrap_add, c0, e0, e1, e5, hln, hat, hp, bne_self_eq_false, beq_self_eq_true]
    omega
  · rintro env τ e5 c0 ⟨e0, e1, hp⟩
    simp +contextual (maxSteps := 600000) (disch := omega) only [go_sem, Nat.reduceEqDiff, ↓reduceIte, Int.reduceEq, Int.reduceNeg, wrap_add, c0, e0, e1, e5, hln, hp]
end Go.Proofs.Ytffnefmklckngaa.Sy

/- Contracts of the laws' own functions: HmkIntS. -/
namespace Go.Proofs.Ytffnefmklckngaa.Sy
open Go Go.RowKit
set_option linter.unusedSimpArgs false
set_option linter.unusedVariables false
abbrev n_l_markIntS : Nat := 21
def F_l_markIntS : Fn1 := ⟨19, [.t 4], (.seq (.reg [o 4 (.mov (.k (.int .i64 0)))]) (.seq (.seq (.reg [o 5 (.mov (.k (.int .i64 0)))]) (.blk 0 (.lop (.seq (.seq (.reg [o 6 (.mov (.t 5)), o 7 (.mov (.t 0)), o 8 (.len false (.t 7)), o 9 (.bin .lss (.t 6) (.t 8))]) (.cnd (.t 9) .skip (.ext 0))) (.seq (.blk 1 (.seq (.reg [o 12 (.mov (.t 0)), o 13 (.mov (.t 5)), o 14 (.mov (.t 1)), o 15 (.iad 1 (.t 12) (.t 13)), on (.st 1 (.t 15) (.t 14))]) (.reg [o 16 (.mov (.t 1)), o 17 (.bin .add (.t 16) (.k (.int .i64 1))), o 1 (.mov (.t 17))]))) (.reg [o 10 (.mov (.t 5)), o 11 (.bin .add (.t 10) (.k (.int .i64 1))), o 5 (.mov (.t 11))])))))) (.seq (.reg [o 18 (.mov (.t 1)), o 4 (.mov (.t 18))]) .ret)))⟩
theorem ir_l_markIntS : compFn Try.prog n_l_markIntS = some F_l_markIntS := by kernel_rfl
theorem l_markIntS_ret {σ τ : St} {rs : List Thg} (i0 : Nat) (v : GV) (l : List Int) (k : Int) (H : Hp σ τ rs) (hi0 : rs[i0]? = some (ow pI.kd v l)) (h0 : 0 ≤ k) (hk : k + 1 * l.length ≤ 4611686018427387904) : ∃ τ', Ret Try.prog n_l_markIntS [v, gi k] τ (gi (k + 1 * l.length)) τ' ∧ Hp σ τ' (rs.set i0 (ow pI.kd v (mkF mInt 1 k l.length))) := by
  have H := H.pick i0 hi0
  have hlt := (List.getElem?_eq_some_iff.1 hi0).1
  obtain ⟨r, τ', hR, rfl, H'⟩ := ret_mut (P := Try.prog) (σ := τ) (args := [v, gi k]) (Post := fun r τ' => r = gi (k + 1 * l.length) ∧ Hp σ τ' (ow pI.kd v (mkF mInt 1 k l.length) :: rs.eraseIdx i0)) ir_l_markIntS (Nat.le_of_ble_eq_true rfl) (by
    simp +contextual (maxSteps := 600000) (disch := omega) only [go_sem, Nat.reduceEqDiff, ↓reduceIte, Int.reduceEq, Int.reduceNeg, wrap_add, F_l_markIntS]
    refine vc_for l.length 5 (fun i env τ' => env 0 = v ∧ env 1 = gi (k + 1 * (i : Int)) ∧ τ.length ≤ τ'.length ∧ Hp σ τ' (ow pI.kd v ((mkF mInt 1 k l.length).take i ++ l.drop i) :: rs.eraseIdx i0)) rfl ⟨rfl, (by show gi k = gi (k + 1 * 0); simp), Nat.le_refl _, by simpa using H⟩ ?_ ?_
    · rintro i env τ' hi e5 c0 ⟨e0, e1, hle, H⟩
      have hL := mark_len (l := l) (e := mInt) (c := 1) (k := k) (i := i)
      have hst := mark_step (e := mInt) (c := 1) (k := k) hi
      generalize (mkF mInt 1 k l.length).take i ++ l.drop i = L at H hL hst
      have hj : i < L.length := by omega
      have h1 := H.sl 0 rfl
      have hln := h1.len
      rw [hL] at hln
      have hat := int_at h1 hj
      simp +contextual (maxSteps := 600000) (disch := omega) only [go_sem, Nat.reduceEqDiff, ↓reduceIte, Int.reduceEq, Int.reduceNeg, wrap_add, c0, e0, e1, e5, hln, hat]
      obtain ⟨τ2, es, H2⟩ := H.stw 0 rfl hj 1 (.int .i64 (k + 1 * (i : Int))) (mInt (k + 1 * (i : Int))) rfl rfl (by decide)
      have es : stG 1 τ' (atz 1 v i) (.int .i64 (k + 1 * (i : Int))) = some (.tup [], τ2) := es
      have hlen := stG_len es
      have H2 : Hp σ τ2 (ow pI.kd v (L.set i (mInt (k + (1 : Nat) * (i : Int)))) :: rs.eraseIdx i0) := H2
      rw [hst] at H2
      simp +contextual (maxSteps := 600000) (disch := omega) only [go_sem, Nat.reduceEqDiff, ↓reduceIte, Int.reduceEq, Int.reduceNeg, wrap_add, c0, e0, e1, e5, hln, hat, es]
      exact ⟨by omega, by omega, H2⟩
    · rintro env τ' e5 c0 ⟨e0, e1, hle, H⟩
      rw [mark_end] at H
      have hln := (H.sl 0 rfl).len
      rw [mkF_length] at hln
      simp +contextual (maxSteps := 600000) (disch := omega) only [go_sem, Nat.reduceEqDiff, ↓reduceIte, Int.reduceEq, Int.reduceNeg, wrap_add, c0, e0, e1, e5, hln]
      exact ⟨_, rfl, hle, rfl, H⟩)
  exact ⟨τ', hR, H'.unpick hlt⟩
end Go.Proofs.Ytffnefmklckngaa.Sy

/- Contracts of the laws' own functions: marks of records. -/
namespace Go.Proofs.Ytffnefmklckngaa.Sy
open Go Go.RowKit
set_option linter.unusedSimpArgs false
set_option linter.unusedVariables false
def ctState (x : State) : Nat := 1 * x.know.length + 3 * x.tallies.length + 6 * x.lives.length + 8 * x.cells.length
def mkState (k : Int) (x : State) : State := { x with know := (mkF mInt 1 (k) x.know.length), tallies := (mkF mTally 3 (k + 1 * (x.know.length : Int)) x.tallies.length), lives := (mkF mLive 6 (k + 1 * (x.know.length : Int) + 3 * (x.tallies.length : Int)) x.lives.length), cells := (mkF mCell 8 (k + 1 * (x.know.length : Int) + 3 * (x.tallies.length : Int) + 6 * (x.lives.length : Int)) x.cells.length) }
theorem ctState_le (x : State) : ctState x ≤ 10 * msState x := by
  unfold ctState msState; omega
def ctAct (x : Act) : Nat := 1 * x.knew.length
def mkAct (k : Int) (x : Act) : Act := { x with knew := (mkF mInt 1 (k) x.knew.length) }
theorem ctAct_le (x : Act) : ctAct x ≤ 10 * msAct x := by
  unfold ctAct msAct; omega
def ctDelta (x : Delta) : Nat := 1 * x.base.length + 1 * x.know.length + 3 * x.tallies.length + 6 * x.lives.length + 2 * x.dead.length + 8 * x.cells.length
def mkDelta (k : Int) (x : Delta) : Delta := { x with base := (mkF mInt 1 (k) x.base.length), know := (mkF mInt 1 (k + 1 * (x.base.length : Int)) x.know.length), tallies := (mkF mTally 3 (k + 1 * (x.base.length : Int) + 1 * (x.know.length : Int)) x.tallies.length), lives := (mkF mLive 6 (k + 1 * (x.base.length : Int) + 1 * (x.know.length : Int) + 3 * (x.tallies.length : Int)) x.lives.length), dead := (mkF mDot 2 (k + 1 * (x.base.length : Int) + 1 * (x.know.length : Int) + 3 * (x.tallies.length : Int) + 6 * (x.lives.length : Int)) x.dead.length), cells := (mkF mCell 8 (k + 1 * (x.base.length : Int) + 1 * (x.know.length : Int) + 3 * (x.tallies.length : Int) + 6 * (x.lives.length : Int) + 2 * (x.dead.length : Int)) x.cells.length) }
theorem ctDelta_le (x : Delta) : ctDelta x ≤ 10 * msDelta x := by
  unfold ctDelta msDelta; omega
end Go.Proofs.Ytffnefmklckngaa.Sy

/- Contracts of the laws' own functions: HmkCellS. -/
namespace Go.Proofs.Ytffnefmklckngaa.Sy
open Go Go.RowKit
set_option linter.unusedSimpArgs false
set_option linter.unusedVariables false
abbrev n_l_markCellS : Nat := 48
def F_l_markCellS : Fn1 := ⟨76, [.t 4], (.seq (.reg [o 4 (.mov (.k (.int .i64 0)))]) (.seq (.seq (.reg [o 5 (.mov (.k (.int .i64 0)))]) (.blk 0 (.lop (.seq (.seq (.reg [o 6 (.mov (.t 5)), o 7 (.mov (.t 0)), o 8 (.len false (.t 7)), o 9 (.bin .lss (.t 6) (.t 8))]) (.cnd (.t 9) .skip (.ext 0))) (.seq (.blk 1 (.seq (.reg [o 12 (.mov (.t 0)), o 13 (.mov (.t 5)), o 14 (.mov (.t 1)), o 15 (.call 79 [(.t 14)]), o 16 (.iad 8 (.t 12) (.t 13)), o 17 (.fad 0 (.t 16)), on (.st 1 (.t 17) (.t 15))]) (.seq (.reg [o 18 (.mov (.t 1)), o 19 (.bin .add (.t 18) (.k (.int .i64 1))), o 1 (.mov (.t 19))]) (.seq (.reg [o 20 (.mov (.t 0)), o 21 (.mov (.t 5)), o 22 (.mov (.t 1)), o 23 (.iad 8 (.t 20) (.t 21)), o 24 (.fad 1 (.t 23)), o 25 (.fad 0 (.t 24)), on (.st 1 (.t 25) (.t 22))]) (.seq (.reg [o 26 (.mov (.t 1)), o 27 (.bin .add (.t 26) (.k (.int .i64 1))), o 1 (.mov (.t 27))]) (.seq (.reg [o 28 (.mov (.t 0)), o 29 (.mov (.t 5)), o 30 (.mov (.t 1)), o 31 (.iad 8 (.t 28) (.t 29)), o 32 (.fad 1 (.t 31)), o 33 (.fad 1 (.t 32)), on (.st 1 (.t 33) (.t 30))]) (.seq (.reg [o 34 (.mov (.t 1)), o 35 (.bin .add (.t 34) (.k (.int .i64 1))), o 1 (.mov (.t 35))]) (.seq (.reg [o 36 (.mov (.t 0)), o 37 (.mov (.t 5)), o 38 (.mov (.t 1)), o 39 (.iad 8 (.t 36) (.t 37)), o 40 (.fad 3 (.t 39)), on (.st 1 (.t 40) (.t 38))]) (.seq (.reg [o 41 (.mov (.t 1)), o 42 (.bin .add (.t 41) (.k (.int .i64 1))), o 1 (.mov (.t 42))]) (.seq (.reg [o 43 (.mov (.t 0)), o 44 (.mov (.t 5)), o 45 (.mov (.t 1)), o 46 (.iad 8 (.t 43) (.t 44)), o 47 (.fad 4 (.t 46)), o 48 (.fad 0 (.t 47)), on (.st 1 (.t 48) (.t 45))]) (.seq (.reg [o 49 (.mov (.t 1)), o 50 (.bin .add (.t 49) (.k (.int .i64 1))), o 1 (.mov (.t 50))]) (.seq (.reg [o 51 (.mov (.t 0)), o 52 (.mov (.t 5)), o 53 (.mov (.t 1)), o 54 (.iad 8 (.t 51) (.t 52)), o 55 (.fad 4 (.t 54)), o 56 (.fad 1 (.t 55)), on (.st 1 (.t 56) (.t 53))]) (.seq (.reg [o 57 (.mov (.t 1)), o 58 (.bin .add (.t 57) (.k (.int .i64 1))), o 1 (.mov (.t 58))]) (.seq (.reg [o 59 (.mov (.t 0)), o 60 (.mov (.t 5)), o 61 (.mov (.t 1)), o 62 (.iad 8 (.t 59) (.t 60)), o 63 (.fad 6 (.t 62)), on (.st 1 (.t 63) (.t 61))]) (.seq (.reg [o 64 (.mov (.t 1)), o 65 (.bin .add (.t 64) (.k (.int .i64 1))), o 1 (.mov (.t 65))]) (.seq (.reg [o 66 (.mov (.t 0)), o 67 (.mov (.t 5)), o 68 (.mov (.t 1)), o 69 (.bin .rem (.t 68) (.k (.int .i64 3))), o 70 (.bin .eql (.t 69) (.k (.int .i64 0))), o 71 (.iad 8 (.t 66) (.t 67)), o 72 (.fad 7 (.t 71)), on (.st 1 (.t 72) (.t 70))]) (.reg [o 73 (.mov (.t 1)), o 74 (.bin .add (.t 73) (.k (.int .i64 1))), o 1 (.mov (.t 74))]))))))))))))))))) (.reg [o 10 (.mov (.t 5)), o 11 (.bin .add (.t 10) (.k (.int .i64 1))), o 5 (.mov (.t 11))])))))) (.seq (.reg [o 75 (.mov (.t 1)), o 4 (.mov (.t 75))]) .ret)))⟩
theorem ir_l_markCellS : compFn Try.prog n_l_markCellS = some F_l_markCellS := by kernel_rfl
theorem l_markCellS_ret {σ τ : St} {rs : List Thg} (i0 : Nat) (v : GV) (l : List Cell) (k : Int) (H : Hp σ τ rs) (hi0 : rs[i0]? = some (ow pCell.kd v l)) (h0 : 0 ≤ k) (hk : k + 8 * l.length ≤ 4611686018427387904) : ∃ τ', Ret Try.prog n_l_markCellS [v, gi k] τ (gi (k + 8 * l.length)) τ' ∧ Hp σ τ' (rs.set i0 (ow pCell.kd v (mkF mCell 8 k l.length))) := by
  have H := H.pick i0 hi0
  have hlt := (List.getElem?_eq_some_iff.1 hi0).1
  obtain ⟨r, τ', hR, rfl, H'⟩ := ret_mut (P := Try.prog) (σ := τ) (args := [v, gi k]) (Post := fun r τ' => r = gi (k + 8 * l.length) ∧ Hp σ τ' (ow pCell.kd v (mkF mCell 8 k l.length) :: rs.eraseIdx i0)) ir_l_markCellS (Nat.le_of_ble_eq_true rfl) (by
    simp +contextual (maxSteps := 600000) (disch := omega) only [go_sem, Nat.reduceEqDiff, ↓reduceIte, Int.reduceEq, Int.reduceNeg, wrap_add, F_l_markCellS]
    refine vc_for l.length 5 (fun i env τ' => env 0 = v ∧ env 1 = gi (k + 8 * (i : Int)) ∧ τ.length ≤ τ'.length ∧ Hp σ τ' (ow pCell.kd v ((mkF mCell 8 k l.length).take i ++ l.drop i) :: rs.eraseIdx i0)) rfl ⟨rfl, (by show gi k = gi (k + 8 * 0); simp), Nat.le_refl _, by simpa using H⟩ ?_ ?_
    · rintro i env τ' hi e5 c0 ⟨e0, e1, hle, H⟩
      have hL := mark_len (l := l) (e := mCell) (c := 8) (k := k) (i := i)
      have hst := mark_step (e := mCell) (c := 8) (k := k) hi
      generalize (mkF mCell 8 k l.length).take i ++ l.drop i = L at H hL hst
      have hj : i < L.length := by omega
      have h1 := H.sl 0 rfl
      have hln := h1.len
      rw [hL] at hln
      have hat := Cell_at h1 hj
      rw [set_self hj] at H
      generalize hy : L[i] = y at H hat
      simp +contextual (maxSteps := 600000) (disch := omega) only [go_sem, Nat.reduceEqDiff, ↓reduceIte, Int.reduceEq, Int.reduceNeg, wrap_add, c0, e0, e1, e5, hln, hat]
      refine by_ret (l_markText_ret _ _ (by omega)) ?_
      simp +contextual (maxSteps := 600000) (disch := omega) only [go_sem, Nat.reduceEqDiff, ↓reduceIte, Int.reduceEq, Int.reduceNeg, wrap_add, e0, e1, hat]
      obtain ⟨τ0, es, H⟩ := H.sts hj 1 0 (.str (mtx (k + 8 * (i : Int)))) (⟨mtx (k + 8 * (i : Int)), ⟨y.dot.rep, y.dot.seq⟩, y.time, ⟨y.ref.rep, y.ref.seq⟩, y.val, y.gone⟩) rfl (by decide) (by decide) rfl
      have es : stG 1 τ' (fld 0 (atz 8 v i)) (.str (mtx (k + 8 * (i : Int)))) = some (.tup [], τ0) := es
      have hl0 := stG_len es
      simp +contextual (maxSteps := 600000) (disch := omega) only [go_sem, Nat.reduceEqDiff, ↓reduceIte, Int.reduceEq, Int.reduceNeg, wrap_add, e0, e1, e5, hat, es]
      obtain ⟨τ1, es, H⟩ := H.sts hj 1 1 (.int .i64 (k + 8 * (i : Int) + 1)) (⟨mtx (k + 8 * (i : Int)), ⟨k + 8 * (i : Int) + 1, y.dot.seq⟩, y.time, ⟨y.ref.rep, y.ref.seq⟩, y.val, y.gone⟩) rfl (by decide) (by decide) rfl
      have es : stG 1 τ0 (fld 1 (atz 8 v i)) (.int .i64 (k + 8 * (i : Int) + 1)) = some (.tup [], τ1) := es
      have hl1 := stG_len es
      simp +contextual (maxSteps := 600000) (disch := omega) only [go_sem, Nat.reduceEqDiff, ↓reduceIte, Int.reduceEq, Int.reduceNeg, wrap_add, e0, e1, e5, hat, es]
      obtain ⟨τ2, es, H⟩ := H.sts hj 1 2 (.int .i64 (k + 8 * (i : Int) + 1 + 1)) (⟨mtx (k + 8 * (i : Int)), ⟨k + 8 * (i : Int) + 1, k + 8 * (i : Int) + 1 + 1⟩, y.time, ⟨y.ref.rep, y.ref.seq⟩, y.val, y.gone⟩) rfl (by decide) (by decide) rfl
      have es : stG 1 τ1 (fld 2 (atz 8 v i)) (.int .i64 (k + 8 * (i : Int) + 1 + 1)) = some (.tup [], τ2) := es
      have hl2 := stG_len es
      simp +contextual (maxSteps := 600000) (disch := omega) only [go_sem, Nat.reduceEqDiff, ↓reduceIte, Int.reduceEq, Int.reduceNeg, wrap_add, e0, e1, e5, hat, es]
      obtain ⟨τ3, es, H⟩ := H.sts hj 1 3 (.int .i64 (k + 8 * (i : Int) + 1 + 1 + 1)) (⟨mtx (k + 8 * (i : Int)), ⟨k + 8 * (i : Int) + 1, k + 8 * (i : Int) + 1 + 1⟩, k + 8 * (i : Int) + 1 + 1 + 1, ⟨y.ref.rep, y.ref.seq⟩, y.val, y.gone⟩) rfl (by decide) (by decide) rfl
      have es : stG 1 τ2 (fld 3 (atz 8 v i)) (.int .i64 (k + 8 * (i : Int) + 1 + 1 + 1)) = some (.tup [], τ3) := es
      have hl3 := stG_len es
      simp +contextual (maxSteps := 600000) (disch := omega) only [go_sem, Nat.reduceEqDiff, ↓reduceIte, Int.reduceEq, Int.reduceNeg, wrap_add, e0, e1, e5, hat, es]
      obtain ⟨τ4, es, H⟩ := H.sts hj 1 4 (.int .i64 (k + 8 * (i : Int) + 1 + 1 + 1 + 1)) (⟨mtx (k + 8 * (i : Int)), ⟨k + 8 * (i : Int) + 1, k + 8 * (i : Int) + 1 + 1⟩, k + 8 * (i : Int) + 1 + 1 + 1, ⟨k + 8 * (i : Int) + 1 + 1 + 1 + 1, y.ref.seq⟩, y.val, y.gone⟩) rfl (by decide) (by decide) rfl
      have es : stG 1 τ3 (fld 4 (atz 8 v i)) (.int .i64 (k + 8 * (i : Int) + 1 + 1 + 1 + 1)) = some (.tup [], τ4) := es
      have hl4 := stG_len es
      simp +contextual (maxSteps := 600000) (disch := omega) only [go_sem, Nat.reduceEqDiff, ↓reduceIte, Int.reduceEq, Int.reduceNeg, wrap_add, e0, e1, e5, hat, es]
      obtain ⟨τ5, es, H⟩ := H.sts hj 1 5 (.int .i64 (k + 8 * (i : Int) + 1 + 1 + 1 + 1 + 1)) (⟨mtx (k + 8 * (i : Int)), ⟨k + 8 * (i : Int) + 1, k + 8 * (i : Int) + 1 + 1⟩, k + 8 * (i : Int) + 1 + 1 + 1, ⟨k + 8 * (i : Int) + 1 + 1 + 1 + 1, k + 8 * (i : Int) + 1 + 1 + 1 + 1 + 1⟩, y.val, y.gone⟩) rfl (by decide) (by decide) rfl
      have es : stG 1 τ4 (fld 5 (atz 8 v i)) (.int .i64 (k + 8 * (i : Int) + 1 + 1 + 1 + 1 + 1)) = some (.tup [], τ5) := es
      have hl5 := stG_len es
      simp +contextual (maxSteps := 600000) (disch := omega) only [go_sem, Nat.reduceEqDiff, ↓reduceIte, Int.reduceEq, Int.reduceNeg, wrap_add, e0, e1, e5, hat, es]
      obtain ⟨τ6, es, H⟩ := H.sts hj 1 6 (.int .i64 (k + 8 * (i : Int) + 1 + 1 + 1 + 1 + 1 + 1)) (⟨mtx (k + 8 * (i : Int)), ⟨k + 8 * (i : Int) + 1, k + 8 * (i : Int) + 1 + 1⟩, k + 8 * (i : Int) + 1 + 1 + 1, ⟨k + 8 * (i : Int) + 1 + 1 + 1 + 1, k + 8 * (i : Int) + 1 + 1 + 1 + 1 + 1⟩, k + 8 * (i : Int) + 1 + 1 + 1 + 1 + 1 + 1, y.gone⟩) rfl (by decide) (by decide) rfl
      have es : stG 1 τ5 (fld 6 (atz 8 v i)) (.int .i64 (k + 8 * (i : Int) + 1 + 1 + 1 + 1 + 1 + 1)) = some (.tup [], τ6) := es
      have hl6 := stG_len es
      simp +contextual (maxSteps := 600000) (disch := omega) only [go_sem, Nat.reduceEqDiff, ↓reduceIte, Int.reduceEq, Int.reduceNeg, wrap_add, e0, e1, e5, hat, es]
      obtain ⟨τ7, es, H⟩ := H.sts hj 1 7 (.bool ((k + 8 * (i : Int) + 1 + 1 + 1 + 1 + 1 + 1 + 1).tmod 3 == 0)) (⟨mtx (k + 8 * (i : Int)), ⟨k + 8 * (i : Int) + 1, k + 8 * (i : Int) + 1 + 1⟩, k + 8 * (i : Int) + 1 + 1 + 1, ⟨k + 8 * (i : Int) + 1 + 1 + 1 + 1, k + 8 * (i : Int) + 1 + 1 + 1 + 1 + 1⟩, k + 8 * (i : Int) + 1 + 1 + 1 + 1 + 1 + 1, ((k + 8 * (i : Int) + 1 + 1 + 1 + 1 + 1 + 1 + 1).tmod 3 == 0)⟩) rfl (by decide) (by decide) rfl
      have es : stG 1 τ6 (fld 7 (atz 8 v i)) (.bool ((k + 8 * (i : Int) + 1 + 1 + 1 + 1 + 1 + 1 + 1).tmod 3 == 0)) = some (.tup [], τ7) := es
      have hl7 := stG_len es
      simp +contextual (maxSteps := 600000) (disch := omega) only [go_sem, Nat.reduceEqDiff, ↓reduceIte, Int.reduceEq, Int.reduceNeg, wrap_add, e0, e1, e5, hat, es]
      have H2 : Hp σ τ7 (ow pCell.kd v (L.set i (mCell (k + (8 : Nat) * (i : Int)))) :: rs.eraseIdx i0) := H
      rw [hst] at H2
      exact ⟨by omega, by omega, H2⟩
    · rintro env τ' e5 c0 ⟨e0, e1, hle, H⟩
      rw [mark_end] at H
      have hln := (H.sl 0 rfl).len
      rw [mkF_length] at hln
      simp +contextual (maxSteps := 600000) (disch := omega) only [go_sem, Nat.reduceEqDiff, ↓reduceIte, Int.reduceEq, Int.reduceNeg, wrap_add, c0, e0, e1, e5, hln]
      exact ⟨_, rfl, hle, rfl, H⟩)
  exact ⟨τ', hR, H'.unpick hlt⟩
end Go.Proofs.Ytffnefmklckngaa.Sy

/- Contracts of the laws' own functions: HmkLiveS. -/
namespace Go.Proofs.Ytffnefmklckngaa.Sy
open Go Go.RowKit
set_option linter.unusedSimpArgs false
set_option linter.unusedVariables false
abbrev n_l_markLiveS : Nat := 47
def F_l_markLiveS : Fn1 := ⟨61, [.t 4], (.seq (.reg [o 4 (.mov (.k (.int .i64 0)))]) (.seq (.seq (.reg [o 5 (.mov (.k (.int .i64 0)))]) (.blk 0 (.lop (.seq (.seq (.reg [o 6 (.mov (.t 5)), o 7 (.mov (.t 0)), o 8 (.len false (.t 7)), o 9 (.bin .lss (.t 6) (.t 8))]) (.cnd (.t 9) .skip (.ext 0))) (.seq (.blk 1 (.seq (.reg [o 12 (.mov (.t 0)), o 13 (.mov (.t 5)), o 14 (.mov (.t 1)), o 15 (.bin .rem (.t 14) (.k (.int .i64 3))), o 16 (.bin .eql (.t 15) (.k (.int .i64 0))), o 17 (.iad 6 (.t 12) (.t 13)), o 18 (.fad 0 (.t 17)), on (.st 1 (.t 18) (.t 16))]) (.seq (.reg [o 19 (.mov (.t 1)), o 20 (.bin .add (.t 19) (.k (.int .i64 1))), o 1 (.mov (.t 20))]) (.seq (.reg [o 21 (.mov (.t 0)), o 22 (.mov (.t 5)), o 23 (.mov (.t 1)), o 24 (.call 79 [(.t 23)]), o 25 (.iad 6 (.t 21) (.t 22)), o 26 (.fad 1 (.t 25)), on (.st 1 (.t 26) (.t 24))]) (.seq (.reg [o 27 (.mov (.t 1)), o 28 (.bin .add (.t 27) (.k (.int .i64 1))), o 1 (.mov (.t 28))]) (.seq (.reg [o 29 (.mov (.t 0)), o 30 (.mov (.t 5)), o 31 (.mov (.t 1)), o 32 (.call 79 [(.t 31)]), o 33 (.iad 6 (.t 29) (.t 30)), o 34 (.fad 2 (.t 33)), on (.st 1 (.t 34) (.t 32))]) (.seq (.reg [o 35 (.mov (.t 1)), o 36 (.bin .add (.t 35) (.k (.int .i64 1))), o 1 (.mov (.t 36))]) (.seq (.reg [o 37 (.mov (.t 0)), o 38 (.mov (.t 5)), o 39 (.mov (.t 1)), o 40 (.iad 6 (.t 37) (.t 38)), o 41 (.fad 3 (.t 40)), on (.st 1 (.t 41) (.t 39))]) (.seq (.reg [o 42 (.mov (.t 1)), o 43 (.bin .add (.t 42) (.k (.int .i64 1))), o 1 (.mov (.t 43))]) (.seq (.reg [o 44 (.mov (.t 0)), o 45 (.mov (.t 5)), o 46 (.mov (.t 1)), o 47 (.iad 6 (.t 44) (.t 45)), o 48 (.fad 4 (.t 47)), o 49 (.fad 0 (.t 48)), on (.st 1 (.t 49) (.t 46))]) (.seq (.reg [o 50 (.mov (.t 1)), o 51 (.bin .add (.t 50) (.k (.int .i64 1))), o 1 (.mov (.t 51))]) (.seq (.reg [o 52 (.mov (.t 0)), o 53 (.mov (.t 5)), o 54 (.mov (.t 1)), o 55 (.iad 6 (.t 52) (.t 53)), o 56 (.fad 4 (.t 55)), o 57 (.fad 1 (.t 56)), on (.st 1 (.t 57) (.t 54))]) (.reg [o 58 (.mov (.t 1)), o 59 (.bin .add (.t 58) (.k (.int .i64 1))), o 1 (.mov (.t 59))]))))))))))))) (.reg [o 10 (.mov (.t 5)), o 11 (.bin .add (.t 10) (.k (.int .i64 1))), o 5 (.mov (.t 11))])))))) (.seq (.reg [o 60 (.mov (.t 1)), o 4 (.mov (.t 60))]) .ret)))⟩
theorem ir_l_markLiveS : compFn Try.prog n_l_markLiveS = some F_l_markLiveS := by kernel_rfl
theorem l_markLiveS_ret {σ τ : St} {rs : List Thg} (i0 : Nat) (v : GV) (l : List Live) (k : Int) (H : Hp σ τ rs) (hi0 : rs[i0]? = some (ow pLive.kd v l)) (h0 : 0 ≤ k) (hk : k + 6 * l.length ≤ 4611686018427387904) : ∃ τ', Ret Try.prog n_l_markLiveS [v, gi k] τ (gi (k + 6 * l.length)) τ' ∧ Hp σ τ' (rs.set i0 (ow pLive.kd v (mkF mLive 6 k l.length))) := by
  have H := H.pick i0 hi0
  have hlt := (List.getElem?_eq_some_iff.1 hi0).1
  obtain ⟨r, τ', hR, rfl, H'⟩ := ret_mut (P := Try.prog) (σ := τ) (args := [v, gi k]) (Post := fun r τ' => r = gi (k + 6 * l.length) ∧ Hp σ τ' (ow pLive.kd v (mkF mLive 6 k l.length) :: rs.eraseIdx i0)) ir_l_markLiveS (Nat.le_of_ble_eq_true rfl) (by
    simp +contextual (maxSteps := 600000) (disch := omega) only [go_sem, Nat.reduceEqDiff, ↓reduceIte, Int.reduceEq, Int.reduceNeg, wrap_add, F_l_markLiveS]
    refine vc_for l.length 5 (fun i env τ' => env 0 = v ∧ env 1 = gi (k + 6 * (i : Int)) ∧ τ.length ≤ τ'.length ∧ Hp σ τ' (ow pLive.kd v ((mkF mLive 6 k l.length).take i ++ l.drop i) :: rs.eraseIdx i0)) rfl ⟨rfl, (by show gi k = gi (k + 6 * 0); simp), Nat.le_refl _, by simpa using H⟩ ?_ ?_
    · rintro i env τ' hi e5 c0 ⟨e0, e1, hle, H⟩
      have hL := mark_len (l := l) (e := mLive) (c := 6) (k := k) (i := i)
      have hst := mark_step (e := mLive) (c := 6) (k := k) hi
      generalize (mkF mLive 6 k l.length).take i ++ l.drop i = L at H hL hst
      have hj : i < L.length := by omega
      have h1 := H.sl 0 rfl
      have hln := h1.len
      rw [hL] at hln
      have hat := Live_at h1 hj
      rw [set_self hj] at H
      generalize hy : L[i] = y at H hat
      simp +contextual (maxSteps := 600000) (disch := omega) only [go_sem, Nat.reduceEqDiff, ↓reduceIte, Int.reduceEq, Int.reduceNeg, wrap_add, c0, e0, e1, e5, hln, hat]
      obtain ⟨τ0, es, H⟩ := H.sts hj 1 0 (.bool ((k + 6 * (i : Int)).tmod 3 == 0)) (⟨((k + 6 * (i : Int)).tmod 3 == 0), y.obj, y.key, y.val, ⟨y.dot.rep, y.dot.seq⟩⟩) rfl (by decide) (by decide) rfl
      have es : stG 1 τ' (fld 0 (atz 6 v i)) (.bool ((k + 6 * (i : Int)).tmod 3 == 0)) = some (.tup [], τ0) := es
      have hl0 := stG_len es
      simp +contextual (maxSteps := 600000) (disch := omega) only [go_sem, Nat.reduceEqDiff, ↓reduceIte, Int.reduceEq, Int.reduceNeg, wrap_add, e0, e1, e5, hat, es]
      refine by_ret (l_markText_ret _ _ (by omega)) ?_
      simp +contextual (maxSteps := 600000) (disch := omega) only [go_sem, Nat.reduceEqDiff, ↓reduceIte, Int.reduceEq, Int.reduceNeg, wrap_add, e0, e1, hat]
      obtain ⟨τ1, es, H⟩ := H.sts hj 1 1 (.str (mtx (k + 6 * (i : Int) + 1))) (⟨((k + 6 * (i : Int)).tmod 3 == 0), mtx (k + 6 * (i : Int) + 1), y.key, y.val, ⟨y.dot.rep, y.dot.seq⟩⟩) rfl (by decide) (by decide) rfl
      have es : stG 1 τ0 (fld 1 (atz 6 v i)) (.str (mtx (k + 6 * (i : Int) + 1))) = some (.tup [], τ1) := es
      have hl1 := stG_len es
      simp +contextual (maxSteps := 600000) (disch := omega) only [go_sem, Nat.reduceEqDiff, ↓reduceIte, Int.reduceEq, Int.reduceNeg, wrap_add, e0, e1, e5, hat, es]
      refine by_ret (l_markText_ret _ _ (by omega)) ?_
      simp +contextual (maxSteps := 600000) (disch := omega) only [go_sem, Nat.reduceEqDiff, ↓reduceIte, Int.reduceEq, Int.reduceNeg, wrap_add, e0, e1, hat]
      obtain ⟨τ2, es, H⟩ := H.sts hj 1 2 (.str (mtx (k + 6 * (i : Int) + 1 + 1))) (⟨((k + 6 * (i : Int)).tmod 3 == 0), mtx (k + 6 * (i : Int) + 1), mtx (k + 6 * (i : Int) + 1 + 1), y.val, ⟨y.dot.rep, y.dot.seq⟩⟩) rfl (by decide) (by decide) rfl
      have es : stG 1 τ1 (fld 2 (atz 6 v i)) (.str (mtx (k + 6 * (i : Int) + 1 + 1))) = some (.tup [], τ2) := es
      have hl2 := stG_len es
      simp +contextual (maxSteps := 600000) (disch := omega) only [go_sem, Nat.reduceEqDiff, ↓reduceIte, Int.reduceEq, Int.reduceNeg, wrap_add, e0, e1, e5, hat, es]
      obtain ⟨τ3, es, H⟩ := H.sts hj 1 3 (.int .i64 (k + 6 * (i : Int) + 1 + 1 + 1)) (⟨((k + 6 * (i : Int)).tmod 3 == 0), mtx (k + 6 * (i : Int) + 1), mtx (k + 6 * (i : Int) + 1 + 1), k + 6 * (i : Int) + 1 + 1 + 1, ⟨y.dot.rep, y.dot.seq⟩⟩) rfl (by decide) (by decide) rfl
      have es : stG 1 τ2 (fld 3 (atz 6 v i)) (.int .i64 (k + 6 * (i : Int) + 1 + 1 + 1)) = some (.tup [], τ3) := es
      have hl3 := stG_len es
      simp +contextual (maxSteps := 600000) (disch := omega) only [go_sem, Nat.reduceEqDiff, ↓reduceIte, Int.reduceEq, Int.reduceNeg, wrap_add, e0, e1, e5, hat, es]
      obtain ⟨τ4, es, H⟩ := H.sts hj 1 4 (.int .i64 (k + 6 * (i : Int) + 1 + 1 + 1 + 1)) (⟨((k + 6 * (i : Int)).tmod 3 == 0), mtx (k + 6 * (i : Int) + 1), mtx (k + 6 * (i : Int) + 1 + 1), k + 6 * (i : Int) + 1 + 1 + 1, ⟨k + 6 * (i : Int) + 1 + 1 + 1 + 1, y.dot.seq⟩⟩) rfl (by decide) (by decide) rfl
      have es : stG 1 τ3 (fld 4 (atz 6 v i)) (.int .i64 (k + 6 * (i : Int) + 1 + 1 + 1 + 1)) = some (.tup [], τ4) := es
      have hl4 := stG_len es
      simp +contextual (maxSteps := 600000) (disch := omega) only [go_sem, Nat.reduceEqDiff, ↓reduceIte, Int.reduceEq, Int.reduceNeg, wrap_add, e0, e1, e5, hat, es]
      obtain ⟨τ5, es, H⟩ := H.sts hj 1 5 (.int .i64 (k + 6 * (i : Int) + 1 + 1 + 1 + 1 + 1)) (⟨((k + 6 * (i : Int)).tmod 3 == 0), mtx (k + 6 * (i : Int) + 1), mtx (k + 6 * (i : Int) + 1 + 1), k + 6 * (i : Int) + 1 + 1 + 1, ⟨k + 6 * (i : Int) + 1 + 1 + 1 + 1, k + 6 * (i : Int) + 1 + 1 + 1 + 1 + 1⟩⟩) rfl (by decide) (by decide) rfl
      have es : stG 1 τ4 (fld 5 (atz 6 v i)) (.int .i64 (k + 6 * (i : Int) + 1 + 1 + 1 + 1 + 1)) = some (.tup [], τ5) := es
      have hl5 := stG_len es
      simp +contextual (maxSteps := 600000) (disch := omega) only [go_sem, Nat.reduceEqDiff, ↓reduceIte, Int.reduceEq, Int.reduceNeg, wrap_add, e0, e1, e5, hat, es]
      have H2 : Hp σ τ5 (ow pLive.kd v (L.set i (mLive (k + (6 : Nat) * (i : Int)))) :: rs.eraseIdx i0) := H
      rw [hst] at H2
      exact ⟨by omega, by omega, H2⟩
    · rintro env τ' e5 c0 ⟨e0, e1, hle, H⟩
      rw [mark_end] at H
      have hln := (H.sl 0 rfl).len
      rw [mkF_length] at hln
      simp +contextual (maxSteps := 600000) (disch := omega) only [go_sem, Nat.reduceEqDiff, ↓reduceIte, Int.reduceEq, Int.reduceNeg, wrap_add, c0, e0, e1, e5, hln]
      exact ⟨_, rfl, hle, rfl, H⟩)
  exact ⟨τ', hR, H'.unpick hlt⟩
end Go.Proofs.Ytffnefmklckngaa.Sy

/- Contracts of the laws' own functions: HmkTallyS. -/
namespace Go.Proofs.Ytffnefmklckngaa.Sy
open Go Go.RowKit
set_option linter.unusedSimpArgs false
set_option linter.unusedVariables false
abbrev n_l_markTallyS : Nat := 46
def F_l_markTallyS : Fn1 := ⟨35, [.t 4], (.seq (.reg [o 4 (.mov (.k (.int .i64 0)))]) (.seq (.seq (.reg [o 5 (.mov (.k (.int .i64 0)))]) (.blk 0 (.lop (.seq (.seq (.reg [o 6 (.mov (.t 5)), o 7 (.mov (.t 0)), o 8 (.len false (.t 7)), o 9 (.bin .lss (.t 6) (.t 8))]) (.cnd (.t 9) .skip (.ext 0))) (.seq (.blk 1 (.seq (.reg [o 12 (.mov (.t 0)), o 13 (.mov (.t 5)), o 14 (.mov (.t 1)), o 15 (.call 79 [(.t 14)]), o 16 (.iad 3 (.t 12) (.t 13)), o 17 (.fad 0 (.t 16)), on (.st 1 (.t 17) (.t 15))]) (.seq (.reg [o 18 (.mov (.t 1)), o 19 (.bin .add (.t 18) (.k (.int .i64 1))), o 1 (.mov (.t 19))]) (.seq (.reg [o 20 (.mov (.t 0)), o 21 (.mov (.t 5)), o 22 (.mov (.t 1)), o 23 (.iad 3 (.t 20) (.t 21)), o 24 (.fad 1 (.t 23)), on (.st 1 (.t 24) (.t 22))]) (.seq (.reg [o 25 (.mov (.t 1)), o 26 (.bin .add (.t 25) (.k (.int .i64 1))), o 1 (.mov (.t 26))]) (.seq (.reg [o 27 (.mov (.t 0)), o 28 (.mov (.t 5)), o 29 (.mov (.t 1)), o 30 (.iad 3 (.t 27) (.t 28)), o 31 (.fad 2 (.t 30)), on (.st 1 (.t 31) (.t 29))]) (.reg [o 32 (.mov (.t 1)), o 33 (.bin .add (.t 32) (.k (.int .i64 1))), o 1 (.mov (.t 33))]))))))) (.reg [o 10 (.mov (.t 5)), o 11 (.bin .add (.t 10) (.k (.int .i64 1))), o 5 (.mov (.t 11))])))))) (.seq (.reg [o 34 (.mov (.t 1)), o 4 (.mov (.t 34))]) .ret)))⟩
theorem ir_l_markTallyS : compFn Try.prog n_l_markTallyS = some F_l_markTallyS := by kernel_rfl
theorem l_markTallyS_ret {σ τ : St} {rs : List Thg} (i0 : Nat) (v : GV) (l : List Tally) (k : Int) (H : Hp σ τ rs) (hi0 : rs[i0]? = some (ow pTally.kd v l)) (h0 : 0 ≤ k) (hk : k + 3 * l.length ≤ 4611686018427387904) : ∃ τ', Ret Try.prog n_l_markTallyS [v, gi k] τ (gi (k + 3 * l.length)) τ' ∧ Hp σ τ' (rs.set i0 (ow pTally.kd v (mkF mTally 3 k l.length))) := by
  have H := H.pick i0 hi0
  have hlt := (List.getElem?_eq_some_iff.1 hi0).1
  obtain ⟨r, τ', hR, rfl, H'⟩ := ret_mut (P := Try.prog) (σ := τ) (args := [v, gi k]) (Post := fun r τ' => r = gi (k + 3 * l.length) ∧ Hp σ τ' (ow pTally.kd v (mkF mTally 3 k l.length) :: rs.eraseIdx i0)) ir_l_markTallyS (Nat.le_of_ble_eq_true rfl) (by
    simp +contextual (maxSteps := 600000) (disch := omega) only [go_sem, Nat.reduceEqDiff, ↓reduceIte, Int.reduceEq, Int.reduceNeg, wrap_add, F_l_markTallyS]
    refine vc_for l.length 5 (fun i env τ' => env 0 = v ∧ env 1 = gi (k + 3 * (i : Int)) ∧ τ.length ≤ τ'.length ∧ Hp σ τ' (ow pTally.kd v ((mkF mTally 3 k l.length).take i ++ l.drop i) :: rs.eraseIdx i0)) rfl ⟨rfl, (by show gi k = gi (k + 3 * 0); simp), Nat.le_refl _, by simpa using H⟩ ?_ ?_
    · rintro i env τ' hi e5 c0 ⟨e0, e1, hle, H⟩
      have hL := mark_len (l := l) (e := mTally) (c := 3) (k := k) (i := i)
      have hst := mark_step (e := mTally) (c := 3) (k := k) hi
      generalize (mkF mTally 3 k l.length).take i ++ l.drop i = L at H hL hst
      have hj : i < L.length := by omega
      have h1 := H.sl 0 rfl
      have hln := h1.len
      rw [hL] at hln
      have hat := Tally_at h1 hj
      rw [set_self hj] at H
      generalize hy : L[i] = y at H hat
      simp +contextual (maxSteps := 600000) (disch := omega) only [go_sem, Nat.reduceEqDiff, ↓reduceIte, Int.reduceEq, Int.reduceNeg, wrap_add, c0, e0, e1, e5, hln, hat]
      refine by_ret (l_markText_ret _ _ (by omega)) ?_
      simp +contextual (maxSteps := 600000) (disch := omega) only [go_sem, Nat.reduceEqDiff, ↓reduceIte, Int.reduceEq, Int.reduceNeg, wrap_add, e0, e1, hat]
      obtain ⟨τ0, es, H⟩ := H.sts hj 1 0 (.str (mtx (k + 3 * (i : Int)))) (⟨mtx (k + 3 * (i : Int)), y.rep, y.sum⟩) rfl (by decide) (by decide) rfl
      have es : stG 1 τ' (fld 0 (atz 3 v i)) (.str (mtx (k + 3 * (i : Int)))) = some (.tup [], τ0) := es
      have hl0 := stG_len es
      simp +contextual (maxSteps := 600000) (disch := omega) only [go_sem, Nat.reduceEqDiff, ↓reduceIte, Int.reduceEq, Int.reduceNeg, wrap_add, e0, e1, e5, hat, es]
      obtain ⟨τ1, es, H⟩ := H.sts hj 1 1 (.int .i64 (k + 3 * (i : Int) + 1)) (⟨mtx (k + 3 * (i : Int)), k + 3 * (i : Int) + 1, y.sum⟩) rfl (by decide) (by decide) rfl
      have es : stG 1 τ0 (fld 1 (atz 3 v i)) (.int .i64 (k + 3 * (i : Int) + 1)) = some (.tup [], τ1) := es
      have hl1 := stG_len es
      simp +contextual (maxSteps := 600000) (disch := omega) only [go_sem, Nat.reduceEqDiff, ↓reduceIte, Int.reduceEq, Int.reduceNeg, wrap_add, e0, e1, e5, hat, es]
      obtain ⟨τ2, es, H⟩ := H.sts hj 1 2 (.int .i64 (k + 3 * (i : Int) + 1 + 1)) (⟨mtx (k + 3 * (i : Int)), k + 3 * (i : Int) + 1, k + 3 * (i : Int) + 1 + 1⟩) rfl (by decide) (by decide) rfl
      have es : stG 1 τ1 (fld 2 (atz 3 v i)) (.int .i64 (k + 3 * (i : Int) + 1 + 1)) = some (.tup [], τ2) := es
      have hl2 := stG_len es
      simp +contextual (maxSteps := 600000) (disch := omega) only [go_sem, Nat.reduceEqDiff, ↓reduceIte, Int.reduceEq, Int.reduceNeg, wrap_add, e0, e1, e5, hat, es]
      have H2 : Hp σ τ2 (ow pTally.kd v (L.set i (mTally (k + (3 : Nat) * (i : Int)))) :: rs.eraseIdx i0) := H
      rw [hst] at H2
      exact ⟨by omega, by omega, H2⟩
    · rintro env τ' e5 c0 ⟨e0, e1, hle, H⟩
      rw [mark_end] at H
      have hln := (H.sl 0 rfl).len
      rw [mkF_length] at hln
      simp +contextual (maxSteps := 600000) (disch := omega) only [go_sem, Nat.reduceEqDiff, ↓reduceIte, Int.reduceEq, Int.reduceNeg, wrap_add, c0, e0, e1, e5, hln]
      exact ⟨_, rfl, hle, rfl, H⟩)
  exact ⟨τ', hR, H'.unpick hlt⟩
end Go.Proofs.Ytffnefmklckngaa.Sy

/- Contracts of the laws' own functions: HmkState. -/
namespace Go.Proofs.Ytffnefmklckngaa.Sy
open Go Go.RowKit
set_option linter.unusedSimpArgs false
set_option linter.unusedVariables false
abbrev n_l_markState : Nat := 20
def F_l_markState : Fn1 := ⟨22, [.t 4], (.seq (.reg [o 2 (.box (.t 0)), o 4 (.mov (.k (.int .i64 0)))]) (.seq (.reg [o 5 (.fad 0 (.t 2)), o 6 (.ld false 1 (.t 5)), o 7 (.mov (.t 1)), o 8 (.call 21 [(.t 6), (.t 7)]), o 1 (.mov (.t 8))]) (.seq (.reg [o 9 (.fad 1 (.t 2)), o 10 (.ld false 1 (.t 9)), o 11 (.mov (.t 1)), o 12 (.call 46 [(.t 10), (.t 11)]), o 1 (.mov (.t 12))]) (.seq (.reg [o 13 (.fad 2 (.t 2)), o 14 (.ld false 1 (.t 13)), o 15 (.mov (.t 1)), o 16 (.call 47 [(.t 14), (.t 15)]), o 1 (.mov (.t 16))]) (.seq (.reg [o 17 (.fad 3 (.t 2)), o 18 (.ld false 1 (.t 17)), o 19 (.mov (.t 1)), o 20 (.call 48 [(.t 18), (.t 19)]), o 1 (.mov (.t 20))]) (.seq (.reg [o 21 (.mov (.t 1)), o 4 (.mov (.t 21))]) .ret))))))⟩
theorem ir_l_markState : compFn Try.prog n_l_markState = some F_l_markState := by kernel_rfl
theorem l_markState_ret {σ τ : St} {rs : List Thg} (i0 : Nat) (cs : List GV) (x : State) (k : Int) (H : Hp σ τ rs) (hi0 : rs[i0]? = some (own kState cs x)) (h0 : 0 ≤ k) (hk : k + ctState x ≤ 4611686018427387904) : ∃ τ', Ret Try.prog n_l_markState [.agg cs, gi k] τ (gi (k + ctState x)) τ' ∧ Hp σ τ' (rs.set i0 (own kState cs (mkState k x))) := by
  have hlt := (List.getElem?_eq_some_iff.1 hi0).1
  have hlen := kState.len (H.rd i0 hi0)
  have hlen : cs.length = 4 := hlen
  obtain ⟨v0, v1, v2, v3, rfl, H⟩ := (H.pick i0 hi0).splitState
  unfold ctState at hk
  obtain ⟨r, τ', hR, rfl, H'⟩ := ret_mut (P := Try.prog) (σ := τ) (args := [.agg (v0 :: v1 :: v2 :: v3 :: []), gi k]) (Post := fun r τ' => r = gi (k + ctState x) ∧ Hp σ τ' (own kState (v0 :: v1 :: v2 :: v3 :: []) (mkState k x) :: rs.eraseIdx i0)) ir_l_markState (Nat.le_of_ble_eq_true rfl) (by
    have H := H.new 1 (v0 :: v1 :: v2 :: v3 :: [])
    simp +contextual (maxSteps := 600000) (disch := omega) only [go_sem, Nat.reduceEqDiff, ↓reduceIte, Int.reduceEq, Int.reduceNeg, wrap_add, F_l_markState, List.append_nil]
    obtain ⟨τ0, R0, H⟩ := l_markIntS_ret 1 v0 x.know (k) H rfl (by omega) (by omega)
    refine by_mut R0 ?_
    try simp only [List.set_cons_succ, List.set_cons_zero] at H
    have hl0 := R0.2.1
    try simp +contextual (maxSteps := 600000) (disch := omega) only [go_sem, Nat.reduceEqDiff, ↓reduceIte, Int.reduceEq, Int.reduceNeg, wrap_add, List.append_nil, ld_ptr (H.pt 0 rfl)]
    obtain ⟨τ1, R1, H⟩ := l_markTallyS_ret 2 v1 x.tallies (k + 1 * (x.know.length : Int)) H rfl (by omega) (by omega)
    refine by_mut R1 ?_
    try simp only [List.set_cons_succ, List.set_cons_zero] at H
    have hl1 := R1.2.1
    try simp +contextual (maxSteps := 600000) (disch := omega) only [go_sem, Nat.reduceEqDiff, ↓reduceIte, Int.reduceEq, Int.reduceNeg, wrap_add, List.append_nil, ld_ptr (H.pt 0 rfl)]
    obtain ⟨τ2, R2, H⟩ := l_markLiveS_ret 3 v2 x.lives (k + 1 * (x.know.length : Int) + 3 * (x.tallies.length : Int)) H rfl (by omega) (by omega)
    refine by_mut R2 ?_
    try simp only [List.set_cons_succ, List.set_cons_zero] at H
    have hl2 := R2.2.1
    try simp +contextual (maxSteps := 600000) (disch := omega) only [go_sem, Nat.reduceEqDiff, ↓reduceIte, Int.reduceEq, Int.reduceNeg, wrap_add, List.append_nil, ld_ptr (H.pt 0 rfl)]
    obtain ⟨τ3, R3, H⟩ := l_markCellS_ret 4 v3 x.cells (k + 1 * (x.know.length : Int) + 3 * (x.tallies.length : Int) + 6 * (x.lives.length : Int)) H rfl (by omega) (by omega)
    refine by_mut R3 ?_
    try simp only [List.set_cons_succ, List.set_cons_zero] at H
    have hl3 := R3.2.1
    try simp +contextual (maxSteps := 600000) (disch := omega) only [go_sem, Nat.reduceEqDiff, ↓reduceIte, Int.reduceEq, Int.reduceNeg, wrap_add, List.append_nil, ld_ptr (H.pt 0 rfl)]
    try simp only [List.length_append, List.length_cons, List.length_nil] at hl0
    refine ⟨_, rfl, by omega, by unfold ctState; congr 1; omega, H.drop1.ownState (x := mkState k x)⟩)
  exact ⟨τ', hR, H'.unpick hlt⟩
end Go.Proofs.Ytffnefmklckngaa.Sy

/- Contracts of the laws' own functions: HszCell. -/
namespace Go.Proofs.Ytffnefmklckngaa.Sy
open Go Go.RowKit
set_option linter.unusedSimpArgs false
set_option linter.unusedVariables false
abbrev n_l_szCell : Nat := 57
def F_l_szCell : Fn1 := ⟨13, [.t 4], (.seq (.reg [o 2 (.box (.t 0)), o 4 (.mov (.k (.int .i64 0)))]) (.seq (.reg [o 5 (.mov (.t 1)), o 6 (.fad 0 (.t 2)), o 7 (.ld false 1 (.t 6)), o 8 (.len true (.t 7)), o 9 (.bin .sub (.t 5) (.t 8)), o 1 (.mov (.t 9))]) (.seq (.seq (.reg [o 10 (.mov (.t 1)), o 11 (.bin .lss (.t 10) (.k (.int .i64 0)))]) (.cnd (.t 11) (.seq (.reg [o 4 (.mov (.k (.int .i64 (-1))))]) .ret) .skip)) (.seq (.reg [o 12 (.mov (.t 1)), o 4 (.mov (.t 12))]) .ret))))⟩
theorem ir_l_szCell : compFn Try.prog n_l_szCell = some F_l_szCell := by kernel_rfl
theorem l_szCell_ret (σ : St) (x : Cell) (n : Int) (hw : wCell x) (h0 : 0 ≤ n) (h1 : n ≤ 1099511627776) : Ret Try.prog n_l_szCell [.agg [.str x.obj, .int .i64 x.dot.rep, .int .i64 x.dot.seq, .int .i64 x.time, .int .i64 x.ref.rep, .int .i64 x.ref.seq, .int .i64 x.val, .bool x.gone], gi n] σ (gi (lf n (msCell x))) σ := by
  have w0 := hw; unfold wCell at w0
  refine ret_eq ir_l_szCell (Nat.le_of_ble_eq_true rfl) trivial ?_
  simp +contextual (maxSteps := 600000) (disch := omega) only [go_sem, Nat.reduceEqDiff, ↓reduceIte, Int.reduceEq, Int.reduceNeg, wrap_add, F_l_szCell, List.append_nil]
  refine ⟨fun hn => ?_, fun hn => ?_⟩
  · have hn := of_decide_eq_true hn
    unfold msCell lf; rw [if_pos (by omega)]
  have hn := of_decide_eq_false hn
  try simp (disch := omega) only [wrap_add]
  unfold msCell; rw [show lf n (x.obj.size) = n - ((x.obj.size : Nat) : Int) by unfold lf; rw [if_neg (by omega)]]; try omega
end Go.Proofs.Ytffnefmklckngaa.Sy

/- Contracts of the laws' own functions: HszCellS. -/
namespace Go.Proofs.Ytffnefmklckngaa.Sy
open Go Go.RowKit
set_option linter.unusedSimpArgs false
set_option linter.unusedVariables false
abbrev n_l_szCellS : Nat := 31
def F_l_szCellS : Fn1 := ⟨27, [.t 4], (.seq (.reg [o 4 (.mov (.k (.int .i64 0)))]) (.seq (.reg [o 6 (.mov (.t 1)), o 7 (.mov (.t 0)), o 8 (.len false (.t 7)), o 9 (.bin .sub (.t 6) (.t 8)), o 1 (.mov (.t 9))]) (.seq (.seq (.reg [o 10 (.mov (.t 1)), o 11 (.bin .lss (.t 10) (.k (.int .i64 0)))]) (.cnd (.t 11) (.seq (.reg [o 4 (.mov (.k (.int .i64 (-1))))]) .ret) .skip)) (.seq (.seq (.reg [o 5 (.mov (.k (.int .i64 0)))]) (.blk 0 (.lop (.seq (.seq (.reg [o 12 (.mov (.t 5)), o 13 (.mov (.t 0)), o 14 (.len false (.t 13)), o 15 (.bin .lss (.t 12) (.t 14))]) (.cnd (.t 15) .skip (.ext 0))) (.seq (.blk 1 (.seq (.reg [o 18 (.mov (.t 0)), o 19 (.mov (.t 5)), o 20 (.iad 8 (.t 18) (.t 19)), o 21 (.ld true 8 (.t 20)), o 22 (.mov (.t 1)), o 23 (.call 57 [(.t 21), (.t 22)]), o 1 (.mov (.t 23))]) (.seq (.reg [o 24 (.mov (.t 1)), o 25 (.bin .lss (.t 24) (.k (.int .i64 0)))]) (.cnd (.t 25) (.seq (.reg [o 4 (.mov (.k (.int .i64 (-1))))]) .ret) .skip)))) (.reg [o 16 (.mov (.t 5)), o 17 (.bin .add (.t 16) (.k (.int .i64 1))), o 5 (.mov (.t 17))])))))) (.seq (.reg [o 26 (.mov (.t 1)), o 4 (.mov (.t 26))]) .ret)))))⟩
theorem ir_l_szCellS : compFn Try.prog n_l_szCellS = some F_l_szCellS := by kernel_rfl
theorem l_szCellS_ret (σ : St) (v : GV) (l : List Cell) (hR : RS pCell.kd σ v l) (n : Int) (hw : l.length ≤ 9223372036854775807 ∧ ∀ y ∈ l, wCell y) (h0 : 0 ≤ n) (h1 : n ≤ 1099511627776) : Ret Try.prog n_l_szCellS [v, gi n] σ (gi (lf n (l.length + sumL msCell l))) σ := by
  obtain ⟨wl, we⟩ := hw
  refine ret_eq ir_l_szCellS (Nat.le_of_ble_eq_true rfl) trivial ?_
  simp +contextual (maxSteps := 600000) (disch := omega) only [go_sem, Nat.reduceEqDiff, ↓reduceIte, Int.reduceEq, Int.reduceNeg, wrap_add, F_l_szCellS, hR.len]
  refine ⟨fun hn => ?_, fun hn => ?_⟩
  · have hn := of_decide_eq_true hn
    unfold lf; rw [if_pos (by omega)]
  have hn := of_decide_eq_false hn
  refine vc_for l.length 5 (fun i env τ => ∃ m : Int, env 0 = v ∧ env 1 = gi m ∧ m = n - l.length - sumL msCell (l.take i) ∧ 0 ≤ m ∧ σ <+: τ) rfl ⟨n - l.length, rfl, rfl, by simp [sumL], by omega, List.prefix_refl _⟩ ?_ ?_
  · rintro i env τ hi e5 c0 ⟨m, e0, e1, em, hm, hp⟩
    have h1 := hR.pre hp
    have hs := sumL_snoc (f := msCell) hi
    have hst := sumL_take_le msCell l (i + 1)
    simp +contextual (maxSteps := 600000) (disch := omega) only [go_sem, Nat.reduceEqDiff, ↓reduceIte, Int.reduceEq, Int.reduceNeg, wrap_add, c0, e0, e1, e5, hR.len, Cell_at h1 hi]
    refine by_ret (l_szCell_ret τ l[i] m (we _ (List.getElem_mem hi)) hm (by omega)) ?_
    simp +contextual (maxSteps := 600000) (disch := omega) only [go_sem, Nat.reduceEqDiff, ↓reduceIte, Int.reduceEq, Int.reduceNeg, wrap_add, c0, e0, e1, e5, hp]
    have g0 := @lf_le m (msCell l[i]) hm
    have g1 := @lf_ge m (msCell l[i])
    refine ⟨fun hn => ?_, fun hn => ?_⟩
    · have hn := lf_neg.1 (of_decide_eq_true hn)
      unfold lf; rw [if_pos (by omega)]
    · have hn := of_decide_eq_false hn
      have f := lf_some hn
      exact ⟨_, rfl, by omega, by omega⟩
  · rintro env τ e5 c0 ⟨m, e0, e1, em, hm, hp⟩
    rw [List.take_length] at em
    simp +contextual (maxSteps := 600000) (disch := omega) only [go_sem, Nat.reduceEqDiff, ↓reduceIte, Int.reduceEq, Int.reduceNeg, wrap_add, c0, e0, e1, e5, hR.len, hp]
    unfold lf; rw [if_neg (by omega)]; omega
end Go.Proofs.Ytffnefmklckngaa.Sy

/- Contracts of the laws' own functions: HszIntS. -/
namespace Go.Proofs.Ytffnefmklckngaa.Sy
open Go Go.RowKit
set_option linter.unusedSimpArgs false
set_option linter.unusedVariables false
abbrev n_l_szIntS : Nat := 28
def F_l_szIntS : Fn1 := ⟨12, [.t 4], (.seq (.reg [o 4 (.mov (.k (.int .i64 0)))]) (.seq (.reg [o 5 (.mov (.t 1)), o 6 (.mov (.t 0)), o 7 (.len false (.t 6)), o 8 (.bin .sub (.t 5) (.t 7)), o 1 (.mov (.t 8))]) (.seq (.seq (.reg [o 9 (.mov (.t 1)), o 10 (.bin .lss (.t 9) (.k (.int .i64 0)))]) (.cnd (.t 10) (.seq (.reg [o 4 (.mov (.k (.int .i64 (-1))))]) .ret) .skip)) (.seq (.reg [o 11 (.mov (.t 1)), o 4 (.mov (.t 11))]) .ret))))⟩
theorem ir_l_szIntS : compFn Try.prog n_l_szIntS = some F_l_szIntS := by kernel_rfl
theorem l_szIntS_ret (σ : St) (v : GV) (l : List Int) (hR : RS pI.kd σ v l) (n : Int) (hw : l.length ≤ 9223372036854775807) (h0 : 0 ≤ n) (h1 : n ≤ 1099511627776) : Ret Try.prog n_l_szIntS [v, gi n] σ (gi (lf n l.length)) σ := by
  refine ret_eq ir_l_szIntS (Nat.le_of_ble_eq_true rfl) trivial ?_
  simp +contextual (maxSteps := 600000) (disch := omega) only [go_sem, Nat.reduceEqDiff, ↓reduceIte, Int.reduceEq, Int.reduceNeg, wrap_add, F_l_szIntS, hR.len]
  refine ⟨fun h => ?_, fun h => ?_⟩
  · rw [lf, if_pos (of_decide_eq_true h)]
  · rw [lf, if_neg (of_decide_eq_false h)]
end Go.Proofs.Ytffnefmklckngaa.Sy

/- Contracts of the laws' own functions: HszLive. -/
namespace Go.Proofs.Ytffnefmklckngaa.Sy
open Go Go.RowKit
set_option linter.unusedSimpArgs false
set_option linter.unusedVariables false
abbrev n_l_szLive : Nat := 56
def F_l_szLive : Fn1 := ⟨20, [.t 4], (.seq (.reg [o 2 (.box (.t 0)), o 4 (.mov (.k (.int .i64 0)))]) (.seq (.reg [o 5 (.mov (.t 1)), o 6 (.fad 1 (.t 2)), o 7 (.ld false 1 (.t 6)), o 8 (.len true (.t 7)), o 9 (.bin .sub (.t 5) (.t 8)), o 1 (.mov (.t 9))]) (.seq (.seq (.reg [o 10 (.mov (.t 1)), o 11 (.bin .lss (.t 10) (.k (.int .i64 0)))]) (.cnd (.t 11) (.seq (.reg [o 4 (.mov (.k (.int .i64 (-1))))]) .ret) .skip)) (.seq (.reg [o 12 (.mov (.t 1)), o 13 (.fad 2 (.t 2)), o 14 (.ld false 1 (.t 13)), o 15 (.len true (.t 14)), o 16 (.bin .sub (.t 12) (.t 15)), o 1 (.mov (.t 16))]) (.seq (.seq (.reg [o 17 (.mov (.t 1)), o 18 (.bin .lss (.t 17) (.k (.int .i64 0)))]) (.cnd (.t 18) (.seq (.reg [o 4 (.mov (.k (.int .i64 (-1))))]) .ret) .skip)) (.seq (.reg [o 19 (.mov (.t 1)), o 4 (.mov (.t 19))]) .ret))))))⟩
theorem ir_l_szLive : compFn Try.prog n_l_szLive = some F_l_szLive := by kernel_rfl
theorem l_szLive_ret (σ : St) (x : Live) (n : Int) (hw : wLive x) (h0 : 0 ≤ n) (h1 : n ≤ 1099511627776) : Ret Try.prog n_l_szLive [.agg [.bool x.map, .str x.obj, .str x.key, .int .i64 x.val, .int .i64 x.dot.rep, .int .i64 x.dot.seq], gi n] σ (gi (lf n (msLive x))) σ := by
  obtain ⟨w0, w1⟩ := hw
  refine ret_eq ir_l_szLive (Nat.le_of_ble_eq_true rfl) trivial ?_
  simp +contextual (maxSteps := 600000) (disch := omega) only [go_sem, Nat.reduceEqDiff, ↓reduceIte, Int.reduceEq, Int.reduceNeg, wrap_add, F_l_szLive, List.append_nil]
  refine ⟨fun hn => ?_, fun hn => ?_⟩
  · have hn := of_decide_eq_true hn
    unfold msLive lf; rw [if_pos (by omega)]
  have hn := of_decide_eq_false hn
  try simp (disch := omega) only [wrap_add]
  refine ⟨fun hn => ?_, fun hn => ?_⟩
  · have hn := of_decide_eq_true hn
    unfold msLive lf; rw [if_pos (by omega)]
  have hn := of_decide_eq_false hn
  try simp (disch := omega) only [wrap_add]
  unfold msLive; rw [show lf n (x.obj.size + x.key.size) = n - ((x.obj.size + x.key.size : Nat) : Int) by unfold lf; rw [if_neg (by omega)]]; try omega
end Go.Proofs.Ytffnefmklckngaa.Sy

/- Contracts of the laws' own functions: HszLiveS. -/
namespace Go.Proofs.Ytffnefmklckngaa.Sy
open Go Go.RowKit
set_option linter.unusedSimpArgs false
set_option linter.unusedVariables false
abbrev n_l_szLiveS : Nat := 30
def F_l_szLiveS : Fn1 := ⟨27, [.t 4], (.seq (.reg [o 4 (.mov (.k (.int .i64 0)))]) (.seq (.reg [o 6 (.mov (.t 1)), o 7 (.mov (.t 0)), o 8 (.len false (.t 7)), o 9 (.bin .sub (.t 6) (.t 8)), o 1 (.mov (.t 9))]) (.seq (.seq (.reg [o 10 (.mov (.t 1)), o 11 (.bin .lss (.t 10) (.k (.int .i64 0)))]) (.cnd (.t 11) (.seq (.reg [o 4 (.mov (.k (.int .i64 (-1))))]) .ret) .skip)) (.seq (.seq (.reg [o 5 (.mov (.k (.int .i64 0)))]) (.blk 0 (.lop (.seq (.seq (.reg [o 12 (.mov (.t 5)), o 13 (.mov (.t 0)), o 14 (.len false (.t 13)), o 15 (.bin .lss (.t 12) (.t 14))]) (.cnd (.t 15) .skip (.ext 0))) (.seq (.blk 1 (.seq (.reg [o 18 (.mov (.t 0)), o 19 (.mov (.t 5)), o 20 (.iad 6 (.t 18) (.t 19)), o 21 (.ld true 6 (.t 20)), o 22 (.mov (.t 1)), o 23 (.call 56 [(.t 21), (.t 22)]), o 1 (.mov (.t 23))]) (.seq (.reg [o 24 (.mov (.t 1)), o 25 (.bin .lss (.t 24) (.k (.int .i64 0)))]) (.cnd (.t 25) (.seq (.reg [o 4 (.mov (.k (.int .i64 (-1))))]) .ret) .skip)))) (.reg [o 16 (.mov (.t 5)), o 17 (.bin .add (.t 16) (.k (.int .i64 1))), o 5 (.mov (.t 17))])))))) (.seq (.reg [o 26 (.mov (.t 1)), o 4 (.mov (.t 26))]) .ret)))))⟩
theorem ir_l_szLiveS : compFn Try.prog n_l_szLiveS = some F_l_szLiveS := by kernel_rfl
theorem l_szLiveS_ret (σ : St) (v : GV) (l : List Live) (hR : RS pLive.kd σ v l) (n : Int) (hw : l.length ≤ 9223372036854775807 ∧ ∀ y ∈ l, wLive y) (h0 : 0 ≤ n) (h1 : n ≤ 1099511627776) : Ret Try.prog n_l_szLiveS [v, gi n] σ (gi (lf n (l.length + sumL msLive l))) σ := by
  obtain ⟨wl, we⟩ := hw
  refine ret_eq ir_l_szLiveS (Nat.le_of_ble_eq_true rfl) trivial ?_
  simp +contextual (maxSteps := 600000) (disch := omega) only [go_sem, Nat.reduceEqDiff, ↓reduceIte, Int.reduceEq, Int.reduceNeg, wrap_add, F_l_szLiveS, hR.len]
  refine ⟨fun hn => ?_, fun hn => ?_⟩
  · have hn := of_decide_eq_true hn
    unfold lf; rw [if_pos (by omega)]
  have hn := of_decide_eq_false hn
  refine vc_for l.length 5 (fun i env τ => ∃ m : Int, env 0 = v ∧ env 1 = gi m ∧ m = n - l.length - sumL msLive (l.take i) ∧ 0 ≤ m ∧ σ <+: τ) rfl ⟨n - l.length, rfl, rfl, by simp [sumL], by omega, List.prefix_refl _⟩ ?_ ?_
  · rintro i env τ hi e5 c0 ⟨m, e0, e1, em, hm, hp⟩
    have h1 := hR.pre hp
    have hs := sumL_snoc (f := msLive) hi
    have hst := sumL_take_le msLive l (i + 1)
    simp +contextual (maxSteps := 600000) (disch := omega) only [go_sem, Nat.reduceEqDiff, ↓reduceIte, Int.reduceEq, Int.reduceNeg, wrap_add, c0, e0, e1, e5, hR.len, Live_at h1 hi]
    refine by_ret (l_szLive_ret τ l[i] m (we _ (List.getElem_mem hi)) hm (by omega)) ?_
    simp +contextual (maxSteps := 600000) (disch := omega) only [go_sem, Nat.reduceEqDiff, ↓reduceIte, Int.reduceEq, Int.reduceNeg, wrap_add, c0, e0, e1, e5, hp]
    have g0 := @lf_le m (msLive l[i]) hm
    have g1 := @lf_ge m (msLive l[i])
    refine ⟨fun hn => ?_, fun hn => ?_⟩
    · have hn := lf_neg.1 (of_decide_eq_true hn)
      unfold lf; rw [if_pos (by omega)]
    · have hn := of_decide_eq_false hn
      have f := lf_some hn
      exact ⟨_, rfl, by omega, by omega⟩
  · rintro env τ e5 c0 ⟨m, e0, e1, em, hm, hp⟩
    rw [List.take_length] at em
    simp +contextual (maxSteps := 600000) (disch := omega) only [go_sem, Nat.reduceEqDiff, ↓reduceIte, Int.reduceEq, Int.reduceNeg, wrap_add, c0, e0, e1, e5, hR.len, hp]
    unfold lf; rw [if_neg (by omega)]; omega
end Go.Proofs.Ytffnefmklckngaa.Sy

/- Contracts of the laws' own functions: HszTally. -/
namespace Go.Proofs.Ytffnefmklckngaa.Sy
open Go Go.RowKit
set_option linter.unusedSimpArgs false
set_option linter.unusedVariables false
abbrev n_l_szTally : Nat := 55
def F_l_szTally : Fn1 := ⟨13, [.t 4], (.seq (.reg [o 2 (.box (.t 0)), o 4 (.mov (.k (.int .i64 0)))]) (.seq (.reg [o 5 (.mov (.t 1)), o 6 (.fad 0 (.t 2)), o 7 (.ld false 1 (.t 6)), o 8 (.len true (.t 7)), o 9 (.bin .sub (.t 5) (.t 8)), o 1 (.mov (.t 9))]) (.seq (.seq (.reg [o 10 (.mov (.t 1)), o 11 (.bin .lss (.t 10) (.k (.int .i64 0)))]) (.cnd (.t 11) (.seq (.reg [o 4 (.mov (.k (.int .i64 (-1))))]) .ret) .skip)) (.seq (.reg [o 12 (.mov (.t 1)), o 4 (.mov (.t 12))]) .ret))))⟩
theorem ir_l_szTally : compFn Try.prog n_l_szTally = some F_l_szTally := by kernel_rfl
theorem l_szTally_ret (σ : St) (x : Tally) (n : Int) (hw : wTally x) (h0 : 0 ≤ n) (h1 : n ≤ 1099511627776) : Ret Try.prog n_l_szTally [.agg [.str x.obj, .int .i64 x.rep, .int .i64 x.sum], gi n] σ (gi (lf n (msTally x))) σ := by
  have w0 := hw; unfold wTally at w0
  refine ret_eq ir_l_szTally (Nat.le_of_ble_eq_true rfl) trivial ?_
  simp +contextual (maxSteps := 600000) (disch := omega) only [go_sem, Nat.reduceEqDiff, ↓reduceIte, Int.reduceEq, Int.reduceNeg, wrap_add, F_l_szTally, List.append_nil]
  refine ⟨fun hn => ?_, fun hn => ?_⟩
  · have hn := of_decide_eq_true hn
    unfold msTally lf; rw [if_pos (by omega)]
  have hn := of_decide_eq_false hn
  try simp (disch := omega) only [wrap_add]
  unfold msTally; rw [show lf n (x.obj.size) = n - ((x.obj.size : Nat) : Int) by unfold lf; rw [if_neg (by omega)]]; try omega
end Go.Proofs.Ytffnefmklckngaa.Sy

/- Contracts of the laws' own functions: HszTallyS. -/
namespace Go.Proofs.Ytffnefmklckngaa.Sy
open Go Go.RowKit
set_option linter.unusedSimpArgs false
set_option linter.unusedVariables false
abbrev n_l_szTallyS : Nat := 29
def F_l_szTallyS : Fn1 := ⟨27, [.t 4], (.seq (.reg [o 4 (.mov (.k (.int .i64 0)))]) (.seq (.reg [o 6 (.mov (.t 1)), o 7 (.mov (.t 0)), o 8 (.len false (.t 7)), o 9 (.bin .sub (.t 6) (.t 8)), o 1 (.mov (.t 9))]) (.seq (.seq (.reg [o 10 (.mov (.t 1)), o 11 (.bin .lss (.t 10) (.k (.int .i64 0)))]) (.cnd (.t 11) (.seq (.reg [o 4 (.mov (.k (.int .i64 (-1))))]) .ret) .skip)) (.seq (.seq (.reg [o 5 (.mov (.k (.int .i64 0)))]) (.blk 0 (.lop (.seq (.seq (.reg [o 12 (.mov (.t 5)), o 13 (.mov (.t 0)), o 14 (.len false (.t 13)), o 15 (.bin .lss (.t 12) (.t 14))]) (.cnd (.t 15) .skip (.ext 0))) (.seq (.blk 1 (.seq (.reg [o 18 (.mov (.t 0)), o 19 (.mov (.t 5)), o 20 (.iad 3 (.t 18) (.t 19)), o 21 (.ld true 3 (.t 20)), o 22 (.mov (.t 1)), o 23 (.call 55 [(.t 21), (.t 22)]), o 1 (.mov (.t 23))]) (.seq (.reg [o 24 (.mov (.t 1)), o 25 (.bin .lss (.t 24) (.k (.int .i64 0)))]) (.cnd (.t 25) (.seq (.reg [o 4 (.mov (.k (.int .i64 (-1))))]) .ret) .skip)))) (.reg [o 16 (.mov (.t 5)), o 17 (.bin .add (.t 16) (.k (.int .i64 1))), o 5 (.mov (.t 17))])))))) (.seq (.reg [o 26 (.mov (.t 1)), o 4 (.mov (.t 26))]) .ret)))))⟩
theorem ir_l_szTallyS : compFn Try.prog n_l_szTallyS = some F_l_szTallyS := by kernel_rfl
theorem l_szTallyS_ret (σ : St) (v : GV) (l : List Tally) (hR : RS pTally.kd σ v l) (n : Int) (hw : l.length ≤ 9223372036854775807 ∧ ∀ y ∈ l, wTally y) (h0 : 0 ≤ n) (h1 : n ≤ 1099511627776) : Ret Try.prog n_l_szTallyS [v, gi n] σ (gi (lf n (l.length + sumL msTally l))) σ := by
  obtain ⟨wl, we⟩ := hw
  refine ret_eq ir_l_szTallyS (Nat.le_of_ble_eq_true rfl) trivial ?_
  simp +contextual (maxSteps := 600000) (disch := omega) only [go_sem, Nat.reduceEqDiff, ↓reduceIte, Int.reduceEq, Int.reduceNeg, wrap_add, F_l_szTallyS, hR.len]
  refine ⟨fun hn => ?_, fun hn => ?_⟩
  · have hn := of_decide_eq_true hn
    unfold lf; rw [if_pos (by omega)]
  have hn := of_decide_eq_false hn
  refine vc_for l.length 5 (fun i env τ => ∃ m : Int, env 0 = v ∧ env 1 = gi m ∧ m = n - l.length - sumL msTally (l.take i) ∧ 0 ≤ m ∧ σ <+: τ) rfl ⟨n - l.length, rfl, rfl, by simp [sumL], by omega, List.prefix_refl _⟩ ?_ ?_
  · rintro i env τ hi e5 c0 ⟨m, e0, e1, em, hm, hp⟩
    have h1 := hR.pre hp
    have hs := sumL_snoc (f := msTally) hi
    have hst := sumL_take_le msTally l (i + 1)
    simp +contextual (maxSteps := 600000) (disch := omega) only [go_sem, Nat.reduceEqDiff, ↓reduceIte, Int.reduceEq, Int.reduceNeg, wrap_add, c0, e0, e1, e5, hR.len, Tally_at h1 hi]
    refine by_ret (l_szTally_ret τ l[i] m (we _ (List.getElem_mem hi)) hm (by omega)) ?_
    simp +contextual (maxSteps := 600000) (disch := omega) only [go_sem, Nat.reduceEqDiff, ↓reduceIte, Int.reduceEq, Int.reduceNeg, wrap_add, c0, e0, e1, e5, hp]
    have g0 := @lf_le m (msTally l[i]) hm
    have g1 := @lf_ge m (msTally l[i])
    refine ⟨fun hn => ?_, fun hn => ?_⟩
    · have hn := lf_neg.1 (of_decide_eq_true hn)
      unfold lf; rw [if_pos (by omega)]
    · have hn := of_decide_eq_false hn
      have f := lf_some hn
      exact ⟨_, rfl, by omega, by omega⟩
  · rintro env τ e5 c0 ⟨m, e0, e1, em, hm, hp⟩
    rw [List.take_length] at em
    simp +contextual (maxSteps := 600000) (disch := omega) only [go_sem, Nat.reduceEqDiff, ↓reduceIte, Int.reduceEq, Int.reduceNeg, wrap_add, c0, e0, e1, e5, hR.len, hp]
    unfold lf; rw [if_neg (by omega)]; omega
end Go.Proofs.Ytffnefmklckngaa.Sy

/- Contracts of the laws' own functions: HszState. -/
namespace Go.Proofs.Ytffnefmklckngaa.Sy
open Go Go.RowKit
set_option linter.unusedSimpArgs false
set_option linter.unusedVariables false
abbrev n_l_szState : Nat := 8
def F_l_szState : Fn1 := ⟨30, [.t 4], (.seq (.reg [o 2 (.box (.t 0)), o 4 (.mov (.k (.int .i64 0)))]) (.seq (.reg [o 5 (.fad 0 (.t 2)), o 6 (.ld false 1 (.t 5)), o 7 (.mov (.t 1)), o 8 (.call 28 [(.t 6), (.t 7)]), o 1 (.mov (.t 8))]) (.seq (.seq (.reg [o 9 (.mov (.t 1)), o 10 (.bin .lss (.t 9) (.k (.int .i64 0)))]) (.cnd (.t 10) (.seq (.reg [o 4 (.mov (.k (.int .i64 (-1))))]) .ret) .skip)) (.seq (.reg [o 11 (.fad 1 (.t 2)), o 12 (.ld false 1 (.t 11)), o 13 (.mov (.t 1)), o 14 (.call 29 [(.t 12), (.t 13)]), o 1 (.mov (.t 14))]) (.seq (.seq (.reg [o 15 (.mov (.t 1)), o 16 (.bin .lss (.t 15) (.k (.int .i64 0)))]) (.cnd (.t 16) (.seq (.reg [o 4 (.mov (.k (.int .i64 (-1))))]) .ret) .skip)) (.seq (.reg [o 17 (.fad 2 (.t 2)), o 18 (.ld false 1 (.t 17)), o 19 (.mov (.t 1)), o 20 (.call 30 [(.t 18), (.t 19)]), o 1 (.mov (.t 20))]) (.seq (.seq (.reg [o 21 (.mov (.t 1)), o 22 (.bin .lss (.t 21) (.k (.int .i64 0)))]) (.cnd (.t 22) (.seq (.reg [o 4 (.mov (.k (.int .i64 (-1))))]) .ret) .skip)) (.seq (.reg [o 23 (.fad 3 (.t 2)), o 24 (.ld false 1 (.t 23)), o 25 (.mov (.t 1)), o 26 (.call 31 [(.t 24), (.t 25)]), o 1 (.mov (.t 26))]) (.seq (.seq (.reg [o 27 (.mov (.t 1)), o 28 (.bin .lss (.t 27) (.k (.int .i64 0)))]) (.cnd (.t 28) (.seq (.reg [o 4 (.mov (.k (.int .i64 (-1))))]) .ret) .skip)) (.seq (.reg [o 29 (.mov (.t 1)), o 4 (.mov (.t 29))]) .ret))))))))))⟩
theorem ir_l_szState : compFn Try.prog n_l_szState = some F_l_szState := by kernel_rfl
theorem l_szState_ret (σ : St) (cs : List GV) (x : State) (hR : kState.R σ x cs) (n : Int) (hw : wState x) (h0 : 0 ≤ n) (h1 : n ≤ 1099511627776) : Ret Try.prog n_l_szState [.agg cs, gi n] σ (gi (lf n (msState x))) σ := by
  obtain ⟨v0, v1, v2, v3, rfl, q0, q1, q2, q3⟩ := hR
  obtain ⟨w0, w1, w2, w3⟩ := hw
  refine ret_eq ir_l_szState (Nat.le_of_ble_eq_true rfl) trivial ?_
  simp +contextual (maxSteps := 600000) (disch := omega) only [go_sem, Nat.reduceEqDiff, ↓reduceIte, Int.reduceEq, Int.reduceNeg, wrap_add, F_l_szState, List.append_nil]
  refine by_ret (l_szIntS_ret _ v0 x.know (q0.pre (pre1 _ _)) (n) w0 (by omega) (by omega)) ?_
  simp +contextual (maxSteps := 600000) (disch := omega) only [go_sem, Nat.reduceEqDiff, ↓reduceIte, Int.reduceEq, Int.reduceNeg, wrap_add, List.append_nil]
  have g0 := @lf_le (n) (x.know.length) (by omega)
  refine ⟨fun hn => ?_, fun hn => ?_⟩
  · have hn := of_decide_eq_true hn
    have hn := lf_neg.1 hn
    unfold msState lf; rw [if_pos (by omega)]
  have hn := of_decide_eq_false hn
  have f0 := lf_some hn
  try simp (disch := omega) only [wrap_add]
  refine by_ret (l_szTallyS_ret _ v1 x.tallies (q1.pre (pre1 _ _)) (lf (n) (x.know.length)) w1 (by omega) (by omega)) ?_
  simp +contextual (maxSteps := 600000) (disch := omega) only [go_sem, Nat.reduceEqDiff, ↓reduceIte, Int.reduceEq, Int.reduceNeg, wrap_add, List.append_nil]
  have g1 := @lf_le (lf (n) (x.know.length)) ((x.tallies.length + sumL msTally x.tallies)) (by omega)
  refine ⟨fun hn => ?_, fun hn => ?_⟩
  · have hn := of_decide_eq_true hn
    have hn := lf_neg.1 hn
    unfold msState lf; rw [if_pos (by omega)]
  have hn := of_decide_eq_false hn
  have f1 := lf_some hn
  try simp (disch := omega) only [wrap_add]
  refine by_ret (l_szLiveS_ret _ v2 x.lives (q2.pre (pre1 _ _)) (lf (lf (n) (x.know.length)) ((x.tallies.length + sumL msTally x.tallies))) w2 (by omega) (by omega)) ?_
  simp +contextual (maxSteps := 600000) (disch := omega) only [go_sem, Nat.reduceEqDiff, ↓reduceIte, Int.reduceEq, Int.reduceNeg, wrap_add, List.append_nil]
  have g2 := @lf_le (lf (lf (n) (x.know.length)) ((x.tallies.length + sumL msTally x.tallies))) ((x.lives.length + sumL msLive x.lives)) (by omega)
  refine ⟨fun hn => ?_, fun hn => ?_⟩
  · have hn := of_decide_eq_true hn
    have hn := lf_neg.1 hn
    unfold msState lf; rw [if_pos (by omega)]
  have hn := of_decide_eq_false hn
  have f2 := lf_some hn
  try simp (disch := omega) only [wrap_add]
  refine by_ret (l_szCellS_ret _ v3 x.cells (q3.pre (pre1 _ _)) (lf (lf (lf (n) (x.know.length)) ((x.tallies.length + sumL msTally x.tallies))) ((x.lives.length + sumL msLive x.lives))) w3 (by omega) (by omega)) ?_
  simp +contextual (maxSteps := 600000) (disch := omega) only [go_sem, Nat.reduceEqDiff, ↓reduceIte, Int.reduceEq, Int.reduceNeg, wrap_add, List.append_nil]
  have g3 := @lf_le (lf (lf (lf (n) (x.know.length)) ((x.tallies.length + sumL msTally x.tallies))) ((x.lives.length + sumL msLive x.lives))) ((x.cells.length + sumL msCell x.cells)) (by omega)
  refine ⟨fun hn => ?_, fun hn => ?_⟩
  · have hn := of_decide_eq_true hn
    have hn := lf_neg.1 hn
    unfold msState lf; rw [if_pos (by omega)]
  have hn := of_decide_eq_false hn
  have f3 := lf_some hn
  try simp (disch := omega) only [wrap_add]
  unfold msState; rw [show lf n (x.know.length + (x.tallies.length + sumL msTally x.tallies) + (x.lives.length + sumL msLive x.lives) + (x.cells.length + sumL msCell x.cells)) = n - ((x.know.length + (x.tallies.length + sumL msTally x.tallies) + (x.lives.length + sumL msLive x.lives) + (x.cells.length + sumL msCell x.cells) : Nat) : Int) by unfold lf; rw [if_neg (by omega)]]; try omega
end Go.Proofs.Ytffnefmklckngaa.Sy

/- Contracts of the laws' own functions: HtoDot. -/
namespace Go.Proofs.Ytffnefmklckngaa.Sy
open Go Go.RowKit
set_option linter.unusedSimpArgs false
set_option linter.unusedVariables false
abbrev n_l_toDot : Nat := 14
def F_l_toDot : Fn1 := ⟨11, [.c 2 true 2], (.seq (.reg [o 1 (.box (.t 0)), o 2 (.new [(.int .i64 0), (.int .i64 0)])]) (.seq (.reg [o 3 (.new [(.int .i64 0), (.int .i64 0)])]) (.seq (.reg [o 4 (.fad 0 (.t 1)), o 5 (.ld false 1 (.t 4)), o 6 (.fad 0 (.t 3)), on (.st 1 (.t 6) (.t 5))]) (.seq (.reg [o 7 (.fad 1 (.t 1)), o 8 (.ld false 1 (.t 7)), o 9 (.fad 1 (.t 3)), on (.st 1 (.t 9) (.t 8))]) (.seq (.reg [o 10 (.ld true 2 (.t 3)), on (.st 2 (.t 2) (.t 10))]) .ret)))))⟩
theorem ir_l_toDot : compFn Try.prog n_l_toDot = some F_l_toDot := by kernel_rfl
theorem l_toDot_ret (σ : St) (x : Dot) : Ret Try.prog n_l_toDot [.agg [.int .i64 x.rep, .int .i64 x.seq]] σ (.agg [.int .i64 x.rep, .int .i64 x.seq]) σ := by
  refine ret_eq ir_l_toDot (Nat.le_of_ble_eq_true rfl) (by simp [vLt, cLt, sLt]) ?_
  simp +contextual (maxSteps := 600000) (disch := omega) only [go_sem, Nat.reduceEqDiff, ↓reduceIte, Int.reduceEq, Int.reduceNeg, wrap_add, F_l_toDot]
end Go.Proofs.Ytffnefmklckngaa.Sy

/- Contracts of the laws' own functions: HtoCell. -/
namespace Go.Proofs.Ytffnefmklckngaa.Sy
open Go Go.RowKit
set_option linter.unusedSimpArgs false
set_option linter.unusedVariables false
abbrev n_l_toCell : Nat := 65
def F_l_toCell : Fn1 := ⟨25, [.c 2 true 8], (.seq (.reg [o 1 (.box (.t 0)), o 2 (.new [(.str ⟨#[]⟩), (.int .i64 0), (.int .i64 0), (.int .i64 0), (.int .i64 0), (.int .i64 0), (.int .i64 0), (.bool false)])]) (.seq (.reg [o 3 (.new [(.str ⟨#[]⟩), (.int .i64 0), (.int .i64 0), (.int .i64 0), (.int .i64 0), (.int .i64 0), (.int .i64 0), (.bool false)])]) (.seq (.reg [o 4 (.fad 0 (.t 1)), o 5 (.ld false 1 (.t 4)), o 6 (.fad 0 (.t 3)), on (.st 1 (.t 6) (.t 5))]) (.seq (.reg [o 7 (.fad 1 (.t 1)), o 8 (.ld true 2 (.t 7)), o 9 (.call 14 [(.t 8)]), o 10 (.fad 1 (.t 3)), on (.st 2 (.t 10) (.t 9))]) (.seq (.reg [o 11 (.fad 3 (.t 1)), o 12 (.ld false 1 (.t 11)), o 13 (.fad 3 (.t 3)), on (.st 1 (.t 13) (.t 12))]) (.seq (.reg [o 14 (.fad 4 (.t 1)), o 15 (.ld true 2 (.t 14)), o 16 (.call 14 [(.t 15)]), o 17 (.fad 4 (.t 3)), on (.st 2 (.t 17) (.t 16))]) (.seq (.reg [o 18 (.fad 6 (.t 1)), o 19 (.ld false 1 (.t 18)), o 20 (.fad 6 (.t 3)), on (.st 1 (.t 20) (.t 19))]) (.seq (.reg [o 21 (.fad 7 (.t 1)), o 22 (.ld false 1 (.t 21)), o 23 (.fad 7 (.t 3)), on (.st 1 (.t 23) (.t 22))]) (.seq (.reg [o 24 (.ld true 8 (.t 3)), on (.st 8 (.t 2) (.t 24))]) .ret)))))))))⟩
theorem ir_l_toCell : compFn Try.prog n_l_toCell = some F_l_toCell := by kernel_rfl
theorem l_toCell_ret (σ : St) (x : Cell) : Ret Try.prog n_l_toCell [.agg [.str x.obj, .int .i64 x.dot.rep, .int .i64 x.dot.seq, .int .i64 x.time, .int .i64 x.ref.rep, .int .i64 x.ref.seq, .int .i64 x.val, .bool x.gone]] σ (.agg [.str x.obj, .int .i64 x.dot.rep, .int .i64 x.dot.seq, .int .i64 x.time, .int .i64 x.ref.rep, .int .i64 x.ref.seq, .int .i64 x.val, .bool x.gone]) σ := by
  refine ret_eq ir_l_toCell (Nat.le_of_ble_eq_true rfl) (by simp [vLt, cLt, sLt]) ?_
  simp +contextual (maxSteps := 600000) (disch := omega) only [go_sem, Nat.reduceEqDiff, ↓reduceIte, Int.reduceEq, Int.reduceNeg, wrap_add, F_l_toCell]
  refine by_ret (l_toDot_ret _ x.dot) ?_
  simp +contextual (maxSteps := 600000) (disch := omega) only [go_sem, Nat.reduceEqDiff, ↓reduceIte, Int.reduceEq, Int.reduceNeg, wrap_add, List.append_nil]
  refine by_ret (l_toDot_ret _ x.ref) ?_
  simp +contextual (maxSteps := 600000) (disch := omega) only [go_sem, Nat.reduceEqDiff, ↓reduceIte, Int.reduceEq, Int.reduceNeg, wrap_add, List.append_nil]
end Go.Proofs.Ytffnefmklckngaa.Sy

/- Contracts of the laws' own functions: HtoCellS. -/
namespace Go.Proofs.Ytffnefmklckngaa.Sy
open Go Go.RowKit
set_option linter.unusedSimpArgs false
set_option linter.unusedVariables false
abbrev n_l_toCellS : Nat := 35
def F_l_toCellS : Fn1 := ⟨23, [.t 2], (.seq (.reg [o 2 (.mov (.k .nilS))]) (.seq (.reg [o 5 (.mov (.t 0)), o 6 (.len false (.t 5)), o 7 (.mks 8 72 [(.str ⟨#[]⟩), (.int .i64 0), (.int .i64 0), (.int .i64 0), (.int .i64 0), (.int .i64 0), (.int .i64 0), (.bool false)] (.t 6) (.t 6)), o 3 (.mov (.t 7))]) (.seq (.seq (.reg [o 4 (.mov (.k (.int .i64 0)))]) (.blk 0 (.lop (.seq (.seq (.reg [o 8 (.mov (.t 4)), o 9 (.mov (.t 0)), o 10 (.len false (.t 9)), o 11 (.bin .lss (.t 8) (.t 10))]) (.cnd (.t 11) .skip (.ext 0))) (.seq (.blk 1 (.reg [o 14 (.mov (.t 3)), o 15 (.mov (.t 4)), o 16 (.mov (.t 0)), o 17 (.mov (.t 4)), o 18 (.iad 8 (.t 16) (.t 17)), o 19 (.ld true 8 (.t 18)), o 20 (.call 65 [(.t 19)]), o 21 (.iad 8 (.t 14) (.t 15)), on (.st 8 (.t 21) (.t 20))])) (.reg [o 12 (.mov (.t 4)), o 13 (.bin .add (.t 12) (.k (.int .i64 1))), o 4 (.mov (.t 13))])))))) (.seq (.reg [o 22 (.mov (.t 3)), o 2 (.mov (.t 22))]) .ret))))⟩
theorem ir_l_toCellS : compFn Try.prog n_l_toCellS = some F_l_toCellS := by kernel_rfl
theorem l_toCellS_ret (σ : St) (v : GV) (l : List Cell) (hR : RS pCell.kd σ v l) (hl : l.length ≤ 1099511627776) : ∃ r τ, Ret Try.prog n_l_toCellS [v] σ r τ ∧ Hp σ τ [ow pCell.kd r l] := by
  refine ret_hp (rs := fun r => [ow pCell.kd r l]) ir_l_toCellS (Nat.le_of_ble_eq_true rfl) ?_
  have hmk : ∀ ze, mksG 8 72 ze σ (some l.length) (some l.length) = some (.sl σ.length 0 l.length, σ ++ [some (.row 8 (reps l.length ze))]) := fun ze => mks_ok (by omega)
  simp +contextual (maxSteps := 600000) (disch := omega) only [go_sem, Nat.reduceEqDiff, ↓reduceIte, Int.reduceEq, Int.reduceNeg, wrap_add, F_l_toCellS, hR.len, hmk]
  have H0 := ((Hp.refl σ).new 8 (reps l.length (pCell.enc ⟨⟨#[]⟩, ⟨0, 0⟩, 0, ⟨0, 0⟩, 0, false⟩))).toRow 0 (p := pCell) rfl (List.replicate l.length ⟨⟨#[]⟩, ⟨0, 0⟩, 0, ⟨0, 0⟩, 0, false⟩) rfl (reps_enc _ _ _) l.length (by simp)
  refine vc_for l.length 4 (fun i env τ => env 0 = v ∧ env 3 = .sl σ.length 0 l.length ∧ Hp σ τ [ow pCell.kd (.sl σ.length 0 l.length) (l.take i ++ List.replicate (l.length - i) ⟨⟨#[]⟩, ⟨0, 0⟩, 0, ⟨0, 0⟩, 0, false⟩)]) rfl ⟨rfl, rfl, by rw [List.take_zero, List.nil_append, Nat.sub_zero]; exact H0⟩ ?_ ?_
  · rintro i env τ hi e4 c0 ⟨e0, e3, H⟩
    have h1 := hR.pre H.sub
    have h2 := H.sl 0 rfl
    have hj := fill_len (z := (⟨⟨#[]⟩, ⟨0, 0⟩, 0, ⟨0, 0⟩, 0, false⟩ : Cell)) hi
    simp +contextual (maxSteps := 600000) (disch := omega) only [go_sem, Nat.reduceEqDiff, ↓reduceIte, Int.reduceEq, Int.reduceNeg, wrap_add, e0, e3, e4, c0, hR.len, Cell_at h1 hi]
    refine by_ret (l_toCell_ret τ l[i]) ?_
    obtain ⟨τ', es, H'⟩ := H.stw 0 rfl hj 8 (.agg [.str l[i].obj, .int .i64 l[i].dot.rep, .int .i64 l[i].dot.seq, .int .i64 l[i].time, .int .i64 l[i].ref.rep, .int .i64 l[i].ref.seq, .int .i64 l[i].val, .bool l[i].gone]) l[i] rfl rfl (by decide)
    rw [fill_step hi] at H'
    have es : stG 8 τ (atz 8 (.sl σ.length 0 l.length) i) (.agg [.str l[i].obj, .int .i64 l[i].dot.rep, .int .i64 l[i].dot.seq, .int .i64 l[i].time, .int .i64 l[i].ref.rep, .int .i64 l[i].ref.seq, .int .i64 l[i].val, .bool l[i].gone]) = some (.tup [], τ') := es
    simp +contextual (maxSteps := 600000) (disch := omega) only [go_sem, Nat.reduceEqDiff, ↓reduceIte, Int.reduceEq, Int.reduceNeg, wrap_add, e0, e3, e4, c0, hR.len, Cell_at h1 hi, Cell_at h2 hj, es]
    exact H'
  · rintro env τ e4 c0 ⟨e0, e3, H⟩
    rw [fill_end] at H
    simp +contextual (maxSteps := 600000) (disch := omega) only [go_sem, Nat.reduceEqDiff, ↓reduceIte, Int.reduceEq, Int.reduceNeg, wrap_add, e0, e3, e4, c0, hR.len]
    exact ⟨_, rfl, H⟩
end Go.Proofs.Ytffnefmklckngaa.Sy

/- Contracts of the laws' own functions: HtoIntS. -/
namespace Go.Proofs.Ytffnefmklckngaa.Sy
open Go Go.RowKit
set_option linter.unusedSimpArgs false
set_option linter.unusedVariables false
abbrev n_l_toIntS : Nat := 15
def F_l_toIntS : Fn1 := ⟨22, [.t 2], (.seq (.reg [o 2 (.mov (.k .nilS))]) (.seq (.reg [o 5 (.mov (.t 0)), o 6 (.len false (.t 5)), o 7 (.mks 1 8 [(.int .i64 0)] (.t 6) (.t 6)), o 3 (.mov (.t 7))]) (.seq (.seq (.reg [o 4 (.mov (.k (.int .i64 0)))]) (.blk 0 (.lop (.seq (.seq (.reg [o 8 (.mov (.t 4)), o 9 (.mov (.t 0)), o 10 (.len false (.t 9)), o 11 (.bin .lss (.t 8) (.t 10))]) (.cnd (.t 11) .skip (.ext 0))) (.seq (.blk 1 (.reg [o 14 (.mov (.t 3)), o 15 (.mov (.t 4)), o 16 (.mov (.t 0)), o 17 (.mov (.t 4)), o 18 (.iad 1 (.t 16) (.t 17)), o 19 (.ld false 1 (.t 18)), o 20 (.iad 1 (.t 14) (.t 15)), on (.st 1 (.t 20) (.t 19))])) (.reg [o 12 (.mov (.t 4)), o 13 (.bin .add (.t 12) (.k (.int .i64 1))), o 4 (.mov (.t 13))])))))) (.seq (.reg [o 21 (.mov (.t 3)), o 2 (.mov (.t 21))]) .ret))))⟩
theorem ir_l_toIntS : compFn Try.prog n_l_toIntS = some F_l_toIntS := by kernel_rfl
theorem l_toIntS_ret (σ : St) (v : GV) (l : List Int) (hR : RS pI.kd σ v l) (hl : l.length ≤ 1099511627776) : ∃ r τ, Ret Try.prog n_l_toIntS [v] σ r τ ∧ Hp σ τ [ow pI.kd r l] := by
  refine ret_hp (rs := fun r => [ow pI.kd r l]) ir_l_toIntS (Nat.le_of_ble_eq_true rfl) ?_
  have hmk : ∀ ze, mksG 1 8 ze σ (some l.length) (some l.length) = some (.sl σ.length 0 l.length, σ ++ [some (.row 1 (reps l.length ze))]) := fun ze => mks_ok (by omega)
  simp +contextual (maxSteps := 600000) (disch := omega) only [go_sem, Nat.reduceEqDiff, ↓reduceIte, Int.reduceEq, Int.reduceNeg, wrap_add, F_l_toIntS, hR.len, hmk]
  have H0 := ((Hp.refl σ).new 1 (reps l.length (pI.enc 0))).toRow 0 (p := pI) rfl (List.replicate l.length 0) rfl (reps_enc _ _ _) l.length (by simp)
  refine vc_for l.length 4 (fun i env τ => env 0 = v ∧ env 3 = .sl σ.length 0 l.length ∧ Hp σ τ [ow pI.kd (.sl σ.length 0 l.length) (l.take i ++ List.replicate (l.length - i) 0)]) rfl ⟨rfl, rfl, by rw [List.take_zero, List.nil_append, Nat.sub_zero]; exact H0⟩ ?_ ?_
  · rintro i env τ hi e4 c0 ⟨e0, e3, H⟩
    have h1 := hR.pre H.sub
    have h2 := H.sl 0 rfl
    have hj := fill_len (z := (0 : Int)) hi
    obtain ⟨τ', es, H'⟩ := H.stw 0 rfl hj 1 (.int .i64 l[i]) l[i] rfl rfl (by decide)
    rw [fill_step hi] at H'
    have es : stG 1 τ (atz 1 (.sl σ.length 0 l.length) i) (.int .i64 l[i]) = some (.tup [], τ') := es
    simp +contextual (maxSteps := 600000) (disch := omega) only [go_sem, Nat.reduceEqDiff, ↓reduceIte, Int.reduceEq, Int.reduceNeg, wrap_add, e0, e3, e4, c0, hR.len, int_at h1 hi, int_at h2 hj, es]
    exact H'
  · rintro env τ e4 c0 ⟨e0, e3, H⟩
    rw [fill_end] at H
    simp +contextual (maxSteps := 600000) (disch := omega) only [go_sem, Nat.reduceEqDiff, ↓reduceIte, Int.reduceEq, Int.reduceNeg, wrap_add, e0, e3, e4, c0, hR.len]
    exact ⟨_, rfl, H⟩
end Go.Proofs.Ytffnefmklckngaa.Sy

/- Contracts of the laws' own functions: HtoLive. -/
namespace Go.Proofs.Ytffnefmklckngaa.Sy
open Go Go.RowKit
set_option linter.unusedSimpArgs false
set_option linter.unusedVariables false
abbrev n_l_toLive : Nat := 64
def F_l_toLive : Fn1 := ⟨21, [.c 2 true 6], (.seq (.reg [o 1 (.box (.t 0)), o 2 (.new [(.bool false), (.str ⟨#[]⟩), (.str ⟨#[]⟩), (.int .i64 0), (.int .i64 0), (.int .i64 0)])]) (.seq (.reg [o 3 (.new [(.bool false), (.str ⟨#[]⟩), (.str ⟨#[]⟩), (.int .i64 0), (.int .i64 0), (.int .i64 0)])]) (.seq (.reg [o 4 (.fad 0 (.t 1)), o 5 (.ld false 1 (.t 4)), o 6 (.fad 0 (.t 3)), on (.st 1 (.t 6) (.t 5))]) (.seq (.reg [o 7 (.fad 1 (.t 1)), o 8 (.ld false 1 (.t 7)), o 9 (.fad 1 (.t 3)), on (.st 1 (.t 9) (.t 8))]) (.seq (.reg [o 10 (.fad 2 (.t 1)), o 11 (.ld false 1 (.t 10)), o 12 (.fad 2 (.t 3)), on (.st 1 (.t 12) (.t 11))]) (.seq (.reg [o 13 (.fad 3 (.t 1)), o 14 (.ld false 1 (.t 13)), o 15 (.fad 3 (.t 3)), on (.st 1 (.t 15) (.t 14))]) (.seq (.reg [o 16 (.fad 4 (.t 1)), o 17 (.ld true 2 (.t 16)), o 18 (.call 14 [(.t 17)]), o 19 (.fad 4 (.t 3)), on (.st 2 (.t 19) (.t 18))]) (.seq (.reg [o 20 (.ld true 6 (.t 3)), on (.st 6 (.t 2) (.t 20))]) .ret))))))))⟩
theorem ir_l_toLive : compFn Try.prog n_l_toLive = some F_l_toLive := by kernel_rfl
theorem l_toLive_ret (σ : St) (x : Live) : Ret Try.prog n_l_toLive [.agg [.bool x.map, .str x.obj, .str x.key, .int .i64 x.val, .int .i64 x.dot.rep, .int .i64 x.dot.seq]] σ (.agg [.bool x.map, .str x.obj, .str x.key, .int .i64 x.val, .int .i64 x.dot.rep, .int .i64 x.dot.seq]) σ := by
  refine ret_eq ir_l_toLive (Nat.le_of_ble_eq_true rfl) (by simp [vLt, cLt, sLt]) ?_
  simp +contextual (maxSteps := 600000) (disch := omega) only [go_sem, Nat.reduceEqDiff, ↓reduceIte, Int.reduceEq, Int.reduceNeg, wrap_add, F_l_toLive]
  refine by_ret (l_toDot_ret _ x.dot) ?_
  simp +contextual (maxSteps := 600000) (disch := omega) only [go_sem, Nat.reduceEqDiff, ↓reduceIte, Int.reduceEq, Int.reduceNeg, wrap_add, List.append_nil]
end Go.Proofs.Ytffnefmklckngaa.Sy

/- Contracts of the laws' own functions: HtoLiveS. -/
namespace Go.Proofs.Ytffnefmklckngaa.Sy
open Go Go.RowKit
set_option linter.unusedSimpArgs false
set_option linter.unusedVariables false
abbrev n_l_toLiveS : Nat := 34
def F_l_toLiveS : Fn1 := ⟨23, [.t 2], (.seq (.reg [o 2 (.mov (.k .nilS))]) (.seq (.reg [o 5 (.mov (.t 0)), o 6 (.len false (.t 5)), o 7 (.mks 6 64 [(.bool false), (.str ⟨#[]⟩), (.str ⟨#[]⟩), (.int .i64 0), (.int .i64 0), (.int .i64 0)] (.t 6) (.t 6)), o 3 (.mov (.t 7))]) (.seq (.seq (.reg [o 4 (.mov (.k (.int .i64 0)))]) (.blk 0 (.lop (.seq (.seq (.reg [o 8 (.mov (.t 4)), o 9 (.mov (.t 0)), o 10 (.len false (.t 9)), o 11 (.bin .lss (.t 8) (.t 10))]) (.cnd (.t 11) .skip (.ext 0))) (.seq (.blk 1 (.reg [o 14 (.mov (.t 3)), o 15 (.mov (.t 4)), o 16 (.mov (.t 0)), o 17 (.mov (.t 4)), o 18 (.iad 6 (.t 16) (.t 17)), o 19 (.ld true 6 (.t 18)), o 20 (.call 64 [(.t 19)]), o 21 (.iad 6 (.t 14) (.t 15)), on (.st 6 (.t 21) (.t 20))])) (.reg [o 12 (.mov (.t 4)), o 13 (.bin .add (.t 12) (.k (.int .i64 1))), o 4 (.mov (.t 13))])))))) (.seq (.reg [o 22 (.mov (.t 3)), o 2 (.mov (.t 22))]) .ret))))⟩
theorem ir_l_toLiveS : compFn Try.prog n_l_toLiveS = some F_l_toLiveS := by kernel_rfl
theorem l_toLiveS_ret (σ : St) (v : GV) (l : List Live) (hR : RS pLive.kd σ v l) (hl : l.length ≤ 1099511627776) : ∃ r τ, Ret Try.prog n_l_toLiveS [v] σ r τ ∧ Hp σ τ [ow pLive.kd r l] := by
  refine ret_hp (rs := fun r => [ow pLive.kd r l]) ir_l_toLiveS (Nat.le_of_ble_eq_true rfl) ?_
  have hmk : ∀ ze, mksG 6 64 ze σ (some l.length) (some l.length) = some (.sl σ.length 0 l.length, σ ++ [some (.row 6 (reps l.length ze))]) := fun ze => mks_ok (by omega)
  simp +contextual (maxSteps := 600000) (disch := omega) only [go_sem, Nat.reduceEqDiff, ↓reduceIte, Int.reduceEq, Int.reduceNeg, wrap_add, F_l_toLiveS, hR.len, hmk]
  have H0 := ((Hp.refl σ).new 6 (reps l.length (pLive.enc ⟨false, ⟨#[]⟩, ⟨#[]⟩, 0, ⟨0, 0⟩⟩))).toRow 0 (p := pLive) rfl (List.replicate l.length ⟨false, ⟨#[]⟩, ⟨#[]⟩, 0, ⟨0, 0⟩⟩) rfl (reps_enc _ _ _) l.length (by simp)
  refine vc_for l.length 4 (fun i env τ => env 0 = v ∧ env 3 = .sl σ.length 0 l.length ∧ Hp σ τ [ow pLive.kd (.sl σ.length 0 l.length) (l.take i ++ List.replicate (l.length - i) ⟨false, ⟨#[]⟩, ⟨#[]⟩, 0, ⟨0, 0⟩⟩)]) rfl ⟨rfl, rfl, by rw [List.take_zero, List.nil_append, Nat.sub_zero]; exact H0⟩ ?_ ?_
  · rintro i env τ hi e4 c0 ⟨e0, e3, H⟩
    have h1 := hR.pre H.sub
    have h2 := H.sl 0 rfl
    have hj := fill_len (z := (⟨false, ⟨#[]⟩, ⟨#[]⟩, 0, ⟨0, 0⟩⟩ : Live)) hi
    simp +contextual (maxSteps := 600000) (disch := omega) only [go_sem, Nat.reduceEqDiff, ↓reduceIte, Int.reduceEq, Int.reduceNeg, wrap_add, e0, e3, e4, c0, hR.len, Live_at h1 hi]
    refine by_ret (l_toLive_ret τ l[i]) ?_
    obtain ⟨τ', es, H'⟩ := H.stw 0 rfl hj 6 (.agg [.bool l[i].map, .str l[i].obj, .str l[i].key, .int .i64 l[i].val, .int .i64 l[i].dot.rep, .int .i64 l[i].dot.seq]) l[i] rfl rfl (by decide)
    rw [fill_step hi] at H'
    have es : stG 6 τ (atz 6 (.sl σ.length 0 l.length) i) (.agg [.bool l[i].map, .str l[i].obj, .str l[i].key, .int .i64 l[i].val, .int .i64 l[i].dot.rep, .int .i64 l[i].dot.seq]) = some (.tup [], τ') := es
    simp +contextual (maxSteps := 600000) (disch := omega) only [go_sem, Nat.reduceEqDiff, ↓reduceIte, Int.reduceEq, Int.reduceNeg, wrap_add, e0, e3, e4, c0, hR.len, Live_at h1 hi, Live_at h2 hj, es]
    exact H'
  · rintro env τ e4 c0 ⟨e0, e3, H⟩
    rw [fill_end] at H
    simp +contextual (maxSteps := 600000) (disch := omega) only [go_sem, Nat.reduceEqDiff, ↓reduceIte, Int.reduceEq, Int.reduceNeg, wrap_add, e0, e3, e4, c0, hR.len]
    exact ⟨_, rfl, H⟩
end Go.Proofs.Ytffnefmklckngaa.Sy

/- Contracts of the laws' own functions: HtoTally. -/
namespace Go.Proofs.Ytffnefmklckngaa.Sy
open Go Go.RowKit
set_option linter.unusedSimpArgs false
set_option linter.unusedVariables false
abbrev n_l_toTally : Nat := 63
def F_l_toTally : Fn1 := ⟨14, [.c 2 true 3], (.seq (.reg [o 1 (.box (.t 0)), o 2 (.new [(.str ⟨#[]⟩), (.int .i64 0), (.int .i64 0)])]) (.seq (.reg [o 3 (.new [(.str ⟨#[]⟩), (.int .i64 0), (.int .i64 0)])]) (.seq (.reg [o 4 (.fad 0 (.t 1)), o 5 (.ld false 1 (.t 4)), o 6 (.fad 0 (.t 3)), on (.st 1 (.t 6) (.t 5))]) (.seq (.reg [o 7 (.fad 1 (.t 1)), o 8 (.ld false 1 (.t 7)), o 9 (.fad 1 (.t 3)), on (.st 1 (.t 9) (.t 8))]) (.seq (.reg [o 10 (.fad 2 (.t 1)), o 11 (.ld false 1 (.t 10)), o 12 (.fad 2 (.t 3)), on (.st 1 (.t 12) (.t 11))]) (.seq (.reg [o 13 (.ld true 3 (.t 3)), on (.st 3 (.t 2) (.t 13))]) .ret))))))⟩
theorem ir_l_toTally : compFn Try.prog n_l_toTally = some F_l_toTally := by kernel_rfl
theorem l_toTally_ret (σ : St) (x : Tally) : Ret Try.prog n_l_toTally [.agg [.str x.obj, .int .i64 x.rep, .int .i64 x.sum]] σ (.agg [.str x.obj, .int .i64 x.rep, .int .i64 x.sum]) σ := by
  refine ret_eq ir_l_toTally (Nat.le_of_ble_eq_true rfl) (by simp [vLt, cLt, sLt]) ?_
  simp +contextual (maxSteps := 600000) (disch := omega) only [go_sem, Nat.reduceEqDiff, ↓reduceIte, Int.reduceEq, Int.reduceNeg, wrap_add, F_l_toTally]
end Go.Proofs.Ytffnefmklckngaa.Sy

/- Contracts of the laws' own functions: HtoTallyS. -/
namespace Go.Proofs.Ytffnefmklckngaa.Sy
open Go Go.RowKit
set_option linter.unusedSimpArgs false
set_option linter.unusedVariables false
abbrev n_l_toTallyS : Nat := 33
def F_l_toTallyS : Fn1 := ⟨23, [.t 2], (.seq (.reg [o 2 (.mov (.k .nilS))]) (.seq (.reg [o 5 (.mov (.t 0)), o 6 (.len false (.t 5)), o 7 (.mks 3 32 [(.str ⟨#[]⟩), (.int .i64 0), (.int .i64 0)] (.t 6) (.t 6)), o 3 (.mov (.t 7))]) (.seq (.seq (.reg [o 4 (.mov (.k (.int .i64 0)))]) (.blk 0 (.lop (.seq (.seq (.reg [o 8 (.mov (.t 4)), o 9 (.mov (.t 0)), o 10 (.len false (.t 9)), o 11 (.bin .lss (.t 8) (.t 10))]) (.cnd (.t 11) .skip (.ext 0))) (.seq (.blk 1 (.reg [o 14 (.mov (.t 3)), o 15 (.mov (.t 4)), o 16 (.mov (.t 0)), o 17 (.mov (.t 4)), o 18 (.iad 3 (.t 16) (.t 17)), o 19 (.ld true 3 (.t 18)), o 20 (.call 63 [(.t 19)]), o 21 (.iad 3 (.t 14) (.t 15)), on (.st 3 (.t 21) (.t 20))])) (.reg [o 12 (.mov (.t 4)), o 13 (.bin .add (.t 12) (.k (.int .i64 1))), o 4 (.mov (.t 13))])))))) (.seq (.reg [o 22 (.mov (.t 3)), o 2 (.mov (.t 22))]) .ret))))⟩
theorem ir_l_toTallyS : compFn Try.prog n_l_toTallyS = some F_l_toTallyS := by kernel_rfl
theorem l_toTallyS_ret (σ : St) (v : GV) (l : List Tally) (hR : RS pTally.kd σ v l) (hl : l.length ≤ 1099511627776) : ∃ r τ, Ret Try.prog n_l_toTallyS [v] σ r τ ∧ Hp σ τ [ow pTally.kd r l] := by
  refine ret_hp (rs := fun r => [ow pTally.kd r l]) ir_l_toTallyS (Nat.le_of_ble_eq_true rfl) ?_
  have hmk : ∀ ze, mksG 3 32 ze σ (some l.length) (some l.length) = some (.sl σ.length 0 l.length, σ ++ [some (.row 3 (reps l.length ze))]) := fun ze => mks_ok (by omega)
  simp +contextual (maxSteps := 600000) (disch := omega) only [go_sem, Nat.reduceEqDiff, ↓reduceIte, Int.reduceEq, Int.reduceNeg, wrap_add, F_l_toTallyS, hR.len, hmk]
  have H0 := ((Hp.refl σ).new 3 (reps l.length (pTally.enc ⟨⟨#[]⟩, 0, 0⟩))).toRow 0 (p := pTally) rfl (List.replicate l.length ⟨⟨#[]⟩, 0, 0⟩) rfl (reps_enc _ _ _) l.length (by simp)
  refine vc_for l.length 4 (fun i env τ => env 0 = v ∧ env 3 = .sl σ.length 0 l.length ∧ Hp σ τ [ow pTally.kd (.sl σ.length 0 l.length) (l.take i ++ List.replicate (l.length - i) ⟨⟨#[]⟩, 0, 0⟩)]) rfl ⟨rfl, rfl, by rw [List.take_zero, List.nil_append, Nat.sub_zero]; exact H0⟩ ?_ ?_
  · rintro i env τ hi e4 c0 ⟨e0, e3, H⟩
    have h1 := hR.pre H.sub
    have h2 := H.sl 0 rfl
    have hj := fill_len (z := (⟨⟨#[]⟩, 0, 0⟩ : Tally)) hi
    simp +contextual (maxSteps := 600000) (disch := omega) only [go_sem, Nat.reduceEqDiff, ↓reduceIte, Int.reduceEq, Int.reduceNeg, wrap_add, e0, e3, e4, c0, hR.len, Tally_at h1 hi]
    refine by_ret (l_toTally_ret τ l[i]) ?_
    obtain ⟨τ', es, H'⟩ := H.stw 0 rfl hj 3 (.agg [.str l[i].obj, .int .i64 l[i].rep, .int .i64 l[i].sum]) l[i] rfl rfl (by decide)
    rw [fill_step hi] at H'
    have es : stG 3 τ (atz 3 (.sl σ.length 0 l.length) i) (.agg [.str l[i].obj, .int .i64 l[i].rep, .int .i64 l[i].sum]) = some (.tup [], τ') := es
    simp +contextual (maxSteps := 600000) (disch := omega) only [go_sem, Nat.reduceEqDiff, ↓reduceIte, Int.reduceEq, Int.reduceNeg, wrap_add, e0, e3, e4, c0, hR.len, Tally_at h1 hi, Tally_at h2 hj, es]
    exact H'
  · rintro env τ e4 c0 ⟨e0, e3, H⟩
    rw [fill_end] at H
    simp +contextual (maxSteps := 600000) (disch := omega) only [go_sem, Nat.reduceEqDiff, ↓reduceIte, Int.reduceEq, Int.reduceNeg, wrap_add, e0, e3, e4, c0, hR.len]
    exact ⟨_, rfl, H⟩
end Go.Proofs.Ytffnefmklckngaa.Sy

/- Contracts of the laws' own functions: HtoState. -/
namespace Go.Proofs.Ytffnefmklckngaa.Sy
open Go Go.RowKit
set_option linter.unusedSimpArgs false
set_option linter.unusedVariables false
abbrev n_l_toState : Nat := 10
def F_l_toState : Fn1 := ⟨21, [.c 2 true 4], (.seq (.reg [o 1 (.box (.t 0)), o 2 (.new [.nilS, .nilS, .nilS, .nilS])]) (.seq (.reg [o 3 (.new [.nilS, .nilS, .nilS, .nilS])]) (.seq (.reg [o 4 (.fad 0 (.t 1)), o 5 (.ld false 1 (.t 4)), o 6 (.call 15 [(.t 5)]), o 7 (.fad 0 (.t 3)), on (.st 1 (.t 7) (.t 6))]) (.seq (.reg [o 8 (.fad 1 (.t 1)), o 9 (.ld false 1 (.t 8)), o 10 (.call 33 [(.t 9)]), o 11 (.fad 1 (.t 3)), on (.st 1 (.t 11) (.t 10))]) (.seq (.reg [o 12 (.fad 2 (.t 1)), o 13 (.ld false 1 (.t 12)), o 14 (.call 34 [(.t 13)]), o 15 (.fad 2 (.t 3)), on (.st 1 (.t 15) (.t 14))]) (.seq (.reg [o 16 (.fad 3 (.t 1)), o 17 (.ld false 1 (.t 16)), o 18 (.call 35 [(.t 17)]), o 19 (.fad 3 (.t 3)), on (.st 1 (.t 19) (.t 18))]) (.seq (.reg [o 20 (.ld true 4 (.t 3)), on (.st 4 (.t 2) (.t 20))]) .ret)))))))⟩
theorem ir_l_toState : compFn Try.prog n_l_toState = some F_l_toState := by kernel_rfl
theorem l_toState_ret (σ : St) (cs : List GV) (x : State) (hR : kState.R σ x cs) (hl : msState x ≤ 1099511627776) : ∃ r τ, Ret Try.prog n_l_toState [.agg cs] σ r τ ∧ σ <+: τ ∧ ∃ ds, r = .agg ds ∧ Hp σ τ [own kState ds x] := by
  have hlen := kState.len hR
  have hlen : cs.length = 4 := hlen
  obtain ⟨v0, v1, v2, v3, rfl, q0, q1, q2, q3⟩ := hR
  unfold msState at hl
  refine ret_new ir_l_toState (Nat.le_of_ble_eq_true rfl) ?_
  simp +contextual (maxSteps := 600000) (disch := omega) only [go_sem, Nat.reduceEqDiff, ↓reduceIte, Int.reduceEq, Int.reduceNeg, wrap_add, F_l_toState, List.append_nil]
  have H := (((Hp.refl σ).new 1 (v0 :: v1 :: v2 :: v3 :: [])).new 1 [GV.nilS, GV.nilS, GV.nilS, GV.nilS]).new 1 [GV.nilS, GV.nilS, GV.nilS, GV.nilS]
  obtain ⟨r0, τ0, R0, K0⟩ := l_toIntS_ret _ v0 x.know (q0.pre H.sub) (by omega)
  refine by_hp R0 K0 ?_
  have e0 := (K0.sl 0 rfl).cell
  have H := H.add K0
  try simp only [go_sem] at H
  try simp +contextual (maxSteps := 600000) (disch := omega) only [go_sem, Nat.reduceEqDiff, ↓reduceIte, Int.reduceEq, Int.reduceNeg, wrap_add, List.append_nil, ld_ptr (H.pt 3 rfl), ld_ptr (H.pt 1 rfl)]
  obtain ⟨_, es, H, _⟩ := H.st 1 rfl 1 0 (r0) (by rw [e0]; rfl) (by decide) (Nat.le_of_ble_eq_true rfl)
  try simp only [go_sem, List.set_cons_zero, List.set_cons_succ, e0] at H
  try simp +contextual (maxSteps := 600000) (disch := omega) only [go_sem, Nat.reduceEqDiff, ↓reduceIte, Int.reduceEq, Int.reduceNeg, wrap_add, List.append_nil, es, ld_ptr (H.pt 3 rfl), ld_ptr (H.pt 1 rfl)]
  obtain ⟨r1, τ1, R1, K1⟩ := l_toTallyS_ret _ v1 x.tallies (q1.pre H.sub) (by omega)
  refine by_hp R1 K1 ?_
  have e1 := (K1.sl 0 rfl).cell
  have H := H.add K1
  try simp only [go_sem] at H
  try simp +contextual (maxSteps := 600000) (disch := omega) only [go_sem, Nat.reduceEqDiff, ↓reduceIte, Int.reduceEq, Int.reduceNeg, wrap_add, List.append_nil, ld_ptr (H.pt 4 rfl), ld_ptr (H.pt 2 rfl)]
  obtain ⟨_, es, H, _⟩ := H.st 2 rfl 1 1 (r1) (by rw [e1]; rfl) (by decide) (Nat.le_of_ble_eq_true rfl)
  try simp only [go_sem, List.set_cons_zero, List.set_cons_succ, e1] at H
  try simp +contextual (maxSteps := 600000) (disch := omega) only [go_sem, Nat.reduceEqDiff, ↓reduceIte, Int.reduceEq, Int.reduceNeg, wrap_add, List.append_nil, es, ld_ptr (H.pt 4 rfl), ld_ptr (H.pt 2 rfl)]
  obtain ⟨r2, τ2, R2, K2⟩ := l_toLiveS_ret _ v2 x.lives (q2.pre H.sub) (by omega)
  refine by_hp R2 K2 ?_
  have e2 := (K2.sl 0 rfl).cell
  have H := H.add K2
  try simp only [go_sem] at H
  try simp +contextual (maxSteps := 600000) (disch := omega) only [go_sem, Nat.reduceEqDiff, ↓reduceIte, Int.reduceEq, Int.reduceNeg, wrap_add, List.append_nil, ld_ptr (H.pt 5 rfl), ld_ptr (H.pt 3 rfl)]
  obtain ⟨_, es, H, _⟩ := H.st 3 rfl 1 2 (r2) (by rw [e2]; rfl) (by decide) (Nat.le_of_ble_eq_true rfl)
  try simp only [go_sem, List.set_cons_zero, List.set_cons_succ, e2] at H
  try simp +contextual (maxSteps := 600000) (disch := omega) only [go_sem, Nat.reduceEqDiff, ↓reduceIte, Int.reduceEq, Int.reduceNeg, wrap_add, List.append_nil, es, ld_ptr (H.pt 5 rfl), ld_ptr (H.pt 3 rfl)]
  obtain ⟨r3, τ3, R3, K3⟩ := l_toCellS_ret _ v3 x.cells (q3.pre H.sub) (by omega)
  refine by_hp R3 K3 ?_
  have e3 := (K3.sl 0 rfl).cell
  have H := H.add K3
  try simp only [go_sem] at H
  try simp +contextual (maxSteps := 600000) (disch := omega) only [go_sem, Nat.reduceEqDiff, ↓reduceIte, Int.reduceEq, Int.reduceNeg, wrap_add, List.append_nil, ld_ptr (H.pt 6 rfl), ld_ptr (H.pt 4 rfl)]
  obtain ⟨_, es, H, _⟩ := H.st 4 rfl 1 3 (r3) (by rw [e3]; rfl) (by decide) (Nat.le_of_ble_eq_true rfl)
  try simp only [go_sem, List.set_cons_zero, List.set_cons_succ, e3] at H
  try simp +contextual (maxSteps := 600000) (disch := omega) only [go_sem, Nat.reduceEqDiff, ↓reduceIte, Int.reduceEq, Int.reduceNeg, wrap_add, List.append_nil, es, ld_ptr (H.pt 6 rfl), ld_ptr (H.pt 4 rfl)]
  obtain ⟨_, es, H, _⟩ := H.st 5 rfl 4 0 (.agg (r0 :: r1 :: r2 :: r3 :: [])) (rfl) (by decide) (Nat.le_of_ble_eq_true rfl)
  try simp only [go_sem, List.set_cons_zero, List.set_cons_succ] at H
  try simp +contextual (maxSteps := 600000) (disch := omega) only [go_sem, Nat.reduceEqDiff, ↓reduceIte, Int.reduceEq, Int.reduceNeg, wrap_add, List.append_nil, es, ld_ptr (H.pt 5 rfl)]
  have h0 := H.sub
  have H := (((H.pick 1 rfl).pick 2 rfl).pick 3 rfl)
  try simp only [List.eraseIdx_cons_succ, List.eraseIdx_cons_zero] at H
  exact ⟨_, rfl, h0, _, rfl, H.ownState.one⟩
end Go.Proofs.Ytffnefmklckngaa.Sy

/- From what an argument can hold to sizes. -/
namespace Go.Proofs.Ytffnefmklckngaa.Sy
open Go Go.RowKit
theorem zStrS_w {x : List ByteArray} (h : ((x).length ≤ 9223372036854775807 ∧ ∀ y4 ∈ x, (y4).size ≤ 9223372036854775807)) : x.length ≤ 9223372036854775807 ∧ ∀ y ∈ x, wString y := ⟨h.1, fun y hy => h.2 y hy⟩
theorem zIntSS_w {x : List (List Int)} (h : ((x).length ≤ 9223372036854775807 ∧ ∀ y5 ∈ x, ((y5).length ≤ 9223372036854775807 ∧ ∀ y4 ∈ y5, I64 (y4)))) : x.length ≤ 9223372036854775807 ∧ ∀ y ∈ x, wIntS y := ⟨h.1, fun y hy => (h.2 y hy).1⟩
theorem zTally_w {x : Tally} (h : zTally x) : wTally x := h.1
theorem zTallyS_w {x : List Tally} (h : ((x).length ≤ 9223372036854775807 ∧ ∀ y6 ∈ x, zTally (y6))) : x.length ≤ 9223372036854775807 ∧ ∀ y ∈ x, wTally y := ⟨h.1, fun y hy => zTally_w (h.2 y hy)⟩
theorem zLive_w {x : Live} (h : zLive x) : wLive x := ⟨h.2.1, h.2.2.1⟩
theorem zLiveS_w {x : List Live} (h : ((x).length ≤ 9223372036854775807 ∧ ∀ y5 ∈ x, zLive (y5))) : x.length ≤ 9223372036854775807 ∧ ∀ y ∈ x, wLive y := ⟨h.1, fun y hy => zLive_w (h.2 y hy)⟩
theorem zCell_w {x : Cell} (h : zCell x) : wCell x := h.1
theorem zCellS_w {x : List Cell} (h : ((x).length ≤ 9223372036854775807 ∧ ∀ y5 ∈ x, zCell (y5))) : x.length ≤ 9223372036854775807 ∧ ∀ y ∈ x, wCell y := ⟨h.1, fun y hy => zCell_w (h.2 y hy)⟩
theorem zEdit_w {x : Edit} (h : zEdit x) : wEdit x := ⟨h.2.1, h.2.2.1⟩
theorem zEditS_w {x : List Edit} (h : ((x).length ≤ 9223372036854775807 ∧ ∀ y5 ∈ x, zEdit (y5))) : x.length ≤ 9223372036854775807 ∧ ∀ y ∈ x, wEdit y := ⟨h.1, fun y hy => zEdit_w (h.2 y hy)⟩
theorem zWatch_w {x : Watch} (h : zWatch x) : wWatch x := ⟨h.2.1, h.2.2⟩
theorem zWatchS_w {x : List Watch} (h : ((x).length ≤ 9223372036854775807 ∧ ∀ y6 ∈ x, zWatch (y6))) : x.length ≤ 9223372036854775807 ∧ ∀ y ∈ x, wWatch y := ⟨h.1, fun y hy => zWatch_w (h.2 y hy)⟩
theorem zClash_w {x : Clash} (h : zClash x) : wClash x := ⟨h.1, h.2⟩
theorem zClashS_w {x : List Clash} (h : ((x).length ≤ 9223372036854775807 ∧ ∀ y6 ∈ x, zClash (y6))) : x.length ≤ 9223372036854775807 ∧ ∀ y ∈ x, wClash y := ⟨h.1, fun y hy => zClash_w (h.2 y hy)⟩
theorem zFile_w {x : File} (h : zFile x) : wFile x := h.1
theorem zFileS_w {x : List File} (h : ((x).length ≤ 9223372036854775807 ∧ ∀ y5 ∈ x, zFile (y5))) : x.length ≤ 9223372036854775807 ∧ ∀ y ∈ x, wFile y := ⟨h.1, fun y hy => zFile_w (h.2 y hy)⟩
theorem zLetter_w {x : Letter} (h : zLetter x) : wLetter x := h.2
theorem zLetterS_w {x : List Letter} (h : ((x).length ≤ 9223372036854775807 ∧ ∀ y7 ∈ x, zLetter (y7))) : x.length ≤ 9223372036854775807 ∧ ∀ y ∈ x, wLetter y := ⟨h.1, fun y hy => zLetter_w (h.2 y hy)⟩
theorem zEvent_w {x : Event} (h : zEvent x) : wEvent x := zEdit_w h.2.2.2
theorem zEventS_w {x : List Event} (h : ((x).length ≤ 9223372036854775807 ∧ ∀ y6 ∈ x, zEvent (y6))) : x.length ≤ 9223372036854775807 ∧ ∀ y ∈ x, wEvent y := ⟨h.1, fun y hy => zEvent_w (h.2 y hy)⟩
theorem zAct_w {x : Act} (h : zAct x) : wAct x := ⟨h.2.2.1.1, h.2.2.2.2.1, h.2.2.2.2.2.1⟩
theorem zActS_w {x : List Act} (h : ((x).length ≤ 9223372036854775807 ∧ ∀ y4 ∈ x, zAct (y4))) : x.length ≤ 9223372036854775807 ∧ ∀ y ∈ x, wAct y := ⟨h.1, fun y hy => zAct_w (h.2 y hy)⟩
theorem zState_w {x : State} (h : zState x) : wState x := ⟨h.1.1, zTallyS_w h.2.1, zLiveS_w h.2.2.1, zCellS_w h.2.2.2⟩
theorem zStateS_w {x : List State} (h : ((x).length ≤ 9223372036854775807 ∧ ∀ y6 ∈ x, zState (y6))) : x.length ≤ 9223372036854775807 ∧ ∀ y ∈ x, wState y := ⟨h.1, fun y hy => zState_w (h.2 y hy)⟩
theorem zDelta_w {x : Delta} (h : zDelta x) : wDelta x := ⟨h.1.1, h.2.1.1, zTallyS_w h.2.2.1, zLiveS_w h.2.2.2.1, h.2.2.2.2.1.1, zCellS_w h.2.2.2.2.2⟩
theorem zDeltaS_w {x : List Delta} (h : ((x).length ≤ 9223372036854775807 ∧ ∀ y6 ∈ x, zDelta (y6))) : x.length ≤ 9223372036854775807 ∧ ∀ y ∈ x, wDelta y := ⟨h.1, fun y hy => zDelta_w (h.2 y hy)⟩
theorem zUnit__w {x : Unit_} (h : zUnit_ x) : wUnit x := ⟨zAct_w h.2.1, zDelta_w h.2.2⟩
theorem zUnitS_w {x : List Unit_} (h : ((x).length ≤ 9223372036854775807 ∧ ∀ y6 ∈ x, zUnit_ (y6))) : x.length ≤ 9223372036854775807 ∧ ∀ y ∈ x, wUnit y := ⟨h.1, fun y hy => zUnit__w (h.2 y hy)⟩
theorem zLog_w {x : Log} (h : zLog x) : wLog x := ⟨zState_w h.2.2.1, zUnitS_w h.2.2.2.1, zUnitS_w h.2.2.2.2⟩
theorem zLogS_w {x : List Log} (h : ((x).length ≤ 9223372036854775807 ∧ ∀ y4 ∈ x, zLog (y4))) : x.length ≤ 9223372036854775807 ∧ ∀ y ∈ x, wLog y := ⟨h.1, fun y hy => zLog_w (h.2 y hy)⟩
theorem zCommit_w {x : Commit} (h : zCommit x) : wCommit x := ⟨h.2.1.1, zState_w h.2.2⟩
theorem zCommitS_w {x : List Commit} (h : ((x).length ≤ 9223372036854775807 ∧ ∀ y7 ∈ x, zCommit (y7))) : x.length ≤ 9223372036854775807 ∧ ∀ y ∈ x, wCommit y := ⟨h.1, fun y hy => zCommit_w (h.2 y hy)⟩
theorem zGraph_w {x : Graph} (h : zGraph x) : wGraph x := zCommitS_w h.1
theorem zGraphS_w {x : List Graph} (h : ((x).length ≤ 9223372036854775807 ∧ ∀ y6 ∈ x, zGraph (y6))) : x.length ≤ 9223372036854775807 ∧ ∀ y ∈ x, wGraph y := ⟨h.1, fun y hy => zGraph_w (h.2 y hy)⟩
theorem zReplica_w {x : Replica} (h : zReplica x) : wReplica x := ⟨zLog_w h.2.1, zGraph_w h.2.2.1, zFile_w h.2.2.2.1, zUnitS_w h.2.2.2.2⟩
theorem zReplicaS_w {x : List Replica} (h : ((x).length ≤ 9223372036854775807 ∧ ∀ y8 ∈ x, zReplica (y8))) : x.length ≤ 9223372036854775807 ∧ ∀ y ∈ x, wReplica y := ⟨h.1, fun y hy => zReplica_w (h.2 y hy)⟩
theorem zWorld__w {x : World_} (h : zWorld_ x) : wWorld x := ⟨zReplicaS_w h.1, zLetterS_w h.2.1, h.2.2.1.1, zIntSS_w h.2.2.2⟩
theorem zWorldS_w {x : List World_} (h : ((x).length ≤ 9223372036854775807 ∧ ∀ y7 ∈ x, zWorld_ (y7))) : x.length ≤ 9223372036854775807 ∧ ∀ y ∈ x, wWorld y := ⟨h.1, fun y hy => zWorld__w (h.2 y hy)⟩
theorem zScript_w {x : Script} (h : zScript x) : wScript x := ⟨h.1.1, zEventS_w h.2.1⟩
theorem zScriptS_w {x : List Script} (h : ((x).length ≤ 9223372036854775807 ∧ ∀ y7 ∈ x, zScript (y7))) : x.length ≤ 9223372036854775807 ∧ ∀ y ∈ x, wScript y := ⟨h.1, fun y hy => zScript_w (h.2 y hy)⟩
end Go.Proofs.Ytffnefmklckngaa.Sy

/- The law of RowWhose. -/
namespace Go.Proofs.Ytffnefmklckngaa.Sy
open Go Go.RowKit
set_option linter.unusedSimpArgs false
set_option linter.unusedVariables false
set_option maxRecDepth 4000
abbrev n_l_FnExactRowWhose : Nat := 7
def F_l_FnExactRowWhose : Fn1 := ⟨77, [.t 4], (.seq (.reg [o 2 (.box (.t 0)), o 4 (.mov (.k (.bool false)))]) (.seq (.seq (.reg [o 13 (.mov (.t 1)), o 14 (.len true (.t 13)), o 15 (.bin .gtr (.t 14) (.k (.int .i64 1048576)))]) (.cnd (.t 15) (.seq (.reg [o 4 (.mov (.k (.bool true)))]) .ret) .skip)) (.seq (.reg [o 5 (.mov (.k (.int .i64 1048576)))]) (.seq (.reg [o 16 (.ld true 4 (.t 2)), o 17 (.mov (.t 5)), o 18 (.call 8 [(.t 16), (.t 17)]), o 5 (.mov (.t 18))]) (.seq (.seq (.reg [o 19 (.mov (.t 5)), o 20 (.bin .lss (.t 19) (.k (.int .i64 0)))]) (.cnd (.t 20) (.seq (.reg [o 4 (.mov (.k (.bool true)))]) .ret) .skip)) (.seq (.reg [o 21 (.ld true 4 (.t 2)), o 22 (.call 10 [(.t 21)]), o 23 (.mov (.t 1)), o 24 (.call 25 [(.t 22), (.t 23)]), o 6 (.mov (.t 24))]) (.seq (.reg [o 25 (.ld true 4 (.t 2)), o 26 (.call 10 [(.t 25)]), o 7 (.new [.nilS, .nilS, .nilS, .nilS]), on (.st 4 (.t 7) (.t 26))]) (.seq (.reg [o 27 (.ld true 4 (.t 7)), o 28 (.mov (.t 1)), o 29 (.call 26 [(.t 27), (.t 28)]), o 8 (.mov (.t 29))]) (.seq (.seq (.reg [o 30 (.mov (.t 8)), o 31 (.mov (.t 6)), o 32 (.call 17 [(.t 30), (.t 31)]), o 33 (.un .not (.t 32))]) (.cnd (.t 33) (.seq (.reg [o 4 (.mov (.k (.bool false)))]) .ret) .skip)) (.seq (.seq (.drw [o 34 (.ld true 4 (.t 7)), o 35 (.ld true 4 (.t 2)), o 36 (.call 10 [(.t 35)])] [o 37 (.call 12 [(.t 34), (.t 36)]), o 38 (.un .not (.t 37))]) (.cnd (.t 38) (.seq (.reg [o 4 (.mov (.k (.bool false)))]) .ret) .skip)) (.seq (.reg [o 9 (.mov (.k (.int .i64 1)))]) (.seq (.reg [o 39 (.ld true 4 (.t 7)), o 40 (.mov (.t 9)), o 41 (.call 20 [(.t 39), (.t 40)]), o 9 (.mov (.t 41))]) (.seq (.seq (.reg [o 42 (.mov (.t 9)), o 43 (.bin .lss (.t 42) (.k (.int .i64 0))), o 44 (.mov (.t 43)), og 45 44 false (.mov (.t 8)), og 46 44 false (.mov (.t 6)), og 47 44 false (.call 17 [(.t 45), (.t 46)]), og 48 44 false (.un .not (.t 47)), o 49 (.pick (.t 44) (.k (.bool true)) (.t 48))]) (.cnd (.t 49) (.seq (.reg [o 4 (.mov (.k (.bool false)))]) .ret) .skip)) (.seq (.reg [o 10 (.mov (.k (.int .i64 1)))]) (.seq (.reg [o 50 (.mov (.t 8)), o 51 (.mov (.t 10)), o 52 (.call 21 [(.t 50), (.t 51)]), o 10 (.mov (.t 52))]) (.seq (.reg [o 11 (.mov (.k (.int .i64 1)))]) (.seq (.reg [o 53 (.mov (.t 8)), o 54 (.mov (.t 11)), o 55 (.call 27 [(.t 53), (.t 54)]), o 11 (.mov (.t 55))]) (.seq (.seq (.reg [o 56 (.mov (.t 11)), o 57 (.bin .lss (.t 56) (.k (.int .i64 0)))]) (.cnd (.t 57) (.seq (.reg [o 4 (.mov (.k (.bool false)))]) .ret) .skip)) (.seq (.seq (.reg [o 58 (.mov (.t 11)), o 59 (.mov (.t 10)), o 60 (.bin .neq (.t 58) (.t 59))]) (.cnd (.t 60) (.seq (.reg [o 4 (.mov (.k (.bool false)))]) .ret) .skip)) (.seq (.reg [o 61 (.ld true 4 (.t 2)), o 62 (.call 10 [(.t 61)]), o 63 (.mov (.t 1)), o 64 (.call 26 [(.t 62), (.t 63)]), o 12 (.mov (.t 64))]) (.seq (.seq (.reg [o 65 (.mov (.t 12)), o 66 (.mov (.t 6)), o 67 (.call 17 [(.t 65), (.t 66)]), o 68 (.un .not (.t 67))]) (.cnd (.t 68) (.seq (.reg [o 4 (.mov (.k (.bool false)))]) .ret) .skip)) (.seq (.reg [o 11 (.mov (.k (.int .i64 1)))]) (.seq (.reg [o 69 (.mov (.t 8)), o 70 (.mov (.t 11)), o 71 (.call 27 [(.t 69), (.t 70)]), o 11 (.mov (.t 71))]) (.seq (.seq (.reg [o 72 (.mov (.t 11)), o 73 (.bin .lss (.t 72) (.k (.int .i64 0)))]) (.cnd (.t 73) (.seq (.reg [o 4 (.mov (.k (.bool false)))]) .ret) .skip)) (.seq (.seq (.reg [o 74 (.mov (.t 11)), o 75 (.mov (.t 10)), o 76 (.bin .neq (.t 74) (.t 75))]) (.cnd (.t 76) (.seq (.reg [o 4 (.mov (.k (.bool false)))]) .ret) .skip)) (.seq (.reg [o 4 (.mov (.k (.bool true)))]) .ret))))))))))))))))))))))))))⟩
theorem ir_l_FnExactRowWhose : compFn Try.prog n_l_FnExactRowWhose = some F_l_FnExactRowWhose := by kernel_rfl
theorem law_RowWhose (σ : St) (cs0 : List GV) (x0 : State) (hR0 : eState.R σ x0 cs0) (hw0 : zState x0) (x1 : ByteArray) (hw1 : x1.size ≤ 9223372036854775807) : ∃ r τ, Ret Try.prog n_l_FnExactRowWhose [.agg cs0, .str x1] σ r τ ∧ r = .bool true := by
  have hR0 := brState hR0
  have hl0 := kState.len hR0
  have hw0 := zState_w hw0
  refine ret_law ir_l_FnExactRowWhose (Nat.le_of_ble_eq_true rfl) ?_
  have hB : σ <+: σ ++ [some (Blk.row 1 (cs0))] := pre1 _ _
  have hb0 : rdB (σ ++ [some (Blk.row 1 (cs0))]) (σ).length = some (cs0) := box_rd (List.prefix_refl _)
  have hs0 : (seg cs0 0 4).bind (mkv true) = some (.agg cs0) := seg_full hl0
  simp +contextual (maxSteps := 600000) (disch := omega) only [go_sem, Nat.reduceEqDiff, ↓reduceIte, Int.reduceEq, Int.reduceNeg, wrap_add, F_l_FnExactRowWhose, ld_ptr (rdB_pre (List.prefix_refl _) hb0), hs0, List.append_nil]
  refine ⟨fun _ => hB.length_le, fun hn => ?_⟩
  have hz1 := of_decide_eq_false hn
  try simp only [Int.not_lt] at hz1
  try simp +contextual (maxSteps := 600000) (disch := omega) only [go_sem, Nat.reduceEqDiff, ↓reduceIte, Int.reduceEq, Int.reduceNeg, wrap_add, List.append_nil, ite_self, ne_eq, not_true_eq_false, bne_self_eq_false, beq_self_eq_true, ld_ptr (rdB_pre (List.prefix_refl _) hb0), hs0]
  refine by_ret (l_szState_ret _ cs0 x0 (kState.pre hR0 (hB.trans (List.prefix_refl _))) (1048576) hw0 (by omega) (by omega)) ?_
  have ge0 := @lf_ge (1048576) (msState x0)
  have gm0 := @lf_le (1048576) (msState x0) (by omega)
  try simp +contextual (maxSteps := 600000) (disch := omega) only [go_sem, Nat.reduceEqDiff, ↓reduceIte, Int.reduceEq, Int.reduceNeg, wrap_add, List.append_nil, ite_self, ne_eq, not_true_eq_false, bne_self_eq_false, beq_self_eq_true, ld_ptr (rdB_pre (List.prefix_refl _) hb0), hs0]
  refine ⟨fun _ => hB.length_le, fun hn => ?_⟩
  have hn := of_decide_eq_false hn
  have hf0 := lf_some hn
  have hu0 : msState x0 ≤ 1048576 := by omega
  have hc0 := ctState_le x0
  try simp +contextual (maxSteps := 600000) (disch := omega) only [go_sem, Nat.reduceEqDiff, ↓reduceIte, Int.reduceEq, Int.reduceNeg, wrap_add, List.append_nil, ite_self, ne_eq, not_true_eq_false, bne_self_eq_false, beq_self_eq_true, ld_ptr (rdB_pre (List.prefix_refl _) hb0), hs0]
  have H := Hp.refl (σ ++ [some (Blk.row 1 (cs0))])
  try simp +contextual (maxSteps := 600000) (disch := omega) only [go_sem, Nat.reduceEqDiff, ↓reduceIte, Int.reduceEq, Int.reduceNeg, wrap_add, List.append_nil, ite_self, ne_eq, not_true_eq_false, bne_self_eq_false, beq_self_eq_true, ld_ptr (rdB_pre H.sub hb0), hs0]
  obtain ⟨_, τ1, R1, _, d1, rfl, K1⟩ := l_toState_ret _ cs0 x0 (kState.pre hR0 (hB.trans H.sub)) (by omega)
  refine by_hp R1 K1 ?_
  have H := H.add K1
  try simp only [List.cons_append, List.nil_append] at H
  have g1 := seg_full (kState.len (K1.rd 0 rfl))
  have g1 : (seg d1 0 4).bind (mkv true) = some (.agg d1) := g1
  have gl1 : d1.length = 4 := kState.len (K1.rd 0 rfl)
  try simp +contextual (maxSteps := 600000) (disch := omega) only [go_sem, Nat.reduceEqDiff, ↓reduceIte, Int.reduceEq, Int.reduceNeg, wrap_add, List.append_nil, ite_self, ne_eq, not_true_eq_false, bne_self_eq_false, beq_self_eq_true, ld_ptr (rdB_pre H.sub hb0), hs0, g1]
  obtain ⟨c2_0, τ2, R2, p2, q2_0⟩ := s_RowWhose_ret _ d1 x0 (H.rd 0 rfl) x1 (by omega) (by omega)
  refine by_new R2 p2 ?_
  have hpw := H.sub.trans p2
  have H := Hp.refl τ2
  have nt2_0 := RdN.notup q2_0
  try simp +contextual (maxSteps := 600000) (disch := omega) only [go_sem, Nat.reduceEqDiff, ↓reduceIte, Int.reduceEq, Int.reduceNeg, wrap_add, List.append_nil, ite_self, ne_eq, not_true_eq_false, bne_self_eq_false, beq_self_eq_true, ld_ptr (rdB_pre (hpw.trans H.sub) hb0), hs0, g1]
  obtain ⟨_, τ3, R3, _, d3, rfl, K3⟩ := l_toState_ret _ cs0 x0 (kState.pre hR0 (hB.trans (hpw.trans H.sub))) (by omega)
  refine by_hp R3 K3 ?_
  have H := H.add K3
  try simp only [List.cons_append, List.nil_append] at H
  have g3 := seg_full (kState.len (K3.rd 0 rfl))
  have g3 : (seg d3 0 4).bind (mkv true) = some (.agg d3) := g3
  have gl3 : d3.length = 4 := kState.len (K3.rd 0 rfl)
  try simp +contextual (maxSteps := 600000) (disch := omega) only [go_sem, Nat.reduceEqDiff, ↓reduceIte, Int.reduceEq, Int.reduceNeg, wrap_add, List.append_nil, ite_self, ne_eq, not_true_eq_false, bne_self_eq_false, beq_self_eq_true, ld_ptr (rdB_pre (hpw.trans H.sub) hb0), hs0, g1, g3]
  have H := H.new 1 d3
  try simp +contextual (maxSteps := 600000) (disch := omega) only [go_sem, Nat.reduceEqDiff, ↓reduceIte, Int.reduceEq, Int.reduceNeg, wrap_add, List.append_nil, ite_self, ne_eq, not_true_eq_false, bne_self_eq_false, beq_self_eq_true, ld_ptr (rdB_pre (hpw.trans H.sub) hb0), hs0, ld_ptr (H.pt 0 rfl), g1, g3, splice_full (cs := [GV.nilS, GV.nilS, GV.nilS, GV.nilS]) gl3 rfl, gl3]
  obtain ⟨c4_0, τ4, R4, K4⟩ := i_RowWhose_ret _ d3 x0 (H.rd 1 rfl) x1 (by omega) (by omega)
  refine by_hp R4 K4 ?_
  have H := H.add K4
  try simp only [List.cons_append, List.nil_append] at H
  have nt4_0 := RdN.notup (K4.sl 0 rfl)
  try simp +contextual (maxSteps := 600000) (disch := omega) only [go_sem, Nat.reduceEqDiff, ↓reduceIte, Int.reduceEq, Int.reduceNeg, wrap_add, List.append_nil, ite_self, ne_eq, not_true_eq_false, bne_self_eq_false, beq_self_eq_true, ld_ptr (rdB_pre (hpw.trans H.sub) hb0), hs0, ld_ptr (H.pt 1 rfl), g1, g3]
  try simp +contextual (maxSteps := 600000) (disch := omega) only [go_sem, Nat.reduceEqDiff, ↓reduceIte, Int.reduceEq, Int.reduceNeg, wrap_add, List.append_nil, ite_self, ne_eq, not_true_eq_false, bne_self_eq_false, beq_self_eq_true, ld_ptr (rdB_pre (hpw.trans H.sub) hb0), hs0, ld_ptr (H.pt 1 rfl), g1, g3]
  refine by_ret (l_eqIntS_ret _ _ _ _ _ (H.sl 0 rfl) (q2_0.pre H.sub) (by have := rowWhose_le x0 x1; omega)) ?_
  try simp +contextual (maxSteps := 600000) (disch := omega) only [go_sem, Nat.reduceEqDiff, ↓reduceIte, Int.reduceEq, Int.reduceNeg, wrap_add, List.append_nil, ite_self, ne_eq, not_true_eq_false, bne_self_eq_false, beq_self_eq_true, ld_ptr (rdB_pre (hpw.trans H.sub) hb0), hs0, ld_ptr (H.pt 1 rfl), g1, g3, decide_true, eq_self]
  try simp +contextual (maxSteps := 600000) (disch := omega) only [go_sem, Nat.reduceEqDiff, ↓reduceIte, Int.reduceEq, Int.reduceNeg, wrap_add, List.append_nil, ite_self, ne_eq, not_true_eq_false, bne_self_eq_false, beq_self_eq_true, ld_ptr (rdB_pre (hpw.trans H.sub) hb0), hs0, ld_ptr (H.pt 1 rfl), g1, g3]
  obtain ⟨_, τ5, R5, _, d5, rfl, K5⟩ := l_toState_ret _ cs0 x0 (kState.pre hR0 (hB.trans (hpw.trans H.sub))) (by omega)
  refine by_hp R5 K5 ?_
  have H := H.add K5
  try simp only [List.cons_append, List.nil_append] at H
  have g5 := seg_full (kState.len (K5.rd 0 rfl))
  have g5 : (seg d5 0 4).bind (mkv true) = some (.agg d5) := g5
  have gl5 : d5.length = 4 := kState.len (K5.rd 0 rfl)
  try simp +contextual (maxSteps := 600000) (disch := omega) only [go_sem, Nat.reduceEqDiff, ↓reduceIte, Int.reduceEq, Int.reduceNeg, wrap_add, List.append_nil, ite_self, ne_eq, not_true_eq_false, bne_self_eq_false, beq_self_eq_true, ld_ptr (rdB_pre (hpw.trans H.sub) hb0), hs0, ld_ptr (H.pt 2 rfl), g1, g3, g5]
  refine by_ret (l_eqState_ret _ _ _ _ _ (H.rd 3 rfl) (H.rd 0 rfl) (by omega)) ?_
  try simp +contextual (maxSteps := 600000) (disch := omega) only [go_sem, Nat.reduceEqDiff, ↓reduceIte, Int.reduceEq, Int.reduceNeg, wrap_add, List.append_nil, ite_self, ne_eq, not_true_eq_false, bne_self_eq_false, beq_self_eq_true, ld_ptr (rdB_pre (hpw.trans H.sub) hb0), hs0, ld_ptr (H.pt 2 rfl), g1, g3, g5, decide_true, eq_self]
  obtain ⟨τ6, R6, H⟩ := l_markState_ret 3 d3 x0 (1) H rfl (by omega) (by omega)
  refine by_mut R6 ?_
  try simp only [List.set_cons_succ, List.set_cons_zero] at H
  try simp +contextual (maxSteps := 600000) (disch := omega) only [go_sem, Nat.reduceEqDiff, ↓reduceIte, Int.reduceEq, Int.reduceNeg, wrap_add, List.append_nil, ite_self, ne_eq, not_true_eq_false, bne_self_eq_false, beq_self_eq_true, ld_ptr (rdB_pre (hpw.trans H.sub) hb0), hs0, ld_ptr (H.pt 2 rfl), g1, g3, g5]
  have hng : decide (((1 : Int)) + ((ctState x0 : Nat) : Int) < 0) = false := decide_eq_false (by omega)
  try simp +contextual (maxSteps := 600000) (disch := omega) only [go_sem, Nat.reduceEqDiff, ↓reduceIte, Int.reduceEq, Int.reduceNeg, wrap_add, List.append_nil, ite_self, ne_eq, not_true_eq_false, bne_self_eq_false, beq_self_eq_true, ld_ptr (rdB_pre (hpw.trans H.sub) hb0), hs0, ld_ptr (H.pt 2 rfl), g1, g3, g5, dneg1, dneg2, hng]
  refine by_ret (l_eqIntS_ret _ _ _ _ _ (H.sl 1 rfl) (q2_0.pre H.sub) (by have := rowWhose_le x0 x1; omega)) ?_
  try simp +contextual (maxSteps := 600000) (disch := omega) only [go_sem, Nat.reduceEqDiff, ↓reduceIte, Int.reduceEq, Int.reduceNeg, wrap_add, List.append_nil, ite_self, ne_eq, not_true_eq_false, bne_self_eq_false, beq_self_eq_true, ld_ptr (rdB_pre (hpw.trans H.sub) hb0), hs0, ld_ptr (H.pt 2 rfl), g1, g3, g5, decide_true, eq_self]
  obtain ⟨τ7, R7, H⟩ := l_markIntS_ret 1 c4_0 _ (1) H rfl (by omega) (by have := rowWhose_le x0 x1; omega)
  refine by_mut R7 ?_
  try simp only [List.set_cons_succ, List.set_cons_zero] at H
  try simp +contextual (maxSteps := 600000) (disch := omega) only [go_sem, Nat.reduceEqDiff, ↓reduceIte, Int.reduceEq, Int.reduceNeg, wrap_add, List.append_nil, ite_self, ne_eq, not_true_eq_false, bne_self_eq_false, beq_self_eq_true, ld_ptr (rdB_pre (hpw.trans H.sub) hb0), hs0, ld_ptr (H.pt 2 rfl), g1, g3, g5]
  refine by_ret (l_heldIntS_ret _ _ _ 1 (H.sl 1 rfl) (by omega) (by have := rowWhose_le x0 x1; omega)) ?_
  try simp +contextual (maxSteps := 600000) (disch := omega) only [go_sem, Nat.reduceEqDiff, ↓reduceIte, Int.reduceEq, Int.reduceNeg, wrap_add, List.append_nil, ite_self, ne_eq, not_true_eq_false, bne_self_eq_false, beq_self_eq_true, ld_ptr (rdB_pre (hpw.trans H.sub) hb0), hs0, ld_ptr (H.pt 2 rfl), g1, g3, g5, dneg1, dneg2]
  try simp +contextual (maxSteps := 600000) (disch := omega) only [go_sem, Nat.reduceEqDiff, ↓reduceIte, Int.reduceEq, Int.reduceNeg, wrap_add, List.append_nil, ite_self, ne_eq, not_true_eq_false, bne_self_eq_false, beq_self_eq_true, ld_ptr (rdB_pre (hpw.trans H.sub) hb0), hs0, ld_ptr (H.pt 2 rfl), g1, g3, g5, dneg1, dneg2]
  try simp +contextual (maxSteps := 600000) (disch := omega) only [go_sem, Nat.reduceEqDiff, ↓reduceIte, Int.reduceEq, Int.reduceNeg, wrap_add, List.append_nil, ite_self, ne_eq, not_true_eq_false, bne_self_eq_false, beq_self_eq_true, ld_ptr (rdB_pre (hpw.trans H.sub) hb0), hs0, ld_ptr (H.pt 2 rfl), g1, g3, g5, dneg1, dneg2]
  obtain ⟨_, τ8, R8, _, d8, rfl, K8⟩ := l_toState_ret _ cs0 x0 (kState.pre hR0 (hB.trans (hpw.trans H.sub))) (by omega)
  refine by_hp R8 K8 ?_
  have H := H.add K8
  try simp only [List.cons_append, List.nil_append] at H
  have g8 := seg_full (kState.len (K8.rd 0 rfl))
  have g8 : (seg d8 0 4).bind (mkv true) = some (.agg d8) := g8
  have gl8 : d8.length = 4 := kState.len (K8.rd 0 rfl)
  try simp +contextual (maxSteps := 600000) (disch := omega) only [go_sem, Nat.reduceEqDiff, ↓reduceIte, Int.reduceEq, Int.reduceNeg, wrap_add, List.append_nil, ite_self, ne_eq, not_true_eq_false, bne_self_eq_false, beq_self_eq_true, ld_ptr (rdB_pre (hpw.trans H.sub) hb0), hs0, ld_ptr (H.pt 3 rfl), g1, g3, g5, g8]
  obtain ⟨c9_0, τ9, R9, K9⟩ := i_RowWhose_ret _ d8 x0 (H.rd 0 rfl) x1 (by omega) (by omega)
  refine by_hp R9 K9 ?_
  have H := H.add K9
  try simp only [List.cons_append, List.nil_append] at H
  have nt9_0 := RdN.notup (K9.sl 0 rfl)
  try simp +contextual (maxSteps := 600000) (disch := omega) only [go_sem, Nat.reduceEqDiff, ↓reduceIte, Int.reduceEq, Int.reduceNeg, wrap_add, List.append_nil, ite_self, ne_eq, not_true_eq_false, bne_self_eq_false, beq_self_eq_true, ld_ptr (rdB_pre (hpw.trans H.sub) hb0), hs0, ld_ptr (H.pt 4 rfl), g1, g3, g5, g8]
  try simp +contextual (maxSteps := 600000) (disch := omega) only [go_sem, Nat.reduceEqDiff, ↓reduceIte, Int.reduceEq, Int.reduceNeg, wrap_add, List.append_nil, ite_self, ne_eq, not_true_eq_false, bne_self_eq_false, beq_self_eq_true, ld_ptr (rdB_pre (hpw.trans H.sub) hb0), hs0, ld_ptr (H.pt 4 rfl), g1, g3, g5, g8]
  refine by_ret (l_eqIntS_ret _ _ _ _ _ (H.sl 0 rfl) (q2_0.pre H.sub) (by have := rowWhose_le x0 x1; omega)) ?_
  try simp +contextual (maxSteps := 600000) (disch := omega) only [go_sem, Nat.reduceEqDiff, ↓reduceIte, Int.reduceEq, Int.reduceNeg, wrap_add, List.append_nil, ite_self, ne_eq, not_true_eq_false, bne_self_eq_false, beq_self_eq_true, ld_ptr (rdB_pre (hpw.trans H.sub) hb0), hs0, ld_ptr (H.pt 4 rfl), g1, g3, g5, g8, decide_true, eq_self]
  refine by_ret (l_heldIntS_ret _ _ _ 1 (H.sl 3 rfl) (by omega) (by have := rowWhose_le x0 x1; omega)) ?_
  try simp +contextual (maxSteps := 600000) (disch := omega) only [go_sem, Nat.reduceEqDiff, ↓reduceIte, Int.reduceEq, Int.reduceNeg, wrap_add, List.append_nil, ite_self, ne_eq, not_true_eq_false, bne_self_eq_false, beq_self_eq_true, ld_ptr (rdB_pre (hpw.trans H.sub) hb0), hs0, ld_ptr (H.pt 4 rfl), g1, g3, g5, g8, dneg1, dneg2]
  try simp +contextual (maxSteps := 600000) (disch := omega) only [go_sem, Nat.reduceEqDiff, ↓reduceIte, Int.reduceEq, Int.reduceNeg, wrap_add, List.append_nil, ite_self, ne_eq, not_true_eq_false, bne_self_eq_false, beq_self_eq_true, ld_ptr (rdB_pre (hpw.trans H.sub) hb0), hs0, ld_ptr (H.pt 4 rfl), g1, g3, g5, g8, dneg1, dneg2]
  try simp +contextual (maxSteps := 600000) (disch := omega) only [go_sem, Nat.reduceEqDiff, ↓reduceIte, Int.reduceEq, Int.reduceNeg, wrap_add, List.append_nil, ite_self, ne_eq, not_true_eq_false, bne_self_eq_false, beq_self_eq_true, ld_ptr (rdB_pre (hpw.trans H.sub) hb0), hs0, ld_ptr (H.pt 4 rfl), g1, g3, g5, g8, dneg1, dneg2]
  exact (hB.trans (hpw.trans H.sub)).length_le
end Go.Proofs.Ytffnefmklckngaa.Sy

