import Derived.Test.YtopannfdcikgiaaSy19
import Derived.Test.YtopannfdcikgiaaF1
namespace Go.Proofs.Ytopannfdcikgiaa.Sy
open Go Go.RowKit
theorem s_l01In_ret (σ : St) (n a b : Int) : Ret Try.prog n_s_l01In [gi n, gi a, gi b] σ (.bool (decide (a ≤ n) && decide (n ≤ b))) σ := by
  refine ret_eq ir_s_l01In (by show 3 ≤ 15; decide) trivial ?_
  simp +contextual only [F_s_l01In, go_sem, Nat.reduceEqDiff, ↓reduceIte]
def okK (l : List Int) : Bool := l.all (fun n => decide (0 ≤ n) && decide (n ≤ 1000)) && decide (l.length = 3)
theorem s_KnowOk_ret (σ : St) (v : GV) (l : List Int) (h : Rd σ v l) (hl : l.length ≤ 1099511627776) : Ret Try.prog n_s_KnowOk [v] σ (.bool (okK l)) σ := by
  refine ret_eq ir_s_KnowOk (by show 1 ≤ 19; decide) trivial ?_
  simp +contextual only [F_s_KnowOk, go_sem, Nat.reduceEqDiff, ↓reduceIte]
  refine vc_lop (fun k env τ => ∃ i : Nat, k = l.length - i ∧ i ≤ l.length ∧ env 0 = v ∧ env 3 = gi i ∧ σ <+: τ ∧ (l.take i).all (fun n => decide (0 ≤ n) && decide (n ≤ 1000)) = true) l.length ⟨0, rfl, Nat.zero_le _, rfl, rfl, List.prefix_refl _, rfl⟩ ?_
  rintro k env τ ⟨i, rfl, hi, h0, h3, hp, ha⟩
  simp +contextual only [go_sem, Nat.reduceEqDiff, ↓reduceIte, h0, h3, (h.pre hp).len]
  refine ⟨fun hlt => ?_, fun hge => ?_⟩
  · have hi' : i < l.length := by simpa using hlt
    simp only [go_sem, Nat.reduceEqDiff, ↓reduceIte, (h.pre hp).iad hi', (h.pre hp).ld hi', List.map_cons, List.map_nil]
    refine by_ret (s_l01In_ret τ _ _ _) ?_
    simp +contextual (disch := omega) only [go_sem, Nat.reduceEqDiff, ↓reduceIte, h0, h3, wrap_add]
    refine ⟨fun hb => ⟨?_, hp⟩, fun hb => ?_⟩
    · rw [show okK l = false by rw [okK, all_false_at hi' (by rw [Bool.not_eq_true'] at hb; exact hb)]; rfl]
    · exact ⟨l.length - (i + 1), by omega, i + 1, rfl, hi', rfl, hp, take_all_succ hi' ha (by rw [Bool.not_eq_false'] at hb; exact hb)⟩
  · have hi' : i = l.length := by have := of_decide_eq_false hge; omega
    subst hi'
    rw [List.take_length] at ha
    simp only [okK, ha, Bool.true_and]
    exact ⟨by rw [show ((l.length : Int) == 3) = decide (l.length = 3) from len_beq], hp⟩
theorem i_within_ret (σ : St) (n a b : Int) : Ret Try.prog n_i_within [gi n, gi a, gi b] σ (.bool (decide (a ≤ n) && decide (n ≤ b))) σ := by
  refine ret_eq ir_i_within (by show 3 ≤ F_i_within.n; decide) trivial ?_
  simp +contextual only [F_i_within, go_sem, Nat.reduceEqDiff, ↓reduceIte]
theorem i_KnowOk_ret (σ : St) (v : GV) (l : List Int) (h : Rd σ v l) (hl : l.length ≤ 1099511627776) : Ret Try.prog n_i_KnowOk [v] σ (.bool (okK l)) σ := by
  refine ret_eq ir_i_KnowOk (by show 1 ≤ F_i_KnowOk.n; decide) trivial ?_
  simp +contextual only [F_i_KnowOk, go_sem, Nat.reduceEqDiff, ↓reduceIte, h.len]
  refine vc_lop (fun k env τ => ∃ i : Nat, k = l.length - i ∧ i ≤ l.length ∧ env 0 = v ∧ env 5 = v ∧ env 6 = gi l.length ∧ env 7 = gi i ∧ σ <+: τ ∧ (l.take i).all (fun n => decide (0 ≤ n) && decide (n ≤ 1000)) = true) l.length ⟨0, rfl, Nat.zero_le _, rfl, rfl, rfl, rfl, List.prefix_refl _, rfl⟩ ?_
  rintro k env τ ⟨i, rfl, hi, h0, h5, h6, h7, hp, ha⟩
  simp +contextual only [go_sem, Nat.reduceEqDiff, ↓reduceIte, h0, h5, h6, h7, (h.pre hp).len]
  refine ⟨fun hlt => ?_, fun hge => ?_⟩
  · have hi' : i < l.length := by simpa using hlt
    simp only [go_sem, Nat.reduceEqDiff, ↓reduceIte, (h.pre hp).iad hi', (h.pre hp).ld hi', List.map_cons, List.map_nil]
    refine by_ret (i_within_ret τ _ _ _) ?_
    simp +contextual (disch := omega) only [go_sem, Nat.reduceEqDiff, ↓reduceIte, h0, h5, h6, h7, wrap_add]
    refine ⟨fun hb => ⟨?_, hp⟩, fun hb => ?_⟩
    · rw [show okK l = false by rw [okK, all_false_at hi' (by rw [Bool.not_eq_true'] at hb; exact hb)]; rfl]
    · exact ⟨l.length - (i + 1), by omega, i + 1, rfl, hi', rfl, hp, take_all_succ hi' ha (by rw [Bool.not_eq_false'] at hb; exact hb)⟩
  · have hi' : i = l.length := by have := of_decide_eq_false hge; omega
    subst hi'
    rw [List.take_length] at ha
    simp only [okK, ha, Bool.true_and]
    exact ⟨by rw [show ((l.length : Int) == 3) = decide (l.length = 3) from len_beq], hp⟩
theorem s_KnowNew_ret (σ : St) : ∃ r τ, Ret Try.prog n_s_KnowNew [] σ r τ ∧ σ <+: τ ∧ OwnI σ.length τ r [0, 0, 0] := by
  refine ret_new ir_s_KnowNew (Nat.zero_le _) ?_
  simp only [F_s_KnowNew, go_sem, Nat.reduceEqDiff, ↓reduceIte]
  rw [show mksG 1 8 [GV.int .i64 0] σ (natOf (some (.int .i64 3))) (natOf (some (.int .i64 3))) = some (.sl σ.length 0 3, σ ++ [some (.row 1 [gi 0, gi 0, gi 0])]) from rfl]
  simp only [go_sem, Nat.reduceEqDiff, ↓reduceIte]
  exact ⟨_, rfl, pre_app (List.prefix_refl _) _, .inr ⟨_, Nat.le_refl _, rfl, bk_app_at⟩⟩
theorem i_KnowNew_ret (σ : St) : ∃ r τ, Ret Try.prog n_i_KnowNew [] σ r τ ∧ σ <+: τ ∧ OwnI σ.length τ r [0, 0, 0] := by
  refine ret_new ir_i_KnowNew (Nat.zero_le _) ?_
  simp only [F_i_KnowNew, go_sem, Nat.reduceEqDiff, ↓reduceIte]
  rw [show mksG 1 8 [GV.int .i64 0] σ (natOf (some (.int .i64 3))) (natOf (some (.int .i64 3))) = some (.sl σ.length 0 3, σ ++ [some (.row 1 [gi 0, gi 0, gi 0])]) from rfl]
  simp only [go_sem, Nat.reduceEqDiff, ↓reduceIte]
  exact ⟨_, rfl, pre_app (List.prefix_refl _) _, .inr ⟨_, Nat.le_refl _, rfl, bk_app_at⟩⟩
theorem i_copyInts_ret (σ : St) (v : GV) (l : List Int) (h : Rd σ v l) (hl : l.length ≤ 1099511627776) : ∃ r τ, Ret Try.prog n_i_copyInts [v] σ r τ ∧ σ <+: τ ∧ OwnI σ.length τ r l := by
  refine ret_new ir_i_copyInts (by show 1 ≤ F_i_copyInts.n; decide) ?_
  simp only [F_i_copyInts, go_sem, Nat.reduceEqDiff, ↓reduceIte]
  have hp : σ <+: σ ++ [some (Blk.row 1 [])] := List.prefix_append _ _
  obtain ⟨v', τ', e, ho, hp'⟩ := OwnI.app (σ := σ) (τ := σ ++ [some (.row 1 [])]) (v := .sl σ.length 0 0) (l := []) (m := l) (.inr ⟨_, Nat.le_refl _, rfl, bk_app_at⟩) hp (h.pre hp) (by simp; omega)
  simp only [e, go_sem, Nat.reduceEqDiff, ↓reduceIte]
  exact ⟨_, rfl, hp', ho⟩
def kMax (a b : List Int) : List Int := if okK a && okK b then List.zipWith (fun x y => if y > x then y else x) a b else []
theorem okK_len {l : List Int} (h : okK l = true) : l.length = 3 := by
  simp only [okK, Bool.and_eq_true, decide_eq_true_eq] at h
  exact h.2
theorem s_KnowMax_ret (σ : St) (v u : GV) (a b : List Int) (ha : Rd σ v a) (hb : Rd σ u b) (hla : a.length ≤ 1099511627776) (hlb : b.length ≤ 1099511627776) : ∃ r τ, Ret Try.prog n_s_KnowMax [v, u] σ r τ ∧ σ <+: τ ∧ OwnI σ.length τ r (kMax a b) := by
  refine ret_new ir_s_KnowMax (by show 2 ≤ F_s_KnowMax.n; decide) ?_
  simp only [F_s_KnowMax, go_sem, Nat.reduceEqDiff, ↓reduceIte]
  have hp0 : σ <+: σ ++ [some (Blk.row 1 [])] := List.prefix_append _ _
  have ho0 : OwnI σ.length (σ ++ [some (.row 1 [])]) (.sl σ.length 0 0) [] := .inr ⟨_, Nat.le_refl _, rfl, bk_app_at⟩
  generalize hτ0 : σ ++ [some (Blk.row 1 [])] = τ0 at hp0 ho0 ⊢
  have k1 := s_KnowOk_ret τ0 v a (ha.pre hp0) hla
  have k2 := s_KnowOk_ret τ0 u b (hb.pre hp0) hlb
  cases hka : okK a with
  | false =>
    rw [hka] at k1
    refine by_ret k1 ?_
    simp only [go_sem, Nat.reduceEqDiff, ↓reduceIte]
    exact ⟨_, rfl, hp0, by simpa [kMax, hka] using ho0⟩
  | true =>
    rw [hka] at k1
    refine by_ret k1 ?_
    simp only [go_sem, Nat.reduceEqDiff, ↓reduceIte]
    cases hkb : okK b with
    | false =>
      rw [hkb] at k2
      refine by_ret k2 ?_
      simp only [go_sem, Nat.reduceEqDiff, ↓reduceIte]
      exact ⟨_, rfl, hp0, by simpa [kMax, hka, hkb] using ho0⟩
    | true =>
      rw [hkb] at k2
      refine by_ret k2 ?_
      simp only [go_sem, Nat.reduceEqDiff, ↓reduceIte]
      have l1 := okK_len hka
      have l2 := okK_len hkb
      have hk : kMax a b = List.zipWith (fun x y => if y > x then y else x) a b := by simp [kMax, hka, hkb]
      refine vc_lop (fun k env τ => ∃ i : Nat, k = a.length - i ∧ i ≤ a.length ∧ env 0 = v ∧ env 1 = u ∧ env 6 = gi i ∧ σ <+: τ ∧ OwnI σ.length τ (env 5) ((kMax a b).take i)) a.length ⟨0, rfl, Nat.zero_le _, rfl, rfl, rfl, hp0, ho0⟩ ?_
      rintro k env τ ⟨i, rfl, hi, h0, h1, h6, hp, ho⟩
      simp +contextual only [go_sem, Nat.reduceEqDiff, ↓reduceIte, h0, h1, h6, (ha.pre hp).len]
      refine ⟨fun hlt => ?_, fun hge => ?_⟩
      · have hi' : i < a.length := by simpa using hlt
        have hj' : i < b.length := by omega
        simp only [go_sem, Nat.reduceEqDiff, ↓reduceIte, h0, h1, h6, (ha.pre hp).iad hi', (ha.pre hp).ld hi', (hb.pre hp).iad hj', (hb.pre hp).ld hj']
        have hki : i < (kMax a b).length := by rw [hk]; simp; omega
        have hke : (kMax a b)[i] = if b[i] > a[i] then b[i] else a[i] := by simp only [hk, List.getElem_zipWith]
        have fin : ∀ n : Int, n = (kMax a b)[i] → ∃ v' τ', appV 1 8 (τ ++ [some (.row 1 [.int .i64 n])]) (env 5) (.sl τ.length 0 1) = some (v', τ') ∧ OwnI σ.length τ' v' ((kMax a b).take (i + 1)) ∧ σ <+: τ' := fun n hn => by
          rw [take_snoc hki, ← hn]
          exact ho.app1 hp n (by simp; omega)
        refine ⟨fun hc => ?_, fun hc => ?_⟩
        · obtain ⟨v', τ', e, ho', hp'⟩ := fin b[i] (by rw [hke, if_pos (of_decide_eq_true hc)])
          simp (disch := omega) only [e, go_sem, Nat.reduceEqDiff, ↓reduceIte, h0, h1, h6, wrap_add]
          exact ⟨a.length - (i + 1), by omega, i + 1, rfl, hi', rfl, hp', ho'⟩
        · obtain ⟨v', τ', e, ho', hp'⟩ := fin a[i] (by rw [hke, if_neg (of_decide_eq_false hc)])
          simp (disch := omega) only [e, go_sem, Nat.reduceEqDiff, ↓reduceIte, h0, h1, h6, wrap_add]
          exact ⟨a.length - (i + 1), by omega, i + 1, rfl, hi', rfl, hp', ho'⟩
      · have hi' : i = a.length := by have := of_decide_eq_false hge; omega
        subst hi'
        rw [List.take_of_length_le (by rw [hk]; simp; omega)] at ho
        exact ⟨_, rfl, hp, ho⟩
theorem i_KnowMax_ret (σ : St) (v u : GV) (a b : List Int) (ha : Rd σ v a) (hb : Rd σ u b) (hla : a.length ≤ 1099511627776) (hlb : b.length ≤ 1099511627776) : ∃ r τ, Ret Try.prog n_i_KnowMax [v, u] σ r τ ∧ σ <+: τ ∧ OwnI σ.length τ r (kMax a b) := by
  refine ret_new ir_i_KnowMax (by show 2 ≤ F_i_KnowMax.n; decide) ?_
  simp only [F_i_KnowMax, go_sem, Nat.reduceEqDiff, ↓reduceIte]
  have k1 := i_KnowOk_ret σ v a ha hla
  have k2 := i_KnowOk_ret σ u b hb hlb
  cases hka : okK a with
  | false =>
    rw [hka] at k1
    refine by_ret k1 ?_
    simp only [go_sem, Nat.reduceEqDiff, ↓reduceIte]
    exact ⟨_, rfl, .inl ⟨by simp [kMax, hka], rfl⟩⟩
  | true =>
    rw [hka] at k1
    refine by_ret k1 ?_
    simp only [go_sem, Nat.reduceEqDiff, ↓reduceIte]
    cases hkb : okK b with
    | false =>
      rw [hkb] at k2
      refine by_ret k2 ?_
      simp only [go_sem, Nat.reduceEqDiff, ↓reduceIte]
      exact ⟨_, rfl, .inl ⟨by simp [kMax, hka, hkb], rfl⟩⟩
    | true =>
      rw [hkb] at k2
      refine by_ret k2 ?_
      simp only [go_sem, Nat.reduceEqDiff, ↓reduceIte]
      obtain ⟨w0, τ0, hR, hp0, ho0⟩ := i_copyInts_ret σ v a ha hla
      refine by_new hR hp0 ?_
      simp only [go_sem, Nat.reduceEqDiff, ↓reduceIte, (hb.pre hp0).len]
      have l1 := okK_len hka
      have l2 := okK_len hkb
      have hk : kMax a b = List.zipWith (fun x y => if y > x then y else x) a b := by simp [kMax, hka, hkb]
      have hkl : (kMax a b).length = a.length := by rw [hk]; simp; omega
      refine vc_lop (fun k env τ => ∃ i : Nat, k = b.length - i ∧ i ≤ b.length ∧ env 18 = u ∧ env 19 = gi b.length ∧ env 20 = gi i ∧ env 5 = w0 ∧ σ <+: τ ∧ OwnI σ.length τ w0 ((kMax a b).take i ++ a.drop i)) b.length ⟨0, rfl, Nat.zero_le _, rfl, rfl, rfl, rfl, hp0, ho0⟩ ?_
      rintro k env τ ⟨i, rfl, hi, h18, h19, h20, h5, hp, ho⟩
      simp +contextual only [go_sem, Nat.reduceEqDiff, ↓reduceIte, h5, h18, h19, h20]
      refine ⟨fun hlt => ?_, fun hge => ?_⟩
      · have hi' : i < b.length := by simpa using hlt
        have hj' : i < ((kMax a b).take i ++ a.drop i).length := by simp; omega
        have hki : i < (kMax a b).length := by omega
        have hcur : ((kMax a b).take i ++ a.drop i)[i] = a[i] := by
          rw [List.getElem_append_right (by simp; omega)]
          simp only [List.length_take, List.getElem_drop]
          congr 1; omega
        simp only [go_sem, Nat.reduceEqDiff, ↓reduceIte, h5, h18, h19, h20, (hb.pre hp).iad hi', (hb.pre hp).ld hi', ho.rd.iad hj', ho.rd.ld hj', hcur]
        obtain ⟨τ', e, ho', hp'⟩ := ho.st hp hj' (if b[i] > a[i] then b[i] else a[i])
        have hset : ((kMax a b).take i ++ a.drop i).set i (if b[i] > a[i] then b[i] else a[i]) = (kMax a b).take (i + 1) ++ a.drop (i + 1) := by
          rw [take_snoc hki, List.set_append_right _ _ (by simp; omega)]
          have e1 : i - ((kMax a b).take i).length = 0 := by simp; omega
          rw [e1, List.drop_eq_getElem_cons (by omega), List.set_cons_zero, List.append_assoc]
          congr 1
          simp only [hk, List.getElem_zipWith, List.cons_append, List.nil_append]
        rw [hset] at ho'
        simp (disch := omega) only [e, go_sem, Nat.reduceEqDiff, ↓reduceIte, h5, h18, h19, h20, wrap_add]
        exact ⟨b.length - (i + 1), by omega, i + 1, rfl, hi', rfl, hp', ho'⟩
      · have hi' : i = b.length := by have := of_decide_eq_false hge; omega
        subst hi'
        rw [List.take_of_length_le (by omega), List.drop_eq_nil_of_le (by omega), List.append_nil] at ho
        exact ⟨_, rfl, hp, ho⟩
def joinAll (ll : List (List Int)) : List Int := if ll.all okK then ll.foldl kMax [0, 0, 0] else []
theorem kMax_len (a b : List Int) : (kMax a b).length ≤ 3 := by
  unfold kMax
  split
  · rename_i h
    simp only [Bool.and_eq_true] at h
    have := okK_len h.1
    simp; omega
  · simp
theorem fold_len (ll : List (List Int)) : ∀ s : List Int, s.length ≤ 3 → (ll.foldl kMax s).length ≤ 3 := by
  induction ll with
  | nil => intro s h; exact h
  | cons k ll ih => intro s _; exact ih _ (kMax_len s k)
theorem s_JoinAll_ret (σ : St) (v : GV) (ll : List (List Int)) (h : Rd2 σ v ll) (hl : ll.length ≤ 1099511627776) (hll : ∀ l ∈ ll, l.length ≤ 1099511627776) : ∃ r τ, Ret Try.prog n_s_JoinAll [v] σ r τ ∧ σ <+: τ ∧ OwnI σ.length τ r (joinAll ll) := by
  refine ret_new ir_s_JoinAll (by show 1 ≤ F_s_JoinAll.n; decide) ?_
  simp only [F_s_JoinAll, go_sem, Nat.reduceEqDiff, ↓reduceIte]
  obtain ⟨r0, τ0, hR, hp0, ho0⟩ := s_KnowNew_ret σ
  refine by_new hR hp0 ?_
  simp only [go_sem, Nat.reduceEqDiff, ↓reduceIte]
  refine vc_lop (fun k env τ => ∃ i : Nat, k = ll.length - i ∧ i ≤ ll.length ∧ env 0 = v ∧ env 4 = gi i ∧ σ <+: τ ∧ OwnI σ.length τ (env 3) ((ll.take i).foldl kMax [0, 0, 0]) ∧ (ll.take i).all okK = true) ll.length ⟨0, rfl, Nat.zero_le _, rfl, rfl, hp0, ho0, rfl⟩ ?_
  rintro k env τ ⟨i, rfl, hi, h0, h4, hp, ho, ha⟩
  simp +contextual only [go_sem, Nat.reduceEqDiff, ↓reduceIte, h0, h4, (Rd2.pre h hp).len]
  refine ⟨fun hlt => ?_, fun hge => ?_⟩
  · have hi' : i < ll.length := by simpa using hlt
    obtain ⟨c, hc, hcr⟩ := (Rd2.pre h hp).ld hi'
    have hcl := hll ll[i] (List.getElem_mem hi')
    simp only [go_sem, Nat.reduceEqDiff, ↓reduceIte, (Rd2.pre h hp).iad hi', hc]
    have k1 := s_KnowOk_ret τ c ll[i] hcr hcl
    cases hk : okK ll[i] with
    | false =>
      rw [hk] at k1
      refine by_ret k1 ?_
      simp only [go_sem, Nat.reduceEqDiff, ↓reduceIte]
      exact ⟨_, rfl, pre_app hp _, by rw [show joinAll ll = [] by rw [joinAll, all_false_at hi' hk]; rfl]; exact .inr ⟨_, hp.length_le, rfl, bk_app_at⟩⟩
    | true =>
      rw [hk] at k1
      refine by_ret k1 ?_
      simp only [go_sem, Nat.reduceEqDiff, ↓reduceIte, h0, h4, (Rd2.pre h hp).iad hi', hc]
      obtain ⟨r1, τ1, hR1, hp1, ho1⟩ := s_KnowMax_ret τ (env 3) c _ ll[i] ho.rd hcr (by have := fold_len (ll.take i) [0, 0, 0] (by simp); omega) hcl
      refine by_new hR1 hp1 ?_
      simp (disch := omega) only [go_sem, Nat.reduceEqDiff, ↓reduceIte, h0, h4, wrap_add]
      exact ⟨ll.length - (i + 1), by omega, i + 1, rfl, hi', rfl, hp.trans hp1, by rw [take_snoc hi', List.foldl_append]; exact ho1.le hp.length_le, take_all_succ hi' ha hk⟩
  · have hi' : i = ll.length := by have := of_decide_eq_false hge; omega
    subst hi'
    rw [List.take_length] at ho ha
    exact ⟨_, rfl, hp, by rw [joinAll, ha]; exact ho⟩
theorem i_JoinAll_ret (σ : St) (v : GV) (ll : List (List Int)) (h : Rd2 σ v ll) (hl : ll.length ≤ 1099511627776) (hll : ∀ l ∈ ll, l.length ≤ 1099511627776) : ∃ r τ, Ret Try.prog n_i_JoinAll [v] σ r τ ∧ σ <+: τ ∧ OwnI σ.length τ r (joinAll ll) := by
  refine ret_new ir_i_JoinAll (by show 1 ≤ F_i_JoinAll.n; decide) ?_
  simp only [F_i_JoinAll, go_sem, Nat.reduceEqDiff, ↓reduceIte]
  obtain ⟨r0, τ0, hR, hp0, ho0⟩ := i_KnowNew_ret σ
  refine by_new hR hp0 ?_
  simp only [go_sem, Nat.reduceEqDiff, ↓reduceIte, (Rd2.pre h hp0).len]
  refine vc_lop (fun k env τ => ∃ i : Nat, k = ll.length - i ∧ i ≤ ll.length ∧ env 7 = v ∧ env 8 = gi ll.length ∧ env 9 = gi i ∧ σ <+: τ ∧ OwnI σ.length τ (env 3) ((ll.take i).foldl kMax [0, 0, 0]) ∧ (ll.take i).all okK = true) ll.length ⟨0, rfl, Nat.zero_le _, rfl, rfl, rfl, hp0, ho0, rfl⟩ ?_
  rintro k env τ ⟨i, rfl, hi, h7, h8, h9, hp, ho, ha⟩
  simp +contextual only [go_sem, Nat.reduceEqDiff, ↓reduceIte, h7, h8, h9]
  refine ⟨fun hlt => ?_, fun hge => ?_⟩
  · have hi' : i < ll.length := by simpa using hlt
    obtain ⟨c, hc, hcr⟩ := (Rd2.pre h hp).ld hi'
    have hcl := hll ll[i] (List.getElem_mem hi')
    simp only [go_sem, Nat.reduceEqDiff, ↓reduceIte, h7, h8, h9, (Rd2.pre h hp).iad hi', hc]
    have k1 := i_KnowOk_ret τ c ll[i] hcr hcl
    cases hk : okK ll[i] with
    | false =>
      rw [hk] at k1
      refine by_ret k1 ?_
      simp only [go_sem, Nat.reduceEqDiff, ↓reduceIte]
      exact ⟨_, rfl, hp, .inl ⟨by rw [joinAll, all_false_at hi' hk]; rfl, rfl⟩⟩
    | true =>
      rw [hk] at k1
      refine by_ret k1 ?_
      simp only [go_sem, Nat.reduceEqDiff, ↓reduceIte]
      obtain ⟨r1, τ1, hR1, hp1, ho1⟩ := i_KnowMax_ret τ (env 3) c _ ll[i] ho.rd hcr (by have := fold_len (ll.take i) [0, 0, 0] (by simp); omega) hcl
      refine by_new hR1 hp1 ?_
      simp (disch := omega) only [go_sem, Nat.reduceEqDiff, ↓reduceIte, h7, h8, h9, wrap_add]
      exact ⟨ll.length - (i + 1), by omega, i + 1, rfl, hi', rfl, hp.trans hp1, by rw [take_snoc hi', List.foldl_append]; exact ho1.le hp.length_le, take_all_succ hi' ha hk⟩
  · have hi' : i = ll.length := by have := of_decide_eq_false hge; omega
    subst hi'
    rw [List.take_length] at ho ha
    exact ⟨_, rfl, hp, by rw [joinAll, ha]; exact ho⟩
end Go.Proofs.Ytopannfdcikgiaa.Sy
