import Derived.Test.YtopannfdcikgiaaK4
import Derived.Test.YtopannfdcikgiaaF2
namespace Go.Proofs.Ytopannfdcikgiaa.Sy
open Go Go.RowKit
set_option linter.unusedSimpArgs false
def kMin (a b : List Int) : List Int := if okK a && okK b then List.zipWith (fun x y => if y < x then y else x) a b else []
theorem s_KnowMin_ret (σ : St) (v u : GV) (a b : List Int) (ha : Rd σ v a) (hb : Rd σ u b) (hla : a.length ≤ 1099511627776) (hlb : b.length ≤ 1099511627776) : ∃ r τ, Ret Try.prog n_s_KnowMin [v, u] σ r τ ∧ σ <+: τ ∧ OwnI σ.length τ r (kMin a b) := by
  refine ret_new ir_s_KnowMin (by show 2 ≤ F_s_KnowMin.n; decide) ?_
  simp only [F_s_KnowMin, go_sem, Nat.reduceEqDiff, ↓reduceIte]
  have hp0 : σ <+: σ ++ [some (Blk.row 1 [])] := List.prefix_append _ _
  have ho0 : OwnI σ.length (σ ++ [some (.row 1 [])]) (.sl σ.length 0 0) [] := .inr ⟨_, Nat.le_refl _, rfl, bk_app_at⟩
  generalize hτ0 : σ ++ [some (Blk.row 1 [])] = τ0 at hp0 ho0 ⊢
  have k1 := s_KnowOk_ret τ0 v a (ha.pre hp0) hla
  have k2 := s_KnowOk_ret τ0 u b (hb.pre hp0) hlb
  cases hka : okK a with
  | false =>
    rw [hka] at k1
    refine by_ret k1 ?_
    simp only [go_sem, Nat.reduceEqDiff, ↓reduceIte]
    exact ⟨_, rfl, hp0, by simpa [kMin, hka] using ho0⟩
  | true =>
    rw [hka] at k1
    refine by_ret k1 ?_
    simp only [go_sem, Nat.reduceEqDiff, ↓reduceIte]
    cases hkb : okK b with
    | false =>
      rw [hkb] at k2
      refine by_ret k2 ?_
      simp only [go_sem, Nat.reduceEqDiff, ↓reduceIte]
      exact ⟨_, rfl, hp0, by simpa [kMin, hka, hkb] using ho0⟩
    | true =>
      rw [hkb] at k2
      refine by_ret k2 ?_
      simp only [go_sem, Nat.reduceEqDiff, ↓reduceIte]
      have l1 := okK_len hka
      have l2 := okK_len hkb
      have hk : kMin a b = List.zipWith (fun x y => if y < x then y else x) a b := by simp [kMin, hka, hkb]
      refine vc_lop (fun k env τ => ∃ i : Nat, k = a.length - i ∧ i ≤ a.length ∧ env 0 = v ∧ env 1 = u ∧ env 6 = gi i ∧ σ <+: τ ∧ OwnI σ.length τ (env 5) ((kMin a b).take i)) a.length ⟨0, rfl, Nat.zero_le _, rfl, rfl, rfl, hp0, ho0⟩ ?_
      rintro k env τ ⟨i, rfl, hi, h0, h1, h6, hp, ho⟩
      simp +contextual only [go_sem, Nat.reduceEqDiff, ↓reduceIte, h0, h1, h6, (ha.pre hp).len]
      refine ⟨fun hlt => ?_, fun hge => ?_⟩
      · have hi' : i < a.length := by simpa using hlt
        have hj' : i < b.length := by omega
        simp only [go_sem, Nat.reduceEqDiff, ↓reduceIte, h0, h1, h6, (ha.pre hp).iad hi', (ha.pre hp).ld hi', (hb.pre hp).iad hj', (hb.pre hp).ld hj']
        have hki : i < (kMin a b).length := by rw [hk]; simp; omega
        have hke : (kMin a b)[i] = if b[i] < a[i] then b[i] else a[i] := by simp only [hk, List.getElem_zipWith]
        have fin : ∀ n : Int, n = (kMin a b)[i] → ∃ v' τ', appV 1 8 (τ ++ [some (.row 1 [.int .i64 n])]) (env 5) (.sl τ.length 0 1) = some (v', τ') ∧ OwnI σ.length τ' v' ((kMin a b).take (i + 1)) ∧ σ <+: τ' := fun n hn => by
          rw [take_snoc hki, ← hn]
          exact ho.app1 hp n (by simp; omega)
        refine ⟨fun hc => ?_, fun hc => ?_⟩
        · obtain ⟨v', τ', e, ho', hp'⟩ := fin b[i] (by rw [hke, if_pos (of_decide_eq_true hc)])
          simp (disch := omega) only [e, go_sem, Nat.reduceEqDiff, ↓reduceIte, h0, h1, h6, wrap_add]
          exact ⟨a.length - (i + 1), by omega, i + 1, rfl, hi', rfl, hp', ho'⟩
        · obtain ⟨v', τ', e, ho', hp'⟩ := fin a[i] (by rw [hke, if_neg (of_decide_eq_false hc)])
          simp (disch := omega) only [e, go_sem, Nat.reduceEqDiff, ↓reduceIte, h0, h1, h6, wrap_add]
          exact ⟨a.length - (i + 1), by omega, i + 1, rfl, hi', rfl, hp', ho'⟩
      · have hi' : i = a.length := by have := of_decide_eq_false hge; omega
        subst hi'
        rw [List.take_of_length_le (by rw [hk]; simp; omega)] at ho
        exact ⟨_, rfl, hp, ho⟩
theorem i_KnowMin_ret (σ : St) (v u : GV) (a b : List Int) (ha : Rd σ v a) (hb : Rd σ u b) (hla : a.length ≤ 1099511627776) (hlb : b.length ≤ 1099511627776) : ∃ r τ, Ret Try.prog n_i_KnowMin [v, u] σ r τ ∧ σ <+: τ ∧ OwnI σ.length τ r (kMin a b) := by
  refine ret_new ir_i_KnowMin (by show 2 ≤ F_i_KnowMin.n; decide) ?_
  simp only [F_i_KnowMin, go_sem, Nat.reduceEqDiff, ↓reduceIte]
  have k1 := i_KnowOk_ret σ v a ha hla
  have k2 := i_KnowOk_ret σ u b hb hlb
  cases hka : okK a with
  | false =>
    rw [hka] at k1
    refine by_ret k1 ?_
    simp only [go_sem, Nat.reduceEqDiff, ↓reduceIte]
    exact ⟨_, rfl, .inl ⟨by simp [kMin, hka], rfl⟩⟩
  | true =>
    rw [hka] at k1
    refine by_ret k1 ?_
    simp only [go_sem, Nat.reduceEqDiff, ↓reduceIte]
    cases hkb : okK b with
    | false =>
      rw [hkb] at k2
      refine by_ret k2 ?_
      simp only [go_sem, Nat.reduceEqDiff, ↓reduceIte]
      exact ⟨_, rfl, .inl ⟨by simp [kMin, hka, hkb], rfl⟩⟩
    | true =>
      rw [hkb] at k2
      refine by_ret k2 ?_
      simp only [go_sem, Nat.reduceEqDiff, ↓reduceIte]
      obtain ⟨w0, τ0, hR, hp0, ho0⟩ := i_copyInts_ret σ v a ha hla
      refine by_new hR hp0 ?_
      simp only [go_sem, Nat.reduceEqDiff, ↓reduceIte, (hb.pre hp0).len]
      have l1 := okK_len hka
      have l2 := okK_len hkb
      have hk : kMin a b = List.zipWith (fun x y => if y < x then y else x) a b := by simp [kMin, hka, hkb]
      have hkl : (kMin a b).length = a.length := by rw [hk]; simp; omega
      refine vc_lop (fun k env τ => ∃ i : Nat, k = b.length - i ∧ i ≤ b.length ∧ env 18 = u ∧ env 19 = gi b.length ∧ env 20 = gi i ∧ env 5 = w0 ∧ σ <+: τ ∧ OwnI σ.length τ w0 ((kMin a b).take i ++ a.drop i)) b.length ⟨0, rfl, Nat.zero_le _, rfl, rfl, rfl, rfl, hp0, ho0⟩ ?_
      rintro k env τ ⟨i, rfl, hi, h18, h19, h20, h5, hp, ho⟩
      simp +contextual only [go_sem, Nat.reduceEqDiff, ↓reduceIte, h5, h18, h19, h20]
      refine ⟨fun hlt => ?_, fun hge => ?_⟩
      · have hi' : i < b.length := by simpa using hlt
        have hj' : i < ((kMin a b).take i ++ a.drop i).length := by simp; omega
        have hki : i < (kMin a b).length := by omega
        have hcur : ((kMin a b).take i ++ a.drop i)[i] = a[i] := by
          rw [List.getElem_append_right (by simp; omega)]
          simp only [List.length_take, List.getElem_drop]
          congr 1; omega
        simp only [go_sem, Nat.reduceEqDiff, ↓reduceIte, h5, h18, h19, h20, (hb.pre hp).iad hi', (hb.pre hp).ld hi', ho.rd.iad hj', ho.rd.ld hj', hcur]
        obtain ⟨τ', e, ho', hp'⟩ := ho.st hp hj' (if b[i] < a[i] then b[i] else a[i])
        have hset : ((kMin a b).take i ++ a.drop i).set i (if b[i] < a[i] then b[i] else a[i]) = (kMin a b).take (i + 1) ++ a.drop (i + 1) := by
          rw [take_snoc hki, List.set_append_right _ _ (by simp; omega)]
          have e1 : i - ((kMin a b).take i).length = 0 := by simp; omega
          rw [e1, List.drop_eq_getElem_cons (by omega), List.set_cons_zero, List.append_assoc]
          congr 1
          simp only [hk, List.getElem_zipWith, List.cons_append, List.nil_append]
        rw [hset] at ho'
        simp (disch := omega) only [e, go_sem, Nat.reduceEqDiff, ↓reduceIte, h5, h18, h19, h20, wrap_add]
        exact ⟨b.length - (i + 1), by omega, i + 1, rfl, hi', rfl, hp', ho'⟩
      · have hi' : i = b.length := by have := of_decide_eq_false hge; omega
        subst hi'
        rw [List.take_of_length_le (by omega), List.drop_eq_nil_of_le (by omega), List.append_nil] at ho
        exact ⟨_, rfl, hp, ho⟩
end Go.Proofs.Ytopannfdcikgiaa.Sy
