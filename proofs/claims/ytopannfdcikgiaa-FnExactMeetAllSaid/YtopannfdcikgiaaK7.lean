import Derived.Test.YtopannfdcikgiaaK6
namespace Go.Proofs.Ytopannfdcikgiaa.Sy
open Go Go.RowKit
set_option linter.unusedSimpArgs false
set_option linter.unusedVariables false
def mt : List (List Int) → List Int
  | [] => []
  | k :: r => r.foldl kMin k
def meetAll (ll : List (List Int)) : List Int := if ll.all okK then mt ll else []
theorem mt_snoc (l : List (List Int)) (x : List Int) : mt (l ++ [x]) = if l = [] then x else kMin (mt l) x := by
  cases l with
  | nil => rfl
  | cons k r => simp [mt, List.foldl_append]
theorem kMin_self {k : List Int} (h : okK k = true) : kMin k k = k := by
  simp only [kMin, h, Bool.and_self, if_true]
  induction k with
  | nil => rfl
  | cons x k ih =>
    clear ih h
    have : ∀ l : List Int, List.zipWith (fun x y => if y < x then y else x) l l = l := by
      intro l
      induction l with
      | nil => rfl
      | cons y l ih => simp [ih]
    exact this _
theorem kMin_len (a b : List Int) : (kMin a b).length ≤ 3 := by
  unfold kMin
  split
  · rename_i h
    simp only [Bool.and_eq_true] at h
    have := okK_len h.1
    simp; omega
  · simp
theorem mt_len {l : List (List Int)} (h : l.all okK = true) : (mt l).length ≤ 3 := by
  cases l with
  | nil => simp [mt]
  | cons k r =>
    have hk : k.length ≤ 3 := by
      simp only [List.all_cons, Bool.and_eq_true] at h
      have := okK_len h.1; omega
    clear h
    simp only [mt]
    induction r generalizing k with
    | nil => exact hk
    | cons x r ih => exact ih (k := kMin k x) (kMin_len k x)
theorem s_MeetAll_ret (σ : St) (v : GV) (ll : List (List Int)) (h : Rd2 σ v ll) (hl : ll.length ≤ 1099511627776) (hll : ∀ l ∈ ll, l.length ≤ 1099511627776) : ∃ r τ, Ret Try.prog n_s_MeetAll [v] σ r τ ∧ σ <+: τ ∧ OwnI σ.length τ r (meetAll ll) := by
  refine ret_new ir_s_MeetAll (by show 1 ≤ F_s_MeetAll.n; decide) ?_
  simp only [F_s_MeetAll, go_sem, Nat.reduceEqDiff, ↓reduceIte]
  refine vc_lop (fun k env τ => ∃ i : Nat, k = ll.length - i ∧ i ≤ ll.length ∧ env 0 = v ∧ env 4 = gi i ∧ σ <+: τ ∧ OwnI σ.length τ (env 3) (mt (ll.take i)) ∧ (ll.take i).all okK = true) ll.length ⟨0, rfl, Nat.zero_le _, rfl, rfl, List.prefix_append _ _, .inr ⟨_, Nat.le_refl _, rfl, bk_app_at⟩, rfl⟩ ?_
  rintro k env τ ⟨i, rfl, hi, h0, h4, hp, ho, ha⟩
  simp +contextual only [go_sem, Nat.reduceEqDiff, ↓reduceIte, h0, h4, (Rd2.pre h hp).len]
  refine ⟨fun hlt => ?_, fun hge => ?_⟩
  · have hi' : i < ll.length := by simpa using hlt
    obtain ⟨c, hc, hcr⟩ := (Rd2.pre h hp).ld hi'
    have hcl := hll ll[i] (List.getElem_mem hi')
    simp only [go_sem, Nat.reduceEqDiff, ↓reduceIte, (Rd2.pre h hp).iad hi', hc]
    have k1 := s_KnowOk_ret τ c ll[i] hcr hcl
    cases hk : okK ll[i] with
    | false =>
      rw [hk] at k1
      refine by_ret k1 ?_
      simp only [go_sem, Nat.reduceEqDiff, ↓reduceIte]
      exact ⟨_, rfl, pre_app hp _, by rw [show meetAll ll = [] by rw [meetAll, all_false_at hi' hk]; rfl]; exact .inr ⟨_, hp.length_le, rfl, bk_app_at⟩⟩
    | true =>
      rw [hk] at k1
      refine by_ret k1 ?_
      have hml := mt_len ha
      have hs := mt_snoc (ll.take i) ll[i]
      have hp1 : σ <+: τ ++ [some (Blk.row 1 [])] := pre_app hp _
      have hia1 := (Rd2.pre h hp1).iad hi'
      obtain ⟨c1, hc1, hcr1⟩ := (Rd2.pre h hp1).ld hi'
      simp only [go_sem, Nat.reduceEqDiff, ↓reduceIte, h0, h4, (Rd2.pre h hp).iad hi', hc, hc1]
      refine ⟨fun hz => ?_, fun hnz => ?_⟩
      · have hz : i = 0 := by simpa using hz
        obtain ⟨v', τ', e, ho', hp'⟩ := OwnI.app (σ := σ) (τ := τ ++ [some (.row 1 [])]) (v := .sl τ.length 0 0) (l := []) (m := ll[i]) (.inr ⟨_, hp.length_le, rfl, bk_app_at⟩) hp1 hcr1 (by simp; omega)
        simp (disch := omega) only [e, go_sem, Nat.reduceEqDiff, ↓reduceIte, h0, h4, wrap_add]
        exact ⟨ll.length - (i + 1), by omega, i + 1, rfl, hi', rfl, hp', by rw [take_snoc hi', hs, if_pos (by subst hz; rfl)]; simpa using ho', take_all_succ hi' ha hk⟩
      · have hnz : i ≠ 0 := by simpa using hnz
        obtain ⟨r1, τ1, hR1, hpp, ho1⟩ := s_KnowMin_ret τ (env 3) c _ ll[i] ho.rd hcr (by omega) hcl
        refine by_new hR1 hpp ?_
        simp (disch := omega) only [go_sem, Nat.reduceEqDiff, ↓reduceIte, h0, h4, wrap_add]
        exact ⟨ll.length - (i + 1), by omega, i + 1, rfl, hi', rfl, hp.trans hpp, by rw [take_snoc hi', hs, if_neg (by intro e; have e2 := congrArg List.length e; rw [List.length_take, List.length_nil] at e2; omega)]; exact ho1.le hp.length_le, take_all_succ hi' ha hk⟩
  · have hi' : i = ll.length := by have := of_decide_eq_false hge; omega
    subst hi'
    rw [List.take_length] at ho ha
    exact ⟨_, rfl, hp, by rw [meetAll, ha]; exact ho⟩
theorem i_MeetAll_ret (σ : St) (v : GV) (ll : List (List Int)) (h : Rd2 σ v ll) (hl : ll.length ≤ 1099511627776) (hll : ∀ l ∈ ll, l.length ≤ 1099511627776) : ∃ r τ, Ret Try.prog n_i_MeetAll [v] σ r τ ∧ σ <+: τ ∧ OwnI σ.length τ r (meetAll ll) := by
  refine ret_new ir_i_MeetAll (by show 1 ≤ F_i_MeetAll.n; decide) ?_
  simp only [F_i_MeetAll, go_sem, Nat.reduceEqDiff, ↓reduceIte, h.len]
  refine vc_lop (fun k env τ => ∃ i : Nat, k = ll.length - i ∧ i ≤ ll.length ∧ env 7 = v ∧ env 8 = gi ll.length ∧ env 9 = gi i ∧ σ <+: τ ∧ OwnI σ.length τ (env 3) (mt (ll.take i)) ∧ (ll.take i).all okK = true) ll.length ⟨0, rfl, Nat.zero_le _, rfl, rfl, rfl, List.prefix_append _ _, .inr ⟨_, Nat.le_refl _, rfl, bk_app_at⟩, rfl⟩ ?_
  rintro k env τ ⟨i, rfl, hi, h7, h8, h9, hp, ho, ha⟩
  simp +contextual only [go_sem, Nat.reduceEqDiff, ↓reduceIte, h7, h8, h9]
  refine ⟨fun hlt => ?_, fun hge => ?_⟩
  · have hi' : i < ll.length := by simpa using hlt
    obtain ⟨c, hc, hcr⟩ := (Rd2.pre h hp).ld hi'
    have hcl := hll ll[i] (List.getElem_mem hi')
    simp only [go_sem, Nat.reduceEqDiff, ↓reduceIte, h7, h8, h9, (Rd2.pre h hp).iad hi', hc]
    have k1 := i_KnowOk_ret τ c ll[i] hcr hcl
    cases hk : okK ll[i] with
    | false =>
      rw [hk] at k1
      refine by_ret k1 ?_
      simp only [go_sem, Nat.reduceEqDiff, ↓reduceIte]
      exact ⟨_, rfl, hp, .inl ⟨by rw [meetAll, all_false_at hi' hk]; rfl, rfl⟩⟩
    | true =>
      rw [hk] at k1
      refine by_ret k1 ?_
      have hml := mt_len ha
      have hs := mt_snoc (ll.take i) ll[i]
      simp only [go_sem, Nat.reduceEqDiff, ↓reduceIte, h7, h8, h9]
      refine ⟨fun hz => ?_, fun hnz => ?_⟩
      · have hz : i = 0 := by simpa using hz
        obtain ⟨r2, τ2, hR2, hp2, ho2⟩ := i_copyInts_ret τ c ll[i] hcr hcl
        refine by_new hR2 hp2 ?_
        simp only [go_sem, Nat.reduceEqDiff, ↓reduceIte, h7, h8, h9]
        obtain ⟨r1, τ1, hR1, hpp, ho1⟩ := i_KnowMin_ret τ2 r2 c _ ll[i] ho2.rd (hcr.pre hp2) hcl hcl
        refine by_new hR1 hpp ?_
        simp (disch := omega) only [go_sem, Nat.reduceEqDiff, ↓reduceIte, h7, h8, h9, wrap_add]
        rw [kMin_self hk] at ho1
        exact ⟨ll.length - (i + 1), by omega, i + 1, rfl, hi', rfl, hp.trans (hp2.trans hpp), by rw [take_snoc hi', hs, if_pos (by subst hz; rfl)]; exact ho1.le (hp.trans hp2).length_le, take_all_succ hi' ha hk⟩
      · have hnz : i ≠ 0 := by simpa using hnz
        obtain ⟨r1, τ1, hR1, hpp, ho1⟩ := i_KnowMin_ret τ (env 3) c _ ll[i] ho.rd hcr (by omega) hcl
        refine by_new hR1 hpp ?_
        simp (disch := omega) only [go_sem, Nat.reduceEqDiff, ↓reduceIte, h7, h8, h9, wrap_add]
        exact ⟨ll.length - (i + 1), by omega, i + 1, rfl, hi', rfl, hp.trans hpp, by rw [take_snoc hi', hs, if_neg (by intro e; have e2 := congrArg List.length e; rw [List.length_take, List.length_nil] at e2; omega)]; exact ho1.le hp.length_le, take_all_succ hi' ha hk⟩
  · have hi' : i = ll.length := by have := of_decide_eq_false hge; omega
    subst hi'
    rw [List.take_length] at ho ha
    exact ⟨_, rfl, hp, by rw [meetAll, ha]; exact ho⟩
end Go.Proofs.Ytopannfdcikgiaa.Sy
