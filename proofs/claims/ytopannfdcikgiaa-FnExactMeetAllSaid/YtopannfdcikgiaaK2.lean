import Derived.Test.YtopannfdcikgiaaK1
namespace Go.Proofs.Ytopannfdcikgiaa.Sy
open Go Go.RowKit
theorem l_eqIntS_ret (σ : St) (v u : GV) (a b : List Int) (ha : Rd σ v a) (hb : Rd σ u b) (hla : a.length ≤ 1099511627776) : Ret Try.prog n_l_eqIntS [v, u] σ (.bool (decide (a = b))) σ := by
  refine ret_eq ir_l_eqIntS (by show 2 ≤ F_l_eqIntS.n; decide) trivial ?_
  simp only [F_l_eqIntS, go_sem, Nat.reduceEqDiff, ↓reduceIte, ha.len, hb.len]
  refine ⟨fun hne => ?_, fun heq => ?_⟩
  · have : a ≠ b := fun h => by subst h; simp at hne
    simp [this]
  · have hl : a.length = b.length := by have h2 : (a.length : Int) = b.length := by simpa using heq
                                        omega
    refine vc_lop (fun k env τ => ∃ i : Nat, k = a.length - i ∧ i ≤ a.length ∧ env 0 = v ∧ env 1 = u ∧ env 5 = gi i ∧ σ <+: τ ∧ a.take i = b.take i) a.length ⟨0, rfl, Nat.zero_le _, rfl, rfl, rfl, List.prefix_refl _, rfl⟩ ?_
    rintro k env τ ⟨i, rfl, hi, h0, h1, h5, hp, he⟩
    simp +contextual only [go_sem, Nat.reduceEqDiff, ↓reduceIte, h0, h1, h5, (ha.pre hp).len]
    refine ⟨fun hlt => ?_, fun hge => ?_⟩
    · have hi' : i < a.length := by simpa using hlt
      have hj' : i < b.length := by omega
      simp (disch := omega) only [go_sem, Nat.reduceEqDiff, ↓reduceIte, h0, h1, h5, (ha.pre hp).iad hi', (ha.pre hp).ld hi', (hb.pre hp).iad hj', (hb.pre hp).ld hj', wrap_add]
      refine ⟨fun hne => ⟨?_, hp⟩, fun heq => ?_⟩
      · have : a ≠ b := fun h => by subst h; simp at hne
        simp [this]
      · have hab : a[i] = b[i] := by simpa using heq
        exact ⟨a.length - (i + 1), by omega, i + 1, rfl, hi', rfl, hp, by rw [take_snoc hi', take_snoc hj', he, hab]⟩
    · have hi' : i = a.length := by have := of_decide_eq_false hge; omega
      subst hi'
      rw [List.take_length, hl, List.take_length] at he
      exact ⟨by simp [he], hp⟩
theorem l_szIntS_ret (σ : St) (v : GV) (a : List Int) (n : Int) (ha : Rd σ v a) (hla : a.length ≤ 9223372036854775807) (h0 : 0 ≤ n) (h1 : n ≤ 1099511627776) : Ret Try.prog n_l_szIntS [v, gi n] σ (gi (if n - a.length < 0 then -1 else n - a.length)) σ := by
  refine ret_eq ir_l_szIntS (by show 2 ≤ F_l_szIntS.n; decide) trivial ?_
  simp (disch := omega) only [F_l_szIntS, go_sem, Nat.reduceEqDiff, ↓reduceIte, ha.len, wrap_add]
  refine ⟨fun h => ?_, fun h => ?_⟩
  · rw [if_pos (of_decide_eq_true h)]
  · rw [if_neg (of_decide_eq_false h)]
theorem l_szIntSS_ret (σ : St) (v : GV) (ll : List (List Int)) (n : Int) (h : Rd2 σ v ll) (hl : ll.length ≤ 9223372036854775807) (hll : ∀ l ∈ ll, l.length ≤ 9223372036854775807) (h0 : 0 ≤ n) (h1 : n ≤ 1099511627776) :
    ∃ r, Ret Try.prog n_l_szIntSS [v, gi n] σ r σ ∧ ∃ m : Int, r = gi m ∧ (m < 0 ∨ (0 ≤ m ∧ m ≤ n ∧ ll.length ≤ n ∧ ∀ l ∈ ll, l.length ≤ n)) := by
  refine ret_ex ir_l_szIntSS (by show 2 ≤ F_l_szIntSS.n; decide) ?_
  simp (disch := omega) only [F_l_szIntSS, go_sem, Nat.reduceEqDiff, ↓reduceIte, h.len, wrap_add]
  refine ⟨fun hc => ⟨_, rfl, trivial, -1, rfl, .inl (by omega)⟩, fun hc => ?_⟩
  have hc := of_decide_eq_false hc
  refine vc_lop (fun k env τ => ∃ (i : Nat) (m : Int), k = ll.length - i ∧ i ≤ ll.length ∧ env 0 = v ∧ env 1 = gi m ∧ env 5 = gi i ∧ σ <+: τ ∧ 0 ≤ m ∧ m ≤ n ∧ ∀ l ∈ ll.take i, l.length ≤ n) ll.length ⟨0, _, rfl, Nat.zero_le _, rfl, rfl, rfl, List.prefix_refl _, by omega, by omega, by simp⟩ ?_
  rintro k env τ ⟨i, m, rfl, hi, e0, e1, e5, hp, hm0, hmn, hall⟩
  simp +contextual only [go_sem, Nat.reduceEqDiff, ↓reduceIte, e0, e1, e5, (Rd2.pre h hp).len]
  refine ⟨fun hlt => ?_, fun hge => ?_⟩
  · have hi' : i < ll.length := by simpa using hlt
    obtain ⟨c, hcc, hcr⟩ := (Rd2.pre h hp).ld hi'
    simp only [go_sem, Nat.reduceEqDiff, ↓reduceIte, e0, e1, e5, (Rd2.pre h hp).iad hi', hcc]
    have hcl := hll ll[i] (List.getElem_mem hi')
    refine by_ret (l_szIntS_ret τ c ll[i] m hcr hcl hm0 (by omega)) ?_
    simp (disch := omega) only [go_sem, Nat.reduceEqDiff, ↓reduceIte, e0, e1, e5, wrap_add]
    by_cases hneg : m - (ll[i].length : Int) < 0
    · simp only [if_pos hneg]
      exact ⟨fun _ => ⟨_, rfl, hp, trivial, -1, rfl, .inl (by omega)⟩, fun h => by simp at h⟩
    · simp only [if_neg hneg]
      refine ⟨fun h => absurd (of_decide_eq_true h) hneg, fun _ => ⟨ll.length - (i + 1), by omega, i + 1, _, rfl, hi', rfl, rfl, hp, by omega, by omega, fun l hl => ?_⟩⟩
      rw [take_snoc hi', List.mem_append] at hl
      rcases hl with hl | hl
      · exact hall l hl
      · simp only [List.mem_singleton] at hl
        subst hl; omega
  · have hi' : i = ll.length := by have := of_decide_eq_false hge; omega
    subst hi'
    rw [List.take_length] at hall
    exact ⟨_, rfl, hp, trivial, m, rfl, .inr ⟨hm0, hmn, by omega, hall⟩⟩
end Go.Proofs.Ytopannfdcikgiaa.Sy
