import Derived.Test.YtopannfdcikgiaaK3
namespace Go.Proofs.Ytopannfdcikgiaa.Sy
open Go Go.RowKit
theorem l_eqIntSS_ret (σ : St) (v u : GV) (a b : List (List Int)) (ha : Rd2 σ v a) (hb : Rd2 σ u b) (hla : a.length ≤ 1099511627776) (hll : ∀ l ∈ a, l.length ≤ 1099511627776) : Ret Try.prog n_l_eqIntSS [v, u] σ (.bool (decide (a = b))) σ := by
  refine ret_eq ir_l_eqIntSS (by show 2 ≤ F_l_eqIntSS.n; decide) trivial ?_
  simp only [F_l_eqIntSS, go_sem, Nat.reduceEqDiff, ↓reduceIte, ha.len, hb.len]
  refine ⟨fun hne => ?_, fun heq => ?_⟩
  · have : a ≠ b := fun h => by subst h; simp at hne
    simp [this]
  · have hl : a.length = b.length := by have h2 : (a.length : Int) = b.length := by simpa using heq
                                        omega
    refine vc_lop (fun k env τ => ∃ i : Nat, k = a.length - i ∧ i ≤ a.length ∧ env 0 = v ∧ env 1 = u ∧ env 5 = gi i ∧ σ <+: τ ∧ a.take i = b.take i) a.length ⟨0, rfl, Nat.zero_le _, rfl, rfl, rfl, List.prefix_refl _, rfl⟩ ?_
    rintro k env τ ⟨i, rfl, hi, h0, h1, h5, hp, he⟩
    simp +contextual only [go_sem, Nat.reduceEqDiff, ↓reduceIte, h0, h1, h5, (Rd2.pre ha hp).len]
    refine ⟨fun hlt => ?_, fun hge => ?_⟩
    · have hi' : i < a.length := by simpa using hlt
      have hj' : i < b.length := by omega
      obtain ⟨c, hc, hcr⟩ := (Rd2.pre ha hp).ld hi'
      obtain ⟨d, hd, hdr⟩ := (Rd2.pre hb hp).ld hj'
      simp (disch := omega) only [go_sem, Nat.reduceEqDiff, ↓reduceIte, h0, h1, h5, (Rd2.pre ha hp).iad hi', hc, (Rd2.pre hb hp).iad hj', hd, wrap_add]
      have k1 := l_eqIntS_ret τ c d a[i] b[i] hcr hdr (hll _ (List.getElem_mem hi'))
      by_cases hab : a[i] = b[i]
      · rw [decide_eq_true hab] at k1
        refine by_ret k1 ?_
        simp (disch := omega) only [go_sem, Nat.reduceEqDiff, ↓reduceIte, h0, h1, h5, wrap_add]
        exact ⟨a.length - (i + 1), by omega, i + 1, rfl, hi', rfl, hp, by rw [take_snoc hi', take_snoc hj', he, hab]⟩
      · rw [decide_eq_false hab] at k1
        refine by_ret k1 ?_
        simp (disch := omega) only [go_sem, Nat.reduceEqDiff, ↓reduceIte, h0, h1, h5, wrap_add]
        have : a ≠ b := fun h => by subst h; exact hab rfl
        exact ⟨by simp [this], hp⟩
    · have hi' : i = a.length := by have := of_decide_eq_false hge; omega
      subst hi'
      rw [List.take_length, hl, List.take_length] at he
      exact ⟨by simp [he], hp⟩
/-- k, k + 1, .. -/
def iota (k : Int) (n : Nat) : List Int := (List.range n).map fun j : Nat => k + j
theorem iota_length (k : Int) (n : Nat) : (iota k n).length = n := by simp [iota]
theorem iota_get (k : Int) (n j : Nat) (h : j < (iota k n).length) : (iota k n)[j] = k + j := by simp [iota]
theorem l_markIntS_ret (b : Nat) (σ : St) (v : GV) (l : List Int) (k : Int) (h : OwnI b σ v l) (hl : l.length ≤ 1099511627776) (hk0 : 0 ≤ k) (hk : k ≤ 4611686018427387904) :
    ∃ r τ, Ret Try.prog n_l_markIntS [v, gi k] σ r τ ∧ r = gi (k + l.length) ∧ τ.length = σ.length ∧ OwnI b τ v (iota k l.length) ∧ ∀ g, (∀ n, v ≠ .sl g 0 n) → bk τ g = bk σ g := by
  refine ret_mut ir_l_markIntS (by show 2 ≤ F_l_markIntS.n; decide) ?_
  simp only [F_l_markIntS, go_sem, Nat.reduceEqDiff, ↓reduceIte]
  refine vc_lop (fun q env τ => ∃ i : Nat, q = l.length - i ∧ i ≤ l.length ∧ env 0 = v ∧ env 1 = gi (k + i) ∧ env 5 = gi i ∧ τ.length = σ.length ∧ OwnI b τ v ((iota k l.length).take i ++ l.drop i) ∧ ∀ g, (∀ n, v ≠ .sl g 0 n) → bk τ g = bk σ g) l.length ⟨0, rfl, Nat.zero_le _, rfl, by simp [up, env0], rfl, rfl, by simpa using h, fun _ _ => rfl⟩ ?_
  rintro q env τ ⟨i, rfl, hi, h0, h1, h5, hlen, ho, hs⟩
  have hol : ((iota k l.length).take i ++ l.drop i).length = l.length := by simp [iota_length]; omega
  have hlen2 := ho.rd.len
  rw [hol] at hlen2
  simp +contextual only [go_sem, Nat.reduceEqDiff, ↓reduceIte, h0, h1, h5, hlen2]
  refine ⟨fun hlt => ?_, fun hge => ?_⟩
  · have hi' : i < l.length := by simpa using hlt
    have hj' : i < ((iota k l.length).take i ++ l.drop i).length := by omega
    obtain ⟨τ', e, ho', hlen', hs', _⟩ := ho.stb hj' (k + i)
    have hset : ((iota k l.length).take i ++ l.drop i).set i (k + i) = (iota k l.length).take (i + 1) ++ l.drop (i + 1) := by
      have hki : i < (iota k l.length).length := by rw [iota_length]; exact hi'
      rw [take_snoc hki, iota_get, List.set_append_right _ _ (by simp [iota_length]; omega)]
      have e1 : i - ((iota k l.length).take i).length = 0 := by simp [iota_length]; omega
      rw [e1, List.drop_eq_getElem_cons hi', List.set_cons_zero, List.append_assoc]
      rfl
    rw [hset] at ho'
    simp (disch := omega) only [e, go_sem, Nat.reduceEqDiff, ↓reduceIte, h0, h1, h5, ho.rd.iad hj', wrap_add]
    refine ⟨l.length - (i + 1), by omega, i + 1, rfl, hi', ?_, rfl, by omega, ho', fun g' hg' => (hs' g' hg').trans (hs g' hg')⟩
    rw [show k + (i : Int) + 1 = k + ((i + 1 : Nat) : Int) by omega]
  · have hi' : i = l.length := by have := of_decide_eq_false hge; omega
    subst hi'
    rw [List.take_of_length_le (by rw [iota_length]; omega), List.drop_eq_nil_of_le (by omega), List.append_nil] at ho
    exact ⟨_, rfl, by omega, rfl, hlen, ho, hs⟩
theorem l_heldIntS_ret (σ : St) (v : GV) (l : List Int) (k : Int) (h : Rd σ v l) (he : l = iota k l.length) (hl : l.length ≤ 1099511627776) (hk0 : 0 ≤ k) (hk : k ≤ 4611686018427387904) : Ret Try.prog n_l_heldIntS [v, gi k] σ (gi (k + l.length)) σ := by
  refine ret_eq ir_l_heldIntS (by show 2 ≤ F_l_heldIntS.n; decide) trivial ?_
  simp only [F_l_heldIntS, go_sem, Nat.reduceEqDiff, ↓reduceIte]
  refine vc_lop (fun q env τ => ∃ i : Nat, q = l.length - i ∧ i ≤ l.length ∧ env 0 = v ∧ env 1 = gi (k + i) ∧ env 5 = gi i ∧ σ <+: τ) l.length ⟨0, rfl, Nat.zero_le _, rfl, by simp [up, env0], rfl, List.prefix_refl _⟩ ?_
  rintro q env τ ⟨i, rfl, hi, h0, h1, h5, hp⟩
  simp +contextual only [go_sem, Nat.reduceEqDiff, ↓reduceIte, h0, h1, h5, (h.pre hp).len]
  refine ⟨fun hlt => ?_, fun hge => ?_⟩
  · have hi' : i < l.length := by simpa using hlt
    have hli : l[i] = k + i := by
      have h2 : i < (iota k l.length).length := by rw [iota_length]; exact hi'
      have h3 : l[i] = (iota k l.length)[i] := by congr 1
      rw [h3, iota_get]
    simp (disch := omega) only [go_sem, Nat.reduceEqDiff, ↓reduceIte, h0, h1, h5, (h.pre hp).iad hi', (h.pre hp).ld hi', hli, wrap_add, bne_self_eq_false]
    exact ⟨l.length - (i + 1), by omega, i + 1, rfl, hi', by rw [show k + (i : Int) + 1 = k + ((i + 1 : Nat) : Int) by omega], rfl, hp⟩
  · have hi' : i = l.length := by have := of_decide_eq_false hge; omega
    subst hi'
    exact ⟨rfl, hp⟩
end Go.Proofs.Ytopannfdcikgiaa.Sy
