import Derived.Test.YtopannfdcikgiaaK2
namespace Go.Proofs.Ytopannfdcikgiaa.Sy
open Go Go.RowKit
theorem l_toIntS_ret (σ : St) (v : GV) (a : List Int) (ha : Rd σ v a) (hla : a.length ≤ 1099511627776) : ∃ r τ, Ret Try.prog n_l_toIntS [v] σ r τ ∧ σ <+: τ ∧ OwnI σ.length τ r a := by
  refine ret_new ir_l_toIntS (by show 1 ≤ F_l_toIntS.n; decide) ?_
  simp (disch := omega) only [F_l_toIntS, go_sem, Nat.reduceEqDiff, ↓reduceIte, ha.len, mks_ok]
  have hp0 : σ <+: σ ++ [some (Blk.row 1 (reps a.length [gi 0]))] := List.prefix_append _ _
  have ho0 : OwnI σ.length (σ ++ [some (Blk.row 1 (reps a.length [gi 0]))]) (.sl σ.length 0 a.length) (List.replicate a.length 0) := .inr ⟨_, Nat.le_refl _, by simp, by rw [bk_app_at, reps_one]; simp⟩
  refine vc_lop (fun k env τ => ∃ i : Nat, k = a.length - i ∧ i ≤ a.length ∧ env 0 = v ∧ env 3 = .sl σ.length 0 a.length ∧ env 4 = gi i ∧ σ <+: τ ∧ OwnI σ.length τ (.sl σ.length 0 a.length) (a.take i ++ List.replicate (a.length - i) 0)) a.length ⟨0, rfl, Nat.zero_le _, rfl, rfl, rfl, hp0, by simpa using ho0⟩ ?_
  rintro k env τ ⟨i, rfl, hi, h0, h3, h4, hp, ho⟩
  simp +contextual only [go_sem, Nat.reduceEqDiff, ↓reduceIte, h0, h3, h4, (ha.pre hp).len]
  refine ⟨fun hlt => ?_, fun hge => ?_⟩
  · have hi' : i < a.length := by simpa using hlt
    have hj' : i < (a.take i ++ List.replicate (a.length - i) 0).length := by simp; omega
    obtain ⟨τ', e, ho', hp'⟩ := ho.st hp hj' a[i]
    have hset : (a.take i ++ List.replicate (a.length - i) 0).set i a[i] = a.take (i + 1) ++ List.replicate (a.length - (i + 1)) 0 := by
      rw [take_snoc hi', List.set_append_right _ _ (by simp; omega)]
      have e1 : i - (a.take i).length = 0 := by simp; omega
      rw [e1, show a.length - i = (a.length - (i + 1)) + 1 by omega, List.replicate_succ, List.set_cons_zero, List.append_assoc]
      rfl
    rw [hset] at ho'
    simp (disch := omega) only [e, go_sem, Nat.reduceEqDiff, ↓reduceIte, h0, h3, h4, (ha.pre hp).iad hi', (ha.pre hp).ld hi', ho.rd.iad hj', wrap_add]
    exact ⟨a.length - (i + 1), by omega, i + 1, rfl, hi', rfl, hp', ho'⟩
  · have hi' : i = a.length := by have := of_decide_eq_false hge; omega
    subst hi'
    rw [List.take_length, Nat.sub_self, List.replicate_zero, List.append_nil] at ho
    exact ⟨_, rfl, hp, ho⟩
theorem l_toIntSS_ret (σ : St) (v : GV) (ll : List (List Int)) (h : Rd2 σ v ll) (hl : ll.length ≤ 1099511627776) (hll : ∀ l ∈ ll, l.length ≤ 1099511627776) : ∃ r τ, Ret Try.prog n_l_toIntSS [v] σ r τ ∧ σ <+: τ ∧ ∃ cs, Own2 σ.length τ r cs ll := by
  refine ret_new ir_l_toIntSS (by show 1 ≤ F_l_toIntSS.n; decide) ?_
  simp (disch := omega) only [F_l_toIntSS, go_sem, Nat.reduceEqDiff, ↓reduceIte, h.len, mks_ok]
  have hp0 : σ <+: σ ++ [some (Blk.row 1 (reps ll.length [.nilS]))] := List.prefix_append _ _
  refine vc_lop (fun k env τ => ∃ i : Nat, k = ll.length - i ∧ i ≤ ll.length ∧ env 0 = v ∧ env 3 = .sl σ.length 0 ll.length ∧ env 4 = gi i ∧ σ <+: τ ∧ ∃ cs, bk τ σ.length = some (.row 1 cs) ∧ cs.length = ll.length ∧ ∀ (j : Nat) l, j < i → ll[j]? = some l → ∃ c, cs[j]? = some c ∧ OwnI (σ.length + 1) τ c l) ll.length
    ⟨0, rfl, Nat.zero_le _, rfl, rfl, rfl, hp0, _, bk_app_at, by rw [reps_one]; simp, fun j l hj => by omega⟩ ?_
  rintro k env τ ⟨i, rfl, hi, h0, h3, h4, hp, cs, hB, hcl, hcs⟩
  simp +contextual only [go_sem, Nat.reduceEqDiff, ↓reduceIte, h0, h3, h4, (Rd2.pre h hp).len]
  refine ⟨fun hlt => ?_, fun hge => ?_⟩
  · have hi' : i < ll.length := by simpa using hlt
    obtain ⟨c, hcc, hcr⟩ := (Rd2.pre h hp).ld hi'
    simp only [go_sem, Nat.reduceEqDiff, ↓reduceIte, h0, h3, h4, (Rd2.pre h hp).iad hi', hcc]
    obtain ⟨r1, τ1, hR1, hp1, ho1⟩ := l_toIntS_ret τ c ll[i] hcr (hll _ (List.getElem_mem hi'))
    refine by_new hR1 hp1 ?_
    have hB1 := bk_pre hp1 hB
    have hlt1 := bk_lt hB
    have hi2 : iadG 1 (.sl σ.length 0 ll.length) (some i) = some (.ptr σ.length i) := by simp [iadG, hi']
    have hcell : r1.cells = [r1] := by rcases ho1 with ⟨_, rfl⟩ | ⟨_, _, rfl, _⟩ <;> rfl
    have hst : stG 1 τ1 (.ptr σ.length i) r1 = some (.tup [], τ1.set σ.length (some (.row 1 (splice cs i [r1])))) := by
      simp only [stG, bk_some.1 hB1, hcell]
      rw [if_pos ⟨by omega, by omega, rfl⟩]
    simp (disch := omega) only [hst, hi2, go_sem, Nat.reduceEqDiff, ↓reduceIte, h0, h3, h4, wrap_add]
    refine ⟨ll.length - (i + 1), by omega, i + 1, rfl, hi', rfl, pre_set (hp.trans hp1) (Nat.le_refl _) _, splice cs i [r1], bk_some.2 (by rw [List.getElem?_set_self (bk_lt hB1)]), ?_, fun j l hj hl => ?_⟩
    · rw [splice_length (by simp; omega)]; exact hcl
    · rw [splice_get (by simp; omega)]
      by_cases hji : j = i
      · subst hji
        rw [List.getElem?_eq_getElem hi'] at hl
        injection hl with hl
        subst hl
        rw [if_pos (by simp)]
        exact ⟨r1, by simp, (ho1.le hlt1).set_ne (by omega) _⟩
      · rw [if_neg (by simp; omega)]
        obtain ⟨c', h1, h2⟩ := hcs j l (by omega) hl
        exact ⟨c', h1, (h2.pre hp1).set_ne (by omega) _⟩
  · have hi' : i = ll.length := by have := of_decide_eq_false hge; omega
    subst hi'
    exact ⟨_, rfl, hp, cs, rfl, hB, hcl, fun j l hl => hcs j l (List.getElem?_eq_some_iff.1 hl).1 hl⟩
end Go.Proofs.Ytopannfdcikgiaa.Sy
