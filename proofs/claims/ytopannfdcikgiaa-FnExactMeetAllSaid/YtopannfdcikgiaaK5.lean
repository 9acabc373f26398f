import Derived.Test.YtopannfdcikgiaaK4
namespace Go.Proofs.Ytopannfdcikgiaa.Sy
open Go Go.RowKit
theorem l_markIntSS_ret (g : Nat) (σ : St) (v : GV) (cs : List GV) (ll : List (List Int)) (k : Int) (h : Own2 g σ v cs ll) (hl : ll.length ≤ 1048576) (hll : ∀ l ∈ ll, l.length ≤ 1048576) (hk0 : 0 ≤ k) (hk : k ≤ 1048576) :
    ∃ r τ, Ret Try.prog n_l_markIntSS [v, gi k] σ r τ ∧ (∃ m : Int, r = gi m ∧ 0 ≤ m) ∧ τ.length = σ.length ∧ ∀ g', (∀ c ∈ cs, ∀ n, c ≠ .sl g' 0 n) → bk τ g' = bk σ g' := by
  obtain ⟨hv, hB, hcl, hcs⟩ := h
  refine ret_mut ir_l_markIntSS (by show 2 ≤ F_l_markIntSS.n; decide) ?_
  simp only [F_l_markIntSS, go_sem, Nat.reduceEqDiff, ↓reduceIte]
  refine vc_lop (fun q env τ => ∃ (i : Nat) (m : Int), q = ll.length - i ∧ i ≤ ll.length ∧ env 0 = v ∧ env 1 = gi m ∧ env 5 = gi i ∧ 0 ≤ m ∧ m ≤ k + i * 1048576 ∧ τ.length = σ.length ∧ bk τ g = some (.row 1 cs) ∧ (∀ (j : Nat) l, ll[j]? = some l → ∃ c l', cs[j]? = some c ∧ l'.length = l.length ∧ OwnI (g + 1) τ c l') ∧ ∀ g', (∀ c ∈ cs, ∀ n, c ≠ .sl g' 0 n) → bk τ g' = bk σ g') ll.length
    ⟨0, k, rfl, Nat.zero_le _, rfl, rfl, rfl, hk0, by omega, rfl, hB, fun j l hj => by obtain ⟨c, h1, h2⟩ := hcs j l hj; exact ⟨c, l, h1, rfl, h2⟩, fun _ _ => rfl⟩ ?_
  rintro q env τ ⟨i, m, rfl, hi, h0, h1, h5, hm0, hm, hlen, hB', hc', hs⟩
  have hlv : lenG false v = some (ll.length : Int) := by rw [hv]; rfl
  simp +contextual only [go_sem, Nat.reduceEqDiff, ↓reduceIte, h0, h1, h5, hlv]
  refine ⟨fun hlt => ?_, fun hge => ?_⟩
  · have hi' : i < ll.length := by simpa using hlt
    obtain ⟨c, l', hci, hl', ho⟩ := hc' i ll[i] (List.getElem?_eq_getElem hi')
    have hll' := hll _ (List.getElem_mem hi')
    have hia : iadG 1 v (some i) = some (.ptr g i) := by rw [hv]; simp [iadG, hi']
    have hld : ldG false 1 τ (.ptr g i) = some c := by
      have hr : rdB τ g = some cs := by unfold rdB; rw [bk_some.1 hB']; rfl
      simp only [ldG, hr, Option.bind_some, seg_one hci, mkv, Bool.false_eq_true, if_false, List.head?_cons]
    simp only [go_sem, Nat.reduceEqDiff, ↓reduceIte, h0, h1, h5, hia, hld]
    obtain ⟨r1, τ1, hR1, rfl, hlen1, ho1, hs1⟩ := l_markIntS_ret (g + 1) τ c l' m ho (by omega) hm0 (by omega)
    refine by_mut hR1 ?_
    simp (disch := omega) only [go_sem, Nat.reduceEqDiff, ↓reduceIte, h0, h1, h5, wrap_add]
    have hcm : c ∈ cs := List.mem_of_getElem? hci
    refine ⟨ll.length - (i + 1), by omega, i + 1, _, rfl, hi', rfl, rfl, by omega, by omega, by omega, ?_, fun j l hj => ?_, fun g' hg' => (hs1 g' (hg' c hcm)).trans (hs g' hg')⟩
    · rw [hs1 g (fun n e => by
        rcases ho with ⟨_, e2⟩ | ⟨g2, hg2, e2, _⟩
        · rw [e2] at e; cases e
        · rw [e2] at e; injection e; omega)]
      exact hB'
    · obtain ⟨cj, lj, hcj, hlj, hoj⟩ := hc' j l hj
      refine ⟨cj, ?_⟩
      rcases hoj with ⟨e1, e2⟩ | ⟨gj, hgj, e2, hBj⟩
      · exact ⟨lj, hcj, hlj, .inl ⟨e1, e2⟩⟩
      · by_cases hsame : ∃ n, c = .sl gj 0 n
        · obtain ⟨n, hn⟩ := hsame
          rcases ho with ⟨_, e3⟩ | ⟨g3, hg3, e3, hB3⟩
          · rw [e3] at hn; cases hn
          · rw [e3] at hn
            injection hn with q1 q2 q3
            subst q1
            rw [hBj] at hB3
            injection hB3 with hB3
            injection hB3 with _ hB3
            have hll2 : lj.length = l'.length := by have := congrArg List.length hB3; simpa using this
            refine ⟨iota m l'.length, hcj, by rw [iota_length]; omega, ?_⟩
            rw [e2, hll2, ← e3]
            exact ho1
        · exact ⟨lj, hcj, hlj, .inr ⟨gj, hgj, e2, by rw [hs1 gj (fun n e => hsame ⟨n, e⟩)]; exact hBj⟩⟩
  · exact ⟨_, rfl, by omega, ⟨m, rfl, hm0⟩, hlen, hs⟩
theorem joinAll_len (ll : List (List Int)) : (joinAll ll).length ≤ 3 := by
  unfold joinAll
  split
  · exact fold_len ll _ (by simp)
  · simp
theorem law_ret (σ : St) (v : GV) (ll : List (List Int)) (h : Rd2 σ v ll) (hl : ll.length ≤ 9223372036854775807) (hll : ∀ l ∈ ll, l.length ≤ 9223372036854775807) : ∃ r τ, Ret Try.prog n_l_FnExactJoinAll [v] σ r τ ∧ r = .bool true := by
  refine ret_mut ir_l_FnExactJoinAll (by show 1 ≤ F_l_FnExactJoinAll.n; decide) ?_
  simp only [F_l_FnExactJoinAll, go_sem, Nat.reduceEqDiff, ↓reduceIte]
  obtain ⟨r, hR, m, rfl, hm⟩ := l_szIntSS_ret σ v ll 1048576 h hl hll (by omega) (by omega)
  refine by_ret hR ?_
  simp only [go_sem, Nat.reduceEqDiff, ↓reduceIte]
  refine ⟨fun _ => ⟨_, rfl, Nat.le_refl _, rfl⟩, fun hneg => ?_⟩
  have hneg := of_decide_eq_false hneg
  obtain ⟨_, _, hl2, hll2⟩ := hm.resolve_left (by omega)
  have hl3 : ll.length ≤ 1048576 := by omega
  have hll3 : ∀ l ∈ ll, l.length ≤ 1048576 := fun l hm => by have := hll2 l hm; omega
  have hll4 : ∀ l ∈ ll, l.length ≤ 1099511627776 := fun l hm => by have := hll2 l hm; omega
  -- w0
  obtain ⟨a1, τ1, hR1, hp1, cs1, ho1⟩ := l_toIntSS_ret σ v ll h (by omega) hll4
  refine by_new hR1 hp1 ?_
  simp only [go_sem, Nat.reduceEqDiff, ↓reduceIte]
  obtain ⟨w0, τ2, hR2, hp2, hw0⟩ := s_JoinAll_ret τ1 a1 ll ho1.rd (by omega) hll4
  refine by_new hR2 hp2 ?_
  simp only [go_sem, Nat.reduceEqDiff, ↓reduceIte]
  have hq2 := hp1.trans hp2
  -- x0
  obtain ⟨x0, τ3, hR3, hp3, cs3, ho3⟩ := l_toIntSS_ret τ2 v ll (Rd2.pre h hq2) (by omega) hll4
  refine by_new hR3 hp3 ?_
  simp only [go_sem, Nat.reduceEqDiff, ↓reduceIte]
  have hq3 := hq2.trans hp3
  -- g0
  obtain ⟨g0, τ4, hR4, hp4, hg0⟩ := i_JoinAll_ret τ3 x0 ll ho3.rd (by omega) hll4
  refine by_new hR4 hp4 ?_
  simp only [go_sem, Nat.reduceEqDiff, ↓reduceIte]
  have hq4 := hq3.trans hp4
  have hw4 := hw0.pre (hp3.trans hp4)
  have hjl := joinAll_len ll
  have e1 := l_eqIntS_ret τ4 g0 w0 _ _ hg0.rd hw4.rd (by omega)
  rw [decide_eq_true rfl] at e1
  refine by_ret e1 ?_
  simp only [go_sem, Nat.reduceEqDiff, ↓reduceIte]
  -- x0 as it was
  obtain ⟨y1, τ5, hR5, hp5, cs5, ho5⟩ := l_toIntSS_ret τ4 v ll (Rd2.pre h hq4) (by omega) hll4
  refine by_new hR5 hp5 ?_
  simp only [go_sem, Nat.reduceEqDiff, ↓reduceIte]
  have hx5 := ho3.pre (hp4.trans hp5)
  have e2 := l_eqIntSS_ret τ5 x0 y1 ll ll hx5.rd ho5.rd (by omega) hll4
  rw [decide_eq_true rfl] at e2
  refine by_ret e2 ?_
  simp only [go_sem, Nat.reduceEqDiff, ↓reduceIte]
  -- x0 is written over
  obtain ⟨r6, τ6, hR6, ⟨m6, rfl, hm6⟩, hlen6, hs6⟩ := l_markIntSS_ret τ2.length τ5 x0 cs3 ll 1 hx5 hl3 hll3 (by omega) (by omega)
  refine by_mut hR6 ?_
  have hcs3 : ∀ c ∈ cs3, ∀ g n, c = .sl g 0 n → τ2.length + 1 ≤ g ∧ g < τ3.length := fun c hc g n e => by
    obtain ⟨j, hj⟩ := List.getElem?_of_mem hc
    have hjl : j < ll.length := by rw [← ho3.2.2.1]; exact (List.getElem?_eq_some_iff.1 hj).1
    obtain ⟨c', h1, h2⟩ := ho3.2.2.2 j _ (List.getElem?_eq_getElem hjl)
    rw [hj] at h1; injection h1 with h1; subst h1
    rcases h2 with ⟨_, e2⟩ | ⟨g2, hg2, e2, hB2⟩
    · rw [e2] at e; cases e
    · rw [e2] at e; injection e with q1; subst q1
      exact ⟨hg2, bk_lt hB2⟩
  have hw0lt : ∀ g n, w0 = .sl g 0 n → g < τ2.length := fun g n e => by
    rcases hw0 with ⟨_, e2⟩ | ⟨g2, hg2, e2, hB2⟩
    · rw [e2] at e; cases e
    · rw [e2] at e; injection e with q1; subst q1
      exact bk_lt hB2
  have hle3 := hp3.length_le
  have hw6 : OwnI τ1.length τ6 w0 (joinAll ll) := (hw4.pre hp5).same fun g hg ⟨n, e⟩ => hs6 g fun c hc n' e' => by
    have := hcs3 c hc g n' e'
    have := hw0lt g n e
    omega
  have hg6 : OwnI τ3.length τ6 g0 (joinAll ll) := (hg0.pre hp5).same fun g hg ⟨n, e⟩ => hs6 g fun c hc n' e' => by
    have := hcs3 c hc g n' e'
    omega
  have hq6 : σ <+: τ6 := pre_same (hq4.trans hp5) hlen6 fun g hg => hs6 g fun c hc n' e' => by
    have := hcs3 c hc g n' e'
    have := hq2.length_le
    omega
  simp only [go_sem, Nat.reduceEqDiff, ↓reduceIte, decide_eq_false (show ¬ m6 < 0 by omega)]
  have e3 := l_eqIntS_ret τ6 g0 w0 _ _ hg6.rd hw6.rd (by omega)
  rw [decide_eq_true rfl] at e3
  refine by_ret e3 ?_
  simp only [go_sem, Nat.reduceEqDiff, ↓reduceIte]
  -- g0 is written over
  obtain ⟨r7, τ7, hR7, rfl, hlen7, hg7, hs7⟩ := l_markIntS_ret τ3.length τ6 g0 (joinAll ll) 1 hg6 (by omega) (by omega) (by omega)
  refine by_mut hR7 ?_
  simp only [go_sem, Nat.reduceEqDiff, ↓reduceIte]
  have hg0ge : ∀ g n, g0 = .sl g 0 n → τ3.length ≤ g := fun g n e => by
    rcases hg6 with ⟨_, e2⟩ | ⟨g2, hg2, e2, hB2⟩
    · rw [e2] at e; cases e
    · rw [e2] at e; injection e with q1; subst q1
      exact hg2
  have hw7 : OwnI τ1.length τ7 w0 (joinAll ll) := hw6.same fun g hg ⟨n, e⟩ => hs7 g fun n' e' => by
    have := hg0ge g n' e'
    have := hw0lt g n e
    omega
  have hq7 : σ <+: τ7 := pre_same hq6 hlen7 fun g hg => hs7 g fun n' e' => by
    have := hg0ge g n' e'
    have := hq3.length_le
    omega
  have k7 := l_heldIntS_ret τ7 g0 _ 1 hg7.rd (by rw [iota_length]) (by rw [iota_length]; omega) (by omega) (by omega)
  rw [iota_length] at k7
  refine by_ret k7 ?_
  simp only [go_sem, Nat.reduceEqDiff, ↓reduceIte, decide_eq_false (show ¬ (1 + ((joinAll ll).length : Int)) < 0 by omega), bne_self_eq_false]
  -- once more
  obtain ⟨y2, τ8, hR8, hp8, cs8, ho8⟩ := l_toIntSS_ret τ7 v ll (Rd2.pre h hq7) (by omega) hll4
  refine by_new hR8 hp8 ?_
  simp only [go_sem, Nat.reduceEqDiff, ↓reduceIte]
  obtain ⟨h0, τ9, hR9, hp9, hh0⟩ := i_JoinAll_ret τ8 y2 ll ho8.rd (by omega) hll4
  refine by_new hR9 hp9 ?_
  simp only [go_sem, Nat.reduceEqDiff, ↓reduceIte]
  have e4 := l_eqIntS_ret τ9 h0 w0 _ _ hh0.rd (hw7.pre (hp8.trans hp9)).rd (by omega)
  rw [decide_eq_true rfl] at e4
  refine by_ret e4 ?_
  simp only [go_sem, Nat.reduceEqDiff, ↓reduceIte]
  have k9 := l_heldIntS_ret τ9 g0 _ 1 (hg7.pre (hp8.trans hp9)).rd (by rw [iota_length]) (by rw [iota_length]; omega) (by omega) (by omega)
  rw [iota_length] at k9
  refine by_ret k9 ?_
  simp only [go_sem, Nat.reduceEqDiff, ↓reduceIte, decide_eq_false (show ¬ (1 + ((joinAll ll).length : Int)) < 0 by omega), bne_self_eq_false]
  exact ⟨_, rfl, (hq7.trans (hp8.trans hp9)).length_le, rfl⟩
theorem law_sl (σ : St) (v : GV) (ll : List (List Int)) (h : Sl (Ek.slice (Ek.int .i64)) σ v ll) (hw : ll.length ≤ 9223372036854775807 ∧ ∀ l ∈ ll, l.length ≤ 9223372036854775807 ∧ ∀ x ∈ l, I64 x) : ∃ r τ, Ret Try.prog n_l_FnExactJoinAll [v] σ r τ ∧ r = .bool true :=
  law_ret σ v ll h.rd2 hw.1 fun l hl => (hw.2 l hl).1
end Go.Proofs.Ytopannfdcikgiaa.Sy
