import Derived.Test.YtopannfdcikgiaaK5
import Derived.Test.YtopannfdcikgiaaK7
namespace Go.Proofs.Ytopannfdcikgiaa.Sy
open Go Go.RowKit
set_option linter.unusedSimpArgs false
set_option linter.unusedVariables false
theorem meetAll_len (ll : List (List Int)) : (meetAll ll).length ≤ 3 := by
  unfold meetAll
  split
  · rename_i h; exact mt_len h
  · simp
theorem law_meet (σ : St) (v : GV) (ll : List (List Int)) (h : Rd2 σ v ll) (hl : ll.length ≤ 9223372036854775807) (hll : ∀ l ∈ ll, l.length ≤ 9223372036854775807) : ∃ r τ, Ret Try.prog n_l_FnExactMeetAll [v] σ r τ ∧ r = .bool true := by
  refine ret_mut ir_l_FnExactMeetAll (by show 1 ≤ F_l_FnExactMeetAll.n; decide) ?_
  simp only [F_l_FnExactMeetAll, go_sem, Nat.reduceEqDiff, ↓reduceIte]
  obtain ⟨r, hR, m, rfl, hm⟩ := l_szIntSS_ret σ v ll 1048576 h hl hll (by omega) (by omega)
  refine by_ret hR ?_
  simp only [go_sem, Nat.reduceEqDiff, ↓reduceIte]
  refine ⟨fun _ => ⟨_, rfl, Nat.le_refl _, rfl⟩, fun hneg => ?_⟩
  have hneg := of_decide_eq_false hneg
  obtain ⟨_, _, hl2, hll2⟩ := hm.resolve_left (by omega)
  have hl3 : ll.length ≤ 1048576 := by omega
  have hll3 : ∀ l ∈ ll, l.length ≤ 1048576 := fun l hm => by have := hll2 l hm; omega
  have hll4 : ∀ l ∈ ll, l.length ≤ 1099511627776 := fun l hm => by have := hll2 l hm; omega
  -- w0
  obtain ⟨a1, τ1, hR1, hp1, cs1, ho1⟩ := l_toIntSS_ret σ v ll h (by omega) hll4
  refine by_new hR1 hp1 ?_
  simp only [go_sem, Nat.reduceEqDiff, ↓reduceIte]
  obtain ⟨w0, τ2, hR2, hp2, hw0⟩ := s_MeetAll_ret τ1 a1 ll ho1.rd (by omega) hll4
  refine by_new hR2 hp2 ?_
  simp only [go_sem, Nat.reduceEqDiff, ↓reduceIte]
  have hq2 := hp1.trans hp2
  -- x0
  obtain ⟨x0, τ3, hR3, hp3, cs3, ho3⟩ := l_toIntSS_ret τ2 v ll (Rd2.pre h hq2) (by omega) hll4
  refine by_new hR3 hp3 ?_
  simp only [go_sem, Nat.reduceEqDiff, ↓reduceIte]
  have hq3 := hq2.trans hp3
  -- g0
  obtain ⟨g0, τ4, hR4, hp4, hg0⟩ := i_MeetAll_ret τ3 x0 ll ho3.rd (by omega) hll4
  refine by_new hR4 hp4 ?_
  simp only [go_sem, Nat.reduceEqDiff, ↓reduceIte]
  have hq4 := hq3.trans hp4
  have hw4 := hw0.pre (hp3.trans hp4)
  have hjl := meetAll_len ll
  have e1 := l_eqIntS_ret τ4 g0 w0 _ _ hg0.rd hw4.rd (by omega)
  rw [decide_eq_true rfl] at e1
  refine by_ret e1 ?_
  simp only [go_sem, Nat.reduceEqDiff, ↓reduceIte]
  -- x0 as it was
  obtain ⟨y1, τ5, hR5, hp5, cs5, ho5⟩ := l_toIntSS_ret τ4 v ll (Rd2.pre h hq4) (by omega) hll4
  refine by_new hR5 hp5 ?_
  simp only [go_sem, Nat.reduceEqDiff, ↓reduceIte]
  have hx5 := ho3.pre (hp4.trans hp5)
  have e2 := l_eqIntSS_ret τ5 x0 y1 ll ll hx5.rd ho5.rd (by omega) hll4
  rw [decide_eq_true rfl] at e2
  refine by_ret e2 ?_
  simp only [go_sem, Nat.reduceEqDiff, ↓reduceIte]
  -- x0 is written over
  obtain ⟨r6, τ6, hR6, ⟨m6, rfl, hm6⟩, hlen6, hs6⟩ := l_markIntSS_ret τ2.length τ5 x0 cs3 ll 1 hx5 hl3 hll3 (by omega) (by omega)
  refine by_mut hR6 ?_
  have hcs3 : ∀ c ∈ cs3, ∀ g n, c = .sl g 0 n → τ2.length + 1 ≤ g ∧ g < τ3.length := fun c hc g n e => by
    obtain ⟨j, hj⟩ := List.getElem?_of_mem hc
    have hjl : j < ll.length := by rw [← ho3.2.2.1]; exact (List.getElem?_eq_some_iff.1 hj).1
    obtain ⟨c', h1, h2⟩ := ho3.2.2.2 j _ (List.getElem?_eq_getElem hjl)
    rw [hj] at h1; injection h1 with h1; subst h1
    rcases h2 with ⟨_, e2⟩ | ⟨g2, hg2, e2, hB2⟩
    · rw [e2] at e; cases e
    · rw [e2] at e; injection e with q1; subst q1
      exact ⟨hg2, bk_lt hB2⟩
  have hw0lt : ∀ g n, w0 = .sl g 0 n → g < τ2.length := fun g n e => by
    rcases hw0 with ⟨_, e2⟩ | ⟨g2, hg2, e2, hB2⟩
    · rw [e2] at e; cases e
    · rw [e2] at e; injection e with q1; subst q1
      exact bk_lt hB2
  have hle3 := hp3.length_le
  have hw6 : OwnI τ1.length τ6 w0 (meetAll ll) := (hw4.pre hp5).same fun g hg ⟨n, e⟩ => hs6 g fun c hc n' e' => by
    have := hcs3 c hc g n' e'
    have := hw0lt g n e
    omega
  have hg6 : OwnI τ3.length τ6 g0 (meetAll ll) := (hg0.pre hp5).same fun g hg ⟨n, e⟩ => hs6 g fun c hc n' e' => by
    have := hcs3 c hc g n' e'
    omega
  have hq6 : σ <+: τ6 := pre_same (hq4.trans hp5) hlen6 fun g hg => hs6 g fun c hc n' e' => by
    have := hcs3 c hc g n' e'
    have := hq2.length_le
    omega
  simp only [go_sem, Nat.reduceEqDiff, ↓reduceIte, decide_eq_false (show ¬ m6 < 0 by omega)]
  have e3 := l_eqIntS_ret τ6 g0 w0 _ _ hg6.rd hw6.rd (by omega)
  rw [decide_eq_true rfl] at e3
  refine by_ret e3 ?_
  simp only [go_sem, Nat.reduceEqDiff, ↓reduceIte]
  -- g0 is written over
  obtain ⟨r7, τ7, hR7, rfl, hlen7, hg7, hs7⟩ := l_markIntS_ret τ3.length τ6 g0 (meetAll ll) 1 hg6 (by omega) (by omega) (by omega)
  refine by_mut hR7 ?_
  simp only [go_sem, Nat.reduceEqDiff, ↓reduceIte]
  have hg0ge : ∀ g n, g0 = .sl g 0 n → τ3.length ≤ g := fun g n e => by
    rcases hg6 with ⟨_, e2⟩ | ⟨g2, hg2, e2, hB2⟩
    · rw [e2] at e; cases e
    · rw [e2] at e; injection e with q1; subst q1
      exact hg2
  have hw7 : OwnI τ1.length τ7 w0 (meetAll ll) := hw6.same fun g hg ⟨n, e⟩ => hs7 g fun n' e' => by
    have := hg0ge g n' e'
    have := hw0lt g n e
    omega
  have hq7 : σ <+: τ7 := pre_same hq6 hlen7 fun g hg => hs7 g fun n' e' => by
    have := hg0ge g n' e'
    have := hq3.length_le
    omega
  have k7 := l_heldIntS_ret τ7 g0 _ 1 hg7.rd (by rw [iota_length]) (by rw [iota_length]; omega) (by omega) (by omega)
  rw [iota_length] at k7
  refine by_ret k7 ?_
  simp only [go_sem, Nat.reduceEqDiff, ↓reduceIte, decide_eq_false (show ¬ (1 + ((meetAll ll).length : Int)) < 0 by omega), bne_self_eq_false]
  -- once more
  obtain ⟨y2, τ8, hR8, hp8, cs8, ho8⟩ := l_toIntSS_ret τ7 v ll (Rd2.pre h hq7) (by omega) hll4
  refine by_new hR8 hp8 ?_
  simp only [go_sem, Nat.reduceEqDiff, ↓reduceIte]
  obtain ⟨h0, τ9, hR9, hp9, hh0⟩ := i_MeetAll_ret τ8 y2 ll ho8.rd (by omega) hll4
  refine by_new hR9 hp9 ?_
  simp only [go_sem, Nat.reduceEqDiff, ↓reduceIte]
  have e4 := l_eqIntS_ret τ9 h0 w0 _ _ hh0.rd (hw7.pre (hp8.trans hp9)).rd (by omega)
  rw [decide_eq_true rfl] at e4
  refine by_ret e4 ?_
  simp only [go_sem, Nat.reduceEqDiff, ↓reduceIte]
  have k9 := l_heldIntS_ret τ9 g0 _ 1 (hg7.pre (hp8.trans hp9)).rd (by rw [iota_length]) (by rw [iota_length]; omega) (by omega) (by omega)
  rw [iota_length] at k9
  refine by_ret k9 ?_
  simp only [go_sem, Nat.reduceEqDiff, ↓reduceIte, decide_eq_false (show ¬ (1 + ((meetAll ll).length : Int)) < 0 by omega), bne_self_eq_false]
  exact ⟨_, rfl, (hq7.trans (hp8.trans hp9)).length_le, rfl⟩
theorem law_meet_sl (σ : St) (v : GV) (ll : List (List Int)) (h : Sl (Ek.slice (Ek.int .i64)) σ v ll) (hw : ll.length ≤ 9223372036854775807 ∧ ∀ l ∈ ll, l.length ≤ 9223372036854775807 ∧ ∀ x ∈ l, I64 x) : ∃ r τ, Ret Try.prog n_l_FnExactMeetAll [v] σ r τ ∧ r = .bool true :=
  law_meet σ v ll h.rd2 hw.1 fun l hl => (hw.2 l hl).1
end Go.Proofs.Ytopannfdcikgiaa.Sy
