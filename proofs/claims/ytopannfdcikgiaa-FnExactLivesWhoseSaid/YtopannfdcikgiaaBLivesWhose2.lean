/- Texts of this proof, one behind the other. -/
import Derived.Test.YtopannfdcikgiaaBLivesWhose1
import Derived.Sort.LotC
import Derived.Sort.AssemblyPlain
import Derived.Test.YtopannfdcikgiaaProg
import Derived.KernelRfl
/- Sorts: by insertion. -/
namespace Go.Proofs.Ytopannfdcikgiaa.Sy.O
open Go Go.RowKit Go.Proofs.Ytopannfdcikgiaa.Sy Go.Sort
set_option linter.unusedSimpArgs false
set_option linter.unusedVariables false
set_option maxRecDepth 4000
variable {α : Type} [Inhabited α] {lt : α → α → Bool} {σ0 σ : St} {rs : List Thg} {k : Nat} {v : GV} {d : Array α}
theorem insInner_size (lt : α → α → Bool) (a : Nat) : ∀ (j : Nat) (d : Array α), (insInner lt a j d).size = d.size
  | 0, _ => rfl
  | j + 1, d => by
    rw [insInner]
    split
    · rw [insInner_size lt a j, Go.Sort.swp_size]
    · rfl
theorem ins_ret (S : SrtO α lt) (H : Holds S.e σ0 σ rs k v d) {a b : Nat} (hab : a ≤ b) (hb : b ≤ d.size) (hs : d.size ≤ 1099511627776) : ∃ τ, Ret Try.prog S.q.insertionSort [v, gi a, gi b] σ (.tup []) τ ∧ Holds S.e σ0 τ rs k v (insertionSort lt d a b) := by
  have key : ∃ r τ, Ret Try.prog S.q.insertionSort [v, gi a, gi b] σ r τ ∧ r = .tup [] ∧ Holds S.e σ0 τ rs k v (insertionSort lt d a b) := by
    refine ret_mut S.h_insertionSort (Nat.le_of_ble_eq_true rfl) ?_
    simp +contextual (maxSteps := 600000) (disch := omega) only [go_sem, Nat.reduceEqDiff, ↓reduceIte, Int.reduceEq, Int.reduceNeg, wrap_add, G_insertionSort_o]
    refine vc_lopJ (fun n env τ => ∃ (i : Nat) (D : Array α), env 0 = v ∧ env 1 = gi a ∧ env 2 = gi b  ∧ env 6 = gi i ∧ b - i = n ∧ a < i ∧ D.size = d.size ∧ σ.length ≤ τ.length ∧ Holds S.e σ0 τ rs k v D ∧ insOuter lt a b i D = insertionSort lt d a b) (b - (a + 1)) ⟨a + 1, d, rfl, rfl, rfl, rfl, rfl, by omega, rfl, Nat.le_refl _, H, rfl⟩ ?_
    rintro J hJ n env τ ⟨i, D, e0, e1, e2, ei, hn, hai, hD, hle, hH, hE⟩
    rw [insOuter] at hE
    rcases Nat.lt_or_ge i b with hi | hi
    · rw [if_pos hi] at hE
      have c0 : decide ((i : Int) < b) = true := by simp; omega
      simp +contextual (maxSteps := 600000) (disch := omega) only [go_sem, Nat.reduceEqDiff, ↓reduceIte, Int.reduceEq, Int.reduceNeg, wrap_add, e0, e1, e2, ei, c0]
      refine vc_lopJ (fun n env τ => ∃ (j : Nat) (E : Array α), env 0 = v ∧ env 1 = gi a ∧ env 2 = gi b  ∧ env 6 = gi i ∧ env 7 = gi j ∧ j = n ∧ j ≤ i ∧ E.size = d.size ∧ σ.length ≤ τ.length ∧ Holds S.e σ0 τ rs k v E ∧ insInner lt a j E = insInner lt a i D) i ⟨i, D, by simp +contextual (maxSteps := 600000) (disch := omega) only [go_sem, Nat.reduceEqDiff, ↓reduceIte, Int.reduceEq, Int.reduceNeg, wrap_add, e0], by simp +contextual (maxSteps := 600000) (disch := omega) only [go_sem, Nat.reduceEqDiff, ↓reduceIte, Int.reduceEq, Int.reduceNeg, wrap_add, e1], by simp +contextual (maxSteps := 600000) (disch := omega) only [go_sem, Nat.reduceEqDiff, ↓reduceIte, Int.reduceEq, Int.reduceNeg, wrap_add, e2], by simp +contextual (maxSteps := 600000) (disch := omega) only [go_sem, Nat.reduceEqDiff, ↓reduceIte, Int.reduceEq, Int.reduceNeg, wrap_add, ei], rfl, rfl, Nat.le_refl _, hD, hle, hH, rfl⟩ ?_
      clear hH hle e0 e1 e2 ei
      rintro J2 hJ2 n2 env τ ⟨j, E, e0, e1, e2, ei, ej, hnj, hji, hE2, hle, hH, hI⟩
      have fin : ∀ env', env' 0 = v → env' 1 = gi a → env' 2 = gi b → env' 6 = gi ((i : Int) + 1) → insInner lt a i D = E → ∃ k', k' < n ∧ J k' env' τ := fun env' h0 h1 h2 h6 hEq => ⟨b - (i + 1), by omega, hJ _ _ _ ⟨i + 1, E, h0, h1, h2, h6, rfl, by omega, hE2, hle, hH, by rw [← hEq]; exact hE⟩⟩
      have cj : decide ((a : Int) < j) = decide (a < j) := by simp
      by_cases hc : a < j
      · obtain ⟨m, rfl⟩ : ∃ m, j = m + 1 := ⟨j - 1, by omega⟩
        rw [decide_eq_true hc] at cj
        have cj : decide ((a : Int) < (m : Int) + 1) = true := cj
        have n1 : natOf (some (.int .i64 ((m : Int) + 1))) = some (m + 1) := natOf_of (by simp)
        have m1 : (m : Int) + 1 - 1 = m := by omega
        obtain ⟨τ1, τ2, s1, s2, hH2, hl2⟩ := hH.sw (a := m + 1) (b := m) (by omega) (by omega)
        rw [insInner] at hI
        simp +contextual (maxSteps := 600000) (disch := omega) only [go_sem, Nat.reduceEqDiff, ↓reduceIte, Int.reduceEq, Int.reduceNeg, wrap_add, e0, e1, e2, ei, ej, cj, n1, m1, natOf_nat, hH.iad (j := m + 1) (by omega), hH.ld (j := m + 1) (by omega), hH.iad (j := m) (by omega), hH.ld (j := m) (by omega)]
        refine by_ret (S.call _ _ _) ?_
        cases hl : lt E[m + 1]! E[m]! with
        | true =>
          rw [if_pos (by simp [hl]; omega)] at hI
          simp +contextual (maxSteps := 600000) (disch := omega) only [go_sem, Nat.reduceEqDiff, ↓reduceIte, Int.reduceEq, Int.reduceNeg, wrap_add, e0, e1, e2, ei, ej, cj, n1, m1, natOf_nat, hl, hH.iad (j := m + 1) (by omega), hH.ld (j := m + 1) (by omega), hH.iad (j := m) (by omega), hH.ld (j := m) (by omega), s1, s2]
          refine ⟨m, by omega, hJ2 _ _ _ ⟨m, swp E (m + 1) m, ?_, ?_, ?_, ?_, ?_, rfl, by omega, by rw [Go.Sort.swp_size]; exact hE2, by omega, hH2, hI⟩⟩
          all_goals simp +contextual (maxSteps := 600000) (disch := omega) only [go_sem, Nat.reduceEqDiff, ↓reduceIte, Int.reduceEq, Int.reduceNeg, wrap_add, e0, e1, e2, ei, ej, m1]
        | false =>
          rw [if_neg (by simp [hl])] at hI
          simp +contextual (maxSteps := 600000) (disch := omega) only [go_sem, Nat.reduceEqDiff, ↓reduceIte, Int.reduceEq, Int.reduceNeg, wrap_add, e0, e1, e2, ei, ej, cj, hl, ]
          refine fin _ ?_ ?_ ?_ ?_ hI.symm
          all_goals simp +contextual (maxSteps := 600000) (disch := omega) only [go_sem, Nat.reduceEqDiff, ↓reduceIte, Int.reduceEq, Int.reduceNeg, wrap_add, e0, e1, e2, ei]
      · rw [decide_eq_false hc] at cj
        have hI : insInner lt a i D = E := by
          rw [← hI]
          cases j with
          | zero => rfl
          | succ j => rw [insInner, if_neg (by simp; intro h; omega)]
        simp +contextual (maxSteps := 600000) (disch := omega) only [go_sem, Nat.reduceEqDiff, ↓reduceIte, Int.reduceEq, Int.reduceNeg, wrap_add, e0, e1, e2, ei, ej, cj]
        refine fin _ ?_ ?_ ?_ ?_ hI
        all_goals simp +contextual (maxSteps := 600000) (disch := omega) only [go_sem, Nat.reduceEqDiff, ↓reduceIte, Int.reduceEq, Int.reduceNeg, wrap_add, e0, e1, e2, ei]
    · rw [if_neg (by omega)] at hE
      have c0 : decide ((i : Int) < b) = false := by simp; omega
      simp +contextual (maxSteps := 600000) (disch := omega) only [go_sem, Nat.reduceEqDiff, ↓reduceIte, Int.reduceEq, Int.reduceNeg, wrap_add, e0, e1, e2, ei, c0]
      exact ⟨_, rfl, hle, rfl, by rw [← hE]; exact hH⟩
  obtain ⟨r, τ, R, rfl, h⟩ := key
  exact ⟨τ, R, h⟩
end Go.Proofs.Ytopannfdcikgiaa.Sy.O

/- Sorts: by a heap; turned round. -/
namespace Go.Proofs.Ytopannfdcikgiaa.Sy.O
open Go Go.RowKit Go.Proofs.Ytopannfdcikgiaa.Sy Go.Sort
set_option linter.unusedSimpArgs false
set_option linter.unusedVariables false
set_option maxRecDepth 4000
variable {α : Type} [Inhabited α] {lt : α → α → Bool} {σ0 σ : St} {rs : List Thg} {k : Nat} {v : GV} {d : Array α}
theorem siftDown_size (lt : α → α → Bool) (hi F : Nat) : ∀ (n root : Nat) (d : Array α), hi - root ≤ n → (siftDown lt hi F root d).size = d.size
  | 0, root, d, h => by rw [siftDown, dif_pos (by omega)]
  | n + 1, root, d, h => by
    rw [siftDown]
    split
    · rfl
    · split
      · split
        · rfl
        · split
          · rw [siftDown_size lt hi F n _ _ (by omega), Go.Sort.swp_size]
          · rfl
      · split
        · rfl
        · rw [siftDown_size lt hi F n _ _ (by omega), Go.Sort.swp_size]
theorem sift_ret (S : SrtO α lt) (H : Holds S.e σ0 σ rs k v d) {lo hi F : Nat} (hb : F + hi ≤ d.size) (hlo : lo ≤ d.size) (hs : d.size ≤ 1099511627776) : ∃ τ, Ret Try.prog S.q.siftDown [v, gi lo, gi hi, gi F] σ (.tup []) τ ∧ Holds S.e σ0 τ rs k v (siftDown lt hi F lo d) := by
  have key : ∃ r τ, Ret Try.prog S.q.siftDown [v, gi lo, gi hi, gi F] σ r τ ∧ r = .tup [] ∧ Holds S.e σ0 τ rs k v (siftDown lt hi F lo d) := by
    refine ret_mut S.h_siftDown (Nat.le_of_ble_eq_true rfl) ?_
    simp +contextual (maxSteps := 600000) (disch := omega) only [go_sem, Nat.reduceEqDiff, ↓reduceIte, Int.reduceEq, Int.reduceNeg, wrap_add, G_siftDown_o]
    refine vc_lopJ (fun n env τ => ∃ (r : Nat) (D : Array α), env 0 = v ∧ env 1 = gi lo ∧ env 2 = gi hi ∧ env 3 = gi F  ∧ env 8 = gi r ∧ hi - r = n ∧ r ≤ d.size ∧ D.size = d.size ∧ σ.length ≤ τ.length ∧ Holds S.e σ0 τ rs k v D ∧ siftDown lt hi F r D = siftDown lt hi F lo d) (hi - lo) ⟨lo, d, rfl, rfl, rfl, rfl, rfl, rfl, hlo, rfl, Nat.le_refl _, H, rfl⟩ ?_
    rintro J hJ n env τ ⟨r, D, e0, e1, e2, e3, er, hn, hr, hD, hle, hH, hE⟩
    rw [siftDown] at hE
    have w2 : IntKind.i64.wrap (2 * (r : Int)) = 2 * (r : Int) := wrap_add (by omega) (by omega)
    by_cases h1 : 2 * r + 1 ≥ hi
    · rw [dif_pos h1] at hE
      have c1 : decide ((hi : Int) ≤ 2 * (r : Int) + 1) = true := by simp; omega
      simp +contextual (maxSteps := 600000) (disch := omega) only [go_sem, Nat.reduceEqDiff, ↓reduceIte, Int.reduceEq, Int.reduceNeg, wrap_add, e0, e1, e2, e3, er, w2, c1]
      exact ⟨_, rfl, hle, rfl, by rw [← hE]; exact hH⟩
    · rw [dif_neg h1] at hE
      have c1 : decide ((hi : Int) ≤ 2 * (r : Int) + 1) = false := by simp; omega
      have nr : natOf (some (.int .i64 ((F : Int) + r))) = some (F + r) := natOf_of (by simp)
      have ir := hH.iad (j := F + r) (by omega)
      have lr := hH.ld (j := F + r) (by omega)
      by_cases hA : 2 * r + 2 < hi
      · have cA : decide (2 * (r : Int) + 1 + 1 < hi) = true := by simp; omega
        have nc : natOf (some (.int .i64 ((F : Int) + (2 * (r : Int) + 1)))) = some (F + (2 * r + 1)) := natOf_of (by simp)
        have nc2 : natOf (some (.int .i64 ((F : Int) + (2 * (r : Int) + 1) + 1))) = some (F + (2 * r + 1) + 1) := natOf_of (by simp)
        have ic := hH.iad (j := F + (2 * r + 1)) (by omega)
        have lc := hH.ld (j := F + (2 * r + 1)) (by omega)
        have ic2 := hH.iad (j := F + (2 * r + 1) + 1) (by omega)
        have lc2 := hH.ld (j := F + (2 * r + 1) + 1) (by omega)
        simp +contextual (maxSteps := 600000) (disch := omega) only [go_sem, Nat.reduceEqDiff, ↓reduceIte, Int.reduceEq, Int.reduceNeg, wrap_add, e0, e1, e2, e3, er, w2, c1, cA, nc, nc2, ic, lc, ic2, lc2]
        refine by_ret (S.call _ _ _) ?_
        cases hl1 : lt D[F + (2 * r + 1)]! D[F + (2 * r + 1) + 1]! with
        | true =>
          clear nc ic lc
          rw [if_pos (by simp [hl1]; omega)] at hE
          rw [dif_pos hA] at hE
          obtain ⟨c, hc⟩ : ∃ c, c = 2 * r + 2 := ⟨_, rfl⟩
          rw [← hc] at hE
          have ncI : 2 * (r : Int) + 1 + 1 = c := by omega
          have nc : natOf (some (.int .i64 ((F : Int) + c))) = some (F + c) := natOf_of (by simp)
          have ic := hH.iad (j := F + c) (by omega)
          have lc := hH.ld (j := F + c) (by omega)
          simp +contextual (maxSteps := 600000) (disch := omega) only [go_sem, Nat.reduceEqDiff, ↓reduceIte, Int.reduceEq, Int.reduceNeg, wrap_add, e0, e1, e2, e3, er, w2, cA, nr, nc, ncI, hl1, ir, lr, ic, lc]
          obtain ⟨τ1, τ2, s1, s2, hH2, hl2⟩ := hH.sw (a := F + r) (b := F + c) (by omega) (by omega)
          refine by_ret (S.call _ _ _) ?_
          cases hl : lt D[F + r]! D[F + c]! with
          | true =>
            rw [if_neg (by simp [hl])] at hE
            simp +contextual (maxSteps := 600000) (disch := omega) only [go_sem, Nat.reduceEqDiff, ↓reduceIte, Int.reduceEq, Int.reduceNeg, wrap_add, e0, e1, e2, e3, er, w2, c1, cA, nr, nc, ncI, hl, ir, lr, ic, lc, s1, s2]
            refine ⟨hi - c, by omega, hJ _ _ _ ⟨c, swp D (F + r) (F + c), ?_, ?_, ?_, ?_, ?_, rfl, by omega, by rw [Go.Sort.swp_size]; exact hD, by omega, hH2, hE⟩⟩
            all_goals simp +contextual (maxSteps := 600000) (disch := omega) only [go_sem, Nat.reduceEqDiff, ↓reduceIte, Int.reduceEq, Int.reduceNeg, wrap_add, e0, e1, e2, e3, er, ncI]
          | false =>
            rw [if_pos (by simp [hl])] at hE
            simp +contextual (maxSteps := 600000) (disch := omega) only [go_sem, Nat.reduceEqDiff, ↓reduceIte, Int.reduceEq, Int.reduceNeg, wrap_add, e0, e1, e2, e3, er, hl]
            exact ⟨_, rfl, hle, rfl, by rw [← hE]; exact hH⟩
        | false =>
          rw [if_neg (by simp [hl1])] at hE
          obtain ⟨c, hc⟩ : ∃ c, c = 2 * r + 1 := ⟨_, rfl⟩
          rw [← hc] at hE ic lc
          have ncI : 2 * (r : Int) + 1 = c := by omega
          rw [← hc, ncI] at nc
          simp +contextual (maxSteps := 600000) (disch := omega) only [go_sem, Nat.reduceEqDiff, ↓reduceIte, Int.reduceEq, Int.reduceNeg, wrap_add, e0, e1, e2, e3, er, w2, cA, nr, nc, ncI, hl1, ir, lr, ic, lc]
          obtain ⟨τ1, τ2, s1, s2, hH2, hl2⟩ := hH.sw (a := F + r) (b := F + c) (by omega) (by omega)
          refine by_ret (S.call _ _ _) ?_
          cases hl : lt D[F + r]! D[F + c]! with
          | true =>
            rw [if_neg (by simp [hl])] at hE
            simp +contextual (maxSteps := 600000) (disch := omega) only [go_sem, Nat.reduceEqDiff, ↓reduceIte, Int.reduceEq, Int.reduceNeg, wrap_add, e0, e1, e2, e3, er, w2, c1, cA, nr, nc, ncI, hl, ir, lr, ic, lc, s1, s2]
            refine ⟨hi - c, by omega, hJ _ _ _ ⟨c, swp D (F + r) (F + c), ?_, ?_, ?_, ?_, ?_, rfl, by omega, by rw [Go.Sort.swp_size]; exact hD, by omega, hH2, hE⟩⟩
            all_goals simp +contextual (maxSteps := 600000) (disch := omega) only [go_sem, Nat.reduceEqDiff, ↓reduceIte, Int.reduceEq, Int.reduceNeg, wrap_add, e0, e1, e2, e3, er, ncI]
          | false =>
            rw [if_pos (by simp [hl])] at hE
            simp +contextual (maxSteps := 600000) (disch := omega) only [go_sem, Nat.reduceEqDiff, ↓reduceIte, Int.reduceEq, Int.reduceNeg, wrap_add, e0, e1, e2, e3, er, hl]
            exact ⟨_, rfl, hle, rfl, by rw [← hE]; exact hH⟩
      · have cA : decide (2 * (r : Int) + 1 + 1 < hi) = false := by simp; omega
        rw [if_neg (by simp; intro h; omega)] at hE
        obtain ⟨c, hc⟩ : ∃ c, c = 2 * r + 1 := ⟨_, rfl⟩
        rw [← hc] at hE
        have ncI : 2 * (r : Int) + 1 = c := by omega
        have nc : natOf (some (.int .i64 ((F : Int) + c))) = some (F + c) := natOf_of (by simp)
        have ic := hH.iad (j := F + c) (by omega)
        have lc := hH.ld (j := F + c) (by omega)
        rw [ncI] at c1 cA
        simp +contextual (maxSteps := 600000) (disch := omega) only [go_sem, Nat.reduceEqDiff, ↓reduceIte, Int.reduceEq, Int.reduceNeg, wrap_add, e0, e1, e2, e3, er, w2, c1, cA, nr, nc, ncI, ir, lr, ic, lc]
        obtain ⟨τ1, τ2, s1, s2, hH2, hl2⟩ := hH.sw (a := F + r) (b := F + c) (by omega) (by omega)
        refine by_ret (S.call _ _ _) ?_
        cases hl : lt D[F + r]! D[F + c]! with
        | true =>
          rw [if_neg (by simp [hl])] at hE
          simp +contextual (maxSteps := 600000) (disch := omega) only [go_sem, Nat.reduceEqDiff, ↓reduceIte, Int.reduceEq, Int.reduceNeg, wrap_add, e0, e1, e2, e3, er, w2, c1, cA, nr, nc, ncI, hl, ir, lr, ic, lc, s1, s2]
          refine ⟨hi - c, by omega, hJ _ _ _ ⟨c, swp D (F + r) (F + c), ?_, ?_, ?_, ?_, ?_, rfl, by omega, by rw [Go.Sort.swp_size]; exact hD, by omega, hH2, hE⟩⟩
          all_goals simp +contextual (maxSteps := 600000) (disch := omega) only [go_sem, Nat.reduceEqDiff, ↓reduceIte, Int.reduceEq, Int.reduceNeg, wrap_add, e0, e1, e2, e3, er, ncI]
        | false =>
          rw [if_pos (by simp [hl])] at hE
          simp +contextual (maxSteps := 600000) (disch := omega) only [go_sem, Nat.reduceEqDiff, ↓reduceIte, Int.reduceEq, Int.reduceNeg, wrap_add, e0, e1, e2, e3, er, hl]
          exact ⟨_, rfl, hle, rfl, by rw [← hE]; exact hH⟩
  obtain ⟨r, τ, R, rfl, h⟩ := key
  exact ⟨τ, R, h⟩
theorem heapBuild_size (lt : α → α → Bool) (hi F : Nat) : ∀ (m : Nat) (d : Array α), (heapBuild lt hi F m d).size = d.size
  | 0, _ => rfl
  | m + 1, d => by rw [heapBuild, heapBuild_size lt hi F m, siftDown_size lt hi F _ _ _ (Nat.le_refl _)]
theorem heap_ret (S : SrtO α lt) (H : Holds S.e σ0 σ rs k v d) {a b : Nat} (hab : a ≤ b) (hb : b ≤ d.size) (hs : d.size ≤ 1099511627776) : ∃ τ, Ret Try.prog S.q.heapSort [v, gi a, gi b] σ (.tup []) τ ∧ Holds S.e σ0 τ rs k v (heapSort lt d a b) := by
  have key : ∃ r τ, Ret Try.prog S.q.heapSort [v, gi a, gi b] σ r τ ∧ r = .tup [] ∧ Holds S.e σ0 τ rs k v (heapSort lt d a b) := by
    refine ret_mut S.h_heapSort (Nat.le_of_ble_eq_true rfl) ?_
    obtain ⟨h, hh⟩ : ∃ h, h = b - a := ⟨_, rfl⟩
    have hI : (b : Int) - a = h := by omega
    have hq : ((h : Int) - 1).tdiv 2 = (((h - 1) / 2 + 1 : Nat) : Int) - 1 := by
      rcases Nat.eq_zero_or_pos h with rfl | hp
      · rfl
      · have : (h : Int) - 1 = ((h - 1 : Nat) : Int) := by omega
        rw [this]
        have h2 : ((h - 1 : Nat) : Int).tdiv 2 = (((h - 1) / 2 : Nat) : Int) := rfl
        rw [h2]; omega
    obtain ⟨M, hM⟩ : ∃ M, M = (h - 1) / 2 + 1 := ⟨_, rfl⟩
    rw [← hM] at hq
    have hE : heapSort lt d a b = heapPop lt a h (heapBuild lt h a M d) := by rw [heapSort, hM, hh]
    rw [hE]
    simp +contextual (maxSteps := 600000) (disch := omega) only [go_sem, Nat.reduceEqDiff, ↓reduceIte, Int.reduceEq, Int.reduceNeg, wrap_add, G_heapSort_o, hI, hq]
    refine vc_lopJ (fun n env τ => ∃ (m : Nat) (D : Array α), env 0 = v ∧ env 1 = gi a ∧ env 2 = gi b  ∧ env 6 = gi a ∧ env 7 = gi 0 ∧ env 8 = gi h ∧ env 9 = gi ((m : Int) - 1) ∧ m = n ∧ m ≤ M ∧ D.size = d.size ∧ σ.length ≤ τ.length ∧ Holds S.e σ0 τ rs k v D ∧ heapBuild lt h a m D = heapBuild lt h a M d) M ⟨M, d, rfl, rfl, rfl, rfl, rfl, rfl, rfl, rfl, Nat.le_refl _, rfl, Nat.le_refl _, H, rfl⟩ ?_
    rintro J hJ n env τ ⟨m, D, e0, e1, e2, e6, e7, e8, e9, hn, hm, hD, hle, hH, hE⟩
    cases m with
    | succ j =>
      have e9 : env 9 = gi (j : Int) := by rw [e9]; congr 1; omega
      have c0 : decide ((0 : Int) ≤ j) = true := by simp
      rw [heapBuild] at hE
      simp +contextual (maxSteps := 600000) (disch := omega) only [go_sem, Nat.reduceEqDiff, ↓reduceIte, Int.reduceEq, Int.reduceNeg, wrap_add, e0, e1, e2, e6, e7, e8, e9, c0]
      obtain ⟨τ1, R, hH1⟩ := sift_ret S hH (lo := j) (hi := h) (F := a) (by omega) (by omega) (by omega)
      have hl1 := R.2.1
      refine by_mut R ?_
      simp +contextual (maxSteps := 600000) (disch := omega) only [go_sem, Nat.reduceEqDiff, ↓reduceIte, Int.reduceEq, Int.reduceNeg, wrap_add, e0, e1, e2, e6, e7, e8, e9]
      refine ⟨j, by omega, hJ _ _ _ ⟨j, _, ?_, ?_, ?_, ?_, ?_, ?_, ?_, rfl, by omega, ?_, by omega, hH1, hE⟩⟩
      all_goals first | (simp +contextual (maxSteps := 600000) (disch := omega) only [go_sem, Nat.reduceEqDiff, ↓reduceIte, Int.reduceEq, Int.reduceNeg, wrap_add, e0, e1, e2, e6, e7, e8, e9]; done) | (rw [siftDown_size lt h a _ _ _ (Nat.le_refl _)]; exact hD)
    | zero =>
      have e9 : env 9 = gi (-1) := e9
      rw [heapBuild] at hE
      simp +contextual (maxSteps := 600000) (disch := omega) only [go_sem, Nat.reduceEqDiff, ↓reduceIte, Int.reduceEq, Int.reduceNeg, wrap_add, e0, e1, e2, e6, e7, e8, e9]
      have c0 : decide ((0 : Int) ≤ -1) = false := rfl
      simp +contextual (maxSteps := 600000) (disch := omega) only [go_sem, Nat.reduceEqDiff, ↓reduceIte, Int.reduceEq, Int.reduceNeg, wrap_add, e0, e1, e2, e6, e7, e8, e9, c0]
      refine vc_lopJ (fun n env τ => ∃ (m : Nat) (E : Array α), env 0 = v ∧ env 1 = gi a ∧ env 2 = gi b  ∧ env 6 = gi a ∧ env 7 = gi 0 ∧ env 8 = gi h ∧ env 10 = gi ((m : Int) - 1) ∧ m = n ∧ m ≤ h ∧ E.size = d.size ∧ σ.length ≤ τ.length ∧ Holds S.e σ0 τ rs k v E ∧ heapPop lt a m E = heapPop lt a h (heapBuild lt h a M d)) h ⟨h, D, by simp +contextual (maxSteps := 600000) (disch := omega) only [go_sem, Nat.reduceEqDiff, ↓reduceIte, Int.reduceEq, Int.reduceNeg, wrap_add, e0], by simp +contextual (maxSteps := 600000) (disch := omega) only [go_sem, Nat.reduceEqDiff, ↓reduceIte, Int.reduceEq, Int.reduceNeg, wrap_add, e1], by simp +contextual (maxSteps := 600000) (disch := omega) only [go_sem, Nat.reduceEqDiff, ↓reduceIte, Int.reduceEq, Int.reduceNeg, wrap_add, e2], by simp +contextual (maxSteps := 600000) (disch := omega) only [go_sem, Nat.reduceEqDiff, ↓reduceIte, Int.reduceEq, Int.reduceNeg, wrap_add, e6], by simp +contextual (maxSteps := 600000) (disch := omega) only [go_sem, Nat.reduceEqDiff, ↓reduceIte, Int.reduceEq, Int.reduceNeg, wrap_add, e7], by simp +contextual (maxSteps := 600000) (disch := omega) only [go_sem, Nat.reduceEqDiff, ↓reduceIte, Int.reduceEq, Int.reduceNeg, wrap_add, e8], rfl, rfl, Nat.le_refl _, hD, hle, hH, by rw [hE]⟩ ?_
      clear hH hle e0 e1 e2 e6 e7 e8 e9
      rintro J2 hJ2 n2 env τ ⟨m, E, e0, e1, e2, e6, e7, e8, e9, hn2, hm, hE2, hle, hH, hP⟩
      cases m with
      | succ j =>
        have e9 : env 10 = gi (j : Int) := by rw [e9]; congr 1; omega
        have c0 : decide ((0 : Int) ≤ j) = true := by simp
        rw [heapPop] at hP
        have nr : natOf (some (.int .i64 ((a : Int) + j))) = some (a + j) := natOf_of (by simp)
        obtain ⟨τ1, τ2, s1, s2, hH2, hl2⟩ := hH.sw (a := a) (b := a + j) (by omega) (by omega)
        obtain ⟨τ3, R, hH3⟩ := sift_ret S hH2 (lo := 0) (hi := j) (F := a) (by rw [Go.Sort.swp_size]; omega) (by omega) (by rw [Go.Sort.swp_size]; omega)
        have hl3 := R.2.1
        simp +contextual (maxSteps := 600000) (disch := omega) only [go_sem, Nat.reduceEqDiff, ↓reduceIte, Int.reduceEq, Int.reduceNeg, wrap_add, e0, e1, e2, e6, e7, e8, e9, c0, nr, natOf_nat, hH.iad (j := a) (by omega), hH.ld (j := a) (by omega), hH.iad (j := a + j) (by omega), hH.ld (j := a + j) (by omega), s1, s2]
        refine by_mut R ?_
        simp +contextual (maxSteps := 600000) (disch := omega) only [go_sem, Nat.reduceEqDiff, ↓reduceIte, Int.reduceEq, Int.reduceNeg, wrap_add, e0, e1, e2, e6, e7, e8, e9]
        refine ⟨j, by omega, hJ2 _ _ _ ⟨j, _, ?_, ?_, ?_, ?_, ?_, ?_, ?_, rfl, by omega, ?_, by omega, hH3, hP⟩⟩
        all_goals first | (simp +contextual (maxSteps := 600000) (disch := omega) only [go_sem, Nat.reduceEqDiff, ↓reduceIte, Int.reduceEq, Int.reduceNeg, wrap_add, e0, e1, e2, e6, e7, e8, e9]; done) | (rw [siftDown_size lt _ a _ _ _ (Nat.le_refl _), Go.Sort.swp_size]; exact hE2)
      | zero =>
        have e9 : env 10 = gi (-1) := e9
        rw [heapPop] at hP
        simp +contextual (maxSteps := 600000) (disch := omega) only [go_sem, Nat.reduceEqDiff, ↓reduceIte, Int.reduceEq, Int.reduceNeg, wrap_add, e0, e1, e2, e6, e7, e8, e9, c0]
        exact ⟨_, rfl, hle, rfl, by rw [← hP]; exact hH⟩
  obtain ⟨r, τ, R, rfl, h⟩ := key
  exact ⟨τ, R, h⟩
theorem rev_ret (S : SrtO α lt) (H : Holds S.e σ0 σ rs k v d) {a b : Nat} (hab : a < b) (hb : b ≤ d.size) (hs : d.size ≤ 1099511627776) : ∃ τ, Ret Try.prog S.q.reverseRange [v, gi a, gi b] σ (.tup []) τ ∧ Holds S.e σ0 τ rs k v (reverseRange d a b) := by
  have key : ∃ r τ, Ret Try.prog S.q.reverseRange [v, gi a, gi b] σ r τ ∧ r = .tup [] ∧ Holds S.e σ0 τ rs k v (reverseRange d a b) := by
    refine ret_mut S.h_reverseRange (Nat.le_of_ble_eq_true rfl) ?_
    have hbI : (b : Int) - 1 = ((b - 1 : Nat) : Int) := by omega
    obtain ⟨h, hh⟩ : ∃ h, h = b - 1 := ⟨_, rfl⟩
    have hE : reverseRange d a b = reverseLoop a h d := by rw [reverseRange, hh]
    rw [hE]
    rw [← hh] at hbI
    simp +contextual (maxSteps := 600000) (disch := omega) only [go_sem, Nat.reduceEqDiff, ↓reduceIte, Int.reduceEq, Int.reduceNeg, wrap_add, G_reverseRange_o, hbI]
    refine vc_lopJ (fun n env τ => ∃ (i j : Nat) (D : Array α), env 0 = v ∧ env 6 = gi i ∧ env 7 = gi j ∧ j - i = n ∧ a ≤ i ∧ i ≤ d.size ∧ j ≤ h ∧ D.size = d.size ∧ σ.length ≤ τ.length ∧ Holds S.e σ0 τ rs k v D ∧ reverseLoop i j D = reverseLoop a h d) (h - a) ⟨a, h, d, rfl, rfl, rfl, rfl, Nat.le_refl _, by omega, Nat.le_refl _, rfl, Nat.le_refl _, H, rfl⟩ ?_
    rintro J hJ n env τ ⟨i, j, D, e0, e6, e7, hn, hi, hi2, hj, hD, hle, hH, hE⟩
    rw [reverseLoop] at hE
    rcases Nat.lt_or_ge i j with hlt | hge
    · rw [if_pos hlt] at hE
      have c0 : decide ((i : Int) < j) = true := by simp; omega
      obtain ⟨τ1, τ2, s1, s2, hH2, hl2⟩ := hH.sw (a := i) (b := j) (by omega) (by omega)
      have j1 : (j : Int) - 1 = ((j - 1 : Nat) : Int) := by omega
      simp +contextual (maxSteps := 600000) (disch := omega) only [go_sem, Nat.reduceEqDiff, ↓reduceIte, Int.reduceEq, Int.reduceNeg, wrap_add, e0, e6, e7, c0, natOf_nat, hH.iad (j := i) (by omega), hH.ld (j := i) (by omega), hH.iad (j := j) (by omega), hH.ld (j := j) (by omega), s1, s2]
      refine ⟨(j - 1) - (i + 1), by omega, hJ _ _ _ ⟨i + 1, j - 1, swp D i j, ?_, ?_, ?_, rfl, by omega, by omega, by omega, by rw [Go.Sort.swp_size]; exact hD, by omega, hH2, hE⟩⟩
      all_goals simp +contextual (maxSteps := 600000) (disch := omega) only [go_sem, Nat.reduceEqDiff, ↓reduceIte, Int.reduceEq, Int.reduceNeg, wrap_add, e0, e6, e7, j1]
    · rw [if_neg (by omega)] at hE
      have c0 : decide ((i : Int) < j) = false := by simp; omega
      simp +contextual (maxSteps := 600000) (disch := omega) only [go_sem, Nat.reduceEqDiff, ↓reduceIte, Int.reduceEq, Int.reduceNeg, wrap_add, e0, e6, e7, c0]
      exact ⟨_, rfl, hle, rfl, by rw [← hE]; exact hH⟩
  obtain ⟨r, τ, R, rfl, h⟩ := key
  exact ⟨τ, R, h⟩
end Go.Proofs.Ytopannfdcikgiaa.Sy.O

/- Sorts: parts. -/
namespace Go.Proofs.Ytopannfdcikgiaa.Sy.O
open Go Go.RowKit Go.Proofs.Ytopannfdcikgiaa.Sy Go.Sort
set_option linter.unusedSimpArgs false
set_option linter.unusedVariables false
set_option maxRecDepth 4000
variable {α : Type} [Inhabited α] {lt : α → α → Bool} {σ0 σ : St} {rs : List Thg} {k : Nat} {v : GV} {d : Array α}
theorem pe_ret (S : SrtO α lt) (H : Holds S.e σ0 σ rs k v d) {a b p : Nat} (hab : a < b) (hp : p < b) (hb : b ≤ d.size) (hs : d.size ≤ 1099511627776) : ∃ τ, Ret Try.prog S.q.partitionEqual [v, gi a, gi b, gi p] σ (gi (partitionEqual lt d a b p).1) τ ∧ Holds S.e σ0 τ rs k v (partitionEqual lt d a b p).2 := by
  have key : ∃ r τ, Ret Try.prog S.q.partitionEqual [v, gi a, gi b, gi p] σ r τ ∧ r = gi (partitionEqual lt d a b p).1 ∧ Holds S.e σ0 τ rs k v (partitionEqual lt d a b p).2 := by
    refine ret_mut S.h_partitionEqual (Nat.le_of_ble_eq_true rfl) ?_
    obtain ⟨τ1, τ2, s1, s2, hH, hl2⟩ := H.sw (a := a) (b := p) (by omega) (by omega)
    obtain ⟨h, hh⟩ : ∃ h, h = b - 1 := ⟨_, rfl⟩
    have hbI : (b : Int) - 1 = h := by omega
    have hsz := Go.Sort.swp_size d a p
    rw [partitionEqual, ← hh]
    obtain ⟨D0, hD0⟩ : ∃ D0, D0 = swp d a p := ⟨_, rfl⟩
    rw [← hD0] at hH hsz
    simp +contextual (maxSteps := 600000) (disch := omega) only [go_sem, Nat.reduceEqDiff, ↓reduceIte, Int.reduceEq, Int.reduceNeg, wrap_add, G_partitionEqual_o, hbI, natOf_nat, H.iad (j := a) (by omega), H.ld (j := a) (by omega), H.iad (j := p) (by omega), H.ld (j := p) (by omega), s1, s2]
    rw [← hD0]
    refine vc_lopJ (fun n env τ => ∃ (i j : Nat) (D : Array α), env 0 = v ∧ env 1 = gi a  ∧ env 9 = gi i ∧ env 10 = gi j ∧ j + 1 - i = n ∧ 1 ≤ i ∧ i ≤ j + 1 ∧ j < b ∧ D.size = d.size ∧ σ.length ≤ τ.length ∧ Holds S.e σ0 τ rs k v D ∧ partEqLoop lt a i j D = partEqLoop lt a (a + 1) h D0) (h + 1 - (a + 1)) ⟨a + 1, h, D0, rfl, rfl, rfl, rfl, rfl, by omega, by omega, by omega, hsz, by omega, hH, rfl⟩ ?_
    clear hH
    rintro J hJ n env τ ⟨i, j, D, e0, e1, e9, e10, hn, hi, hij, hj, hD, hle, hH, hE⟩
    rw [partEqLoop_eq] at hE
    have ia := hH.iad (j := a) (by omega)
    have la := hH.ld (j := a) (by omega)
    simp +contextual (maxSteps := 600000) (disch := omega) only [go_sem, Nat.reduceEqDiff, ↓reduceIte, Int.reduceEq, Int.reduceNeg, wrap_add, List.append_nil]
    refine vc_lopX (fun n env τ' => ∃ (x : Nat), env 0 = v ∧ env 1 = gi a  ∧ env 9 = gi x ∧ env 10 = gi j ∧ j + 1 - x = n ∧ i ≤ x ∧ x ≤ j + 1 ∧ τ = τ' ∧ scanUp (fun x => !lt D[a]! x) D j x = scanUp (fun x => !lt D[a]! x) D j i) (j + 1 - i) 2 (fun env τ' => env 0 = v ∧ env 1 = gi a  ∧ env 9 = gi (scanUp (fun x => !lt D[a]! x) D j i : Nat) ∧ env 10 = gi j ∧ τ = τ') ⟨i, e0, e1, e9, e10, rfl, Nat.le_refl _, hij, rfl, rfl⟩ ?_ ?_
    · clear e0 e1 e9 e10
      rintro J2 Y2 hJ2 hY2 n2 env τ' ⟨x, e0, e1, e9, e10, hn2, hx1, hx2, rfl, hU⟩
      rw [scanUp] at hU
      rcases Nat.lt_or_ge j x with hx | hx
      · rw [if_neg (by simp; intro h; omega)] at hU
        have c0 : decide ((x : Int) ≤ j) = false := by simp; omega
        simp +contextual (maxSteps := 600000) (disch := omega) only [go_sem, Nat.reduceEqDiff, ↓reduceIte, Int.reduceEq, Int.reduceNeg, wrap_add, e0, e1, e9, e10, c0]
        refine hY2 _ _ ⟨?_, ?_, ?_, ?_, rfl⟩
        all_goals simp +contextual (maxSteps := 600000) (disch := omega) only [go_sem, Nat.reduceEqDiff, ↓reduceIte, Int.reduceEq, Int.reduceNeg, wrap_add, e0, e1, e9, e10, hU]
      · have c0 : decide ((x : Int) ≤ j) = true := by simp; omega
        simp +contextual (maxSteps := 600000) (disch := omega) only [go_sem, Nat.reduceEqDiff, ↓reduceIte, Int.reduceEq, Int.reduceNeg, wrap_add, e0, e1, e9, e10, c0, natOf_nat, ia, la, hH.iad (j := x) (by omega), hH.ld (j := x) (by omega)]
        refine by_ret (S.call _ _ _) ?_
        cases hl : lt D[a]! D[x]! with
        | true =>
          rw [if_neg (by simp [hl])] at hU
          simp +contextual (maxSteps := 600000) (disch := omega) only [go_sem, Nat.reduceEqDiff, ↓reduceIte, Int.reduceEq, Int.reduceNeg, wrap_add, e0, e1, e9, e10, c0, hl]
          refine hY2 _ _ ⟨?_, ?_, ?_, ?_, rfl⟩
          all_goals simp +contextual (maxSteps := 600000) (disch := omega) only [go_sem, Nat.reduceEqDiff, ↓reduceIte, Int.reduceEq, Int.reduceNeg, wrap_add, e0, e1, e9, e10, hU]
        | false =>
          rw [if_pos (by simp [hl]; omega)] at hU
          simp +contextual (maxSteps := 600000) (disch := omega) only [go_sem, Nat.reduceEqDiff, ↓reduceIte, Int.reduceEq, Int.reduceNeg, wrap_add, e0, e1, e9, e10, c0, hl]
          refine ⟨j + 1 - (x + 1), by omega, hJ2 _ _ _ ⟨x + 1, ?_, ?_, ?_, ?_, rfl, by omega, by omega, rfl, hU⟩⟩
          all_goals simp +contextual (maxSteps := 600000) (disch := omega) only [go_sem, Nat.reduceEqDiff, ↓reduceIte, Int.reduceEq, Int.reduceNeg, wrap_add, e0, e1, e9, e10]
    · clear e0 e1 e9 e10
      rintro env τ' ⟨e0, e1, e9, e10, rfl⟩
      obtain ⟨u1, u2, -, u4⟩ := scanUp_spec (fun x => !lt D[a]! x) D j _ i rfl
      have u2 := u2 hij
      obtain ⟨x, hx⟩ : ∃ x, x = scanUp (fun x => !lt D[a]! x) D j i := ⟨_, rfl⟩
      rw [← hx] at hE e9 u1 u2 u4
      simp +contextual (maxSteps := 600000) (disch := omega) only [go_sem, Nat.reduceEqDiff, ↓reduceIte, Int.reduceEq, Int.reduceNeg, wrap_add, List.append_nil]
      refine vc_lopX (fun n env τ' => ∃ (y : Nat), env 0 = v ∧ env 1 = gi a  ∧ env 9 = gi x ∧ env 10 = gi y ∧ y + 1 = n ∧ y ≤ j ∧ x ≤ y + 1 ∧ τ = τ' ∧ scanDown (fun x => lt D[a]! x) D x y = scanDown (fun x => lt D[a]! x) D x j) (j + 1) 4 (fun env τ' => env 0 = v ∧ env 1 = gi a  ∧ env 9 = gi x ∧ env 10 = gi (scanDown (fun x => lt D[a]! x) D x j : Nat) ∧ τ = τ' ∧ x ≤ scanDown (fun x => lt D[a]! x) D x j + 1) ⟨j, e0, e1, e9, e10, rfl, Nat.le_refl _, u2, rfl, rfl⟩ ?_ ?_
      · clear e0 e1 e9 e10
        rintro J2 Y2 hJ2 hY2 n2 env τ' ⟨y, e0, e1, e9, e10, hn2, hy1, hy2, rfl, hU⟩
        rcases Nat.lt_or_ge y x with hlt | hge
        · have hU : scanDown (fun x => lt D[a]! x) D x j = y := by
            rw [← hU]
            cases y with
            | zero => rfl
            | succ y => rw [scanDown, if_neg (by simp; intro h; omega)]
          have c0 : decide ((x : Int) ≤ y) = false := by simp; omega
          simp +contextual (maxSteps := 600000) (disch := omega) only [go_sem, Nat.reduceEqDiff, ↓reduceIte, Int.reduceEq, Int.reduceNeg, wrap_add, e0, e1, e9, e10, c0]
          refine hY2 _ _ ⟨?_, ?_, ?_, ?_, rfl, by omega⟩
          all_goals simp +contextual (maxSteps := 600000) (disch := omega) only [go_sem, Nat.reduceEqDiff, ↓reduceIte, Int.reduceEq, Int.reduceNeg, wrap_add, e0, e1, e9, e10, hU]
        · have c0 : decide ((x : Int) ≤ y) = true := by simp; omega
          obtain ⟨z, rfl⟩ : ∃ z, y = z + 1 := ⟨y - 1, by omega⟩
          rw [scanDown] at hU
          have c0 : decide ((x : Int) ≤ (z : Int) + 1) = true := c0
          have n1 : natOf (some (.int .i64 ((z : Int) + 1))) = some (z + 1) := natOf_of (by simp)
          have z1 : (z : Int) + 1 - 1 = z := by omega
          simp +contextual (maxSteps := 600000) (disch := omega) only [go_sem, Nat.reduceEqDiff, ↓reduceIte, Int.reduceEq, Int.reduceNeg, wrap_add, e0, e1, e9, e10, c0, natOf_nat, n1, ia, la, hH.iad (j := z + 1) (by omega), hH.ld (j := z + 1) (by omega)]
          refine by_ret (S.call _ _ _) ?_
          cases hl : lt D[a]! D[z + 1]! with
          | false =>
            rw [if_neg (by simp [hl])] at hU
            simp +contextual (maxSteps := 600000) (disch := omega) only [go_sem, Nat.reduceEqDiff, ↓reduceIte, Int.reduceEq, Int.reduceNeg, wrap_add, e0, e1, e9, e10, c0, hl]
            refine hY2 _ _ ⟨?_, ?_, ?_, ?_, rfl, by omega⟩
            all_goals simp +contextual (maxSteps := 600000) (disch := omega) only [go_sem, Nat.reduceEqDiff, ↓reduceIte, Int.reduceEq, Int.reduceNeg, wrap_add, e0, e1, e9, e10, ← hU]
          | true =>
            rw [if_pos (by simp [hl]; omega)] at hU
            simp +contextual (maxSteps := 600000) (disch := omega) only [go_sem, Nat.reduceEqDiff, ↓reduceIte, Int.reduceEq, Int.reduceNeg, wrap_add, e0, e1, e9, e10, c0, z1, hl]
            refine ⟨z + 1, by omega, hJ2 _ _ _ ⟨z, ?_, ?_, ?_, ?_, rfl, by omega, by omega, rfl, hU⟩⟩
            all_goals simp +contextual (maxSteps := 600000) (disch := omega) only [go_sem, Nat.reduceEqDiff, ↓reduceIte, Int.reduceEq, Int.reduceNeg, wrap_add, e0, e1, e9, e10]
      · clear e0 e1 e9 e10
        rintro env τ' ⟨e0, e1, e9, e10, rfl, hxy⟩
        have w1 := scanDown_le (fun x => lt D[a]! x) D x j
        have w4 := (scanDown_spec (fun x => lt D[a]! x) D x j).2.2.2
        obtain ⟨y, hy⟩ : ∃ y, y = scanDown (fun x => lt D[a]! x) D x j := ⟨_, rfl⟩
        rw [← hy] at hE e10 w1 w4 hxy
        rcases Nat.lt_or_ge y x with hlt | hge
        · rw [if_pos hlt] at hE
          have c0 : decide ((y : Int) < x) = true := by simp; omega
          simp +contextual (maxSteps := 600000) (disch := omega) only [go_sem, Nat.reduceEqDiff, ↓reduceIte, Int.reduceEq, Int.reduceNeg, wrap_add, e0, e1, e9, e10, c0]
          exact ⟨_, rfl, hle, by rw [← hE], by rw [← hE]; exact hH⟩
        · rw [if_neg (by omega)] at hE
          have hne : x ≠ y := by
            rintro rfl
            have q1 : (!lt D[a]! D[x]!) = false := u4 w1
            have q2 : lt D[a]! D[x]! = false := w4 (Nat.le_refl _) (by omega)
            rw [q2] at q1; cases q1
          have c0 : decide ((y : Int) < x) = false := by simp; omega
          have y1 : (y : Int) - 1 = ((y - 1 : Nat) : Int) := by omega
          obtain ⟨τ3, τ4, s3, s4, hH4, hl4⟩ := hH.sw (a := x) (b := y) (by omega) (by omega)
          simp +contextual (maxSteps := 600000) (disch := omega) only [go_sem, Nat.reduceEqDiff, ↓reduceIte, Int.reduceEq, Int.reduceNeg, wrap_add, e0, e1, e9, e10, c0, natOf_nat, hH.iad (j := x) (by omega), hH.ld (j := x) (by omega), hH.iad (j := y) (by omega), hH.ld (j := y) (by omega), s3, s4]
          refine ⟨y - 1 + 1 - (x + 1), by omega, hJ _ _ _ ⟨x + 1, y - 1, swp D x y, ?_, ?_, ?_, ?_, rfl, by omega, by omega, by omega, by rw [Go.Sort.swp_size]; exact hD, by omega, hH4, hE⟩⟩
          all_goals simp +contextual (maxSteps := 600000) (disch := omega) only [go_sem, Nat.reduceEqDiff, ↓reduceIte, Int.reduceEq, Int.reduceNeg, wrap_add, e0, e1, e9, e10, y1]
  obtain ⟨r, τ, R, rfl, h⟩ := key
  exact ⟨τ, R, h⟩
set_option maxHeartbeats 2000000 in
theorem part_ret (S : SrtO α lt) (H : Holds S.e σ0 σ rs k v d) {a b p : Nat} (hab : a < b) (hp : p < b) (hb : b ≤ d.size) (hs : d.size ≤ 1099511627776) : ∃ τ, Ret Try.prog S.q.partition [v, gi a, gi b, gi p] σ (.tup [gi (partition lt d a b p).1, .bool (partition lt d a b p).2.1]) τ ∧ Holds S.e σ0 τ rs k v (partition lt d a b p).2.2 := by
  have key : ∃ r τ, Ret Try.prog S.q.partition [v, gi a, gi b, gi p] σ r τ ∧ r = .tup [gi (partition lt d a b p).1, .bool (partition lt d a b p).2.1] ∧ Holds S.e σ0 τ rs k v (partition lt d a b p).2.2 := by
    refine ret_mut S.h_partition (Nat.le_of_ble_eq_true rfl) ?_
    obtain ⟨τ1, τ, s1, s2, hH, hl2⟩ := H.sw (a := a) (b := p) (by omega) (by omega)
    obtain ⟨j, hh⟩ : ∃ h, h = b - 1 := ⟨_, rfl⟩
    have hbI : (b : Int) - 1 = j := by omega
    have hD := Go.Sort.swp_size d a p
    obtain ⟨P0, hP0⟩ : ∃ P0, P0 = partition lt d a b p := ⟨_, rfl⟩
    rw [← hP0]
    have hE := hP0.symm
    simp only [partition] at hE
    rw [← hh] at hE
    obtain ⟨D, hD0⟩ : ∃ D0, D0 = swp d a p := ⟨_, rfl⟩
    rw [← hD0] at hH hD hE
    simp +contextual (maxSteps := 600000) (disch := omega) only [go_sem, Nat.reduceEqDiff, ↓reduceIte, Int.reduceEq, Int.reduceNeg, wrap_add, G_partition_o, hbI, natOf_nat, H.iad (j := a) (by omega), H.ld (j := a) (by omega), H.iad (j := p) (by omega), H.ld (j := p) (by omega), s1, s2]
    have ia := hH.iad (j := a) (by omega)
    have la := hH.ld (j := a) (by omega)
    obtain ⟨i, hi⟩ : ∃ i, i = a + 1 := ⟨_, rfl⟩
    rw [← hi] at hE
    have hij : i ≤ j + 1 := by omega
    refine vc_lopX (fun n env τ' => ∃ (x : Nat), env 0 = v ∧ env 1 = gi a  ∧ env 10 = gi x ∧ env 11 = gi j ∧ j + 1 - x = n ∧ i ≤ x ∧ x ≤ j + 1 ∧ τ = τ' ∧ scanUp (fun x => lt x D[a]!) D j x = scanUp (fun x => lt x D[a]!) D j i) (j + 1 - i) 0 (fun env τ' => env 0 = v ∧ env 1 = gi a  ∧ env 10 = gi (scanUp (fun x => lt x D[a]!) D j i : Nat) ∧ env 11 = gi j ∧ τ = τ') ⟨i, rfl,rfl,(by rw[hi];rfl),rfl, rfl, Nat.le_refl _, hij, rfl, rfl⟩ ?_ ?_
    · skip
      rintro J2 Y2 hJ2 hY2 n2 env τ' ⟨x, e0, e1, e9, e10, hn2, hx1, hx2, rfl, hU⟩
      rw [scanUp] at hU
      rcases Nat.lt_or_ge j x with hx | hx
      · rw [if_neg (by simp; intro h; omega)] at hU
        have c0 : decide ((x : Int) ≤ j) = false := by simp; omega
        simp +contextual (maxSteps := 600000) (disch := omega) only [go_sem, Nat.reduceEqDiff, ↓reduceIte, Int.reduceEq, Int.reduceNeg, wrap_add, e0, e1, e9, e10, c0]
        refine hY2 _ _ ⟨?_, ?_, ?_, ?_, rfl⟩
        all_goals simp +contextual (maxSteps := 600000) (disch := omega) only [go_sem, Nat.reduceEqDiff, ↓reduceIte, Int.reduceEq, Int.reduceNeg, wrap_add, e0, e1, e9, e10, hU]
      · have c0 : decide ((x : Int) ≤ j) = true := by simp; omega
        simp +contextual (maxSteps := 600000) (disch := omega) only [go_sem, Nat.reduceEqDiff, ↓reduceIte, Int.reduceEq, Int.reduceNeg, wrap_add, e0, e1, e9, e10, c0, natOf_nat, ia, la, hH.iad (j := x) (by omega), hH.ld (j := x) (by omega)]
        refine by_ret (S.call _ _ _) ?_
        cases hl : lt D[x]! D[a]! with
        | false =>
          rw [if_neg (by simp [hl])] at hU
          simp +contextual (maxSteps := 600000) (disch := omega) only [go_sem, Nat.reduceEqDiff, ↓reduceIte, Int.reduceEq, Int.reduceNeg, wrap_add, e0, e1, e9, e10, c0, hl]
          refine hY2 _ _ ⟨?_, ?_, ?_, ?_, rfl⟩
          all_goals simp +contextual (maxSteps := 600000) (disch := omega) only [go_sem, Nat.reduceEqDiff, ↓reduceIte, Int.reduceEq, Int.reduceNeg, wrap_add, e0, e1, e9, e10, hU]
        | true =>
          rw [if_pos (by simp [hl]; omega)] at hU
          simp +contextual (maxSteps := 600000) (disch := omega) only [go_sem, Nat.reduceEqDiff, ↓reduceIte, Int.reduceEq, Int.reduceNeg, wrap_add, e0, e1, e9, e10, c0, hl]
          refine ⟨j + 1 - (x + 1), by omega, hJ2 _ _ _ ⟨x + 1, ?_, ?_, ?_, ?_, rfl, by omega, by omega, rfl, hU⟩⟩
          all_goals simp +contextual (maxSteps := 600000) (disch := omega) only [go_sem, Nat.reduceEqDiff, ↓reduceIte, Int.reduceEq, Int.reduceNeg, wrap_add, e0, e1, e9, e10]
    skip
    rintro env τ' ⟨e0, e1, e9, e10, rfl⟩
    obtain ⟨u1, u2, -, u4⟩ := scanUp_spec (fun x => lt x D[a]!) D j _ i rfl
    have u2 := u2 hij
    obtain ⟨x, hx⟩ : ∃ x, x = scanUp (fun x => lt x D[a]!) D j i := ⟨_, rfl⟩
    rw [← hx] at hE e9 u1 u2 u4
    simp +contextual (maxSteps := 600000) (disch := omega) only [go_sem, Nat.reduceEqDiff, ↓reduceIte, Int.reduceEq, Int.reduceNeg, wrap_add, List.append_nil]
    refine vc_lopX (fun n env τ' => ∃ (y : Nat), env 0 = v ∧ env 1 = gi a  ∧ env 10 = gi x ∧ env 11 = gi y ∧ y + 1 = n ∧ y ≤ j ∧ x ≤ y + 1 ∧ τ = τ' ∧ scanDown (fun x => !lt x D[a]!) D x y = scanDown (fun x => !lt x D[a]!) D x j) (j + 1) 2 (fun env τ' => env 0 = v ∧ env 1 = gi a  ∧ env 10 = gi x ∧ env 11 = gi (scanDown (fun x => !lt x D[a]!) D x j : Nat) ∧ τ = τ' ∧ x ≤ scanDown (fun x => !lt x D[a]!) D x j + 1) ⟨j, e0, e1, e9, e10, rfl, Nat.le_refl _, u2, rfl, rfl⟩ ?_ ?_
    · clear e0 e1 e9 e10
      rintro J2 Y2 hJ2 hY2 n2 env τ' ⟨y, e0, e1, e9, e10, hn2, hy1, hy2, rfl, hU⟩
      rcases Nat.lt_or_ge y x with hlt | hge
      · have hU : scanDown (fun x => !lt x D[a]!) D x j = y := by
          rw [← hU]
          cases y with
          | zero => rfl
          | succ y => rw [scanDown, if_neg (by simp; intro h; omega)]
        have c0 : decide ((x : Int) ≤ y) = false := by simp; omega
        simp +contextual (maxSteps := 600000) (disch := omega) only [go_sem, Nat.reduceEqDiff, ↓reduceIte, Int.reduceEq, Int.reduceNeg, wrap_add, e0, e1, e9, e10, c0]
        refine hY2 _ _ ⟨?_, ?_, ?_, ?_, rfl, by omega⟩
        all_goals simp +contextual (maxSteps := 600000) (disch := omega) only [go_sem, Nat.reduceEqDiff, ↓reduceIte, Int.reduceEq, Int.reduceNeg, wrap_add, e0, e1, e9, e10, hU]
      · obtain ⟨z, rfl⟩ : ∃ z, y = z + 1 := ⟨y - 1, by omega⟩
        rw [scanDown] at hU
        have c0 : decide ((x : Int) ≤ (z : Int) + 1) = true := by simp; omega
        have n1 : natOf (some (.int .i64 ((z : Int) + 1))) = some (z + 1) := natOf_of (by simp)
        have z1 : (z : Int) + 1 - 1 = z := by omega
        simp +contextual (maxSteps := 600000) (disch := omega) only [go_sem, Nat.reduceEqDiff, ↓reduceIte, Int.reduceEq, Int.reduceNeg, wrap_add, e0, e1, e9, e10, c0, natOf_nat, n1, ia, la, hH.iad (j := z + 1) (by omega), hH.ld (j := z + 1) (by omega)]
        refine by_ret (S.call _ _ _) ?_
        cases hl : lt D[z + 1]! D[a]! with
        | true =>
          rw [if_neg (by simp [hl])] at hU
          simp +contextual (maxSteps := 600000) (disch := omega) only [go_sem, Nat.reduceEqDiff, ↓reduceIte, Int.reduceEq, Int.reduceNeg, wrap_add, e0, e1, e9, e10, c0, hl]
          refine hY2 _ _ ⟨?_, ?_, ?_, ?_, rfl, by omega⟩
          all_goals simp +contextual (maxSteps := 600000) (disch := omega) only [go_sem, Nat.reduceEqDiff, ↓reduceIte, Int.reduceEq, Int.reduceNeg, wrap_add, e0, e1, e9, e10, ← hU]
        | false =>
          rw [if_pos (by simp [hl]; omega)] at hU
          simp +contextual (maxSteps := 600000) (disch := omega) only [go_sem, Nat.reduceEqDiff, ↓reduceIte, Int.reduceEq, Int.reduceNeg, wrap_add, e0, e1, e9, e10, c0, z1, hl]
          refine ⟨z + 1, by omega, hJ2 _ _ _ ⟨z, ?_, ?_, ?_, ?_, rfl, by omega, by omega, rfl, hU⟩⟩
          all_goals simp +contextual (maxSteps := 600000) (disch := omega) only [go_sem, Nat.reduceEqDiff, ↓reduceIte, Int.reduceEq, Int.reduceNeg, wrap_add, e0, e1, e9, e10]
    clear e0 e1 e9 e10
    rintro env τ' ⟨e0, e1, e9, e10, rfl, hxy⟩
    have w1 := scanDown_le (fun x => !lt x D[a]!) D x j
    have w4 := (scanDown_spec (fun x => !lt x D[a]!) D x j).2.2.2
    obtain ⟨y, hy⟩ : ∃ y, y = scanDown (fun x => !lt x D[a]!) D x j := ⟨_, rfl⟩
    rw [← hy] at hE e10 w1 w4 hxy
    have hne : x ≠ y := by
      rintro rfl
      have q1 : lt D[x]! D[a]! = false := u4 w1
      have q2 : (!lt D[x]! D[a]!) = false := w4 (Nat.le_refl _) (by omega)
      rw [q1] at q2; cases q2
    rcases Nat.lt_or_ge y x with hlt | hge
    · rw [if_pos hlt] at hE
      subst hE
      have c0 : decide ((y : Int) < x) = true := by simp; omega
      obtain ⟨τ3, τ4, s3, s4, hH4, hl4⟩ := hH.sw (a := y) (b := a) (by omega) (by omega)
      simp +contextual (maxSteps := 600000) (disch := omega) only [go_sem, Nat.reduceEqDiff, ↓reduceIte, Int.reduceEq, Int.reduceNeg, wrap_add, e0, e1, e9, e10, c0, natOf_nat, hH.iad (j := a) (by omega), hH.ld (j := a) (by omega), hH.iad (j := y) (by omega), hH.ld (j := y) (by omega), s3, s4]
      exact ⟨_, rfl, by omega, rfl, hH4⟩
    · rw [if_neg (by omega)] at hE
      subst hE
      have c0 : decide ((y : Int) < x) = false := by simp; omega
      have y1 : (y : Int) - 1 = ((y - 1 : Nat) : Int) := by omega
      obtain ⟨τ3, τ4, s3, s4, hH4, hl4⟩ := hH.sw (a := x) (b := y) (by omega) (by omega)
      simp +contextual (maxSteps := 600000) (disch := omega) only [go_sem, Nat.reduceEqDiff, ↓reduceIte, Int.reduceEq, Int.reduceNeg, wrap_add, e0, e1, e9, e10, c0, natOf_nat, hH.iad (j := x) (by omega), hH.ld (j := x) (by omega), hH.iad (j := y) (by omega), hH.ld (j := y) (by omega), s3, s4]
      obtain ⟨x0, hx0⟩ : ∃ x0, x0 = x + 1 := ⟨_, rfl⟩
      obtain ⟨y0, hy0⟩ : ∃ y0, y0 = y - 1 := ⟨_, rfl⟩
      have hD4 : (swp D x y).size = d.size := by rw [Go.Sort.swp_size]; exact hD
      obtain ⟨D4, hD40⟩ : ∃ D4, D4 = swp D x y := ⟨_, rfl⟩
      rw [← hx0, ← hy0, ← hD40]
      rw [← hD40] at hH4 hD4
      obtain ⟨R, hR⟩ : ∃ R, R = partLoop lt a x0 y0 D4 := ⟨_, rfl⟩
      rw [← hR]
      refine vc_lopJ (fun n env τ => ∃ (i j : Nat) (D : Array α), env 0 = v ∧ env 1 = gi a  ∧ env 10 = gi i ∧ env 11 = gi j ∧ j + 1 - i = n ∧ 1 ≤ i ∧ i ≤ j + 1 ∧ j < b ∧ D.size = d.size ∧ σ.length ≤ τ.length ∧ Holds S.e σ0 τ rs k v D ∧ partLoop lt a i j D = R) (y0 + 1 - x0) ⟨x0, y0, D4, by simp +contextual (maxSteps := 600000) (disch := omega) only [go_sem, Nat.reduceEqDiff, ↓reduceIte, Int.reduceEq, Int.reduceNeg, wrap_add, e0], by simp +contextual (maxSteps := 600000) (disch := omega) only [go_sem, Nat.reduceEqDiff, ↓reduceIte, Int.reduceEq, Int.reduceNeg, wrap_add, e1], by rw [hx0]; simp +contextual (maxSteps := 600000) (disch := omega) only [go_sem, Nat.reduceEqDiff, ↓reduceIte, Int.reduceEq, Int.reduceNeg, wrap_add, e9], by rw [hy0]; simp +contextual (maxSteps := 600000) (disch := omega) only [go_sem, Nat.reduceEqDiff, ↓reduceIte, Int.reduceEq, Int.reduceNeg, wrap_add, y1], rfl, by omega, by omega, by omega, hD4, by omega, hH4, hR.symm⟩ ?_
      clear hH hH4 hij ia la s1 s2 s3 s4 e0 e1 e9 e10 c0 y1 hi u1 u2 u4 w1 w4 hxy hne hge hx hy hx0 hy0 hD40 hD4 hD hD0 hl2 hl4
      rintro J hJ n env τ ⟨i, j, D, e0, e1, e9, e10, hn, hi, hij, hj, hD, hle, hH, hE⟩
      rw [partLoop_eq] at hE
      have ia := hH.iad (j := a) (by omega)
      have la := hH.ld (j := a) (by omega)
      simp +contextual (maxSteps := 600000) (disch := omega) only [go_sem, Nat.reduceEqDiff, ↓reduceIte, Int.reduceEq, Int.reduceNeg, wrap_add, List.append_nil]
      refine vc_lopX (fun n env τ' => ∃ (x : Nat), env 0 = v ∧ env 1 = gi a  ∧ env 10 = gi x ∧ env 11 = gi j ∧ j + 1 - x = n ∧ i ≤ x ∧ x ≤ j + 1 ∧ τ = τ' ∧ scanUp (fun x => lt x D[a]!) D j x = scanUp (fun x => lt x D[a]!) D j i) (j + 1 - i) 6 (fun env τ' => env 0 = v ∧ env 1 = gi a  ∧ env 10 = gi (scanUp (fun x => lt x D[a]!) D j i : Nat) ∧ env 11 = gi j ∧ τ = τ') ⟨i, e0,e1,e9,e10, rfl, Nat.le_refl _, hij, rfl, rfl⟩ ?_ ?_
      · clear e0 e1 e9 e10
        rintro J2 Y2 hJ2 hY2 n2 env τ' ⟨x, e0, e1, e9, e10, hn2, hx1, hx2, rfl, hU⟩
        rw [scanUp] at hU
        rcases Nat.lt_or_ge j x with hx | hx
        · rw [if_neg (by simp; intro h; omega)] at hU
          have c0 : decide ((x : Int) ≤ j) = false := by simp; omega
          simp +contextual (maxSteps := 600000) (disch := omega) only [go_sem, Nat.reduceEqDiff, ↓reduceIte, Int.reduceEq, Int.reduceNeg, wrap_add, e0, e1, e9, e10, c0]
          refine hY2 _ _ ⟨?_, ?_, ?_, ?_, rfl⟩
          all_goals simp +contextual (maxSteps := 600000) (disch := omega) only [go_sem, Nat.reduceEqDiff, ↓reduceIte, Int.reduceEq, Int.reduceNeg, wrap_add, e0, e1, e9, e10, hU]
        · have c0 : decide ((x : Int) ≤ j) = true := by simp; omega
          simp +contextual (maxSteps := 600000) (disch := omega) only [go_sem, Nat.reduceEqDiff, ↓reduceIte, Int.reduceEq, Int.reduceNeg, wrap_add, e0, e1, e9, e10, c0, natOf_nat, ia, la, hH.iad (j := x) (by omega), hH.ld (j := x) (by omega)]
          refine by_ret (S.call _ _ _) ?_
          cases hl : lt D[x]! D[a]! with
          | false =>
            rw [if_neg (by simp [hl])] at hU
            simp +contextual (maxSteps := 600000) (disch := omega) only [go_sem, Nat.reduceEqDiff, ↓reduceIte, Int.reduceEq, Int.reduceNeg, wrap_add, e0, e1, e9, e10, c0, hl]
            refine hY2 _ _ ⟨?_, ?_, ?_, ?_, rfl⟩
            all_goals simp +contextual (maxSteps := 600000) (disch := omega) only [go_sem, Nat.reduceEqDiff, ↓reduceIte, Int.reduceEq, Int.reduceNeg, wrap_add, e0, e1, e9, e10, hU]
          | true =>
            rw [if_pos (by simp [hl]; omega)] at hU
            simp +contextual (maxSteps := 600000) (disch := omega) only [go_sem, Nat.reduceEqDiff, ↓reduceIte, Int.reduceEq, Int.reduceNeg, wrap_add, e0, e1, e9, e10, c0, hl]
            refine ⟨j + 1 - (x + 1), by omega, hJ2 _ _ _ ⟨x + 1, ?_, ?_, ?_, ?_, rfl, by omega, by omega, rfl, hU⟩⟩
            all_goals simp +contextual (maxSteps := 600000) (disch := omega) only [go_sem, Nat.reduceEqDiff, ↓reduceIte, Int.reduceEq, Int.reduceNeg, wrap_add, e0, e1, e9, e10]
      clear e0 e1 e9 e10
      rintro env τ' ⟨e0, e1, e9, e10, rfl⟩
      obtain ⟨u1, u2, -, u4⟩ := scanUp_spec (fun x => lt x D[a]!) D j _ i rfl
      have u2 := u2 hij
      obtain ⟨x, hx⟩ : ∃ x, x = scanUp (fun x => lt x D[a]!) D j i := ⟨_, rfl⟩
      rw [← hx] at hE e9 u1 u2 u4
      simp +contextual (maxSteps := 600000) (disch := omega) only [go_sem, Nat.reduceEqDiff, ↓reduceIte, Int.reduceEq, Int.reduceNeg, wrap_add, List.append_nil]
      refine vc_lopX (fun n env τ' => ∃ (y : Nat), env 0 = v ∧ env 1 = gi a  ∧ env 10 = gi x ∧ env 11 = gi y ∧ y + 1 = n ∧ y ≤ j ∧ x ≤ y + 1 ∧ τ = τ' ∧ scanDown (fun x => !lt x D[a]!) D x y = scanDown (fun x => !lt x D[a]!) D x j) (j + 1) 8 (fun env τ' => env 0 = v ∧ env 1 = gi a  ∧ env 10 = gi x ∧ env 11 = gi (scanDown (fun x => !lt x D[a]!) D x j : Nat) ∧ τ = τ' ∧ x ≤ scanDown (fun x => !lt x D[a]!) D x j + 1) ⟨j, e0, e1, e9, e10, rfl, Nat.le_refl _, u2, rfl, rfl⟩ ?_ ?_
      · clear e0 e1 e9 e10
        rintro J2 Y2 hJ2 hY2 n2 env τ' ⟨y, e0, e1, e9, e10, hn2, hy1, hy2, rfl, hU⟩
        rcases Nat.lt_or_ge y x with hlt | hge
        · have hU : scanDown (fun x => !lt x D[a]!) D x j = y := by
            rw [← hU]
            cases y with
            | zero => rfl
            | succ y => rw [scanDown, if_neg (by simp; intro h; omega)]
          have c0 : decide ((x : Int) ≤ y) = false := by simp; omega
          simp +contextual (maxSteps := 600000) (disch := omega) only [go_sem, Nat.reduceEqDiff, ↓reduceIte, Int.reduceEq, Int.reduceNeg, wrap_add, e0, e1, e9, e10, c0]
          refine hY2 _ _ ⟨?_, ?_, ?_, ?_, rfl, by omega⟩
          all_goals simp +contextual (maxSteps := 600000) (disch := omega) only [go_sem, Nat.reduceEqDiff, ↓reduceIte, Int.reduceEq, Int.reduceNeg, wrap_add, e0, e1, e9, e10, hU]
        · obtain ⟨z, rfl⟩ : ∃ z, y = z + 1 := ⟨y - 1, by omega⟩
          rw [scanDown] at hU
          have c0 : decide ((x : Int) ≤ (z : Int) + 1) = true := by simp; omega
          have n1 : natOf (some (.int .i64 ((z : Int) + 1))) = some (z + 1) := natOf_of (by simp)
          have z1 : (z : Int) + 1 - 1 = z := by omega
          simp +contextual (maxSteps := 600000) (disch := omega) only [go_sem, Nat.reduceEqDiff, ↓reduceIte, Int.reduceEq, Int.reduceNeg, wrap_add, e0, e1, e9, e10, c0, natOf_nat, n1, ia, la, hH.iad (j := z + 1) (by omega), hH.ld (j := z + 1) (by omega)]
          refine by_ret (S.call _ _ _) ?_
          cases hl : lt D[z + 1]! D[a]! with
          | true =>
            rw [if_neg (by simp [hl])] at hU
            simp +contextual (maxSteps := 600000) (disch := omega) only [go_sem, Nat.reduceEqDiff, ↓reduceIte, Int.reduceEq, Int.reduceNeg, wrap_add, e0, e1, e9, e10, c0, hl]
            refine hY2 _ _ ⟨?_, ?_, ?_, ?_, rfl, by omega⟩
            all_goals simp +contextual (maxSteps := 600000) (disch := omega) only [go_sem, Nat.reduceEqDiff, ↓reduceIte, Int.reduceEq, Int.reduceNeg, wrap_add, e0, e1, e9, e10, ← hU]
          | false =>
            rw [if_pos (by simp [hl]; omega)] at hU
            simp +contextual (maxSteps := 600000) (disch := omega) only [go_sem, Nat.reduceEqDiff, ↓reduceIte, Int.reduceEq, Int.reduceNeg, wrap_add, e0, e1, e9, e10, c0, z1, hl]
            refine ⟨z + 1, by omega, hJ2 _ _ _ ⟨z, ?_, ?_, ?_, ?_, rfl, by omega, by omega, rfl, hU⟩⟩
            all_goals simp +contextual (maxSteps := 600000) (disch := omega) only [go_sem, Nat.reduceEqDiff, ↓reduceIte, Int.reduceEq, Int.reduceNeg, wrap_add, e0, e1, e9, e10]
      clear e0 e1 e9 e10
      rintro env τ' ⟨e0, e1, e9, e10, rfl, hxy⟩
      have w1 := scanDown_le (fun x => !lt x D[a]!) D x j
      have w4 := (scanDown_spec (fun x => !lt x D[a]!) D x j).2.2.2
      obtain ⟨y, hy⟩ : ∃ y, y = scanDown (fun x => !lt x D[a]!) D x j := ⟨_, rfl⟩
      rw [← hy] at hE e10 w1 w4 hxy
      have hne : x ≠ y := by
        rintro rfl
        have q1 : lt D[x]! D[a]! = false := u4 w1
        have q2 : (!lt D[x]! D[a]!) = false := w4 (Nat.le_refl _) (by omega)
        rw [q1] at q2; cases q2
      rcases Nat.lt_or_ge y x with hlt | hge
      · rw [if_pos hlt] at hE
        subst hE
        have c0 : decide ((y : Int) < x) = true := by simp; omega
        obtain ⟨τ3, τ4, s3, s4, hH4, hl4⟩ := hH.sw (a := y) (b := a) (by omega) (by omega)
        simp +contextual (maxSteps := 600000) (disch := omega) only [go_sem, Nat.reduceEqDiff, ↓reduceIte, Int.reduceEq, Int.reduceNeg, wrap_add, e0, e1, e9, e10, c0, natOf_nat, hH.iad (j := a) (by omega), hH.ld (j := a) (by omega), hH.iad (j := y) (by omega), hH.ld (j := y) (by omega), s3, s4]
        exact ⟨_, rfl, by omega, rfl, hH4⟩
      · rw [if_neg (by omega)] at hE
        have c0 : decide ((y : Int) < x) = false := by simp; omega
        have y1 : (y : Int) - 1 = ((y - 1 : Nat) : Int) := by omega
        obtain ⟨τ3, τ4, s3, s4, hH4, hl4⟩ := hH.sw (a := x) (b := y) (by omega) (by omega)
        simp +contextual (maxSteps := 600000) (disch := omega) only [go_sem, Nat.reduceEqDiff, ↓reduceIte, Int.reduceEq, Int.reduceNeg, wrap_add, e0, e1, e9, e10, c0, natOf_nat, hH.iad (j := x) (by omega), hH.ld (j := x) (by omega), hH.iad (j := y) (by omega), hH.ld (j := y) (by omega), s3, s4]
        refine ⟨y - 1 + 1 - (x + 1), by omega, hJ _ _ _ ⟨x + 1, y - 1, swp D x y, ?_, ?_, ?_, ?_, rfl, by omega, by omega, by omega, by rw [Go.Sort.swp_size]; exact hD, by omega, hH4, hE⟩⟩
        all_goals simp +contextual (maxSteps := 600000) (disch := omega) only [go_sem, Nat.reduceEqDiff, ↓reduceIte, Int.reduceEq, Int.reduceNeg, wrap_add, e0, e1, e9, e10, y1]
  obtain ⟨r, τ, R, rfl, h⟩ := key
  exact ⟨τ, R, h⟩
end Go.Proofs.Ytopannfdcikgiaa.Sy.O

/- Sorts: a little insertion. -/
namespace Go.Proofs.Ytopannfdcikgiaa.Sy.O
open Go Go.RowKit Go.Proofs.Ytopannfdcikgiaa.Sy Go.Sort
set_option linter.unusedSimpArgs false
set_option linter.unusedVariables false
set_option maxRecDepth 4000
variable {α : Type} [Inhabited α] {lt : α → α → Bool} {σ0 σ : St} {rs : List Thg} {k : Nat} {v : GV} {d : Array α}
theorem scanSorted_ge (lt : α → α → Bool) (d : Array α) (b : Nat) : ∀ (n i : Nat), b - i = n → i ≤ scanSorted lt d b i ∧ (i ≤ b → scanSorted lt d b i ≤ b) := by
  intro n
  induction n with
  | zero =>
    intro i hn
    rw [scanSorted, if_neg (by simp; intro h; omega)]
    exact ⟨Nat.le_refl _, fun h => h⟩
  | succ n ih =>
    intro i hn
    rw [scanSorted]
    split
    · have := ih (i + 1) (by omega)
      exact ⟨by omega, fun _ => this.2 (by omega)⟩
    · exact ⟨Nat.le_refl _, fun h => h⟩
theorem shiftDown_size (lt : α → α → Bool) : ∀ (j : Nat) (d : Array α), (shiftDown lt j d).size = d.size
  | 0, _ => rfl
  | j + 1, d => by
    rw [shiftDown]
    split
    · rfl
    · rw [shiftDown_size lt j, Go.Sort.swp_size]
theorem shiftUp_size (lt : α → α → Bool) (b : Nat) : ∀ (n j : Nat) (d : Array α), b - j = n → (shiftUp lt b j d).size = d.size := by
  intro n
  induction n with
  | zero => intro j d h; rw [shiftUp, if_neg (by omega)]
  | succ n ih =>
    intro j d h
    rw [shiftUp, if_pos (by omega)]
    split
    · rfl
    · rw [ih _ _ (by omega), Go.Sort.swp_size]
set_option maxHeartbeats 2000000 in
theorem pis_ret (S : SrtO α lt) (H : Holds S.e σ0 σ rs k v d) {a b : Nat} (hab : a < b) (hb : b ≤ d.size) (hs : d.size ≤ 1099511627776) : ∃ τ, Ret Try.prog S.q.partialInsertionSort [v, gi a, gi b] σ (.bool (partialInsertionSort lt d a b).2) τ ∧ Holds S.e σ0 τ rs k v (partialInsertionSort lt d a b).1 := by
  have key : ∃ r τ, Ret Try.prog S.q.partialInsertionSort [v, gi a, gi b] σ r τ ∧ r = .bool (partialInsertionSort lt d a b).2 ∧ Holds S.e σ0 τ rs k v (partialInsertionSort lt d a b).1 := by
    refine ret_mut S.h_partialInsertionSort (Nat.le_of_ble_eq_true rfl) ?_
    rw [partialInsertionSort]
    obtain ⟨R, hR⟩ : ∃ R, R = partialIns lt a b 5 (a + 1) d := ⟨_, rfl⟩
    rw [← hR]
    simp +contextual (maxSteps := 600000) (disch := omega) only [go_sem, Nat.reduceEqDiff, ↓reduceIte, Int.reduceEq, Int.reduceNeg, wrap_add, G_partialInsertionSort_o]
    refine vc_lopJ (fun n env τ => ∃ (s i : Nat) (D : Array α), env 0 = v ∧ env 1 = gi a ∧ env 2 = gi b  ∧ env 7 = gi i ∧ env 8 = gi s ∧ 5 - s = n ∧ s ≤ 5 ∧ a < i ∧ i ≤ b ∧ D.size = d.size ∧ σ.length ≤ τ.length ∧ Holds S.e σ0 τ rs k v D ∧ partialIns lt a b (5 - s) i D = R) 5 ⟨0, a + 1, d, rfl, rfl, rfl, rfl, rfl, rfl, by omega, by omega, by omega, rfl, Nat.le_refl _, H, hR.symm⟩ ?_
    rintro J hJ n env τ ⟨s, i0, D, e0, e1, e2, e7, e8, hn, hs5, hai, hib, hD, hle, hH, hE⟩
    rcases Nat.lt_or_ge s 5 with h5 | h5
    · have c0 : decide ((s : Int) < 5) = true := by simp; omega
      obtain ⟨m, hm⟩ : ∃ m, 5 - s = m + 1 := ⟨4 - s, by omega⟩
      rw [hm, partialIns] at hE
      dsimp only at hE
      simp +contextual (maxSteps := 600000) (disch := omega) only [go_sem, Nat.reduceEqDiff, ↓reduceIte, Int.reduceEq, Int.reduceNeg, wrap_add, e0, e1, e2, e7, e8, c0]
      refine vc_lopX (fun n env τ' => ∃ (x : Nat), env 0 = v ∧ env 1 = gi a ∧ env 2 = gi b  ∧ env 7 = gi x ∧ env 8 = gi s ∧ b - x = n ∧ i0 ≤ x ∧ x ≤ b ∧ τ = τ' ∧ scanSorted lt D b x = scanSorted lt D b i0) (b - i0) 2 (fun env τ' => env 0 = v ∧ env 1 = gi a ∧ env 2 = gi b  ∧ env 7 = gi (scanSorted lt D b i0 : Nat) ∧ env 8 = gi s ∧ τ = τ') ⟨i0, by simp +contextual (maxSteps := 600000) (disch := omega) only [go_sem, Nat.reduceEqDiff, ↓reduceIte, Int.reduceEq, Int.reduceNeg, wrap_add, e0], by simp +contextual (maxSteps := 600000) (disch := omega) only [go_sem, Nat.reduceEqDiff, ↓reduceIte, Int.reduceEq, Int.reduceNeg, wrap_add, e1], by simp +contextual (maxSteps := 600000) (disch := omega) only [go_sem, Nat.reduceEqDiff, ↓reduceIte, Int.reduceEq, Int.reduceNeg, wrap_add, e2], by simp +contextual (maxSteps := 600000) (disch := omega) only [go_sem, Nat.reduceEqDiff, ↓reduceIte, Int.reduceEq, Int.reduceNeg, wrap_add, e7], by simp +contextual (maxSteps := 600000) (disch := omega) only [go_sem, Nat.reduceEqDiff, ↓reduceIte, Int.reduceEq, Int.reduceNeg, wrap_add, e8], rfl, Nat.le_refl _, hib, rfl, rfl⟩ ?_ ?_
      · clear e0 e1 e2 e7 e8
        rintro J2 Y2 hJ2 hY2 n2 env τ' ⟨x, e0, e1, e2, e7, e8, hn2, hx1, hx2, rfl, hU⟩
        rw [scanSorted] at hU
        rcases Nat.lt_or_ge x b with hx | hx
        · have c1 : decide ((x : Int) < b) = true := by simp; omega
          have x1 : (x : Int) - 1 = ((x - 1 : Nat) : Int) := by omega
          simp +contextual (maxSteps := 600000) (disch := omega) only [go_sem, Nat.reduceEqDiff, ↓reduceIte, Int.reduceEq, Int.reduceNeg, wrap_add, e0, e1, e2, e7, e8, c1, x1, natOf_nat, hH.iad (j := x) (by omega), hH.ld (j := x) (by omega), hH.iad (j := x - 1) (by omega), hH.ld (j := x - 1) (by omega)]
          refine by_ret (S.call _ _ _) ?_
          cases hl : lt D[x]! D[x - 1]! with
          | true =>
            rw [if_neg (by simp [hl])] at hU
            simp +contextual (maxSteps := 600000) (disch := omega) only [go_sem, Nat.reduceEqDiff, ↓reduceIte, Int.reduceEq, Int.reduceNeg, wrap_add, e0, e1, e2, e7, e8, c1, hl]
            refine hY2 _ _ ⟨?_, ?_, ?_, ?_, ?_, rfl⟩
            all_goals simp +contextual (maxSteps := 600000) (disch := omega) only [go_sem, Nat.reduceEqDiff, ↓reduceIte, Int.reduceEq, Int.reduceNeg, wrap_add, e0, e1, e2, e7, e8, hU]
          | false =>
            rw [if_pos (by simp [hl]; omega)] at hU
            simp +contextual (maxSteps := 600000) (disch := omega) only [go_sem, Nat.reduceEqDiff, ↓reduceIte, Int.reduceEq, Int.reduceNeg, wrap_add, e0, e1, e2, e7, e8, c1, hl]
            refine ⟨b - (x + 1), by omega, hJ2 _ _ _ ⟨x + 1, ?_, ?_, ?_, ?_, ?_, rfl, by omega, by omega, rfl, hU⟩⟩
            all_goals simp +contextual (maxSteps := 600000) (disch := omega) only [go_sem, Nat.reduceEqDiff, ↓reduceIte, Int.reduceEq, Int.reduceNeg, wrap_add, e0, e1, e2, e7, e8]
        · rw [if_neg (by simp; intro h; omega)] at hU
          have c1 : decide ((x : Int) < b) = false := by simp; omega
          simp +contextual (maxSteps := 600000) (disch := omega) only [go_sem, Nat.reduceEqDiff, ↓reduceIte, Int.reduceEq, Int.reduceNeg, wrap_add, e0, e1, e2, e7, e8, c1]
          refine hY2 _ _ ⟨?_, ?_, ?_, ?_, ?_, rfl⟩
          all_goals simp +contextual (maxSteps := 600000) (disch := omega) only [go_sem, Nat.reduceEqDiff, ↓reduceIte, Int.reduceEq, Int.reduceNeg, wrap_add, e0, e1, e2, e7, e8, hU]
      clear e0 e1 e2 e7 e8
      rintro env τ' ⟨e0, e1, e2, e7, e8, rfl⟩
      obtain ⟨g1, g2⟩ := scanSorted_ge lt D b _ i0 rfl
      have g2 := g2 hib
      obtain ⟨i, hi⟩ : ∃ i, i = scanSorted lt D b i0 := ⟨_, rfl⟩
      rw [← hi] at hE e7 g1 g2
      by_cases h1 : i = b
      · rw [if_pos h1] at hE
        subst hE
        have c1 : ((b : Int) == b) = true := by simp
        rw [h1] at e7
        simp +contextual (maxSteps := 600000) (disch := omega) only [go_sem, Nat.reduceEqDiff, ↓reduceIte, Int.reduceEq, Int.reduceNeg, wrap_add, e0, e1, e2, e7, e8, c1]
        exact ⟨_, rfl, hle, rfl, hH⟩
      · rw [if_neg h1] at hE
        have c1 : ((i : Int) == b) = false := by simp; omega
        by_cases h50 : b - a < 50
        · rw [if_pos h50] at hE
          subst hE
          have c2 : decide ((b : Int) - a < 50) = true := by simp; omega
          simp +contextual (maxSteps := 600000) (disch := omega) only [go_sem, Nat.reduceEqDiff, ↓reduceIte, Int.reduceEq, Int.reduceNeg, wrap_add, e0, e1, e2, e7, e8, c1, c2]
          exact ⟨_, rfl, hle, rfl, hH⟩
        · rw [if_neg h50] at hE
          have c2 : decide ((b : Int) - a < 50) = false := by simp; omega
          have i1 : (i : Int) - 1 = ((i - 1 : Nat) : Int) := by omega
          obtain ⟨τ1, τ2, s1, s2, hH1, hl1⟩ := hH.sw (a := i) (b := i - 1) (by omega) (by omega)
          simp +contextual (maxSteps := 600000) (disch := omega) only [go_sem, Nat.reduceEqDiff, ↓reduceIte, Int.reduceEq, Int.reduceNeg, wrap_add, e0, e1, e2, e7, e8, c1, c2, i1, natOf_nat, hH.iad (j := i) (by omega), hH.ld (j := i) (by omega), hH.iad (j := i - 1) (by omega), hH.ld (j := i - 1) (by omega), s1, s2]
          have hD1 : (swp D i (i - 1)).size = d.size := by rw [Go.Sort.swp_size]; exact hD
          have hle1 : σ.length ≤ τ2.length := by omega
          obtain ⟨D1, hD10⟩ : ∃ D1, D1 = swp D i (i - 1) := ⟨_, rfl⟩
          rw [← hD10] at hE hD1 hH1
          clear hH hle s1 s2
          by_cases hA : i - a ≥ 2
          · rw [if_pos hA] at hE
            have cA : decide ((2 : Int) ≤ (i : Int) - a) = true := by simp; omega
            simp +contextual (maxSteps := 600000) (disch := omega) only [go_sem, Nat.reduceEqDiff, ↓reduceIte, Int.reduceEq, Int.reduceNeg, wrap_add, e0, e1, e2, e7, e8, cA]
            refine vc_lopX (fun n env τ => ∃ (j : Nat) (E : Array α), env 0 = v ∧ env 1 = gi a ∧ env 2 = gi b  ∧ env 7 = gi i ∧ env 8 = gi s ∧ env 9 = gi j ∧ j = n ∧ j < b ∧ E.size = d.size ∧ σ.length ≤ τ.length ∧ Holds S.e σ0 τ rs k v E ∧ shiftDown lt j E = shiftDown lt (i - 1) D1) (i - 1) 4 (fun env τ => env 0 = v ∧ env 1 = gi a ∧ env 2 = gi b  ∧ env 7 = gi i ∧ env 8 = gi s ∧ σ.length ≤ τ.length ∧ Holds S.e σ0 τ rs k v (shiftDown lt (i - 1) D1)) ⟨i - 1, D1, by simp +contextual (maxSteps := 600000) (disch := omega) only [go_sem, Nat.reduceEqDiff, ↓reduceIte, Int.reduceEq, Int.reduceNeg, wrap_add, e0], by simp +contextual (maxSteps := 600000) (disch := omega) only [go_sem, Nat.reduceEqDiff, ↓reduceIte, Int.reduceEq, Int.reduceNeg, wrap_add, e1], by simp +contextual (maxSteps := 600000) (disch := omega) only [go_sem, Nat.reduceEqDiff, ↓reduceIte, Int.reduceEq, Int.reduceNeg, wrap_add, e2], by simp +contextual (maxSteps := 600000) (disch := omega) only [go_sem, Nat.reduceEqDiff, ↓reduceIte, Int.reduceEq, Int.reduceNeg, wrap_add, e7], by simp +contextual (maxSteps := 600000) (disch := omega) only [go_sem, Nat.reduceEqDiff, ↓reduceIte, Int.reduceEq, Int.reduceNeg, wrap_add, e8], by simp +contextual (maxSteps := 600000) (disch := omega) only [go_sem, Nat.reduceEqDiff, ↓reduceIte, Int.reduceEq, Int.reduceNeg, wrap_add, i1], rfl, by omega, hD1, hle1, hH1, rfl⟩ ?_ ?_
            · clear e0 e1 e2 e7 e8
              rintro J2 Y2 hJ2 hY2 n2 env τ ⟨j, E, e0, e1, e2, e7, e8, e9, hn2, hj, hE2, hle2, hH, hU⟩
              cases j with
              | zero =>
                have c5 : decide ((1 : Int) ≤ 0) = false := rfl
                simp +contextual (maxSteps := 600000) (disch := omega) only [go_sem, Nat.reduceEqDiff, ↓reduceIte, Int.reduceEq, Int.reduceNeg, wrap_add, e0, e1, e2, e7, e8, e9, c5, Int.natCast_zero]
                refine hY2 _ _ ⟨?_, ?_, ?_, ?_, ?_, hle2, by rw [← hU]; exact hH⟩
                all_goals simp +contextual (maxSteps := 600000) (disch := omega) only [go_sem, Nat.reduceEqDiff, ↓reduceIte, Int.reduceEq, Int.reduceNeg, wrap_add, e0, e1, e2, e7, e8]
              | succ m =>
                have c5 : decide ((1 : Int) ≤ (m : Int) + 1) = true := decide_eq_true (by omega)
                have n1 : natOf (some (.int .i64 ((m : Int) + 1))) = some (m + 1) := natOf_of (by simp)
                have m1 : (m : Int) + 1 - 1 = m := by omega
                rw [shiftDown] at hU
                simp +contextual (maxSteps := 600000) (disch := omega) only [go_sem, Nat.reduceEqDiff, ↓reduceIte, Int.reduceEq, Int.reduceNeg, wrap_add, e0, e1, e2, e7, e8, e9, c5, n1, m1, natOf_nat, hH.iad (j := m + 1) (by omega), hH.ld (j := m + 1) (by omega), hH.iad (j := m) (by omega), hH.ld (j := m) (by omega)]
                refine by_ret (S.call _ _ _) ?_
                cases hl : lt E[m + 1]! E[m]! with
                | false =>
                  rw [if_pos (by simp [hl])] at hU
                  simp +contextual (maxSteps := 600000) (disch := omega) only [go_sem, Nat.reduceEqDiff, ↓reduceIte, Int.reduceEq, Int.reduceNeg, wrap_add, e0, e1, e2, e7, e8, e9, hl]
                  refine hY2 _ _ ⟨?_, ?_, ?_, ?_, ?_, hle2, by rw [← hU]; exact hH⟩
                  all_goals simp +contextual (maxSteps := 600000) (disch := omega) only [go_sem, Nat.reduceEqDiff, ↓reduceIte, Int.reduceEq, Int.reduceNeg, wrap_add, e0, e1, e2, e7, e8]
                | true =>
                  rw [if_neg (by simp [hl])] at hU
                  obtain ⟨τ3, τ4, s3, s4, hH4, hl4⟩ := hH.sw (a := m + 1) (b := m) (by omega) (by omega)
                  simp +contextual (maxSteps := 600000) (disch := omega) only [go_sem, Nat.reduceEqDiff, ↓reduceIte, Int.reduceEq, Int.reduceNeg, wrap_add, e0, e1, e2, e7, e8, e9, n1, m1, natOf_nat, hl, hH.iad (j := m + 1) (by omega), hH.ld (j := m + 1) (by omega), hH.iad (j := m) (by omega), hH.ld (j := m) (by omega), s3, s4]
                  refine ⟨m, by omega, hJ2 _ _ _ ⟨m, swp E (m + 1) m, ?_, ?_, ?_, ?_, ?_, ?_, rfl, by omega, by rw [Go.Sort.swp_size]; exact hE2, by omega, hH4, hU⟩⟩
                  all_goals simp +contextual (maxSteps := 600000) (disch := omega) only [go_sem, Nat.reduceEqDiff, ↓reduceIte, Int.reduceEq, Int.reduceNeg, wrap_add, e0, e1, e2, e7, e8, m1]
            clear e0 e1 e2 e7 e8 hH1 hle1
            rintro env τ ⟨e0, e1, e2, e7, e8, hle2, hH2⟩
            have hD2 := (shiftDown_size lt (i - 1) D1).trans hD1
            obtain ⟨D2, hD20⟩ : ∃ D2, D2 = shiftDown lt (i - 1) D1 := ⟨_, rfl⟩
            rw [← hD20] at hE hD2 hH2
            simp +contextual (maxSteps := 600000) (disch := omega) only [go_sem, Nat.reduceEqDiff, ↓reduceIte, Int.reduceEq, Int.reduceNeg, wrap_add, List.append_nil]
            by_cases hB : b - i ≥ 2
            · rw [if_pos hB] at hE
              have cB : decide ((2 : Int) ≤ (b : Int) - i) = true := by simp; omega
              simp +contextual (maxSteps := 600000) (disch := omega) only [go_sem, Nat.reduceEqDiff, ↓reduceIte, Int.reduceEq, Int.reduceNeg, wrap_add, e0, e1, e2, e7, e8, cB, cA]
              refine vc_lopX (fun n env τ => ∃ (j : Nat) (E : Array α), env 0 = v ∧ env 1 = gi a ∧ env 2 = gi b  ∧ env 7 = gi i ∧ env 8 = gi s ∧ env 10 = gi j ∧ b - j = n ∧ 1 ≤ j ∧ j ≤ b ∧ E.size = d.size ∧ σ.length ≤ τ.length ∧ Holds S.e σ0 τ rs k v E ∧ shiftUp lt b j E = shiftUp lt b (i + 1) D2) (b - (i + 1)) 6 (fun env τ => env 0 = v ∧ env 1 = gi a ∧ env 2 = gi b  ∧ env 7 = gi i ∧ env 8 = gi s ∧ σ.length ≤ τ.length ∧ Holds S.e σ0 τ rs k v (shiftUp lt b (i + 1) D2)) ⟨i + 1, D2, by simp +contextual (maxSteps := 600000) (disch := omega) only [go_sem, Nat.reduceEqDiff, ↓reduceIte, Int.reduceEq, Int.reduceNeg, wrap_add, e0], by simp +contextual (maxSteps := 600000) (disch := omega) only [go_sem, Nat.reduceEqDiff, ↓reduceIte, Int.reduceEq, Int.reduceNeg, wrap_add, e1], by simp +contextual (maxSteps := 600000) (disch := omega) only [go_sem, Nat.reduceEqDiff, ↓reduceIte, Int.reduceEq, Int.reduceNeg, wrap_add, e2], by simp +contextual (maxSteps := 600000) (disch := omega) only [go_sem, Nat.reduceEqDiff, ↓reduceIte, Int.reduceEq, Int.reduceNeg, wrap_add, e7], by simp +contextual (maxSteps := 600000) (disch := omega) only [go_sem, Nat.reduceEqDiff, ↓reduceIte, Int.reduceEq, Int.reduceNeg, wrap_add, e8], by simp +contextual (maxSteps := 600000) (disch := omega) only [go_sem, Nat.reduceEqDiff, ↓reduceIte, Int.reduceEq, Int.reduceNeg, wrap_add, e7], rfl, by omega, by omega, hD2, hle2, hH2, rfl⟩ ?_ ?_
              · clear e0 e1 e2 e7 e8
                rintro J2 Y2 hJ2 hY2 n2 env τ ⟨j, E, e0, e1, e2, e7, e8, e9, hn2, hj1, hj, hE2, hle3, hH, hU⟩
                rw [shiftUp] at hU
                rcases Nat.lt_or_ge j b with hjb | hjb
                · rw [if_pos hjb] at hU
                  have c5 : decide ((j : Int) < b) = true := by simp; omega
                  have j1 : (j : Int) - 1 = ((j - 1 : Nat) : Int) := by omega
                  simp +contextual (maxSteps := 600000) (disch := omega) only [go_sem, Nat.reduceEqDiff, ↓reduceIte, Int.reduceEq, Int.reduceNeg, wrap_add, e0, e1, e2, e7, e8, e9, c5, j1, natOf_nat, hH.iad (j := j) (by omega), hH.ld (j := j) (by omega), hH.iad (j := j - 1) (by omega), hH.ld (j := j - 1) (by omega)]
                  refine by_ret (S.call _ _ _) ?_
                  cases hl : lt E[j]! E[j - 1]! with
                  | false =>
                    rw [if_pos (by simp [hl])] at hU
                    simp +contextual (maxSteps := 600000) (disch := omega) only [go_sem, Nat.reduceEqDiff, ↓reduceIte, Int.reduceEq, Int.reduceNeg, wrap_add, e0, e1, e2, e7, e8, e9, hl]
                    refine hY2 _ _ ⟨?_, ?_, ?_, ?_, ?_, hle3, by rw [← hU]; exact hH⟩
                    all_goals simp +contextual (maxSteps := 600000) (disch := omega) only [go_sem, Nat.reduceEqDiff, ↓reduceIte, Int.reduceEq, Int.reduceNeg, wrap_add, e0, e1, e2, e7, e8]
                  | true =>
                    rw [if_neg (by simp [hl])] at hU
                    obtain ⟨τ3, τ4, s3, s4, hH4, hl4⟩ := hH.sw (a := j) (b := j - 1) (by omega) (by omega)
                    simp +contextual (maxSteps := 600000) (disch := omega) only [go_sem, Nat.reduceEqDiff, ↓reduceIte, Int.reduceEq, Int.reduceNeg, wrap_add, e0, e1, e2, e7, e8, e9, j1, natOf_nat, hl, hH.iad (j := j) (by omega), hH.ld (j := j) (by omega), hH.iad (j := j - 1) (by omega), hH.ld (j := j - 1) (by omega), s3, s4]
                    refine ⟨b - (j + 1), by omega, hJ2 _ _ _ ⟨j + 1, swp E j (j - 1), ?_, ?_, ?_, ?_, ?_, ?_, rfl, by omega, by omega, by rw [Go.Sort.swp_size]; exact hE2, by omega, hH4, hU⟩⟩
                    all_goals simp +contextual (maxSteps := 600000) (disch := omega) only [go_sem, Nat.reduceEqDiff, ↓reduceIte, Int.reduceEq, Int.reduceNeg, wrap_add, e0, e1, e2, e7, e8, e9]
                · rw [if_neg (by omega)] at hU
                  have c5 : decide ((j : Int) < b) = false := by simp; omega
                  simp +contextual (maxSteps := 600000) (disch := omega) only [go_sem, Nat.reduceEqDiff, ↓reduceIte, Int.reduceEq, Int.reduceNeg, wrap_add, e0, e1, e2, e7, e8, e9, c5]
                  refine hY2 _ _ ⟨?_, ?_, ?_, ?_, ?_, hle3, by rw [← hU]; exact hH⟩
                  all_goals simp +contextual (maxSteps := 600000) (disch := omega) only [go_sem, Nat.reduceEqDiff, ↓reduceIte, Int.reduceEq, Int.reduceNeg, wrap_add, e0, e1, e2, e7, e8]
              clear e0 e1 e2 e7 e8 hH2 hle2
              rintro env τ ⟨e0, e1, e2, e7, e8, hle2, hH2⟩
              simp +contextual (maxSteps := 600000) (disch := omega) only [go_sem, Nat.reduceEqDiff, ↓reduceIte, Int.reduceEq, Int.reduceNeg, wrap_add, e0, e1, e2, e7, e8]
              refine ⟨n - 1, by omega, hJ _ _ _ ⟨s + 1, i, _, ?_, ?_, ?_, ?_, ?_, by omega, by omega, by omega, by omega, (by rw [shiftUp_size lt b _ _ _ rfl]; exact hD2), hle2, hH2, by rw [← hE]; congr 1; omega⟩⟩
              all_goals simp +contextual (maxSteps := 600000) (disch := omega) only [go_sem, Nat.reduceEqDiff, ↓reduceIte, Int.reduceEq, Int.reduceNeg, wrap_add, e0, e1, e2, e7, e8]
            · rw [if_neg hB] at hE
              have cB : decide ((2 : Int) ≤ (b : Int) - i) = false := by simp; omega
              simp +contextual (maxSteps := 600000) (disch := omega) only [go_sem, Nat.reduceEqDiff, ↓reduceIte, Int.reduceEq, Int.reduceNeg, wrap_add, e0, e1, e2, e7, e8, cB, cA]
              refine ⟨n - 1, by omega, hJ _ _ _ ⟨s + 1, i, _, ?_, ?_, ?_, ?_, ?_, by omega, by omega, by omega, by omega, hD2, hle2, hH2, by rw [← hE]; congr 1; omega⟩⟩
              all_goals simp +contextual (maxSteps := 600000) (disch := omega) only [go_sem, Nat.reduceEqDiff, ↓reduceIte, Int.reduceEq, Int.reduceNeg, wrap_add, e0, e1, e2, e7, e8]
          · rw [if_neg hA] at hE
            have cA : decide ((2 : Int) ≤ (i : Int) - a) = false := by simp; omega
            obtain ⟨D2, hD20⟩ : ∃ D2, D2 = D1 := ⟨_, rfl⟩
            have hD2 := hD1
            have hH2 := hH1
            have hle2 := hle1
            rw [← hD20] at hE hD2 hH2
            by_cases hB : b - i ≥ 2
            · rw [if_pos hB] at hE
              have cB : decide ((2 : Int) ≤ (b : Int) - i) = true := by simp; omega
              simp +contextual (maxSteps := 600000) (disch := omega) only [go_sem, Nat.reduceEqDiff, ↓reduceIte, Int.reduceEq, Int.reduceNeg, wrap_add, e0, e1, e2, e7, e8, cB, cA]
              refine vc_lopX (fun n env τ => ∃ (j : Nat) (E : Array α), env 0 = v ∧ env 1 = gi a ∧ env 2 = gi b  ∧ env 7 = gi i ∧ env 8 = gi s ∧ env 10 = gi j ∧ b - j = n ∧ 1 ≤ j ∧ j ≤ b ∧ E.size = d.size ∧ σ.length ≤ τ.length ∧ Holds S.e σ0 τ rs k v E ∧ shiftUp lt b j E = shiftUp lt b (i + 1) D2) (b - (i + 1)) 6 (fun env τ => env 0 = v ∧ env 1 = gi a ∧ env 2 = gi b  ∧ env 7 = gi i ∧ env 8 = gi s ∧ σ.length ≤ τ.length ∧ Holds S.e σ0 τ rs k v (shiftUp lt b (i + 1) D2)) ⟨i + 1, D2, by simp +contextual (maxSteps := 600000) (disch := omega) only [go_sem, Nat.reduceEqDiff, ↓reduceIte, Int.reduceEq, Int.reduceNeg, wrap_add, e0], by simp +contextual (maxSteps := 600000) (disch := omega) only [go_sem, Nat.reduceEqDiff, ↓reduceIte, Int.reduceEq, Int.reduceNeg, wrap_add, e1], by simp +contextual (maxSteps := 600000) (disch := omega) only [go_sem, Nat.reduceEqDiff, ↓reduceIte, Int.reduceEq, Int.reduceNeg, wrap_add, e2], by simp +contextual (maxSteps := 600000) (disch := omega) only [go_sem, Nat.reduceEqDiff, ↓reduceIte, Int.reduceEq, Int.reduceNeg, wrap_add, e7], by simp +contextual (maxSteps := 600000) (disch := omega) only [go_sem, Nat.reduceEqDiff, ↓reduceIte, Int.reduceEq, Int.reduceNeg, wrap_add, e8], by simp +contextual (maxSteps := 600000) (disch := omega) only [go_sem, Nat.reduceEqDiff, ↓reduceIte, Int.reduceEq, Int.reduceNeg, wrap_add, e7], rfl, by omega, by omega, hD2, hle2, hH2, rfl⟩ ?_ ?_
              · clear e0 e1 e2 e7 e8
                rintro J2 Y2 hJ2 hY2 n2 env τ ⟨j, E, e0, e1, e2, e7, e8, e9, hn2, hj1, hj, hE2, hle3, hH, hU⟩
                rw [shiftUp] at hU
                rcases Nat.lt_or_ge j b with hjb | hjb
                · rw [if_pos hjb] at hU
                  have c5 : decide ((j : Int) < b) = true := by simp; omega
                  have j1 : (j : Int) - 1 = ((j - 1 : Nat) : Int) := by omega
                  simp +contextual (maxSteps := 600000) (disch := omega) only [go_sem, Nat.reduceEqDiff, ↓reduceIte, Int.reduceEq, Int.reduceNeg, wrap_add, e0, e1, e2, e7, e8, e9, c5, j1, natOf_nat, hH.iad (j := j) (by omega), hH.ld (j := j) (by omega), hH.iad (j := j - 1) (by omega), hH.ld (j := j - 1) (by omega)]
                  refine by_ret (S.call _ _ _) ?_
                  cases hl : lt E[j]! E[j - 1]! with
                  | false =>
                    rw [if_pos (by simp [hl])] at hU
                    simp +contextual (maxSteps := 600000) (disch := omega) only [go_sem, Nat.reduceEqDiff, ↓reduceIte, Int.reduceEq, Int.reduceNeg, wrap_add, e0, e1, e2, e7, e8, e9, hl]
                    refine hY2 _ _ ⟨?_, ?_, ?_, ?_, ?_, hle3, by rw [← hU]; exact hH⟩
                    all_goals simp +contextual (maxSteps := 600000) (disch := omega) only [go_sem, Nat.reduceEqDiff, ↓reduceIte, Int.reduceEq, Int.reduceNeg, wrap_add, e0, e1, e2, e7, e8]
                  | true =>
                    rw [if_neg (by simp [hl])] at hU
                    obtain ⟨τ3, τ4, s3, s4, hH4, hl4⟩ := hH.sw (a := j) (b := j - 1) (by omega) (by omega)
                    simp +contextual (maxSteps := 600000) (disch := omega) only [go_sem, Nat.reduceEqDiff, ↓reduceIte, Int.reduceEq, Int.reduceNeg, wrap_add, e0, e1, e2, e7, e8, e9, j1, natOf_nat, hl, hH.iad (j := j) (by omega), hH.ld (j := j) (by omega), hH.iad (j := j - 1) (by omega), hH.ld (j := j - 1) (by omega), s3, s4]
                    refine ⟨b - (j + 1), by omega, hJ2 _ _ _ ⟨j + 1, swp E j (j - 1), ?_, ?_, ?_, ?_, ?_, ?_, rfl, by omega, by omega, by rw [Go.Sort.swp_size]; exact hE2, by omega, hH4, hU⟩⟩
                    all_goals simp +contextual (maxSteps := 600000) (disch := omega) only [go_sem, Nat.reduceEqDiff, ↓reduceIte, Int.reduceEq, Int.reduceNeg, wrap_add, e0, e1, e2, e7, e8, e9]
                · rw [if_neg (by omega)] at hU
                  have c5 : decide ((j : Int) < b) = false := by simp; omega
                  simp +contextual (maxSteps := 600000) (disch := omega) only [go_sem, Nat.reduceEqDiff, ↓reduceIte, Int.reduceEq, Int.reduceNeg, wrap_add, e0, e1, e2, e7, e8, e9, c5]
                  refine hY2 _ _ ⟨?_, ?_, ?_, ?_, ?_, hle3, by rw [← hU]; exact hH⟩
                  all_goals simp +contextual (maxSteps := 600000) (disch := omega) only [go_sem, Nat.reduceEqDiff, ↓reduceIte, Int.reduceEq, Int.reduceNeg, wrap_add, e0, e1, e2, e7, e8]
              clear e0 e1 e2 e7 e8 hH2 hle2
              rintro env τ ⟨e0, e1, e2, e7, e8, hle2, hH2⟩
              simp +contextual (maxSteps := 600000) (disch := omega) only [go_sem, Nat.reduceEqDiff, ↓reduceIte, Int.reduceEq, Int.reduceNeg, wrap_add, e0, e1, e2, e7, e8]
              refine ⟨n - 1, by omega, hJ _ _ _ ⟨s + 1, i, _, ?_, ?_, ?_, ?_, ?_, by omega, by omega, by omega, by omega, (by rw [shiftUp_size lt b _ _ _ rfl]; exact hD2), hle2, hH2, by rw [← hE]; congr 1; omega⟩⟩
              all_goals simp +contextual (maxSteps := 600000) (disch := omega) only [go_sem, Nat.reduceEqDiff, ↓reduceIte, Int.reduceEq, Int.reduceNeg, wrap_add, e0, e1, e2, e7, e8]
            · rw [if_neg hB] at hE
              have cB : decide ((2 : Int) ≤ (b : Int) - i) = false := by simp; omega
              simp +contextual (maxSteps := 600000) (disch := omega) only [go_sem, Nat.reduceEqDiff, ↓reduceIte, Int.reduceEq, Int.reduceNeg, wrap_add, e0, e1, e2, e7, e8, cB, cA]
              refine ⟨n - 1, by omega, hJ _ _ _ ⟨s + 1, i, _, ?_, ?_, ?_, ?_, ?_, by omega, by omega, by omega, by omega, hD2, hle2, hH2, by rw [← hE]; congr 1; omega⟩⟩
              all_goals simp +contextual (maxSteps := 600000) (disch := omega) only [go_sem, Nat.reduceEqDiff, ↓reduceIte, Int.reduceEq, Int.reduceNeg, wrap_add, e0, e1, e2, e7, e8]
    · have c0 : decide ((s : Int) < 5) = false := by simp; omega
      have hm : 5 - s = 0 := by omega
      rw [hm, partialIns] at hE
      subst hE
      simp +contextual (maxSteps := 600000) (disch := omega) only [go_sem, Nat.reduceEqDiff, ↓reduceIte, Int.reduceEq, Int.reduceNeg, wrap_add, e0, e1, e2, e7, e8, c0]
      exact ⟨_, rfl, hle, rfl, hH⟩
  obtain ⟨r, τ, R, rfl, h⟩ := key
  exact ⟨τ, R, h⟩
end Go.Proofs.Ytopannfdcikgiaa.Sy.O

/- Sorts: bits, and numbers by chance. -/
namespace Go.Proofs.Ytopannfdcikgiaa.Sy
open Go Go.RowKit Go.Sort
set_option linter.unusedSimpArgs false
set_option linter.unusedVariables false
set_option maxRecDepth 10000
theorem wrapU64 {m : Int} (h : 0 ≤ m) (h' : m ≤ 18446744073709551615) : IntKind.u64.wrap m = m := by
  show (if (false && decide (m % 2 ^ 64 ≥ 2 ^ 63)) = true then m % 2 ^ 64 - 2 ^ 64 else m % 2 ^ 64) = m
  simp only [Bool.false_and, Bool.false_eq_true, if_false]
  omega
theorem wrapU64_bd (m : Int) : 0 ≤ IntKind.u64.wrap m ∧ IntKind.u64.wrap m ≤ 18446744073709551615 := by
  show 0 ≤ (if (false && decide (m % 2 ^ 64 ≥ 2 ^ 63)) = true then m % 2 ^ 64 - 2 ^ 64 else m % 2 ^ 64) ∧ (if (false && decide (m % 2 ^ 64 ≥ 2 ^ 63)) = true then m % 2 ^ 64 - 2 ^ 64 else m % 2 ^ 64) ≤ _
  simp only [Bool.false_and, Bool.false_eq_true, if_false]
  omega
theorem wrapU8 {m : Int} (h : 0 ≤ m) (h' : m ≤ 255) : IntKind.u8.wrap m = m := by
  show (if (false && decide (m % 2 ^ 8 ≥ 2 ^ 7)) = true then m % 2 ^ 8 - 2 ^ 8 else m % 2 ^ 8) = m
  simp only [Bool.false_and, Bool.false_eq_true, if_false]
  omega
theorem shrU {x : Nat} {c : Nat} (hc : c ≤ 64) : shiftG .shr .u64 (x : Int) (c : Int) = some (.int .u64 ((x / 2 ^ c : Nat) : Int)) := by
  have h2 : (2 : Int) ^ c = ((2 ^ c : Nat) : Int) := by simp
  unfold shiftG
  rw [if_neg (by omega)]
  show some (GV.int .u64 (Int.fdiv (x : Int) (2 ^ min ((c : Int).toNat) 64))) = _
  rw [Int.toNat_natCast, Nat.min_eq_left hc, h2, Int.ofNat_fdiv]
theorem bits_add {x k : Nat} (h : 2 ^ k ≤ x) : bitsLen x = k + bitsLen (x / 2 ^ k) := by rw [bits_shift h]; omega
theorem geU {x c : Nat} : decide ((c : Int) ≤ (x : Int)) = decide (c ≤ x) := by simp
theorem bitsLen64_ret (σ : St) (x : Nat) (hx : x ≤ 1099511627776) : Ret Try.prog n_math_bits_Len64 [.int .u64 x] σ (gi (bitsLen x)) σ := by
  refine ret_eq ir_math_bits_Len64 (Nat.le_of_ble_eq_true rfl) trivial ?_
  have s32 : shiftG .shr .u64 (x : Int) 32 = some (.int .u64 ((x / 4294967296 : Nat) : Int)) := shrU (c := 32) (by decide)
  have key2 : ∀ y : Nat, y < 65536 → IntKind.u8.wrap ((y / 256 : Nat) : Int) = ((y / 256 : Nat) : Int) := fun y hy => wrapU8 (by omega) (by omega)
  have key3 : ∀ y : Nat, y < 256 → IntKind.u8.wrap (y : Int) = (y : Int) := fun y hy => wrapU8 (by omega) (by omega)
  have i64 : ∀ y : Nat, y < 256 → IntKind.i64.wrap ((bitsLen y : Nat) : Int) = ((bitsLen y : Nat) : Int) ∧ bitsLen y ≤ 8 := fun y hy => by
    have : bitsLen y ≤ 8 := (bitsLen_le_iff y 8).2 (by omega)
    exact ⟨wrap_add (by omega) (by omega), this⟩
  by_cases h1 : 4294967296 ≤ x
  · have c1 : decide ((4294967296 : Int) ≤ x) = true := by simp; omega
    have hE := bits_add (k := 32) (x := x) h1
    obtain ⟨y, hy⟩ : ∃ y, y = x / 4294967296 := ⟨_, rfl⟩
    have hyl : y ≤ 256 := by omega
    rw [show (2 : Nat) ^ 32 = 4294967296 from rfl, ← hy] at hE
    rw [← hy] at s32
    have c2 : decide ((65536 : Int) ≤ y) = false := by simp; omega
    by_cases h3 : 256 ≤ y
    · have c3 : decide ((256 : Int) ≤ y) = true := by simp; omega
      have s8 : shiftG .shr .u64 (y : Int) 8 = some (.int .u64 ((y / 256 : Nat) : Int)) := shrU (c := 8) (by decide)
      have hE2 := bits_add (k := 8) (x := y) h3
      obtain ⟨z, hz⟩ : ∃ z, z = y / 256 := ⟨_, rfl⟩
      have hzl : z < 256 := by omega
      rw [show (2 : Nat) ^ 8 = 256 from rfl, ← hz] at hE2
      rw [← hz] at s8
      rw [hE, hE2]
      obtain ⟨w1, w2⟩ := i64 z hzl
      simp +contextual (maxSteps := 600000) (disch := omega) only [go_sem, Nat.reduceEqDiff, ↓reduceIte, Int.reduceEq, Int.reduceNeg, wrap_add, F_math_bits_Len64, c1, s32, c2, c3, s8, key3 z hzl, natOf_nat, len8_at hzl, w1]
      simp <;> omega
    · have c3 : decide ((256 : Int) ≤ y) = false := by simp; omega
      have hzl : y < 256 := by omega
      obtain ⟨w1, w2⟩ := i64 y hzl
      rw [hE]
      simp +contextual (maxSteps := 600000) (disch := omega) only [go_sem, Nat.reduceEqDiff, ↓reduceIte, Int.reduceEq, Int.reduceNeg, wrap_add, F_math_bits_Len64, c1, s32, c2, c3, key3 y hzl, natOf_nat, len8_at hzl, w1]
  · have c1 : decide ((4294967296 : Int) ≤ x) = false := by simp; omega
    by_cases h2 : 65536 ≤ x
    · have c2 : decide ((65536 : Int) ≤ x) = true := by simp; omega
      have s16 : shiftG .shr .u64 (x : Int) 16 = some (.int .u64 ((x / 65536 : Nat) : Int)) := shrU (c := 16) (by decide)
      have hE := bits_add (k := 16) (x := x) h2
      obtain ⟨y, hy⟩ : ∃ y, y = x / 65536 := ⟨_, rfl⟩
      have hyl : y < 65536 := by omega
      rw [show (2 : Nat) ^ 16 = 65536 from rfl, ← hy] at hE
      rw [← hy] at s16
      by_cases h3 : 256 ≤ y
      · have c3 : decide ((256 : Int) ≤ y) = true := by simp; omega
        have s8 : shiftG .shr .u64 (y : Int) 8 = some (.int .u64 ((y / 256 : Nat) : Int)) := shrU (c := 8) (by decide)
        have hE2 := bits_add (k := 8) (x := y) h3
        obtain ⟨z, hz⟩ : ∃ z, z = y / 256 := ⟨_, rfl⟩
        have hzl : z < 256 := by omega
        rw [show (2 : Nat) ^ 8 = 256 from rfl, ← hz] at hE2
        rw [← hz] at s8
        rw [hE, hE2]
        obtain ⟨w1, w2⟩ := i64 z hzl
        simp +contextual (maxSteps := 600000) (disch := omega) only [go_sem, Nat.reduceEqDiff, ↓reduceIte, Int.reduceEq, Int.reduceNeg, wrap_add, F_math_bits_Len64, c1, s16, c2, c3, s8, key3 z hzl, natOf_nat, len8_at hzl, w1]
        simp <;> omega
      · have c3 : decide ((256 : Int) ≤ y) = false := by simp; omega
        have hzl : y < 256 := by omega
        obtain ⟨w1, w2⟩ := i64 y hzl
        rw [hE]
        simp +contextual (maxSteps := 600000) (disch := omega) only [go_sem, Nat.reduceEqDiff, ↓reduceIte, Int.reduceEq, Int.reduceNeg, wrap_add, F_math_bits_Len64, c1, s16, c2, c3, key3 y hzl, natOf_nat, len8_at hzl, w1]
        simp <;> omega
    · have c2 : decide ((65536 : Int) ≤ x) = false := by simp; omega
      by_cases h3 : 256 ≤ x
      · have c3 : decide ((256 : Int) ≤ x) = true := by simp; omega
        have s8 : shiftG .shr .u64 (x : Int) 8 = some (.int .u64 ((x / 256 : Nat) : Int)) := shrU (c := 8) (by decide)
        have hE2 := bits_add (k := 8) (x := x) h3
        obtain ⟨z, hz⟩ : ∃ z, z = x / 256 := ⟨_, rfl⟩
        have hzl : z < 256 := by omega
        rw [show (2 : Nat) ^ 8 = 256 from rfl, ← hz] at hE2
        rw [← hz] at s8
        rw [hE2]
        obtain ⟨w1, w2⟩ := i64 z hzl
        simp +contextual (maxSteps := 600000) (disch := omega) only [go_sem, Nat.reduceEqDiff, ↓reduceIte, Int.reduceEq, Int.reduceNeg, wrap_add, F_math_bits_Len64, c1, c2, c3, s8, key3 z hzl, natOf_nat, len8_at hzl, w1]
        simp <;> omega
      · have c3 : decide ((256 : Int) ≤ x) = false := by simp; omega
        have hzl : x < 256 := by omega
        obtain ⟨w1, w2⟩ := i64 x hzl
        simp +contextual (maxSteps := 600000) (disch := omega) only [go_sem, Nat.reduceEqDiff, ↓reduceIte, Int.reduceEq, Int.reduceNeg, wrap_add, F_math_bits_Len64, c1, c2, c3, key3 x hzl, natOf_nat, len8_at hzl, w1]
        simp <;> omega
theorem bitsLen_ret (σ : St) (x : Nat) (hx : x ≤ 1099511627776) : Ret Try.prog n_math_bits_Len [.int .u64 x] σ (gi (bitsLen x)) σ := by
  refine ret_eq ir_math_bits_Len (Nat.le_of_ble_eq_true rfl) trivial ?_
  simp +contextual (maxSteps := 600000) (disch := omega) only [go_sem, Nat.reduceEqDiff, ↓reduceIte, Int.reduceEq, Int.reduceNeg, wrap_add, F_math_bits_Len]
  refine by_ret (bitsLen64_ret σ x hx) ?_
  simp +contextual (maxSteps := 600000) (disch := omega) only [go_sem, Nat.reduceEqDiff, ↓reduceIte, Int.reduceEq, Int.reduceNeg, wrap_add, List.append_nil]
theorem np2_ret (σ : St) (x : Nat) (hx : x ≤ 1099511627776) : Ret Try.prog n_slices_nextPowerOfTwo [gi x] σ (.int .u64 (2 ^ bitsLen x : Nat)) σ := by
  refine ret_eq ir_slices_nextPowerOfTwo (Nat.le_of_ble_eq_true rfl) trivial ?_
  have w1 : IntKind.u64.wrap (x : Int) = x := wrapU64 (by omega) (by omega)
  have hb := bits_40 hx
  have hp : 2 ^ bitsLen x ≤ 2 ^ 41 := Nat.pow_le_pow_right (by omega) hb
  have s1 : shiftG .shl .u64 1 ((bitsLen x : Nat) : Int) = some (.int .u64 (2 ^ bitsLen x : Nat)) := by
    unfold shiftG
    rw [if_neg (by omega)]
    show some (GV.int .u64 (IntKind.u64.wrap (1 * 2 ^ min (((bitsLen x : Nat) : Int).toNat) 64))) = _
    rw [Int.toNat_natCast, Nat.min_eq_left (by omega), Int.one_mul]
    have h2 : (2 : Int) ^ bitsLen x = ((2 ^ bitsLen x : Nat) : Int) := by simp
    obtain ⟨q, hq⟩ : ∃ q, q = 2 ^ bitsLen x := ⟨_, rfl⟩
    rw [← hq] at hp
    rw [h2, ← hq, wrapU64 (by omega) (by omega)]
  simp +contextual (maxSteps := 600000) (disch := omega) only [go_sem, Nat.reduceEqDiff, ↓reduceIte, Int.reduceEq, Int.reduceNeg, wrap_add, F_slices_nextPowerOfTwo, w1]
  refine by_ret (bitsLen_ret σ x hx) ?_
  simp +contextual (maxSteps := 600000) (disch := omega) only [go_sem, Nat.reduceEqDiff, ↓reduceIte, Int.reduceEq, Int.reduceNeg, wrap_add, s1]
theorem shlU_ex (c : Int) (hc : 0 ≤ c) : ∃ f : Int → Int, ∀ a, shiftG .shl .u64 a c = some (.int .u64 (f a)) := ⟨fun a => IntKind.u64.wrap (a * 2 ^ min c.toNat IntKind.u64.bits), fun a => by unfold shiftG; rw [if_neg (by omega)]⟩
theorem shrU_ex (c : Int) (hc : 0 ≤ c) : ∃ f : Int → Int, ∀ a, shiftG .shr .u64 a c = some (.int .u64 (f a)) := ⟨fun a => a.fdiv (2 ^ min c.toNat IntKind.u64.bits), fun a => by unfold shiftG; rw [if_neg (by omega)]⟩
theorem xorU_ex : ∃ f : Int → Int → Int, ∀ a b, binG .xor (.int .u64 a) (.int .u64 b) = some (.int .u64 (f a b)) := ⟨fun a b => IntKind.u64.wrap (BitVec.ofInt IntKind.u64.bits a ^^^ BitVec.ofInt IntKind.u64.bits b).toNat, fun a b => rfl⟩
theorem andU {y : Int} {m : Nat} (hm : m < 2 ^ 62) : ∃ w : Nat, w ≤ m ∧ binG .and (.int .u64 y) (.int .u64 (m : Int)) = some (.int .u64 (w : Int)) := by
  have h1 : (BitVec.ofInt IntKind.u64.bits y &&& BitVec.ofInt IntKind.u64.bits (m : Int)).toNat ≤ m := by
    rw [BitVec.toNat_and]
    refine Nat.le_trans Nat.and_le_right ?_
    rw [BitVec.toNat_ofInt]
    show ((m : Int) % ((2 ^ 64 : Nat) : Int)).toNat ≤ m
    omega
  refine ⟨_, h1, ?_⟩
  show some (GV.int .u64 (IntKind.u64.wrap _)) = _
  rw [wrapU64 (by omega) (by omega)]
theorem xs_ret {σ0 σ : St} {rs : List Thg} {g : Nat} {y : Int} (H : Hp σ0 σ rs) (m : Nat) (hm : rs[m]? = some (pt 1 g [.int .u64 y])) : ∃ (y' : Int) (τ : St), Ret Try.prog n_slices_xorshift_Next [.ptr g 0] σ (.int .u64 y') τ ∧ Hp σ0 τ (rs.set m (pt 1 g [.int .u64 y'])) := by
  have key : ∃ r τ, Ret Try.prog n_slices_xorshift_Next [.ptr g 0] σ r τ ∧ ∃ y' : Int, r = .int .u64 y' ∧ Hp σ0 τ (rs.set m (pt 1 g [.int .u64 y'])) := by
    refine ret_mut ir_slices_xorshift_Next (Nat.le_of_ble_eq_true rfl) ?_
    obtain ⟨f1, hf1⟩ := shlU_ex 13 (by decide)
    obtain ⟨f2, hf2⟩ := shrU_ex 7 (by decide)
    obtain ⟨f3, hf3⟩ := shlU_ex 17 (by decide)
    obtain ⟨fb, hfb⟩ := xorU_ex
    have e1 : ∀ z : Int, ∀ w : GV, splice [w] 0 [GV.int .u64 z] = [.int .u64 z] := fun z w => rfl
    have sg : ∀ z : Int, (seg [GV.int .u64 z] 0 1).bind (mkv false) = some (.int .u64 z) := fun z => rfl
    have hml := (List.getElem?_eq_some_iff.1 hm).1
    have l1 := ld_ptr (a := false) (n := 1) (off := 0) (H.pt m hm)
    obtain ⟨τ1, st1, H1, hl1⟩ := H.st m hm 1 0 (.int .u64 (fb y (f1 y))) rfl (by decide) (by simp)
    simp only [GV.cells, e1] at H1
    obtain ⟨y1, hy1⟩ : ∃ y1, y1 = fb y (f1 y) := ⟨_, rfl⟩
    rw [← hy1] at st1 H1
    have l2 := ld_ptr (a := false) (n := 1) (off := 0) (H1.pt m (List.getElem?_set_self hml))
    obtain ⟨τ2, st2, H2, hl2⟩ := H1.st m (List.getElem?_set_self hml) 1 0 (.int .u64 (fb y1 (f2 y1))) rfl (by decide) (by simp)
    simp only [GV.cells, e1] at H2
    obtain ⟨y2, hy2⟩ : ∃ y1', y1' = fb y1 (f2 y1) := ⟨_, rfl⟩
    rw [← hy2] at st2 H2
    rw [List.set_set] at H2
    have l3 := ld_ptr (a := false) (n := 1) (off := 0) (H2.pt m (List.getElem?_set_self hml))
    obtain ⟨τ3, st3, H3, hl3⟩ := H2.st m (List.getElem?_set_self hml) 1 0 (.int .u64 (fb y2 (f3 y2))) rfl (by decide) (by simp)
    simp only [GV.cells, e1] at H3
    obtain ⟨y3, hy3⟩ : ∃ y1', y1' = fb y2 (f3 y2) := ⟨_, rfl⟩
    rw [← hy3] at st3 H3
    rw [List.set_set] at H3
    have l4 := ld_ptr (a := false) (n := 1) (off := 0) (H3.pt m (List.getElem?_set_self hml))
    simp only [sg] at l1 l2 l3 l4
    simp +contextual (maxSteps := 600000) (disch := omega) only [go_sem, Nat.reduceEqDiff, ↓reduceIte, Int.reduceEq, Int.reduceNeg, wrap_add, F_slices_xorshift_Next, hf1, hf2, hf3, hfb, l1, ← hy1, st1, l2, ← hy2, st2, l3, ← hy3, st3, l4]
    exact ⟨_, rfl, by omega, y3, rfl, H3⟩
  obtain ⟨r, τ, R, y', rfl, h⟩ := key
  exact ⟨y', τ, R, h⟩
end Go.Proofs.Ytopannfdcikgiaa.Sy

/- Sorts: the pivot; patterns broken. -/
namespace Go.Proofs.Ytopannfdcikgiaa.Sy.O
open Go Go.RowKit Go.Proofs.Ytopannfdcikgiaa.Sy Go.Sort
set_option linter.unusedSimpArgs false
set_option linter.unusedVariables false
set_option maxRecDepth 4000
variable {α : Type} [Inhabited α] {lt : α → α → Bool} {σ0 σ : St} {rs : List Thg} {k g : Nat} {s : Int} {v : GV} {d : Array α}
theorem order2_ret (S : SrtO α lt) (H : Holds S.e σ0 σ (pt 1 g [gi s] :: rs) (k + 1) v d) {a b : Nat} (ha : a < d.size) (hb : b < d.size) : ∃ (r1 r2 : Nat) (s' : Int) (τ : St), Ret Try.prog S.q.order2 [v, gi a, gi b, .ptr g 0] σ (.tup [gi r1, gi r2]) τ ∧ Holds S.e σ0 τ (pt 1 g [gi s'] :: rs) (k + 1) v d ∧ ((r1 = a ∧ r2 = b) ∨ (r1 = b ∧ r2 = a)) := by
  have key : ∃ r τ, Ret Try.prog S.q.order2 [v, gi a, gi b, .ptr g 0] σ r τ ∧ ∃ (r1 r2 : Nat) (s' : Int), r = .tup [gi r1, gi r2] ∧ Holds S.e σ0 τ (pt 1 g [gi s'] :: rs) (k + 1) v d ∧ ((r1 = a ∧ r2 = b) ∨ (r1 = b ∧ r2 = a)) := by
    refine ret_mut S.h_order2 (Nat.le_of_ble_eq_true rfl) ?_
    simp +contextual (maxSteps := 600000) (disch := omega) only [go_sem, Nat.reduceEqDiff, ↓reduceIte, Int.reduceEq, Int.reduceNeg, wrap_add, G_order2_o, natOf_nat, H.iad ha, H.ld ha, H.iad hb, H.ld hb]
    refine by_ret (S.call _ _ _) ?_
    cases hl : lt d[b]! d[a]! with
    | true =>
      have l1 := ld_ptr (a := false) (n := 1) (off := 0) (H.2.pt 0 rfl)
      have l1 : ldG false 1 σ (.ptr g 0) = some (gi s) := l1
      obtain ⟨τ1, st1, H1, hl1⟩ := H.2.st 0 rfl 1 0 (gi (IntKind.i64.wrap (s + 1))) rfl (by decide) (by simp)
      simp +contextual (maxSteps := 600000) (disch := omega) only [go_sem, Nat.reduceEqDiff, ↓reduceIte, Int.reduceEq, Int.reduceNeg, wrap_add, hl, l1, st1]
      exact ⟨_, rfl, by omega, b, a, IntKind.i64.wrap (s + 1), rfl, ⟨H.1, H1⟩, .inr ⟨rfl, rfl⟩⟩
    | false =>
      simp +contextual (maxSteps := 600000) (disch := omega) only [go_sem, Nat.reduceEqDiff, ↓reduceIte, Int.reduceEq, Int.reduceNeg, wrap_add, hl]
      exact ⟨_, rfl, a, b, s, rfl, H, .inl ⟨rfl, rfl⟩⟩
  obtain ⟨r, τ, R, r1, r2, s', rfl, h1, h2⟩ := key
  exact ⟨r1, r2, s', τ, R, h1, h2⟩
theorem median_ret (S : SrtO α lt) (H : Holds S.e σ0 σ (pt 1 g [gi s] :: rs) (k + 1) v d) {a b c : Nat} (ha : a < d.size) (hb : b < d.size) (hc : c < d.size) : ∃ (r1 : Nat) (s' : Int) (τ : St), Ret Try.prog S.q.median [v, gi a, gi b, gi c, .ptr g 0] σ (gi r1) τ ∧ Holds S.e σ0 τ (pt 1 g [gi s'] :: rs) (k + 1) v d ∧ (r1 = a ∨ r1 = b ∨ r1 = c) := by
  have key : ∃ r τ, Ret Try.prog S.q.median [v, gi a, gi b, gi c, .ptr g 0] σ r τ ∧ ∃ (r1 : Nat) (s' : Int), r = gi r1 ∧ Holds S.e σ0 τ (pt 1 g [gi s'] :: rs) (k + 1) v d ∧ (r1 = a ∨ r1 = b ∨ r1 = c) := by
    refine ret_mut S.h_median (Nat.le_of_ble_eq_true rfl) ?_
    simp +contextual (maxSteps := 600000) (disch := omega) only [go_sem, Nat.reduceEqDiff, ↓reduceIte, Int.reduceEq, Int.reduceNeg, wrap_add, G_median_o]
    obtain ⟨a1, b1, s1, τ1, R1, H1, h1⟩ := order2_ret S H ha hb
    refine by_mut R1 ?_
    simp +contextual (maxSteps := 600000) (disch := omega) only [go_sem, Nat.reduceEqDiff, ↓reduceIte, Int.reduceEq, Int.reduceNeg, wrap_add, List.append_nil]
    obtain ⟨b2, c2, s2, τ2, R2, H2, h2⟩ := order2_ret S H1 (a := b1) (b := c) (by omega) hc
    refine by_mut R2 ?_
    simp +contextual (maxSteps := 600000) (disch := omega) only [go_sem, Nat.reduceEqDiff, ↓reduceIte, Int.reduceEq, Int.reduceNeg, wrap_add, List.append_nil]
    obtain ⟨a3, b3, s3, τ3, R3, H3, h3⟩ := order2_ret S H2 (a := a1) (b := b2) (by omega) (by omega)
    refine by_mut R3 ?_
    simp +contextual (maxSteps := 600000) (disch := omega) only [go_sem, Nat.reduceEqDiff, ↓reduceIte, Int.reduceEq, Int.reduceNeg, wrap_add, List.append_nil]
    have := R1.2.1
    have := R2.2.1
    have := R3.2.1
    exact ⟨_, rfl, by omega, b3, s3, rfl, H3, by omega⟩
  obtain ⟨r, τ, R, r1, s', rfl, h1, h2⟩ := key
  exact ⟨r1, s', τ, R, h1, h2⟩
theorem medAdj_ret (S : SrtO α lt) (H : Holds S.e σ0 σ (pt 1 g [gi s] :: rs) (k + 1) v d) {a : Nat} (h0 : 0 < a) (ha : a + 1 < d.size) (hs : d.size ≤ 1099511627776) : ∃ (r1 : Nat) (s' : Int) (τ : St), Ret Try.prog S.q.medianAdjacent [v, gi a, .ptr g 0] σ (gi r1) τ ∧ Holds S.e σ0 τ (pt 1 g [gi s'] :: rs) (k + 1) v d ∧ a ≤ r1 + 1 ∧ r1 ≤ a + 1 := by
  have key : ∃ r τ, Ret Try.prog S.q.medianAdjacent [v, gi a, .ptr g 0] σ r τ ∧ ∃ (r1 : Nat) (s' : Int), r = gi r1 ∧ Holds S.e σ0 τ (pt 1 g [gi s'] :: rs) (k + 1) v d ∧ a ≤ r1 + 1 ∧ r1 ≤ a + 1 := by
    refine ret_mut S.h_medianAdjacent (Nat.le_of_ble_eq_true rfl) ?_
    obtain ⟨p, rfl⟩ : ∃ p, a = p + 1 := ⟨a - 1, by omega⟩
    have p1 : (p : Int) + 1 - 1 = p := by omega
    simp +contextual (maxSteps := 600000) (disch := omega) only [go_sem, Nat.reduceEqDiff, ↓reduceIte, Int.reduceEq, Int.reduceNeg, wrap_add, G_medianAdjacent_o, p1]
    obtain ⟨r1, s1, τ1, R1, H1, h1⟩ := median_ret S H (a := p) (b := p + 1) (c := p + 1 + 1) (by omega) (by omega) (by omega)
    refine by_mut R1 ?_
    simp +contextual (maxSteps := 600000) (disch := omega) only [go_sem, Nat.reduceEqDiff, ↓reduceIte, Int.reduceEq, Int.reduceNeg, wrap_add, List.append_nil]
    have := R1.2.1
    exact ⟨_, rfl, by omega, r1, s1, rfl, H1, by omega, by omega⟩
  obtain ⟨r, τ, R, r1, s', rfl, h1, h2⟩ := key
  exact ⟨r1, s', τ, R, h1, h2⟩
theorem choose_ret (S : SrtO α lt) (H : Holds S.e σ0 σ rs k v d) {a b : Nat} (hab : a < b) (hb : b ≤ d.size) (hs : d.size ≤ 1099511627776) : ∃ (p h : Nat) (τ : St), Ret Try.prog S.q.choosePivot [v, gi a, gi b] σ (.tup [gi p, gi h]) τ ∧ Holds S.e σ0 τ rs k v d ∧ a ≤ p ∧ p < b ∧ h ≤ 2 := by
  have key : ∃ r τ, Ret Try.prog S.q.choosePivot [v, gi a, gi b] σ r τ ∧ ∃ (p h : Nat), r = .tup [gi p, gi h] ∧ Holds S.e σ0 τ rs k v d ∧ a ≤ p ∧ p < b ∧ h ≤ 2 := by
    refine ret_mut S.h_choosePivot (Nat.le_of_ble_eq_true rfl) ?_
    obtain ⟨l, hl⟩ : ∃ l, l = b - a := ⟨_, rfl⟩
    have hlI : (b : Int) - a = l := by omega
    obtain ⟨q, hq⟩ : ∃ q, q = l / 4 := ⟨_, rfl⟩
    have hqI : (l : Int).tdiv 4 = q := by rw [hq]; rfl
    obtain ⟨i, hi⟩ : ∃ i, i = a + q * 1 := ⟨_, rfl⟩
    obtain ⟨j, hj⟩ : ∃ i, i = a + q * 2 := ⟨_, rfl⟩
    obtain ⟨m, hm⟩ : ∃ i, i = a + q * 3 := ⟨_, rfl⟩
    have hiI : (a : Int) + q * 1 = i := by omega
    have hjI : (a : Int) + q * 2 = j := by omega
    have hmI : (a : Int) + q * 3 = m := by omega
    have H0 : Holds S.e σ0 (σ ++ [some (.row 1 [gi 0])]) (pt 1 σ.length [gi 0] :: rs) (k + 1) v d := ⟨by simpa using H.1, H.2.new 1 [gi 0]⟩
    have L0 : (σ ++ [some (Blk.row 1 [GV.int IntKind.i64 0])]).length = σ.length + 1 := by simp
    have L1 : (σ ++ [some (Blk.row 1 [gi 0])]).length = σ.length + 1 := L0
    by_cases h8 : 8 ≤ l
    · have c8 : decide ((8 : Int) ≤ l) = true := by simp; omega
      by_cases h50 : 50 ≤ l
      · have c50 : decide ((50 : Int) ≤ l) = true := by simp; omega
        simp +contextual (maxSteps := 600000) (disch := omega) only [go_sem, Nat.reduceEqDiff, ↓reduceIte, Int.reduceEq, Int.reduceNeg, wrap_add, G_choosePivot_o, hlI, hqI, hiI, hjI, hmI, c8, c50]
        obtain ⟨i1, s1, τ1, R1, H1, h1, h1'⟩ := medAdj_ret S H0 (a := i) (by omega) (by omega) hs
        refine by_mut R1 ?_
        simp +contextual (maxSteps := 600000) (disch := omega) only [go_sem, Nat.reduceEqDiff, ↓reduceIte, Int.reduceEq, Int.reduceNeg, wrap_add, List.append_nil]
        obtain ⟨j1, s2, τ2, R2, H2, h2, h2'⟩ := medAdj_ret S H1 (a := j) (by omega) (by omega) hs
        refine by_mut R2 ?_
        simp +contextual (maxSteps := 600000) (disch := omega) only [go_sem, Nat.reduceEqDiff, ↓reduceIte, Int.reduceEq, Int.reduceNeg, wrap_add, List.append_nil]
        obtain ⟨m1, s3, τ3, R3, H3, h3, h3'⟩ := medAdj_ret S H2 (a := m) (by omega) (by omega) hs
        refine by_mut R3 ?_
        simp +contextual (maxSteps := 600000) (disch := omega) only [go_sem, Nat.reduceEqDiff, ↓reduceIte, Int.reduceEq, Int.reduceNeg, wrap_add, List.append_nil]
        obtain ⟨p, s4, τ4, R4, H4, h4⟩ := median_ret S H3 (a := i1) (b := j1) (c := m1) (by omega) (by omega) (by omega)
        refine by_mut R4 ?_
        have := R1.2.1
        have := R2.2.1
        have := R3.2.1
        have := R4.2.1
        have l1 : ldG false 1 τ4 (.ptr σ.length 0) = some (gi s4) := ld_ptr (a := false) (n := 1) (off := 0) ((H4).2.pt 0 rfl)
        simp +contextual (maxSteps := 600000) (disch := omega) only [go_sem, Nat.reduceEqDiff, ↓reduceIte, Int.reduceEq, Int.reduceNeg, wrap_add, l1]
        have hout : Holds S.e σ0 τ4 rs k v d := ⟨H.1, (H4).2.drop1⟩
        have key0 : ((s4 : Int) == 0) = decide ((s4 : Int) = 0) := rfl
        by_cases h0 : (s4 : Int) = 0
        · have c0 : ((s4 : Int) == 0) = true := by simp [h0]
          simp +contextual (maxSteps := 600000) (disch := omega) only [go_sem, Nat.reduceEqDiff, ↓reduceIte, Int.reduceEq, Int.reduceNeg, wrap_add, c0]
          exact ⟨_, rfl, by omega, p, 1, rfl, hout, by omega, by omega, by omega⟩
        · have c0 : ((s4 : Int) == 0) = false := by simp [h0]
          by_cases h12 : (s4 : Int) = 12
          · have c1 : ((s4 : Int) == 12) = true := by simp [h12]
            simp +contextual (maxSteps := 600000) (disch := omega) only [go_sem, Nat.reduceEqDiff, ↓reduceIte, Int.reduceEq, Int.reduceNeg, wrap_add, c0, c1]
            exact ⟨_, rfl, by omega, p, 2, rfl, hout, by omega, by omega, by omega⟩
          · have c1 : ((s4 : Int) == 12) = false := by simp [h12]
            simp +contextual (maxSteps := 600000) (disch := omega) only [go_sem, Nat.reduceEqDiff, ↓reduceIte, Int.reduceEq, Int.reduceNeg, wrap_add, c0, c1]
            exact ⟨_, rfl, by omega, p, 0, rfl, hout, by omega, by omega, by omega⟩
      · have c50 : decide ((50 : Int) ≤ l) = false := by simp; omega
        simp +contextual (maxSteps := 600000) (disch := omega) only [go_sem, Nat.reduceEqDiff, ↓reduceIte, Int.reduceEq, Int.reduceNeg, wrap_add, G_choosePivot_o, hlI, hqI, hiI, hjI, hmI, c8, c50]
        obtain ⟨p, s4, τ4, R4, H4, h4⟩ := median_ret S H0 (a := i) (b := j) (c := m) (by omega) (by omega) (by omega)
        refine by_mut R4 ?_
        have := R4.2.1
        have l1 : ldG false 1 τ4 (.ptr σ.length 0) = some (gi s4) := ld_ptr (a := false) (n := 1) (off := 0) ((H4).2.pt 0 rfl)
        simp +contextual (maxSteps := 600000) (disch := omega) only [go_sem, Nat.reduceEqDiff, ↓reduceIte, Int.reduceEq, Int.reduceNeg, wrap_add, l1]
        have hout : Holds S.e σ0 τ4 rs k v d := ⟨H.1, (H4).2.drop1⟩
        have key0 : ((s4 : Int) == 0) = decide ((s4 : Int) = 0) := rfl
        by_cases h0 : (s4 : Int) = 0
        · have c0 : ((s4 : Int) == 0) = true := by simp [h0]
          simp +contextual (maxSteps := 600000) (disch := omega) only [go_sem, Nat.reduceEqDiff, ↓reduceIte, Int.reduceEq, Int.reduceNeg, wrap_add, c0]
          exact ⟨_, rfl, by omega, p, 1, rfl, hout, by omega, by omega, by omega⟩
        · have c0 : ((s4 : Int) == 0) = false := by simp [h0]
          by_cases h12 : (s4 : Int) = 12
          · have c1 : ((s4 : Int) == 12) = true := by simp [h12]
            simp +contextual (maxSteps := 600000) (disch := omega) only [go_sem, Nat.reduceEqDiff, ↓reduceIte, Int.reduceEq, Int.reduceNeg, wrap_add, c0, c1]
            exact ⟨_, rfl, by omega, p, 2, rfl, hout, by omega, by omega, by omega⟩
          · have c1 : ((s4 : Int) == 12) = false := by simp [h12]
            simp +contextual (maxSteps := 600000) (disch := omega) only [go_sem, Nat.reduceEqDiff, ↓reduceIte, Int.reduceEq, Int.reduceNeg, wrap_add, c0, c1]
            exact ⟨_, rfl, by omega, p, 0, rfl, hout, by omega, by omega, by omega⟩
    · have c8 : decide ((8 : Int) ≤ l) = false := by simp; omega
      have l1 : ldG false 1 (σ ++ [some (.row 1 [gi 0])]) (.ptr σ.length 0) = some (gi 0) := ld_ptr (a := false) (n := 1) (off := 0) (H0.2.pt 0 rfl)
      have c0 : ((0 : Int) == 0) = true := rfl
      simp +contextual (maxSteps := 600000) (disch := omega) only [go_sem, Nat.reduceEqDiff, ↓reduceIte, Int.reduceEq, Int.reduceNeg, wrap_add, G_choosePivot_o, hlI, hqI, hiI, hjI, hmI, c8, l1, c0]
      exact ⟨_, rfl, by omega, j, 1, rfl, ⟨H.1, H0.2.drop1⟩, by omega, by omega, by omega⟩
  obtain ⟨r, τ, R, p, h, rfl, h1, h2⟩ := key
  exact ⟨p, h, τ, R, h1, h2⟩
theorem break_ret (S : SrtO α lt) (H : Holds S.e σ0 σ rs k v d) {a b : Nat} (hab : a ≤ b) (hb : b ≤ d.size) (hs : d.size ≤ 1099511627776) : ∃ (d' : Array α) (τ : St), Ret Try.prog S.q.breakPatterns [v, gi a, gi b] σ (.tup []) τ ∧ Holds S.e σ0 τ rs k v d' ∧ PermIn a b d d' := by
  have key : ∃ r τ, Ret Try.prog S.q.breakPatterns [v, gi a, gi b] σ r τ ∧ ∃ (d' : Array α), r = .tup [] ∧ Holds S.e σ0 τ rs k v d' ∧ PermIn a b d d' := by
    refine ret_mut S.h_breakPatterns (Nat.le_of_ble_eq_true rfl) ?_
    obtain ⟨h, hh⟩ : ∃ l, l = b - a := ⟨_, rfl⟩
    have hhI : (b : Int) - a = h := by omega
    by_cases h8 : 8 ≤ h
    · have c8 : decide ((8 : Int) ≤ h) = true := by simp; omega
      have wu : IntKind.u64.wrap (h : Int) = h := wrapU64 (by omega) (by omega)
      obtain ⟨q, hq⟩ : ∃ q, q = h / 4 := ⟨_, rfl⟩
      have hqI : (h : Int).tdiv 4 = q := by rw [hq]; rfl
      obtain ⟨m, hm⟩ : ∃ i, i = a + q * 2 := ⟨_, rfl⟩
      have hmI : (a : Int) + q * 2 = m := by omega
      have hmJ : (m : Int) - 1 = ((m - 1 : Nat) : Int) := by omega
      have H0 : Holds S.e σ0 (σ ++ [some (.row 1 [.int .u64 h])]) (pt 1 σ.length [.int .u64 h] :: rs) (k + 1) v d := ⟨by simpa using H.1, H.2.new 1 [.int .u64 h]⟩
      have sp : splice [GV.int .u64 0] 0 [GV.int .u64 (h : Int)] = [.int .u64 h] := rfl
      simp +contextual (maxSteps := 600000) (disch := omega) only [go_sem, Nat.reduceEqDiff, ↓reduceIte, Int.reduceEq, Int.reduceNeg, wrap_add, G_breakPatterns_o, hhI, c8, wu, GV.cells, sp, List.length_cons, List.length_nil, Nat.reduceAdd, Nat.le_refl, Nat.zero_lt_one, and_self, if_true]
      rw [S.hnp]
      have hbl : h ≤ 1099511627776 := by omega
      refine by_ret (np2_ret _ h hbl) ?_
      obtain ⟨M, hM⟩ : ∃ M, M = 2 ^ bitsLen h := ⟨_, rfl⟩
      have hM1 := Go.Sort.two_pow_bitsLen_le (n := h) (by omega)
      have hM2 := Nat.two_pow_pos (bitsLen h)
      rw [← hM] at hM1 hM2
      rw [← hM]
      have M1 : (M : Int) - 1 = ((M - 1 : Nat) : Int) := by omega
      have wM : IntKind.u64.wrap ((M - 1 : Nat) : Int) = ((M - 1 : Nat) : Int) := wrapU64 (by omega) (by omega)
      have L0 : (σ ++ [some (Blk.row 1 [GV.int .u64 (h : Int)])]).length = σ.length + 1 := by simp
      simp +contextual (maxSteps := 600000) (disch := omega) only [go_sem, Nat.reduceEqDiff, ↓reduceIte, Int.reduceEq, Int.reduceNeg, wrap_add, hqI, hmI, hmJ]
      refine vc_lopJ (fun n env τ => ∃ (x : Nat) (y : Int) (D : Array α), env 0 = v ∧ env 1 = gi a ∧ env 6 = gi h ∧ env 7 = .ptr σ.length 0 ∧ env 8 = .int .u64 (M : Nat) ∧ env 9 = gi x ∧ m + 2 - x = n ∧ m - 1 ≤ x ∧ x ≤ m + 2 ∧ σ.length ≤ τ.length ∧ Holds S.e σ0 τ (pt 1 σ.length [.int .u64 y] :: rs) (k + 1) v D ∧ PermIn a b d D) (m + 2 - (m - 1)) ⟨m - 1, h, d, rfl, rfl, rfl, rfl, rfl, rfl, rfl, Nat.le_refl _, by omega, by omega, H0, permIn_refl _ _ _⟩ ?_
      rintro J hJ n env τ ⟨x, y, D, e0, e1, e6, e7, e8, e9, hn, hx1, hx2, hle, hH, hP⟩
      have hD : D.size = d.size := hP.1
      by_cases hx : x ≤ m + 1
      · have c0 : decide ((x : Int) ≤ (m : Int) + 1) = true := by simp; omega
        simp +contextual (maxSteps := 600000) (disch := omega) only [go_sem, Nat.reduceEqDiff, ↓reduceIte, Int.reduceEq, Int.reduceNeg, wrap_add, e0, e1, e6, e7, e8, e9, hqI, hmI, c0]
        rw [S.hxs]
        obtain ⟨y', τ1, R1, H1⟩ := xs_ret hH.2 0 rfl
        have hle1 := R1.2.1
        have H1 : Holds S.e σ0 τ1 (pt 1 σ.length [.int .u64 y'] :: rs) (k + 1) v D := ⟨hH.1, H1⟩
        obtain ⟨w, hw, hwE⟩ := andU (y := y') (m := M - 1) (by omega)
        have ww : IntKind.i64.wrap (w : Int) = w := wrap_add (by omega) (by omega)
        refine by_mut R1 ?_
        simp +contextual (maxSteps := 600000) (disch := omega) only [go_sem, Nat.reduceEqDiff, ↓reduceIte, Int.reduceEq, Int.reduceNeg, wrap_add, e0, e1, e6, e7, e8, e9, M1, wM, hwE, ww]
        obtain ⟨z, hz, hzI⟩ : ∃ z : Nat, z < h ∧ (z : Int) = if h ≤ w then (w : Int) - h else w := by
          by_cases hc : h ≤ w
          · exact ⟨w - h, by omega, by rw [if_pos hc]; omega⟩
          · exact ⟨w, by omega, by rw [if_neg hc]⟩
        have nz : natOf (some (.int .i64 ((a : Int) + z))) = some (a + z) := natOf_of (by simp)
        obtain ⟨τ3, τ4, s3, s4, hH4, hl4⟩ := H1.sw (a := x) (b := a + z) (by omega) (by omega)
        have hP2 := permIn_trans _ _ _ _ _ hP (swp_permIn D a b x (a + z) (by omega) (by omega) (by omega) (by omega) (by omega))
        by_cases hc : h ≤ w
        · rw [if_pos hc] at hzI
          have cc : decide ((h : Int) ≤ w) = true := by simp; omega
          simp +contextual (maxSteps := 600000) (disch := omega) only [go_sem, Nat.reduceEqDiff, ↓reduceIte, Int.reduceEq, Int.reduceNeg, wrap_add, e0, e1, e6, e7, e8, e9, cc, ← hzI, nz, natOf_nat, H1.iad (j := x) (by omega), H1.ld (j := x) (by omega), H1.iad (j := a + z) (by omega), H1.ld (j := a + z) (by omega), s3, s4]
          refine ⟨m + 2 - (x + 1), by omega, hJ _ _ _ ⟨x + 1, y', _, ?_, ?_, ?_, ?_, ?_, ?_, rfl, by omega, by omega, by omega, hH4, hP2⟩⟩
          all_goals simp +contextual (maxSteps := 600000) (disch := omega) only [go_sem, Nat.reduceEqDiff, ↓reduceIte, Int.reduceEq, Int.reduceNeg, wrap_add, e0, e1, e6, e7, e8, e9]
        · rw [if_neg hc] at hzI
          have hzw : z = w := by omega
          rw [hzw] at nz s3 s4 hH4 hP2 hz
          have cc : decide ((h : Int) ≤ w) = false := by simp; omega
          simp +contextual (maxSteps := 600000) (disch := omega) only [go_sem, Nat.reduceEqDiff, ↓reduceIte, Int.reduceEq, Int.reduceNeg, wrap_add, e0, e1, e6, e7, e8, e9, cc, nz, natOf_nat, H1.iad (j := x) (by omega), H1.ld (j := x) (by omega), H1.iad (j := a + w) (by omega), H1.ld (j := a + w) (by omega), s3, s4]
          refine ⟨m + 2 - (x + 1), by omega, hJ _ _ _ ⟨x + 1, y', _, ?_, ?_, ?_, ?_, ?_, ?_, rfl, by omega, by omega, by omega, hH4, hP2⟩⟩
          all_goals simp +contextual (maxSteps := 600000) (disch := omega) only [go_sem, Nat.reduceEqDiff, ↓reduceIte, Int.reduceEq, Int.reduceNeg, wrap_add, e0, e1, e6, e7, e8, e9]
      · have c0 : decide ((x : Int) ≤ (m : Int) + 1) = false := by simp; omega
        simp +contextual (maxSteps := 600000) (disch := omega) only [go_sem, Nat.reduceEqDiff, ↓reduceIte, Int.reduceEq, Int.reduceNeg, wrap_add, e0, e1, e6, e7, e8, e9, hqI, hmI, c0]
        exact ⟨_, rfl, hle, D, rfl, ⟨H.1, hH.2.drop1⟩, hP⟩
    · have c8 : decide ((8 : Int) ≤ h) = false := by simp; omega
      simp +contextual (maxSteps := 600000) (disch := omega) only [go_sem, Nat.reduceEqDiff, ↓reduceIte, Int.reduceEq, Int.reduceNeg, wrap_add, G_breakPatterns_o, hhI, c8]
      exact ⟨_, rfl, d, rfl, H, permIn_refl _ _ _⟩
  obtain ⟨r, τ, R, d', rfl, h⟩ := key
  exact ⟨d', τ, R, h⟩
end Go.Proofs.Ytopannfdcikgiaa.Sy.O

/- Sorts: all of it. -/
namespace Go.Proofs.Ytopannfdcikgiaa.Sy.O
open Go Go.RowKit Go.Proofs.Ytopannfdcikgiaa.Sy Go.Sort
set_option linter.unusedSimpArgs false
set_option linter.unusedVariables false
set_option maxRecDepth 4000
variable {α : Type} [Inhabited α] {lt : α → α → Bool} {σ0 : St} {rs : List Thg} {k : Nat} {v : GV}
set_option maxHeartbeats 2000000 in
theorem pdq_ret (S : SrtO α lt) (hS : SWO lt) : ∀ (n : Nat) (d : Array α) (a b l : Nat) (σ : St), b - a ≤ n → a ≤ b → b ≤ d.size → d.size ≤ 1099511627776 → l ≤ 1099511627776 → Below lt a b d → Holds S.e σ0 σ rs k v d → ∃ (d' : Array α) (τ : St), Ret Try.prog S.q.pdqsort [v, gi a, gi b, gi l] σ (.tup []) τ ∧ Holds S.e σ0 τ rs k v d' ∧ PermIn a b d d' ∧ SortedIn lt a b d' := by
  intro n
  induction n with
  | zero =>
    intro d a b l σ hn hab hb hs hl hB H
    have key : ∃ r τ, Ret Try.prog S.q.pdqsort [v, gi a, gi b, gi l] σ r τ ∧ r = .tup [] ∧ Holds S.e σ0 τ rs k v (insertionSort lt d a b) := by
      refine ret_mut S.h_pdqsort (Nat.le_of_ble_eq_true rfl) ?_
      obtain rfl : a = b := by omega
      simp +contextual (maxSteps := 600000) (disch := omega) only [go_sem, Nat.reduceEqDiff, ↓reduceIte, Int.reduceEq, Int.reduceNeg, wrap_add, G_pdqsort_o]
      refine vc_lop (fun n env τ => env 0 = v ∧ env 1 = gi a ∧ env 2 = gi a  ∧ τ = σ) 0 ⟨rfl, rfl, rfl, rfl⟩ ?_
      rintro n env τ ⟨e0, e1, e2, rfl⟩
      have a0 : (a : Int) - a = 0 := by omega
      have c0 : decide ((0 : Int) ≤ 12) = true := rfl
      simp +contextual (maxSteps := 600000) (disch := omega) only [go_sem, Nat.reduceEqDiff, ↓reduceIte, Int.reduceEq, Int.reduceNeg, wrap_add, e0, e1, e2, a0, c0]
      obtain ⟨τ1, R, H1⟩ := ins_ret S H (a := a) (b := a) (Nat.le_refl _) hb hs
      refine by_mut R ?_
      simp +contextual (maxSteps := 600000) (disch := omega) only [go_sem, Nat.reduceEqDiff, ↓reduceIte, Int.reduceEq, Int.reduceNeg, wrap_add, List.append_nil]
      exact ⟨_, rfl, R.2.1, rfl, H1⟩
    obtain ⟨r, τ, R, rfl, H1⟩ := key
    obtain ⟨p1, p2⟩ := insertionSort_holds hS d a b hab hb
    exact ⟨_, τ, R, H1, p1, p2⟩
  | succ N ih =>
    intro d a b l σ hn hab hb hs hl hB H
    have key : ∃ r τ, Ret Try.prog S.q.pdqsort [v, gi a, gi b, gi l] σ r τ ∧ ∃ d', r = .tup [] ∧ Holds S.e σ0 τ rs k v d' ∧ PermIn a b d d' ∧ SortedIn lt a b d' := by
      refine ret_mut S.h_pdqsort (Nat.le_of_ble_eq_true rfl) ?_
      simp +contextual (maxSteps := 600000) (disch := omega) only [go_sem, Nat.reduceEqDiff, ↓reduceIte, Int.reduceEq, Int.reduceNeg, wrap_add, G_pdqsort_o]
      refine vc_lopJ (fun n env τ => ∃ (x y l : Nat) (wb wp : Bool) (D : Array α), env 0 = v ∧ env 1 = gi x ∧ env 2 = gi y ∧ env 3 = gi l  ∧ env 8 = .bool wb ∧ env 9 = .bool wp ∧ y - x = n ∧ l ≤ 1099511627776 ∧ a ≤ x ∧ x ≤ y ∧ y ≤ b ∧ D.size = d.size ∧ σ.length ≤ τ.length ∧ Holds S.e σ0 τ rs k v D ∧ Below lt x y D ∧ ∀ R, PermIn x y D R → SortedIn lt x y R → PermIn a b d R ∧ SortedIn lt a b R) (b - a) ⟨a, b, l, true, true, d, rfl, rfl, rfl, rfl, rfl, rfl, rfl, hl, Nat.le_refl _, hab, Nat.le_refl _, rfl, Nat.le_refl _, H, hB, fun R h1 h2 => ⟨h1, h2⟩⟩ ?_
      clear H hB hl
      rintro J hJ n env τ ⟨x, y, l, wb, wp, D, e0, e1, e2, e3, e8, e9, hn2, hl, hax, hxy, hyb, hD, hle, hH, hB, hfin⟩
      rw [vc_blk]
      obtain ⟨h, hh⟩ : ∃ h, h = y - x := ⟨_, rfl⟩
      have hhI : (y : Int) - x = h := by omega
      refine vc_seqX (fun env τ' => env 0 = v ∧ env 1 = gi x ∧ env 2 = gi y ∧ env 3 = gi l  ∧ env 8 = .bool wb ∧ env 9 = .bool wp ∧ env 10 = gi h ∧ τ = τ') (fun Y hY => by
        simp +contextual (maxSteps := 600000) (disch := omega) only [go_sem, Nat.reduceEqDiff, ↓reduceIte, Int.reduceEq, Int.reduceNeg, wrap_add, e0, e1, e2, e3, e8, e9, hhI]
        refine hY _ _ ⟨?_, ?_, ?_, ?_, ?_, ?_, ?_, rfl⟩
        all_goals simp +contextual (maxSteps := 600000) (disch := omega) only [go_sem, Nat.reduceEqDiff, ↓reduceIte, Int.reduceEq, Int.reduceNeg, wrap_add, e0, e1, e2, e3, e8, e9, hhI]) ?_
      clear e0 e1 e2 e3 e8 e9
      rintro env τ' ⟨e0, e1, e2, e3, e8, e9, e10, rfl⟩
      refine vc_seqX (fun env τ' => env 0 = v ∧ env 1 = gi x ∧ env 2 = gi y ∧ env 3 = gi l  ∧ env 8 = .bool wb ∧ env 9 = .bool wp ∧ env 10 = gi h ∧ τ = τ' ∧ 12 < h) (fun Y hY => by
        by_cases h12 : h ≤ 12
        · have c0 : decide ((h : Int) ≤ 12) = true := by simp; omega
          simp +contextual (maxSteps := 600000) (disch := omega) only [go_sem, Nat.reduceEqDiff, ↓reduceIte, Int.reduceEq, Int.reduceNeg, wrap_add, e0, e1, e2, e3, e8, e9, e10, c0]
          obtain ⟨τ1, R, H1⟩ := ins_ret S hH (a := x) (b := y) hxy (by omega) (by omega)
          refine by_mut R ?_
          simp +contextual (maxSteps := 600000) (disch := omega) only [go_sem, Nat.reduceEqDiff, ↓reduceIte, Int.reduceEq, Int.reduceNeg, wrap_add, List.append_nil]
          obtain ⟨p1, p2⟩ := insertionSort_holds hS D x y hxy (by omega)
          have := R.2.1
          exact ⟨_, rfl, by omega, _, rfl, H1, hfin _ p1 p2⟩
        · have c0 : decide ((h : Int) ≤ 12) = false := by simp; omega
          simp +contextual (maxSteps := 600000) (disch := omega) only [go_sem, Nat.reduceEqDiff, ↓reduceIte, Int.reduceEq, Int.reduceNeg, wrap_add, e0, e1, e2, e3, e8, e9, e10, c0]
          refine hY _ _ ⟨?_, ?_, ?_, ?_, ?_, ?_, ?_, rfl, by omega⟩
          all_goals simp +contextual (maxSteps := 600000) (disch := omega) only [go_sem, Nat.reduceEqDiff, ↓reduceIte, Int.reduceEq, Int.reduceNeg, wrap_add, e0, e1, e2, e3, e8, e9, e10]) ?_
      clear e0 e1 e2 e3 e8 e9 e10
      rintro env τ' ⟨e0, e1, e2, e3, e8, e9, e10, rfl, h12⟩
      refine vc_seqX (fun env τ' => env 0 = v ∧ env 1 = gi x ∧ env 2 = gi y ∧ env 3 = gi l  ∧ env 8 = .bool wb ∧ env 9 = .bool wp ∧ env 10 = gi h ∧ τ = τ' ∧ 0 < l) (fun Y hY => by
        by_cases h0 : l = 0
        · have c0 : ((l : Int) == 0) = true := by simp [h0]
          simp +contextual (maxSteps := 600000) (disch := omega) only [go_sem, Nat.reduceEqDiff, ↓reduceIte, Int.reduceEq, Int.reduceNeg, wrap_add, e0, e1, e2, e3, e8, e9, e10, c0]
          obtain ⟨τ1, R, H1⟩ := heap_ret S hH (a := x) (b := y) hxy (by omega) (by omega)
          refine by_mut R ?_
          simp +contextual (maxSteps := 600000) (disch := omega) only [go_sem, Nat.reduceEqDiff, ↓reduceIte, Int.reduceEq, Int.reduceNeg, wrap_add, List.append_nil]
          obtain ⟨p1, p2⟩ := heapSort_holds hS D x y hxy (by omega)
          have := R.2.1
          exact ⟨_, rfl, by omega, _, rfl, H1, hfin _ p1 p2⟩
        · have c0 : ((l : Int) == 0) = false := by simp; omega
          simp +contextual (maxSteps := 600000) (disch := omega) only [go_sem, Nat.reduceEqDiff, ↓reduceIte, Int.reduceEq, Int.reduceNeg, wrap_add, e0, e1, e2, e3, e8, e9, e10, c0]
          refine hY _ _ ⟨?_, ?_, ?_, ?_, ?_, ?_, ?_, rfl, by omega⟩
          all_goals simp +contextual (maxSteps := 600000) (disch := omega) only [go_sem, Nat.reduceEqDiff, ↓reduceIte, Int.reduceEq, Int.reduceNeg, wrap_add, e0, e1, e2, e3, e8, e9, e10]) ?_
      clear e0 e1 e2 e3 e8 e9 e10
      rintro env τ' ⟨e0, e1, e2, e3, e8, e9, e10, rfl, h0⟩
      refine vc_seqX (fun env τ' => ∃ (l' : Nat) (E : Array α), env 0 = v ∧ env 1 = gi x ∧ env 2 = gi y ∧ env 3 = gi l'  ∧ env 8 = .bool wb ∧ env 9 = .bool wp ∧ env 10 = gi h ∧ l' ≤ l ∧ τ.length ≤ τ'.length ∧ Holds S.e σ0 τ' rs k v E ∧ PermIn x y D E) (fun Y hY => by
        cases hwb : wb with
        | true =>
          rw [hwb] at e8
          simp +contextual (maxSteps := 600000) (disch := omega) only [go_sem, Nat.reduceEqDiff, ↓reduceIte, Int.reduceEq, Int.reduceNeg, wrap_add, e0, e1, e2, e3, e8, e9, e10]
          refine hY _ _ ⟨l, D, ?_, ?_, ?_, ?_, ?_, ?_, ?_, Nat.le_refl _, Nat.le_refl _, hH, permIn_refl _ _ _⟩
          all_goals simp +contextual (maxSteps := 600000) (disch := omega) only [go_sem, Nat.reduceEqDiff, ↓reduceIte, Int.reduceEq, Int.reduceNeg, wrap_add, e0, e1, e2, e3, e8, e9, e10, hwb]
        | false =>
          rw [hwb] at e8
          simp +contextual (maxSteps := 600000) (disch := omega) only [go_sem, Nat.reduceEqDiff, ↓reduceIte, Int.reduceEq, Int.reduceNeg, wrap_add, e0, e1, e2, e3, e8, e9, e10]
          obtain ⟨E, τ1, R, H1, p1⟩ := break_ret S hH (a := x) (b := y) hxy (by omega) (by omega)
          refine by_mut R ?_
          have l1 : (l : Int) - 1 = ((l - 1 : Nat) : Int) := by omega
          simp +contextual (maxSteps := 600000) (disch := omega) only [go_sem, Nat.reduceEqDiff, ↓reduceIte, Int.reduceEq, Int.reduceNeg, wrap_add, e0, e1, e2, e3, e8, e9, e10]
          refine hY _ _ ⟨l - 1, E, ?_, ?_, ?_, ?_, ?_, ?_, ?_, by omega, R.2.1, H1, p1⟩
          all_goals simp +contextual (maxSteps := 600000) (disch := omega) only [go_sem, Nat.reduceEqDiff, ↓reduceIte, Int.reduceEq, Int.reduceNeg, wrap_add, e0, e1, e2, e3, e8, e9, e10, l1, hwb]) ?_
      clear e0 e1 e2 e3 e8 e9 e10
      rintro env τ1 ⟨l1, D1, e0, e1, e2, e3, e8, e9, e10, hl1, hle1, hH1, hP1⟩
      have hD1 : D1.size = D.size := hP1.1
      refine vc_seqX (fun env τ' => ∃ (p q : Nat), env 0 = v ∧ env 1 = gi x ∧ env 2 = gi y ∧ env 3 = gi l1  ∧ env 8 = .bool wb ∧ env 9 = .bool wp ∧ env 10 = gi h ∧ env 11 = gi p ∧ env 12 = gi q ∧ τ1.length ≤ τ'.length ∧ Holds S.e σ0 τ' rs k v D1 ∧ x ≤ p ∧ p < y ∧ q ≤ 2) (fun Y hY => by
        simp +contextual (maxSteps := 600000) (disch := omega) only [go_sem, Nat.reduceEqDiff, ↓reduceIte, Int.reduceEq, Int.reduceNeg, wrap_add, e0, e1, e2, e3, e8, e9, e10]
        obtain ⟨p, q, τ2, R, H2, g1, g2, g3⟩ := choose_ret S hH1 (a := x) (b := y) (by omega) (by omega) (by omega)
        refine by_mut R ?_
        simp +contextual (maxSteps := 600000) (disch := omega) only [go_sem, Nat.reduceEqDiff, ↓reduceIte, Int.reduceEq, Int.reduceNeg, wrap_add, e0, e1, e2, e3, e8, e9, e10]
        refine hY _ _ ⟨p, q, ?_, ?_, ?_, ?_, ?_, ?_, ?_, ?_, ?_, R.2.1, H2, g1, g2, g3⟩
        all_goals simp +contextual (maxSteps := 600000) (disch := omega) only [go_sem, Nat.reduceEqDiff, ↓reduceIte, Int.reduceEq, Int.reduceNeg, wrap_add, e0, e1, e2, e3, e8, e9, e10]) ?_
      clear e0 e1 e2 e3 e8 e9 e10 hH hH1
      rintro env τ2 ⟨p0, q0, e0, e1, e2, e3, e8, e9, e10, e11, e12, hle2, hH2, g1, g2, g3⟩
      refine vc_seqX (fun env τ' => ∃ (p q : Nat) (E : Array α), env 0 = v ∧ env 1 = gi x ∧ env 2 = gi y ∧ env 3 = gi l1  ∧ env 8 = .bool wb ∧ env 9 = .bool wp ∧ env 10 = gi h ∧ env 11 = gi p ∧ env 12 = gi q ∧ τ2.length ≤ τ'.length ∧ Holds S.e σ0 τ' rs k v E ∧ x ≤ p ∧ p < y ∧ PermIn x y D1 E) (fun Y hY => by
        by_cases hq : q0 = 2
        · have c0 : ((q0 : Int) == 2) = true := by simp [hq]
          simp +contextual (maxSteps := 600000) (disch := omega) only [go_sem, Nat.reduceEqDiff, ↓reduceIte, Int.reduceEq, Int.reduceNeg, wrap_add, e0, e1, e2, e3, e8, e9, e10, e11, e12, c0]
          obtain ⟨τ3, R, H3⟩ := rev_ret S hH2 (a := x) (b := y) (by omega) (by omega) (by omega)
          refine by_mut R ?_
          have r1 : (y : Int) - 1 - ((p0 : Int) - x) = ((y - 1 - (p0 - x) : Nat) : Int) := by omega
          simp +contextual (maxSteps := 600000) (disch := omega) only [go_sem, Nat.reduceEqDiff, ↓reduceIte, Int.reduceEq, Int.reduceNeg, wrap_add, e0, e1, e2, e3, e8, e9, e10, e11, e12, r1]
          refine hY _ _ ⟨y - 1 - (p0 - x), 1, _, ?_, ?_, ?_, ?_, ?_, ?_, ?_, ?_, ?_, R.2.1, H3, by omega, by omega, reverseRange_holds D1 x y hxy (by omega)⟩
          all_goals simp +contextual (maxSteps := 600000) (disch := omega) only [go_sem, Nat.reduceEqDiff, ↓reduceIte, Int.reduceEq, Int.reduceNeg, wrap_add, e0, e1, e2, e3, e8, e9, e10, e11, Int.natCast_one]
        · have c0 : ((q0 : Int) == 2) = false := by simp; omega
          simp +contextual (maxSteps := 600000) (disch := omega) only [go_sem, Nat.reduceEqDiff, ↓reduceIte, Int.reduceEq, Int.reduceNeg, wrap_add, e0, e1, e2, e3, e8, e9, e10, e11, e12, c0]
          refine hY _ _ ⟨p0, q0, D1, ?_, ?_, ?_, ?_, ?_, ?_, ?_, ?_, ?_, Nat.le_refl _, hH2, g1, g2, permIn_refl _ _ _⟩
          all_goals simp +contextual (maxSteps := 600000) (disch := omega) only [go_sem, Nat.reduceEqDiff, ↓reduceIte, Int.reduceEq, Int.reduceNeg, wrap_add, e0, e1, e2, e3, e8, e9, e10, e11, e12]) ?_
      clear e0 e1 e2 e3 e8 e9 e10 e11 e12 hH2 g1 g2 g3
      rintro env τ3 ⟨p, q, D2, e0, e1, e2, e3, e8, e9, e10, e11, e12, hle3, hH3, g1, g2, hP2⟩
      have hD2 : D2.size = D1.size := hP2.1
      have hP02 := permIn_trans _ _ _ _ _ hP1 hP2
      have B2 : Below lt x y D2 := hB.perm (by omega) hP02
      refine vc_seqX (fun env τ' => ∃ (E : Array α), env 0 = v ∧ env 1 = gi x ∧ env 2 = gi y ∧ env 3 = gi l1  ∧ env 8 = .bool wb ∧ env 9 = .bool wp ∧ env 10 = gi h ∧ env 11 = gi p ∧ τ3.length ≤ τ'.length ∧ Holds S.e σ0 τ' rs k v E ∧ PermIn x y D2 E) (fun Y hY => by
        have stay : ∀ env', env' 0 = v → env' 1 = gi x → env' 2 = gi y → env' 3 = gi l1 → env' 8 = .bool wb → env' 9 = .bool wp → env' 10 = gi h → env' 11 = gi p → Y env' τ3 := fun env' a0 a1 a2 a3 a8 a9 a10 a11 => hY _ _ ⟨D2, a0, a1, a2, a3, a8, a9, a10, a11, Nat.le_refl _, hH3, permIn_refl _ _ _⟩
        cases hwb : wb with
        | false =>
          rw [hwb] at e8
          simp +contextual (maxSteps := 600000) (disch := omega) only [go_sem, Nat.reduceEqDiff, ↓reduceIte, Int.reduceEq, Int.reduceNeg, wrap_add, e0, e1, e2, e3, e8, e9, e10, e11, e12]
          refine stay _ ?_ ?_ ?_ ?_ ?_ ?_ ?_ ?_
          all_goals simp +contextual (maxSteps := 600000) (disch := omega) only [go_sem, Nat.reduceEqDiff, ↓reduceIte, Int.reduceEq, Int.reduceNeg, wrap_add, e0, e1, e2, e3, e8, e9, e10, e11, e12, hwb]
        | true =>
          rw [hwb] at e8
          cases hwp : wp with
          | false =>
            rw [hwp] at e9
            simp +contextual (maxSteps := 600000) (disch := omega) only [go_sem, Nat.reduceEqDiff, ↓reduceIte, Int.reduceEq, Int.reduceNeg, wrap_add, e0, e1, e2, e3, e8, e9, e10, e11, e12]
            refine stay _ ?_ ?_ ?_ ?_ ?_ ?_ ?_ ?_
            all_goals simp +contextual (maxSteps := 600000) (disch := omega) only [go_sem, Nat.reduceEqDiff, ↓reduceIte, Int.reduceEq, Int.reduceNeg, wrap_add, e0, e1, e2, e3, e8, e9, e10, e11, e12, hwb, hwp]
          | true =>
            rw [hwp] at e9
            by_cases hq : q = 1
            · have c0 : ((q : Int) == 1) = true := by simp [hq]
              simp +contextual (maxSteps := 600000) (disch := omega) only [go_sem, Nat.reduceEqDiff, ↓reduceIte, Int.reduceEq, Int.reduceNeg, wrap_add, e0, e1, e2, e3, e8, e9, e10, e11, e12, c0]
              obtain ⟨τ4, R, H4⟩ := pis_ret S hH3 (a := x) (b := y) (by omega) (by omega) (by omega)
              obtain ⟨p1, p2⟩ := partialInsertionSort_holds hS D2 x y (by omega) (by omega) B2
              have := R.2.1
              refine by_mut R ?_
              cases hr : (partialInsertionSort lt D2 x y).2 with
              | true =>
                simp +contextual (maxSteps := 600000) (disch := omega) only [go_sem, Nat.reduceEqDiff, ↓reduceIte, Int.reduceEq, Int.reduceNeg, wrap_add, List.append_nil]
                exact ⟨_, rfl, by omega, _, rfl, H4, hfin _ (permIn_trans _ _ _ _ _ hP02 p1) (p2 hr)⟩
              | false =>
                simp +contextual (maxSteps := 600000) (disch := omega) only [go_sem, Nat.reduceEqDiff, ↓reduceIte, Int.reduceEq, Int.reduceNeg, wrap_add, e0, e1, e2, e3, e8, e9, e10, e11, e12]
                refine hY _ _ ⟨_, ?_, ?_, ?_, ?_, ?_, ?_, ?_, ?_, R.2.1, H4, p1⟩
                all_goals simp +contextual (maxSteps := 600000) (disch := omega) only [go_sem, Nat.reduceEqDiff, ↓reduceIte, Int.reduceEq, Int.reduceNeg, wrap_add, e0, e1, e2, e3, e8, e9, e10, e11, e12, hwb, hwp]
            · have c0 : ((q : Int) == 1) = false := by simp; omega
              simp +contextual (maxSteps := 600000) (disch := omega) only [go_sem, Nat.reduceEqDiff, ↓reduceIte, Int.reduceEq, Int.reduceNeg, wrap_add, e0, e1, e2, e3, e8, e9, e10, e11, e12, c0]
              refine stay _ ?_ ?_ ?_ ?_ ?_ ?_ ?_ ?_
              all_goals simp +contextual (maxSteps := 600000) (disch := omega) only [go_sem, Nat.reduceEqDiff, ↓reduceIte, Int.reduceEq, Int.reduceNeg, wrap_add, e0, e1, e2, e3, e8, e9, e10, e11, e12, hwb, hwp]) ?_
      clear e0 e1 e2 e3 e8 e9 e10 e11 e12 hH3
      rintro env τ4 ⟨D3, e0, e1, e2, e3, e8, e9, e10, e11, hle4, hH4, hP3⟩
      have hD3 : D3.size = D2.size := hP3.1
      have hP03 := permIn_trans _ _ _ _ _ hP02 hP3
      have B3 : Below lt x y D3 := B2.perm (by omega) hP3
      refine vc_seqX (fun env τ' => env 0 = v ∧ env 1 = gi x ∧ env 2 = gi y ∧ env 3 = gi l1  ∧ env 8 = .bool wb ∧ env 9 = .bool wp ∧ env 10 = gi h ∧ env 11 = gi p ∧ τ4 = τ') (fun Y hY => by
        rcases Nat.eq_zero_or_pos x with hx | hx
        · have c0 : decide ((0 : Int) < x) = false := by simp; omega
          simp +contextual (maxSteps := 600000) (disch := omega) only [go_sem, Nat.reduceEqDiff, ↓reduceIte, Int.reduceEq, Int.reduceNeg, wrap_add, e0, e1, e2, e3, e8, e9, e10, e11, c0]
          refine hY _ _ ⟨?_, ?_, ?_, ?_, ?_, ?_, ?_, ?_, rfl⟩
          all_goals simp +contextual (maxSteps := 600000) (disch := omega) only [go_sem, Nat.reduceEqDiff, ↓reduceIte, Int.reduceEq, Int.reduceNeg, wrap_add, e0, e1, e2, e3, e8, e9, e10, e11]
        · have c0 : decide ((0 : Int) < x) = true := by simp; omega
          have x1 : (x : Int) - 1 = ((x - 1 : Nat) : Int) := by omega
          simp +contextual (maxSteps := 600000) (disch := omega) only [go_sem, Nat.reduceEqDiff, ↓reduceIte, Int.reduceEq, Int.reduceNeg, wrap_add, e0, e1, e2, e3, e8, e9, e10, e11, c0, x1, natOf_nat, hH4.iad (j := x - 1) (by omega), hH4.ld (j := x - 1) (by omega), hH4.iad (j := p) (by omega), hH4.ld (j := p) (by omega)]
          refine by_ret (S.call _ _ _) ?_
          cases hlt : lt D3[x - 1]! D3[p]! with
          | true =>
            simp +contextual (maxSteps := 600000) (disch := omega) only [go_sem, Nat.reduceEqDiff, ↓reduceIte, Int.reduceEq, Int.reduceNeg, wrap_add, e0, e1, e2, e3, e8, e9, e10, e11, c0, hlt]
            refine hY _ _ ⟨?_, ?_, ?_, ?_, ?_, ?_, ?_, ?_, rfl⟩
            all_goals simp +contextual (maxSteps := 600000) (disch := omega) only [go_sem, Nat.reduceEqDiff, ↓reduceIte, Int.reduceEq, Int.reduceNeg, wrap_add, e0, e1, e2, e3, e8, e9, e10, e11]
          | false =>
            simp +contextual (maxSteps := 600000) (disch := omega) only [go_sem, Nat.reduceEqDiff, ↓reduceIte, Int.reduceEq, Int.reduceNeg, wrap_add, e0, e1, e2, e3, e8, e9, e10, e11, c0, hlt]
            obtain ⟨τ5, R, H5⟩ := pe_ret S hH4 (a := x) (b := y) (p := p) (by omega) g2 (by omega) (by omega)
            have := R.2.1
            refine by_mut R ?_
            obtain ⟨mid, D4, hX⟩ : ∃ m D4, partitionEqual lt D3 x y p = (m, D4) := ⟨_, _, rfl⟩
            rw [hX] at H5
            rw [hX]
            obtain ⟨k1, k2, k3, k4, k5⟩ := round_eq hS (partitionEqual_holds lt) hx g1 g2 (by omega) B3 hlt hX
            simp +contextual (maxSteps := 600000) (disch := omega) only [go_sem, Nat.reduceEqDiff, ↓reduceIte, Int.reduceEq, Int.reduceNeg, wrap_add, e0, e1, e2, e3, e8, e9, e10, e11]
            refine ⟨y - mid, by omega, hJ _ _ _ ⟨mid, y, l1, wb, wp, D4, ?_, ?_, ?_, ?_, ?_, ?_, rfl, by omega, by omega, k2, hyb, by omega, by omega, H5, k4, fun R h1 h2 => ?_⟩⟩
            all_goals first | (simp +contextual (maxSteps := 600000) (disch := omega) only [go_sem, Nat.reduceEqDiff, ↓reduceIte, Int.reduceEq, Int.reduceNeg, wrap_add, e0, e1, e2, e3, e8, e9, e10, e11]; done) | skip
            obtain ⟨m1, m2⟩ := k5 R h1 h2
            exact hfin R (permIn_trans _ _ _ _ _ hP03 m1) m2) ?_
      clear e0 e1 e2 e3 e8 e9 e10 e11
      rintro env τ' ⟨e0, e1, e2, e3, e8, e9, e10, e11, rfl⟩
      obtain ⟨τ5, R5, H5⟩ := part_ret S hH4 (a := x) (b := y) (p := p) (by omega) g2 (by omega) (by omega)
      have hle5 := R5.2.1
      obtain ⟨mid, ap, D4, hX⟩ : ∃ m ap D4, partition lt D3 x y p = (m, ap, D4) := ⟨_, _, _, rfl⟩
      rw [hX] at H5 R5
      obtain ⟨k1, k2, k3, k4, k5, k6, k7⟩ := round_part hS (partition_holds lt) g1 g2 (by omega) B3 hX
      simp +contextual (maxSteps := 600000) (disch := omega) only [go_sem, Nat.reduceEqDiff, ↓reduceIte, Int.reduceEq, Int.reduceNeg, wrap_add, e0, e1, e2, e3, e8, e9, e10, e11]
      refine by_mut R5 ?_
      obtain ⟨q8, hq8⟩ : ∃ q, q = h / 8 := ⟨_, rfl⟩
      have hqI : (h : Int).tdiv 8 = q8 := by rw [hq8]; rfl
      have m1 : (mid : Int) - x = ((mid - x : Nat) : Int) := by omega
      have m2 : (y : Int) - mid = ((y - mid : Nat) : Int) := by omega
      by_cases hlr : mid - x < y - mid
      · have c0 : decide (((mid - x : Nat) : Int) < ((y - mid : Nat) : Int)) = true := by simp; omega
        simp +contextual (maxSteps := 600000) (disch := omega) only [go_sem, Nat.reduceEqDiff, ↓reduceIte, Int.reduceEq, Int.reduceNeg, wrap_add, e0, e1, e2, e3, e8, e9, e10, e11, hqI, m1, m2, c0]
        obtain ⟨L, τ6, R6, H6, p1, p2⟩ := ih D4 x mid l1 τ5 (by omega) k1 (by omega) (by omega) (by omega) k4 H5
        have hle6 := R6.2.1
        refine by_mut R6 ?_
        obtain ⟨k8, k9⟩ := k6 L p1 p2
        have hL : L.size = D4.size := p1.1
        simp +contextual (maxSteps := 600000) (disch := omega) only [go_sem, Nat.reduceEqDiff, ↓reduceIte, Int.reduceEq, Int.reduceNeg, wrap_add, e0, e1, e2, e3, e8, e9, e10, e11]
        refine ⟨y - (mid + 1), by omega, hJ _ _ _ ⟨mid + 1, y, l1, decide ((q8 : Int) ≤ ((mid - x : Nat) : Int)), ap, L, ?_, ?_, ?_, ?_, ?_, ?_, rfl, by omega, by omega, by omega, hyb, by omega, by omega, H6, k8, fun R h1 h2 => ?_⟩⟩
        all_goals first | (simp +contextual (maxSteps := 600000) (disch := omega) only [go_sem, Nat.reduceEqDiff, ↓reduceIte, Int.reduceEq, Int.reduceNeg, wrap_add, e0, e1, e2, e3, e8, e9, e10, e11]; done) | skip
        obtain ⟨n1, n2⟩ := k9 R h1 h2
        exact hfin R (permIn_trans _ _ _ _ _ hP03 n1) n2
      · have c0 : decide (((mid - x : Nat) : Int) < ((y - mid : Nat) : Int)) = false := by simp; omega
        simp +contextual (maxSteps := 600000) (disch := omega) only [go_sem, Nat.reduceEqDiff, ↓reduceIte, Int.reduceEq, Int.reduceNeg, wrap_add, e0, e1, e2, e3, e8, e9, e10, e11, hqI, m1, m2, c0]
        obtain ⟨L, τ6, R6, H6, p1, p2⟩ := ih D4 (mid + 1) y l1 τ5 (by omega) (by omega) (by omega) (by omega) (by omega) k5 H5
        have hle6 := R6.2.1
        refine by_mut R6 ?_
        obtain ⟨k8, k9⟩ := k7 L p1 p2
        have hL : L.size = D4.size := p1.1
        simp +contextual (maxSteps := 600000) (disch := omega) only [go_sem, Nat.reduceEqDiff, ↓reduceIte, Int.reduceEq, Int.reduceNeg, wrap_add, e0, e1, e2, e3, e8, e9, e10, e11]
        refine ⟨mid - x, by omega, hJ _ _ _ ⟨x, mid, l1, decide ((q8 : Int) ≤ ((y - mid : Nat) : Int)), ap, L, ?_, ?_, ?_, ?_, ?_, ?_, rfl, by omega, by omega, by omega, by omega, by omega, by omega, H6, k8, fun R h1 h2 => ?_⟩⟩
        all_goals first | (simp +contextual (maxSteps := 600000) (disch := omega) only [go_sem, Nat.reduceEqDiff, ↓reduceIte, Int.reduceEq, Int.reduceNeg, wrap_add, e0, e1, e2, e3, e8, e9, e10, e11]; done) | skip
        obtain ⟨n1, n2⟩ := k9 R h1 h2
        exact hfin R (permIn_trans _ _ _ _ _ hP03 n1) n2
    obtain ⟨r, τ, R, d', rfl, h⟩ := key
    exact ⟨d', τ, R, h⟩
end Go.Proofs.Ytopannfdcikgiaa.Sy.O

/- Sorts: what slices.Sort and SortFunc do. -/
namespace Go.Proofs.Ytopannfdcikgiaa.Sy.O
open Go Go.RowKit Go.Proofs.Ytopannfdcikgiaa.Sy Go.Sort
set_option linter.unusedSimpArgs false
set_option linter.unusedVariables false
set_option maxRecDepth 4000
variable {α : Type} [Inhabited α] {lt : α → α → Bool} {σ0 σ : St} {rs : List Thg} {v : GV}
theorem sorted_of {d d' : Array α} (h : PermIn 0 d.size d d') (h4 : SortedIn lt 0 d.size d') : d'.toList.Perm d.toList ∧ Up lt d'.toList := by
  obtain ⟨h1, h2, h3⟩ := h
  constructor
  · have e1 : d'.extract 0 d.size = d' := by rw [← h1]; simp
    have e2 : d.extract 0 d.size = d := by simp
    rw [e1, e2] at h3
    exact h3
  · rw [Up, List.pairwise_iff_getElem]
    intro i j hi hj hij
    simp only [Array.length_toList] at hi hj
    have := h4 i j (Nat.zero_le _) hij (by omega)
    rw [getElem!_pos d' j hj, getElem!_pos d' i hi] at this
    simpa using this
theorem sort_ret (S : SrtO α lt) (hS : SWO lt) {l : List α} (H : Hp σ0 σ rs) (k : Nat) (hk : rs[k]? = some (ow S.e.p.kd v l)) (hl : l.length ≤ 1099511627776) (htri : ∀ x ∈ l, ∀ y ∈ l, lt x y = false → lt y x = false → x = y) : ∃ τ, Ret Try.prog S.nS [v] σ (.tup []) τ ∧ Hp σ0 τ (rs.set k (ow S.e.p.kd v (insAll lt l))) := by
  have key : ∃ r τ, Ret Try.prog S.nS [v] σ r τ ∧ r = .tup [] ∧ Hp σ0 τ (rs.set k (ow S.e.p.kd v (insAll lt l))) := by
    refine ret_mut S.h_Sort (Nat.le_of_ble_eq_true rfl) ?_
    have hlen := (H.sl k hk).len
    have wu : IntKind.u64.wrap (l.length : Int) = l.length := wrapU64 (by omega) (by omega)
    simp +contextual (maxSteps := 600000) (disch := omega) only [go_sem, Nat.reduceEqDiff, ↓reduceIte, Int.reduceEq, Int.reduceNeg, wrap_add, G_Sort_o, hlen, wu]
    refine by_ret (bitsLen_ret σ l.length hl) ?_
    simp +contextual (maxSteps := 600000) (disch := omega) only [go_sem, Nat.reduceEqDiff, ↓reduceIte, Int.reduceEq, Int.reduceNeg, wrap_add, List.append_nil]
    have HH : Holds S.e σ0 σ rs k v l.toArray := Holds.of H (by simpa using hk)
    have hb := bits_40 hl
    obtain ⟨d', τ, R, H1, p1, p2⟩ := pdq_ret S hS l.length l.toArray 0 l.length (bitsLen l.length) σ (by omega) (by omega) (by simp) (by simpa using hl) (by omega) (.inl rfl) HH
    have hz : ((0 : Nat) : Int) = 0 := rfl
    rw [hz] at R
    refine by_mut R ?_
    simp +contextual (maxSteps := 600000) (disch := omega) only [go_sem, Nat.reduceEqDiff, ↓reduceIte, Int.reduceEq, Int.reduceNeg, wrap_add, List.append_nil]
    have hsz : l.length = l.toArray.size := by simp
    rw [hsz] at p1 p2
    obtain ⟨q1, q2⟩ := sorted_of p1 p2
    have hE : d'.toList = insAll lt l := sort_insAll hS htri (by simpa using q1) q2
    exact ⟨_, rfl, R.2.1, rfl, by rw [← hE]; exact H1.2⟩
  obtain ⟨r, τ, R, rfl, h⟩ := key
  exact ⟨τ, R, h⟩
end Go.Proofs.Ytopannfdcikgiaa.Sy.O

/- Runs of the same made one. -/
namespace Go.Proofs.Ytopannfdcikgiaa.Sy
open Go Go.RowKit
set_option linter.unusedSimpArgs false
set_option linter.unusedVariables false
set_option maxRecDepth 4000
theorem compact_snoc {α : Type} [DecidableEq α] (x : α) : ∀ (a : α) (l : List α), compact (a :: l ++ [x]) = if (a :: l).getLast (by simp) = x then compact (a :: l) else compact (a :: l) ++ [x]
  | a, [] => by
    by_cases h : a = x
    · simp [compact, h]
    · simp [compact, h]
  | a, b :: r => by
    have ih := compact_snoc x b r
    have e : a :: b :: r ++ [x] = a :: b :: (r ++ [x]) := rfl
    have e2 : b :: r ++ [x] = b :: (r ++ [x]) := rfl
    rw [e2] at ih
    rw [e]
    have hc : ∀ (u v : α) (t : List α), compact (u :: v :: t) = if u = v then compact (v :: t) else u :: compact (v :: t) := fun u v t => rfl
    rw [hc a b (r ++ [x]), hc a b r, ih]
    rw [show (a :: b :: r).getLast (by simp) = (b :: r).getLast (by simp) from rfl]
    by_cases h1 : a = b
    · simp [h1]
    · rw [if_neg h1, if_neg h1]
      split <;> simp
theorem compact_take {α : Type} [DecidableEq α] {l : List α} {i : Nat} (h0 : 0 < i) (hi : i < l.length) : compact (l.take (i + 1)) = if l[i - 1] = l[i] then compact (l.take i) else compact (l.take i) ++ [l[i]] := by
  rw [List.take_succ_eq_append_getElem hi]
  cases l with
  | nil => simp at hi
  | cons a t =>
    obtain ⟨j, rfl⟩ : ∃ j, i = j + 1 := ⟨i - 1, by omega⟩
    rw [List.take_succ_cons, compact_snoc]
    have : (a :: t.take j).getLast (by simp) = (a :: t)[j + 1 - 1] := by
      rw [List.getLast_eq_getElem]
      have hl : (a :: t.take j).length - 1 = j := by simp at hi ⊢; omega
      simp only [hl, Nat.add_sub_cancel]
      cases j with
      | zero => rfl
      | succ j => simp
    rw [this]
/-- An element that can be told from another. -/
structure Eqs {α : Type} [Inhabited α] [DecidableEq α] (e : El α) where
  eq : ∀ x y, binG .eql (e.val x) (e.val y) = some (.bool (decide (x = y)))
  ne : ∀ x y, binG .neq (e.val x) (e.val y) = some (.bool (!decide (x = y)))
  ze : List GV
  hze : ze.length = e.p.z
section
variable {α : Type} [Inhabited α] {e : El α} {σ0 σ τ : St} {rs : List Thg} {v : GV} {l : List α}
theorem El.atL (e : El α) (H : Hp σ τ rs) (k : Nat) (hk : rs[k]? = some (ow e.p.kd v l)) {j : Nat} (hj : j < l.length) : iadG e.p.z v (some j) = some (atz e.p.z v j) ∧ ldG e.g e.p.z τ (atz e.p.z v j) = some (e.val l[j]) := by
  have h := e.at (d := l.toArray) H k (by simpa using hk) (j := j) (by simpa using hj)
  have e1 : l.toArray[j]! = l[j] := by rw [getElem!_pos l.toArray j (by simpa using hj)]; simp
  rw [e1] at h
  exact h
theorem rowForm (H : Hp σ τ rs) (k : Nat) (hk : rs[k]? = some (ow e.p.kd v l)) (hl : l ≠ []) : ∃ g off, v = .sl g off l.length ∧ zOk τ e.p.z v = true := by
  obtain ⟨a, hO, -⟩ := H.see hk
  rcases OS.flat.1 hO with ⟨h, _⟩ | ⟨g, pre, post, rfl, hB, rfl⟩
  · exact absurd h hl
  · refine ⟨g, pre.length, rfl, ?_⟩
    simp [zOk, bk_some.1 hB]
theorem clrRow (H : Hp σ τ rs) (k : Nat) {g off : Nat} (hk : rs[k]? = some (ow e.p.kd (.sl g off l.length) l)) (ze : List GV) (hze : ze.length = e.p.z) {m : Nat} (hm : m ≤ l.length) (hm0 : 0 < m) :
    ∃ τ', clrG e.p.z ze τ (.sl g (off + m * e.p.z) (l.length - m)) = some (.tup [], τ') ∧ τ'.length = τ.length ∧ Hp σ τ' (rs.set k (ow e.p.kd (.sl g off m) (l.take m))) := by
  obtain ⟨a, hO, hnd, hbd, ht⟩ := (H.pick k hk).turn
  have hkl := (List.getElem?_eq_some_iff.1 hk).1
  rcases OS.flat.1 hO with ⟨rfl, h2, _⟩ | ⟨g', pre, post, hv, hB, rfl⟩
  · cases h2
  · injection hv with hg ho _
    subst hg ho
    have hcl : e.p.cells l = e.p.cells (l.take m) ++ e.p.cells (l.drop m) := by
      rw [← Pl.cells_append, List.take_append_drop]
    by_cases h0 : l.length - m = 0
    · refine ⟨τ, by show (if l.length - m = 0 then _ else _) = _; rw [if_pos h0], rfl, ?_⟩
      have hml : m = l.length := by omega
      subst hml
      rw [List.take_length]
      exact Hp.unpick (ht (a' := [g]) ⟨by simp, fun g' h => .inl h, by simp, fun _ _ _ => rfl⟩ hO) hkl
    · have hlt := (hbd g List.mem_cons_self).2
      have hL1 : (e.p.cells (l.take m)).length = m * e.p.z := by rw [Pl.cells_length, List.length_take]; congr 1; omega
      have hL2 : (e.p.cells (l.drop m)).length = (l.length - m) * e.p.z := by rw [Pl.cells_length, List.length_drop]
      have hR : (reps (l.length - m) ze).length = (l.length - m) * e.p.z := by rw [reps_length, hze]
      have hsp : splice (pre ++ e.p.cells l ++ post) (pre.length + m * e.p.z) (reps (l.length - m) ze) = pre ++ e.p.cells (l.take m) ++ (reps (l.length - m) ze ++ post) := by
        rw [hcl]
        unfold splice
        have t1 : (pre ++ (e.p.cells (l.take m) ++ e.p.cells (l.drop m)) ++ post).take (pre.length + m * e.p.z) = pre ++ e.p.cells (l.take m) := by
          have : pre ++ (e.p.cells (l.take m) ++ e.p.cells (l.drop m)) ++ post = (pre ++ e.p.cells (l.take m)) ++ (e.p.cells (l.drop m) ++ post) := by simp
          rw [this]
          exact List.take_left' (by simp [hL1])
        have t2 : (pre ++ (e.p.cells (l.take m) ++ e.p.cells (l.drop m)) ++ post).drop (pre.length + m * e.p.z + (reps (l.length - m) ze).length) = post := by
          exact List.drop_left' (by simp [hL1, hL2, hR]; omega)
        rw [t1, t2]; simp
      refine ⟨τ.set g (some (.row e.p.z (pre ++ e.p.cells (l.take m) ++ (reps (l.length - m) ze ++ post)))), ?_, by simp, ?_⟩
      · show (if l.length - m = 0 then _ else _) = _
        rw [if_neg h0, bk_some.1 hB]
        show (if _ then _ else _) = _
        rw [if_pos ⟨rfl, by simp [hcl, hL1, hL2, hR]; omega⟩, hsp]
      · refine Hp.unpick (ht (a' := [g]) ⟨by simp, fun g' h => .inl h, by simp, fun g' h h' => bk_set_ne fun e => h' (by rw [e]; exact List.mem_cons_self)⟩ (OS.flat.2 (.inr ⟨g, pre, _, ?_, bk_some.2 (by rw [List.getElem?_set_self hlt]), rfl⟩))) hkl
        rw [List.length_take, Nat.min_eq_left hm]
theorem cutLo {z g off n k : Nat} (h : k ≤ n) : cutG z (.sl g off n) (some (gi (k : Nat))) none = some (.sl g (off + k * z) (n - k)) := by
  simp [cutG, bndG, natOf_nat, h]
theorem cutHi {z g off n k : Nat} (h : k ≤ n) : cutG z (.sl g off n) none (some (gi (k : Nat))) = some (.sl g off k) := by
  simp [cutG, bndG, natOf_nat, h]
theorem iadSub {z g off n k j : Nat} (h : k + j < n) : iadG z (.sl g (off + k * z) (n - k)) (some j) = some (atz z (.sl g off n) (k + j)) := by
  have : j < n - k := by omega
  simp only [iadG, atz, Nat.add_mul]
  simp [this, Nat.add_assoc]
set_option maxHeartbeats 2000000 in
theorem compact_ret [DecidableEq α] (E : Eqs e) {nC : Nat} (hC : compFn Try.prog nC = some (G_Compact e.p.z e.g E.ze)) (H : Hp σ0 σ rs) (k : Nat) (hk : rs[k]? = some (ow e.p.kd v l)) (hl : l.length ≤ 1099511627776) : ∃ v' τ, Ret Try.prog nC [v] σ v' τ ∧ Hp σ0 τ (rs.set k (ow e.p.kd v' (compact l))) := by
  have key : ∃ r τ, Ret Try.prog nC [v] σ r τ ∧ Hp σ0 τ (rs.set k (ow e.p.kd r (compact l))) := by
    refine ret_mut hC (Nat.le_of_ble_eq_true rfl) ?_
    have hlen := (H.sl k hk).len
    have hkl := (List.getElem?_eq_some_iff.1 hk).1
    rcases Nat.lt_or_ge l.length 2 with h2 | h2
    · have c0 : decide ((l.length : Int) < 2) = true := by simp; omega
      simp +contextual (maxSteps := 600000) (disch := omega) only [go_sem, Nat.reduceEqDiff, ↓reduceIte, Int.reduceEq, Int.reduceNeg, wrap_add, G_Compact, hlen, c0]
      have hcl : compact l = l := by
        match l, h2 with
        | [], _ => rfl
        | [x], _ => rfl
      rw [hcl]
      exact ⟨_, rfl, by rw [← (List.getElem?_eq_some_iff.1 hk).2, List.set_getElem_self]; exact H⟩
    · have c0 : decide ((l.length : Int) < 2) = false := by simp; omega
      have hne : l ≠ [] := fun h => by rw [h] at h2; simp at h2
      obtain ⟨g, off, rfl, hz0⟩ := rowForm H k hk hne
      simp +contextual (maxSteps := 600000) (disch := omega) only [go_sem, Nat.reduceEqDiff, ↓reduceIte, Int.reduceEq, Int.reduceNeg, wrap_add, G_Compact, hlen, c0]
      have Hs : Hp σ0 σ (rs.set k (ow e.p.kd (.sl g off l.length) l)) := by rw [← (List.getElem?_eq_some_iff.1 hk).2, List.set_getElem_self]; exact H
      refine vc_lopJ (fun n env τ => ∃ i : Nat, env 0 = .sl g off l.length ∧ env 3 = gi i ∧ l.length - i = n ∧ 0 < i ∧ i ≤ l.length ∧ σ = τ ∧ compact (l.take i) = l.take i) (l.length - 1) ⟨1, rfl, rfl, rfl, by omega, by omega, rfl, by
        match l, h2 with
        | x :: t, _ => simp [compact]⟩ ?_
      rintro J hJ n env τ ⟨i, e0, e3, hn, hi0, hi, rfl, hT⟩
      rcases Nat.lt_or_ge i l.length with hlt | hge
      · have c1 : decide ((i : Int) < l.length) = true := by simp; omega
        have i1 : (i : Int) - 1 = ((i - 1 : Nat) : Int) := by omega
        obtain ⟨a1, b1⟩ := e.atL H k hk hlt
        obtain ⟨a2, b2⟩ := e.atL H k hk (j := i - 1) (by omega)
        have hS := compact_take hi0 hlt
        by_cases hE : l[i] = l[i - 1]
        · rw [if_pos hE.symm] at hS
          have dE : decide (l[i] = l[i - 1]) = true := decide_eq_true hE
          simp +contextual (maxSteps := 600000) (disch := omega) only [go_sem, Nat.reduceEqDiff, ↓reduceIte, Int.reduceEq, Int.reduceNeg, wrap_add, e0, e3, hlen, c1, i1, natOf_nat, a1, b1, a2, b2, E.eq, dE, hz0, cutLo hi, Option.map_none, Option.map_some]
          refine vc_lopJ (fun n env τ => ∃ (j m : Nat) (D : List α), env 0 = .sl g off l.length ∧ env 4 = .sl g (off + i * e.p.z) (l.length - i) ∧ env 3 = gi m ∧ env 5 = gi j ∧ l.length - i - j = n ∧ 0 < j ∧ i + j ≤ l.length ∧ i ≤ m ∧ m + 1 ≤ i + j ∧ D.length = l.length ∧ (∀ q (h1 : q < D.length) (h2 : q < l.length), i + j ≤ q + 1 → D[q] = l[q]) ∧ compact (l.take (i + j)) = D.take m ∧ σ.length ≤ τ.length ∧ Hp σ0 τ (rs.set k (ow e.p.kd (.sl g off l.length) D))) (l.length - i - 1) ⟨1, i, l, by simp +contextual (maxSteps := 600000) (disch := omega) only [go_sem, Nat.reduceEqDiff, ↓reduceIte, Int.reduceEq, Int.reduceNeg, wrap_add, e0], by simp +contextual (maxSteps := 600000) (disch := omega) only [go_sem, Nat.reduceEqDiff, ↓reduceIte, Int.reduceEq, Int.reduceNeg, wrap_add, e0], by simp +contextual (maxSteps := 600000) (disch := omega) only [go_sem, Nat.reduceEqDiff, ↓reduceIte, Int.reduceEq, Int.reduceNeg, wrap_add, e3], rfl, rfl, by omega, by omega, Nat.le_refl _, by omega, rfl, fun q h1 h2 _ => rfl, by rw [hS, hT], Nat.le_refl _, Hs⟩ ?_
          clear e0 e3
          rintro J2 hJ2 n2 env τ ⟨j, m, D, e0, e4, e3, e5, hn2, hj0, hij, hm1, hm2, hD, hA, hT2, hle, hH⟩
          have hkk : (rs.set k (ow e.p.kd (.sl g off l.length) D))[k]? = some (ow e.p.kd (.sl g off l.length) D) := by rw [List.getElem?_set_self hkl]
          have hlen2 := (hH.sl k hkk).len
          have hlen2 : lenG false (.sl g off l.length) = some (l.length : Int) := hlen
          have hlen3 : lenG false (.sl g (off + i * e.p.z) (l.length - i)) = some ((l.length - i : Nat) : Int) := rfl
          have hDne : D ≠ [] := fun h => by rw [h] at hD; simp at hD; omega
          have hz1 : zOk τ e.p.z (.sl g off l.length) = true := by
            obtain ⟨g', off', hv, hz⟩ := rowForm hH k hkk hDne
            exact hz
          rcases Nat.lt_or_ge (i + j) l.length with hlt2 | hge2
          · have c2 : decide ((j : Int) < ((l.length - i : Nat) : Int)) = true := by simp; omega
            have j1 : (j : Int) - 1 = ((j - 1 : Nat) : Int) := by omega
            have x1 := iadSub (z := e.p.z) (g := g) (off := off) (n := l.length) (k := i) (j := j) hlt2
            have x2 := iadSub (z := e.p.z) (g := g) (off := off) (n := l.length) (k := i) (j := j - 1) (by omega)
            obtain ⟨-, b1⟩ := e.atL hH k hkk (j := i + j) (by omega)
            obtain ⟨-, b2⟩ := e.atL hH k hkk (j := i + (j - 1)) (by omega)
            obtain ⟨a3, -⟩ := e.atL hH k hkk (j := m) (by omega)
            rw [hA (i + j) (by omega) hlt2 (by omega)] at b1
            rw [hA (i + (j - 1)) (by omega) (by omega) (by omega)] at b2
            have hS2 := compact_take (l := l) (i := i + j) (by omega) hlt2
            have hix : i + j - 1 = i + (j - 1) := by omega
            by_cases hE2 : l[i + j] = l[i + (j - 1)]
            · rw [if_pos (by simp only [hix]; exact hE2.symm), hT2] at hS2
              have dE : decide (l[i + j] = l[i + (j - 1)]) = true := decide_eq_true hE2
              simp +contextual (maxSteps := 600000) (disch := omega) only [go_sem, Nat.reduceEqDiff, ↓reduceIte, Int.reduceEq, Int.reduceNeg, wrap_add, e0, e3, e4, e5, hlen3, c2, j1, natOf_nat, x1, x2, b1, b2, E.ne, dE]
              refine ⟨l.length - i - (j + 1), by omega, hJ2 _ _ _ ⟨j + 1, m, D, ?_, ?_, ?_, ?_, rfl, by omega, by omega, hm1, by omega, hD, fun q h1 h2 h3 => hA q h1 h2 (by omega), hS2, hle, hH⟩⟩
              all_goals simp +contextual (maxSteps := 600000) (disch := omega) only [go_sem, Nat.reduceEqDiff, ↓reduceIte, Int.reduceEq, Int.reduceNeg, wrap_add, e0, e3, e4, e5]
            · rw [if_neg (by simp only [hix]; exact fun h => hE2 h.symm), hT2] at hS2
              have dE : decide (l[i + j] = l[i + (j - 1)]) = false := decide_eq_false hE2
              obtain ⟨τ3, s3, H3⟩ := hH.stw k hkk (j := m) (by omega) e.p.z (e.val l[i + j]) l[i + j] (e.hc _) rfl e.hz
              rw [List.set_set] at H3
              simp +contextual (maxSteps := 600000) (disch := omega) only [go_sem, Nat.reduceEqDiff, ↓reduceIte, Int.reduceEq, Int.reduceNeg, wrap_add, e0, e3, e4, e5, hlen3, c2, j1, natOf_nat, x1, x2, b1, b2, E.ne, dE, a3, s3]
              have := stG_len s3
              refine ⟨l.length - i - (j + 1), by omega, hJ2 _ _ _ ⟨j + 1, m + 1, D.set m l[i + j], ?_, ?_, ?_, ?_, rfl, by omega, by omega, by omega, by omega, by simpa using hD, fun q h1 h2 h3 => ?_, ?_, by omega, H3⟩⟩
              all_goals first | (simp +contextual (maxSteps := 600000) (disch := omega) only [go_sem, Nat.reduceEqDiff, ↓reduceIte, Int.reduceEq, Int.reduceNeg, wrap_add, e0, e3, e4, e5]; done) | skip
              · rw [List.getElem_set_ne (by omega)]
                exact hA q (by simpa using h1) h2 (by omega)
              · have e9 : i + (j + 1) = i + j + 1 := by omega
                rw [e9, hS2, List.take_succ_eq_append_getElem (by simp; omega), List.getElem_set_self, List.take_set_of_le (Nat.le_refl _)]
          · have c2 : decide ((j : Int) < ((l.length - i : Nat) : Int)) = false := by simp; omega
            have hfull : i + j = l.length := by omega
            rw [hfull, List.take_length] at hT2
            rw [← hD] at hkk
            obtain ⟨τ3, s3, hl3, H3⟩ := clrRow hH k (by rw [hD]; rw [hD] at hkk; exact hkk) E.ze E.hze (m := m) (by omega) (by omega)
            rw [hD] at s3
            rw [List.set_set, ← hT2] at H3
            have hcne : compact l ≠ [] := fun h => by
              have h9 := congrArg List.length hT2
              rw [h, List.length_take] at h9
              simp at h9; omega
            have hz3 : zOk τ3 e.p.z (.sl g off l.length) = true := by
              obtain ⟨g', off', hv, hz⟩ := rowForm H3 k (by rw [List.getElem?_set_self hkl]) hcne
              exact hz
            simp +contextual (maxSteps := 600000) (disch := omega) only [go_sem, Nat.reduceEqDiff, ↓reduceIte, Int.reduceEq, Int.reduceNeg, wrap_add, e0, e3, e4, e5, hlen3, c2, hz1, hz3, cutLo (show m ≤ l.length by omega), cutHi (show m ≤ l.length by omega), s3, Option.map_none, Option.map_some]
            exact ⟨_, rfl, by omega, H3⟩
        · rw [if_neg (fun h => hE h.symm), hT] at hS
          have dE : decide (l[i] = l[i - 1]) = false := decide_eq_false hE
          simp +contextual (maxSteps := 600000) (disch := omega) only [go_sem, Nat.reduceEqDiff, ↓reduceIte, Int.reduceEq, Int.reduceNeg, wrap_add, e0, e3, hlen, c1, i1, natOf_nat, a1, b1, a2, b2, E.eq, dE]
          refine ⟨l.length - (i + 1), by omega, hJ _ _ _ ⟨i + 1, ?_, ?_, rfl, by omega, by omega, rfl, by rw [hS, List.take_succ_eq_append_getElem hlt]⟩⟩
          all_goals simp +contextual (maxSteps := 600000) (disch := omega) only [go_sem, Nat.reduceEqDiff, ↓reduceIte, Int.reduceEq, Int.reduceNeg, wrap_add, e0, e3]
      · have c1 : decide ((i : Int) < l.length) = false := by simp; omega
        simp +contextual (maxSteps := 600000) (disch := omega) only [go_sem, Nat.reduceEqDiff, ↓reduceIte, Int.reduceEq, Int.reduceNeg, wrap_add, e0, e3, hlen, c1]
        have : i = l.length := by omega
        rw [this, List.take_length] at hT
        exact ⟨_, rfl, by rw [hT]; exact Hs⟩
  obtain ⟨r, τ, R, h⟩ := key
  exact ⟨r, τ, R, h⟩
end
end Go.Proofs.Ytopannfdcikgiaa.Sy

/- Sorts of numbers. -/
namespace Go.Proofs.Ytopannfdcikgiaa.Sy
open Go Go.RowKit
set_option linter.unusedSimpArgs false
set_option linter.unusedVariables false
set_option maxRecDepth 4000
abbrev n_cmp_Less_int : Nat := 143
def F_cmp_Less_int : Fn1 := ⟨17, [.t 4], (.seq (.reg [o 4 (.mov (.k (.bool false)))]) (.seq (.reg [o 5 (.mov (.t 0)), o 6 (.call 153 [(.t 5)]), o 7 (.mov (.t 6)), og 8 7 true (.mov (.t 1)), og 9 7 true (.call 153 [(.t 8)]), og 10 7 true (.un .not (.t 9)), o 11 (.pick (.t 7) (.t 10) (.k (.bool false))), o 12 (.mov (.t 11)), og 13 12 false (.mov (.t 0)), og 14 12 false (.mov (.t 1)), og 15 12 false (.bin .lss (.t 13) (.t 14)), o 16 (.pick (.t 12) (.k (.bool true)) (.t 15)), o 4 (.mov (.t 16))]) .ret))⟩
theorem ir_cmp_Less_int : compFn Try.prog n_cmp_Less_int = some F_cmp_Less_int := by kernel_rfl
abbrev n_slices_Sort_int_int : Nat := 109
abbrev n_slices_Compact_int_int : Nat := 110
abbrev n_slices_pdqsortOrdered_int : Nat := 130
abbrev n_slices_insertionSortOrdered_int : Nat := 137
abbrev n_slices_siftDownOrdered_int : Nat := 148
abbrev n_slices_heapSortOrdered_int : Nat := 138
abbrev n_slices_reverseRangeOrdered_int : Nat := 141
abbrev n_slices_partialInsertionSortOrdered_int : Nat := 142
abbrev n_slices_partitionEqualOrdered_int : Nat := 144
abbrev n_slices_partitionOrdered_int : Nat := 145
abbrev n_slices_breakPatternsOrdered_int : Nat := 139
abbrev n_slices_order2Ordered_int : Nat := 154
abbrev n_slices_medianOrdered_int : Nat := 152
abbrev n_slices_medianAdjacentOrdered_int : Nat := 151
abbrev n_slices_choosePivotOrdered_int : Nat := 140
def elI : El Int := ⟨pI, false, gi, fun _ => rfl, fun _ => rfl, by decide⟩
theorem cmp_Less_int_ret (σ : St) (a b : Int) : Ret Try.prog n_cmp_Less_int [gi a, gi b] σ (.bool (ltI a b)) σ := by
  refine ret_eq ir_cmp_Less_int (Nat.le_of_ble_eq_true rfl) trivial ?_
  simp +contextual (maxSteps := 600000) (disch := omega) only [go_sem, Nat.reduceEqDiff, ↓reduceIte, Int.reduceEq, Int.reduceNeg, wrap_add, F_cmp_Less_int]
  refine by_ret (cmp_isNaN_int_ret σ a) ?_
  simp +contextual (maxSteps := 600000) (disch := omega) only [go_sem, Nat.reduceEqDiff, ↓reduceIte, Int.reduceEq, Int.reduceNeg, wrap_add, ltI]
def qI : SN := ⟨n_slices_insertionSortOrdered_int, n_slices_siftDownOrdered_int, n_slices_heapSortOrdered_int, n_slices_reverseRangeOrdered_int, n_slices_partialInsertionSortOrdered_int, n_slices_partitionEqualOrdered_int, n_slices_partitionOrdered_int, n_slices_breakPatternsOrdered_int, n_slices_order2Ordered_int, n_slices_medianOrdered_int, n_slices_medianAdjacentOrdered_int, n_slices_choosePivotOrdered_int, n_slices_pdqsortOrdered_int, n_cmp_Less_int, n_slices_nextPowerOfTwo, n_slices_xorshift_Next⟩
def srtI : SrtO Int ltI where
  e := elI
  q := qI
  call := cmp_Less_int_ret
  h_insertionSort := by kernel_rfl
  h_siftDown := by kernel_rfl
  h_heapSort := by kernel_rfl
  h_reverseRange := by kernel_rfl
  h_partialInsertionSort := by kernel_rfl
  h_partitionEqual := by kernel_rfl
  h_partition := by kernel_rfl
  h_breakPatterns := by kernel_rfl
  h_order2 := by kernel_rfl
  h_median := by kernel_rfl
  h_medianAdjacent := by kernel_rfl
  h_choosePivot := by kernel_rfl
  h_pdqsort := by kernel_rfl
  nS := n_slices_Sort_int_int
  h_Sort := by kernel_rfl
  hnp := rfl
  hxs := rfl
theorem slices_Sort_int_ret {σ0 σ : St} {rs : List Thg} {v : GV} {l : List Int} (H : Hp σ0 σ rs) (k : Nat) (hk : rs[k]? = some (ow pI.kd v l)) (hl : l.length ≤ 1099511627776) : ∃ τ, Ret Try.prog n_slices_Sort_int_int [v] σ (.tup []) τ ∧ Hp σ0 τ (rs.set k (ow pI.kd v (insAll ltI l))) :=
  O.sort_ret srtI swo_ltI H k hk hl fun x _ y _ => tri_ltI x y
end Go.Proofs.Ytopannfdcikgiaa.Sy

/- Contracts: who holds what lives. -/
namespace Go.Proofs.Ytopannfdcikgiaa.Sy
open Go Go.RowKit
set_option linter.unusedSimpArgs false
set_option linter.unusedVariables false
set_option maxRecDepth 4000
abbrev n_s_LivesOf : Nat := 106
def F_s_LivesOf : Fn1 := ⟨46, [.t 8], (.seq (.reg [o 4 (.box (.t 0)), o 8 (.mov (.k .nilS))]) (.seq (.reg [o 12 (.lit 6 0 [] []), o 9 (.mov (.t 12))]) (.seq (.seq (.reg [o 10 (.mov (.k (.int .i64 0)))]) (.blk 0 (.lop (.seq (.seq (.reg [o 13 (.mov (.t 10)), o 14 (.fad 2 (.t 4)), o 15 (.ld false 1 (.t 14)), o 16 (.len false (.t 15)), o 17 (.bin .lss (.t 13) (.t 16))]) (.cnd (.t 17) .skip (.ext 0))) (.seq (.blk 1 (.seq (.reg [o 20 (.fad 2 (.t 4)), o 21 (.ld false 1 (.t 20)), o 22 (.mov (.t 10)), o 23 (.iad 6 (.t 21) (.t 22)), o 24 (.ld true 6 (.t 23)), o 11 (.new [(.bool false), (.str ⟨#[]⟩), (.str ⟨#[]⟩), (.int .i64 0), (.int .i64 0), (.int .i64 0)]), on (.st 6 (.t 11) (.t 24))]) (.seq (.reg [o 25 (.fad 0 (.t 11)), o 26 (.ld false 1 (.t 25)), o 27 (.mov (.t 1)), o 28 (.eqb false (.t 26) (.t 27)), o 29 (.mov (.t 28)), og 30 29 true (.fad 1 (.t 11)), og 31 29 true (.ld false 1 (.t 30)), og 32 29 true (.mov (.t 2)), og 33 29 true (.bin .eql (.t 31) (.t 32)), o 34 (.pick (.t 29) (.t 33) (.k (.bool false))), o 35 (.mov (.t 34)), og 36 35 true (.fad 2 (.t 11)), og 37 35 true (.ld false 1 (.t 36)), og 38 35 true (.mov (.t 3)), og 39 35 true (.bin .eql (.t 37) (.t 38)), o 40 (.pick (.t 35) (.t 39) (.k (.bool false)))]) (.cnd (.t 40) (.reg [o 41 (.mov (.t 9)), o 42 (.ld true 6 (.t 11)), o 43 (.lit 6 1 [(.bool false), (.str ⟨#[]⟩), (.str ⟨#[]⟩), (.int .i64 0), (.int .i64 0), (.int .i64 0)] [(0, 6, (.t 42))]), o 44 (.app 6 64 [(.bool false), (.str ⟨#[]⟩), (.str ⟨#[]⟩), (.int .i64 0), (.int .i64 0), (.int .i64 0)] (.t 41) (.t 43)), o 9 (.mov (.t 44))]) .skip)))) (.reg [o 18 (.mov (.t 10)), o 19 (.bin .add (.t 18) (.k (.int .i64 1))), o 10 (.mov (.t 19))])))))) (.seq (.reg [o 45 (.mov (.t 9)), o 8 (.mov (.t 45))]) .ret))))⟩
theorem ir_s_LivesOf : compFn Try.prog n_s_LivesOf = some F_s_LivesOf := by kernel_rfl
abbrev n_i_LivesOf : Nat := 108
def F_i_LivesOf : Fn1 := ⟨42, [.t 8], (.seq (.reg [o 4 (.box (.t 0)), o 8 (.mov (.k .nilS))]) (.seq (.reg [o 12 (.lit 6 0 [] []), o 9 (.mov (.t 12))]) (.seq (.seq (.reg [o 13 (.fad 2 (.t 4)), o 14 (.ld false 1 (.t 13)), o 15 (.len false (.t 14)), o 16 (.mov (.k (.int .i64 0)))]) (.blk 0 (.lop (.seq (.reg [o 17 (.bin .lss (.t 16) (.t 15))]) (.seq (.cnd (.t 17) .skip (.ext 0)) (.seq (.blk 1 (.seq (.reg [o 18 (.iad 6 (.t 14) (.t 16)), o 19 (.ld true 6 (.t 18)), o 11 (.new [(.bool false), (.str ⟨#[]⟩), (.str ⟨#[]⟩), (.int .i64 0), (.int .i64 0), (.int .i64 0)]), on (.st 6 (.t 11) (.t 19))]) (.seq (.reg [o 20 (.fad 0 (.t 11)), o 21 (.ld false 1 (.t 20)), o 22 (.mov (.t 1)), o 23 (.eqb false (.t 21) (.t 22)), o 24 (.mov (.t 23)), og 25 24 true (.fad 1 (.t 11)), og 26 24 true (.ld false 1 (.t 25)), og 27 24 true (.mov (.t 2)), og 28 24 true (.bin .eql (.t 26) (.t 27)), o 29 (.pick (.t 24) (.t 28) (.k (.bool false))), o 30 (.mov (.t 29)), og 31 30 true (.fad 2 (.t 11)), og 32 30 true (.ld false 1 (.t 31)), og 33 30 true (.mov (.t 3)), og 34 30 true (.bin .eql (.t 32) (.t 33)), o 35 (.pick (.t 30) (.t 34) (.k (.bool false)))]) (.cnd (.t 35) (.reg [o 36 (.mov (.t 9)), o 37 (.ld true 6 (.t 11)), o 38 (.lit 6 1 [(.bool false), (.str ⟨#[]⟩), (.str ⟨#[]⟩), (.int .i64 0), (.int .i64 0), (.int .i64 0)] [(0, 6, (.t 37))]), o 39 (.app 6 64 [(.bool false), (.str ⟨#[]⟩), (.str ⟨#[]⟩), (.int .i64 0), (.int .i64 0), (.int .i64 0)] (.t 36) (.t 38)), o 9 (.mov (.t 39))]) .skip)))) (.reg [o 40 (.bin .add (.t 16) (.k (.int .i64 1))), o 16 (.mov (.t 40))]))))))) (.seq (.reg [o 41 (.mov (.t 9)), o 8 (.mov (.t 41))]) .ret))))⟩
theorem ir_i_LivesOf : compFn Try.prog n_i_LivesOf = some F_i_LivesOf := by kernel_rfl
theorem live_snoc {l : List Live} {m : Bool} {o k : ByteArray} {i : Nat} (hi : i < l.length) : (l.take (i + 1)).filter (isLive m o k) = if isLive m o k l[i] then (l.take i).filter (isLive m o k) ++ [l[i]] else (l.take i).filter (isLive m o k) := by
  rw [filter_snoc' hi]
  split <;> simp
theorem s_LivesOf_ret (σ : St) (cs : List GV) (s : State) (hR : kState.R σ s cs) (m : Bool) (o k : ByteArray) (hl : msState s ≤ 1099511627776) :
    ∃ r τ, Ret Try.prog n_s_LivesOf [.agg cs, .bool m, .str o, .str k] σ r τ ∧ Hp σ τ [ow pLive.kd r (livesOf s m o k)] := by
  obtain ⟨a, b, c, v, rfl, _, _, hv, _⟩ := hR
  obtain ⟨l1, l2, l3, l4, _⟩ := msState_all hl
  refine ret_dr ir_s_LivesOf (Nat.le_of_ble_eq_true rfl) ?_
  have H := ((Hp.refl σ).new 1 [a, b, c, v]).nil_Live
  simp +contextual (maxSteps := 600000) (disch := omega) only [go_sem, Nat.reduceEqDiff, ↓reduceIte, Int.reduceEq, Int.reduceNeg, wrap_add, F_s_LivesOf]
  generalize hb : σ.length = n1 at *
  refine vc_forJ s.lives.length 10 (fun i env τ => env 1 = .bool m ∧ env 2 = .str o ∧ env 3 = .str k ∧ env 4 = .ptr n1 0 ∧ ∃ w, env 9 = w ∧ Hp σ τ [ow pLive.kd w ((s.lives.take i).filter (isLive m o k)), pt 1 n1 [a, b, c, v]]) rfl ⟨rfl, rfl, rfl, rfl, _, rfl, H⟩ ?_ ?_
  · rintro J hJ i env τ hi e10 c0 ⟨e1, e2, e3, e4, w, e9, H⟩
    have hfl := List.length_filter_le (isLive m o k) (s.lives.take i)
    rw [List.length_take] at hfl
    have C1 := Live_at (hv.pre H.sub) hi
    have G := H.grow (pre1 τ (some (Blk.row 1 [.bool s.lives[i].map, .str s.lives[i].obj, .str s.lives[i].key, gi s.lives[i].val, gi s.lives[i].dot.rep, gi s.lives[i].dot.seq])))
    have hfs := live_snoc (m := m) (o := o) (k := k) hi
    cases hm : (s.lives[i].map == m) with
    | false =>
      have hk0 : isLive m o k s.lives[i] = false := by simp [isLive, hm]
      rw [if_neg (by simp [hk0])] at hfs
      simp +contextual (maxSteps := 600000) (disch := omega) only [go_sem, Nat.reduceEqDiff, ↓reduceIte, Int.reduceEq, Int.reduceNeg, wrap_add, c0, e1, e2, e3, e4, e9, e10, C1, ld_ptr (H.pt 1 rfl), hv.len, hm, Bool.false_bne]
      refine hJ _ _ _ ⟨?_, ?_, ?_, ?_, w, ?_, by rw [hfs]; exact G⟩
      all_goals simp +contextual (maxSteps := 600000) (disch := omega) only [go_sem, Nat.reduceEqDiff, ↓reduceIte, Int.reduceEq, Int.reduceNeg, wrap_add, e1, e2, e3, e4, e9, e10]
    | true =>
      cases ho : decide (s.lives[i].obj = o) with
      | false =>
        have hk0 : isLive m o k s.lives[i] = false := by simp [isLive, hm, ho]
        rw [if_neg (by simp [hk0])] at hfs
        simp +contextual (maxSteps := 600000) (disch := omega) only [go_sem, Nat.reduceEqDiff, ↓reduceIte, Int.reduceEq, Int.reduceNeg, wrap_add, c0, e1, e2, e3, e4, e9, e10, C1, ld_ptr (H.pt 1 rfl), hv.len, hm, ho, Bool.false_bne]
        refine hJ _ _ _ ⟨?_, ?_, ?_, ?_, w, ?_, by rw [hfs]; exact G⟩
        all_goals simp +contextual (maxSteps := 600000) (disch := omega) only [go_sem, Nat.reduceEqDiff, ↓reduceIte, Int.reduceEq, Int.reduceNeg, wrap_add, e1, e2, e3, e4, e9, e10]
      | true =>
        cases hk : decide (s.lives[i].key = k) with
        | false =>
          have hk0 : isLive m o k s.lives[i] = false := by simp [isLive, hm, ho, hk]
          rw [if_neg (by simp [hk0])] at hfs
          simp +contextual (maxSteps := 600000) (disch := omega) only [go_sem, Nat.reduceEqDiff, ↓reduceIte, Int.reduceEq, Int.reduceNeg, wrap_add, c0, e1, e2, e3, e4, e9, e10, C1, ld_ptr (H.pt 1 rfl), hv.len, hm, ho, hk, Bool.false_bne]
          refine hJ _ _ _ ⟨?_, ?_, ?_, ?_, w, ?_, by rw [hfs]; exact G⟩
          all_goals simp +contextual (maxSteps := 600000) (disch := omega) only [go_sem, Nat.reduceEqDiff, ↓reduceIte, Int.reduceEq, Int.reduceNeg, wrap_add, e1, e2, e3, e4, e9, e10]
        | true =>
          have hk0 : isLive m o k s.lives[i] = true := by simp [isLive, hm, ho, hk]
          rw [if_pos hk0] at hfs
          obtain ⟨w', τ3, e5, H3⟩ := G.app_Live 0 rfl s.lives[i] (by omega)
          simp +contextual (maxSteps := 600000) (disch := omega) only [go_sem, Nat.reduceEqDiff, ↓reduceIte, Int.reduceEq, Int.reduceNeg, wrap_add, c0, e1, e2, e3, e4, e9, e10, C1, ld_ptr (H.pt 1 rfl), hv.len, hm, ho, hk, Bool.false_bne, e5]
          refine hJ _ _ _ ⟨?_, ?_, ?_, ?_, w', ?_, by rw [hfs]; exact H3⟩
          all_goals simp +contextual (maxSteps := 600000) (disch := omega) only [go_sem, Nat.reduceEqDiff, ↓reduceIte, Int.reduceEq, Int.reduceNeg, wrap_add, e1, e2, e3, e4, e9, e10]
  · rintro env τ e10 c0 ⟨e1, e2, e3, e4, w, e9, H⟩
    rw [List.take_length] at H
    simp +contextual (maxSteps := 600000) (disch := omega) only [go_sem, Nat.reduceEqDiff, ↓reduceIte, Int.reduceEq, Int.reduceNeg, wrap_add, c0, e1, e2, e3, e4, e9, e10, ld_ptr (H.pt 1 rfl), hv.len]
    exact ⟨_, rfl, H.one⟩
theorem i_LivesOf_ret (σ : St) (cs : List GV) (s : State) (hR : kState.R σ s cs) (m : Bool) (o k : ByteArray) (hl : msState s ≤ 1099511627776) :
    ∃ r τ, Ret Try.prog n_i_LivesOf [.agg cs, .bool m, .str o, .str k] σ r τ ∧ Hp σ τ [ow pLive.kd r (livesOf s m o k)] := by
  obtain ⟨a, b, c, v, rfl, _, _, hv, _⟩ := hR
  obtain ⟨l1, l2, l3, l4, _⟩ := msState_all hl
  refine ret_dr ir_i_LivesOf (Nat.le_of_ble_eq_true rfl) ?_
  have H := ((Hp.refl σ).new 1 [a, b, c, v]).nil_Live
  simp +contextual (maxSteps := 600000) (disch := omega) only [go_sem, Nat.reduceEqDiff, ↓reduceIte, Int.reduceEq, Int.reduceNeg, wrap_add, F_i_LivesOf, hv.len]
  generalize hb : σ.length = n1 at *
  refine vc_forJ s.lives.length 16 (fun i env τ => env 1 = .bool m ∧ env 2 = .str o ∧ env 3 = .str k ∧ env 14 = c ∧ env 15 = gi s.lives.length ∧ ∃ w, env 9 = w ∧ Hp σ τ [ow pLive.kd w ((s.lives.take i).filter (isLive m o k)), pt 1 n1 [a, b, c, v]]) rfl ⟨rfl, rfl, rfl, rfl, rfl, _, rfl, H⟩ ?_ ?_
  · rintro J hJ i env τ hi e10 c0 ⟨e1, e2, e3, e4, e15, w, e9, H⟩
    have hfl := List.length_filter_le (isLive m o k) (s.lives.take i)
    rw [List.length_take] at hfl
    have C1 := Live_at (hv.pre H.sub) hi
    have G := H.grow (pre1 τ (some (Blk.row 1 [.bool s.lives[i].map, .str s.lives[i].obj, .str s.lives[i].key, gi s.lives[i].val, gi s.lives[i].dot.rep, gi s.lives[i].dot.seq])))
    have hfs := live_snoc (m := m) (o := o) (k := k) hi
    cases hm : (s.lives[i].map == m) with
    | false =>
      have hk0 : isLive m o k s.lives[i] = false := by simp [isLive, hm]
      rw [if_neg (by simp [hk0])] at hfs
      simp +contextual (maxSteps := 600000) (disch := omega) only [go_sem, Nat.reduceEqDiff, ↓reduceIte, Int.reduceEq, Int.reduceNeg, wrap_add, c0, e1, e2, e3, e4, e15, e9, e10, C1, hm, Bool.false_bne]
      refine hJ _ _ _ ⟨?_, ?_, ?_, ?_, ?_, w, ?_, by rw [hfs]; exact G⟩
      all_goals simp +contextual (maxSteps := 600000) (disch := omega) only [go_sem, Nat.reduceEqDiff, ↓reduceIte, Int.reduceEq, Int.reduceNeg, wrap_add, e1, e2, e3, e4, e15, e9, e10]
    | true =>
      cases ho : decide (s.lives[i].obj = o) with
      | false =>
        have hk0 : isLive m o k s.lives[i] = false := by simp [isLive, hm, ho]
        rw [if_neg (by simp [hk0])] at hfs
        simp +contextual (maxSteps := 600000) (disch := omega) only [go_sem, Nat.reduceEqDiff, ↓reduceIte, Int.reduceEq, Int.reduceNeg, wrap_add, c0, e1, e2, e3, e4, e15, e9, e10, C1, hm, ho, Bool.false_bne]
        refine hJ _ _ _ ⟨?_, ?_, ?_, ?_, ?_, w, ?_, by rw [hfs]; exact G⟩
        all_goals simp +contextual (maxSteps := 600000) (disch := omega) only [go_sem, Nat.reduceEqDiff, ↓reduceIte, Int.reduceEq, Int.reduceNeg, wrap_add, e1, e2, e3, e4, e15, e9, e10]
      | true =>
        cases hk : decide (s.lives[i].key = k) with
        | false =>
          have hk0 : isLive m o k s.lives[i] = false := by simp [isLive, hm, ho, hk]
          rw [if_neg (by simp [hk0])] at hfs
          simp +contextual (maxSteps := 600000) (disch := omega) only [go_sem, Nat.reduceEqDiff, ↓reduceIte, Int.reduceEq, Int.reduceNeg, wrap_add, c0, e1, e2, e3, e4, e15, e9, e10, C1, hm, ho, hk, Bool.false_bne]
          refine hJ _ _ _ ⟨?_, ?_, ?_, ?_, ?_, w, ?_, by rw [hfs]; exact G⟩
          all_goals simp +contextual (maxSteps := 600000) (disch := omega) only [go_sem, Nat.reduceEqDiff, ↓reduceIte, Int.reduceEq, Int.reduceNeg, wrap_add, e1, e2, e3, e4, e15, e9, e10]
        | true =>
          have hk0 : isLive m o k s.lives[i] = true := by simp [isLive, hm, ho, hk]
          rw [if_pos hk0] at hfs
          obtain ⟨w', τ3, e5, H3⟩ := G.app_Live 0 rfl s.lives[i] (by omega)
          simp +contextual (maxSteps := 600000) (disch := omega) only [go_sem, Nat.reduceEqDiff, ↓reduceIte, Int.reduceEq, Int.reduceNeg, wrap_add, c0, e1, e2, e3, e4, e15, e9, e10, C1, hm, ho, hk, Bool.false_bne, e5]
          refine hJ _ _ _ ⟨?_, ?_, ?_, ?_, ?_, w', ?_, by rw [hfs]; exact H3⟩
          all_goals simp +contextual (maxSteps := 600000) (disch := omega) only [go_sem, Nat.reduceEqDiff, ↓reduceIte, Int.reduceEq, Int.reduceNeg, wrap_add, e1, e2, e3, e4, e15, e9, e10]
  · rintro env τ e10 c0 ⟨e1, e2, e3, e4, e15, w, e9, H⟩
    rw [List.take_length] at H
    simp +contextual (maxSteps := 600000) (disch := omega) only [go_sem, Nat.reduceEqDiff, ↓reduceIte, Int.reduceEq, Int.reduceNeg, wrap_add, c0, e1, e2, e3, e4, e15, e9, e10]
    exact ⟨_, rfl, H.one⟩
end Go.Proofs.Ytopannfdcikgiaa.Sy

/- Contracts: whose lives. -/
namespace Go.Proofs.Ytopannfdcikgiaa.Sy
open Go Go.RowKit
set_option linter.unusedSimpArgs false
set_option linter.unusedVariables false
set_option maxRecDepth 4000
abbrev n_s_LivesWhose : Nat := 60
def F_s_LivesWhose : Fn1 := ⟨73, [.t 8], (.seq (.reg [o 4 (.box (.t 0)), o 8 (.mov (.k .nilS))]) (.seq (.reg [o 16 (.lit 1 0 [] []), o 9 (.mov (.t 16))]) (.seq (.reg [o 17 (.ld true 4 (.t 4)), o 18 (.mov (.t 1)), o 19 (.mov (.t 2)), o 20 (.mov (.t 3)), o 21 (.call 106 [(.t 17), (.t 18), (.t 19), (.t 20)]), o 10 (.mov (.t 21))]) (.seq (.seq (.reg [o 11 (.mov (.k (.int .i64 0)))]) (.blk 0 (.lop (.seq (.seq (.reg [o 22 (.mov (.t 11)), o 23 (.mov (.t 10)), o 24 (.len false (.t 23)), o 25 (.bin .lss (.t 22) (.t 24))]) (.cnd (.t 25) .skip (.ext 0))) (.seq (.blk 1 (.seq (.reg [o 28 (.mov (.t 10)), o 29 (.mov (.t 11)), o 30 (.iad 6 (.t 28) (.t 29)), o 31 (.fad 4 (.t 30)), o 32 (.fad 0 (.t 31)), o 33 (.ld false 1 (.t 32)), o 12 (.mov (.t 33))]) (.seq (.seq (.reg [o 34 (.mov (.t 9)), o 35 (.mov (.t 12)), o 36 (.call 107 [(.t 34), (.t 35)])]) (.cnd (.t 36) (.ext 1) .skip)) (.seq (.reg [o 37 (.lit 1 0 [] []), o 13 (.mov (.t 37))]) (.seq (.reg [o 14 (.mov (.k (.bool false)))]) (.seq (.seq (.reg [o 15 (.mov (.k (.int .i64 0)))]) (.blk 2 (.lop (.seq (.seq (.reg [o 38 (.mov (.t 15)), o 39 (.mov (.t 9)), o 40 (.len false (.t 39)), o 41 (.bin .lss (.t 38) (.t 40))]) (.cnd (.t 41) .skip (.ext 2))) (.seq (.blk 3 (.seq (.seq (.reg [o 44 (.mov (.t 14)), o 45 (.un .not (.t 44)), o 46 (.mov (.t 45)), og 47 46 true (.mov (.t 12)), og 48 46 true (.mov (.t 9)), og 49 46 true (.mov (.t 15)), og 50 46 true (.iad 1 (.t 48) (.t 49)), og 51 46 true (.ld false 1 (.t 50)), og 52 46 true (.bin .lss (.t 47) (.t 51)), o 53 (.pick (.t 46) (.t 52) (.k (.bool false)))]) (.cnd (.t 53) (.seq (.reg [o 54 (.mov (.t 13)), o 55 (.mov (.t 12)), o 56 (.lit 1 1 [(.int .i64 0)] [(0, 1, (.t 55))]), o 57 (.app 1 8 [(.int .i64 0)] (.t 54) (.t 56)), o 13 (.mov (.t 57))]) (.reg [o 14 (.mov (.k (.bool true)))])) .skip)) (.reg [o 58 (.mov (.t 13)), o 59 (.mov (.t 9)), o 60 (.mov (.t 15)), o 61 (.iad 1 (.t 59) (.t 60)), o 62 (.ld false 1 (.t 61)), o 63 (.lit 1 1 [(.int .i64 0)] [(0, 1, (.t 62))]), o 64 (.app 1 8 [(.int .i64 0)] (.t 58) (.t 63)), o 13 (.mov (.t 64))]))) (.reg [o 42 (.mov (.t 15)), o 43 (.bin .add (.t 42) (.k (.int .i64 1))), o 15 (.mov (.t 43))])))))) (.seq (.seq (.reg [o 65 (.mov (.t 14)), o 66 (.un .not (.t 65))]) (.cnd (.t 66) (.reg [o 67 (.mov (.t 13)), o 68 (.mov (.t 12)), o 69 (.lit 1 1 [(.int .i64 0)] [(0, 1, (.t 68))]), o 70 (.app 1 8 [(.int .i64 0)] (.t 67) (.t 69)), o 13 (.mov (.t 70))]) .skip)) (.reg [o 71 (.mov (.t 13)), o 9 (.mov (.t 71))])))))))) (.reg [o 26 (.mov (.t 11)), o 27 (.bin .add (.t 26) (.k (.int .i64 1))), o 11 (.mov (.t 27))])))))) (.seq (.reg [o 72 (.mov (.t 9)), o 8 (.mov (.t 72))]) .ret)))))⟩
theorem ir_s_LivesWhose : compFn Try.prog n_s_LivesWhose = some F_s_LivesWhose := by kernel_rfl
abbrev n_i_LivesWhose : Nat := 61
def F_i_LivesWhose : Fn1 := ⟨34, [.t 8], (.seq (.reg [o 4 (.box (.t 0)), o 8 (.mov (.k .nilS))]) (.seq (.reg [o 12 (.lit 1 0 [] []), o 9 (.mov (.t 12))]) (.seq (.seq (.reg [o 13 (.ld true 4 (.t 4)), o 14 (.mov (.t 1)), o 15 (.mov (.t 2)), o 16 (.mov (.t 3)), o 17 (.call 108 [(.t 13), (.t 14), (.t 15), (.t 16)]), o 18 (.len false (.t 17)), o 19 (.mov (.k (.int .i64 0)))]) (.blk 0 (.lop (.seq (.reg [o 20 (.bin .lss (.t 19) (.t 18))]) (.seq (.cnd (.t 20) .skip (.ext 0)) (.seq (.blk 1 (.seq (.reg [o 21 (.iad 6 (.t 17) (.t 19)), o 22 (.ld true 6 (.t 21)), o 11 (.new [(.bool false), (.str ⟨#[]⟩), (.str ⟨#[]⟩), (.int .i64 0), (.int .i64 0), (.int .i64 0)]), on (.st 6 (.t 11) (.t 22))]) (.reg [o 23 (.mov (.t 9)), o 24 (.fad 4 (.t 11)), o 25 (.fad 0 (.t 24)), o 26 (.ld false 1 (.t 25)), o 27 (.lit 1 1 [(.int .i64 0)] [(0, 1, (.t 26))]), o 28 (.app 1 8 [(.int .i64 0)] (.t 23) (.t 27)), o 9 (.mov (.t 28))]))) (.reg [o 29 (.bin .add (.t 19) (.k (.int .i64 1))), o 19 (.mov (.t 29))]))))))) (.seq (.reg [o 30 (.mov (.t 9)), o 31 (.call 109 [(.t 30)])]) (.seq (.reg [o 32 (.mov (.t 9)), o 33 (.call 110 [(.t 32)]), o 8 (.mov (.t 33))]) .ret)))))⟩
theorem ir_i_LivesWhose : compFn Try.prog n_i_LivesWhose = some F_i_LivesWhose := by kernel_rfl
abbrev n_s_l22In : Nat := 107
def F_s_l22In : Fn1 := ⟨18, [.t 4], (.seq (.reg [o 4 (.mov (.k (.bool false)))]) (.seq (.seq (.reg [o 5 (.mov (.k (.int .i64 0)))]) (.blk 0 (.lop (.seq (.seq (.reg [o 6 (.mov (.t 5)), o 7 (.mov (.t 0)), o 8 (.len false (.t 7)), o 9 (.bin .lss (.t 6) (.t 8))]) (.cnd (.t 9) .skip (.ext 0))) (.seq (.blk 1 (.seq (.reg [o 12 (.mov (.t 0)), o 13 (.mov (.t 5)), o 14 (.iad 1 (.t 12) (.t 13)), o 15 (.ld false 1 (.t 14)), o 16 (.mov (.t 1)), o 17 (.bin .eql (.t 15) (.t 16))]) (.cnd (.t 17) (.seq (.reg [o 4 (.mov (.k (.bool true)))]) .ret) .skip))) (.reg [o 10 (.mov (.t 5)), o 11 (.bin .add (.t 10) (.k (.int .i64 1))), o 5 (.mov (.t 11))])))))) (.seq (.reg [o 4 (.mov (.k (.bool false)))]) .ret)))⟩
theorem ir_s_l22In : compFn Try.prog n_s_l22In = some F_s_l22In := by kernel_rfl
def eqI : Eqs elI := ⟨fun x y => by
  show binG .eql (gi x) (gi y) = _
  simp only [bin_eql]
  congr 2, fun x y => by
  show binG .neq (gi x) (gi y) = _
  simp only [bin_neq]
  congr 2, [.int .i64 0], rfl⟩
theorem slices_Compact_int_ir : compFn Try.prog n_slices_Compact_int_int = some (G_Compact elI.p.z elI.g eqI.ze) := by kernel_rfl
theorem slices_Compact_int_ret {σ0 σ : St} {rs : List Thg} {v : GV} {l : List Int} (H : Hp σ0 σ rs) (k : Nat) (hk : rs[k]? = some (ow pI.kd v l)) (hl : l.length ≤ 1099511627776) : ∃ v' τ, Ret Try.prog n_slices_Compact_int_int [v] σ v' τ ∧ Hp σ0 τ (rs.set k (ow pI.kd v' (compact l))) :=
  compact_ret eqI slices_Compact_int_ir H k hk hl
theorem s_l22In_ret (σ : St) (v : GV) (l : List Int) (h : RS pI.kd σ v l) (x : Int) (hl : l.length ≤ 1099511627776) : Ret Try.prog n_s_l22In [v, gi x] σ (.bool (decide (x ∈ l))) σ := by
  refine ret_eq ir_s_l22In (Nat.le_of_ble_eq_true rfl) trivial ?_
  simp +contextual (maxSteps := 600000) (disch := omega) only [go_sem, Nat.reduceEqDiff, ↓reduceIte, Int.reduceEq, Int.reduceNeg, wrap_add, F_s_l22In]
  refine vc_for l.length 5 (fun i env τ => env 0 = v ∧ env 1 = gi x ∧ (∀ j (hj : j < i) (hl : j < l.length), l[j] ≠ x) ∧ σ <+: τ) rfl ⟨rfl, rfl, fun j hj => by omega, List.prefix_refl _⟩ ?_ ?_
  · rintro i env τ hi e5 c0 ⟨e0, e1, ha, hp⟩
    simp +contextual (maxSteps := 600000) (disch := omega) only [go_sem, Nat.reduceEqDiff, ↓reduceIte, Int.reduceEq, Int.reduceNeg, wrap_add, c0, e0, e1, e5, (h.pre hp).len, int_at (h.pre hp) hi, hp]
    refine ⟨fun hx => ?_, fun hx j hj hl => ?_⟩
    · have hx : l[i] = x := by simpa using hx
      have : x ∈ l := hx ▸ List.getElem_mem hi
      simp [this]
    · rcases Nat.lt_or_ge j i with h2 | h2
      · exact ha j h2 hl
      · have : j = i := by omega
        subst this
        simpa using hx
  · rintro env τ e5 c0 ⟨e0, e1, ha, hp⟩
    have hn : ¬ x ∈ l := fun hm => by
      obtain ⟨j, hj, he⟩ := List.getElem_of_mem hm
      exact ha j hj hj he
    simp +contextual (maxSteps := 600000) (disch := omega) only [go_sem, Nat.reduceEqDiff, ↓reduceIte, Int.reduceEq, Int.reduceNeg, wrap_add, c0, e0, e1, e5, (h.pre hp).len, hp]
    simp [hn]
/-- One number is put in its place: what is done, what is to do. -/
def insOk (x : Int) (acc nxt : List Int) (j : Nat) (put : Bool) : Prop := if put then nxt ++ acc.drop j = insB ltI x acc else nxt ++ insB ltI x (acc.drop j) = insB ltI x acc
theorem insOk_len {x : Int} {acc nxt : List Int} {j : Nat} {put : Bool} (h : insOk x acc nxt j put) : nxt.length ≤ acc.length + 1 := by
  unfold insOk at h
  have : (insB ltI x acc).length = acc.length + 1 := insB_length ltI x acc
  split at h
  · rw [← this, ← h]; simp
  · rw [← this, ← h]; simp
theorem insOk_put {x : Int} {acc nxt : List Int} {j : Nat} (h : insOk x acc nxt j false) (hj : j < acc.length) (hl : x < acc[j]) : insOk x acc (nxt ++ [x] ++ [acc[j]]) (j + 1) true := by
  simp only [insOk, Bool.false_eq_true, if_false, if_true] at *
  rw [List.drop_eq_getElem_cons hj, insB, if_pos (by simp [ltI, hl])] at h
  rw [← h]; simp
theorem insOk_step {x : Int} {acc nxt : List Int} {j : Nat} {put : Bool} (h : insOk x acc nxt j put) (hj : j < acc.length) (hl : put = true ∨ ¬ x < acc[j]) : insOk x acc (nxt ++ [acc[j]]) (j + 1) put := by
  cases put with
  | true =>
    simp only [insOk, if_true] at *
    rw [List.drop_eq_getElem_cons hj] at h
    rw [← h]; simp
  | false =>
    have hl : ¬ x < acc[j] := hl.resolve_left (by intro h; cases h)
    simp only [insOk, Bool.false_eq_true, if_false] at h ⊢
    rw [List.drop_eq_getElem_cons hj, insB, if_neg (by simp only [ltI, decide_eq_true_eq]; exact hl)] at h
    rw [← h]; simp
theorem insOk_end {x : Int} {acc nxt : List Int} {put : Bool} (h : insOk x acc nxt acc.length put) : (if put then nxt else nxt ++ [x]) = insB ltI x acc := by
  unfold insOk at h
  split
  · rename_i hp; rw [if_pos hp] at h; simpa using h
  · rename_i hp; rw [if_neg hp] at h; simpa [insB] using h
theorem reps_snoc {l : List Live} {i : Nat} (hi : i < l.length) : putAll ltI ((l.take (i + 1)).map (·.dot.rep)) = putU ltI l[i].dot.rep (putAll ltI ((l.take i).map (·.dot.rep))) := by
  rw [List.take_succ_eq_append_getElem hi, List.map_append, List.map_cons, List.map_nil, putAll_snoc]
set_option maxHeartbeats 2000000 in
theorem s_LivesWhose_r0 (σ : St) (cs : List GV) (s : State) (hR : kState.R σ s cs) (m : Bool) (o k : ByteArray) (hl : msState s ≤ 1099511627776) :
    ∃ r τ, Ret Try.prog n_s_LivesWhose [.agg cs, .bool m, .str o, .str k] σ r τ ∧ Hp σ τ [ow pI.kd r (livesWhose s m o k)] := by
  have hR0 := hR
  obtain ⟨a, b, c, v, rfl, _, _, hv, _⟩ := hR
  obtain ⟨l1, l2, l3, l4, _⟩ := msState_all hl
  refine ret_dr ir_s_LivesWhose (Nat.le_of_ble_eq_true rfl) ?_
  have H := ((Hp.refl σ).new 1 [a, b, c, v]).nil_int
  simp +contextual (maxSteps := 600000) (disch := omega) only [go_sem, Nat.reduceEqDiff, ↓reduceIte, Int.reduceEq, Int.reduceNeg, wrap_add, F_s_LivesWhose, ld_new2, seg_full (cs := [a, b, c, v]) rfl]
  obtain ⟨r1, τ1, R1, K1⟩ := s_LivesOf_ret _ _ s (kState.pre hR0 H.sub) m o k hl
  refine by_hp R1 K1 ?_
  have H := H.add K1
  simp only [List.cons_append, List.nil_append] at H
  generalize hL : livesOf s m o k = L at *
  have hLl : L.length ≤ 1099511627776 := by
    have := List.length_filter_le (isLive m o k) s.lives
    rw [← hL]; unfold livesOf; omega
  simp +contextual (maxSteps := 600000) (disch := omega) only [go_sem, Nat.reduceEqDiff, ↓reduceIte, Int.reduceEq, Int.reduceNeg, wrap_add, List.append_nil]
  refine vc_forJ L.length 11 (fun i env τ => env 10 = r1 ∧ ∃ w n1, env 9 = w ∧ Hp σ τ [ow pI.kd w (putAll ltI ((L.take i).map (·.dot.rep))), ow pLive.kd r1 L, pt 1 n1 [a, b, c, v]]) rfl ⟨rfl, _, _, rfl, (H.pick 1 rfl)⟩ ?_ ?_
  · rintro J hJ i env τ hi e11 c0 ⟨e10, w, n1, e9, H⟩
    have C1 := Live_at (H.sl 1 rfl) hi
    have hlen := (H.sl 1 rfl).len
    have hal := putAll_length ltI ((L.take i).map (·.dot.rep))
    rw [List.length_map, List.length_take] at hal
    have hsn := reps_snoc hi
    generalize hacc : putAll ltI ((L.take i).map (·.dot.rep)) = acc at *
    simp +contextual (maxSteps := 600000) (disch := omega) only [go_sem, Nat.reduceEqDiff, ↓reduceIte, Int.reduceEq, Int.reduceNeg, wrap_add, c0, e9, e10, e11, C1, hlen]
    refine by_bool (s_l22In_ret _ w acc (H.sl 0 rfl) L[i].dot.rep (by omega)) (fun hm => ?_) (fun hm => ?_)
    · have hm : L[i].dot.rep ∈ acc := by simpa using hm
      rw [putU, if_pos hm] at hsn
      simp +contextual (maxSteps := 600000) (disch := omega) only [go_sem, Nat.reduceEqDiff, ↓reduceIte, Int.reduceEq, Int.reduceNeg, wrap_add, e9, e10, e11]
      refine hJ _ _ _ ⟨?_, w, n1, ?_, by rw [hsn]; exact H⟩
      all_goals simp +contextual (maxSteps := 600000) (disch := omega) only [go_sem, Nat.reduceEqDiff, ↓reduceIte, Int.reduceEq, Int.reduceNeg, wrap_add, e9, e10, e11]
    · have hm : ¬ L[i].dot.rep ∈ acc := by simpa using hm
      rw [putU, if_neg hm] at hsn
      have H1 := H.nil_int
      simp +contextual (maxSteps := 600000) (disch := omega) only [go_sem, Nat.reduceEqDiff, ↓reduceIte, Int.reduceEq, Int.reduceNeg, wrap_add, e9, e10, e11]
      generalize hx : L[i].dot.rep = x at *
      refine vc_forX acc.length 15 2 (fun j env τ => env 10 = r1 ∧ env 11 = gi i ∧ env 12 = gi x ∧ env 9 = w ∧ ∃ (u : GV) (put : Bool) (nxt : List Int), env 13 = u ∧ env 14 = .bool put ∧ insOk x acc nxt j put ∧ Hp σ τ [ow pI.kd u nxt, ow pI.kd w acc, ow pLive.kd r1 L, pt 1 n1 [a, b, c, v]]) (fun env τ => env 10 = r1 ∧ env 11 = gi i ∧ env 12 = gi x ∧ env 9 = w ∧ ∃ (u : GV) (put : Bool) (nxt : List Int), env 13 = u ∧ env 14 = .bool put ∧ insOk x acc nxt acc.length put ∧ Hp σ τ [ow pI.kd u nxt, ow pI.kd w acc, ow pLive.kd r1 L, pt 1 n1 [a, b, c, v]]) rfl ⟨by simp +contextual (maxSteps := 600000) (disch := omega) only [go_sem, Nat.reduceEqDiff, ↓reduceIte, Int.reduceEq, Int.reduceNeg, wrap_add, e10], by simp +contextual (maxSteps := 600000) (disch := omega) only [go_sem, Nat.reduceEqDiff, ↓reduceIte, Int.reduceEq, Int.reduceNeg, wrap_add, e11], by simp +contextual (maxSteps := 600000) (disch := omega) only [go_sem, Nat.reduceEqDiff, ↓reduceIte, Int.reduceEq, Int.reduceNeg, wrap_add, List.append_nil], by simp +contextual (maxSteps := 600000) (disch := omega) only [go_sem, Nat.reduceEqDiff, ↓reduceIte, Int.reduceEq, Int.reduceNeg, wrap_add, e9], _, false, [], by simp +contextual (maxSteps := 600000) (disch := omega) only [go_sem, Nat.reduceEqDiff, ↓reduceIte, Int.reduceEq, Int.reduceNeg, wrap_add, List.append_nil], by simp +contextual (maxSteps := 600000) (disch := omega) only [go_sem, Nat.reduceEqDiff, ↓reduceIte, Int.reduceEq, Int.reduceNeg, wrap_add, List.append_nil], by simp [insOk], H1⟩ ?_ ?_ ?_
      · clear e9 e10 e11 H H1
        rintro J2 Y2 hJ2 hY2 j env τ hj e15 c1 ⟨e10, e11, e12, e9, u, put, nxt, e13, e14, hok, H⟩
        have hnl := insOk_len hok
        have i1 := int_at (H.sl 1 rfl) hj
        have hlen := (H.sl 1 rfl).len
        cases put with
        | true =>
          obtain ⟨w', τ3, e5, H3⟩ := H.app_int 0 rfl acc[j] (by omega)
          simp +contextual (maxSteps := 600000) (disch := omega) only [go_sem, Nat.reduceEqDiff, ↓reduceIte, Int.reduceEq, Int.reduceNeg, wrap_add, c1, e9, e10, e11, e12, e13, e14, e15, i1, hlen, e5]
          refine hJ2 _ _ _ ⟨?_, ?_, ?_, ?_, w', true, _, ?_, ?_, insOk_step hok hj (.inl rfl), H3⟩
          all_goals simp +contextual (maxSteps := 600000) (disch := omega) only [go_sem, Nat.reduceEqDiff, ↓reduceIte, Int.reduceEq, Int.reduceNeg, wrap_add, e9, e10, e11, e12, e14]
        | false =>
          cases hlt : decide (x < acc[j]) with
          | false =>
            obtain ⟨w', τ3, e5, H3⟩ := H.app_int 0 rfl acc[j] (by omega)
            simp +contextual (maxSteps := 600000) (disch := omega) only [go_sem, Nat.reduceEqDiff, ↓reduceIte, Int.reduceEq, Int.reduceNeg, wrap_add, c1, e9, e10, e11, e12, e13, e14, e15, i1, hlen, hlt, e5]
            refine hJ2 _ _ _ ⟨?_, ?_, ?_, ?_, w', false, _, ?_, ?_, insOk_step hok hj (.inr (by simpa using hlt)), H3⟩
            all_goals simp +contextual (maxSteps := 600000) (disch := omega) only [go_sem, Nat.reduceEqDiff, ↓reduceIte, Int.reduceEq, Int.reduceNeg, wrap_add, e9, e10, e11, e12, e14]
          | true =>
            obtain ⟨w', τ3, e5, H3⟩ := H.app_int 0 rfl x (by omega)
            have H3 : Hp σ τ3 [ow pI.kd w' (nxt ++ [x]), ow pI.kd w acc, ow pLive.kd r1 L, pt 1 n1 [a, b, c, v]] := H3
            have hp := insOk_put hok hj (by simpa using hlt)
            have hnl2 := insOk_len hp
            simp only [List.length_append, List.length_cons, List.length_nil] at hnl2
            have i2 := int_at (H3.sl 1 rfl) hj
            obtain ⟨w2, τ4, e6, H4⟩ := H3.app_int 0 rfl acc[j] (by simp; omega)
            simp +contextual (maxSteps := 600000) (disch := omega) only [go_sem, Nat.reduceEqDiff, ↓reduceIte, Int.reduceEq, Int.reduceNeg, wrap_add, c1, e9, e10, e11, e12, e13, e14, e15, i1, hlen, hlt, e5, i2, e6]
            refine hJ2 _ _ _ ⟨?_, ?_, ?_, ?_, w2, true, _, ?_, ?_, hp, H4⟩
            all_goals simp +contextual (maxSteps := 600000) (disch := omega) only [go_sem, Nat.reduceEqDiff, ↓reduceIte, Int.reduceEq, Int.reduceNeg, wrap_add, e9, e10, e11, e12, e14]
      · clear e9 e10 e11 H H1
        rintro Y2 hY2 env τ e15 c1 ⟨e10, e11, e12, e9, u, put, nxt, e13, e14, hok, H⟩
        have hlen := (H.sl 1 rfl).len
        simp +contextual (maxSteps := 600000) (disch := omega) only [go_sem, Nat.reduceEqDiff, ↓reduceIte, Int.reduceEq, Int.reduceNeg, wrap_add, c1, e9, e10, e11, e12, e13, e14, e15, hlen]
        refine hY2 _ _ ⟨?_, ?_, ?_, ?_, u, put, nxt, ?_, ?_, hok, H⟩
        all_goals simp +contextual (maxSteps := 600000) (disch := omega) only [go_sem, Nat.reduceEqDiff, ↓reduceIte, Int.reduceEq, Int.reduceNeg, wrap_add, e9, e10, e11, e12, e13, e14]
      · clear e9 e10 e11 H H1
        rintro env τ ⟨e10, e11, e12, e9, u, put, nxt, e13, e14, hok, H⟩
        have hnl := insOk_len hok
        have hend := insOk_end hok
        cases put with
        | true =>
          simp +contextual (maxSteps := 600000) (disch := omega) only [go_sem, Nat.reduceEqDiff, ↓reduceIte, Int.reduceEq, Int.reduceNeg, wrap_add, e9, e10, e11, e12, e13, e14]
          refine hJ _ _ _ ⟨?_, u, n1, ?_, ?_⟩
          all_goals first | (simp +contextual (maxSteps := 600000) (disch := omega) only [go_sem, Nat.reduceEqDiff, ↓reduceIte, Int.reduceEq, Int.reduceNeg, wrap_add, e9, e10, e11, e12, e13, e14]; done) | skip
          rw [hsn, ← hend]
          exact (H.pick 1 rfl).drop1
        | false =>
          obtain ⟨w', τ3, e5, H3⟩ := H.app_int 0 rfl x (by omega)
          simp +contextual (maxSteps := 600000) (disch := omega) only [go_sem, Nat.reduceEqDiff, ↓reduceIte, Int.reduceEq, Int.reduceNeg, wrap_add, e9, e10, e11, e12, e13, e14, e5]
          refine hJ _ _ _ ⟨?_, w', n1, ?_, ?_⟩
          all_goals first | (simp +contextual (maxSteps := 600000) (disch := omega) only [go_sem, Nat.reduceEqDiff, ↓reduceIte, Int.reduceEq, Int.reduceNeg, wrap_add, e9, e10, e11, e12, e13, e14]; done) | skip
          rw [hsn, ← hend]
          exact (H3.pick 1 rfl).drop1
  · rintro env τ e11 c0 ⟨e10, w, n1, e9, H⟩
    rw [List.take_length] at H
    have hlen := (H.sl 1 rfl).len
    simp +contextual (maxSteps := 600000) (disch := omega) only [go_sem, Nat.reduceEqDiff, ↓reduceIte, Int.reduceEq, Int.reduceNeg, wrap_add, c0, e9, e10, e11, hlen]
    exact ⟨_, rfl, by rw [livesWhose, hL]; exact H.one⟩
set_option maxHeartbeats 2000000 in
theorem i_LivesWhose_r0 (σ : St) (cs : List GV) (s : State) (hR : kState.R σ s cs) (m : Bool) (o k : ByteArray) (hl : msState s ≤ 1099511627776) :
    ∃ r τ, Ret Try.prog n_i_LivesWhose [.agg cs, .bool m, .str o, .str k] σ r τ ∧ Hp σ τ [ow pI.kd r (livesWhose s m o k)] := by
  have hR0 := hR
  obtain ⟨a, b, c, v, rfl, _, _, hv, _⟩ := hR
  obtain ⟨l1, l2, l3, l4, _⟩ := msState_all hl
  refine ret_dr ir_i_LivesWhose (Nat.le_of_ble_eq_true rfl) ?_
  have H := ((Hp.refl σ).new 1 [a, b, c, v]).nil_int
  simp +contextual (maxSteps := 600000) (disch := omega) only [go_sem, Nat.reduceEqDiff, ↓reduceIte, Int.reduceEq, Int.reduceNeg, wrap_add, F_i_LivesWhose, ld_new2, seg_full (cs := [a, b, c, v]) rfl]
  obtain ⟨r1, τ1, R1, K1⟩ := i_LivesOf_ret _ _ s (kState.pre hR0 H.sub) m o k hl
  refine by_hp R1 K1 ?_
  have H := H.add K1
  simp only [List.cons_append, List.nil_append] at H
  generalize hL : livesOf s m o k = L at *
  have hLl : L.length ≤ 1099511627776 := by
    have := List.length_filter_le (isLive m o k) s.lives
    rw [← hL]; unfold livesOf; omega
  have hlen0 := (H.sl 0 rfl).len
  simp +contextual (maxSteps := 600000) (disch := omega) only [go_sem, Nat.reduceEqDiff, ↓reduceIte, Int.reduceEq, Int.reduceNeg, wrap_add, hlen0]
  refine vc_forJ L.length 19 (fun i env τ => env 17 = r1 ∧ env 18 = gi L.length ∧ ∃ w n1, env 9 = w ∧ Hp σ τ [ow pI.kd w ((L.take i).map (·.dot.rep)), ow pLive.kd r1 L, pt 1 n1 [a, b, c, v]]) rfl ⟨rfl, rfl, _, _, rfl, (H.pick 1 rfl)⟩ ?_ ?_
  · rintro J hJ i env τ hi e19 c0 ⟨e17, e18, w, n1, e9, H⟩
    have C1 := Live_at (H.sl 1 rfl) hi
    have G := H.grow (pre1 τ (some (Blk.row 1 [.bool L[i].map, .str L[i].obj, .str L[i].key, gi L[i].val, gi L[i].dot.rep, gi L[i].dot.seq])))
    obtain ⟨w', τ3, e5, H3⟩ := G.app_int 0 rfl L[i].dot.rep (by simp; omega)
    simp +contextual (maxSteps := 600000) (disch := omega) only [go_sem, Nat.reduceEqDiff, ↓reduceIte, Int.reduceEq, Int.reduceNeg, wrap_add, c0, e9, e17, e18, e19, C1, e5]
    refine hJ _ _ _ ⟨?_, ?_, w', n1, ?_, ?_⟩
    all_goals first | (simp +contextual (maxSteps := 600000) (disch := omega) only [go_sem, Nat.reduceEqDiff, ↓reduceIte, Int.reduceEq, Int.reduceNeg, wrap_add, e9, e17, e18, e19]; done) | skip
    rw [List.take_succ_eq_append_getElem hi, List.map_append, List.map_cons, List.map_nil]
    exact H3
  · rintro env τ e19 c0 ⟨e17, e18, w, n1, e9, H⟩
    rw [List.take_length] at H
    obtain ⟨τ2, R2, H2⟩ := slices_Sort_int_ret H 0 rfl (by simp; omega)
    simp +contextual (maxSteps := 600000) (disch := omega) only [go_sem, Nat.reduceEqDiff, ↓reduceIte, Int.reduceEq, Int.reduceNeg, wrap_add, c0, e9, e17, e18, e19]
    refine by_mut R2 ?_
    simp +contextual (maxSteps := 600000) (disch := omega) only [go_sem, Nat.reduceEqDiff, ↓reduceIte, Int.reduceEq, Int.reduceNeg, wrap_add, e9, e17, e18, e19]
    have hsl : (insAll ltI (L.map (·.dot.rep))).length ≤ 1099511627776 := by rw [insAll_length]; simp; omega
    obtain ⟨w3, τ3, R3, H3⟩ := slices_Compact_int_ret H2 0 rfl hsl
    refine by_mut R3 ?_
    simp +contextual (maxSteps := 600000) (disch := omega) only [go_sem, Nat.reduceEqDiff, ↓reduceIte, Int.reduceEq, Int.reduceNeg, wrap_add, e9, e17, e18, e19]
    refine ⟨_, rfl, ?_⟩
    have hE : compact (insAll ltI (L.map (·.dot.rep))) = livesWhose s m o k := by
      rw [livesWhose, hL]
      exact compact_sorted swo_ltI tri_ltI (insAll_perm _ _) (insAll_up swo_ltI _)
    rw [← hE]
    exact H3.one
theorem livesWhose_le (s : State) (m : Bool) (o k : ByteArray) : (livesWhose s m o k).length ≤ msState s := by
  have h1 := putAll_length ltI ((livesOf s m o k).map (·.dot.rep))
  rw [List.length_map] at h1
  have h2 : (livesOf s m o k).length ≤ s.lives.length := List.length_filter_le _ _
  have h3 : s.lives.length ≤ msState s := by unfold msState; omega
  unfold livesWhose; omega
theorem s_LivesWhose_ret (σ : St) (cs : List GV) (s : State) (hR : kState.R σ s cs) (m : Bool) (o k : ByteArray) (hl : msState s ≤ 1099511627776) (ho : o.size ≤ 1099511627776) (hk : k.size ≤ 1099511627776) :
    ∃ r τ, Ret Try.prog n_s_LivesWhose [.agg cs, .bool m, .str o, .str k] σ r τ ∧ σ <+: τ ∧ RS pI.kd τ r (livesWhose s m o k) := by
  obtain ⟨r, τ, R, H⟩ := s_LivesWhose_r0 σ cs s hR m o k hl
  exact ⟨r, τ, R, H.sub, H.sl 0 rfl⟩
theorem i_LivesWhose_ret (σ : St) (cs : List GV) (s : State) (hR : kState.R σ s cs) (m : Bool) (o k : ByteArray) (hl : msState s ≤ 1099511627776) (ho : o.size ≤ 1099511627776) (hk : k.size ≤ 1099511627776) :
    ∃ r τ, Ret Try.prog n_i_LivesWhose [.agg cs, .bool m, .str o, .str k] σ r τ ∧ Hp σ τ [ow pI.kd r (livesWhose s m o k)] := i_LivesWhose_r0 σ cs s hR m o k hl
end Go.Proofs.Ytopannfdcikgiaa.Sy

/- Contracts of the laws' own functions: HeqIntS. -/
namespace Go.Proofs.Ytopannfdcikgiaa.Sy
open Go Go.RowKit
set_option linter.unusedSimpArgs false
set_option linter.unusedVariables false
abbrev n_l_eqIntS : Nat := 22
def F_l_eqIntS : Fn1 := ⟨26, [.t 4], (.seq (.reg [o 4 (.mov (.k (.bool false)))]) (.seq (.seq (.reg [o 6 (.mov (.t 0)), o 7 (.len false (.t 6)), o 8 (.mov (.t 1)), o 9 (.len false (.t 8)), o 10 (.bin .neq (.t 7) (.t 9))]) (.cnd (.t 10) (.seq (.reg [o 4 (.mov (.k (.bool false)))]) .ret) .skip)) (.seq (.seq (.reg [o 5 (.mov (.k (.int .i64 0)))]) (.blk 0 (.lop (.seq (.seq (.reg [o 11 (.mov (.t 5)), o 12 (.mov (.t 0)), o 13 (.len false (.t 12)), o 14 (.bin .lss (.t 11) (.t 13))]) (.cnd (.t 14) .skip (.ext 0))) (.seq (.blk 1 (.seq (.drw [o 17 (.mov (.t 0)), o 18 (.mov (.t 5)), o 19 (.iad 1 (.t 17) (.t 18)), o 20 (.ld false 1 (.t 19)), o 21 (.mov (.t 1)), o 22 (.mov (.t 5)), o 23 (.iad 1 (.t 21) (.t 22)), o 24 (.ld false 1 (.t 23))] [o 25 (.bin .neq (.t 20) (.t 24))]) (.cnd (.t 25) (.seq (.reg [o 4 (.mov (.k (.bool false)))]) .ret) .skip))) (.reg [o 15 (.mov (.t 5)), o 16 (.bin .add (.t 15) (.k (.int .i64 1))), o 5 (.mov (.t 16))])))))) (.seq (.reg [o 4 (.mov (.k (.bool true)))]) .ret))))⟩
theorem ir_l_eqIntS : compFn Try.prog n_l_eqIntS = some F_l_eqIntS := by kernel_rfl
theorem l_eqIntS_ret (σ : St) (v u : GV) (l m : List Int) (hv : RS pI.kd σ v l) (hu : RS pI.kd σ u m) (hl : l.length ≤ 1099511627776) : Ret Try.prog n_l_eqIntS [v, u] σ (.bool (decide (l = m))) σ := by
  refine ret_eq ir_l_eqIntS (Nat.le_of_ble_eq_true rfl) trivial ?_
  simp +contextual (maxSteps := 600000) (disch := omega) only [go_sem, Nat.reduceEqDiff, ↓reduceIte, Int.reduceEq, Int.reduceNeg, wrap_add, F_l_eqIntS, hv.len, hu.len]
  refine ⟨fun hn => ?_, fun hn => ?_⟩
  · have : l ≠ m := fun h => by subst h; simp at hn
    simp [this]
  have hlm : l.length = m.length := by have h2 : (l.length : Int) = m.length := by simpa using hn
                                       omega
  refine vc_for l.length 5 (fun i env τ => env 0 = v ∧ env 1 = u ∧ l.take i = m.take i ∧ σ <+: τ) rfl ⟨rfl, rfl, rfl, List.prefix_refl _⟩ ?_ ?_
  · rintro i env τ hi e5 c0 ⟨e0, e1, he, hp⟩
    have hj : i < m.length := by omega
    have h1 := hv.pre hp
    have h2 := hu.pre hp
    have hne : l[i] ≠ m[i] → l ≠ m := fun h h' => h (by subst h'; rfl)
    have hst : l[i] = m[i] → l.take (i + 1) = m.take (i + 1) := fun h => by rw [take_snoc hi, take_snoc hj, he, h]
    simp +contextual (maxSteps := 600000) (disch := omega) only [go_sem, Nat.reduceEqDiff, ↓reduceIte, Int.reduceEq, Int.reduceNeg, wrap_add, c0, e0, e1, e5, hv.len, hu.len, int_at h1 hi, int_at h2 hj, hp]
    refine ⟨fun h => ?_, fun h => ?_⟩
    · simp [hne (by simpa using h)]
    · simpa using hst (by simpa using h)
  · rintro env τ e5 c0 ⟨e0, e1, he, hp⟩
    rw [List.take_length, hlm, List.take_length] at he
    simp +contextual (maxSteps := 600000) (disch := omega) only [go_sem, Nat.reduceEqDiff, ↓reduceIte, Int.reduceEq, Int.reduceNeg, wrap_add, c0, e0, e1, e5, hv.len, hu.len, hp]
    simp [he]
end Go.Proofs.Ytopannfdcikgiaa.Sy

/- Contracts of the laws' own functions: HeqDot. -/
namespace Go.Proofs.Ytopannfdcikgiaa.Sy
open Go Go.RowKit
set_option linter.unusedSimpArgs false
set_option linter.unusedVariables false
abbrev n_l_eqDot : Nat := 87
def F_l_eqDot : Fn1 := ⟨15, [.t 4], (.seq (.reg [o 2 (.box (.t 0)), o 3 (.box (.t 1)), o 4 (.mov (.k (.bool false)))]) (.seq (.seq (.reg [o 5 (.fad 0 (.t 2)), o 6 (.ld false 1 (.t 5)), o 7 (.fad 0 (.t 3)), o 8 (.ld false 1 (.t 7)), o 9 (.bin .neq (.t 6) (.t 8))]) (.cnd (.t 9) (.seq (.reg [o 4 (.mov (.k (.bool false)))]) .ret) .skip)) (.seq (.seq (.reg [o 10 (.fad 1 (.t 2)), o 11 (.ld false 1 (.t 10)), o 12 (.fad 1 (.t 3)), o 13 (.ld false 1 (.t 12)), o 14 (.bin .neq (.t 11) (.t 13))]) (.cnd (.t 14) (.seq (.reg [o 4 (.mov (.k (.bool false)))]) .ret) .skip)) (.seq (.reg [o 4 (.mov (.k (.bool true)))]) .ret))))⟩
theorem ir_l_eqDot : compFn Try.prog n_l_eqDot = some F_l_eqDot := by kernel_rfl
theorem l_eqDot_ret (σ : St) (x y : Dot) : Ret Try.prog n_l_eqDot [.agg [.int .i64 x.rep, .int .i64 x.seq], .agg [.int .i64 y.rep, .int .i64 y.seq]] σ (.bool (decide (x = y))) σ := by
  refine ret_eq ir_l_eqDot (Nat.le_of_ble_eq_true rfl) trivial ?_
  simp +contextual (maxSteps := 600000) (disch := omega) only [go_sem, Nat.reduceEqDiff, ↓reduceIte, Int.reduceEq, Int.reduceNeg, wrap_add, F_l_eqDot, List.append_nil]
  refine ⟨fun hn => ?_, fun hn => ?_⟩
  · simp only [Dot.eq_iff]; simp at hn ⊢; simp [hn]
  have q0 : x.rep = y.rep := by simpa using hn
  refine ⟨fun hn => ?_, fun hn => ?_⟩
  · simp only [Dot.eq_iff]; simp at hn ⊢; simp [hn]
  have q1 : x.seq = y.seq := by simpa using hn
  simp only [Dot.eq_iff, q0, q1, and_self, decide_true]
end Go.Proofs.Ytopannfdcikgiaa.Sy

/- Contracts of the laws' own functions: HeqCell. -/
namespace Go.Proofs.Ytopannfdcikgiaa.Sy
open Go Go.RowKit
set_option linter.unusedSimpArgs false
set_option linter.unusedVariables false
abbrev n_l_eqCell : Nat := 128
def F_l_eqCell : Fn1 := ⟨37, [.t 4], (.seq (.reg [o 2 (.box (.t 0)), o 3 (.box (.t 1)), o 4 (.mov (.k (.bool false)))]) (.seq (.seq (.reg [o 5 (.fad 0 (.t 2)), o 6 (.ld false 1 (.t 5)), o 7 (.fad 0 (.t 3)), o 8 (.ld false 1 (.t 7)), o 9 (.bin .neq (.t 6) (.t 8))]) (.cnd (.t 9) (.seq (.reg [o 4 (.mov (.k (.bool false)))]) .ret) .skip)) (.seq (.seq (.reg [o 10 (.fad 1 (.t 2)), o 11 (.ld true 2 (.t 10)), o 12 (.fad 1 (.t 3)), o 13 (.ld true 2 (.t 12)), o 14 (.call 87 [(.t 11), (.t 13)]), o 15 (.un .not (.t 14))]) (.cnd (.t 15) (.seq (.reg [o 4 (.mov (.k (.bool false)))]) .ret) .skip)) (.seq (.seq (.reg [o 16 (.fad 3 (.t 2)), o 17 (.ld false 1 (.t 16)), o 18 (.fad 3 (.t 3)), o 19 (.ld false 1 (.t 18)), o 20 (.bin .neq (.t 17) (.t 19))]) (.cnd (.t 20) (.seq (.reg [o 4 (.mov (.k (.bool false)))]) .ret) .skip)) (.seq (.seq (.reg [o 21 (.fad 4 (.t 2)), o 22 (.ld true 2 (.t 21)), o 23 (.fad 4 (.t 3)), o 24 (.ld true 2 (.t 23)), o 25 (.call 87 [(.t 22), (.t 24)]), o 26 (.un .not (.t 25))]) (.cnd (.t 26) (.seq (.reg [o 4 (.mov (.k (.bool false)))]) .ret) .skip)) (.seq (.seq (.reg [o 27 (.fad 6 (.t 2)), o 28 (.ld false 1 (.t 27)), o 29 (.fad 6 (.t 3)), o 30 (.ld false 1 (.t 29)), o 31 (.bin .neq (.t 28) (.t 30))]) (.cnd (.t 31) (.seq (.reg [o 4 (.mov (.k (.bool false)))]) .ret) .skip)) (.seq (.seq (.reg [o 32 (.fad 7 (.t 2)), o 33 (.ld false 1 (.t 32)), o 34 (.fad 7 (.t 3)), o 35 (.ld false 1 (.t 34)), o 36 (.eqb true (.t 33) (.t 35))]) (.cnd (.t 36) (.seq (.reg [o 4 (.mov (.k (.bool false)))]) .ret) .skip)) (.seq (.reg [o 4 (.mov (.k (.bool true)))]) .ret))))))))⟩
theorem ir_l_eqCell : compFn Try.prog n_l_eqCell = some F_l_eqCell := by kernel_rfl
theorem l_eqCell_ret (σ : St) (x y : Cell) : Ret Try.prog n_l_eqCell [.agg [.str x.obj, .int .i64 x.dot.rep, .int .i64 x.dot.seq, .int .i64 x.time, .int .i64 x.ref.rep, .int .i64 x.ref.seq, .int .i64 x.val, .bool x.gone], .agg [.str y.obj, .int .i64 y.dot.rep, .int .i64 y.dot.seq, .int .i64 y.time, .int .i64 y.ref.rep, .int .i64 y.ref.seq, .int .i64 y.val, .bool y.gone]] σ (.bool (decide (x = y))) σ := by
  refine ret_eq ir_l_eqCell (Nat.le_of_ble_eq_true rfl) trivial ?_
  simp +contextual (maxSteps := 600000) (disch := omega) only [go_sem, Nat.reduceEqDiff, ↓reduceIte, Int.reduceEq, Int.reduceNeg, wrap_add, F_l_eqCell, List.append_nil]
  refine ⟨fun hn => ?_, fun hn => ?_⟩
  · simp only [Cell.eq_iff]; simp at hn ⊢; simp [hn]
  have q0 : x.obj = y.obj := by simpa using hn
  refine by_ret (l_eqDot_ret _ x.dot y.dot) ?_
  simp +contextual (maxSteps := 600000) (disch := omega) only [go_sem, Nat.reduceEqDiff, ↓reduceIte, Int.reduceEq, Int.reduceNeg, wrap_add, List.append_nil]
  refine ⟨fun hn => ?_, fun hn => ?_⟩
  · simp only [Cell.eq_iff]; simp at hn ⊢; simp [hn]
  have q1 : x.dot = y.dot := by simpa using hn
  refine ⟨fun hn => ?_, fun hn => ?_⟩
  · simp only [Cell.eq_iff]; simp at hn ⊢; simp [hn]
  have q2 : x.time = y.time := by simpa using hn
  refine by_ret (l_eqDot_ret _ x.ref y.ref) ?_
  simp +contextual (maxSteps := 600000) (disch := omega) only [go_sem, Nat.reduceEqDiff, ↓reduceIte, Int.reduceEq, Int.reduceNeg, wrap_add, List.append_nil]
  refine ⟨fun hn => ?_, fun hn => ?_⟩
  · simp only [Cell.eq_iff]; simp at hn ⊢; simp [hn]
  have q3 : x.ref = y.ref := by simpa using hn
  refine ⟨fun hn => ?_, fun hn => ?_⟩
  · simp only [Cell.eq_iff]; simp at hn ⊢; simp [hn]
  have q4 : x.val = y.val := by simpa using hn
  refine ⟨fun hn => ?_, fun hn => ?_⟩
  · simp only [Cell.eq_iff]; simp at hn ⊢; simp [hn]
  have q5 : x.gone = y.gone := by simpa using hn
  simp only [Cell.eq_iff, q0, q1, q2, q3, q4, q5, and_self, decide_true]
end Go.Proofs.Ytopannfdcikgiaa.Sy

/- Contracts of the laws' own functions: HeqCellS. -/
namespace Go.Proofs.Ytopannfdcikgiaa.Sy
open Go Go.RowKit
set_option linter.unusedSimpArgs false
set_option linter.unusedVariables false
abbrev n_l_eqCellS : Nat := 100
def F_l_eqCellS : Fn1 := ⟨27, [.t 4], (.seq (.reg [o 4 (.mov (.k (.bool false)))]) (.seq (.seq (.reg [o 6 (.mov (.t 0)), o 7 (.len false (.t 6)), o 8 (.mov (.t 1)), o 9 (.len false (.t 8)), o 10 (.bin .neq (.t 7) (.t 9))]) (.cnd (.t 10) (.seq (.reg [o 4 (.mov (.k (.bool false)))]) .ret) .skip)) (.seq (.seq (.reg [o 5 (.mov (.k (.int .i64 0)))]) (.blk 0 (.lop (.seq (.seq (.reg [o 11 (.mov (.t 5)), o 12 (.mov (.t 0)), o 13 (.len false (.t 12)), o 14 (.bin .lss (.t 11) (.t 13))]) (.cnd (.t 14) .skip (.ext 0))) (.seq (.blk 1 (.seq (.drw [o 17 (.mov (.t 0)), o 18 (.mov (.t 5)), o 19 (.iad 8 (.t 17) (.t 18)), o 20 (.ld true 8 (.t 19)), o 21 (.mov (.t 1)), o 22 (.mov (.t 5)), o 23 (.iad 8 (.t 21) (.t 22)), o 24 (.ld true 8 (.t 23))] [o 25 (.call 128 [(.t 20), (.t 24)]), o 26 (.un .not (.t 25))]) (.cnd (.t 26) (.seq (.reg [o 4 (.mov (.k (.bool false)))]) .ret) .skip))) (.reg [o 15 (.mov (.t 5)), o 16 (.bin .add (.t 15) (.k (.int .i64 1))), o 5 (.mov (.t 16))])))))) (.seq (.reg [o 4 (.mov (.k (.bool true)))]) .ret))))⟩
theorem ir_l_eqCellS : compFn Try.prog n_l_eqCellS = some F_l_eqCellS := by kernel_rfl
theorem l_eqCellS_ret (σ : St) (v u : GV) (l m : List Cell) (hv : RS pCell.kd σ v l) (hu : RS pCell.kd σ u m) (hl : (l.length + sumL msCell l) ≤ 1099511627776) : Ret Try.prog n_l_eqCellS [v, u] σ (.bool (decide (l = m))) σ := by
  refine ret_eq ir_l_eqCellS (Nat.le_of_ble_eq_true rfl) trivial ?_
  simp +contextual (maxSteps := 600000) (disch := omega) only [go_sem, Nat.reduceEqDiff, ↓reduceIte, Int.reduceEq, Int.reduceNeg, wrap_add, F_l_eqCellS, hv.len, hu.len]
  refine ⟨fun hn => ?_, fun hn => ?_⟩
  · have : l ≠ m := fun h => by subst h; simp at hn
    simp [this]
  have hlm : l.length = m.length := by have h2 : (l.length : Int) = m.length := by simpa using hn
                                       omega
  refine vc_for l.length 5 (fun i env τ => env 0 = v ∧ env 1 = u ∧ l.take i = m.take i ∧ σ <+: τ) rfl ⟨rfl, rfl, rfl, List.prefix_refl _⟩ ?_ ?_
  · rintro i env τ hi e5 c0 ⟨e0, e1, he, hp⟩
    have hj : i < m.length := by omega
    have h1 := hv.pre hp
    have h2 := hu.pre hp
    have hne : l[i] ≠ m[i] → l ≠ m := fun h h' => h (by subst h'; rfl)
    have hst : l[i] = m[i] → l.take (i + 1) = m.take (i + 1) := fun h => by rw [take_snoc hi, take_snoc hj, he, h]
    have hms : msCell l[i] ≤ sumL msCell l := sumL_mem (List.getElem_mem hi)
    simp +contextual (maxSteps := 600000) (disch := omega) only [go_sem, Nat.reduceEqDiff, ↓reduceIte, Int.reduceEq, Int.reduceNeg, wrap_add, c0, e0, e1, e5, hv.len, hu.len, Cell_at h1 hi, Cell_at h2 hj]
    refine by_ret (l_eqCell_ret τ l[i] m[i]) ?_
    simp +contextual (maxSteps := 600000) (disch := omega) only [go_sem, Nat.reduceEqDiff, ↓reduceIte, Int.reduceEq, Int.reduceNeg, wrap_add, e0, e1, e5, hp]
    refine ⟨fun h => ?_, fun h => ?_⟩
    · simp [hne (by simpa using h)]
    · simpa using hst (by simpa using h)
  · rintro env τ e5 c0 ⟨e0, e1, he, hp⟩
    rw [List.take_length, hlm, List.take_length] at he
    simp +contextual (maxSteps := 600000) (disch := omega) only [go_sem, Nat.reduceEqDiff, ↓reduceIte, Int.reduceEq, Int.reduceNeg, wrap_add, c0, e0, e1, e5, hv.len, hu.len, hp]
    simp [he]
end Go.Proofs.Ytopannfdcikgiaa.Sy

/- Contracts of the laws' own functions: HeqLive. -/
namespace Go.Proofs.Ytopannfdcikgiaa.Sy
open Go Go.RowKit
set_option linter.unusedSimpArgs false
set_option linter.unusedVariables false
abbrev n_l_eqLive : Nat := 127
def F_l_eqLive : Fn1 := ⟨31, [.t 4], (.seq (.reg [o 2 (.box (.t 0)), o 3 (.box (.t 1)), o 4 (.mov (.k (.bool false)))]) (.seq (.seq (.reg [o 5 (.fad 0 (.t 2)), o 6 (.ld false 1 (.t 5)), o 7 (.fad 0 (.t 3)), o 8 (.ld false 1 (.t 7)), o 9 (.eqb true (.t 6) (.t 8))]) (.cnd (.t 9) (.seq (.reg [o 4 (.mov (.k (.bool false)))]) .ret) .skip)) (.seq (.seq (.reg [o 10 (.fad 1 (.t 2)), o 11 (.ld false 1 (.t 10)), o 12 (.fad 1 (.t 3)), o 13 (.ld false 1 (.t 12)), o 14 (.bin .neq (.t 11) (.t 13))]) (.cnd (.t 14) (.seq (.reg [o 4 (.mov (.k (.bool false)))]) .ret) .skip)) (.seq (.seq (.reg [o 15 (.fad 2 (.t 2)), o 16 (.ld false 1 (.t 15)), o 17 (.fad 2 (.t 3)), o 18 (.ld false 1 (.t 17)), o 19 (.bin .neq (.t 16) (.t 18))]) (.cnd (.t 19) (.seq (.reg [o 4 (.mov (.k (.bool false)))]) .ret) .skip)) (.seq (.seq (.reg [o 20 (.fad 3 (.t 2)), o 21 (.ld false 1 (.t 20)), o 22 (.fad 3 (.t 3)), o 23 (.ld false 1 (.t 22)), o 24 (.bin .neq (.t 21) (.t 23))]) (.cnd (.t 24) (.seq (.reg [o 4 (.mov (.k (.bool false)))]) .ret) .skip)) (.seq (.seq (.reg [o 25 (.fad 4 (.t 2)), o 26 (.ld true 2 (.t 25)), o 27 (.fad 4 (.t 3)), o 28 (.ld true 2 (.t 27)), o 29 (.call 87 [(.t 26), (.t 28)]), o 30 (.un .not (.t 29))]) (.cnd (.t 30) (.seq (.reg [o 4 (.mov (.k (.bool false)))]) .ret) .skip)) (.seq (.reg [o 4 (.mov (.k (.bool true)))]) .ret)))))))⟩
theorem ir_l_eqLive : compFn Try.prog n_l_eqLive = some F_l_eqLive := by kernel_rfl
theorem l_eqLive_ret (σ : St) (x y : Live) : Ret Try.prog n_l_eqLive [.agg [.bool x.map, .str x.obj, .str x.key, .int .i64 x.val, .int .i64 x.dot.rep, .int .i64 x.dot.seq], .agg [.bool y.map, .str y.obj, .str y.key, .int .i64 y.val, .int .i64 y.dot.rep, .int .i64 y.dot.seq]] σ (.bool (decide (x = y))) σ := by
  refine ret_eq ir_l_eqLive (Nat.le_of_ble_eq_true rfl) trivial ?_
  simp +contextual (maxSteps := 600000) (disch := omega) only [go_sem, Nat.reduceEqDiff, ↓reduceIte, Int.reduceEq, Int.reduceNeg, wrap_add, F_l_eqLive, List.append_nil]
  refine ⟨fun hn => ?_, fun hn => ?_⟩
  · simp only [Live.eq_iff]; simp at hn ⊢; simp [hn]
  have q0 : x.map = y.map := by simpa using hn
  refine ⟨fun hn => ?_, fun hn => ?_⟩
  · simp only [Live.eq_iff]; simp at hn ⊢; simp [hn]
  have q1 : x.obj = y.obj := by simpa using hn
  refine ⟨fun hn => ?_, fun hn => ?_⟩
  · simp only [Live.eq_iff]; simp at hn ⊢; simp [hn]
  have q2 : x.key = y.key := by simpa using hn
  refine ⟨fun hn => ?_, fun hn => ?_⟩
  · simp only [Live.eq_iff]; simp at hn ⊢; simp [hn]
  have q3 : x.val = y.val := by simpa using hn
  refine by_ret (l_eqDot_ret _ x.dot y.dot) ?_
  simp +contextual (maxSteps := 600000) (disch := omega) only [go_sem, Nat.reduceEqDiff, ↓reduceIte, Int.reduceEq, Int.reduceNeg, wrap_add, List.append_nil]
  refine ⟨fun hn => ?_, fun hn => ?_⟩
  · simp only [Live.eq_iff]; simp at hn ⊢; simp [hn]
  have q4 : x.dot = y.dot := by simpa using hn
  simp only [Live.eq_iff, q0, q1, q2, q3, q4, and_self, decide_true]
end Go.Proofs.Ytopannfdcikgiaa.Sy

/- Contracts of the laws' own functions: HeqLiveS. -/
namespace Go.Proofs.Ytopannfdcikgiaa.Sy
open Go Go.RowKit
set_option linter.unusedSimpArgs false
set_option linter.unusedVariables false
abbrev n_l_eqLiveS : Nat := 99
def F_l_eqLiveS : Fn1 := ⟨27, [.t 4], (.seq (.reg [o 4 (.mov (.k (.bool false)))]) (.seq (.seq (.reg [o 6 (.mov (.t 0)), o 7 (.len false (.t 6)), o 8 (.mov (.t 1)), o 9 (.len false (.t 8)), o 10 (.bin .neq (.t 7) (.t 9))]) (.cnd (.t 10) (.seq (.reg [o 4 (.mov (.k (.bool false)))]) .ret) .skip)) (.seq (.seq (.reg [o 5 (.mov (.k (.int .i64 0)))]) (.blk 0 (.lop (.seq (.seq (.reg [o 11 (.mov (.t 5)), o 12 (.mov (.t 0)), o 13 (.len false (.t 12)), o 14 (.bin .lss (.t 11) (.t 13))]) (.cnd (.t 14) .skip (.ext 0))) (.seq (.blk 1 (.seq (.drw [o 17 (.mov (.t 0)), o 18 (.mov (.t 5)), o 19 (.iad 6 (.t 17) (.t 18)), o 20 (.ld true 6 (.t 19)), o 21 (.mov (.t 1)), o 22 (.mov (.t 5)), o 23 (.iad 6 (.t 21) (.t 22)), o 24 (.ld true 6 (.t 23))] [o 25 (.call 127 [(.t 20), (.t 24)]), o 26 (.un .not (.t 25))]) (.cnd (.t 26) (.seq (.reg [o 4 (.mov (.k (.bool false)))]) .ret) .skip))) (.reg [o 15 (.mov (.t 5)), o 16 (.bin .add (.t 15) (.k (.int .i64 1))), o 5 (.mov (.t 16))])))))) (.seq (.reg [o 4 (.mov (.k (.bool true)))]) .ret))))⟩
theorem ir_l_eqLiveS : compFn Try.prog n_l_eqLiveS = some F_l_eqLiveS := by kernel_rfl
theorem l_eqLiveS_ret (σ : St) (v u : GV) (l m : List Live) (hv : RS pLive.kd σ v l) (hu : RS pLive.kd σ u m) (hl : (l.length + sumL msLive l) ≤ 1099511627776) : Ret Try.prog n_l_eqLiveS [v, u] σ (.bool (decide (l = m))) σ := by
  refine ret_eq ir_l_eqLiveS (Nat.le_of_ble_eq_true rfl) trivial ?_
  simp +contextual (maxSteps := 600000) (disch := omega) only [go_sem, Nat.reduceEqDiff, ↓reduceIte, Int.reduceEq, Int.reduceNeg, wrap_add, F_l_eqLiveS, hv.len, hu.len]
  refine ⟨fun hn => ?_, fun hn => ?_⟩
  · have : l ≠ m := fun h => by subst h; simp at hn
    simp [this]
  have hlm : l.length = m.length := by have h2 : (l.length : Int) = m.length := by simpa using hn
                                       omega
  refine vc_for l.length 5 (fun i env τ => env 0 = v ∧ env 1 = u ∧ l.take i = m.take i ∧ σ <+: τ) rfl ⟨rfl, rfl, rfl, List.prefix_refl _⟩ ?_ ?_
  · rintro i env τ hi e5 c0 ⟨e0, e1, he, hp⟩
    have hj : i < m.length := by omega
    have h1 := hv.pre hp
    have h2 := hu.pre hp
    have hne : l[i] ≠ m[i] → l ≠ m := fun h h' => h (by subst h'; rfl)
    have hst : l[i] = m[i] → l.take (i + 1) = m.take (i + 1) := fun h => by rw [take_snoc hi, take_snoc hj, he, h]
    have hms : msLive l[i] ≤ sumL msLive l := sumL_mem (List.getElem_mem hi)
    simp +contextual (maxSteps := 600000) (disch := omega) only [go_sem, Nat.reduceEqDiff, ↓reduceIte, Int.reduceEq, Int.reduceNeg, wrap_add, c0, e0, e1, e5, hv.len, hu.len, Live_at h1 hi, Live_at h2 hj]
    refine by_ret (l_eqLive_ret τ l[i] m[i]) ?_
    simp +contextual (maxSteps := 600000) (disch := omega) only [go_sem, Nat.reduceEqDiff, ↓reduceIte, Int.reduceEq, Int.reduceNeg, wrap_add, e0, e1, e5, hp]
    refine ⟨fun h => ?_, fun h => ?_⟩
    · simp [hne (by simpa using h)]
    · simpa using hst (by simpa using h)
  · rintro env τ e5 c0 ⟨e0, e1, he, hp⟩
    rw [List.take_length, hlm, List.take_length] at he
    simp +contextual (maxSteps := 600000) (disch := omega) only [go_sem, Nat.reduceEqDiff, ↓reduceIte, Int.reduceEq, Int.reduceNeg, wrap_add, c0, e0, e1, e5, hv.len, hu.len, hp]
    simp [he]
end Go.Proofs.Ytopannfdcikgiaa.Sy

/- Contracts of the laws' own functions: HeqTally. -/
namespace Go.Proofs.Ytopannfdcikgiaa.Sy
open Go Go.RowKit
set_option linter.unusedSimpArgs false
set_option linter.unusedVariables false
abbrev n_l_eqTally : Nat := 126
def F_l_eqTally : Fn1 := ⟨20, [.t 4], (.seq (.reg [o 2 (.box (.t 0)), o 3 (.box (.t 1)), o 4 (.mov (.k (.bool false)))]) (.seq (.seq (.reg [o 5 (.fad 0 (.t 2)), o 6 (.ld false 1 (.t 5)), o 7 (.fad 0 (.t 3)), o 8 (.ld false 1 (.t 7)), o 9 (.bin .neq (.t 6) (.t 8))]) (.cnd (.t 9) (.seq (.reg [o 4 (.mov (.k (.bool false)))]) .ret) .skip)) (.seq (.seq (.reg [o 10 (.fad 1 (.t 2)), o 11 (.ld false 1 (.t 10)), o 12 (.fad 1 (.t 3)), o 13 (.ld false 1 (.t 12)), o 14 (.bin .neq (.t 11) (.t 13))]) (.cnd (.t 14) (.seq (.reg [o 4 (.mov (.k (.bool false)))]) .ret) .skip)) (.seq (.seq (.reg [o 15 (.fad 2 (.t 2)), o 16 (.ld false 1 (.t 15)), o 17 (.fad 2 (.t 3)), o 18 (.ld false 1 (.t 17)), o 19 (.bin .neq (.t 16) (.t 18))]) (.cnd (.t 19) (.seq (.reg [o 4 (.mov (.k (.bool false)))]) .ret) .skip)) (.seq (.reg [o 4 (.mov (.k (.bool true)))]) .ret)))))⟩
theorem ir_l_eqTally : compFn Try.prog n_l_eqTally = some F_l_eqTally := by kernel_rfl
theorem l_eqTally_ret (σ : St) (x y : Tally) : Ret Try.prog n_l_eqTally [.agg [.str x.obj, .int .i64 x.rep, .int .i64 x.sum], .agg [.str y.obj, .int .i64 y.rep, .int .i64 y.sum]] σ (.bool (decide (x = y))) σ := by
  refine ret_eq ir_l_eqTally (Nat.le_of_ble_eq_true rfl) trivial ?_
  simp +contextual (maxSteps := 600000) (disch := omega) only [go_sem, Nat.reduceEqDiff, ↓reduceIte, Int.reduceEq, Int.reduceNeg, wrap_add, F_l_eqTally, List.append_nil]
  refine ⟨fun hn => ?_, fun hn => ?_⟩
  · simp only [Tally.eq_iff]; simp at hn ⊢; simp [hn]
  have q0 : x.obj = y.obj := by simpa using hn
  refine ⟨fun hn => ?_, fun hn => ?_⟩
  · simp only [Tally.eq_iff]; simp at hn ⊢; simp [hn]
  have q1 : x.rep = y.rep := by simpa using hn
  refine ⟨fun hn => ?_, fun hn => ?_⟩
  · simp only [Tally.eq_iff]; simp at hn ⊢; simp [hn]
  have q2 : x.sum = y.sum := by simpa using hn
  simp only [Tally.eq_iff, q0, q1, q2, and_self, decide_true]
end Go.Proofs.Ytopannfdcikgiaa.Sy

/- Contracts of the laws' own functions: HeqTallyS. -/
namespace Go.Proofs.Ytopannfdcikgiaa.Sy
open Go Go.RowKit
set_option linter.unusedSimpArgs false
set_option linter.unusedVariables false
abbrev n_l_eqTallyS : Nat := 98
def F_l_eqTallyS : Fn1 := ⟨27, [.t 4], (.seq (.reg [o 4 (.mov (.k (.bool false)))]) (.seq (.seq (.reg [o 6 (.mov (.t 0)), o 7 (.len false (.t 6)), o 8 (.mov (.t 1)), o 9 (.len false (.t 8)), o 10 (.bin .neq (.t 7) (.t 9))]) (.cnd (.t 10) (.seq (.reg [o 4 (.mov (.k (.bool false)))]) .ret) .skip)) (.seq (.seq (.reg [o 5 (.mov (.k (.int .i64 0)))]) (.blk 0 (.lop (.seq (.seq (.reg [o 11 (.mov (.t 5)), o 12 (.mov (.t 0)), o 13 (.len false (.t 12)), o 14 (.bin .lss (.t 11) (.t 13))]) (.cnd (.t 14) .skip (.ext 0))) (.seq (.blk 1 (.seq (.drw [o 17 (.mov (.t 0)), o 18 (.mov (.t 5)), o 19 (.iad 3 (.t 17) (.t 18)), o 20 (.ld true 3 (.t 19)), o 21 (.mov (.t 1)), o 22 (.mov (.t 5)), o 23 (.iad 3 (.t 21) (.t 22)), o 24 (.ld true 3 (.t 23))] [o 25 (.call 126 [(.t 20), (.t 24)]), o 26 (.un .not (.t 25))]) (.cnd (.t 26) (.seq (.reg [o 4 (.mov (.k (.bool false)))]) .ret) .skip))) (.reg [o 15 (.mov (.t 5)), o 16 (.bin .add (.t 15) (.k (.int .i64 1))), o 5 (.mov (.t 16))])))))) (.seq (.reg [o 4 (.mov (.k (.bool true)))]) .ret))))⟩
theorem ir_l_eqTallyS : compFn Try.prog n_l_eqTallyS = some F_l_eqTallyS := by kernel_rfl
theorem l_eqTallyS_ret (σ : St) (v u : GV) (l m : List Tally) (hv : RS pTally.kd σ v l) (hu : RS pTally.kd σ u m) (hl : (l.length + sumL msTally l) ≤ 1099511627776) : Ret Try.prog n_l_eqTallyS [v, u] σ (.bool (decide (l = m))) σ := by
  refine ret_eq ir_l_eqTallyS (Nat.le_of_ble_eq_true rfl) trivial ?_
  simp +contextual (maxSteps := 600000) (disch := omega) only [go_sem, Nat.reduceEqDiff, ↓reduceIte, Int.reduceEq, Int.reduceNeg, wrap_add, F_l_eqTallyS, hv.len, hu.len]
  refine ⟨fun hn => ?_, fun hn => ?_⟩
  · have : l ≠ m := fun h => by subst h; simp at hn
    simp [this]
  have hlm : l.length = m.length := by have h2 : (l.length : Int) = m.length := by simpa using hn
                                       omega
  refine vc_for l.length 5 (fun i env τ => env 0 = v ∧ env 1 = u ∧ l.take i = m.take i ∧ σ <+: τ) rfl ⟨rfl, rfl, rfl, List.prefix_refl _⟩ ?_ ?_
  · rintro i env τ hi e5 c0 ⟨e0, e1, he, hp⟩
    have hj : i < m.length := by omega
    have h1 := hv.pre hp
    have h2 := hu.pre hp
    have hne : l[i] ≠ m[i] → l ≠ m := fun h h' => h (by subst h'; rfl)
    have hst : l[i] = m[i] → l.take (i + 1) = m.take (i + 1) := fun h => by rw [take_snoc hi, take_snoc hj, he, h]
    have hms : msTally l[i] ≤ sumL msTally l := sumL_mem (List.getElem_mem hi)
    simp +contextual (maxSteps := 600000) (disch := omega) only [go_sem, Nat.reduceEqDiff, ↓reduceIte, Int.reduceEq, Int.reduceNeg, wrap_add, c0, e0, e1, e5, hv.len, hu.len, Tally_at h1 hi, Tally_at h2 hj]
    refine by_ret (l_eqTally_ret τ l[i] m[i]) ?_
    simp +contextual (maxSteps := 600000) (disch := omega) only [go_sem, Nat.reduceEqDiff, ↓reduceIte, Int.reduceEq, Int.reduceNeg, wrap_add, e0, e1, e5, hp]
    refine ⟨fun h => ?_, fun h => ?_⟩
    · simp [hne (by simpa using h)]
    · simpa using hst (by simpa using h)
  · rintro env τ e5 c0 ⟨e0, e1, he, hp⟩
    rw [List.take_length, hlm, List.take_length] at he
    simp +contextual (maxSteps := 600000) (disch := omega) only [go_sem, Nat.reduceEqDiff, ↓reduceIte, Int.reduceEq, Int.reduceNeg, wrap_add, c0, e0, e1, e5, hv.len, hu.len, hp]
    simp [he]
end Go.Proofs.Ytopannfdcikgiaa.Sy

/- Contracts of the laws' own functions: HeqState. -/
namespace Go.Proofs.Ytopannfdcikgiaa.Sy
open Go Go.RowKit
set_option linter.unusedSimpArgs false
set_option linter.unusedVariables false
abbrev n_l_eqState : Nat := 53
def F_l_eqState : Fn1 := ⟨29, [.t 4], (.seq (.reg [o 2 (.box (.t 0)), o 3 (.box (.t 1)), o 4 (.mov (.k (.bool false)))]) (.seq (.seq (.reg [o 5 (.fad 0 (.t 2)), o 6 (.ld false 1 (.t 5)), o 7 (.fad 0 (.t 3)), o 8 (.ld false 1 (.t 7)), o 9 (.call 22 [(.t 6), (.t 8)]), o 10 (.un .not (.t 9))]) (.cnd (.t 10) (.seq (.reg [o 4 (.mov (.k (.bool false)))]) .ret) .skip)) (.seq (.seq (.reg [o 11 (.fad 1 (.t 2)), o 12 (.ld false 1 (.t 11)), o 13 (.fad 1 (.t 3)), o 14 (.ld false 1 (.t 13)), o 15 (.call 98 [(.t 12), (.t 14)]), o 16 (.un .not (.t 15))]) (.cnd (.t 16) (.seq (.reg [o 4 (.mov (.k (.bool false)))]) .ret) .skip)) (.seq (.seq (.reg [o 17 (.fad 2 (.t 2)), o 18 (.ld false 1 (.t 17)), o 19 (.fad 2 (.t 3)), o 20 (.ld false 1 (.t 19)), o 21 (.call 99 [(.t 18), (.t 20)]), o 22 (.un .not (.t 21))]) (.cnd (.t 22) (.seq (.reg [o 4 (.mov (.k (.bool false)))]) .ret) .skip)) (.seq (.seq (.reg [o 23 (.fad 3 (.t 2)), o 24 (.ld false 1 (.t 23)), o 25 (.fad 3 (.t 3)), o 26 (.ld false 1 (.t 25)), o 27 (.call 100 [(.t 24), (.t 26)]), o 28 (.un .not (.t 27))]) (.cnd (.t 28) (.seq (.reg [o 4 (.mov (.k (.bool false)))]) .ret) .skip)) (.seq (.reg [o 4 (.mov (.k (.bool true)))]) .ret))))))⟩
theorem ir_l_eqState : compFn Try.prog n_l_eqState = some F_l_eqState := by kernel_rfl
theorem l_eqState_ret (σ : St) (cs ds : List GV) (x y : State) (hx : kState.R σ x cs) (hy : kState.R σ y ds) (hl : msState x ≤ 1099511627776) : Ret Try.prog n_l_eqState [.agg cs, .agg ds] σ (.bool (decide (x = y))) σ := by
  obtain ⟨v0, v1, v2, v3, rfl, q0_, q1_, q2_, q3_⟩ := hx
  obtain ⟨u0, u1, u2, u3, rfl, p0_, p1_, p2_, p3_⟩ := hy
  unfold msState at hl
  refine ret_eq ir_l_eqState (Nat.le_of_ble_eq_true rfl) trivial ?_
  simp +contextual (maxSteps := 600000) (disch := omega) only [go_sem, Nat.reduceEqDiff, ↓reduceIte, Int.reduceEq, Int.reduceNeg, wrap_add, F_l_eqState, List.append_nil]
  refine by_ret (l_eqIntS_ret _ v0 u0 x.know y.know (q0_.pre pre2) (p0_.pre pre2) (by omega)) ?_
  simp +contextual (maxSteps := 600000) (disch := omega) only [go_sem, Nat.reduceEqDiff, ↓reduceIte, Int.reduceEq, Int.reduceNeg, wrap_add, List.append_nil]
  refine ⟨fun hn => ?_, fun hn => ?_⟩
  · simp only [State.eq_iff]; simp at hn ⊢; simp [hn]
  have q0 : x.know = y.know := by simpa using hn
  refine by_ret (l_eqTallyS_ret _ v1 u1 x.tallies y.tallies (q1_.pre pre2) (p1_.pre pre2) (by omega)) ?_
  simp +contextual (maxSteps := 600000) (disch := omega) only [go_sem, Nat.reduceEqDiff, ↓reduceIte, Int.reduceEq, Int.reduceNeg, wrap_add, List.append_nil]
  refine ⟨fun hn => ?_, fun hn => ?_⟩
  · simp only [State.eq_iff]; simp at hn ⊢; simp [hn]
  have q1 : x.tallies = y.tallies := by simpa using hn
  refine by_ret (l_eqLiveS_ret _ v2 u2 x.lives y.lives (q2_.pre pre2) (p2_.pre pre2) (by omega)) ?_
  simp +contextual (maxSteps := 600000) (disch := omega) only [go_sem, Nat.reduceEqDiff, ↓reduceIte, Int.reduceEq, Int.reduceNeg, wrap_add, List.append_nil]
  refine ⟨fun hn => ?_, fun hn => ?_⟩
  · simp only [State.eq_iff]; simp at hn ⊢; simp [hn]
  have q2 : x.lives = y.lives := by simpa using hn
  refine by_ret (l_eqCellS_ret _ v3 u3 x.cells y.cells (q3_.pre pre2) (p3_.pre pre2) (by omega)) ?_
  simp +contextual (maxSteps := 600000) (disch := omega) only [go_sem, Nat.reduceEqDiff, ↓reduceIte, Int.reduceEq, Int.reduceNeg, wrap_add, List.append_nil]
  refine ⟨fun hn => ?_, fun hn => ?_⟩
  · simp only [State.eq_iff]; simp at hn ⊢; simp [hn]
  have q3 : x.cells = y.cells := by simpa using hn
  simp only [State.eq_iff, q0, q1, q2, q3, and_self, decide_true]
end Go.Proofs.Ytopannfdcikgiaa.Sy

/- Contracts of the laws' own functions: records of our own. -/
namespace Go.Proofs.Ytopannfdcikgiaa.Sy
open Go Go.RowKit
set_option linter.unusedSimpArgs false
set_option linter.unusedVariables false
theorem Hp.ownAct {σ τ : St} {rs : List Thg} {x : Act} {v2 : GV} (H : Hp σ τ (ow pI.kd v2 x.knew :: rs)) : Hp σ τ (own kAct ((GV.int .i64 x.dot.rep) :: (GV.int .i64 x.dot.seq) :: (GV.int .i64 x.time) :: v2 :: (GV.int .i64 x.kind) :: (GV.str x.obj) :: (GV.str x.key) :: (GV.int .i64 x.val) :: (GV.int .i64 x.ref.rep) :: (GV.int .i64 x.ref.seq) :: []) x :: rs) := by
  refine (H).conv ?_
  intro fp h0
  exact ⟨v2, fp, rfl, h0, rfl⟩
theorem Hp.splitAct {σ τ : St} {rs : List Thg} {x : Act} {cs : List GV} (H : Hp σ τ (own kAct cs x :: rs)) : ∃ v2, cs = (GV.int .i64 x.dot.rep) :: (GV.int .i64 x.dot.seq) :: (GV.int .i64 x.time) :: v2 :: (GV.int .i64 x.kind) :: (GV.str x.obj) :: (GV.str x.key) :: (GV.int .i64 x.val) :: (GV.int .i64 x.ref.rep) :: (GV.int .i64 x.ref.seq) :: [] ∧ Hp σ τ (ow pI.kd v2 x.knew :: rs) := by
  obtain ⟨h, fp, ⟨a, b, ⟨v2, f0, rfl, h0, rfl⟩, hs, rfl⟩, hn, hb⟩ := H
  exact ⟨v2, rfl, h, _, ⟨_, _, h0, hs, rfl⟩, by simpa [List.append_assoc] using hn, by simpa [List.append_assoc] using hb⟩
theorem Hp.ownState {σ τ : St} {rs : List Thg} {x : State} {v0 : GV} {v1 : GV} {v2 : GV} {v3 : GV} (H : Hp σ τ (ow pI.kd v0 x.know :: ow pTally.kd v1 x.tallies :: ow pLive.kd v2 x.lives :: ow pCell.kd v3 x.cells :: rs)) : Hp σ τ (own kState (v0 :: v1 :: v2 :: v3 :: []) x :: rs) := by
  refine (H.join.join.join).conv ?_
  rintro fp ⟨_, f3, ⟨_, f2, ⟨f0, f1, h0, h1, rfl⟩, h2, rfl⟩, h3, rfl⟩
  exact ⟨v0, v1, v2, v3, f0, f1, f2, f3, rfl, h0, h1, h2, h3, by simp [List.append_assoc]⟩
theorem Hp.splitState {σ τ : St} {rs : List Thg} {x : State} {cs : List GV} (H : Hp σ τ (own kState cs x :: rs)) : ∃ v0 v1 v2 v3, cs = v0 :: v1 :: v2 :: v3 :: [] ∧ Hp σ τ (ow pI.kd v0 x.know :: ow pTally.kd v1 x.tallies :: ow pLive.kd v2 x.lives :: ow pCell.kd v3 x.cells :: rs) := by
  obtain ⟨h, fp, ⟨a, b, ⟨v0, v1, v2, v3, f0, f1, f2, f3, rfl, h0, h1, h2, h3, rfl⟩, hs, rfl⟩, hn, hb⟩ := H
  exact ⟨v0, v1, v2, v3, rfl, h, _, ⟨_, _, h0, ⟨_, _, h1, ⟨_, _, h2, ⟨_, _, h3, hs, rfl⟩, rfl⟩, rfl⟩, rfl⟩, by simpa [List.append_assoc] using hn, by simpa [List.append_assoc] using hb⟩
theorem Hp.ownDelta {σ τ : St} {rs : List Thg} {x : Delta} {v0 : GV} {v1 : GV} {v2 : GV} {v3 : GV} {v4 : GV} {v5 : GV} (H : Hp σ τ (ow pI.kd v0 x.base :: ow pI.kd v1 x.know :: ow pTally.kd v2 x.tallies :: ow pLive.kd v3 x.lives :: ow pDot.kd v4 x.dead :: ow pCell.kd v5 x.cells :: rs)) : Hp σ τ (own kDelta (v0 :: v1 :: v2 :: v3 :: v4 :: v5 :: []) x :: rs) := by
  refine (H.join.join.join.join.join).conv ?_
  rintro fp ⟨_, f5, ⟨_, f4, ⟨_, f3, ⟨_, f2, ⟨f0, f1, h0, h1, rfl⟩, h2, rfl⟩, h3, rfl⟩, h4, rfl⟩, h5, rfl⟩
  exact ⟨v0, v1, v2, v3, v4, v5, f0, f1, f2, f3, f4, f5, rfl, h0, h1, h2, h3, h4, h5, by simp [List.append_assoc]⟩
theorem Hp.splitDelta {σ τ : St} {rs : List Thg} {x : Delta} {cs : List GV} (H : Hp σ τ (own kDelta cs x :: rs)) : ∃ v0 v1 v2 v3 v4 v5, cs = v0 :: v1 :: v2 :: v3 :: v4 :: v5 :: [] ∧ Hp σ τ (ow pI.kd v0 x.base :: ow pI.kd v1 x.know :: ow pTally.kd v2 x.tallies :: ow pLive.kd v3 x.lives :: ow pDot.kd v4 x.dead :: ow pCell.kd v5 x.cells :: rs) := by
  obtain ⟨h, fp, ⟨a, b, ⟨v0, v1, v2, v3, v4, v5, f0, f1, f2, f3, f4, f5, rfl, h0, h1, h2, h3, h4, h5, rfl⟩, hs, rfl⟩, hn, hb⟩ := H
  exact ⟨v0, v1, v2, v3, v4, v5, rfl, h, _, ⟨_, _, h0, ⟨_, _, h1, ⟨_, _, h2, ⟨_, _, h3, ⟨_, _, h4, ⟨_, _, h5, hs, rfl⟩, rfl⟩, rfl⟩, rfl⟩, rfl⟩, rfl⟩, by simpa [List.append_assoc] using hn, by simpa [List.append_assoc] using hb⟩
theorem Hp.ownUnit_ {σ τ : St} {rs : List Thg} {x : Unit_} {v1 : List GV} {v2 : List GV} (H : Hp σ τ (own kAct v1 x.act :: own kDelta v2 x.delta :: rs)) : Hp σ τ (own kUnit_ ((GV.bool x.batch) :: v1 ++ (v2 ++ ([]))) x :: rs) := by
  refine (H.join).conv ?_
  rintro fp ⟨f0, f1, h0, h1, rfl⟩
  exact ⟨v1, v2, f0, f1, rfl, h0, h1, by simp [List.append_assoc]⟩
theorem Hp.splitUnit_ {σ τ : St} {rs : List Thg} {x : Unit_} {cs : List GV} (H : Hp σ τ (own kUnit_ cs x :: rs)) : ∃ v1 v2, cs = (GV.bool x.batch) :: v1 ++ (v2 ++ ([])) ∧ Hp σ τ (own kAct v1 x.act :: own kDelta v2 x.delta :: rs) := by
  obtain ⟨h, fp, ⟨a, b, ⟨v1, v2, f0, f1, rfl, h0, h1, rfl⟩, hs, rfl⟩, hn, hb⟩ := H
  exact ⟨v1, v2, rfl, h, _, ⟨_, _, h0, ⟨_, _, h1, hs, rfl⟩, rfl⟩, by simpa [List.append_assoc] using hn, by simpa [List.append_assoc] using hb⟩
theorem Hp.ownLog {σ τ : St} {rs : List Thg} {x : Log} {v2 : List GV} {v3 : GV} {v4 : GV} (H : Hp σ τ (own kState v2 x.state :: ow kUnit_ v3 x.units :: ow kUnit_ v4 x.waits :: rs)) : Hp σ τ (own kLog ((GV.int .i64 x.rep) :: (GV.int .i64 x.time) :: v2 ++ (v3 :: v4 :: [])) x :: rs) := by
  refine (H.join.join).conv ?_
  rintro fp ⟨_, f2, ⟨f0, f1, h0, h1, rfl⟩, h2, rfl⟩
  exact ⟨v2, v3, v4, f0, f1, f2, rfl, h0, h1, h2, by simp [List.append_assoc]⟩
theorem Hp.splitLog {σ τ : St} {rs : List Thg} {x : Log} {cs : List GV} (H : Hp σ τ (own kLog cs x :: rs)) : ∃ v2 v3 v4, cs = (GV.int .i64 x.rep) :: (GV.int .i64 x.time) :: v2 ++ (v3 :: v4 :: []) ∧ Hp σ τ (own kState v2 x.state :: ow kUnit_ v3 x.units :: ow kUnit_ v4 x.waits :: rs) := by
  obtain ⟨h, fp, ⟨a, b, ⟨v2, v3, v4, f0, f1, f2, rfl, h0, h1, h2, rfl⟩, hs, rfl⟩, hn, hb⟩ := H
  exact ⟨v2, v3, v4, rfl, h, _, ⟨_, _, h0, ⟨_, _, h1, ⟨_, _, h2, hs, rfl⟩, rfl⟩, rfl⟩, by simpa [List.append_assoc] using hn, by simpa [List.append_assoc] using hb⟩
theorem Hp.ownCommit {σ τ : St} {rs : List Thg} {x : Commit} {v1 : GV} {v2 : List GV} (H : Hp σ τ (ow pI.kd v1 x.ups :: own kState v2 x.state :: rs)) : Hp σ τ (own kCommit ((GV.int .i64 x.id.rep) :: (GV.int .i64 x.id.seq) :: v1 :: v2 ++ ([])) x :: rs) := by
  refine (H.join).conv ?_
  rintro fp ⟨f0, f1, h0, h1, rfl⟩
  exact ⟨v1, v2, f0, f1, rfl, h0, h1, by simp [List.append_assoc]⟩
theorem Hp.splitCommit {σ τ : St} {rs : List Thg} {x : Commit} {cs : List GV} (H : Hp σ τ (own kCommit cs x :: rs)) : ∃ v1 v2, cs = (GV.int .i64 x.id.rep) :: (GV.int .i64 x.id.seq) :: v1 :: v2 ++ ([]) ∧ Hp σ τ (ow pI.kd v1 x.ups :: own kState v2 x.state :: rs) := by
  obtain ⟨h, fp, ⟨a, b, ⟨v1, v2, f0, f1, rfl, h0, h1, rfl⟩, hs, rfl⟩, hn, hb⟩ := H
  exact ⟨v1, v2, rfl, h, _, ⟨_, _, h0, ⟨_, _, h1, hs, rfl⟩, rfl⟩, by simpa [List.append_assoc] using hn, by simpa [List.append_assoc] using hb⟩
theorem Hp.ownGraph {σ τ : St} {rs : List Thg} {x : Graph} {v0 : GV} (H : Hp σ τ (ow kCommit v0 x.commits :: rs)) : Hp σ τ (own kGraph (v0 :: (GV.int .i64 x.head) :: []) x :: rs) := by
  refine (H).conv ?_
  intro fp h0
  exact ⟨v0, fp, rfl, h0, rfl⟩
theorem Hp.splitGraph {σ τ : St} {rs : List Thg} {x : Graph} {cs : List GV} (H : Hp σ τ (own kGraph cs x :: rs)) : ∃ v0, cs = v0 :: (GV.int .i64 x.head) :: [] ∧ Hp σ τ (ow kCommit v0 x.commits :: rs) := by
  obtain ⟨h, fp, ⟨a, b, ⟨v0, f0, rfl, h0, rfl⟩, hs, rfl⟩, hn, hb⟩ := H
  exact ⟨v0, rfl, h, _, ⟨_, _, h0, hs, rfl⟩, by simpa [List.append_assoc] using hn, by simpa [List.append_assoc] using hb⟩
theorem Hp.ownReplica {σ τ : St} {rs : List Thg} {x : Replica} {v1 : List GV} {v2 : List GV} {v4 : GV} (H : Hp σ τ (own kLog v1 x.log :: own kGraph v2 x.graph :: ow kUnit_ v4 x.out :: rs)) : Hp σ τ (own kReplica ((GV.int .i64 x.way) :: v1 ++ (v2 ++ ((GV.str x.file.text) :: (GV.int .i64 x.file.synced) :: v4 :: []))) x :: rs) := by
  refine (H.join.join).conv ?_
  rintro fp ⟨_, f2, ⟨f0, f1, h0, h1, rfl⟩, h2, rfl⟩
  exact ⟨v1, v2, v4, f0, f1, f2, rfl, h0, h1, h2, by simp [List.append_assoc]⟩
theorem Hp.splitReplica {σ τ : St} {rs : List Thg} {x : Replica} {cs : List GV} (H : Hp σ τ (own kReplica cs x :: rs)) : ∃ v1 v2 v4, cs = (GV.int .i64 x.way) :: v1 ++ (v2 ++ ((GV.str x.file.text) :: (GV.int .i64 x.file.synced) :: v4 :: [])) ∧ Hp σ τ (own kLog v1 x.log :: own kGraph v2 x.graph :: ow kUnit_ v4 x.out :: rs) := by
  obtain ⟨h, fp, ⟨a, b, ⟨v1, v2, v4, f0, f1, f2, rfl, h0, h1, h2, rfl⟩, hs, rfl⟩, hn, hb⟩ := H
  exact ⟨v1, v2, v4, rfl, h, _, ⟨_, _, h0, ⟨_, _, h1, ⟨_, _, h2, hs, rfl⟩, rfl⟩, rfl⟩, by simpa [List.append_assoc] using hn, by simpa [List.append_assoc] using hb⟩
theorem Hp.ownWorld_ {σ τ : St} {rs : List Thg} {x : World_} {v0 : GV} {v1 : GV} {v2 : GV} {v3 : GV} (H : Hp σ τ (ow kReplica v0 x.replicas :: ow pLetter.kd v1 x.net :: ow pI.kd v2 x.codes :: ow (Kd.sl pI.kd) v3 x.synced :: rs)) : Hp σ τ (own kWorld_ (v0 :: v1 :: v2 :: v3 :: []) x :: rs) := by
  refine (H.join.join.join).conv ?_
  rintro fp ⟨_, f3, ⟨_, f2, ⟨f0, f1, h0, h1, rfl⟩, h2, rfl⟩, h3, rfl⟩
  exact ⟨v0, v1, v2, v3, f0, f1, f2, f3, rfl, h0, h1, h2, h3, by simp [List.append_assoc]⟩
theorem Hp.splitWorld_ {σ τ : St} {rs : List Thg} {x : World_} {cs : List GV} (H : Hp σ τ (own kWorld_ cs x :: rs)) : ∃ v0 v1 v2 v3, cs = v0 :: v1 :: v2 :: v3 :: [] ∧ Hp σ τ (ow kReplica v0 x.replicas :: ow pLetter.kd v1 x.net :: ow pI.kd v2 x.codes :: ow (Kd.sl pI.kd) v3 x.synced :: rs) := by
  obtain ⟨h, fp, ⟨a, b, ⟨v0, v1, v2, v3, f0, f1, f2, f3, rfl, h0, h1, h2, h3, rfl⟩, hs, rfl⟩, hn, hb⟩ := H
  exact ⟨v0, v1, v2, v3, rfl, h, _, ⟨_, _, h0, ⟨_, _, h1, ⟨_, _, h2, ⟨_, _, h3, hs, rfl⟩, rfl⟩, rfl⟩, rfl⟩, by simpa [List.append_assoc] using hn, by simpa [List.append_assoc] using hb⟩
theorem Hp.ownScript {σ τ : St} {rs : List Thg} {x : Script} {v0 : GV} {v1 : GV} (H : Hp σ τ (ow pI.kd v0 x.ways :: ow pEvent.kd v1 x.events :: rs)) : Hp σ τ (own kScript (v0 :: v1 :: (GV.bool x.calm) :: []) x :: rs) := by
  refine (H.join).conv ?_
  rintro fp ⟨f0, f1, h0, h1, rfl⟩
  exact ⟨v0, v1, f0, f1, rfl, h0, h1, by simp [List.append_assoc]⟩
theorem Hp.splitScript {σ τ : St} {rs : List Thg} {x : Script} {cs : List GV} (H : Hp σ τ (own kScript cs x :: rs)) : ∃ v0 v1, cs = v0 :: v1 :: (GV.bool x.calm) :: [] ∧ Hp σ τ (ow pI.kd v0 x.ways :: ow pEvent.kd v1 x.events :: rs) := by
  obtain ⟨h, fp, ⟨a, b, ⟨v0, v1, f0, f1, rfl, h0, h1, rfl⟩, hs, rfl⟩, hn, hb⟩ := H
  exact ⟨v0, v1, rfl, h, _, ⟨_, _, h0, ⟨_, _, h1, hs, rfl⟩, rfl⟩, by simpa [List.append_assoc] using hn, by simpa [List.append_assoc] using hb⟩
end Go.Proofs.Ytopannfdcikgiaa.Sy

/- Contracts of the laws' own functions: marks. -/
namespace Go.Proofs.Ytopannfdcikgiaa.Sy
open Go Go.RowKit
set_option linter.unusedSimpArgs false
set_option linter.unusedVariables false
def mInt (k : Int) : Int := k
def mString (k : Int) : ByteArray := mtx k
def mDot (k : Int) : Dot := ⟨k, k + 1⟩
def mTally (k : Int) : Tally := ⟨mtx (k), k + 1, k + 1 + 1⟩
def mLive (k : Int) : Live := ⟨((k).tmod 3 == 0), mtx (k + 1), mtx (k + 1 + 1), k + 1 + 1 + 1, ⟨k + 1 + 1 + 1 + 1, k + 1 + 1 + 1 + 1 + 1⟩⟩
def mCell (k : Int) : Cell := ⟨mtx (k), ⟨k + 1, k + 1 + 1⟩, k + 1 + 1 + 1, ⟨k + 1 + 1 + 1 + 1, k + 1 + 1 + 1 + 1 + 1⟩, k + 1 + 1 + 1 + 1 + 1 + 1, ((k + 1 + 1 + 1 + 1 + 1 + 1 + 1).tmod 3 == 0)⟩
def mEdit (k : Int) : Edit := ⟨k, mtx (k + 1), mtx (k + 1 + 1), k + 1 + 1 + 1, k + 1 + 1 + 1 + 1⟩
def mWatch (k : Int) : Watch := ⟨k, mtx (k + 1), mtx (k + 1 + 1)⟩
def mClash (k : Int) : Clash := ⟨mtx (k), mtx (k + 1)⟩
def mFile (k : Int) : File := ⟨mtx (k), k + 1⟩
def mLetter (k : Int) : Letter := ⟨k, mtx (k + 1)⟩
def mEvent (k : Int) : Event := ⟨k, k + 1, k + 1 + 1, ⟨k + 1 + 1 + 1, mtx (k + 1 + 1 + 1 + 1), mtx (k + 1 + 1 + 1 + 1 + 1), k + 1 + 1 + 1 + 1 + 1 + 1, k + 1 + 1 + 1 + 1 + 1 + 1 + 1⟩⟩
end Go.Proofs.Ytopannfdcikgiaa.Sy

/- Contracts of the laws' own functions: HheIntS. -/
namespace Go.Proofs.Ytopannfdcikgiaa.Sy
open Go Go.RowKit
set_option linter.unusedSimpArgs false
set_option linter.unusedVariables false
abbrev n_l_heldIntS : Nat := 32
def F_l_heldIntS : Fn1 := ⟨21, [.t 4], (.seq (.reg [o 4 (.mov (.k (.int .i64 0)))]) (.seq (.seq (.reg [o 5 (.mov (.k (.int .i64 0)))]) (.blk 0 (.lop (.seq (.seq (.reg [o 6 (.mov (.t 5)), o 7 (.mov (.t 0)), o 8 (.len false (.t 7)), o 9 (.bin .lss (.t 6) (.t 8))]) (.cnd (.t 9) .skip (.ext 0))) (.seq (.blk 1 (.seq (.seq (.reg [o 12 (.mov (.t 0)), o 13 (.mov (.t 5)), o 14 (.iad 1 (.t 12) (.t 13)), o 15 (.ld false 1 (.t 14)), o 16 (.mov (.t 1)), o 17 (.bin .neq (.t 15) (.t 16))]) (.cnd (.t 17) (.seq (.reg [o 4 (.mov (.k (.int .i64 (-1))))]) .ret) .skip)) (.reg [o 18 (.mov (.t 1)), o 19 (.bin .add (.t 18) (.k (.int .i64 1))), o 1 (.mov (.t 19))]))) (.reg [o 10 (.mov (.t 5)), o 11 (.bin .add (.t 10) (.k (.int .i64 1))), o 5 (.mov (.t 11))])))))) (.seq (.reg [o 20 (.mov (.t 1)), o 4 (.mov (.t 20))]) .ret)))⟩
theorem ir_l_heldIntS : compFn Try.prog n_l_heldIntS = some F_l_heldIntS := by kernel_rfl
theorem l_heldIntS_ret (σ : St) (v : GV) (n : Nat) (k : Int) (hR : RS pI.kd σ v (mkF mInt 1 k n)) (h0 : 0 ≤ k) (hk : k + 1 * n ≤ 4611686018427387904) : Ret Try.prog n_l_heldIntS [v, gi k] σ (gi (k + 1 * n)) σ := by
  refine ret_eq ir_l_heldIntS (Nat.le_of_ble_eq_true rfl) trivial ?_
  have hln := hR.len
  rw [mkF_length] at hln
  simp +contextual (maxSteps := 600000) (disch := omega) only [go_sem, Nat.reduceEqDiff, ↓reduceIte, Int.reduceEq, Int.reduceNeg, wrap_add, F_l_heldIntS]
  refine vc_for n 5 (fun i env τ => env 0 = v ∧ env 1 = gi (k + 1 * (i : Int)) ∧ σ <+: τ) rfl ⟨rfl, (by show gi k = gi (k + 1 * 0); simp), List.prefix_refl _⟩ ?_ ?_
  · rintro i env τ hi e5 c0 ⟨e0, e1, hp⟩
    have hj : i < (mkF mInt 1 k n).length := by rw [mkF_length]; exact hi
    have hat := int_at (hR.pre hp) hj
    simp only [mkF_get, mInt] at hat
    simp +contextual (maxSteps := 600000) (disch := omega) only [go_sem, Nat.reduceEqDiff, ↓reduceIte, Int.reduceEq, Int.reduceNeg, wrap_add, c0, e0, e1, e5, hln, hat, hp, bne_self_eq_false, beq_self_eq_true]
    omega
  · rintro env τ e5 c0 ⟨e0, e1, hp⟩
    simp +contextual (maxSteps := 600000) (disch := omega) only [go_sem, Nat.reduceEqDiff, ↓reduceIte, Int.reduceEq, Int.reduceNeg, wrap_add, c0, e0, e1, e5, hln, hp]
end Go.Proofs.Ytopannfdcikgiaa.Sy

/- Contracts of the laws' own functions: HmkIntS. -/
namespace Go.Proofs.Ytopannfdcikgiaa.Sy
open Go Go.RowKit
set_option linter.unusedSimpArgs false
set_option linter.unusedVariables false
abbrev n_l_markIntS : Nat := 31
def F_l_markIntS : Fn1 := ⟨19, [.t 4], (.seq (.reg [o 4 (.mov (.k (.int .i64 0)))]) (.seq (.seq (.reg [o 5 (.mov (.k (.int .i64 0)))]) (.blk 0 (.lop (.seq (.seq (.reg [o 6 (.mov (.t 5)), o 7 (.mov (.t 0)), o 8 (.len false (.t 7)), o 9 (.bin .lss (.t 6) (.t 8))]) (.cnd (.t 9) .skip (.ext 0))) (.seq (.blk 1 (.seq (.reg [o 12 (.mov (.t 0)), o 13 (.mov (.t 5)), o 14 (.mov (.t 1)), o 15 (.iad 1 (.t 12) (.t 13)), on (.st 1 (.t 15) (.t 14))]) (.reg [o 16 (.mov (.t 1)), o 17 (.bin .add (.t 16) (.k (.int .i64 1))), o 1 (.mov (.t 17))]))) (.reg [o 10 (.mov (.t 5)), o 11 (.bin .add (.t 10) (.k (.int .i64 1))), o 5 (.mov (.t 11))])))))) (.seq (.reg [o 18 (.mov (.t 1)), o 4 (.mov (.t 18))]) .ret)))⟩
theorem ir_l_markIntS : compFn Try.prog n_l_markIntS = some F_l_markIntS := by kernel_rfl
theorem l_markIntS_ret {σ τ : St} {rs : List Thg} (i0 : Nat) (v : GV) (l : List Int) (k : Int) (H : Hp σ τ rs) (hi0 : rs[i0]? = some (ow pI.kd v l)) (h0 : 0 ≤ k) (hk : k + 1 * l.length ≤ 4611686018427387904) : ∃ τ', Ret Try.prog n_l_markIntS [v, gi k] τ (gi (k + 1 * l.length)) τ' ∧ Hp σ τ' (rs.set i0 (ow pI.kd v (mkF mInt 1 k l.length))) := by
  have H := H.pick i0 hi0
  have hlt := (List.getElem?_eq_some_iff.1 hi0).1
  obtain ⟨r, τ', hR, rfl, H'⟩ := ret_mut (P := Try.prog) (σ := τ) (args := [v, gi k]) (Post := fun r τ' => r = gi (k + 1 * l.length) ∧ Hp σ τ' (ow pI.kd v (mkF mInt 1 k l.length) :: rs.eraseIdx i0)) ir_l_markIntS (Nat.le_of_ble_eq_true rfl) (by
    simp +contextual (maxSteps := 600000) (disch := omega) only [go_sem, Nat.reduceEqDiff, ↓reduceIte, Int.reduceEq, Int.reduceNeg, wrap_add, F_l_markIntS]
    refine vc_for l.length 5 (fun i env τ' => env 0 = v ∧ env 1 = gi (k + 1 * (i : Int)) ∧ τ.length ≤ τ'.length ∧ Hp σ τ' (ow pI.kd v ((mkF mInt 1 k l.length).take i ++ l.drop i) :: rs.eraseIdx i0)) rfl ⟨rfl, (by show gi k = gi (k + 1 * 0); simp), Nat.le_refl _, by simpa using H⟩ ?_ ?_
    · rintro i env τ' hi e5 c0 ⟨e0, e1, hle, H⟩
      have hL := mark_len (l := l) (e := mInt) (c := 1) (k := k) (i := i)
      have hst := mark_step (e := mInt) (c := 1) (k := k) hi
      generalize (mkF mInt 1 k l.length).take i ++ l.drop i = L at H hL hst
      have hj : i < L.length := by omega
      have h1 := H.sl 0 rfl
      have hln := h1.len
      rw [hL] at hln
      have hat := int_at h1 hj
      simp +contextual (maxSteps := 600000) (disch := omega) only [go_sem, Nat.reduceEqDiff, ↓reduceIte, Int.reduceEq, Int.reduceNeg, wrap_add, c0, e0, e1, e5, hln, hat]
      obtain ⟨τ2, es, H2⟩ := H.stw 0 rfl hj 1 (.int .i64 (k + 1 * (i : Int))) (mInt (k + 1 * (i : Int))) rfl rfl (by decide)
      have es : stG 1 τ' (atz 1 v i) (.int .i64 (k + 1 * (i : Int))) = some (.tup [], τ2) := es
      have hlen := stG_len es
      have H2 : Hp σ τ2 (ow pI.kd v (L.set i (mInt (k + (1 : Nat) * (i : Int)))) :: rs.eraseIdx i0) := H2
      rw [hst] at H2
      simp +contextual (maxSteps := 600000) (disch := omega) only [go_sem, Nat.reduceEqDiff, ↓reduceIte, Int.reduceEq, Int.reduceNeg, wrap_add, c0, e0, e1, e5, hln, hat, es]
      exact ⟨by omega, by omega, H2⟩
    · rintro env τ' e5 c0 ⟨e0, e1, hle, H⟩
      rw [mark_end] at H
      have hln := (H.sl 0 rfl).len
      rw [mkF_length] at hln
      simp +contextual (maxSteps := 600000) (disch := omega) only [go_sem, Nat.reduceEqDiff, ↓reduceIte, Int.reduceEq, Int.reduceNeg, wrap_add, c0, e0, e1, e5, hln]
      exact ⟨_, rfl, hle, rfl, H⟩)
  exact ⟨τ', hR, H'.unpick hlt⟩
end Go.Proofs.Ytopannfdcikgiaa.Sy

/- Contracts of the laws' own functions: marks of records. -/
namespace Go.Proofs.Ytopannfdcikgiaa.Sy
open Go Go.RowKit
set_option linter.unusedSimpArgs false
set_option linter.unusedVariables false
def ctState (x : State) : Nat := 1 * x.know.length + 3 * x.tallies.length + 6 * x.lives.length + 8 * x.cells.length
def mkState (k : Int) (x : State) : State := { x with know := (mkF mInt 1 (k) x.know.length), tallies := (mkF mTally 3 (k + 1 * (x.know.length : Int)) x.tallies.length), lives := (mkF mLive 6 (k + 1 * (x.know.length : Int) + 3 * (x.tallies.length : Int)) x.lives.length), cells := (mkF mCell 8 (k + 1 * (x.know.length : Int) + 3 * (x.tallies.length : Int) + 6 * (x.lives.length : Int)) x.cells.length) }
theorem ctState_le (x : State) : ctState x ≤ 10 * msState x := by
  unfold ctState msState; omega
def ctAct (x : Act) : Nat := 1 * x.knew.length
def mkAct (k : Int) (x : Act) : Act := { x with knew := (mkF mInt 1 (k) x.knew.length) }
theorem ctAct_le (x : Act) : ctAct x ≤ 10 * msAct x := by
  unfold ctAct msAct; omega
def ctDelta (x : Delta) : Nat := 1 * x.base.length + 1 * x.know.length + 3 * x.tallies.length + 6 * x.lives.length + 2 * x.dead.length + 8 * x.cells.length
def mkDelta (k : Int) (x : Delta) : Delta := { x with base := (mkF mInt 1 (k) x.base.length), know := (mkF mInt 1 (k + 1 * (x.base.length : Int)) x.know.length), tallies := (mkF mTally 3 (k + 1 * (x.base.length : Int) + 1 * (x.know.length : Int)) x.tallies.length), lives := (mkF mLive 6 (k + 1 * (x.base.length : Int) + 1 * (x.know.length : Int) + 3 * (x.tallies.length : Int)) x.lives.length), dead := (mkF mDot 2 (k + 1 * (x.base.length : Int) + 1 * (x.know.length : Int) + 3 * (x.tallies.length : Int) + 6 * (x.lives.length : Int)) x.dead.length), cells := (mkF mCell 8 (k + 1 * (x.base.length : Int) + 1 * (x.know.length : Int) + 3 * (x.tallies.length : Int) + 6 * (x.lives.length : Int) + 2 * (x.dead.length : Int)) x.cells.length) }
theorem ctDelta_le (x : Delta) : ctDelta x ≤ 10 * msDelta x := by
  unfold ctDelta msDelta; omega
end Go.Proofs.Ytopannfdcikgiaa.Sy

/- Contracts of the laws' own functions: HmkCellS. -/
namespace Go.Proofs.Ytopannfdcikgiaa.Sy
open Go Go.RowKit
set_option linter.unusedSimpArgs false
set_option linter.unusedVariables false
abbrev n_l_markCellS : Nat := 105
def F_l_markCellS : Fn1 := ⟨76, [.t 4], (.seq (.reg [o 4 (.mov (.k (.int .i64 0)))]) (.seq (.seq (.reg [o 5 (.mov (.k (.int .i64 0)))]) (.blk 0 (.lop (.seq (.seq (.reg [o 6 (.mov (.t 5)), o 7 (.mov (.t 0)), o 8 (.len false (.t 7)), o 9 (.bin .lss (.t 6) (.t 8))]) (.cnd (.t 9) .skip (.ext 0))) (.seq (.blk 1 (.seq (.reg [o 12 (.mov (.t 0)), o 13 (.mov (.t 5)), o 14 (.mov (.t 1)), o 15 (.call 129 [(.t 14)]), o 16 (.iad 8 (.t 12) (.t 13)), o 17 (.fad 0 (.t 16)), on (.st 1 (.t 17) (.t 15))]) (.seq (.reg [o 18 (.mov (.t 1)), o 19 (.bin .add (.t 18) (.k (.int .i64 1))), o 1 (.mov (.t 19))]) (.seq (.reg [o 20 (.mov (.t 0)), o 21 (.mov (.t 5)), o 22 (.mov (.t 1)), o 23 (.iad 8 (.t 20) (.t 21)), o 24 (.fad 1 (.t 23)), o 25 (.fad 0 (.t 24)), on (.st 1 (.t 25) (.t 22))]) (.seq (.reg [o 26 (.mov (.t 1)), o 27 (.bin .add (.t 26) (.k (.int .i64 1))), o 1 (.mov (.t 27))]) (.seq (.reg [o 28 (.mov (.t 0)), o 29 (.mov (.t 5)), o 30 (.mov (.t 1)), o 31 (.iad 8 (.t 28) (.t 29)), o 32 (.fad 1 (.t 31)), o 33 (.fad 1 (.t 32)), on (.st 1 (.t 33) (.t 30))]) (.seq (.reg [o 34 (.mov (.t 1)), o 35 (.bin .add (.t 34) (.k (.int .i64 1))), o 1 (.mov (.t 35))]) (.seq (.reg [o 36 (.mov (.t 0)), o 37 (.mov (.t 5)), o 38 (.mov (.t 1)), o 39 (.iad 8 (.t 36) (.t 37)), o 40 (.fad 3 (.t 39)), on (.st 1 (.t 40) (.t 38))]) (.seq (.reg [o 41 (.mov (.t 1)), o 42 (.bin .add (.t 41) (.k (.int .i64 1))), o 1 (.mov (.t 42))]) (.seq (.reg [o 43 (.mov (.t 0)), o 44 (.mov (.t 5)), o 45 (.mov (.t 1)), o 46 (.iad 8 (.t 43) (.t 44)), o 47 (.fad 4 (.t 46)), o 48 (.fad 0 (.t 47)), on (.st 1 (.t 48) (.t 45))]) (.seq (.reg [o 49 (.mov (.t 1)), o 50 (.bin .add (.t 49) (.k (.int .i64 1))), o 1 (.mov (.t 50))]) (.seq (.reg [o 51 (.mov (.t 0)), o 52 (.mov (.t 5)), o 53 (.mov (.t 1)), o 54 (.iad 8 (.t 51) (.t 52)), o 55 (.fad 4 (.t 54)), o 56 (.fad 1 (.t 55)), on (.st 1 (.t 56) (.t 53))]) (.seq (.reg [o 57 (.mov (.t 1)), o 58 (.bin .add (.t 57) (.k (.int .i64 1))), o 1 (.mov (.t 58))]) (.seq (.reg [o 59 (.mov (.t 0)), o 60 (.mov (.t 5)), o 61 (.mov (.t 1)), o 62 (.iad 8 (.t 59) (.t 60)), o 63 (.fad 6 (.t 62)), on (.st 1 (.t 63) (.t 61))]) (.seq (.reg [o 64 (.mov (.t 1)), o 65 (.bin .add (.t 64) (.k (.int .i64 1))), o 1 (.mov (.t 65))]) (.seq (.reg [o 66 (.mov (.t 0)), o 67 (.mov (.t 5)), o 68 (.mov (.t 1)), o 69 (.bin .rem (.t 68) (.k (.int .i64 3))), o 70 (.bin .eql (.t 69) (.k (.int .i64 0))), o 71 (.iad 8 (.t 66) (.t 67)), o 72 (.fad 7 (.t 71)), on (.st 1 (.t 72) (.t 70))]) (.reg [o 73 (.mov (.t 1)), o 74 (.bin .add (.t 73) (.k (.int .i64 1))), o 1 (.mov (.t 74))]))))))))))))))))) (.reg [o 10 (.mov (.t 5)), o 11 (.bin .add (.t 10) (.k (.int .i64 1))), o 5 (.mov (.t 11))])))))) (.seq (.reg [o 75 (.mov (.t 1)), o 4 (.mov (.t 75))]) .ret)))⟩
theorem ir_l_markCellS : compFn Try.prog n_l_markCellS = some F_l_markCellS := by kernel_rfl
theorem l_markCellS_ret {σ τ : St} {rs : List Thg} (i0 : Nat) (v : GV) (l : List Cell) (k : Int) (H : Hp σ τ rs) (hi0 : rs[i0]? = some (ow pCell.kd v l)) (h0 : 0 ≤ k) (hk : k + 8 * l.length ≤ 4611686018427387904) : ∃ τ', Ret Try.prog n_l_markCellS [v, gi k] τ (gi (k + 8 * l.length)) τ' ∧ Hp σ τ' (rs.set i0 (ow pCell.kd v (mkF mCell 8 k l.length))) := by
  have H := H.pick i0 hi0
  have hlt := (List.getElem?_eq_some_iff.1 hi0).1
  obtain ⟨r, τ', hR, rfl, H'⟩ := ret_mut (P := Try.prog) (σ := τ) (args := [v, gi k]) (Post := fun r τ' => r = gi (k + 8 * l.length) ∧ Hp σ τ' (ow pCell.kd v (mkF mCell 8 k l.length) :: rs.eraseIdx i0)) ir_l_markCellS (Nat.le_of_ble_eq_true rfl) (by
    simp +contextual (maxSteps := 600000) (disch := omega) only [go_sem, Nat.reduceEqDiff, ↓reduceIte, Int.reduceEq, Int.reduceNeg, wrap_add, F_l_markCellS]
    refine vc_for l.length 5 (fun i env τ' => env 0 = v ∧ env 1 = gi (k + 8 * (i : Int)) ∧ τ.length ≤ τ'.length ∧ Hp σ τ' (ow pCell.kd v ((mkF mCell 8 k l.length).take i ++ l.drop i) :: rs.eraseIdx i0)) rfl ⟨rfl, (by show gi k = gi (k + 8 * 0); simp), Nat.le_refl _, by simpa using H⟩ ?_ ?_
    · rintro i env τ' hi e5 c0 ⟨e0, e1, hle, H⟩
      have hL := mark_len (l := l) (e := mCell) (c := 8) (k := k) (i := i)
      have hst := mark_step (e := mCell) (c := 8) (k := k) hi
      generalize (mkF mCell 8 k l.length).take i ++ l.drop i = L at H hL hst
      have hj : i < L.length := by omega
      have h1 := H.sl 0 rfl
      have hln := h1.len
      rw [hL] at hln
      have hat := Cell_at h1 hj
      rw [set_self hj] at H
      generalize hy : L[i] = y at H hat
      simp +contextual (maxSteps := 600000) (disch := omega) only [go_sem, Nat.reduceEqDiff, ↓reduceIte, Int.reduceEq, Int.reduceNeg, wrap_add, c0, e0, e1, e5, hln, hat]
      refine by_ret (l_markText_ret _ _ (by omega)) ?_
      simp +contextual (maxSteps := 600000) (disch := omega) only [go_sem, Nat.reduceEqDiff, ↓reduceIte, Int.reduceEq, Int.reduceNeg, wrap_add, e0, e1, hat]
      obtain ⟨τ0, es, H⟩ := H.sts hj 1 0 (.str (mtx (k + 8 * (i : Int)))) (⟨mtx (k + 8 * (i : Int)), ⟨y.dot.rep, y.dot.seq⟩, y.time, ⟨y.ref.rep, y.ref.seq⟩, y.val, y.gone⟩) rfl (by decide) (by decide) rfl
      have es : stG 1 τ' (fld 0 (atz 8 v i)) (.str (mtx (k + 8 * (i : Int)))) = some (.tup [], τ0) := es
      have hl0 := stG_len es
      simp +contextual (maxSteps := 600000) (disch := omega) only [go_sem, Nat.reduceEqDiff, ↓reduceIte, Int.reduceEq, Int.reduceNeg, wrap_add, e0, e1, e5, hat, es]
      obtain ⟨τ1, es, H⟩ := H.sts hj 1 1 (.int .i64 (k + 8 * (i : Int) + 1)) (⟨mtx (k + 8 * (i : Int)), ⟨k + 8 * (i : Int) + 1, y.dot.seq⟩, y.time, ⟨y.ref.rep, y.ref.seq⟩, y.val, y.gone⟩) rfl (by decide) (by decide) rfl
      have es : stG 1 τ0 (fld 1 (atz 8 v i)) (.int .i64 (k + 8 * (i : Int) + 1)) = some (.tup [], τ1) := es
      have hl1 := stG_len es
      simp +contextual (maxSteps := 600000) (disch := omega) only [go_sem, Nat.reduceEqDiff, ↓reduceIte, Int.reduceEq, Int.reduceNeg, wrap_add, e0, e1, e5, hat, es]
      obtain ⟨τ2, es, H⟩ := H.sts hj 1 2 (.int .i64 (k + 8 * (i : Int) + 1 + 1)) (⟨mtx (k + 8 * (i : Int)), ⟨k + 8 * (i : Int) + 1, k + 8 * (i : Int) + 1 + 1⟩, y.time, ⟨y.ref.rep, y.ref.seq⟩, y.val, y.gone⟩) rfl (by decide) (by decide) rfl
      have es : stG 1 τ1 (fld 2 (atz 8 v i)) (.int .i64 (k + 8 * (i : Int) + 1 + 1)) = some (.tup [], τ2) := es
      have hl2 := stG_len es
      simp +contextual (maxSteps := 600000) (disch := omega) only [go_sem, Nat.reduceEqDiff, ↓reduceIte, Int.reduceEq, Int.reduceNeg, wrap_add, e0, e1, e5, hat, es]
      obtain ⟨τ3, es, H⟩ := H.sts hj 1 3 (.int .i64 (k + 8 * (i : Int) + 1 + 1 + 1)) (⟨mtx (k + 8 * (i : Int)), ⟨k + 8 * (i : Int) + 1, k + 8 * (i : Int) + 1 + 1⟩, k + 8 * (i : Int) + 1 + 1 + 1, ⟨y.ref.rep, y.ref.seq⟩, y.val, y.gone⟩) rfl (by decide) (by decide) rfl
      have es : stG 1 τ2 (fld 3 (atz 8 v i)) (.int .i64 (k + 8 * (i : Int) + 1 + 1 + 1)) = some (.tup [], τ3) := es
      have hl3 := stG_len es
      simp +contextual (maxSteps := 600000) (disch := omega) only [go_sem, Nat.reduceEqDiff, ↓reduceIte, Int.reduceEq, Int.reduceNeg, wrap_add, e0, e1, e5, hat, es]
      obtain ⟨τ4, es, H⟩ := H.sts hj 1 4 (.int .i64 (k + 8 * (i : Int) + 1 + 1 + 1 + 1)) (⟨mtx (k + 8 * (i : Int)), ⟨k + 8 * (i : Int) + 1, k + 8 * (i : Int) + 1 + 1⟩, k + 8 * (i : Int) + 1 + 1 + 1, ⟨k + 8 * (i : Int) + 1 + 1 + 1 + 1, y.ref.seq⟩, y.val, y.gone⟩) rfl (by decide) (by decide) rfl
      have es : stG 1 τ3 (fld 4 (atz 8 v i)) (.int .i64 (k + 8 * (i : Int) + 1 + 1 + 1 + 1)) = some (.tup [], τ4) := es
      have hl4 := stG_len es
      simp +contextual (maxSteps := 600000) (disch := omega) only [go_sem, Nat.reduceEqDiff, ↓reduceIte, Int.reduceEq, Int.reduceNeg, wrap_add, e0, e1, e5, hat, es]
      obtain ⟨τ5, es, H⟩ := H.sts hj 1 5 (.int .i64 (k + 8 * (i : Int) + 1 + 1 + 1 + 1 + 1)) (⟨mtx (k + 8 * (i : Int)), ⟨k + 8 * (i : Int) + 1, k + 8 * (i : Int) + 1 + 1⟩, k + 8 * (i : Int) + 1 + 1 + 1, ⟨k + 8 * (i : Int) + 1 + 1 + 1 + 1, k + 8 * (i : Int) + 1 + 1 + 1 + 1 + 1⟩, y.val, y.gone⟩) rfl (by decide) (by decide) rfl
      have es : stG 1 τ4 (fld 5 (atz 8 v i)) (.int .i64 (k + 8 * (i : Int) + 1 + 1 + 1 + 1 + 1)) = some (.tup [], τ5) := es
      have hl5 := stG_len es
      simp +contextual (maxSteps := 600000) (disch := omega) only [go_sem, Nat.reduceEqDiff, ↓reduceIte, Int.reduceEq, Int.reduceNeg, wrap_add, e0, e1, e5, hat, es]
      obtain ⟨τ6, es, H⟩ := H.sts hj 1 6 (.int .i64 (k + 8 * (i : Int) + 1 + 1 + 1 + 1 + 1 + 1)) (⟨mtx (k + 8 * (i : Int)), ⟨k + 8 * (i : Int) + 1, k + 8 * (i : Int) + 1 + 1⟩, k + 8 * (i : Int) + 1 + 1 + 1, ⟨k + 8 * (i : Int) + 1 + 1 + 1 + 1, k + 8 * (i : Int) + 1 + 1 + 1 + 1 + 1⟩, k + 8 * (i : Int) + 1 + 1 + 1 + 1 + 1 + 1, y.gone⟩) rfl (by decide) (by decide) rfl
      have es : stG 1 τ5 (fld 6 (atz 8 v i)) (.int .i64 (k + 8 * (i : Int) + 1 + 1 + 1 + 1 + 1 + 1)) = some (.tup [], τ6) := es
      have hl6 := stG_len es
      simp +contextual (maxSteps := 600000) (disch := omega) only [go_sem, Nat.reduceEqDiff, ↓reduceIte, Int.reduceEq, Int.reduceNeg, wrap_add, e0, e1, e5, hat, es]
      obtain ⟨τ7, es, H⟩ := H.sts hj 1 7 (.bool ((k + 8 * (i : Int) + 1 + 1 + 1 + 1 + 1 + 1 + 1).tmod 3 == 0)) (⟨mtx (k + 8 * (i : Int)), ⟨k + 8 * (i : Int) + 1, k + 8 * (i : Int) + 1 + 1⟩, k + 8 * (i : Int) + 1 + 1 + 1, ⟨k + 8 * (i : Int) + 1 + 1 + 1 + 1, k + 8 * (i : Int) + 1 + 1 + 1 + 1 + 1⟩, k + 8 * (i : Int) + 1 + 1 + 1 + 1 + 1 + 1, ((k + 8 * (i : Int) + 1 + 1 + 1 + 1 + 1 + 1 + 1).tmod 3 == 0)⟩) rfl (by decide) (by decide) rfl
      have es : stG 1 τ6 (fld 7 (atz 8 v i)) (.bool ((k + 8 * (i : Int) + 1 + 1 + 1 + 1 + 1 + 1 + 1).tmod 3 == 0)) = some (.tup [], τ7) := es
      have hl7 := stG_len es
      simp +contextual (maxSteps := 600000) (disch := omega) only [go_sem, Nat.reduceEqDiff, ↓reduceIte, Int.reduceEq, Int.reduceNeg, wrap_add, e0, e1, e5, hat, es]
      have H2 : Hp σ τ7 (ow pCell.kd v (L.set i (mCell (k + (8 : Nat) * (i : Int)))) :: rs.eraseIdx i0) := H
      rw [hst] at H2
      exact ⟨by omega, by omega, H2⟩
    · rintro env τ' e5 c0 ⟨e0, e1, hle, H⟩
      rw [mark_end] at H
      have hln := (H.sl 0 rfl).len
      rw [mkF_length] at hln
      simp +contextual (maxSteps := 600000) (disch := omega) only [go_sem, Nat.reduceEqDiff, ↓reduceIte, Int.reduceEq, Int.reduceNeg, wrap_add, c0, e0, e1, e5, hln]
      exact ⟨_, rfl, hle, rfl, H⟩)
  exact ⟨τ', hR, H'.unpick hlt⟩
end Go.Proofs.Ytopannfdcikgiaa.Sy

/- Contracts of the laws' own functions: HmkLiveS. -/
namespace Go.Proofs.Ytopannfdcikgiaa.Sy
open Go Go.RowKit
set_option linter.unusedSimpArgs false
set_option linter.unusedVariables false
abbrev n_l_markLiveS : Nat := 104
def F_l_markLiveS : Fn1 := ⟨61, [.t 4], (.seq (.reg [o 4 (.mov (.k (.int .i64 0)))]) (.seq (.seq (.reg [o 5 (.mov (.k (.int .i64 0)))]) (.blk 0 (.lop (.seq (.seq (.reg [o 6 (.mov (.t 5)), o 7 (.mov (.t 0)), o 8 (.len false (.t 7)), o 9 (.bin .lss (.t 6) (.t 8))]) (.cnd (.t 9) .skip (.ext 0))) (.seq (.blk 1 (.seq (.reg [o 12 (.mov (.t 0)), o 13 (.mov (.t 5)), o 14 (.mov (.t 1)), o 15 (.bin .rem (.t 14) (.k (.int .i64 3))), o 16 (.bin .eql (.t 15) (.k (.int .i64 0))), o 17 (.iad 6 (.t 12) (.t 13)), o 18 (.fad 0 (.t 17)), on (.st 1 (.t 18) (.t 16))]) (.seq (.reg [o 19 (.mov (.t 1)), o 20 (.bin .add (.t 19) (.k (.int .i64 1))), o 1 (.mov (.t 20))]) (.seq (.reg [o 21 (.mov (.t 0)), o 22 (.mov (.t 5)), o 23 (.mov (.t 1)), o 24 (.call 129 [(.t 23)]), o 25 (.iad 6 (.t 21) (.t 22)), o 26 (.fad 1 (.t 25)), on (.st 1 (.t 26) (.t 24))]) (.seq (.reg [o 27 (.mov (.t 1)), o 28 (.bin .add (.t 27) (.k (.int .i64 1))), o 1 (.mov (.t 28))]) (.seq (.reg [o 29 (.mov (.t 0)), o 30 (.mov (.t 5)), o 31 (.mov (.t 1)), o 32 (.call 129 [(.t 31)]), o 33 (.iad 6 (.t 29) (.t 30)), o 34 (.fad 2 (.t 33)), on (.st 1 (.t 34) (.t 32))]) (.seq (.reg [o 35 (.mov (.t 1)), o 36 (.bin .add (.t 35) (.k (.int .i64 1))), o 1 (.mov (.t 36))]) (.seq (.reg [o 37 (.mov (.t 0)), o 38 (.mov (.t 5)), o 39 (.mov (.t 1)), o 40 (.iad 6 (.t 37) (.t 38)), o 41 (.fad 3 (.t 40)), on (.st 1 (.t 41) (.t 39))]) (.seq (.reg [o 42 (.mov (.t 1)), o 43 (.bin .add (.t 42) (.k (.int .i64 1))), o 1 (.mov (.t 43))]) (.seq (.reg [o 44 (.mov (.t 0)), o 45 (.mov (.t 5)), o 46 (.mov (.t 1)), o 47 (.iad 6 (.t 44) (.t 45)), o 48 (.fad 4 (.t 47)), o 49 (.fad 0 (.t 48)), on (.st 1 (.t 49) (.t 46))]) (.seq (.reg [o 50 (.mov (.t 1)), o 51 (.bin .add (.t 50) (.k (.int .i64 1))), o 1 (.mov (.t 51))]) (.seq (.reg [o 52 (.mov (.t 0)), o 53 (.mov (.t 5)), o 54 (.mov (.t 1)), o 55 (.iad 6 (.t 52) (.t 53)), o 56 (.fad 4 (.t 55)), o 57 (.fad 1 (.t 56)), on (.st 1 (.t 57) (.t 54))]) (.reg [o 58 (.mov (.t 1)), o 59 (.bin .add (.t 58) (.k (.int .i64 1))), o 1 (.mov (.t 59))]))))))))))))) (.reg [o 10 (.mov (.t 5)), o 11 (.bin .add (.t 10) (.k (.int .i64 1))), o 5 (.mov (.t 11))])))))) (.seq (.reg [o 60 (.mov (.t 1)), o 4 (.mov (.t 60))]) .ret)))⟩
theorem ir_l_markLiveS : compFn Try.prog n_l_markLiveS = some F_l_markLiveS := by kernel_rfl
theorem l_markLiveS_ret {σ τ : St} {rs : List Thg} (i0 : Nat) (v : GV) (l : List Live) (k : Int) (H : Hp σ τ rs) (hi0 : rs[i0]? = some (ow pLive.kd v l)) (h0 : 0 ≤ k) (hk : k + 6 * l.length ≤ 4611686018427387904) : ∃ τ', Ret Try.prog n_l_markLiveS [v, gi k] τ (gi (k + 6 * l.length)) τ' ∧ Hp σ τ' (rs.set i0 (ow pLive.kd v (mkF mLive 6 k l.length))) := by
  have H := H.pick i0 hi0
  have hlt := (List.getElem?_eq_some_iff.1 hi0).1
  obtain ⟨r, τ', hR, rfl, H'⟩ := ret_mut (P := Try.prog) (σ := τ) (args := [v, gi k]) (Post := fun r τ' => r = gi (k + 6 * l.length) ∧ Hp σ τ' (ow pLive.kd v (mkF mLive 6 k l.length) :: rs.eraseIdx i0)) ir_l_markLiveS (Nat.le_of_ble_eq_true rfl) (by
    simp +contextual (maxSteps := 600000) (disch := omega) only [go_sem, Nat.reduceEqDiff, ↓reduceIte, Int.reduceEq, Int.reduceNeg, wrap_add, F_l_markLiveS]
    refine vc_for l.length 5 (fun i env τ' => env 0 = v ∧ env 1 = gi (k + 6 * (i : Int)) ∧ τ.length ≤ τ'.length ∧ Hp σ τ' (ow pLive.kd v ((mkF mLive 6 k l.length).take i ++ l.drop i) :: rs.eraseIdx i0)) rfl ⟨rfl, (by show gi k = gi (k + 6 * 0); simp), Nat.le_refl _, by simpa using H⟩ ?_ ?_
    · rintro i env τ' hi e5 c0 ⟨e0, e1, hle, H⟩
      have hL := mark_len (l := l) (e := mLive) (c := 6) (k := k) (i := i)
      have hst := mark_step (e := mLive) (c := 6) (k := k) hi
      generalize (mkF mLive 6 k l.length).take i ++ l.drop i = L at H hL hst
      have hj : i < L.length := by omega
      have h1 := H.sl 0 rfl
      have hln := h1.len
      rw [hL] at hln
      have hat := Live_at h1 hj
      rw [set_self hj] at H
      generalize hy : L[i] = y at H hat
      simp +contextual (maxSteps := 600000) (disch := omega) only [go_sem, Nat.reduceEqDiff, ↓reduceIte, Int.reduceEq, Int.reduceNeg, wrap_add, c0, e0, e1, e5, hln, hat]
      obtain ⟨τ0, es, H⟩ := H.sts hj 1 0 (.bool ((k + 6 * (i : Int)).tmod 3 == 0)) (⟨((k + 6 * (i : Int)).tmod 3 == 0), y.obj, y.key, y.val, ⟨y.dot.rep, y.dot.seq⟩⟩) rfl (by decide) (by decide) rfl
      have es : stG 1 τ' (fld 0 (atz 6 v i)) (.bool ((k + 6 * (i : Int)).tmod 3 == 0)) = some (.tup [], τ0) := es
      have hl0 := stG_len es
      simp +contextual (maxSteps := 600000) (disch := omega) only [go_sem, Nat.reduceEqDiff, ↓reduceIte, Int.reduceEq, Int.reduceNeg, wrap_add, e0, e1, e5, hat, es]
      refine by_ret (l_markText_ret _ _ (by omega)) ?_
      simp +contextual (maxSteps := 600000) (disch := omega) only [go_sem, Nat.reduceEqDiff, ↓reduceIte, Int.reduceEq, Int.reduceNeg, wrap_add, e0, e1, hat]
      obtain ⟨τ1, es, H⟩ := H.sts hj 1 1 (.str (mtx (k + 6 * (i : Int) + 1))) (⟨((k + 6 * (i : Int)).tmod 3 == 0), mtx (k + 6 * (i : Int) + 1), y.key, y.val, ⟨y.dot.rep, y.dot.seq⟩⟩) rfl (by decide) (by decide) rfl
      have es : stG 1 τ0 (fld 1 (atz 6 v i)) (.str (mtx (k + 6 * (i : Int) + 1))) = some (.tup [], τ1) := es
      have hl1 := stG_len es
      simp +contextual (maxSteps := 600000) (disch := omega) only [go_sem, Nat.reduceEqDiff, ↓reduceIte, Int.reduceEq, Int.reduceNeg, wrap_add, e0, e1, e5, hat, es]
      refine by_ret (l_markText_ret _ _ (by omega)) ?_
      simp +contextual (maxSteps := 600000) (disch := omega) only [go_sem, Nat.reduceEqDiff, ↓reduceIte, Int.reduceEq, Int.reduceNeg, wrap_add, e0, e1, hat]
      obtain ⟨τ2, es, H⟩ := H.sts hj 1 2 (.str (mtx (k + 6 * (i : Int) + 1 + 1))) (⟨((k + 6 * (i : Int)).tmod 3 == 0), mtx (k + 6 * (i : Int) + 1), mtx (k + 6 * (i : Int) + 1 + 1), y.val, ⟨y.dot.rep, y.dot.seq⟩⟩) rfl (by decide) (by decide) rfl
      have es : stG 1 τ1 (fld 2 (atz 6 v i)) (.str (mtx (k + 6 * (i : Int) + 1 + 1))) = some (.tup [], τ2) := es
      have hl2 := stG_len es
      simp +contextual (maxSteps := 600000) (disch := omega) only [go_sem, Nat.reduceEqDiff, ↓reduceIte, Int.reduceEq, Int.reduceNeg, wrap_add, e0, e1, e5, hat, es]
      obtain ⟨τ3, es, H⟩ := H.sts hj 1 3 (.int .i64 (k + 6 * (i : Int) + 1 + 1 + 1)) (⟨((k + 6 * (i : Int)).tmod 3 == 0), mtx (k + 6 * (i : Int) + 1), mtx (k + 6 * (i : Int) + 1 + 1), k + 6 * (i : Int) + 1 + 1 + 1, ⟨y.dot.rep, y.dot.seq⟩⟩) rfl (by decide) (by decide) rfl
      have es : stG 1 τ2 (fld 3 (atz 6 v i)) (.int .i64 (k + 6 * (i : Int) + 1 + 1 + 1)) = some (.tup [], τ3) := es
      have hl3 := stG_len es
      simp +contextual (maxSteps := 600000) (disch := omega) only [go_sem, Nat.reduceEqDiff, ↓reduceIte, Int.reduceEq, Int.reduceNeg, wrap_add, e0, e1, e5, hat, es]
      obtain ⟨τ4, es, H⟩ := H.sts hj 1 4 (.int .i64 (k + 6 * (i : Int) + 1 + 1 + 1 + 1)) (⟨((k + 6 * (i : Int)).tmod 3 == 0), mtx (k + 6 * (i : Int) + 1), mtx (k + 6 * (i : Int) + 1 + 1), k + 6 * (i : Int) + 1 + 1 + 1, ⟨k + 6 * (i : Int) + 1 + 1 + 1 + 1, y.dot.seq⟩⟩) rfl (by decide) (by decide) rfl
      have es : stG 1 τ3 (fld 4 (atz 6 v i)) (.int .i64 (k + 6 * (i : Int) + 1 + 1 + 1 + 1)) = some (.tup [], τ4) := es
      have hl4 := stG_len es
      simp +contextual (maxSteps := 600000) (disch := omega) only [go_sem, Nat.reduceEqDiff, ↓reduceIte, Int.reduceEq, Int.reduceNeg, wrap_add, e0, e1, e5, hat, es]
      obtain ⟨τ5, es, H⟩ := H.sts hj 1 5 (.int .i64 (k + 6 * (i : Int) + 1 + 1 + 1 + 1 + 1)) (⟨((k + 6 * (i : Int)).tmod 3 == 0), mtx (k + 6 * (i : Int) + 1), mtx (k + 6 * (i : Int) + 1 + 1), k + 6 * (i : Int) + 1 + 1 + 1, ⟨k + 6 * (i : Int) + 1 + 1 + 1 + 1, k + 6 * (i : Int) + 1 + 1 + 1 + 1 + 1⟩⟩) rfl (by decide) (by decide) rfl
      have es : stG 1 τ4 (fld 5 (atz 6 v i)) (.int .i64 (k + 6 * (i : Int) + 1 + 1 + 1 + 1 + 1)) = some (.tup [], τ5) := es
      have hl5 := stG_len es
      simp +contextual (maxSteps := 600000) (disch := omega) only [go_sem, Nat.reduceEqDiff, ↓reduceIte, Int.reduceEq, Int.reduceNeg, wrap_add, e0, e1, e5, hat, es]
      have H2 : Hp σ τ5 (ow pLive.kd v (L.set i (mLive (k + (6 : Nat) * (i : Int)))) :: rs.eraseIdx i0) := H
      rw [hst] at H2
      exact ⟨by omega, by omega, H2⟩
    · rintro env τ' e5 c0 ⟨e0, e1, hle, H⟩
      rw [mark_end] at H
      have hln := (H.sl 0 rfl).len
      rw [mkF_length] at hln
      simp +contextual (maxSteps := 600000) (disch := omega) only [go_sem, Nat.reduceEqDiff, ↓reduceIte, Int.reduceEq, Int.reduceNeg, wrap_add, c0, e0, e1, e5, hln]
      exact ⟨_, rfl, hle, rfl, H⟩)
  exact ⟨τ', hR, H'.unpick hlt⟩
end Go.Proofs.Ytopannfdcikgiaa.Sy

/- Contracts of the laws' own functions: HmkTallyS. -/
namespace Go.Proofs.Ytopannfdcikgiaa.Sy
open Go Go.RowKit
set_option linter.unusedSimpArgs false
set_option linter.unusedVariables false
abbrev n_l_markTallyS : Nat := 103
def F_l_markTallyS : Fn1 := ⟨35, [.t 4], (.seq (.reg [o 4 (.mov (.k (.int .i64 0)))]) (.seq (.seq (.reg [o 5 (.mov (.k (.int .i64 0)))]) (.blk 0 (.lop (.seq (.seq (.reg [o 6 (.mov (.t 5)), o 7 (.mov (.t 0)), o 8 (.len false (.t 7)), o 9 (.bin .lss (.t 6) (.t 8))]) (.cnd (.t 9) .skip (.ext 0))) (.seq (.blk 1 (.seq (.reg [o 12 (.mov (.t 0)), o 13 (.mov (.t 5)), o 14 (.mov (.t 1)), o 15 (.call 129 [(.t 14)]), o 16 (.iad 3 (.t 12) (.t 13)), o 17 (.fad 0 (.t 16)), on (.st 1 (.t 17) (.t 15))]) (.seq (.reg [o 18 (.mov (.t 1)), o 19 (.bin .add (.t 18) (.k (.int .i64 1))), o 1 (.mov (.t 19))]) (.seq (.reg [o 20 (.mov (.t 0)), o 21 (.mov (.t 5)), o 22 (.mov (.t 1)), o 23 (.iad 3 (.t 20) (.t 21)), o 24 (.fad 1 (.t 23)), on (.st 1 (.t 24) (.t 22))]) (.seq (.reg [o 25 (.mov (.t 1)), o 26 (.bin .add (.t 25) (.k (.int .i64 1))), o 1 (.mov (.t 26))]) (.seq (.reg [o 27 (.mov (.t 0)), o 28 (.mov (.t 5)), o 29 (.mov (.t 1)), o 30 (.iad 3 (.t 27) (.t 28)), o 31 (.fad 2 (.t 30)), on (.st 1 (.t 31) (.t 29))]) (.reg [o 32 (.mov (.t 1)), o 33 (.bin .add (.t 32) (.k (.int .i64 1))), o 1 (.mov (.t 33))]))))))) (.reg [o 10 (.mov (.t 5)), o 11 (.bin .add (.t 10) (.k (.int .i64 1))), o 5 (.mov (.t 11))])))))) (.seq (.reg [o 34 (.mov (.t 1)), o 4 (.mov (.t 34))]) .ret)))⟩
theorem ir_l_markTallyS : compFn Try.prog n_l_markTallyS = some F_l_markTallyS := by kernel_rfl
theorem l_markTallyS_ret {σ τ : St} {rs : List Thg} (i0 : Nat) (v : GV) (l : List Tally) (k : Int) (H : Hp σ τ rs) (hi0 : rs[i0]? = some (ow pTally.kd v l)) (h0 : 0 ≤ k) (hk : k + 3 * l.length ≤ 4611686018427387904) : ∃ τ', Ret Try.prog n_l_markTallyS [v, gi k] τ (gi (k + 3 * l.length)) τ' ∧ Hp σ τ' (rs.set i0 (ow pTally.kd v (mkF mTally 3 k l.length))) := by
  have H := H.pick i0 hi0
  have hlt := (List.getElem?_eq_some_iff.1 hi0).1
  obtain ⟨r, τ', hR, rfl, H'⟩ := ret_mut (P := Try.prog) (σ := τ) (args := [v, gi k]) (Post := fun r τ' => r = gi (k + 3 * l.length) ∧ Hp σ τ' (ow pTally.kd v (mkF mTally 3 k l.length) :: rs.eraseIdx i0)) ir_l_markTallyS (Nat.le_of_ble_eq_true rfl) (by
    simp +contextual (maxSteps := 600000) (disch := omega) only [go_sem, Nat.reduceEqDiff, ↓reduceIte, Int.reduceEq, Int.reduceNeg, wrap_add, F_l_markTallyS]
    refine vc_for l.length 5 (fun i env τ' => env 0 = v ∧ env 1 = gi (k + 3 * (i : Int)) ∧ τ.length ≤ τ'.length ∧ Hp σ τ' (ow pTally.kd v ((mkF mTally 3 k l.length).take i ++ l.drop i) :: rs.eraseIdx i0)) rfl ⟨rfl, (by show gi k = gi (k + 3 * 0); simp), Nat.le_refl _, by simpa using H⟩ ?_ ?_
    · rintro i env τ' hi e5 c0 ⟨e0, e1, hle, H⟩
      have hL := mark_len (l := l) (e := mTally) (c := 3) (k := k) (i := i)
      have hst := mark_step (e := mTally) (c := 3) (k := k) hi
      generalize (mkF mTally 3 k l.length).take i ++ l.drop i = L at H hL hst
      have hj : i < L.length := by omega
      have h1 := H.sl 0 rfl
      have hln := h1.len
      rw [hL] at hln
      have hat := Tally_at h1 hj
      rw [set_self hj] at H
      generalize hy : L[i] = y at H hat
      simp +contextual (maxSteps := 600000) (disch := omega) only [go_sem, Nat.reduceEqDiff, ↓reduceIte, Int.reduceEq, Int.reduceNeg, wrap_add, c0, e0, e1, e5, hln, hat]
      refine by_ret (l_markText_ret _ _ (by omega)) ?_
      simp +contextual (maxSteps := 600000) (disch := omega) only [go_sem, Nat.reduceEqDiff, ↓reduceIte, Int.reduceEq, Int.reduceNeg, wrap_add, e0, e1, hat]
      obtain ⟨τ0, es, H⟩ := H.sts hj 1 0 (.str (mtx (k + 3 * (i : Int)))) (⟨mtx (k + 3 * (i : Int)), y.rep, y.sum⟩) rfl (by decide) (by decide) rfl
      have es : stG 1 τ' (fld 0 (atz 3 v i)) (.str (mtx (k + 3 * (i : Int)))) = some (.tup [], τ0) := es
      have hl0 := stG_len es
      simp +contextual (maxSteps := 600000) (disch := omega) only [go_sem, Nat.reduceEqDiff, ↓reduceIte, Int.reduceEq, Int.reduceNeg, wrap_add, e0, e1, e5, hat, es]
      obtain ⟨τ1, es, H⟩ := H.sts hj 1 1 (.int .i64 (k + 3 * (i : Int) + 1)) (⟨mtx (k + 3 * (i : Int)), k + 3 * (i : Int) + 1, y.sum⟩) rfl (by decide) (by decide) rfl
      have es : stG 1 τ0 (fld 1 (atz 3 v i)) (.int .i64 (k + 3 * (i : Int) + 1)) = some (.tup [], τ1) := es
      have hl1 := stG_len es
      simp +contextual (maxSteps := 600000) (disch := omega) only [go_sem, Nat.reduceEqDiff, ↓reduceIte, Int.reduceEq, Int.reduceNeg, wrap_add, e0, e1, e5, hat, es]
      obtain ⟨τ2, es, H⟩ := H.sts hj 1 2 (.int .i64 (k + 3 * (i : Int) + 1 + 1)) (⟨mtx (k + 3 * (i : Int)), k + 3 * (i : Int) + 1, k + 3 * (i : Int) + 1 + 1⟩) rfl (by decide) (by decide) rfl
      have es : stG 1 τ1 (fld 2 (atz 3 v i)) (.int .i64 (k + 3 * (i : Int) + 1 + 1)) = some (.tup [], τ2) := es
      have hl2 := stG_len es
      simp +contextual (maxSteps := 600000) (disch := omega) only [go_sem, Nat.reduceEqDiff, ↓reduceIte, Int.reduceEq, Int.reduceNeg, wrap_add, e0, e1, e5, hat, es]
      have H2 : Hp σ τ2 (ow pTally.kd v (L.set i (mTally (k + (3 : Nat) * (i : Int)))) :: rs.eraseIdx i0) := H
      rw [hst] at H2
      exact ⟨by omega, by omega, H2⟩
    · rintro env τ' e5 c0 ⟨e0, e1, hle, H⟩
      rw [mark_end] at H
      have hln := (H.sl 0 rfl).len
      rw [mkF_length] at hln
      simp +contextual (maxSteps := 600000) (disch := omega) only [go_sem, Nat.reduceEqDiff, ↓reduceIte, Int.reduceEq, Int.reduceNeg, wrap_add, c0, e0, e1, e5, hln]
      exact ⟨_, rfl, hle, rfl, H⟩)
  exact ⟨τ', hR, H'.unpick hlt⟩
end Go.Proofs.Ytopannfdcikgiaa.Sy

