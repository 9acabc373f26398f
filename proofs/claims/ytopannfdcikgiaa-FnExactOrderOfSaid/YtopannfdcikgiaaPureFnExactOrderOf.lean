/- The pure statement of FnExactOrderOf: what the program's function and the reference compute is the same. -/
import Derived.Test.YtopannfdcikgiaaArgsFnExactOrderOf
namespace Go.Proofs.Ytopannfdcikgiaa.PFnExactOrderOf
open Go.RowKit Go.Proofs.YtopannfdcikgiaaW.PrintWords Go.Proofs.YtopannfdcikgiaaW.PrintLast Go.Proofs.Ytopannfdcikgiaa.Open
set_option linter.unusedVariables false
set_option linter.unusedSimpArgs false
theorem w64 {x : Int} (h0 : -9223372036854775808 ≤ x) (h1 : x ≤ 9223372036854775807) : wrap64 x = x := by
  unfold wrap64; omega
theorem rd_def (l : List Int) (i : Nat) (h : i < l.length) : rd l (i : Int) = l[i]'h := by
  unfold rd
  rw [List.getD_eq_getElem?_getD, Int.toNat_natCast, List.getElem?_eq_getElem h]; rfl
theorem some_bind' {α β : Type} (a : α) (f : α → Option β) : (some a).bind f = f a := rfl
/-- A search through a list from place i on. -/
theorem all_drop {α : Type} (p : α → Bool) (l : List α) (i : Nat) (h : i < l.length) : (l.drop i).all p = (p l[i] && (l.drop (i + 1)).all p) := by
  rw [List.drop_eq_getElem_cons h]; rfl
/-- From some number of rounds on. -/
def Late (p : Nat → Prop) : Prop := ∃ K, ∀ k, K ≤ k → p k
theorem Late.now {p : Nat → Prop} (h : ∀ k, p k) : Late p := ⟨0, fun k _ => h k⟩
/-- One round more. -/
theorem ev_succ {α : Type} {g f : Nat → Option α} {r : α} (h : Late fun k => g (k + 1) = f k) (hf : Ev f r) : Ev g r := by
  obtain ⟨K, h⟩ := h
  obtain ⟨L, hf⟩ := hf
  refine ⟨K + L + 1, fun k hk => ?_⟩
  obtain ⟨m, rfl⟩ : ∃ m, k = m + 1 := ⟨k - 1, by omega⟩
  rw [h m (by omega), hf m (by omega)]
theorem ev_end {α : Type} {g : Nat → Option α} {r : α} (h : Late fun k => g (k + 1) = some r) : Ev g r := ev_succ (f := fun _ => some r) h ⟨0, fun _ _ => rfl⟩
/-- A loop: each round ends it, or goes on from a state that comes to the same. -/
theorem loop_ev {σ β : Type} (L : Nat → σ → Option β) (I : σ → Prop) (m : σ → Nat) (R : σ → β)
    (h : ∀ s, I s → (Late fun k => L (k + 1) s = some (R s)) ∨ ∃ s', I s' ∧ m s' < m s ∧ R s' = R s ∧ Late fun k => L (k + 1) s = L k s') : ∀ s, I s → Ev (fun k => L k s) (R s) := by
  intro s
  induction hm : m s using Nat.strongRecOn generalizing s with
  | _ n ih =>
    intro hI
    rcases h s hI with h1 | ⟨s', hI', hlt, hR, hL⟩
    · exact ev_end h1
    · rw [← hR]
      exact ev_succ hL (ih _ (by omega) s' rfl hI')
/-- A loop that asks one thing of each element. -/
theorem loop_all {α : Type} (L : Nat → Int → Option Bool) (l : List α) (p : α → Bool) (e : Bool) (hend : Late fun k => L (k + 1) (l.length : Int) = some e)
    (hyes : ∀ i (h : i < l.length), p l[i] = true → Late fun k => L (k + 1) (i : Int) = L k ((i : Int) + 1)) (hno : ∀ i (h : i < l.length), p l[i] = false → Late fun k => L (k + 1) (i : Int) = some false) :
    Ev (fun k => L k 0) (l.all p && e) := by
  have key := loop_ev (fun k (i : Nat) => L k (i : Int)) (fun i => i ≤ l.length) (fun i => l.length - i) (fun i => (l.drop i).all p && e) (fun i hi => ?_) 0 (Nat.zero_le _)
  · simpa using key
  · rcases Nat.lt_or_ge i l.length with hlt | hge
    · rw [all_drop _ _ _ hlt]
      cases hp : p l[i] with
      | true => exact .inr ⟨i + 1, hlt, by omega, by rw [Bool.true_and], by simpa using hyes i hlt hp⟩
      | false => exact .inl (by simpa using hno i hlt hp)
    · obtain rfl : i = l.length := by omega
      refine .inl ?_
      rw [List.drop_length]
      simpa using hend
/-- A loop that fills a row, place by place. -/
theorem loop_fill {α β : Type} (L : Nat → List β → Int → Option (List β)) (l : List α) (f : α → β) (xs0 : List β) (h0 : xs0.length = l.length)
    (hend : ∀ xs : List β, xs.length = l.length → Late fun k => L (k + 1) xs (l.length : Int) = some xs)
    (hgo : ∀ i (h : i < l.length) (xs : List β), xs.length = l.length → Late fun k => L (k + 1) xs (i : Int) = L k (xs.set i (f l[i])) ((i : Int) + 1)) :
    Ev (fun k => L k xs0 0) (l.map f) := by
  have key := loop_ev (fun k (s : List β × Nat) => L k s.1 (s.2 : Int)) (fun s => s.2 ≤ l.length ∧ s.1.length = l.length) (fun s => l.length - s.2) (fun s => s.1.take s.2 ++ (l.drop s.2).map f) (fun s hs => ?_) (xs0, 0) ⟨Nat.zero_le _, h0⟩
  · simpa using key
  · obtain ⟨xs, i⟩ := s
    obtain ⟨hi, hx⟩ := hs
    simp only at hi hx
    rcases Nat.lt_or_ge i l.length with hlt | hge
    · refine .inr ⟨(xs.set i (f l[i]), i + 1), ⟨hlt, by simpa using hx⟩, by simp only; omega, ?_, by simpa using hgo i hlt xs hx⟩
      simp only
      rw [List.drop_eq_getElem_cons hlt, List.map_cons, List.take_succ_eq_append_getElem (by simp; omega), List.take_set_of_le (Nat.le_refl _), List.getElem_set_self]
      simp
    · obtain rfl : i = l.length := by omega
      refine .inl ?_
      simp only [List.drop_length, List.map_nil, List.append_nil]
      rw [List.take_of_length_le (by omega)]
      exact hend xs hx
/-- A loop that holds two lists of one length against each other. -/
theorem loop_eq {α : Type} [DecidableEq α] (L : Nat → Int → Option Bool) (a b : List α) (hl : a.length = b.length) (hend : Late fun k => L (k + 1) (a.length : Int) = some true)
    (hyes : ∀ i (h : i < a.length), a[i] = b[i] → Late fun k => L (k + 1) (i : Int) = L k ((i : Int) + 1)) (hno : ∀ i (h : i < a.length), a[i] ≠ b[i] → Late fun k => L (k + 1) (i : Int) = some false) :
    Ev (fun k => L k 0) (decide (a = b)) := by
  have key := loop_ev (fun k (i : Nat) => L k (i : Int)) (fun i => i ≤ a.length) (fun i => a.length - i) (fun i => decide (a.drop i = b.drop i)) (fun i hi => ?_) 0 (Nat.zero_le _)
  · simpa using key
  · rcases Nat.lt_or_ge i a.length with hlt | hge
    · rw [List.drop_eq_getElem_cons hlt, List.drop_eq_getElem_cons (show i < b.length by omega)]
      by_cases he : a[i] = b[i]
      · refine .inr ⟨i + 1, hlt, by omega, ?_, by simpa using hyes i hlt he⟩
        simp only [he, List.cons.injEq, true_and]
      · refine .inl ?_
        rw [decide_eq_false (by rw [List.cons.injEq]; exact fun h => he h.1)]
        simpa using hno i hlt he
    · obtain rfl : i = a.length := by omega
      refine .inl ?_
      rw [List.drop_length, List.drop_of_length_le (by omega)]
      simpa using hend
def inR (a lo hi : Int) : Bool := decide (lo ≤ a) && decide (a ≤ hi)
theorem l01In_eq (a lo hi : Int) : spec_l01In.f a lo hi = some (inR a lo hi) := by
  unfold spec_l01In.f inR
  by_cases h : a ≥ lo
  · rw [if_pos h, decide_eq_true (show lo ≤ a from h)]; rfl
  · rw [if_neg h, decide_eq_false (show ¬ lo ≤ a from h)]; rfl
theorem within_eq (a lo hi : Int) : impl_within.f a lo hi = some (inR a lo hi) := by
  unfold impl_within.f inR
  by_cases h : a ≥ lo
  · rw [if_pos h, decide_eq_true (show lo ≤ a from h)]; rfl
  · rw [if_neg h, decide_eq_false (show ¬ lo ≤ a from h)]; rfl
def knowOk (l : List Int) : Bool := l.all (fun n => inR n 0 1000) && (l.length : Int) == 3
theorem spec_knowOk (l : List Int) (hl : l.length ≤ 9223372036854775807) : Ev (fun k => spec_KnowOk.f k l) (knowOk l) := by
  refine loop_all (fun k i => spec_KnowOk.l0 k l i) l (fun n => inR n 0 1000) _ (Late.now fun k => ?_) (fun i h hp => Late.now fun k => ?_) (fun i h hp => Late.now fun k => ?_)
  · simp only [spec_KnowOk.l0]; rw [if_neg (by omega)]
  · simp only [spec_KnowOk.l0]; rw [if_pos (by omega), if_pos (by omega), rd_def l i h, l01In_eq, hp, some_bind', if_pos rfl, w64 (by omega) (by omega)]
  · simp only [spec_KnowOk.l0]; rw [if_pos (by omega), if_pos (by omega), rd_def l i h, l01In_eq, hp, some_bind', if_neg (by decide)]
theorem impl_knowOk (l : List Int) (hl : l.length ≤ 9223372036854775807) : Ev (fun k => impl_KnowOk.f k l) (knowOk l) := by
  refine loop_all (fun k i => impl_KnowOk.l0 k l l (l.length : Int) i) l (fun n => inR n 0 1000) _ (Late.now fun k => ?_) (fun i h hp => Late.now fun k => ?_) (fun i h hp => Late.now fun k => ?_)
  · simp only [impl_KnowOk.l0]; rw [if_neg (by omega)]
  · simp only [impl_KnowOk.l0]; rw [if_pos (by omega), if_pos (by omega), if_pos (by omega), rd_def l i h, within_eq, hp, some_bind', if_pos rfl, w64 (by omega) (by omega)]
  · simp only [impl_KnowOk.l0]; rw [if_pos (by omega), if_pos (by omega), if_pos (by omega), rd_def l i h, within_eq, hp, some_bind', if_neg (by decide)]
theorem knowOk_len {l : List Int} (h : knowOk l = true) : l.length = 3 := by
  unfold knowOk at h
  simp only [Bool.and_eq_true, beq_iff_eq] at h
  omega
def leAll (a b : List Int) : Bool := (a.zip b).all (fun x => decide (x.1 ≤ x.2))
def knowIn (a b : List Int) : Bool := knowOk a && (knowOk b && leAll a b)
theorem zip_at {α β : Type} {a : List α} {b : List β} (hl : a.length = b.length) {i : Nat} (h : i < (a.zip b).length) : (a.zip b)[i] = (a[i]'(by simp at h; omega), b[i]'(by simp at h; omega)) := by simp
theorem spec_knowIn (a b : List Int) (ha : a.length ≤ 9223372036854775807) (hb : b.length ≤ 9223372036854775807) : Ev (fun k => spec_KnowIn.f k a b) (knowIn a b) := by
  obtain ⟨K1, h1⟩ := spec_knowOk a ha
  obtain ⟨K2, h2⟩ := spec_knowOk b hb
  have h3 : knowOk a = true → knowOk b = true → Ev (fun k => spec_KnowIn.l0 k a b 0) (leAll a b && true) := by
    intro oa ob
    have e1 := knowOk_len oa
    have e2 := knowOk_len ob
    refine loop_all (fun k i => spec_KnowIn.l0 k a b i) (a.zip b) _ true (Late.now fun k => ?_) (fun i h hp => Late.now fun k => ?_) (fun i h hp => Late.now fun k => ?_)
    · simp only [spec_KnowIn.l0]; rw [if_neg (by simp; omega)]
    · have h' := h
      simp only [List.length_zip] at h'
      rw [zip_at (by omega) h] at hp
      simp only [decide_eq_true_eq] at hp
      simp only [spec_KnowIn.l0]
      rw [if_pos (by omega), if_pos (by omega), if_pos (by omega), rd_def a i (by omega), rd_def b i (by omega), if_neg (by omega), w64 (by omega) (by omega)]
    · have h' := h
      simp only [List.length_zip] at h'
      rw [zip_at (by omega) h] at hp
      simp only [decide_eq_false_iff_not] at hp
      simp only [spec_KnowIn.l0]
      rw [if_pos (by omega), if_pos (by omega), if_pos (by omega), rd_def a i (by omega), rd_def b i (by omega), if_pos (by omega)]
  unfold knowIn
  cases oa : knowOk a with
  | false =>
    refine ⟨K1 + 1, fun k hk => ?_⟩
    obtain ⟨m, rfl⟩ : ∃ m, k = m + 1 := ⟨k - 1, by omega⟩
    simp only [spec_KnowIn.f, h1 (m + 1) (by omega), some_bind', oa]; rfl
  | true =>
    cases ob : knowOk b with
    | false =>
      refine ⟨K1 + K2 + 1, fun k hk => ?_⟩
      obtain ⟨m, rfl⟩ : ∃ m, k = m + 1 := ⟨k - 1, by omega⟩
      simp only [spec_KnowIn.f, h1 (m + 1) (by omega), h2 (m + 1) (by omega), some_bind', oa, ob]; rfl
    | true =>
      obtain ⟨K3, h3⟩ := h3 oa ob
      refine ⟨K1 + K2 + K3 + 1, fun k hk => ?_⟩
      obtain ⟨m, rfl⟩ : ∃ m, k = m + 1 := ⟨k - 1, by omega⟩
      have := h3 m (by omega)
      simp only [spec_KnowIn.f, h1 (m + 1) (by omega), h2 (m + 1) (by omega), some_bind', oa, ob, spec_KnowIn.j0]
      simpa using this
theorem impl_knowIn (a b : List Int) (ha : a.length ≤ 9223372036854775807) (hb : b.length ≤ 9223372036854775807) : Ev (fun k => impl_KnowIn.f k a b) (knowIn a b) := by
  obtain ⟨K1, h1⟩ := impl_knowOk a ha
  obtain ⟨K2, h2⟩ := impl_knowOk b hb
  have h3 : knowOk a = true → knowOk b = true → Ev (fun k => impl_KnowIn.l0 k b a (a.length : Int) 0) (leAll a b && true) := by
    intro oa ob
    have e1 := knowOk_len oa
    have e2 := knowOk_len ob
    refine loop_all (fun k i => impl_KnowIn.l0 k b a (a.length : Int) i) (a.zip b) _ true (Late.now fun k => ?_) (fun i h hp => Late.now fun k => ?_) (fun i h hp => Late.now fun k => ?_)
    · simp only [impl_KnowIn.l0]; rw [if_neg (by simp; omega)]
    · have h' := h
      simp only [List.length_zip] at h'
      rw [zip_at (by omega) h] at hp
      simp only [decide_eq_true_eq] at hp
      simp only [impl_KnowIn.l0]
      rw [if_pos (by omega), if_pos (by omega), if_pos (by omega), if_pos (by omega), rd_def a i (by omega), rd_def b i (by omega), if_neg (by omega), w64 (by omega) (by omega)]
    · have h' := h
      simp only [List.length_zip] at h'
      rw [zip_at (by omega) h] at hp
      simp only [decide_eq_false_iff_not] at hp
      simp only [impl_KnowIn.l0]
      rw [if_pos (by omega), if_pos (by omega), if_pos (by omega), if_pos (by omega), rd_def a i (by omega), rd_def b i (by omega), if_pos (by omega)]
  unfold knowIn
  cases oa : knowOk a with
  | false =>
    refine ⟨K1 + 1, fun k hk => ?_⟩
    obtain ⟨m, rfl⟩ : ∃ m, k = m + 1 := ⟨k - 1, by omega⟩
    simp only [impl_KnowIn.f, h1 (m + 1) (by omega), some_bind', oa]; rfl
  | true =>
    cases ob : knowOk b with
    | false =>
      refine ⟨K1 + K2 + 1, fun k hk => ?_⟩
      obtain ⟨m, rfl⟩ : ∃ m, k = m + 1 := ⟨k - 1, by omega⟩
      simp only [impl_KnowIn.f, h1 (m + 1) (by omega), h2 (m + 1) (by omega), some_bind', oa, ob]; rfl
    | true =>
      obtain ⟨K3, h3⟩ := h3 oa ob
      refine ⟨K1 + K2 + K3 + 1, fun k hk => ?_⟩
      obtain ⟨m, rfl⟩ : ∃ m, k = m + 1 := ⟨k - 1, by omega⟩
      have := h3 m (by omega)
      simp only [impl_KnowIn.f, h1 (m + 1) (by omega), h2 (m + 1) (by omega), some_bind', oa, ob, impl_KnowIn.j0]
      simpa using this
theorem toIntS_eq (l : List Int) (hl : l.length ≤ 1048576) : Ev (fun k => laws_toIntS.f k l) l := by
  have h := loop_fill (fun k xs i => laws_toIntS.l0 k l xs i) l id (List.replicate l.length 0) (by simp) (fun xs hx => Late.now fun k => ?_) (fun i h xs hx => Late.now fun k => ?_)
  · refine h.congr (fun k => ?_) |> fun h => by simpa using h
    simp only [laws_toIntS.f]
    rw [if_pos (by omega), if_pos (by simp; omega)]; simp
  · simp only [laws_toIntS.l0]; rw [if_neg (by omega)]
  · simp only [laws_toIntS.l0]; rw [if_pos (by omega), if_pos (by omega), if_pos (by omega), rd_def l i h, w64 (by omega) (by omega)]; simp
theorem eqIntS_eq (a b : List Int) (hl : a.length ≤ 9223372036854775807) : Ev (fun k => laws_eqIntS.f k a b) (decide (a = b)) := by
  by_cases hlen : a.length = b.length
  · have h := loop_eq (fun k i => laws_eqIntS.l0 k a b i) a b hlen (Late.now fun k => ?_) (fun i h he => Late.now fun k => ?_) (fun i h he => Late.now fun k => ?_)
    · refine h.congr (fun k => ?_)
      simp only [laws_eqIntS.f]
      rw [if_pos (by omega)]
    · simp only [laws_eqIntS.l0]; rw [if_neg (by omega)]
    · simp only [laws_eqIntS.l0]; rw [if_pos (by omega), if_pos (by omega), if_pos (by omega), rd_def a i h, rd_def b i (by omega), if_pos he, w64 (by omega) (by omega)]
    · simp only [laws_eqIntS.l0]; rw [if_pos (by omega), if_pos (by omega), if_pos (by omega), rd_def a i h, rd_def b i (by omega), if_neg he]
  · rw [decide_eq_false (fun h => hlen (by rw [h]))]
    refine ⟨0, fun k _ => ?_⟩
    simp only [laws_eqIntS.f]
    rw [if_neg (by omega)]
def orderOf (a b : List Int) : Int := if !knowOk a || !knowOk b then 3 else if a = b then 0 else if knowIn a b then -1 else if knowIn b a then 1 else 2
theorem l05Same_eq (a b : List Int) (hl : a.length ≤ 9223372036854775807) : Ev (fun k => spec_l05Same.f k a b) (decide (a = b)) := by
  by_cases hlen : a.length = b.length
  · have h := loop_eq (fun k i => spec_l05Same.l0 k a b i) a b hlen (Late.now fun k => ?_) (fun i h he => Late.now fun k => ?_) (fun i h he => Late.now fun k => ?_)
    · refine h.congr (fun k => ?_)
      simp only [spec_l05Same.f]
      rw [if_pos (by omega)]
    · simp only [spec_l05Same.l0]; rw [if_neg (by omega)]
    · simp only [spec_l05Same.l0]; rw [if_pos (by omega), if_pos (by omega), if_pos (by omega), rd_def a i h, rd_def b i (by omega), if_pos he, w64 (by omega) (by omega)]
    · simp only [spec_l05Same.l0]; rw [if_pos (by omega), if_pos (by omega), if_pos (by omega), rd_def a i h, rd_def b i (by omega), if_neg he]
  · rw [decide_eq_false (fun h => hlen (by rw [h]))]
    refine ⟨0, fun k _ => ?_⟩
    simp only [spec_l05Same.f]
    rw [if_neg (by omega)]
theorem slicesEqual_eq (a b : List Int) (hl : a.length ≤ 9223372036854775807) : Ev (fun k => slices_Equal_int_int.f k a b) (decide (a = b)) := by
  by_cases hlen : a.length = b.length
  · have h := loop_eq (fun k i => slices_Equal_int_int.l0 k a b (a.length : Int) i) a b hlen (Late.now fun k => ?_) (fun i h he => Late.now fun k => ?_) (fun i h he => Late.now fun k => ?_)
    · refine h.congr (fun k => ?_)
      simp only [slices_Equal_int_int.f]
      rw [if_pos (by omega)]
    · simp only [slices_Equal_int_int.l0]; rw [if_neg (by omega)]
    · simp only [slices_Equal_int_int.l0]; rw [if_pos (by omega), if_pos (by omega), if_pos (by omega), if_pos (by omega), rd_def a i h, rd_def b i (by omega), if_pos he, w64 (by omega) (by omega)]
    · simp only [slices_Equal_int_int.l0]; rw [if_pos (by omega), if_pos (by omega), if_pos (by omega), if_pos (by omega), rd_def a i h, rd_def b i (by omega), if_neg he]
  · rw [decide_eq_false (fun h => hlen (by rw [h]))]
    refine ⟨0, fun k _ => ?_⟩
    simp only [slices_Equal_int_int.f]
    rw [if_neg (by omega)]
theorem spec_order (a b : List Int) (ha : a.length ≤ 9223372036854775807) (hb : b.length ≤ 9223372036854775807) : Ev (fun k => spec_OrderOf.f k a b) (orderOf a b) := by
  obtain ⟨K1, h1⟩ := spec_knowOk a ha
  obtain ⟨K2, h2⟩ := spec_knowOk b hb
  obtain ⟨K3, h3⟩ := l05Same_eq a b ha
  obtain ⟨K4, h4⟩ := spec_knowIn a b ha hb
  obtain ⟨K5, h5⟩ := spec_knowIn b a hb ha
  refine ⟨K1 + K2 + K3 + K4 + K5 + 1, fun k hk => ?_⟩
  obtain ⟨m, rfl⟩ : ∃ m, k = m + 1 := ⟨k - 1, by omega⟩
  simp only [spec_OrderOf.f, h1 (m + 1) (by omega), h2 (m + 1) (by omega), some_bind', spec_OrderOf.j0, h3 m (by omega), h4 m (by omega), h5 m (by omega), orderOf]
  cases knowOk a <;> cases knowOk b <;> by_cases e : a = b <;> cases knowIn a b <;> cases knowIn b a <;> simp [e]
theorem impl_order (a b : List Int) (ha : a.length ≤ 9223372036854775807) (hb : b.length ≤ 9223372036854775807) : Ev (fun k => impl_OrderOf.f k a b) (orderOf a b) := by
  obtain ⟨K1, h1⟩ := impl_knowOk a ha
  obtain ⟨K2, h2⟩ := impl_knowOk b hb
  obtain ⟨K3, h3⟩ := slicesEqual_eq a b ha
  obtain ⟨K4, h4⟩ := impl_knowIn a b ha hb
  obtain ⟨K5, h5⟩ := impl_knowIn b a hb ha
  refine ⟨K1 + K2 + K3 + K4 + K5 + 1, fun k hk => ?_⟩
  obtain ⟨m, rfl⟩ : ∃ m, k = m + 1 := ⟨k - 1, by omega⟩
  simp only [impl_OrderOf.f, h1 (m + 1) (by omega), h2 (m + 1) (by omega), some_bind', impl_OrderOf.j0, h3 m (by omega), h4 m (by omega), h5 m (by omega), orderOf]
  cases knowOk a <;> cases knowOk b <;> by_cases e : a = b <;> cases knowIn a b <;> cases knowIn b a <;> simp [e]
theorem FnExactOrderOf_pure : laws_FnExactOrderOf.PureS := by
  intro a b _ _
  by_cases h1 : (a.length : Int) > 1048576
  · exact ⟨0, by simp only [laws_FnExactOrderOf.f]; rw [if_pos h1]⟩
  by_cases h2 : (b.length : Int) > 1048576
  · exact ⟨0, by simp only [laws_FnExactOrderOf.f]; rw [if_neg h1, if_pos h2]⟩
  obtain ⟨K1, e1⟩ := toIntS_eq a (by omega)
  obtain ⟨K2, e2⟩ := toIntS_eq b (by omega)
  obtain ⟨K3, e3⟩ := spec_order a b (by omega) (by omega)
  obtain ⟨K4, e4⟩ := impl_order a b (by omega) (by omega)
  obtain ⟨K5, e5⟩ := eqIntS_eq a a (by omega)
  obtain ⟨K6, e6⟩ := eqIntS_eq b b (by omega)
  refine ⟨K1 + K2 + K3 + K4 + K5 + K6, ?_⟩
  simp only [laws_FnExactOrderOf.f]
  rw [if_neg h1, if_neg h2]
  simp only [e1 _ (show K1 ≤ K1 + K2 + K3 + K4 + K5 + K6 by omega), e2 _ (show K2 ≤ K1 + K2 + K3 + K4 + K5 + K6 by omega), e3 _ (show K3 ≤ K1 + K2 + K3 + K4 + K5 + K6 by omega), e4 _ (show K4 ≤ K1 + K2 + K3 + K4 + K5 + K6 by omega),
    e5 _ (show K5 ≤ K1 + K2 + K3 + K4 + K5 + K6 by omega), e6 _ (show K6 ≤ K1 + K2 + K3 + K4 + K5 + K6 by omega), some_bind']
  simp
end Go.Proofs.Ytopannfdcikgiaa.PFnExactOrderOf
