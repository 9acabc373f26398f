/- The pure statement of FnExactWatchOk: what the program's function and the reference compute is the same. -/
import Derived.Test.YtopannfdcikgiaaArgsFnExactWatchOk
namespace Go.Proofs.Ytopannfdcikgiaa.PFnExactWatchOk
open Go.RowKit Go.Proofs.YtopannfdcikgiaaW.PrintWords Go.Proofs.YtopannfdcikgiaaW.PrintLast Go.Proofs.Ytopannfdcikgiaa.Open
set_option linter.unusedVariables false
set_option linter.unusedSimpArgs false
theorem w64 {x : Int} (h0 : -9223372036854775808 ≤ x) (h1 : x ≤ 9223372036854775807) : wrap64 x = x := by
  unfold wrap64; omega
theorem bt_def (s : ByteArray) (i : Nat) (h : i < s.data.toList.length) : bt s (i : Int) = ((s.data.toList[i]'h).toNat : Int) := by
  have h' : i < s.size := by simpa using h
  unfold bt
  rw [dif_pos (by simpa using h')]
  rfl
theorem some_bind' {α β : Type} (a : α) (f : α → Option β) : (some a).bind f = f a := rfl
/-- A search through a list from place i on. -/
theorem all_drop {α : Type} (p : α → Bool) (l : List α) (i : Nat) (h : i < l.length) : (l.drop i).all p = (p l[i] && (l.drop (i + 1)).all p) := by
  rw [List.drop_eq_getElem_cons h]; rfl
def inR (a lo hi : Int) : Bool := decide (lo ≤ a) && decide (a ≤ hi)
theorem l01In_eq (a lo hi : Int) : spec_l01In.f a lo hi = some (inR a lo hi) := by
  unfold spec_l01In.f inR
  by_cases h : a ≥ lo
  · rw [if_pos h, decide_eq_true (show lo ≤ a from h)]; rfl
  · rw [if_neg h, decide_eq_false (show ¬ lo ≤ a from h)]; rfl
theorem within_eq (a lo hi : Int) : impl_within.f a lo hi = some (inR a lo hi) := by
  unfold impl_within.f inR
  by_cases h : a ≥ lo
  · rw [if_pos h, decide_eq_true (show lo ≤ a from h)]; rfl
  · rw [if_neg h, decide_eq_false (show ¬ lo ≤ a from h)]; rfl
def letter (c : UInt8) : Bool := inR (c.toNat : Int) 97 122
def nameOk (s : ByteArray) : Bool := s.data.toList.all letter && inR (s.size : Int) 1 8
theorem spec_name_l0 (s : ByteArray) (hs : s.size ≤ 9223372036854775807) (d : Nat) : ∀ i : Nat, s.size - i = d → i ≤ s.size → Ev (fun k => spec_NameOk.l0 k s (i : Int)) ((s.data.toList.drop i).all letter && inR (s.size : Int) 1 8) := by
  have hl : s.data.toList.length = s.size := by simp
  induction d with
  | zero =>
    intro i hd hi
    refine Ev.step (f := fun _ => some _) (fun k => ?_) (Ev.now _)
    simp only [spec_NameOk.l0]
    rw [if_neg (by omega), l01In_eq, List.drop_eq_nil_of_le (by omega)]; rfl
  | succ d ih =>
    intro i hd hi
    have hlt : i < s.data.toList.length := by omega
    rw [all_drop _ _ _ hlt]
    by_cases hc : letter s.data.toList[i] = true
    · rw [hc, Bool.true_and]
      refine Ev.step (fun k => ?_) (ih (i + 1) (by omega) (by omega))
      have hb := bt_def s i hlt
      simp only [letter, inR, Bool.and_eq_true, decide_eq_true_eq] at hc
      simp only [spec_NameOk.l0]
      rw [if_pos (by omega), if_pos (by omega), if_neg (by omega), if_neg (by omega), w64 (by omega) (by omega)]; rfl
    · rw [Bool.not_eq_true] at hc
      rw [hc]
      refine Ev.step (f := fun _ => some _) (fun k => ?_) (Ev.now _)
      have hb := bt_def s i hlt
      simp only [letter, inR, Bool.and_eq_false_iff, decide_eq_false_iff_not] at hc
      simp only [spec_NameOk.l0]
      rw [if_pos (by omega), if_pos (by omega)]
      by_cases h97 : bt s i < 97
      · rw [if_pos h97]; rfl
      · rw [if_neg h97, if_pos (by omega)]; rfl
theorem spec_name (s : ByteArray) (hs : s.size ≤ 9223372036854775807) : Ev (fun k => spec_NameOk.f k s) (nameOk s) := by
  have := spec_name_l0 s hs s.size 0 (by omega) (by omega)
  rw [List.drop_zero] at this
  exact this
theorem impl_name_l0 (s : ByteArray) (hs : s.size ≤ 9223372036854775807) (d : Nat) : ∀ i : Nat, s.size - i = d → i ≤ s.size → Ev (fun k => impl_NameOk.l0 k s (i : Int)) ((s.data.toList.drop i).all letter && inR (s.size : Int) 1 8) := by
  have hl : s.data.toList.length = s.size := by simp
  induction d with
  | zero =>
    intro i hd hi
    refine Ev.step (f := fun _ => some _) (fun k => ?_) (Ev.now _)
    simp only [impl_NameOk.l0]
    rw [if_neg (by omega), within_eq, List.drop_eq_nil_of_le (by omega)]; rfl
  | succ d ih =>
    intro i hd hi
    have hlt : i < s.data.toList.length := by omega
    have hb := bt_def s i hlt
    have hr := bt_range s i
    rw [all_drop _ _ _ hlt]
    by_cases hc : letter s.data.toList[i] = true
    · rw [hc, Bool.true_and]
      refine Ev.step (fun k => ?_) (ih (i + 1) (by omega) (by omega))
      simp only [impl_NameOk.l0]
      rw [if_pos (by omega), if_pos (by omega), w64 (x := bt s i) (by omega) (by omega), within_eq, hb, show inR _ 97 122 = true from hc, some_bind', if_pos rfl, w64 (by omega) (by omega)]; rfl
    · rw [Bool.not_eq_true] at hc
      rw [hc]
      refine Ev.step (f := fun _ => some _) (fun k => ?_) (Ev.now _)
      simp only [impl_NameOk.l0]
      rw [if_pos (by omega), if_pos (by omega), w64 (x := bt s i) (by omega) (by omega), within_eq, hb, show inR _ 97 122 = false from hc, some_bind', if_neg (by decide)]; rfl
theorem impl_name (s : ByteArray) (hs : s.size ≤ 9223372036854775807) : Ev (fun k => impl_NameOk.f k s) (nameOk s) := by
  have := impl_name_l0 s hs s.size 0 (by omega) (by omega)
  rw [List.drop_zero] at this
  exact this
def empty (s : ByteArray) : Bool := s.toList == ([] : List UInt8)
def watchOk (kind : Int) (obj key : ByteArray) : Bool := inR kind 1 4 && nameOk obj && (if kind = 3 then nameOk key else empty key)
theorem spec_watch (a : Int) (o s : ByteArray) (ho : o.size ≤ 9223372036854775807) (hs : s.size ≤ 9223372036854775807) : Ev (fun k => spec_WatchOk.f k a o s) (watchOk a o s) := by
  obtain ⟨K1, h1⟩ := spec_name o ho
  obtain ⟨K2, h2⟩ := spec_name s hs
  refine ⟨K1 + K2 + 1, fun k hk => ?_⟩
  obtain ⟨m, rfl⟩ : ∃ m, k = m + 1 := ⟨k - 1, by omega⟩
  simp only [spec_WatchOk.f, l01In_eq, some_bind', h1 (m + 1) (by omega), spec_WatchOk.j0, h2 m (by omega), watchOk]
  cases inR a 1 4 <;> cases nameOk o <;> by_cases ha : a = 3 <;> simp [ha, empty]
theorem impl_watch (a : Int) (o s : ByteArray) (ho : o.size ≤ 9223372036854775807) (hs : s.size ≤ 9223372036854775807) : Ev (fun k => impl_WatchOk.f k a o s) (watchOk a o s) := by
  obtain ⟨K1, h1⟩ := impl_name o ho
  obtain ⟨K2, h2⟩ := impl_name s hs
  refine ⟨K1 + K2 + 1, fun k hk => ?_⟩
  simp only [impl_WatchOk.f, within_eq, some_bind', h1 k (by omega), h2 k (by omega), watchOk]
  cases inR a 1 4 <;> cases nameOk o <;> by_cases ha : a = 3 <;> simp [ha, empty]
theorem FnExactWatchOk_pure : laws_FnExactWatchOk.Pure := by
  intro a o s ha ho hs
  obtain ⟨K1, h1⟩ := spec_watch a o s ho hs
  obtain ⟨K2, h2⟩ := impl_watch a o s ho hs
  refine ⟨K1 + K2, ?_⟩
  simp only [laws_FnExactWatchOk.f, laws_szWatch.f, laws_toWatch.f]
  split
  · simp
  · split
    · simp
    · simp only [some_bind']
      split
      · rfl
      · simp [h1 (K1 + K2) (by omega), h2 (K1 + K2) (by omega)]
end Go.Proofs.Ytopannfdcikgiaa.PFnExactWatchOk
