/- What is read of an argument of the law is a value of its kind: of whole numbers, bools, strings, slices and structs, however deep. -/
import Derived.Test.YtopannfdcikgiaaWWords
import Derived.ChangeArms
import Derived.DataReads
import Derived.ChangeShapes
import Derived.WideShapes
namespace Go.Proofs.Ytopannfdcikgiaa.Open
open Go.Proofs.YtopannfdcikgiaaW.PrintWords

def Opens {α : Type} (P : Program) (t : TypeId) (n : Nat) (d : Kd α) (wf : α → Prop) : Prop :=
  P.cellsOf t = n ∧ ∀ (H : Type) (enc : TypeId × Value → H) (w : World) (base : Nat) (spare : Nat → Bool) (held : Bool) (fuel : Nat) (cs : List Value) (x : DataW H × List MemPlace),
    DataW.trod enc P w base spare held fuel t cs = some x → ∃ a : α, d.K w a cs ∧ wf a

theorem opens_int {P : Program} {t : TypeId} {k : IntKind} (ht : P.underlying t = some (.int k)) (hc : P.cellsOf t = 1) :
    Opens P t 1 (Kd.int k) (fun n => (Lit.int k n).wf = true) :=
  ⟨hc, fun _ _ _ _ _ _ _ _ _ h => by
    obtain ⟨n, rfl, _, hw⟩ := DataW.trod_int ht h
    exact ⟨n, rfl, hw⟩⟩
def I64 (n : Int) : Prop := -9223372036854775808 ≤ n ∧ n ≤ 9223372036854775807
theorem opens_i64 {P : Program} {t : TypeId} (ht : P.underlying t = some (.int .i64)) (hc : P.cellsOf t = 1) :
    Opens P t 1 (Kd.int .i64) I64 :=
  ⟨hc, fun _ _ _ _ _ _ _ _ _ h => by
    obtain ⟨n, rfl, _, hw⟩ := DataW.trod_int ht h
    refine ⟨n, rfl, ?_⟩
    simp only [Lit.wf, Bool.and_eq_true, decide_eq_true_eq] at hw
    exact hw⟩
theorem opens_bool {P : Program} {t : TypeId} (ht : P.underlying t = some .bool) (hc : P.cellsOf t = 1) :
    Opens P t 1 Kd.bool (fun _ => True) :=
  ⟨hc, fun _ _ _ _ _ _ _ _ _ h => by
    obtain ⟨n, rfl, _⟩ := DataW.trod_bool ht h
    exact ⟨n, rfl, trivial⟩⟩
theorem opens_str {P : Program} {t : TypeId} (ht : P.underlying t = some .string) (hc : P.cellsOf t = 1) :
    Opens P t 1 Kd.string (fun s => s.size ≤ 9223372036854775807) :=
  ⟨hc, fun _ _ _ _ _ _ _ _ _ h => by
    obtain ⟨n, rfl, _, hw⟩ := DataW.trod_string ht h
    exact ⟨n, rfl, by unfold maxLen at hw; omega⟩⟩

theorem opens_slice {P : Program} {t e : TypeId} {n : Nat} {α : Type} {d : Kd α} {wf : α → Prop} (ht : P.underlying t = some (.slice e)) (hc : P.cellsOf t = 1) (hsz : d.sz = n)
    (hd : Opens P e n d wf) : Opens P t 1 (Kd.slice e d) (fun xs => ∀ x ∈ xs, wf x) := by
  refine ⟨hc, fun H enc w base spare held fuel cs x h => ?_⟩
  rcases DataW.trod_slice ht h with ⟨rfl, _⟩ | ⟨a, len, cap, elems, rest, m, _, rfl, _, _, hl, hm, hlen, hel, _, _⟩
  · exact ⟨[], ⟨none, 0, rfl, Nat.le_refl _, rfl, by simp, fun h0 => absurd h0 (by simp)⟩, by simp⟩
  · have each : ∀ i : Fin len, ∃ p : α, wf p ∧ ∃ c, c.length = n ∧ d.K w p c ∧ ∀ j u, c[j]? = some u → w.cell? (a.add (i.val * n + j)) = some u := by
      intro i
      have h1 := hel i.val i.isLt
      rw [List.getElem?_eq_getElem (by omega : i.val < elems.length), hd.1, Option.bind_eq_some_iff] at h1
      obtain ⟨c, hcs, hy⟩ := h1
      obtain ⟨p, hp, hw⟩ := hd.2 _ _ _ _ _ _ _ _ _ hy
      obtain ⟨_, hcl, hcell⟩ := World.cells?_some hcs
      refine ⟨p, hw, c, hcl, hp, fun j u hu => ?_⟩
      have hj : j < n := by
        have := (List.getElem?_eq_some_iff.1 hu).1
        omega
      have h2 := hcell j hj
      rw [hu] at h2
      rw [← h2]
      unfold Addr.add
      by_cases h3 : i.val * n = 0 <;> by_cases h4 : j = 0 <;> simp [h3, h4, Nat.add_assoc]
    obtain ⟨f, hf⟩ := Classical.axiomOfChoice each
    refine ⟨List.ofFn f, ⟨some a, cap, ?_, ?_, ?_, ?_, fun _ => ⟨a, rfl, ?_⟩⟩, ?_⟩
    · simp
    · simpa using hl
    · simp
    · simp only [List.length_ofFn]
      unfold maxLen at hm
      omega
    · intro j p hp
      obtain ⟨hj, rfl⟩ := List.getElem?_eq_some_iff.1 hp
      simp only [List.length_ofFn] at hj
      simp only [List.getElem_ofFn]
      obtain ⟨_, c, h1, h2, h3⟩ := hf ⟨j, hj⟩
      exact ⟨c, by rw [h1, hsz], h2, by rw [hsz]; exact h3⟩
    · intro x hx
      obtain ⟨i, rfl⟩ := (List.mem_ofFn).1 hx
      exact (hf i).1

/-- A stretch of a struct's cells. -/
def Part {α : Type} (P : Program) (fs : Array Field) (off n : Nat) (d : Kd α) (wf : α → Prop) : Prop :=
  ∀ (H : Type) (enc : TypeId × Value → H) (w : World) (base : Nat) (spare : Nat → Bool) (held : Bool) (fuel : Nat) (cs : List Value),
    (∀ (i : Nat) (f : Field), fs[i]? = some f → ∃ x, DataW.trod enc P w base spare held fuel f.type ((cs.drop f.offset).take (P.cellsOf f.type)) = some x) →
    ∃ a : α, d.K w a ((cs.drop off).take n) ∧ wf a
theorem part_one {P : Program} {fs : Array Field} {off n : Nat} {α : Type} {d : Kd α} {wf : α → Prop} (i : Nat) (t : TypeId) (h : ∃ f, fs[i]? = some f ∧ f.type = t ∧ f.offset = off) (hd : Opens P t n d wf) : Part P fs off n d wf := by
  obtain ⟨f, hf, rfl, rfl⟩ := h
  intro H enc w base spare held fuel cs hall
  obtain ⟨x, hx⟩ := hall i f hf
  rw [hd.1] at hx
  exact hd.2 _ _ _ _ _ _ _ _ _ hx
theorem part_pair {P : Program} {fs : Array Field} {off n m : Nat} {α β : Type} {a : Kd α} {b : Kd β} {wa : α → Prop} {wb : β → Prop} (ha : Part P fs off n a wa) (hb : Part P fs (off + n) m b wb) :
    Part P fs off (n + m) (Kd.pair a b) (fun x => wa x.1 ∧ wb x.2) := by
  intro H enc w base spare held fuel cs hall
  obtain ⟨x, hx, hwx⟩ := ha H enc w base spare held fuel cs hall
  obtain ⟨y, hy, hwy⟩ := hb H enc w base spare held fuel cs hall
  exact ⟨(x, y), ⟨_, _, by rw [List.take_add, List.drop_drop], hx, hy⟩, hwx, hwy⟩
theorem opens_struct {P : Program} {t : TypeId} {fs : Array Field} {n : Nat} {α : Type} {d : Kd α} {wf : α → Prop} (ht : P.underlying t = some (.struct fs)) (hc : P.cellsOf t = n) (hp : Part P fs 0 n d wf) : Opens P t n d wf := by
  refine ⟨hc, fun H enc w base spare held fuel cs x h => ?_⟩
  obtain ⟨xs, m, rfl, _, hl, hxl, hall⟩ := DataW.trod_struct ht h
  obtain ⟨a, ha, hw⟩ := hp H enc w base spare held m cs (fun i f hf => by
    rw [hall i f hf, List.getElem?_eq_getElem (by rw [hxl]; exact (Array.getElem?_eq_some_iff.1 hf).1)]
    exact ⟨_, rfl⟩)
  rw [List.drop_zero, List.take_of_length_le (by omega)] at ha
  exact ⟨a, ha, hw⟩
theorem opens_iso {P : Program} {t : TypeId} {n : Nat} {α β : Type} {d : Kd α} {wf : α → Prop} (f : β → α) (g : α → β) (hfg : ∀ a, f (g a) = a) (h : Opens P t n d wf) : Opens P t n (Kd.iso d f) (fun b => wf (f b)) :=
  ⟨h.1, fun H enc w base spare held fuel cs x hx => by
    obtain ⟨a, ha, hw⟩ := h.2 H enc w base spare held fuel cs x hx
    exact ⟨g a, show d.K w (f (g a)) cs by rw [hfg]; exact ha, show wf (f (g a)) by rw [hfg]; exact hw⟩⟩
theorem opens_mono {P : Program} {t : TypeId} {n : Nat} {α : Type} {d : Kd α} {wf wf' : α → Prop} (h : Opens P t n d wf) (hw : ∀ a, wf a → wf' a) : Opens P t n d wf' :=
  ⟨h.1, fun H enc w base spare held fuel cs x hx => by
    obtain ⟨a, ha, hwa⟩ := h.2 H enc w base spare held fuel cs x hx
    exact ⟨a, ha, hw a hwa⟩⟩
/-- An argument whose type is a struct is an aggregate of its cells. -/
theorem agg_of {P : Program} {w : World} {r : Reach} {base : Nat} {t : TypeId} {fs : Array Field} {v : Value} (ht : P.underlying t = some (.struct fs)) (h : Value.okWide P w r base t v) : ∃ cs, v = .agg cs := by
  simp only [Value.okWide, ht] at h
  obtain ⟨cs, h1, _⟩ := h
  exact ⟨cs, h1⟩
theorem k_int {k : IntKind} {w : World} {x : Int} {cs : List Value} (h : (Kd.int k).K w x cs) : cs = [.int k x] := h
theorem k_bool {w : World} {x : Bool} {cs : List Value} (h : Kd.bool.K w x cs) : cs = [.bool x] := h
theorem k_str {w : World} {x : ByteArray} {cs : List Value} (h : Kd.string.K w x cs) : cs = [.string x] := h
theorem k_slice {α : Type} {e : Nat} {d : Kd α} {w : World} {xs : List α} {cs : List Value} (h : (Kd.slice e d).K w xs cs) : ∃ A c, cs = [.slice A xs.length c] ∧ xs.length ≤ c ∧ d.C w A xs.length xs := h
theorem k_pair {α β : Type} {a : Kd α} {b : Kd β} {w : World} {x : α × β} {cs : List Value} (h : (Kd.pair a b).K w x cs) : ∃ c0 c1, cs = c0 ++ c1 ∧ a.K w x.1 c0 ∧ b.K w x.2 c1 := h
end Go.Proofs.Ytopannfdcikgiaa.Open
