/- What the law is handed, as plain memory. -/
import Derived.Test.YtopannfdcikgiaaSy15
import Derived.ChangeArms
import Derived.DataReads
import Derived.ChangeShapes
import Derived.WideShapes
namespace Go.Proofs.Ytopannfdcikgiaa.Sy
open Go Go.RowKit
/-- Block number g. -/
def bk (σ : St) (g : Nat) : Option Blk := (σ[g]?).join
theorem bk_some {σ : St} {g : Nat} {B : Blk} : bk σ g = some B ↔ σ[g]? = some (some B) := by
  unfold bk
  cases σ[g]? with
  | none => simp
  | some x => simp
theorem bk_pre {σ τ : St} (h : σ <+: τ) {g : Nat} {B : Blk} (hb : bk σ g = some B) : bk τ g = some B := by
  rw [bk_some] at *
  obtain ⟨r, rfl⟩ := h
  have := (List.getElem?_eq_some_iff.1 hb).1
  rw [List.getElem?_append_left this]; exact hb
def fx : Blk → Option (Nat × List GV)
  | .ice z cs => some (z, cs)
  | .ro z cs => some (z, cs)
  | _ => none
/-- The cells of a block that is not written. -/
def fxb (σ : St) (g : Nat) : Option (Nat × List GV) := (bk σ g).bind fx
/-- What is not written stays. -/
def Keep (σ τ : St) : Prop := ∀ g q, fxb σ g = some q → fxb τ g = some q
theorem Keep.refl (σ : St) : Keep σ σ := fun _ _ h => h
theorem Keep.trans {a b c : St} (h : Keep a b) (k : Keep b c) : Keep a c := fun g q hq => k g q (h g q hq)
theorem Keep.pre {σ τ : St} (h : σ <+: τ) : Keep σ τ := fun g q hq => by
  unfold fxb at *
  obtain ⟨B, hB, hf⟩ := Option.bind_eq_some_iff.1 hq
  rw [bk_pre h hB]; exact hf
theorem fxb_rdB {σ : St} {g : Nat} {q : Nat × List GV} (h : fxb σ g = some q) : rdB σ g = some q.2 := by
  unfold fxb at h
  obtain ⟨B, hB, hf⟩ := Option.bind_eq_some_iff.1 h
  unfold rdB
  rw [bk_some.1 hB]
  cases B <;> simp only [fx, Option.some.injEq, reduceCtorEq] at hf <;> subst hf <;> rfl
/-- How values of a type lie in cells. -/
structure Ek (α : Type) where
  z : Nat
  R : St → α → List GV → Prop
  len : ∀ {σ x cs}, R σ x cs → cs.length = z
  mono : ∀ {σ τ x cs}, R σ x cs → Keep σ τ → R τ x cs
def Ek.int (k : IntKind) : Ek Int := ⟨1, fun _ n cs => cs = [.int k n], fun h => by rw [h]; rfl, fun h _ => h⟩
def Ek.bool : Ek Bool := ⟨1, fun _ b cs => cs = [.bool b], fun h => by rw [h]; rfl, fun h _ => h⟩
def Ek.str : Ek ByteArray := ⟨1, fun _ s cs => cs = [.str s], fun h => by rw [h]; rfl, fun h _ => h⟩
/-- A slice that is not written any more. -/
def Sl {α : Type} (d : Ek α) (σ : St) (v : GV) (xs : List α) : Prop :=
  (xs = [] ∧ (v = .nilS ∨ v = .emp)) ∨ ∃ g off cs, v = .sl g off xs.length ∧ fxb σ g = some (d.z, cs) ∧ off + xs.length * d.z ≤ cs.length ∧ ∀ (i : Nat) x, xs[i]? = some x → d.R σ x ((cs.drop (off + i * d.z)).take d.z)
theorem Sl.mono {α : Type} {d : Ek α} {σ τ : St} {v : GV} {xs : List α} (h : Sl d σ v xs) (hk : Keep σ τ) : Sl d τ v xs := by
  rcases h with h | ⟨g, off, cs, h1, h2, h3, h4⟩
  · exact .inl h
  · exact .inr ⟨g, off, cs, h1, hk _ _ h2, h3, fun i x hx => d.mono (h4 i x hx) hk⟩
def Ek.slice {α : Type} (d : Ek α) : Ek (List α) := ⟨1, fun σ xs cs => ∃ v, cs = [v] ∧ Sl d σ v xs, fun ⟨v, h, _⟩ => by rw [h]; rfl, fun ⟨v, h, hs⟩ hk => ⟨v, h, hs.mono hk⟩⟩
def Ek.pair {α β : Type} (a : Ek α) (b : Ek β) : Ek (α × β) := ⟨a.z + b.z, fun σ x cs => ∃ c0 c1, cs = c0 ++ c1 ∧ a.R σ x.1 c0 ∧ b.R σ x.2 c1,
  fun ⟨c0, c1, h, h0, h1⟩ => by rw [h, List.length_append, a.len h0, b.len h1], fun ⟨c0, c1, h, h0, h1⟩ hk => ⟨c0, c1, h, a.mono h0 hk, b.mono h1 hk⟩⟩
def Ek.iso {α β : Type} (a : Ek α) (f : β → α) : Ek β := ⟨a.z, fun σ x cs => a.R σ (f x) cs, a.len, a.mono⟩
section opens
variable {w : World} {ρ : Rho} {σ : St}
theorem Good.nil (w : World) : Good w (fun _ => none) [] w :=
  { below := ⟨rfl, rfl, rfl, Nat.le_refl _, fun _ _ => rfl⟩, fresh := fun _ _ => rfl, loc := fun g L h => (by cases h), old := fun g L h => (by cases h), closed := fun g B h => (by simp at h), mem := fun g B L h => (by simp at h), inj := fun g g' B B' L L' h => (by simp at h) }
/-- Memory that was there is read as a block. -/
theorem Good.see {w0 : World} (h : Good w0 ρ σ w) {z : Nat} {cs : List GV} {a : Addr} (hb : a.block < w0.heap.size) (hm : ∀ (j : Nat) (c : GV), cs[j]? = some c → ∃ v, w.cell? (a.add j) = some v ∧ sRel ρ c v) :
    Good w0 (Good.put ρ σ.length ⟨a, 0, z, false⟩) (σ ++ [some (.ro z cs)]) w := by
  have hle : Le ρ (Good.put ρ σ.length ⟨a, 0, z, false⟩) := Good.put_le (h.fresh _ (Nat.le_refl _))
  have hlt : ∀ c ∈ cs, sLt σ.length c := fun c hc => by
    obtain ⟨j, hj⟩ := List.getElem?_of_mem hc
    obtain ⟨v, _, hr⟩ := hm j c hj
    exact hr.lt h.fresh
  exact { below := h.below
          fresh := fun g hg => by
            simp only [List.length_append, List.length_cons, List.length_nil] at hg
            unfold Good.put
            rw [if_neg (by omega)]
            exact h.fresh g (by omega)
          loc := fun g L hL ho => by
            rcases put_some hL with ⟨_, rfl⟩ | ⟨_, hL⟩
            · cases ho
            · exact h.loc g L hL ho
          old := fun g L hL ho => by
            rcases put_some hL with ⟨_, rfl⟩ | ⟨_, hL⟩
            · exact hb
            · exact h.old g L hL ho
          closed := fun g B hB => by
            simp only [List.length_append, List.length_cons, List.length_nil]
            rcases app_some hB with ⟨_, hB⟩ | ⟨_, hx⟩
            · exact (h.closed g B hB).mono (by omega)
            · injection hx with hx; subst hx
              exact fun c hc => (hlt c hc).mono (by omega)
          mem := fun g B L hB hL => by
            rcases app_some hB with ⟨hg, hB⟩ | ⟨hg, hx⟩
            · rcases put_some hL with ⟨e, _⟩ | ⟨_, hL⟩
              · omega
              · exact Good.holds_mono hle (h.mem g B L hB hL)
            · injection hx with hx; subst hx
              rcases put_some hL with ⟨_, rfl⟩ | ⟨e, _⟩
              · refine ⟨rfl, fun j c hc => ?_⟩
                obtain ⟨v, hv, hr⟩ := hm j c hc
                exact ⟨v, hv, hr.mono hle⟩
              · exact absurd hg e
          inj := fun g g' B B' L L' hB hB' hL hL' ho ho' he => by
            rcases put_some hL with ⟨_, rfl⟩ | ⟨e, hL⟩
            · cases ho
            · rcases put_some hL' with ⟨_, rfl⟩ | ⟨e', hL'⟩
              · cases ho'
              · rcases app_some hB with ⟨_, hB⟩ | ⟨hg, _⟩
                · rcases app_some hB' with ⟨_, hB'⟩ | ⟨hg', _⟩
                  · exact h.inj g g' B B' L L' hB hB' hL hL' ho ho' he
                  · exact absurd hg' e'
                · exact absurd hg e }
/-- What a value of the type is read as. -/
def Opens {α : Type} (P : Program) (t : TypeId) (d : Ek α) (wf : α → Prop) : Prop :=
  P.cellsOf t = d.z ∧ ∀ (H : Type) (enc : TypeId × Value → H) (w : World) (base : Nat) (spare : Nat → Bool) (held : Bool) (fuel : Nat) (cs : List Value) (x : DataW H × List MemPlace),
    DataW.trod enc P w base spare held fuel t cs = some x → ∀ (ρ : Rho) (σ : St), Good w ρ σ w → ∃ (a : α) (gs : List GV) (ρ' : Rho) (σ' : St), Good w ρ' σ' w ∧ σ <+: σ' ∧ Le ρ ρ' ∧ All2 (sRel ρ') gs cs ∧ d.R σ' a gs ∧ wf a
theorem opens_int {P : Program} {t : TypeId} {k : IntKind} (ht : P.underlying t = some (.int k)) (hc : P.cellsOf t = 1) : Opens P t (Ek.int k) (fun n => (Lit.int k n).wf = true) :=
  ⟨hc, fun _ _ _ _ _ _ _ _ _ h ρ σ hG => by
    obtain ⟨n, rfl, _, hw⟩ := DataW.trod_int ht h
    exact ⟨n, [.int k n], ρ, σ, hG, List.prefix_refl _, Le.refl _, .cons rfl .nil, rfl, hw⟩⟩
def I64 (n : Int) : Prop := -9223372036854775808 ≤ n ∧ n ≤ 9223372036854775807
theorem opens_i64 {P : Program} {t : TypeId} (ht : P.underlying t = some (.int .i64)) (hc : P.cellsOf t = 1) : Opens P t (Ek.int .i64) I64 :=
  ⟨hc, fun _ _ _ _ _ _ _ _ _ h ρ σ hG => by
    obtain ⟨n, rfl, _, hw⟩ := DataW.trod_int ht h
    refine ⟨n, [.int .i64 n], ρ, σ, hG, List.prefix_refl _, Le.refl _, .cons rfl .nil, rfl, ?_⟩
    simp only [Lit.wf, Bool.and_eq_true, decide_eq_true_eq] at hw
    exact hw⟩
theorem opens_bool {P : Program} {t : TypeId} (ht : P.underlying t = some .bool) (hc : P.cellsOf t = 1) : Opens P t Ek.bool (fun _ => True) :=
  ⟨hc, fun _ _ _ _ _ _ _ _ _ h ρ σ hG => by
    obtain ⟨n, rfl, _⟩ := DataW.trod_bool ht h
    exact ⟨n, [.bool n], ρ, σ, hG, List.prefix_refl _, Le.refl _, .cons rfl .nil, rfl, trivial⟩⟩
theorem opens_str {P : Program} {t : TypeId} (ht : P.underlying t = some .string) (hc : P.cellsOf t = 1) : Opens P t Ek.str (fun s => s.size ≤ 9223372036854775807) :=
  ⟨hc, fun _ _ _ _ _ _ _ _ _ h ρ σ hG => by
    obtain ⟨n, rfl, _, hw⟩ := DataW.trod_string ht h
    exact ⟨n, [.str n], ρ, σ, hG, List.prefix_refl _, Le.refl _, .cons rfl .nil, rfl, by unfold maxLen at hw; omega⟩⟩
/-- Elements in a row, one after another. -/
theorem opens_elems {P : Program} {e : TypeId} {α : Type} {d : Ek α} {wf : α → Prop} (hd : Opens P e d wf) {H : Type} {enc : TypeId × Value → H} {w : World} {base : Nat} {spare : Nat → Bool} {held : Bool} {fuel : Nat} :
    ∀ (css : List (List Value)), (∀ c ∈ css, ∃ x, DataW.trod enc P w base spare held fuel e c = some x) → ∀ (ρ : Rho) (σ : St), Good w ρ σ w →
    ∃ (as : List α) (gs : List GV) (ρ' : Rho) (σ' : St), as.length = css.length ∧ Good w ρ' σ' w ∧ σ <+: σ' ∧ Le ρ ρ' ∧ All2 (sRel ρ') gs css.flatten ∧ gs.length = as.length * d.z ∧ (∀ (i : Nat) a, as[i]? = some a → d.R σ' a ((gs.drop (i * d.z)).take d.z)) ∧ ∀ a ∈ as, wf a
  | [], _, ρ, σ, hG => ⟨[], [], ρ, σ, rfl, hG, List.prefix_refl _, Le.refl _, .nil, by simp, fun i a h => by simp at h, by simp⟩
  | c :: css, h, ρ, σ, hG => by
    obtain ⟨x, hx⟩ := h c List.mem_cons_self
    obtain ⟨a, g0, ρ1, σ1, hG1, hp1, hl1, hr1, hR1, hw1⟩ := hd.2 H enc w base spare held fuel c x hx ρ σ hG
    obtain ⟨as, gs, ρ2, σ2, hl, hG2, hp2, hl2, hr2, hgl, hR2, hw2⟩ := opens_elems hd css (fun c hc => h c (List.mem_cons_of_mem _ hc)) ρ1 σ1 hG1
    refine ⟨a :: as, g0 ++ gs, ρ2, σ2, by simp [hl], hG2, hp1.trans hp2, hl1.trans hl2, ?_, ?_, fun i b hb => ?_, fun b hb => ?_⟩
    · rw [List.flatten_cons]
      exact (hr1.imp fun _ _ h => h.mono hl2).append hr2
    · rw [List.length_append, hgl, d.len hR1, List.length_cons, Nat.add_mul]; omega
    · have hg0 := d.len hR1
      cases i with
      | zero =>
        simp only [List.getElem?_cons_zero, Option.some.injEq] at hb
        subst hb
        rw [Nat.zero_mul, List.drop_zero, List.take_append_of_le_length (by omega), List.take_of_length_le (by omega)]
        exact d.mono hR1 (.pre hp2)
      | succ i =>
        simp only [List.getElem?_cons_succ] at hb
        have e : (g0 ++ gs).drop ((i + 1) * d.z) = gs.drop (i * d.z) := by
          rw [Nat.add_mul, Nat.one_mul, Nat.add_comm, ← hg0, List.drop_append]
          simp
        rw [e]
        exact hR2 i b hb
    · rcases List.mem_cons.1 hb with rfl | hb
      · exact hw1
      · exact hw2 b hb
theorem opens_slice {P : Program} {t e : TypeId} {α : Type} {d : Ek α} {wf : α → Prop} (ht : P.underlying t = some (.slice e)) (hc : P.cellsOf t = 1) (hz : 0 < d.z) (hd : Opens P e d wf) : Opens P t (Ek.slice d) (fun xs => xs.length ≤ 9223372036854775807 ∧ ∀ x ∈ xs, wf x) := by
  refine ⟨hc, fun H enc w base spare held fuel cs x h ρ σ hG => ?_⟩
  rcases DataW.trod_slice ht h with ⟨rfl, _⟩ | ⟨a, len, cap, elems, rest, m, _, rfl, _, _, hl, hm, hlen, hel, _, _⟩
  · exact ⟨[], [.nilS], ρ, σ, hG, List.prefix_refl _, Le.refl _, .cons rfl .nil, ⟨.nilS, rfl, .inl ⟨rfl, .inl rfl⟩⟩, by simp, by simp⟩
  · by_cases h0 : len = 0
    · subst h0
      exact ⟨[], [.emp], ρ, σ, hG, List.prefix_refl _, Le.refl _, .cons ⟨some a, cap, rfl⟩ .nil, ⟨.emp, rfl, .inl ⟨rfl, .inr rfl⟩⟩, by simp, by simp⟩
    · have each : ∀ i : Fin len, ∃ c : List Value, (∃ y, DataW.trod enc P w base spare held m e c = some y) ∧ c.length = d.z ∧ ∀ (j : Nat) u, c[j]? = some u → w.cell? (a.add (i.val * d.z + j)) = some u := by
        intro i
        have h1 := hel i.val i.isLt
        rw [List.getElem?_eq_getElem (by omega : i.val < elems.length), hd.1, Option.bind_eq_some_iff] at h1
        obtain ⟨c, hcs, hy⟩ := h1
        obtain ⟨_, hcl, hcell⟩ := World.cells?_some hcs
        refine ⟨c, ⟨_, hy⟩, hcl, fun j u hu => ?_⟩
        have hj : j < d.z := by
          have := (List.getElem?_eq_some_iff.1 hu).1
          omega
        have h2 := hcell j hj
        rw [hu] at h2
        rw [← h2]
        unfold Addr.add
        by_cases h3 : i.val * d.z = 0 <;> by_cases h4 : j = 0 <;> simp [h3, h4, Nat.add_assoc]
      obtain ⟨f, hf⟩ := Classical.axiomOfChoice each
      obtain ⟨as, gs, ρ1, σ1, hasl, hG1, hp, hle, hr, hgl, hR, hw⟩ := opens_elems hd (List.ofFn f) (fun c hc => by obtain ⟨i, rfl⟩ := (List.mem_ofFn).1 hc; exact (hf i).1) ρ σ hG
      have flat : ∀ (css : List (List Value)) (k : Nat), (∀ c ∈ css, c.length = d.z) → (∀ (i : Nat) c, css[i]? = some c → ∀ (j : Nat) u, c[j]? = some u → w.cell? (a.add ((k + i) * d.z + j)) = some u) → ∀ (j : Nat) u, css.flatten[j]? = some u → w.cell? (a.add (k * d.z + j)) = some u := by
        intro css
        induction css with
        | nil => intro k _ _ j u hu; simp at hu
        | cons c css ih =>
          intro k hl hc j u hu
          have hcl := hl c List.mem_cons_self
          rw [List.flatten_cons] at hu
          by_cases hj : j < c.length
          · rw [List.getElem?_append_left hj] at hu
            exact hc 0 c rfl j u hu
          · rw [List.getElem?_append_right (by omega)] at hu
            have := ih (k + 1) (fun c h => hl c (List.mem_cons_of_mem _ h)) (fun i c h j u hu => by rw [show k + 1 + i = k + (i + 1) by omega]; exact hc (i + 1) c (by simpa using h) j u hu) (j - c.length) u hu
            rw [Nat.add_mul, Nat.one_mul] at this
            rw [show k * d.z + d.z + (j - c.length) = k * d.z + j by omega] at this
            exact this
      have hcell : ∀ (j : Nat) u, (List.ofFn f).flatten[j]? = some u → w.cell? (a.add j) = some u := fun j u hu => by
        have := flat (List.ofFn f) 0 (fun c hc => by obtain ⟨i, rfl⟩ := (List.mem_ofFn).1 hc; exact (hf i).2.1) (fun i c hc j u hu => by
          obtain ⟨hi, rfl⟩ := List.getElem?_eq_some_iff.1 hc
          simp only [List.length_ofFn] at hi
          simp only [List.getElem_ofFn] at hu
          have := (hf ⟨i, hi⟩).2.2 j u hu
          rw [Nat.zero_add]
          exact this) j u hu
        rw [Nat.zero_mul, Nat.zero_add] at this
        exact this
      have hasl' : as.length = len := by rw [hasl]; simp
      have hblk : a.block < w.heap.size := by
        have hlt : 0 < gs.length := by rw [hgl, hasl']; exact Nat.mul_pos (by omega) hz
        obtain ⟨u, hu, _⟩ := hr.get (List.getElem?_eq_getElem hlt)
        have := hcell 0 u hu
        unfold World.cell? at this
        rw [add_block] at this
        cases hb : w.heap[a.block]? with
        | none => rw [hb] at this; cases this
        | some o => exact (Array.getElem?_eq_some_iff.1 hb).1
      have hG2 := hG1.see (z := d.z) (cs := gs) hblk (fun j c hc => by
        obtain ⟨u, hu, hs⟩ := hr.get hc
        exact ⟨u, hcell j u hu, hs⟩)
      refine ⟨as, [.sl σ1.length 0 as.length], _, _, hG2, hp.trans (List.prefix_append _ _), hle.trans (Good.put_le (hG1.fresh _ (Nat.le_refl _))), .cons ⟨_, put_at, a, cap, by rw [hasl'], by omega, .inr ⟨by simp [Addr.add], fun h => by cases h⟩⟩ .nil, ⟨_, rfl, .inr ⟨σ1.length, 0, gs, rfl, ?_, by rw [hgl]; omega, fun i x hx => ?_⟩⟩, by rw [hasl']; unfold maxLen at hm; omega, hw⟩
      · unfold fxb
        rw [show bk (σ1 ++ [some (Blk.ro d.z gs)]) σ1.length = some (.ro d.z gs) from bk_some.2 (by simp)]
        rfl
      · rw [Nat.zero_add]
        exact d.mono (hR i x hx) (.pre (List.prefix_append _ _))
/-- A stretch of a struct's cells. -/
def Part {α : Type} (P : Program) (fs : Array Field) (off n : Nat) (d : Ek α) (wf : α → Prop) : Prop :=
  ∀ (H : Type) (enc : TypeId × Value → H) (w : World) (base : Nat) (spare : Nat → Bool) (held : Bool) (fuel : Nat) (cs : List Value),
    (∀ (i : Nat) (f : Field), fs[i]? = some f → ∃ x, DataW.trod enc P w base spare held fuel f.type ((cs.drop f.offset).take (P.cellsOf f.type)) = some x) →
    ∀ (ρ : Rho) (σ : St), Good w ρ σ w → ∃ (a : α) (gs : List GV) (ρ' : Rho) (σ' : St), Good w ρ' σ' w ∧ σ <+: σ' ∧ Le ρ ρ' ∧ All2 (sRel ρ') gs ((cs.drop off).take n) ∧ d.R σ' a gs ∧ wf a
theorem part_one {P : Program} {fs : Array Field} {off n : Nat} {α : Type} {d : Ek α} {wf : α → Prop} (i : Nat) (t : TypeId) (h : ∃ f, fs[i]? = some f ∧ f.type = t ∧ f.offset = off) (hn : d.z = n) (hd : Opens P t d wf) : Part P fs off n d wf := by
  obtain ⟨f, hf, rfl, rfl⟩ := h
  intro H enc w base spare held fuel cs hall ρ σ hG
  obtain ⟨x, hx⟩ := hall i f hf
  rw [hd.1, hn] at hx
  exact hd.2 _ _ _ _ _ _ _ _ _ hx ρ σ hG
theorem part_pair {P : Program} {fs : Array Field} {off n m : Nat} {α β : Type} {a : Ek α} {b : Ek β} {wa : α → Prop} {wb : β → Prop} (ha : Part P fs off n a wa) (hb : Part P fs (off + n) m b wb) :
    Part P fs off (n + m) (Ek.pair a b) (fun x => wa x.1 ∧ wb x.2) := by
  intro H enc w base spare held fuel cs hall ρ σ hG
  obtain ⟨x, g1, ρ1, σ1, hG1, hp1, hl1, hr1, hR1, hw1⟩ := ha H enc w base spare held fuel cs hall ρ σ hG
  obtain ⟨y, g2, ρ2, σ2, hG2, hp2, hl2, hr2, hR2, hw2⟩ := hb H enc w base spare held fuel cs hall ρ1 σ1 hG1
  refine ⟨(x, y), g1 ++ g2, ρ2, σ2, hG2, hp1.trans hp2, hl1.trans hl2, ?_, ⟨g1, g2, rfl, a.mono hR1 (.pre hp2), hR2⟩, hw1, hw2⟩
  rw [List.take_add, List.drop_drop]
  exact (hr1.imp fun _ _ h => h.mono hl2).append hr2
theorem opens_struct {P : Program} {t : TypeId} {fs : Array Field} {n : Nat} {α : Type} {d : Ek α} {wf : α → Prop} (ht : P.underlying t = some (.struct fs)) (hc : P.cellsOf t = n) (hn : d.z = n) (hp : Part P fs 0 n d wf) : Opens P t d wf := by
  refine ⟨by rw [hc, hn], fun H enc w base spare held fuel cs x h ρ σ hG => ?_⟩
  obtain ⟨xs, m, rfl, _, hl, hxl, hall⟩ := DataW.trod_struct ht h
  have := hp H enc w base spare held m cs (fun i f hf => by
    rw [hall i f hf, List.getElem?_eq_getElem (by rw [hxl]; exact (Array.getElem?_eq_some_iff.1 hf).1)]
    exact ⟨_, rfl⟩) ρ σ hG
  rw [List.drop_zero, List.take_of_length_le (by omega)] at this
  exact this
theorem opens_iso {P : Program} {t : TypeId} {α β : Type} {d : Ek α} {wf : α → Prop} (f : β → α) (g : α → β) (hfg : ∀ a, f (g a) = a) (h : Opens P t d wf) : Opens P t (Ek.iso d f) (fun b => wf (f b)) :=
  ⟨h.1, fun H enc w base spare held fuel cs x hx ρ σ hG => by
    obtain ⟨a, gs, ρ', σ', h1, h2, h3, h4, h5, h6⟩ := h.2 H enc w base spare held fuel cs x hx ρ σ hG
    exact ⟨g a, gs, ρ', σ', h1, h2, h3, h4, show d.R σ' (f (g a)) gs by rw [hfg]; exact h5, show wf (f (g a)) by rw [hfg]; exact h6⟩⟩
theorem opens_mono {P : Program} {t : TypeId} {α : Type} {d : Ek α} {wf wf' : α → Prop} (h : Opens P t d wf) (hw : ∀ a, wf a → wf' a) : Opens P t d wf' :=
  ⟨h.1, fun H enc w base spare held fuel cs x hx ρ σ hG => by
    obtain ⟨a, gs, ρ', σ', h1, h2, h3, h4, h5, h6⟩ := h.2 H enc w base spare held fuel cs x hx ρ σ hG
    exact ⟨a, gs, ρ', σ', h1, h2, h3, h4, h5, hw a h6⟩⟩
theorem Ret.row {P : Program} {f : Nat} {args : List GV} {τ : St} (h : Ret P f args σ (.bool true) τ) (hG : Good w ρ σ w) {us : List Value} (ha : All2 (vRel ρ) args us) : Calls P f us.toArray w fun e w' => e = .returned (.bool true) ∧ Below w.heap.size w w' :=
  (h.2.2 w ρ w us hG ha).mono fun e w' he => by
    cases e with
    | returned u =>
      obtain ⟨ρ', _, hv, hG', _⟩ := he
      exact ⟨by rw [vRel_bool hv], hG'.below⟩
    | panicked _ => exact he.elim
    | outgrown => exact he.elim
end opens
end Go.Proofs.Ytopannfdcikgiaa.Sy
