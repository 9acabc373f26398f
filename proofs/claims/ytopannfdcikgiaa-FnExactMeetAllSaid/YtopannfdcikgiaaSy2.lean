/- The plain picture of memory: a block is let go, written, taken up again, grown. -/
import Derived.Test.YtopannfdcikgiaaSy1
namespace Go.Proofs.Ytopannfdcikgiaa.Sy
open Go Go.RowKit
namespace Good
variable {w0 w : World} {ρ : Rho} {σ : St}
theorem set_some {g g' : Nat} {x : Option Blk} {B : Blk} (h : (σ.set g x)[g']? = some (some B)) : (g' = g ∧ x = some B ∧ g < σ.length) ∨ (g' ≠ g ∧ σ[g']? = some (some B)) := by
  rw [List.getElem?_set] at h
  split at h
  · rename_i e
    subst e
    split at h
    · rename_i hl; exact .inl ⟨rfl, by simpa using h, hl⟩
    · cases h
  · rename_i e; exact .inr ⟨fun he => e he.symm, h⟩
/-- A block is let go. -/
theorem kill (h : Good w0 ρ σ w) (g : Nat) : Good w0 ρ (σ.set g none) w :=
  have key : ∀ (g' : Nat) B, (σ.set g none)[g']? = some (some B) → σ[g']? = some (some B) := fun g' B hB => by
    rcases set_some hB with ⟨_, hx, _⟩ | ⟨_, hB⟩
    · cases hx
    · exact hB
  { below := h.below
    fresh := fun g' hg => h.fresh g' (by simpa using hg)
    loc := h.loc
    old := h.old
    closed := fun g' B hB => by simpa using h.closed g' B (key g' B hB)
    mem := fun g' B L hB hL => h.mem g' B L (key g' B hB) hL
    inj := fun g' g'' B B' L L' hB hB' => h.inj g' g'' B B' L L' (key _ _ hB) (key _ _ hB') }
/-- A block in which no live one of ours lies is written. -/
theorem touch (h : Good w0 ρ σ w) {w' : World} {b : Nat} (hb : w0.heap.size ≤ b) (hno : ∀ (g : Nat) B L, σ[g]? = some (some B) → ρ g = some L → L.own = true → L.a.block ≠ b)
    (hos : w'.os = w.os) (htp : w'.tape = w.tape) (hou : w'.output = w.output) (hsz : w'.heap.size = w.heap.size) (hk : ∀ k, k ≠ b → w'.heap[k]? = w.heap[k]?) : Good w0 ρ σ w' :=
  { below := ⟨hos.trans h.below.os, htp.trans h.below.tape, hou.trans h.below.output, by rw [hsz]; exact h.below.size, fun k hkk => (hk k (by omega)).trans (h.below.block k hkk)⟩
    fresh := h.fresh
    loc := fun g L hL ho => by rw [hsz]; exact h.loc g L hL ho
    old := h.old
    closed := h.closed
    mem := fun g B L hB hL => holds_step (h.mem g B L hB hL) (hk _ (by
      cases ho : L.own with
      | true => exact hno g B L hB hL ho
      | false => have := h.old g L hL ho; omega))
    inj := h.inj }
/-- A block that was let go is taken up again. -/
theorem revive (h : Good w0 ρ σ w) {g : Nat} {B : Blk} {L : Loc} (hL : ρ g = some L) (hlt : B.lt σ.length) (hm : holds ρ w L B)
    (hno : ∀ (g' : Nat) B' L', g' ≠ g → σ[g']? = some (some B') → ρ g' = some L' → L'.own = true → L.own = true → L'.a.block ≠ L.a.block) : Good w0 ρ (σ.set g (some B)) w :=
  { below := h.below
    fresh := fun g' hg => h.fresh g' (by simpa using hg)
    loc := h.loc
    old := h.old
    closed := fun g' B' hB => by
      rw [List.length_set]
      rcases set_some hB with ⟨_, hx, _⟩ | ⟨_, hB⟩
      · injection hx with hx; subst hx; exact hlt
      · exact h.closed g' B' hB
    mem := fun g' B' L' hB hL' => by
      rcases set_some hB with ⟨rfl, hx, _⟩ | ⟨_, hB⟩
      · injection hx with hx; subst hx
        rw [hL] at hL'; injection hL' with hL'; subst hL'
        exact hm
      · exact h.mem g' B' L' hB hL'
    inj := fun g' g'' B' B'' L' L'' hB hB' hL' hL'' ho ho' he => by
      rcases set_some hB with ⟨e, hx, _⟩ | ⟨hne, kB⟩ <;> rcases set_some hB' with ⟨e', hx', _⟩ | ⟨hne', kB'⟩
      · rw [e, e']
      · rw [e, hL] at hL'; injection hL' with hL'; subst hL'
        exact absurd he.symm (hno g'' B'' L'' hne' kB' hL'' ho' ho)
      · rw [e', hL] at hL''; injection hL'' with hL''; subst hL''
        exact absurd he (hno g' B' L' hne kB hL' ho ho')
      · exact h.inj g' g'' B' B'' L' L'' kB kB' hL' hL'' ho ho' he }
/-- Memory of our own in which no live block lies becomes a new one. -/
theorem adopt (h : Good w0 ρ σ w) {z : Nat} {cs : List GV} {L : Loc} (ho : L.own = true) (hloc : L.a.spot = none ∧ w0.heap.size ≤ L.a.block ∧ L.a.block < w.heap.size ∧ 0 < L.z)
    (hm : holds ρ w L (.row z cs)) (hno : ∀ (g' : Nat) B' L', σ[g']? = some (some B') → ρ g' = some L' → L'.own = true → L'.a.block ≠ L.a.block) :
    Good w0 (put ρ σ.length L) (σ ++ [some (.row z cs)]) w := by
  have hle : Le ρ (put ρ σ.length L) := put_le (h.fresh _ (Nat.le_refl _))
  have hpg : ∀ g M, put ρ σ.length L g = some M → (g = σ.length ∧ M = L) ∨ (g < σ.length ∧ ρ g = some M) := by
    intro g M hg
    unfold put at hg
    split at hg
    · rename_i e; exact .inl ⟨e, by injection hg with hg; exact hg.symm⟩
    · refine .inr ⟨?_, hg⟩
      rcases Nat.lt_or_ge g σ.length with h1 | h1
      · exact h1
      · rw [h.fresh g h1] at hg; cases hg
  have hsg : ∀ (g : Nat) B, (σ ++ [some (.row z cs)])[g]? = some (some B) → (g < σ.length ∧ σ[g]? = some (some B)) ∨ (g = σ.length ∧ B = .row z cs) := by
    intro g B hB
    rcases Nat.lt_or_ge g σ.length with h1 | h1
    · rw [List.getElem?_append_left h1] at hB; exact .inl ⟨h1, hB⟩
    · rw [List.getElem?_append_right h1] at hB
      cases hd : g - σ.length with
      | zero => rw [hd] at hB; simp at hB; exact .inr ⟨by omega, hB.symm⟩
      | succ n => rw [hd] at hB; simp at hB
  have hlt : ∀ c ∈ cs, sLt σ.length c := fun c hc => by
    obtain ⟨j, hj⟩ := List.getElem?_of_mem hc
    obtain ⟨_, _, _, _, _, _, _, h4⟩ := hm
    obtain ⟨v, _, hr⟩ := h4 j c hj
    exact hr.lt h.fresh
  exact { below := h.below
          fresh := fun g hg => by
            simp only [List.length_append, List.length_cons, List.length_nil] at hg
            unfold put
            rw [if_neg (by omega)]
            exact h.fresh g (by omega)
          loc := fun g M hM hom => by
            rcases hpg g M hM with ⟨rfl, rfl⟩ | ⟨_, hM⟩
            · exact hloc
            · exact h.loc g M hM hom
          old := fun g M hM hom => by
            rcases hpg g M hM with ⟨rfl, rfl⟩ | ⟨_, hM⟩
            · rw [ho] at hom; cases hom
            · exact h.old g M hM hom
          closed := fun g B hB => by
            simp only [List.length_append, List.length_cons, List.length_nil]
            rcases hsg g B hB with ⟨_, hB⟩ | ⟨_, rfl⟩
            · exact (h.closed g B hB).mono (by omega)
            · exact fun c hc => (hlt c hc).mono (by omega)
          mem := fun g B M hB hM => by
            rcases hsg g B hB with ⟨hg, hB⟩ | ⟨rfl, rfl⟩
            · rcases hpg g M hM with ⟨rfl, _⟩ | ⟨_, hM⟩
              · omega
              · exact holds_mono hle (h.mem g B M hB hM)
            · rcases hpg _ M hM with ⟨_, rfl⟩ | ⟨hg, _⟩
              · exact holds_mono hle hm
              · omega
          inj := fun g g' B B' M M' hB hB' hM hM' hom hom' he => by
            rcases hsg g B hB with ⟨hg, hB⟩ | ⟨rfl, rfl⟩ <;> rcases hsg g' B' hB' with ⟨hg', hB'⟩ | ⟨rfl, rfl⟩
            · rcases hpg g M hM with ⟨rfl, _⟩ | ⟨_, hM⟩
              · omega
              · rcases hpg g' M' hM' with ⟨rfl, _⟩ | ⟨_, hM'⟩
                · omega
                · exact h.inj g g' B B' M M' hB hB' hM hM' hom hom' he
            · rcases hpg g M hM with ⟨rfl, _⟩ | ⟨_, kM⟩
              · omega
              · rcases hpg _ M' hM' with ⟨_, e⟩ | ⟨hg', _⟩
                · rw [e] at he; exact absurd he (hno g B M hB kM hom)
                · omega
            · rcases hpg g' M' hM' with ⟨rfl, _⟩ | ⟨_, kM'⟩
              · omega
              · rcases hpg _ M hM with ⟨_, e⟩ | ⟨hg, _⟩
                · rw [e] at he; exact absurd he.symm (hno g' B' M' hB' kM' hom')
                · omega
            · rfl }
/-- A row of our own is written. -/
theorem write (h : Good w0 ρ σ w) {g z ty : Nat} {cs cs' : List GV} {L : Loc} (hB : σ[g]? = some (some (.row z cs))) (hL : ρ g = some L) (ho : L.own = true) {cur cur' : Array Value}
    (hcur : w.heap[L.a.block]? = some (.cells cur ty (0, 0))) (hs : cur'.size = cur.size) (hl : L.a.off + cs'.length ≤ cur.size) (hc : ∀ (j : Nat) (c : GV), cs'[j]? = some c → ∃ v, cur'[L.a.off + j]? = some v ∧ sRel ρ c v) :
    Good w0 ρ (σ.set g (some (.row z cs'))) (w.setRow L.a.block cur') := by
  have hno : ∀ (g' : Nat) B' L', g' ≠ g → σ[g']? = some (some B') → ρ g' = some L' → L'.own = true → L'.a.block ≠ L.a.block := fun g' B' L' hne hB' hL' ho' he => hne (h.inj g' g B' _ L' L hB' hB hL' hL ho' ho he)
  have k := (h.kill g).touch (w' := w.setRow L.a.block cur') (b := L.a.block) (h.loc g L hL ho).2.1 (fun g' B' L' hB' hL' ho' => by
    rcases set_some hB' with ⟨_, hx, _⟩ | ⟨hne, hB'⟩
    · cases hx
    · exact hno g' B' L' hne hB' hL' ho') rfl rfl rfl (by simp) (fun k hk => setRow_other w _ _ _ hk)
  have hz : L.z = z := (h.mem g _ L hB hL).2.1
  have htot : cur.size = L.tot := by
    obtain ⟨_, _, cur2, ty2, h1, h2, _⟩ := h.mem g _ L hB hL
    rw [hcur] at h1; injection h1 with h1; injection h1 with h1 _ _; subst h1; exact h2
  have r := k.revive (g := g) (B := .row z cs') hL (fun c hcm => by
    obtain ⟨j, hj⟩ := List.getElem?_of_mem hcm
    obtain ⟨v, _, hr⟩ := hc j c hj
    have := hr.lt h.fresh
    simpa using this) ⟨ho, hz, cur', ty, setRow_heap w _ cur cur' ty (0, 0) hcur, by omega, by omega, hc⟩
    (fun g' B' L' hne hB' hL' ho' _ => by
      rcases set_some hB' with ⟨_, hx, _⟩ | ⟨_, hB'⟩
      · cases hx
      · exact hno g' B' L' hne hB' hL' ho')
  rwa [List.set_set] at r
/-- A row of our own is grown in its place, from a cell of it on: the old one is let go. -/
theorem regrow (h : Good w0 ρ σ w) {g z ty : Nat} {cs cs' : List GV} {L : Loc} (hB : σ[g]? = some (some (.row z cs))) (hL : ρ g = some L) (ho : L.own = true) {cur cur' : Array Value} {off : Nat}
    (hcur : w.heap[L.a.block]? = some (.cells cur ty (0, 0))) (hs : cur'.size = cur.size) (hl : L.a.off + off + cs'.length ≤ cur.size) (hc : ∀ (j : Nat) (c : GV), cs'[j]? = some c → ∃ v, cur'[L.a.off + off + j]? = some v ∧ sRel ρ c v) :
    Good w0 (put ρ σ.length ⟨⟨L.a.block, L.a.off + off, none⟩, L.tot, L.z, true⟩) (σ.set g none ++ [some (.row z cs')]) (w.setRow L.a.block cur') := by
  have hno : ∀ (g' : Nat) B' L', g' ≠ g → σ[g']? = some (some B') → ρ g' = some L' → L'.own = true → L'.a.block ≠ L.a.block := fun g' B' L' hne hB' hL' ho' he => hne (h.inj g' g B' _ L' L hB' hB hL' hL ho' ho he)
  have hno2 : ∀ (g' : Nat) B' L', (σ.set g none)[g']? = some (some B') → ρ g' = some L' → L'.own = true → L'.a.block ≠ L.a.block := fun g' B' L' hB' hL' ho' => by
    rcases set_some hB' with ⟨_, hx, _⟩ | ⟨hne, hB'⟩
    · cases hx
    · exact hno g' B' L' hne hB' hL' ho'
  have hloc := h.loc g L hL ho
  have k := (h.kill g).touch (w' := w.setRow L.a.block cur') (b := L.a.block) hloc.2.1 hno2 rfl rfl rfl (by simp) (fun k hk => setRow_other w _ _ _ hk)
  have hz : L.z = z := (h.mem g _ L hB hL).2.1
  have htot : cur.size = L.tot := by
    obtain ⟨_, _, cur2, ty2, h1, h2, _⟩ := h.mem g _ L hB hL
    rw [hcur] at h1; injection h1 with h1; injection h1 with h1 _ _; subst h1; exact h2
  have r := k.adopt (z := z) (cs := cs') (L := ⟨⟨L.a.block, L.a.off + off, none⟩, L.tot, L.z, true⟩) rfl ⟨rfl, hloc.2.1, by simpa using hloc.2.2.1, hloc.2.2.2⟩
    ⟨rfl, hz, cur', ty, setRow_heap w _ cur cur' ty (0, 0) hcur, by simp only; omega, by simp only; omega, hc⟩ hno2
  simpa using r
/-- The same blocks; of a row of our own it may differ whether it is written. -/
def tagEq : Option Blk → Option Blk → Prop
  | some (.row z cs), some (.ice z' cs') => z = z' ∧ cs = cs'
  | some (.ice z cs), some (.row z' cs') => z = z' ∧ cs = cs'
  | x, y => x = y
theorem tagEq.refl (x : Option Blk) : tagEq x x := by
  cases x with
  | none => rfl
  | some B => cases B <;> rfl
theorem tagEq.some {x : Option Blk} {B : Blk} (h : tagEq x (some B)) : ∃ B', x = some B' ∧ (∀ (ρ : Rho) (w : World) L, holds ρ w L B' ↔ holds ρ w L B) ∧ ∀ n, B'.lt n ↔ B.lt n := by
  cases x with
  | none => cases B <;> cases h
  | some B' =>
    refine ⟨B', rfl, ?_⟩
    cases B' <;> cases B <;> first | (cases h; done) | (cases h; exact ⟨fun _ _ _ => Iff.rfl, fun _ => Iff.rfl⟩) | (obtain ⟨rfl, rfl⟩ := h; exact ⟨fun _ _ _ => Iff.rfl, fun _ => Iff.rfl⟩)
def tagged (σ τ : St) : Prop := σ.length = τ.length ∧ ∀ (g : Nat), tagEq ((σ[g]?).join) ((τ[g]?).join)
theorem join_some {σ : St} {g : Nat} {B : Blk} : (σ[g]?).join = some B ↔ σ[g]? = some (some B) := by
  cases σ[g]? with
  | none => simp
  | some x => simp
theorem retag_some {σ τ : St} (h : tagged σ τ) {g : Nat} {B : Blk} (hB : τ[g]? = some (some B)) : ∃ B', σ[g]? = some (some B') ∧ (∀ (ρ : Rho) (w : World) L, holds ρ w L B' ↔ holds ρ w L B) ∧ ∀ n, B'.lt n ↔ B.lt n := by
  have h1 := h.2 g
  rw [join_some.2 hB] at h1
  obtain ⟨B', e, h2⟩ := h1.some
  exact ⟨B', join_some.1 e, h2⟩
theorem retag (h : Good w0 ρ σ w) {τ : St} (hr : tagged σ τ) : Good w0 ρ τ w :=
  { below := h.below
    fresh := fun g hg => h.fresh g (by rw [hr.1]; exact hg)
    loc := h.loc
    old := h.old
    closed := fun g B hB => by
      obtain ⟨B', h1, _, h3⟩ := retag_some hr hB
      rw [← hr.1]
      exact (h3 _).1 (h.closed g B' h1)
    mem := fun g B L hB hL => by
      obtain ⟨B', h1, h2, _⟩ := retag_some hr hB
      exact (h2 _ _ _).1 (h.mem g B' L h1 hL)
    inj := fun g g' B B' L L' hB hB' => by
      obtain ⟨B1, h1, _⟩ := retag_some hr hB
      obtain ⟨B2, h2, _⟩ := retag_some hr hB'
      exact h.inj g g' B1 B2 L L' h1 h2 }
/-- Only the first blocks are kept. -/
def cut (ρ : Rho) (n : Nat) : Rho := fun g => if g < n then ρ g else none
theorem cut_lt {ρ : Rho} {n g : Nat} (h : g < n) : cut ρ n g = ρ g := by unfold cut; rw [if_pos h]
theorem cut_le (ρ : Rho) (n : Nat) : Le (cut ρ n) ρ := fun g L h => by
  unfold cut at h
  split at h
  · exact h
  · cases h
theorem cut_some {ρ : Rho} {n g : Nat} {L : Loc} (h : cut ρ n g = some L) : g < n ∧ ρ g = some L := by
  unfold cut at h
  split at h
  · rename_i hl; exact ⟨hl, h⟩
  · cases h
theorem rowAt_back {ρ' : Rho} {n : Nat} (hs : ∀ g, g < n → ρ' g = ρ g) {L : Loc} {cs : List GV} (hlt : ∀ c ∈ cs, sLt n c) (hm : rowAt ρ' w L cs) : rowAt ρ w L cs := by
  obtain ⟨cur, ty, h1, h2, h3, h4⟩ := hm
  exact ⟨cur, ty, h1, h2, h3, fun j c hc => by obtain ⟨v, hv, hr⟩ := h4 j c hc; exact ⟨v, hv, hr.back hs (hlt c (List.mem_of_getElem? hc))⟩⟩
theorem holds_back {ρ' : Rho} {n : Nat} (hs : ∀ g, g < n → ρ' g = ρ g) {L : Loc} {B : Blk} (hlt : B.lt n) (hm : holds ρ' w L B) : holds ρ w L B := by
  cases B with
  | row z cs => exact ⟨hm.1, hm.2.1, rowAt_back hs hlt hm.2.2⟩
  | ice z cs => exact ⟨hm.1, hm.2.1, rowAt_back hs hlt hm.2.2⟩
  | ro z cs =>
    refine ⟨hm.1, fun j c hc => ?_⟩
    obtain ⟨v, hv, hr⟩ := hm.2 j c hc
    exact ⟨v, hv, hr.back hs (hlt c (List.mem_of_getElem? hc))⟩
  | map es =>
    obtain ⟨ho, entries, clock, h1, r⟩ := hm
    exact ⟨ho, entries, clock, h1, r.imp_mem fun e x he hh => ⟨hh.1.back hs (hlt e he).1, hh.2.back hs (hlt e he).2⟩⟩
/-- The first blocks alone, where they name no others. -/
theorem trunc (h : Good w0 ρ σ w) {n : Nat} (hn : n ≤ σ.length) (hc : ∀ (g : Nat) B, g < n → σ[g]? = some (some B) → B.lt n) : Good w0 (cut ρ n) (σ.take n) w :=
  have hlen : (σ.take n).length = n := by rw [List.length_take]; omega
  have key : ∀ (g : Nat) B, (σ.take n)[g]? = some (some B) → g < n ∧ σ[g]? = some (some B) := fun g B hB => by
    rcases Nat.lt_or_ge g n with h1 | h1
    · rw [List.getElem?_take_of_lt h1] at hB; exact ⟨h1, hB⟩
    · rw [List.getElem?_eq_none (by omega)] at hB; cases hB
  { below := h.below
    fresh := fun g hg => by unfold cut; rw [if_neg (by omega)]
    loc := fun g L hL => h.loc g L (cut_some hL).2
    old := fun g L hL => h.old g L (cut_some hL).2
    closed := fun g B hB => by rw [hlen]; exact hc g B (key g B hB).1 (key g B hB).2
    mem := fun g B L hB hL => holds_back (n := n) (fun k hk => (cut_lt hk).symm) (hc g B (key g B hB).1 (key g B hB).2) (h.mem g B L (key g B hB).2 (cut_some hL).2)
    inj := fun g g' B B' L L' hB hB' hL hL' => h.inj g g' B B' L L' (key g B hB).2 (key g' B' hB').2 (cut_some hL).2 (cut_some hL').2 }
end Good
/-- A step that makes at most one block, of memory that is new or that a live block of ours held. -/
theorem Frame.of {ρ ρ' : Rho} {σ σ' : St} {w w' : World} (hsz : w.heap.size ≤ w'.heap.size) (hk : ∀ b, b < w.heap.size → (∀ (g : Nat) B L, σ[g]? = some (some B) → ρ g = some L → L.own = true → L.a.block ≠ b) → w'.heap[b]? = w.heap[b]?)
    (hl : ∀ (g : Nat) B L, σ'[g]? = some (some B) → ρ' g = some L → L.own = true → L.a.block < w.heap.size → ∃ (g0 : Nat) (B0 : Blk) (L0 : Loc), σ[g0]? = some (some B0) ∧ ρ g0 = some L0 ∧ L0.own = true ∧ L0.a.block = L.a.block) : Frame ρ σ w ρ' σ' w' := ⟨hl, hsz, hk⟩
theorem put_some {ρ : Rho} {n g : Nat} {L M : Loc} (h : Good.put ρ n L g = some M) : (g = n ∧ M = L) ∨ (g ≠ n ∧ ρ g = some M) := by
  unfold Good.put at h
  split at h
  · rename_i e; exact .inl ⟨e, by injection h with h; exact h.symm⟩
  · rename_i e; exact .inr ⟨e, h⟩
theorem app_some {σ : St} {x : Option Blk} {g : Nat} {B : Blk} (h : (σ ++ [x])[g]? = some (some B)) : (g < σ.length ∧ σ[g]? = some (some B)) ∨ (g = σ.length ∧ x = some B) := by
  rcases Nat.lt_or_ge g σ.length with h1 | h1
  · rw [List.getElem?_append_left h1] at h; exact .inl ⟨h1, h⟩
  · rw [List.getElem?_append_right h1] at h
    cases hd : g - σ.length with
    | zero => rw [hd] at h; simp at h; exact .inr ⟨by omega, h⟩
    | succ n => rw [hd] at h; simp at h
theorem Frame.alloc {ρ : Rho} {σ σ1 : St} {w : World} {o : Obj} {L : Loc} {x : Option Blk} (hb : L.a.block = w.heap.size) (h1 : σ1.length = σ.length) (h2 : ∀ (g : Nat) B, σ1[g]? = some (some B) → σ[g]? = some (some B)) {w' : World} (hw : w'.heap = (w.alloc o).heap) :
    Frame ρ σ w (Good.put ρ σ.length L) (σ1 ++ [x]) w' :=
  .of (by rw [hw]; simp) (fun b hb _ => by rw [hw]; exact Below.heap_alloc w o b hb) (fun g B M hB hM ho hlt => by
    rcases put_some hM with ⟨_, rfl⟩ | ⟨hne, hM⟩
    · omega
    · rcases app_some hB with ⟨_, hB⟩ | ⟨e, _⟩
      · exact ⟨g, B, M, h2 g B hB, hM, ho, rfl⟩
      · omega)
theorem Frame.setRow {ρ : Rho} {σ : St} {w : World} {g : Nat} {B B' : Blk} {L : Loc} (hB : σ[g]? = some (some B)) (hL : ρ g = some L) (ho : L.own = true) (cur : Array Value) : Frame ρ σ w ρ (σ.set g (some B')) (w.setRow L.a.block cur) :=
  .of (by simp) (fun b _ hno => setRow_other w _ _ _ (fun e => hno g B L hB hL ho e.symm)) (fun g' B1 M hB1 hM hom _ => by
    rcases Good.set_some hB1 with ⟨rfl, _, _⟩ | ⟨_, hB1⟩
    · exact ⟨g', B, M, hB, hM, hom, rfl⟩
    · exact ⟨g', B1, M, hB1, hM, hom, rfl⟩)
theorem Frame.regrow {ρ : Rho} {σ : St} {w : World} {g : Nat} {B : Blk} {x : Option Blk} {L M : Loc} (hB : σ[g]? = some (some B)) (hL : ρ g = some L) (ho : L.own = true) (hM : M.a.block = L.a.block) (cur : Array Value) : Frame ρ σ w (Good.put ρ σ.length M) (σ.set g none ++ [x]) (w.setRow L.a.block cur) :=
  .of (by simp) (fun b _ hno => setRow_other w _ _ _ (fun e => hno g B L hB hL ho e.symm)) (fun g' B1 N hB1 hN hon _ => by
    rcases put_some hN with ⟨_, rfl⟩ | ⟨hne, hN⟩
    · exact ⟨g, B, L, hB, hL, ho, hM.symm⟩
    · rcases app_some hB1 with ⟨_, hB1⟩ | ⟨e, _⟩
      · rcases Good.set_some hB1 with ⟨_, hx, _⟩ | ⟨_, hB1⟩
        · cases hx
        · exact ⟨g', B1, N, hB1, hN, hon, rfl⟩
      · rw [List.length_set] at e; omega)
/-- Two steps. -/
theorem Frame.trans {ρ ρ' ρ'' : Rho} {σ σ' σ'' : St} {w w' w'' : World} (h : Frame ρ σ w ρ' σ' w') (k : Frame ρ' σ' w' ρ'' σ'' w'') : Frame ρ σ w ρ'' σ'' w'' :=
  .of (Nat.le_trans h.2.1 k.2.1) (fun b hb hno => (k.2.2 b (Nat.lt_of_lt_of_le hb h.2.1) (fun g B L hB hL ho he => by
    obtain ⟨g0, B0, L0, h1, h2, h3, h4⟩ := h.1 g B L hB hL ho (by omega)
    exact hno g0 B0 L0 h1 h2 h3 (by omega))).trans (h.2.2 b hb hno))
    (fun g B L hB hL ho hlt => by
      obtain ⟨g1, B1, L1, h1, h2, h3, h4⟩ := k.1 g B L hB hL ho (Nat.lt_of_lt_of_le hlt h.2.1)
      obtain ⟨g0, B0, L0, k1, k2, k3, k4⟩ := h.1 g1 B1 L1 h1 h2 h3 (by omega)
      exact ⟨g0, B0, L0, k1, k2, k3, by omega⟩)
end Go.Proofs.Ytopannfdcikgiaa.Sy
