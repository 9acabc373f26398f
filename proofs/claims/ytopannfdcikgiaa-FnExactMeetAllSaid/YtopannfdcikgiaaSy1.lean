/- A plain picture of memory: numbered blocks of plain cells; how it stands to the machine's memory. -/
import Derived.Laws.AppendOwn
import Derived.Laws.CopyRow
import Derived.Orders
import Derived.Below
import Derived.Tactics
namespace Go.Proofs.Ytopannfdcikgiaa.Sy
open Go Go.RowKit

/-- Two lists, element by element. -/
inductive All2 {α β : Type} (R : α → β → Prop) : List α → List β → Prop
  | nil : All2 R [] []
  | cons {a : α} {b : β} {as : List α} {bs : List β} : R a b → All2 R as bs → All2 R (a :: as) (b :: bs)
namespace All2
variable {α β : Type} {R S : α → β → Prop}
theorem length {as : List α} {bs : List β} (h : All2 R as bs) : as.length = bs.length := by
  induction h with
  | nil => rfl
  | cons _ _ ih => simp [ih]
theorem imp {as : List α} {bs : List β} (h : All2 R as bs) (f : ∀ a b, R a b → S a b) : All2 S as bs := by
  induction h with
  | nil => exact .nil
  | cons h _ ih => exact .cons (f _ _ h) ih
theorem imp_mem {as : List α} {bs : List β} (h : All2 R as bs) (f : ∀ a b, a ∈ as → R a b → S a b) : All2 S as bs := by
  induction h with
  | nil => exact .nil
  | cons h _ ih => exact .cons (f _ _ (List.mem_cons_self) h) (ih fun a b ha => f a b (List.mem_cons_of_mem _ ha))
theorem get {as : List α} {bs : List β} (h : All2 R as bs) : ∀ {j : Nat} {a : α}, as[j]? = some a → ∃ b, bs[j]? = some b ∧ R a b := by
  induction h with
  | nil => intro j a ha; simp at ha
  | cons h _ ih =>
    intro j a ha
    cases j with
    | zero => simp at ha; subst ha; exact ⟨_, rfl, h⟩
    | succ j => exact ih (by simpa using ha)
theorem get' {as : List α} {bs : List β} (h : All2 R as bs) : ∀ {j : Nat} {b : β}, bs[j]? = some b → ∃ a, as[j]? = some a ∧ R a b := by
  induction h with
  | nil => intro j a ha; simp at ha
  | cons h _ ih =>
    intro j a ha
    cases j with
    | zero => simp at ha; subst ha; exact ⟨_, rfl, h⟩
    | succ j => exact ih (by simpa using ha)
theorem append {as as' : List α} {bs bs' : List β} (h : All2 R as bs) (h' : All2 R as' bs') : All2 R (as ++ as') (bs ++ bs') := by
  induction h with
  | nil => exact h'
  | cons h _ ih => exact .cons h ih
theorem take {as : List α} {bs : List β} (h : All2 R as bs) : ∀ n, All2 R (as.take n) (bs.take n) := by
  induction h with
  | nil => intro n; simp; exact .nil
  | cons h _ ih => intro n; cases n with
    | zero => exact .nil
    | succ n => exact .cons h (ih n)
theorem drop {as : List α} {bs : List β} (h : All2 R as bs) : ∀ n, All2 R (as.drop n) (bs.drop n) := by
  induction h with
  | nil => intro n; simp; exact .nil
  | cons h t ih => intro n; cases n with
    | zero => exact .cons h t
    | succ n => exact ih n
theorem set {as : List α} {bs : List β} (h : All2 R as bs) : ∀ (n : Nat) {a : α} {b : β}, R a b → All2 R (as.set n a) (bs.set n b) := by
  induction h with
  | nil => intro n a b _; simp; exact .nil
  | cons h t ih => intro n a b hr; cases n with
    | zero => exact .cons hr t
    | succ n => exact .cons h (ih n hr)
theorem of_get {as : List α} : ∀ {bs : List β}, as.length = bs.length → (∀ (j : Nat) (a : α) (b : β), as[j]? = some a → bs[j]? = some b → R a b) → All2 R as bs := by
  induction as with
  | nil => intro bs hl _; cases bs with | nil => exact .nil | cons b bs => simp at hl
  | cons a as ih =>
    intro bs hl h
    cases bs with
    | nil => simp at hl
    | cons b bs => exact .cons (h 0 a b rfl rfl) (ih (by simpa using hl) fun (j : Nat) a' b' ha hb => h (j + 1) a' b' (by simpa using ha) (by simpa using hb))
theorem mem {as : List α} {bs : List β} (h : All2 R as bs) {a : α} (ha : a ∈ as) : ∃ b, b ∈ bs ∧ R a b := by
  obtain ⟨j, hj⟩ := List.getElem?_of_mem ha
  obtain ⟨b, hb, hr⟩ := h.get hj
  exact ⟨b, List.mem_of_getElem? hb, hr⟩
theorem mem' {as : List α} {bs : List β} (h : All2 R as bs) {b : β} (hb : b ∈ bs) : ∃ a, a ∈ as ∧ R a b := by
  obtain ⟨j, hj⟩ := List.getElem?_of_mem hb
  obtain ⟨a, ha, hr⟩ := h.get' hj
  exact ⟨a, List.mem_of_getElem? ha, hr⟩
end All2

/-- A plain value; a block is a number. -/
inductive GV where
  | int (k : IntKind) (n : Int)
  | bool (b : Bool)
  | str (s : ByteArray)
  | nilS
  | emp
  | sl (g off len : Nat)
  | nilP
  | ptr (g off : Nat)
  | fn (f : Nat) (caps : List (Nat × Nat))
  | mp (g : Nat)
  | agg (cs : List GV)
  | tup (vs : List GV)
/-- Where a block lies: its first cell, how many cells the machine's block has, an element's cells, is it the call's own. -/
structure Loc where
  a : Addr
  tot : Nat
  z : Nat
  own : Bool
abbrev Rho := Nat → Option Loc

def sRel (ρ : Rho) : GV → Value → Prop
  | .int k n, v => v = .int k n
  | .bool b, v => v = .bool b
  | .str s, v => v = .string s
  | .nilS, v => v = .slice none 0 0
  | .emp, v => ∃ a cap, v = .slice a 0 cap
  | .nilP, v => v = .pointer none
  | .sl g off len, v => ∃ L, ρ g = some L ∧ ∃ a cap, v = .slice (some a) len cap ∧ len ≤ cap ∧ (cap = 0 ∨ (a = L.a.add off ∧ (L.own = true → L.a.off + off + cap * L.z = L.tot)))
  | .ptr g off, v => ∃ L, ρ g = some L ∧ v = .pointer (some (L.a.add off))
  | .fn f caps, v => ∃ vs : List Value, v = .func (.func f) #[] vs.toArray ∧ All2 (fun c u => ∃ L, ρ c.1 = some L ∧ u = .pointer (some (L.a.add c.2))) caps vs
  | .mp g, v => ∃ L, ρ g = some L ∧ v = .map (some L.a.block)
  | .agg _, _ => False
  | .tup _, _ => False
def cRel (ρ : Rho) : GV → Value → Prop
  | .agg cs, v => ∃ vs : List Value, v = .agg vs.toArray ∧ All2 (sRel ρ) cs vs
  | x, v => sRel ρ x v
def vRel (ρ : Rho) : GV → Value → Prop
  | .tup xs, v => ∃ vs : List Value, v = .tuple vs.toArray ∧ All2 (cRel ρ) xs vs
  | x, v => cRel ρ x v
/-- The blocks that a value names are among the first n. -/
def sLt (n : Nat) : GV → Prop
  | .sl g _ _ => g < n
  | .ptr g _ => g < n
  | .mp g => g < n
  | .fn _ caps => ∀ c ∈ caps, c.1 < n
  | .agg _ => False
  | .tup _ => False
  | _ => True
def cLt (n : Nat) : GV → Prop
  | .agg cs => ∀ c ∈ cs, sLt n c
  | x => sLt n x
def vLt (n : Nat) : GV → Prop
  | .tup vs => ∀ v ∈ vs, cLt n v
  | x => cLt n x
def Le (ρ ρ' : Rho) : Prop := ∀ g L, ρ g = some L → ρ' g = some L
theorem Le.refl (ρ : Rho) : Le ρ ρ := fun _ _ h => h
theorem Le.trans {a b c : Rho} (h : Le a b) (k : Le b c) : Le a c := fun g L hg => k g L (h g L hg)

theorem sRel.mono {ρ ρ' : Rho} (h : Le ρ ρ') {c : GV} {v : Value} (hr : sRel ρ c v) : sRel ρ' c v := by
  cases c with
  | sl g off len => obtain ⟨L, hL, r⟩ := hr; exact ⟨L, h _ _ hL, r⟩
  | ptr g off => obtain ⟨L, hL, r⟩ := hr; exact ⟨L, h _ _ hL, r⟩
  | mp g => obtain ⟨L, hL, r⟩ := hr; exact ⟨L, h _ _ hL, r⟩
  | fn f caps => obtain ⟨vs, hv, r⟩ := hr; exact ⟨vs, hv, r.imp fun _ _ ⟨L, hL, e⟩ => ⟨L, h _ _ hL, e⟩⟩
  | _ => exact hr
theorem cRel.mono {ρ ρ' : Rho} (h : Le ρ ρ') {c : GV} {v : Value} (hr : cRel ρ c v) : cRel ρ' c v := by
  cases c with
  | agg cs => obtain ⟨vs, hv, r⟩ := hr; exact ⟨vs, hv, r.imp fun _ _ hs => hs.mono h⟩
  | _ => simp only [cRel] at hr ⊢; exact sRel.mono h hr
theorem vRel.mono {ρ ρ' : Rho} (h : Le ρ ρ') {c : GV} {v : Value} (hr : vRel ρ c v) : vRel ρ' c v := by
  cases c with
  | tup cs => obtain ⟨vs, hv, r⟩ := hr; exact ⟨vs, hv, r.imp fun _ _ hs => hs.mono h⟩
  | _ => simp only [vRel] at hr ⊢; exact cRel.mono h hr
/-- Back: what names the first n blocks alone. -/
theorem sRel.back {ρ ρ' : Rho} {n : Nat} (h : ∀ g, g < n → ρ' g = ρ g) {c : GV} {v : Value} (hl : sLt n c) (hr : sRel ρ' c v) : sRel ρ c v := by
  cases c with
  | sl g off len => obtain ⟨L, hL, r⟩ := hr; exact ⟨L, (h g hl) ▸ hL, r⟩
  | ptr g off => obtain ⟨L, hL, r⟩ := hr; exact ⟨L, (h g hl) ▸ hL, r⟩
  | mp g => obtain ⟨L, hL, r⟩ := hr; exact ⟨L, (h g hl) ▸ hL, r⟩
  | fn f caps => obtain ⟨vs, hv, r⟩ := hr; exact ⟨vs, hv, r.imp_mem fun c _ hm ⟨L, hL, e⟩ => ⟨L, (h _ (hl c hm)) ▸ hL, e⟩⟩
  | _ => exact hr
theorem cRel.back {ρ ρ' : Rho} {n : Nat} (h : ∀ g, g < n → ρ' g = ρ g) {c : GV} {v : Value} (hl : cLt n c) (hr : cRel ρ' c v) : cRel ρ c v := by
  cases c with
  | agg cs => obtain ⟨vs, hv, r⟩ := hr; exact ⟨vs, hv, r.imp_mem fun c _ hm hs => hs.back h (hl c hm)⟩
  | _ => simp only [cRel, cLt] at hr hl ⊢; exact sRel.back h hl hr
theorem vRel.back {ρ ρ' : Rho} {n : Nat} (h : ∀ g, g < n → ρ' g = ρ g) {c : GV} {v : Value} (hl : vLt n c) (hr : vRel ρ' c v) : vRel ρ c v := by
  cases c with
  | tup cs => obtain ⟨vs, hv, r⟩ := hr; exact ⟨vs, hv, r.imp_mem fun c _ hm hs => hs.back h (hl c hm)⟩
  | _ => simp only [vRel, vLt] at hr hl ⊢; exact cRel.back h hl hr
theorem sRel.lt {ρ : Rho} {n : Nat} (hf : ∀ g, n ≤ g → ρ g = none) {c : GV} {v : Value} (hr : sRel ρ c v) : sLt n c := by
  have key : ∀ g L, ρ g = some L → g < n := fun g L h => by
    rcases Nat.lt_or_ge g n with h1 | h1
    · exact h1
    · rw [hf g h1] at h; cases h
  cases c with
  | sl g off len => obtain ⟨L, hL, _⟩ := hr; exact key _ _ hL
  | ptr g off => obtain ⟨L, hL, _⟩ := hr; exact key _ _ hL
  | mp g => obtain ⟨L, hL, _⟩ := hr; exact key _ _ hL
  | fn f caps => obtain ⟨vs, _, r⟩ := hr; intro c hc; obtain ⟨_, _, L, hL, _⟩ := r.mem hc; exact key _ _ hL
  | agg _ => exact hr.elim
  | tup _ => exact hr.elim
  | _ => trivial
theorem cRel.lt {ρ : Rho} {n : Nat} (hf : ∀ g, n ≤ g → ρ g = none) {c : GV} {v : Value} (hr : cRel ρ c v) : cLt n c := by
  cases c with
  | agg cs => obtain ⟨vs, _, r⟩ := hr; intro c hc; obtain ⟨_, _, hs⟩ := r.mem hc; exact hs.lt hf
  | _ => simp only [cRel, cLt] at hr ⊢; exact sRel.lt hf hr
theorem vRel.lt {ρ : Rho} {n : Nat} (hf : ∀ g, n ≤ g → ρ g = none) {c : GV} {v : Value} (hr : vRel ρ c v) : vLt n c := by
  cases c with
  | tup cs => obtain ⟨vs, _, r⟩ := hr; intro c hc; obtain ⟨_, _, hs⟩ := r.mem hc; exact hs.lt hf
  | _ => simp only [vRel, vLt] at hr ⊢; exact cRel.lt hf hr
theorem sLt.mono {n m : Nat} (h : n ≤ m) {c : GV} (hl : sLt n c) : sLt m c := by
  cases c with
  | fn f caps => exact fun c hc => Nat.lt_of_lt_of_le (hl c hc) h
  | sl _ _ _ => exact Nat.lt_of_lt_of_le hl h
  | ptr _ _ => exact Nat.lt_of_lt_of_le hl h
  | mp _ => exact Nat.lt_of_lt_of_le hl h
  | _ => exact hl
theorem cLt.mono {n m : Nat} (h : n ≤ m) {c : GV} (hl : cLt n c) : cLt m c := by
  cases c with
  | agg cs => exact fun c hc => (hl c hc).mono h
  | _ => simp only [cLt] at hl ⊢; exact sLt.mono h hl
theorem sRel.one {ρ : Rho} {c : GV} {v : Value} (hr : sRel ρ c v) : v.oneCell' = true := by
  cases c with
  | sl g off len => obtain ⟨L, hL, a, cap, rfl, _⟩ := hr; rfl
  | ptr g off => obtain ⟨L, hL, rfl⟩ := hr; rfl
  | mp g => obtain ⟨L, hL, rfl⟩ := hr; rfl
  | fn f caps => obtain ⟨vs, rfl, _⟩ := hr; rfl
  | emp => obtain ⟨a, cap, rfl⟩ := hr; rfl
  | agg _ => exact hr.elim
  | tup _ => exact hr.elim
  | _ => cases hr; rfl

/-- A block: a row of cells, or a map's entries. -/
inductive Blk where
  | row (z : Nat) (cs : List GV)
  | ice (z : Nat) (cs : List GV)
  | ro (z : Nat) (cs : List GV)
  | map (es : List (GV × GV))
def Blk.lt (n : Nat) : Blk → Prop
  | .row _ cs => ∀ c ∈ cs, sLt n c
  | .ice _ cs => ∀ c ∈ cs, sLt n c
  | .ro _ cs => ∀ c ∈ cs, sLt n c
  | .map es => ∀ e ∈ es, cLt n e.1 ∧ cLt n e.2
theorem Blk.lt.mono {n m : Nat} (h : n ≤ m) {B : Blk} (hl : B.lt n) : B.lt m := by
  cases B with
  | row ty cs => exact fun c hc => (hl c hc).mono h
  | ice z cs => exact fun c hc => (hl c hc).mono h
  | ro z cs => exact fun c hc => (hl c hc).mono h
  | map es => exact fun e he => ⟨(hl e he).1.mono h, (hl e he).2.mono h⟩
def Blk.cells : Blk → Option (List GV)
  | .row _ cs => some cs
  | .ice _ cs => some cs
  | .ro _ cs => some cs
  | .map _ => none
abbrev St := List (Option Blk)

def rowAt (ρ : Rho) (w : World) (L : Loc) (cs : List GV) : Prop :=
  ∃ cur ty, w.heap[L.a.block]? = some (.cells cur ty (0, 0)) ∧ cur.size = L.tot ∧ L.a.off + cs.length ≤ L.tot ∧ ∀ (j : Nat) (c : GV), cs[j]? = some c → ∃ v, cur[L.a.off + j]? = some v ∧ sRel ρ c v
def holds (ρ : Rho) (w : World) (L : Loc) : Blk → Prop
  | .row z cs => L.own = true ∧ L.z = z ∧ rowAt ρ w L cs
  | .ice z cs => L.own = true ∧ L.z = z ∧ rowAt ρ w L cs
  | .ro _ cs => L.own = false ∧ ∀ (j : Nat) (c : GV), cs[j]? = some c → ∃ v, w.cell? (L.a.add j) = some v ∧ sRel ρ c v
  | .map es => L.own = true ∧ ∃ entries clock, w.heap[L.a.block]? = some (.map entries clock) ∧ All2 (fun e (x : MapEntry) => cRel ρ e.1 x.key ∧ cRel ρ e.2 x.val) es entries.toList

structure Good (w0 : World) (ρ : Rho) (σ : St) (w : World) : Prop where
  below : Below w0.heap.size w0 w
  fresh : ∀ g, σ.length ≤ g → ρ g = none
  loc : ∀ g L, ρ g = some L → L.own = true → L.a.spot = none ∧ w0.heap.size ≤ L.a.block ∧ L.a.block < w.heap.size ∧ 0 < L.z
  old : ∀ g L, ρ g = some L → L.own = false → L.a.block < w0.heap.size
  closed : ∀ (g : Nat) B, σ[g]? = some (some B) → B.lt σ.length
  mem : ∀ (g : Nat) B L, σ[g]? = some (some B) → ρ g = some L → holds ρ w L B
  inj : ∀ (g g' : Nat) B B' L L', σ[g]? = some (some B) → σ[g']? = some (some B') → ρ g = some L → ρ g' = some L' → L.own = true → L'.own = true → L.a.block = L'.a.block → g = g'

/-- What no live block of ours lies in stays. -/
def Frame (ρ : Rho) (σ : St) (w : World) (ρ' : Rho) (σ' : St) (w' : World) : Prop :=
  (∀ (g : Nat) B L, σ'[g]? = some (some B) → ρ' g = some L → L.own = true → L.a.block < w.heap.size → ∃ (g0 : Nat) (B0 : Blk) (L0 : Loc), σ[g0]? = some (some B0) ∧ ρ g0 = some L0 ∧ L0.own = true ∧ L0.a.block = L.a.block) ∧
  w.heap.size ≤ w'.heap.size ∧ ∀ b, b < w.heap.size → (∀ (g : Nat) B L, σ[g]? = some (some B) → ρ g = some L → L.own = true → L.a.block ≠ b) → w'.heap[b]? = w.heap[b]?
theorem Frame.refl (ρ : Rho) (σ : St) (w : World) : Frame ρ σ w ρ σ w := ⟨fun g B L h h1 h2 _ => ⟨g, B, L, h, h1, h2, rfl⟩, Nat.le_refl _, fun _ _ _ => rfl⟩

theorem add_add (a : Addr) (m n : Nat) : (a.add m).add n = a.add (m + n) := by
  unfold Addr.add
  by_cases h : m = 0 <;> by_cases k : n = 0 <;> simp [h, k, Nat.add_assoc]
theorem add_own {a : Addr} (h : a.spot = none) (n : Nat) : a.add n = ⟨a.block, a.off + n, none⟩ := by
  unfold Addr.add
  by_cases k : n = 0
  · subst k
    obtain ⟨b, o, s⟩ := a
    simp only at h
    simp [h]
  · simp [k]
theorem add_block (a : Addr) (n : Nat) : (a.add n).block = a.block := by
  unfold Addr.add
  split <;> rfl

namespace Good
variable {w0 w : World} {ρ : Rho} {σ : St}
theorem rowCell {L : Loc} {cs : List GV} (hs : L.a.spot = none) (hm : rowAt ρ w L cs) {j : Nat} {c : GV} (hc : cs[j]? = some c) : ∃ v, w.cell? (L.a.add j) = some v ∧ sRel ρ c v := by
  obtain ⟨cur, ty, h1, _, _, h4⟩ := hm
  obtain ⟨v, hv, hr⟩ := h4 j c hc
  refine ⟨v, ?_, hr⟩
  rw [add_own hs, cell_of_row w L.a.block _ cur ty (0, 0) h1]
  exact hv
/-- A cell is read. -/
theorem cell (h : Good w0 ρ σ w) {g : Nat} {B : Blk} {cs : List GV} {L : Loc} (hB : σ[g]? = some (some B)) (hcs : B.cells = some cs) (hL : ρ g = some L) {j : Nat} {c : GV} (hc : cs[j]? = some c) : ∃ v, w.cell? (L.a.add j) = some v ∧ sRel ρ c v := by
  have hm := h.mem g _ L hB hL
  cases B with
  | map es => cases hcs
  | ro z cs' =>
    cases hcs
    exact hm.2 j c hc
  | ice z cs' =>
    cases hcs
    exact rowCell (h.loc g L hL hm.1).1 hm.2.2 hc
  | row ty cs' =>
    cases hcs
    exact rowCell (h.loc g L hL hm.1).1 hm.2.2 hc
theorem holds_step {w' : World} {L : Loc} {B : Blk} (hm : holds ρ w L B) (hb : w'.heap[L.a.block]? = w.heap[L.a.block]?) : holds ρ w' L B := by
  cases B with
  | row ty cs =>
    obtain ⟨ho, hz, cur, ty, h1, r⟩ := hm
    exact ⟨ho, hz, cur, ty, hb.trans h1, r⟩
  | ice z cs =>
    obtain ⟨ho, hz, cur, ty, h1, r⟩ := hm
    exact ⟨ho, hz, cur, ty, hb.trans h1, r⟩
  | ro z cs =>
    refine ⟨hm.1, fun j c hc => ?_⟩
    obtain ⟨v, hv, hr⟩ := hm.2 j c hc
    refine ⟨v, ?_, hr⟩
    rw [← hv]
    exact World.cell?_of_block (by rw [add_block]; exact hb)
  | map es =>
    obtain ⟨ho, entries, clock, h1, r⟩ := hm
    exact ⟨ho, entries, clock, hb.trans h1, r⟩
/-- A world in which our blocks, and the elder ones, are as they were. -/
theorem keep (h : Good w0 ρ σ w) {w' : World} (hos : w'.os = w.os) (htp : w'.tape = w.tape) (hou : w'.output = w.output) (hsz : w.heap.size ≤ w'.heap.size) (hk : ∀ b, b < w.heap.size → w'.heap[b]? = w.heap[b]?) : Good w0 ρ σ w' := by
  have hlt : ∀ g L, ρ g = some L → L.a.block < w.heap.size := fun g L hL => by
    cases ho : L.own with
    | true => exact (h.loc g L hL ho).2.2.1
    | false => exact Nat.lt_of_lt_of_le (h.old g L hL ho) h.below.size
  exact { below := ⟨hos.trans h.below.os, htp.trans h.below.tape, hou.trans h.below.output, Nat.le_trans h.below.size hsz, fun k hkk => (hk k (Nat.lt_of_lt_of_le hkk h.below.size)).trans (h.below.block k hkk)⟩
          fresh := h.fresh
          loc := fun g L hL ho => ⟨(h.loc g L hL ho).1, (h.loc g L hL ho).2.1, Nat.lt_of_lt_of_le (h.loc g L hL ho).2.2.1 hsz, (h.loc g L hL ho).2.2.2⟩
          old := h.old
          closed := h.closed
          mem := fun g B L hB hL => holds_step (h.mem g B L hB hL) (hk _ (hlt g L hL))
          inj := h.inj }
theorem drew (h : Good w0 ρ σ w) : Good w0 ρ σ w.drew := h.keep rfl rfl rfl (Nat.le_refl _) (fun _ _ => rfl)
/-- More is mapped, nothing is told of it. -/
theorem le_of_sub {ρ' : Rho} {n : Nat} (hf : ∀ g, n ≤ g → ρ g = none) (hs : ∀ g, g < n → ρ' g = ρ g) : Le ρ ρ' := fun g L hg => by
  rcases Nat.lt_or_ge g n with h1 | h1
  · rw [hs g h1]; exact hg
  · rw [hf g h1] at hg; cases hg
theorem rowAt_mono {ρ' : Rho} (hl : Le ρ ρ') {L : Loc} {cs : List GV} (hm : rowAt ρ w L cs) : rowAt ρ' w L cs := by
  obtain ⟨cur, ty, h1, h2, h3, h4⟩ := hm
  exact ⟨cur, ty, h1, h2, h3, fun j c hc => by obtain ⟨v, hv, hr⟩ := h4 j c hc; exact ⟨v, hv, hr.mono hl⟩⟩
theorem holds_mono {ρ' : Rho} (hl : Le ρ ρ') {L : Loc} {B : Blk} (hm : holds ρ w L B) : holds ρ' w L B := by
  cases B with
  | row ty cs => exact ⟨hm.1, hm.2.1, rowAt_mono hl hm.2.2⟩
  | ice z cs => exact ⟨hm.1, hm.2.1, rowAt_mono hl hm.2.2⟩
  | ro z cs =>
    refine ⟨hm.1, fun j c hc => ?_⟩
    obtain ⟨v, hv, hr⟩ := hm.2 j c hc
    exact ⟨v, hv, hr.mono hl⟩
  | map es =>
    obtain ⟨ho, entries, clock, h1, r⟩ := hm
    exact ⟨ho, entries, clock, h1, r.imp fun _ _ hh => ⟨hh.1.mono hl, hh.2.mono hl⟩⟩
/-- A new block. -/
def put (ρ : Rho) (n : Nat) (L : Loc) : Rho := fun g => if g = n then some L else ρ g
theorem put_le {n : Nat} {L : Loc} (hf : ρ n = none) : Le ρ (put ρ n L) := fun g M hg => by
  unfold put
  split
  · rename_i e; subst e; rw [hf] at hg; cases hg
  · exact hg
theorem put_sub {n : Nat} {L : Loc} : ∀ g, g < n → put ρ n L g = ρ g := fun g hg => by
  unfold put
  rw [if_neg (by omega)]
theorem alloc (h : Good w0 ρ σ w) {ty z : Nat} {cs : List GV} {vs : Array Value} (hz : 0 < z) (hcs : ∀ (j : Nat) (c : GV), cs[j]? = some c → ∃ v, vs[j]? = some v ∧ sRel ρ c v) (hlen : cs.length ≤ vs.size) :
    Good w0 (put ρ σ.length ⟨⟨w.heap.size, 0, none⟩, vs.size, z, true⟩) (σ ++ [some (.row z cs)]) (w.alloc (.cells vs ty)) := by
  have h' := h.keep (w' := w.alloc (.cells vs ty)) rfl rfl rfl (by simp) (fun b hb => Below.heap_alloc w _ b hb)
  have hle : Le ρ (put ρ σ.length ⟨⟨w.heap.size, 0, none⟩, vs.size, z, true⟩) := put_le (h.fresh _ (Nat.le_refl _))
  have hpg : ∀ g L, put ρ σ.length ⟨⟨w.heap.size, 0, none⟩, vs.size, z, true⟩ g = some L → (g = σ.length ∧ L = ⟨⟨w.heap.size, 0, none⟩, vs.size, z, true⟩) ∨ (g < σ.length ∧ ρ g = some L) := by
    intro g L hg
    unfold put at hg
    split at hg
    · rename_i e; exact .inl ⟨e, by injection hg with hg; exact hg.symm⟩
    · refine .inr ⟨?_, hg⟩
      rcases Nat.lt_or_ge g σ.length with h1 | h1
      · exact h1
      · rw [h.fresh g h1] at hg; cases hg
  have hsg : ∀ (g : Nat) B, (σ ++ [some (.row z cs)])[g]? = some (some B) → (g < σ.length ∧ σ[g]? = some (some B)) ∨ (g = σ.length ∧ B = .row z cs) := by
    intro g B hB
    rcases Nat.lt_or_ge g σ.length with h1 | h1
    · rw [List.getElem?_append_left h1] at hB; exact .inl ⟨h1, hB⟩
    · rw [List.getElem?_append_right h1] at hB
      cases hd : g - σ.length with
      | zero => rw [hd] at hB; simp at hB; exact .inr ⟨by omega, hB.symm⟩
      | succ n => rw [hd] at hB; simp at hB
  have hlt : ∀ c ∈ cs, sLt σ.length c := fun c hc => by
    obtain ⟨j, hj⟩ := List.getElem?_of_mem hc
    obtain ⟨v, _, hr⟩ := hcs j c hj
    exact hr.lt h.fresh
  have hblt : ∀ g L, ρ g = some L → L.own = true → L.a.block ≠ w.heap.size := fun g L hL ho => by have := (h.loc g L hL ho).2.2.1; omega
  exact { below := h'.below
          fresh := fun g hg => by
            simp only [List.length_append, List.length_cons, List.length_nil] at hg
            unfold put
            rw [if_neg (by omega)]
            exact h.fresh g (by omega)
          loc := fun g L hL ho => by
            rcases hpg g L hL with ⟨rfl, rfl⟩ | ⟨_, hL⟩
            · exact ⟨rfl, h.below.size, by simp, hz⟩
            · exact h'.loc g L hL ho
          old := fun g L hL ho => by
            rcases hpg g L hL with ⟨rfl, rfl⟩ | ⟨_, hL⟩
            · cases ho
            · exact h'.old g L hL ho
          closed := fun g B hB => by
            simp only [List.length_append, List.length_cons, List.length_nil]
            rcases hsg g B hB with ⟨_, hB⟩ | ⟨_, rfl⟩
            · exact (h.closed g B hB).mono (by omega)
            · exact fun c hc => (hlt c hc).mono (by omega)
          mem := fun g B L hB hL => by
            rcases hsg g B hB with ⟨hg, hB⟩ | ⟨rfl, rfl⟩
            · rcases hpg g L hL with ⟨rfl, _⟩ | ⟨_, hL⟩
              · omega
              · exact holds_mono hle (h'.mem g B L hB hL)
            · rcases hpg _ L hL with ⟨_, rfl⟩ | ⟨hg, _⟩
              · refine ⟨rfl, rfl, vs, ty, heap_alloc_new w _, rfl, by simpa using hlen, fun j c hc => ?_⟩
                obtain ⟨v, hv, hr⟩ := hcs j c hc
                exact ⟨v, by simpa using hv, hr.mono hle⟩
              · omega
          inj := fun g g' B B' L L' hB hB' hL hL' ho ho' he => by
            rcases hsg g B hB with ⟨hg, hB⟩ | ⟨rfl, rfl⟩ <;> rcases hsg g' B' hB' with ⟨hg', hB'⟩ | ⟨rfl, rfl⟩
            · rcases hpg g L hL with ⟨rfl, _⟩ | ⟨_, hL⟩
              · omega
              · rcases hpg g' L' hL' with ⟨rfl, _⟩ | ⟨_, hL'⟩
                · omega
                · exact h.inj g g' B B' L L' hB hB' hL hL' ho ho' he
            · rcases hpg g L hL with ⟨rfl, _⟩ | ⟨_, hL⟩
              · omega
              · rcases hpg _ L' hL' with ⟨_, rfl⟩ | ⟨hg', _⟩
                · exact absurd he (hblt g L hL ho)
                · omega
            · rcases hpg g' L' hL' with ⟨rfl, _⟩ | ⟨_, hL'⟩
              · omega
              · rcases hpg _ L hL with ⟨_, rfl⟩ | ⟨hg, _⟩
                · exact absurd he.symm (hblt g' L' hL' ho')
                · omega
            · rfl }
end Good
end Go.Proofs.Ytopannfdcikgiaa.Sy
