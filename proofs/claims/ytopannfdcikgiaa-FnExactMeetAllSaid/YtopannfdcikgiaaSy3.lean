/- Plain operations over the plain picture of memory: what each one answers, and what it makes of memory. -/
import Derived.Test.YtopannfdcikgiaaSy2
import Derived.ArgAppend
import Derived.Laws.StructEq
import Derived.Laws.Rows
namespace Go.Proofs.Ytopannfdcikgiaa.Sy
open Go Go.RowKit

inductive Opd where
  | t (n : Nat)
  | k (v : GV)
inductive Sc where
  | b
  | i (k : IntKind)
  | s
inductive Ins where
  | mov (x : Opd)
  | pick (c a b : Opd)
  | new (cs : List GV)
  | box (x : Opd)
  | build (zero : List GV) (parts : List (Nat × Nat × Opd))
  | lit (z len : Nat) (zero : List GV) (parts : List (Nat × Nat × Opd))
  | ld (agg : Bool) (n : Nat) (a : Opd)
  | st (n : Nat) (a x : Opd)
  | nck (x : Opd)
  | bin (op : BinOp) (x y : Opd)
  | eqb (neg : Bool) (x y : Opd)
  | eqn (p neg : Bool) (x y : Opd)
  | eqs (neg : Bool) (ks : List Sc) (x y : Opd)
  | un (op : UnOp) (x : Opd)
  | cvi (k : IntKind) (x : Opd)
  | bts (x : Opd)
  | mkf (f : Nat) (caps : List Opd)
  | mks (z bytes : Nat) (zero : List GV) (n c : Opd)
  | cutS (x : Opd) (lo hi : Option Opd)
  | cut (z : Nat) (x : Opd) (lo hi : Option Opd)
  | fad (off : Nat) (a : Opd)
  | part (agg : Bool) (off n : Nat) (x : Opd)
  | iad (z : Nat) (x i : Opd)
  | idx (x i : Opd)
  | ext (i : Nat) (x : Opd)
  | len (str : Bool) (x : Opd)
  | app (z bytes : Nat) (zero : List GV) (s x : Opd)
  | mm (max : Bool) (x y : Opd)
  | call (f : Nat) (xs : List Opd)
  | callv (x : Opd) (xs : List Opd)

def GV.cells : GV → List GV
  | .agg cs => cs
  | .tup _ => []
  | x => [x]
def GV.bit : GV → Option Bool
  | .bool b => some b
  | _ => none
def mkv (agg : Bool) (cs : List GV) : Option GV := if agg then some (.agg cs) else cs.head?
def splice (cs : List GV) (off : Nat) (new : List GV) : List GV := cs.take off ++ new ++ cs.drop (off + new.length)
def fillG : List GV → List (Nat × Nat × GV) → Option (List GV)
  | cs, [] => some cs
  | cs, (off, size, v) :: rest => if v.cells.length = size ∧ 0 < size ∧ off + size ≤ cs.length then fillG (splice cs off v.cells) rest else none
def rdB (σ : St) (g : Nat) : Option (List GV) := match σ[g]? with
  | some (some B) => B.cells
  | _ => none
def seg (cs : List GV) (off n : Nat) : Option (List GV) := if off + n ≤ cs.length then some ((cs.drop off).take n) else none
def reps (n : Nat) (zero : List GV) : List GV := (List.replicate n zero).flatten
def shiftG (op : BinOp) (k : IntKind) (a b : Int) : Option GV :=
  if b < 0 then none else
  match op with
  | .shl => some (.int k (k.wrap (a * 2 ^ min b.toNat k.bits)))
  | .shr => some (.int k (a.fdiv (2 ^ min b.toNat k.bits)))
  | _ => none
def bitG (k : IntKind) (r : BitVec k.bits) : Option GV := some (.int k (k.wrap r.toNat))
def intG (op : BinOp) (k : IntKind) (a b : Int) : Option GV :=
  match op with
  | .add => some (.int k (k.wrap (a + b)))
  | .sub => some (.int k (k.wrap (a - b)))
  | .mul => some (.int k (k.wrap (a * b)))
  | .quo => if b = 0 then none else some (.int k (k.wrap (a.tdiv b)))
  | .rem => if b = 0 then none else some (.int k (a.tmod b))
  | .and => bitG k (BitVec.ofInt k.bits a &&& BitVec.ofInt k.bits b)
  | .or => bitG k (BitVec.ofInt k.bits a ||| BitVec.ofInt k.bits b)
  | .xor => bitG k (BitVec.ofInt k.bits a ^^^ BitVec.ofInt k.bits b)
  | .andNot => bitG k (BitVec.ofInt k.bits a &&& ~~~ BitVec.ofInt k.bits b)
  | .eql => some (.bool (a == b))
  | .neq => some (.bool (a != b))
  | .lss => some (.bool (a < b))
  | .leq => some (.bool (a ≤ b))
  | .gtr => some (.bool (a > b))
  | .geq => some (.bool (a ≥ b))
  | _ => none
def strG (op : BinOp) (a b : ByteArray) : Option GV :=
  match op with
  | .add => if a.size + b.size ≤ 9223372036854775807 then some (.str (a ++ b)) else none
  | .eql => some (.bool (a.toList == b.toList))
  | .neq => some (.bool !(a.toList == b.toList))
  | .lss => some (.bool (Op.bytesLess a.toList b.toList))
  | .leq => some (.bool (Op.bytesLess a.toList b.toList || a.toList == b.toList))
  | .gtr => some (.bool !(Op.bytesLess a.toList b.toList || a.toList == b.toList))
  | .geq => some (.bool !(Op.bytesLess a.toList b.toList))
  | _ => none
def binG (op : BinOp) : GV → GV → Option GV
  | .int k a, .int k' b => match op with
    | .shl => shiftG .shl k a b
    | .shr => shiftG .shr k a b
    | op => if k = k' then intG op k a b else none
  | .str a, .str b => strG op a b
  | _, _ => none
def nilG : Bool → GV → GV → Option Bool
  | false, .nilS, .nilS => some true
  | false, .nilS, .sl _ _ _ => some false
  | false, .sl _ _ _, .nilS => some false
  | true, .nilP, .nilP => some true
  | true, .nilP, .ptr _ _ => some false
  | true, .ptr _ _, .nilP => some false
  | _, _, _ => none
def scEq : Sc → GV → GV → Option Bool
  | .b, .bool x, .bool y => some (x == y)
  | .i k, .int k1 x, .int k2 y => if k1 = k ∧ k2 = k then some (x == y) else none
  | .s, .str x, .str y => some (x.toList == y.toList)
  | _, _, _ => none
def scsEq : List Sc → List GV → List GV → Option Bool
  | [], [], [] => some true
  | k :: ks, x :: xs, y :: ys => (scEq k x y).bind fun b => (scsEq ks xs ys).map fun c => b && c
  | _, _, _ => none
def unG : UnOp → GV → Option GV
  | .not, .bool b => some (.bool !b)
  | .neg, .int k n => some (.int k (k.wrap (0 - n)))
  | _, _ => none
def natOf : Option GV → Option Nat
  | some (.int _ n) => if 0 ≤ n then some n.toNat else none
  | _ => none
def capOf : GV → Option (Nat × Nat)
  | .ptr g off => some (g, off)
  | _ => none
def bytesOf : List GV → Option (List UInt8)
  | [] => some []
  | .int .u8 n :: r => (bytesOf r).map (UInt8.ofNat n.toNat :: ·)
  | _ => none
/-- The elements that a slice names. -/
def elems (σ : St) (z : Nat) : GV → Option (Nat × List GV)
  | .nilS => some (0, [])
  | .emp => some (0, [])
  | .sl g off len => (rdB σ g).bind fun cs => (seg cs off (len * z)).map fun r => (len, r)
  | _ => none
abbrev Env := Nat → GV
def up (env : Env) (d : Nat) (v : GV) : Env := fun n => if n = d then v else env n
def upo (env : Env) (d : Option Nat) (v : GV) : Env := match d with
  | some d => up env d v
  | none => env
def Opd.ev (env : Env) : Opd → GV
  | .t n => env n
  | .k v => v
def ptrG : GV → Option (Nat × Nat)
  | .ptr g off => some (g, off)
  | _ => none
def lenG (str : Bool) : GV → Option Int
  | .str s => if str then some s.size else none
  | .nilS => if str then none else some 0
  | .emp => if str then none else some 0
  | .sl _ _ n => if str then none else some n
  | _ => none
def aggTy : TypeDesc → Bool
  | .struct _ => true
  | .array _ _ => true
  | _ => false
def nckG : GV → Option GV
  | .ptr g off => some (.ptr g off)
  | .fn f caps => some (.fn f caps)
  | _ => none
def isSl : GV → Bool
  | .nilS => true
  | .emp => true
  | .sl _ _ _ => true
  | _ => false
def appG (z bytes : Nat) (σ : St) (s : GV) (n : Nat) (new : List GV) : Option (GV × St) :=
  if n = 0 then (if isSl s then some (s, σ) else none) else
  match s with
  | .nilS => if n * bytes ≤ 140737488355328 then some (.sl σ.length 0 n, σ ++ [some (.row z new)]) else none
  | .sl g off len => match σ[g]? with
    | some (some (.row z' cs)) =>
      if z' = z ∧ off + len * z ≤ cs.length ∧ (len + n) * bytes ≤ 140737488355328 then
        some (.sl σ.length 0 (len + n), σ.set g none ++ [some (.row z ((cs.drop off).take (len * z) ++ new))])
      else none
    | _ => none
  | _ => none
def bndG (d m : Nat) : Option GV → Option Nat
  | none => some d
  | some x => (natOf (some x)).bind fun n => if n ≤ m then some n else none
def cutG (z : Nat) (x : GV) (lo hi : Option GV) : Option GV :=
  match x with
  | .nilS => (bndG 0 0 hi).bind fun _ => (bndG 0 0 lo).bind fun _ => some .nilS
  | .emp => (bndG 0 0 hi).bind fun _ => (bndG 0 0 lo).bind fun _ => some .emp
  | .sl g off len =>
    (bndG len len hi).bind fun h => (bndG 0 h lo).bind fun l =>
    some (.sl g (off + l * z) (h - l))
  | _ => none
def zOk (σ : St) (z : Nat) : GV → Bool
  | .sl g _ _ => match σ[g]? with
    | some (some (.row z' _)) => z' == z
    | some (some (.ice z' _)) => z' == z
    | _ => false
  | _ => true
def cutSG (x : GV) (lo hi : Option GV) : Option GV :=
  match x with
  | .str s =>
    (bndG s.size s.size hi).bind fun h => (bndG 0 h lo).bind fun l =>
    some (.str (s.extract l h))
  | _ => none
def exec (env : Env) (σ : St) : Ins → Option (GV × St)
  | .mov x => some (x.ev env, σ)
  | .pick c a b => (c.ev env).bit.map fun c => (if c then a.ev env else b.ev env, σ)
  | .new cs => some (.ptr σ.length 0, σ ++ [some (.row 1 cs)])
  | .box x => some (.ptr σ.length 0, σ ++ [some (.row 1 (x.ev env).cells)])
  | .build zero parts => (fillG zero (parts.map fun p => (p.1, p.2.1, p.2.2.ev env))).map fun cs => (.agg cs, σ)
  | .lit z len zero parts => (fillG zero (parts.map fun p => (p.1, p.2.1, p.2.2.ev env))).map fun cs => (.sl σ.length 0 len, σ ++ [some (.row z cs)])
  | .ld agg n a => (ptrG (a.ev env)).bind fun p => (rdB σ p.1).bind fun cs => (seg cs p.2 n).bind fun r => (mkv agg r).map fun v => (v, σ)
  | .st n a x => (ptrG (a.ev env)).bind fun p => match σ[p.1]? with
    | some (some (.row z cs)) => if p.2 + n ≤ cs.length ∧ 0 < n ∧ (x.ev env).cells.length = n then some (.tup [], σ.set p.1 (some (.row z (splice cs p.2 (x.ev env).cells)))) else none
    | _ => none
  | .nck x => (nckG (x.ev env)).map fun v => (v, σ)
  | .bin op x y => (binG op (x.ev env) (y.ev env)).map fun v => (v, σ)
  | .eqb neg x y => (x.ev env).bit.bind fun a => (y.ev env).bit.map fun b => (.bool (neg ^^ (a == b)), σ)
  | .eqn p neg x y => (nilG p (x.ev env) (y.ev env)).map fun b => (.bool (neg ^^ b), σ)
  | .eqs neg ks x y => match x.ev env, y.ev env with
    | .agg xs, .agg ys => (scsEq ks xs ys).map fun b => (.bool (neg ^^ b), σ)
    | _, _ => none
  | .un op x => (unG op (x.ev env)).map fun v => (v, σ)
  | .cvi k x => match x.ev env with
    | .int _ n => some (.int k (k.wrap n), σ)
    | _ => none
  | .bts x => (elems σ 1 (x.ev env)).bind fun r => (bytesOf r.2).map fun bs => (.str ⟨bs.toArray⟩, σ)
  | .mkf f caps => (caps.mapM fun c => capOf (c.ev env)).map fun cs => (.fn f cs, σ)
  | .mks z bytes zero n c => (natOf (some (n.ev env))).bind fun n => (natOf (some (c.ev env))).bind fun c =>
      if n = c ∧ n * bytes ≤ 140737488355328 then some (.sl σ.length 0 n, σ ++ [some (.row z (reps n zero))]) else none
  | .cutS x lo hi => (cutSG (x.ev env) (lo.map (·.ev env)) (hi.map (·.ev env))).map fun v => (v, σ)
  | .cut z x lo hi => if zOk σ z (x.ev env) then (cutG z (x.ev env) (lo.map (·.ev env)) (hi.map (·.ev env))).map fun v => (v, σ) else none
  | .fad off a => (ptrG (a.ev env)).map fun p => (.ptr p.1 (p.2 + off), σ)
  | .part agg off n x => match x.ev env with
    | .agg cs => (seg cs off n).bind fun r => (mkv agg r).map fun v => (v, σ)
    | _ => none
  | .iad z x i => match x.ev env with
    | .sl g off len => (natOf (some (i.ev env))).bind fun i => if i < len then some (.ptr g (off + i * z), σ) else none
    | _ => none
  | .idx x i => match x.ev env with
    | .str s => (natOf (some (i.ev env))).bind fun i => (s[i]?).map fun b => (.int .u8 b.toNat, σ)
    | _ => none
  | .ext i x => match x.ev env with
    | .tup vs => match vs[i]? with
      | some v => match v with
        | .tup _ => none
        | v => some (v, σ)
      | none => none
    | _ => none
  | .len str x => (lenG str (x.ev env)).map fun n => (.int .i64 n, σ)
  | .app z bytes _ s x => match x.ev env with
    | .str b => if z = 1 then appG z bytes σ (s.ev env) b.size (b.data.toList.map fun c => .int .u8 c.toNat) else none
    | x => (elems σ z x).bind fun r => appG z bytes σ (s.ev env) r.1 r.2
  | .mm max x y => match x.ev env, y.ev env with
    | .int k a, .int _ b => some (.int k (if max then (if b > a then b else a) else (if b < a then b else a)), σ)
    | _, _ => none
  | .call _ _ => none
  | .callv _ _ => none

variable {P : Program}
def Res (P : Program) (m : Sem Value) (w0 : World) (ρ : Rho) (σ : St) (w : World) (v : GV) (σ' : St) : Prop :=
  ∃ u w' ρ', m.run P w = .ok u w' ∧ (∀ g, g < σ.length → ρ' g = ρ g) ∧ vRel ρ' v u ∧ Good w0 ρ' σ' w' ∧ Frame ρ σ w ρ' σ' w'
def callable (P : Program) (f : Nat) : Bool := match P.funcs[f]? with
  | some fn => fn.name != "runtime.NumGoroutine" && fn.body.isSome
  | none => false
/-- What a call does. -/
def Ret (P : Program) (f : Nat) (args : List GV) (σ : St) (r : GV) (σ' : St) : Prop :=
  callable P f = true ∧ σ.length ≤ σ'.length ∧ ∀ w0 ρ w (us : List Value), Good w0 ρ σ w → All2 (vRel ρ) args us →
    Calls P f us.toArray w fun
      | .returned u, w' => ∃ ρ', (∀ g, g < σ.length → ρ' g = ρ g) ∧ vRel ρ' r u ∧ Good w0 ρ' σ' w' ∧ Frame ρ σ w ρ' σ' w'
      | _, _ => False
def Step (P : Program) (env : Env) (σ : St) : Ins → GV → St → Prop
  | .call f xs, v, σ' => Ret P f (xs.map (·.ev env)) σ v σ'
  | .callv x xs, v, σ' => ∃ f caps, x.ev env = .fn f caps ∧ Ret P f (xs.map (·.ev env) ++ caps.map fun c => .ptr c.1 c.2) σ v σ'
  | i, v, σ' => exec env σ i = some (v, σ')

def OptRel (ρ : Rho) : Option GV → Option Value → Prop
  | none, none => True
  | some x, some u => vRel ρ x u
  | _, _ => False
section res
variable {w0 w : World} {ρ : Rho} {σ : St}
theorem Res.pure (hG : Good w0 ρ σ w) {m : Sem Value} {u : Value} {v : GV} (h : m.run P w = .ok u w) (hr : vRel ρ v u) : Res P m w0 ρ σ w v σ :=
  ⟨u, w, ρ, h, fun _ _ => rfl, hr, hG, Frame.refl _ _ _⟩
theorem vRel_int {k : IntKind} {n : Int} {u : Value} (h : vRel ρ (.int k n) u) : u = .int k n := h
theorem vRel_bool {b : Bool} {u : Value} (h : vRel ρ (.bool b) u) : u = .bool b := h
theorem vRel_str {s : ByteArray} {u : Value} (h : vRel ρ (.str s) u) : u = .string s := h
theorem vRel_nilS {u : Value} (h : vRel ρ .nilS u) : u = .slice none 0 0 := h
theorem vRel_emp {u : Value} (h : vRel ρ .emp u) : ∃ a cap, u = .slice a 0 cap := h
theorem vRel_nilP {u : Value} (h : vRel ρ .nilP u) : u = .pointer none := h
theorem vRel_ptr {g off : Nat} {u : Value} (h : vRel ρ (.ptr g off) u) : ∃ L, ρ g = some L ∧ u = .pointer (some (L.a.add off)) := h
theorem vRel_sl {g off len : Nat} {u : Value} (h : vRel ρ (.sl g off len) u) : ∃ L, ρ g = some L ∧ ∃ a cap, u = .slice (some a) len cap ∧ len ≤ cap ∧ (cap = 0 ∨ (a = L.a.add off ∧ (L.own = true → L.a.off + off + cap * L.z = L.tot))) := h
theorem vRel_agg {cs : List GV} {u : Value} (h : vRel ρ (.agg cs) u) : ∃ vs : List Value, u = .agg vs.toArray ∧ All2 (sRel ρ) cs vs := h
theorem vRel_tup {xs : List GV} {u : Value} (h : vRel ρ (.tup xs) u) : ∃ vs : List Value, u = .tuple vs.toArray ∧ All2 (cRel ρ) xs vs := h
/-- The cells of a value, by cell. -/
theorem cells_rel {v : GV} {u : Value} (h : cRel ρ v u) : All2 (sRel ρ) v.cells u.cells.toList := by
  cases v with
  | agg cs => obtain ⟨vs, rfl, hv⟩ := h; exact hv
  | tup xs => exact h.elim
  | _ =>
    have k := h
    simp only [cRel] at k
    have hu : u.cells = #[u] := by
      have := k.one
      cases u <;> first | rfl | (simp [Value.oneCell'] at this)
    rw [hu]
    exact .cons k .nil
theorem vRel_c {v : GV} {u : Value} (h : vRel ρ v u) (ht : ∀ xs, v ≠ .tup xs) : cRel ρ v u := by
  cases v with
  | tup xs => exact absurd rfl (ht xs)
  | _ => exact h
theorem cells_rel' {v : GV} {u : Value} (h : vRel ρ v u) (hn : 0 < v.cells.length) : All2 (sRel ρ) v.cells u.cells.toList := by
  cases v with
  | tup xs => simp [GV.cells] at hn
  | _ => exact cells_rel h
end res
end Go.Proofs.Ytopannfdcikgiaa.Sy
