/- The machine's operations, told as plain ones. -/
import Derived.Test.YtopannfdcikgiaaSy9
import Derived.Calls
namespace Go.Proofs.Ytopannfdcikgiaa.Sy
open Go Go.RowKit
def optAll {α β : Type} (f : α → Option β) : List α → Option (List β)
  | [] => some []
  | x :: xs => (f x).bind fun y => (optAll f xs).map (y :: ·)
theorem optAll_all2 {α β : Type} {f : α → Option β} : ∀ {xs : List α} {ys : List β}, optAll f xs = some ys → All2 (fun x y => f x = some y) xs ys
  | [], _, h => by simp only [optAll, Option.some.injEq] at h; subst h; exact .nil
  | x :: xs, ys, h => by
    simp only [optAll, Option.bind_eq_some_iff, Option.map_eq_some_iff] at h
    obtain ⟨y, hy, ys', hys, rfl⟩ := h
    exact .cons hy (optAll_all2 hys)
def sval : Value → Option GV
  | .bool b => some (.bool b)
  | .int k n => some (.int k n)
  | .string s => some (.str s)
  | .slice none 0 0 => some .nilS
  | .pointer none => some .nilP
  | _ => none
def gval : Value → Option GV
  | .agg cs => (optAll sval cs.toList).map .agg
  | v => sval v
def opd : Operand → Option Opd
  | .tmp t => some (.t t)
  | .const v => (gval v).map .k
  | .func f => some (.k (.fn f []))
  | .global _ => none
def opdO : Option Operand → Option (Option Opd)
  | none => some none
  | some x => (opd x).map some
def zeroG (P : Program) (e : TypeId) : Option (List GV) := (P.info? e).bind fun i => i.zero.bind fun zv => optAll sval zv.cells.toList
/-- A type of so many cells. -/
def cellsG (P : Program) (t : TypeId) : Option (Bool × Nat) := (P.underlying t).bind fun d => (P.info? t).bind fun i =>
  match d with
  | .struct _ | .array _ _ => some (true, i.size)
  | _ => some (false, 1)
def rowG (P : Program) (e : TypeId) : Option (Nat × Nat × List GV) := (P.info? e).bind fun i => (zeroG P e).bind fun z => if z.length = i.size ∧ 0 < i.size ∧ 0 < i.bytes then some (i.size, i.bytes, z) else none
def isSlTy (P : Program) (t : TypeId) : Option TypeId := match P.underlying t with
  | some (.slice e) => some e
  | _ => none
def partG (fs : Array Field) (P : Program) (p : Nat × Operand) : Option (Nat × Nat × Opd) := (fs[p.1]?).bind fun f => (P.info? f.type).bind fun i => (opd p.2).map fun x => (f.offset, i.size, x)
def partE (size : Nat) (p : Nat × Operand) : Option (Nat × Nat × Opd) := (opd p.2).map fun x => (p.1 * size, size, x)
def fieldsG (P : Program) (t : TypeId) : Option (Array Field) := match P.underlying t with
  | some (.struct fs) => some fs
  | _ => none
def compCmp (P : Program) (neg : Bool) (op : BinOp) (t : TypeId) (x y : Opd) : Option Ins := match P.underlying t with
  | some .bool => some (.eqb neg x y)
  | some (.slice _) => some (.eqn false neg x y)
  | some (.pointer _) => some (.eqn true neg x y)
  | some (.struct _) => if P.eqGuardType P.depth t then none else (flatTy P 100 t).map fun ks => .eqs neg ks x y
  | some (.int _) => some (.bin op x y)
  | some .string => some (.bin op x y)
  | _ => none
def compConv (P : Program) (src dst : TypeId) (x : Opd) : Option Ins := match P.underlying src, P.underlying dst with
  | some (.int _), some (.int k) => some (.cvi k x)
  | some (.slice e), some .string => if P.underlying e matches some (.int .u8) then some (.bts x) else none
  | _, _ => none
def compSlice (P : Program) (t : TypeId) (x : Opd) (lo hi : Option Opd) : Option Ins := match P.underlying t with
  | some .string => some (.cutS x lo hi)
  | some (.slice e) => (P.info? e).map fun i => .cut i.size x lo hi
  | _ => none
def compApp (P : Program) (t t2 : TypeId) (s x : Opd) : Option Ins := (isSlTy P t).bind fun e => (rowG P e).bind fun r => match P.underlying t2 with
  | some (.slice _) => some (.app r.1 r.2.1 r.2.2 s x)
  | some .string => some (.app r.1 r.2.1 r.2.2 s x)
  | _ => none
def compBuiltin (P : Program) : Builtin → List Operand → List TypeId → Option Ins
  | .len, [x], [t] => match P.underlying t with
    | some .string => (opd x).map (.len true)
    | some (.slice _) => (opd x).map (.len false)
    | _ => none
  | .append, [s, x], [t, t2] => (opd s).bind fun s => (opd x).bind fun x => compApp P t t2 s x
  | .max, [x, y], _ => (opd x).bind fun x => (opd y).map fun y => .mm true x y
  | .min, [x, y], _ => (opd x).bind fun x => (opd y).map fun y => .mm false x y
  | _, _, _ => none
def compCall (P : Program) (c : Call) : Option Ins := match c.callee with
  | .builtin b => compBuiltin P b c.args.toList c.argTypes.toList
  | .value (.func f) => (optAll opd c.args.toList).map (.call f)
  | .value (.tmp t) => (optAll opd c.args.toList).map (.callv (.t t))
  | _ => none
def compOp (P : Program) : Op → Option Ins
  | .move x => (opd x).map .mov
  | .assign x => (opd x).map .mov
  | .pick c a b => (opd c).bind fun c => (opd a).bind fun a => (opd b).map fun b => .pick c a b
  | .alloc e => (zeroG P e).map .new
  | .box _ x => (opd x).map .box
  | .build t parts => (fieldsG P t).bind fun fs => (zeroG P t).bind fun z => if fs.toList.all (fun f => (P.info? f.type).isSome) then (optAll (partG fs P) parts.toList).map fun ps => .build z ps else none
  | .buildSlice t len parts => (isSlTy P t).bind fun e => (rowG P e).bind fun r => if len * r.1 ≤ 16777216 then (optAll (partE r.1) parts.toList).map fun ps => .lit r.1 len (reps len r.2.2) ps else none
  | .load t a => (cellsG P t).bind fun c => (opd a).map fun a => .ld c.1 c.2 a
  | .store t a x => (P.info? t).bind fun i => (opd a).bind fun a => (opd x).map fun x => .st i.size a x
  | .nilCheck x => (opd x).map .nck
  | .binOp op t x y _ => (opd x).bind fun x => (opd y).bind fun y => match op with
    | .eql => compCmp P false .eql t x y
    | .neq => compCmp P true .neq t x y
    | op => some (.bin op x y)
  | .unOp op _ x => (opd x).map (.un op)
  | .convert src dst x => (opd x).bind fun x => compConv P src dst x
  | .makeFunc (.func f) first caps => if first.size = 0 then (optAll opd caps.toList).map (.mkf f) else none
  | .makeSlice t l c => (isSlTy P t).bind fun e => (rowG P e).bind fun r => (opd l).bind fun l => (opd c).map fun c => .mks r.1 r.2.1 r.2.2 l c
  | .slice t x lo hi none => (opd x).bind fun x => (opdO lo).bind fun lo => (opdO hi).bind fun hi => compSlice P t x lo hi
  | .fieldAddr s a f => (fieldsG P s).bind fun fs => (fs[f]?).bind fun fd => (P.info? fd.type).bind fun i => if i.size = 0 then none else (opd a).map (.fad fd.offset)
  | .field s x f => (fieldsG P s).bind fun fs => (fs[f]?).bind fun fd => (cellsG P fd.type).bind fun c => (opd x).map (.part c.1 fd.offset c.2)
  | .indexAddr t x ix => (isSlTy P t).bind fun e => (P.info? e).bind fun i => (opd x).bind fun x => (opd ix).map fun ix => .iad i.size x ix
  | .index t x ix => match P.underlying t with
    | some .string => (opd x).bind fun x => (opd ix).map fun ix => .idx x ix
    | _ => none
  | .extract x i => (opd x).map (.ext i)
  | .call c => compCall P c
  | _ => none

section ops
variable {P : Program} {w0 w : World} {ρ : Rho} {σ : St}
theorem sval_rel {v : Value} {g : GV} (h : sval v = some g) : sRel ρ g v := by
  unfold sval at h
  split at h <;> first | (injection h with h; subst h; rfl) | cases h
theorem svals_rel {vs : List Value} {gs : List GV} (h : optAll sval vs = some gs) : All2 (sRel ρ) gs vs := by
  have := optAll_all2 h
  clear h
  induction this with
  | nil => exact .nil
  | cons h _ ih => exact .cons (sval_rel h) ih
theorem sRel.v {c : GV} {v : Value} (h : sRel ρ c v) : vRel ρ c v := by
  cases c with
  | agg _ => exact h.elim
  | tup _ => exact h.elim
  | _ => exact h
theorem gval_rel {v : Value} {g : GV} (h : gval v = some g) : vRel ρ g v := by
  unfold gval at h
  split at h
  · rename_i cs
    obtain ⟨gs, hg, rfl⟩ := Option.map_eq_some_iff.1 h
    exact ⟨cs.toList, rfl, svals_rel hg⟩
  · exact (sval_rel h).v
def EnvRel (ρ : Rho) (env : Env) (a : Act) : Prop := ∀ n, vRel ρ (env n) (a.eval (.tmp n))
theorem opd_rel {env : Env} {a : Act} {x : Operand} {y : Opd} (h : opd x = some y) (he : EnvRel ρ env a) : vRel ρ (y.ev env) (a.eval x) := by
  unfold opd at h
  split at h
  · injection h with h; subst h; exact he _
  · obtain ⟨g, hg, rfl⟩ := Option.map_eq_some_iff.1 h
    exact gval_rel hg
  · injection h with h; subst h
    exact ⟨[], rfl, .nil⟩
  · cases h
/-- The variables that an operation looks at. -/
def EnvOn (ρ : Rho) (env : Env) (a : Act) (L : List Operand) : Prop := ∀ x ∈ L, ∀ y, opd x = some y → vRel ρ (y.ev env) (a.eval x)
theorem EnvRel.on {env : Env} {a : Act} (he : EnvRel ρ env a) (L : List Operand) : EnvOn ρ env a L := fun _ _ _ h => opd_rel h he
theorem opd_on {env : Env} {a : Act} {L : List Operand} {x : Operand} {y : Opd} (h : opd x = some y) (he : EnvOn ρ env a L) (hx : x ∈ L) : vRel ρ (y.ev env) (a.eval x) := he x hx y h
theorem opdO_on {env : Env} {a : Act} {L : List Operand} {x : Option Operand} {y : Option Opd} (h : opdO x = some y) (he : EnvOn ρ env a L) (hx : ∀ z, x = some z → z ∈ L) : OptRel ρ (y.map (·.ev env)) (x.map a.eval) := by
  unfold opdO at h
  split at h
  · injection h with h; subst h; trivial
  · obtain ⟨g, hg, rfl⟩ := Option.map_eq_some_iff.1 h
    exact opd_on hg he (hx _ rfl)
theorem opds_on {env : Env} {a : Act} {L : List Operand} {xs : List Operand} {ys : List Opd} (h : optAll opd xs = some ys) (he : EnvOn ρ env a L) (hx : ∀ x ∈ xs, x ∈ L) : All2 (vRel ρ) (ys.map (·.ev env)) (xs.map a.eval) := by
  have := optAll_all2 h
  clear h
  induction this with
  | nil => exact .nil
  | cons h _ ih => exact .cons (opd_on h he (hx _ List.mem_cons_self)) (ih fun x hm => hx x (List.mem_cons_of_mem _ hm))
theorem isSlTy_spec {t e : TypeId} (h : isSlTy P t = some e) : P.underlying t = some (.slice e) := by
  unfold isSlTy at h
  split at h
  · rename_i hu; injection h with h; subst h; exact hu
  · cases h
theorem fieldsG_spec {t : TypeId} {fs : Array Field} (h : fieldsG P t = some fs) : P.underlying t = some (.struct fs) := by
  unfold fieldsG at h
  split at h
  · rename_i hu; injection h with h; subst h; exact hu
  · cases h
theorem zeroG_spec {e : TypeId} {z : List GV} (h : zeroG P e = some z) : ∃ i zv, P.info? e = some i ∧ i.zero = some zv ∧ ∀ ρ, All2 (sRel ρ) z zv.cells.toList := by
  unfold zeroG at h
  obtain ⟨i, hi, h⟩ := Option.bind_eq_some_iff.1 h
  obtain ⟨zv, hz, h⟩ := Option.bind_eq_some_iff.1 h
  exact ⟨i, zv, hi, hz, fun _ => svals_rel h⟩
theorem rowG_spec {e : TypeId} {r : Nat × Nat × List GV} (h : rowG P e = some r) : ∃ i zv, P.info? e = some i ∧ i.zero = some zv ∧ (∀ ρ, All2 (sRel ρ) r.2.2 zv.cells.toList) ∧ zv.cells.size = i.size ∧ 0 < i.size ∧ 0 < i.bytes ∧ r.1 = i.size ∧ r.2.1 = i.bytes := by
  unfold rowG at h
  obtain ⟨i, hi, h⟩ := Option.bind_eq_some_iff.1 h
  obtain ⟨z, hz, h⟩ := Option.bind_eq_some_iff.1 h
  split at h
  · rename_i hc
    injection h with h; subst h
    obtain ⟨i', zv, hi', hzv, ha⟩ := zeroG_spec hz
    rw [hi] at hi'; injection hi' with hi'; subst hi'
    refine ⟨i, zv, hi, hzv, ha, ?_, hc.2.1, hc.2.2, rfl, rfl⟩
    have := (ha (fun _ => none)).length
    rw [← hc.1, this]; simp
  · cases h
theorem cellsG_spec {t : TypeId} {c : Bool × Nat} (h : cellsG P t = some c) : ∃ d i, P.underlying t = some d ∧ P.info? t = some i ∧ aggTy d = c.1 ∧ (c.1 = true → i.size = c.2) ∧ (c.1 = false → c.2 = 1) := by
  unfold cellsG at h
  obtain ⟨d, hd, h⟩ := Option.bind_eq_some_iff.1 h
  obtain ⟨i, hi, h⟩ := Option.bind_eq_some_iff.1 h
  refine ⟨d, i, hd, hi, ?_⟩
  split at h <;> injection h with h <;> subst h
  · exact ⟨rfl, fun _ => rfl, fun h => by cases h⟩
  · exact ⟨rfl, fun _ => rfl, fun h => by cases h⟩
  · refine ⟨?_, (fun h => by cases h), fun _ => rfl⟩
    cases d <;> simp_all [aggTy]
/-- How an operation ends. -/
def Out (P : Program) (k : Value → World → Prop) : Result Next → Prop
  | .ok (.value v) w => k v w
  | .ok .skip w => k undef w
  | .ok (.enter f args) w => Calls P f args w fun
      | .returned v, w' => k v w'
      | _, _ => False
  | _ => False
theorem Out.wp {o : Oper} {a : Act} {k : Value → World → Prop} {next : Act → World → Prop} {Q : Exit → Act → World → Prop} (h : Out P k ((execOp a.eval o).run P w)) (hk : ∀ u w', k u w' → next (a.put o.dst u) w') : o.wp P a w next Q := by
  unfold Oper.wp
  generalize (execOp a.eval o).run P w = r at h
  unfold Out at h
  split at h
  · exact hk _ _ h
  · exact hk _ _ h
  · rw [Oper.upon_enter]
    refine h.mono fun e w' he => ?_
    cases e with
    | returned v => exact hk _ _ he
    | panicked _ => exact he.elim
    | outgrown => exact he.elim
  · exact h.elim
theorem Out.pure {S : Prop} {r : Result Next} (h : Out P (fun _ _ => S) r) : S := by
  unfold Out at h
  split at h
  · exact h
  · exact h
  · obtain ⟨e, w', _, he, _⟩ := h []
    cases e with
    | returned v => exact he
    | panicked _ => exact he.elim
    | outgrown => exact he.elim
  · exact h.elim
def Does (P : Program) (o : Oper) (a : Act) (w0 : World) (ρ : Rho) (σ : St) (w : World) (v : GV) (σ' : St) : Prop :=
  ∀ (k : Value → World → Prop), (∀ ρ' u w', (∀ g, g < σ.length → ρ' g = ρ g) → vRel ρ' v u → Good w0 ρ' σ' w' → Frame ρ σ w ρ' σ' w' → k u w') → Out P k ((execOp a.eval o).run P w)
theorem Does.res {o : Oper} {a : Act} {m : Sem Value} {v : GV} {σ' : St} (he : execOp a.eval o = (do pure (.value (← m)))) (h : Res P m w0 ρ σ w v σ') : Does P o a w0 ρ σ w v σ' := by
  intro k hn
  obtain ⟨u, w', ρ', hrun, hs, hv, hG, hF⟩ := h
  rw [he]
  simp only [Sem.run_bind, hrun, Result.andThen_ok, Sem.run_pure]
  exact hn ρ' u w' hs hv hG hF
theorem Does.val {o : Oper} {a : Act} {u : Value} {v : GV} (he : (execOp a.eval o).run P w = .ok (.value u) w) (hG : Good w0 ρ σ w) (hv : vRel ρ v u) : Does P o a w0 ρ σ w v σ := by
  intro k hn
  rw [he]
  exact hn ρ u w (fun _ _ => rfl) hv hG (Frame.refl _ _ _)
end ops
end Go.Proofs.Ytopannfdcikgiaa.Sy
