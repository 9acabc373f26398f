/- Code, told plainly: what it comes to, and that the machine comes to it. -/
import Derived.Test.YtopannfdcikgiaaSy12
import Derived.Control
namespace Go.Proofs.Ytopannfdcikgiaa.Sy
open Go Go.RowKit
structure Op1 where
  d : Option Nat
  g : Option (Nat × Bool)
  i : Ins
inductive Cd where
  | skip
  | reg (ops : List Op1)
  | drw (as bs : List Op1)
  | seq (a b : Cd)
  | cnd (c : Opd) (a b : Cd)
  | blk (id : Nat) (a : Cd)
  | lop (a : Cd)
  | ext (id : Nat)
  | ret
inductive Ex where
  | nxt
  | ext (id : Nat)
  | ret
def compDst (n : Nat) : Option Nat → Bool
  | none => true
  | some d => d < n
def compGuard (ops : Array Oper) : Option (Nat × Bool) → Option (Option (Nat × Bool))
  | none => some none
  | some (j, b) => ((ops[j]?).bind (·.dst)).map fun t => some (t, b)
def compOper (P : Program) (n : Nat) (ops : Array Oper) (o : Oper) : Option Op1 :=
  if compDst n o.dst then (compGuard ops o.guard).bind fun g => (compOp P o.op).map fun i => ⟨o.dst, g, i⟩ else none
def tmpsOf (ops : Array Oper) (o : Oper) : List Nat := (o.op.operands.toList.filterMap fun | .tmp t => some t | _ => none) ++ (match o.guard with
  | some (j, _) => (((ops[j]?).bind (·.dst)).toList)
  | none => [])
/-- Must the earlier one come first? -/
def must (ops : Array Oper) (x y : Oper) : Bool := (match x.dst with
  | some d => (tmpsOf ops y).contains d || y.dst == some d
  | none => false) || (match y.dst with
  | some d => (tmpsOf ops x).contains d
  | none => false)
def edgeTo (T : Array Nat) (o : Oper) (j : Nat) : Bool := o.after.toList.any fun e => Region.binds .any e && (e.on == j || (decide (j < e.on) && (T.getD e.on 0).testBit j))
def drawOkAt (ops : Array Oper) (T : Array Nat) (k i : Nat) : Bool := match ops[i]? with
  | none => false
  | some o => (o.after.toList.all fun e => decide (e.on < i)) && (List.range i).all fun j => (!(T.getD i 0).testBit j || edgeTo T o j) && (!(decide (k ≤ i) || (match ops[j]? with | some x => must ops x o | none => false)) || (T.getD i 0).testBit j)
def drawOk (ops : Array Oper) (k : Nat) : Bool := (List.range ops.size).all (drawOkAt ops (Region.before ops) k)
/-- From here on each operation waits for all ahead of it. -/
def splitAt (ops : Array Oper) : Nat := (List.range ops.size).foldl (fun k i => if (Region.before ops).getD i 0 == 2 ^ i - 1 then k else i + 1) 0
def comp (P : Program) (n : Nat) : Code → Option Cd
  | .skip => some .skip
  | .region _ ops false => (optAll (compOper P n ops) ops.toList).map .reg
  | .region _ ops true => if (P.follows .mixedOrders || !Region.departs ops) && drawOk ops (splitAt ops) then (optAll (compOper P n ops) ops.toList).map fun os => .drw (os.take (splitAt ops)) (os.drop (splitAt ops)) else none
  | .seq a b => (comp P n a).bind fun a => (comp P n b).map fun b => .seq a b
  | .cond c a b => (opd c).bind fun c => (comp P n a).bind fun a => (comp P n b).map fun b => .cnd c a b
  | .block id a => (comp P n a).map (.blk id)
  | .loop a => (comp P n a).map .lop
  | .exit id => some (.ext id)
  | .ret => some .ret
  | _ => none
def wantedG (env : Env) : Option (Nat × Bool) → Bool
  | none => true
  | some (t, b) => match (env t).bit with
    | some c => c == b
    | none => false
def vcOps (D : Bool) (P : Program) : List Op1 → (Env → St → Prop) → Env → St → Prop
  | [], K, env, σ => K env σ
  | o :: r, K, env, σ => if wantedG env o.g then ∃ v σ', Step P env σ o.i v σ' ∧ (D = true → σ <+: σ') ∧ vcOps D P r K (upo env o.d v) σ' else vcOps D P r K (upo env o.d (.tup [])) σ
def vc (P : Program) : Cd → (Ex → Env → St → Prop) → Env → St → Prop
  | .skip, Q => Q .nxt
  | .reg ops, Q => vcOps false P ops (Q .nxt)
  | .drw as bs, Q => vcOps true P as (vcOps false P bs (Q .nxt))
  | .seq a b, Q => vc P a fun e => match e with
    | .nxt => vc P b Q
    | e => Q e
  | .cnd c a b, Q => fun env σ => ∃ t, (c.ev env).bit = some t ∧ (t = true → vc P a Q env σ) ∧ (t = false → vc P b Q env σ)
  | .blk id a, Q => vc P a fun e => match e with
    | .ext j => if j = id then Q .nxt else Q (.ext j)
    | e => Q e
  | .lop a, Q => fun env σ => ∃ (I : Env → St → Prop) (μ : Env → St → Nat), I env σ ∧ ∀ env σ, I env σ → vc P a (fun e env' σ' => match e with
    | .nxt => I env' σ' ∧ μ env' σ' < μ env σ
    | e => Q e env' σ') env σ
  | .ext id, Q => Q (.ext id)
  | .ret, Q => Q .ret
/-- Where the machine stands. -/
structure At (n : Nat) (w0 : World) (ρ0 : Rho) (σ0 : St) (w1 : World) (env : Env) (σ : St) (ρ : Rho) (a : Act) (w : World) : Prop where
  env : EnvRel ρ env a
  good : Good w0 ρ σ w
  size : a.tmps.size = n
  defers : a.defers = []
  len : σ0.length ≤ σ.length
  sub : ∀ g, g < σ0.length → ρ g = ρ0 g
  frame : Frame ρ0 σ0 w1 ρ σ w
section sound
variable {P : Program} {n : Nat} {w0 w1 : World} {ρ0 : Rho} {σ0 : St}
theorem put_rel {ρ : Rho} {env : Env} {a : Act} {d : Option Nat} {v : GV} {u : Value} (he : EnvRel ρ env a) (hv : vRel ρ v u) (hs : a.tmps.size = n) (hd : compDst n d = true) : EnvRel ρ (upo env d v) (a.put d u) := by
  intro t
  cases d with
  | none => exact he t
  | some d =>
    have hd : d < n := by simpa [compDst] using hd
    simp only [upo, up, Act.put, Act.eval]
    by_cases h : t = d
    · subst h
      rw [if_pos rfl]
      simp [hs, hd]
      exact hv
    · rw [if_neg h]
      have := he t
      simp only [Act.eval] at this
      simpa [Array.getElem?_setIfInBounds, Ne.symm h] using this
def vbit : Value → Option Bool
  | .bool b => some b
  | _ => none
theorem bit_rel {ρ : Rho} {v : GV} {u : Value} (h : vRel ρ v u) : v.bit = vbit u := by
  cases v with
  | sl g off len => obtain ⟨L, _, a, cap, rfl, _⟩ := h; rfl
  | ptr g off => obtain ⟨L, _, rfl⟩ := h; rfl
  | mp g => obtain ⟨L, _, rfl⟩ := h; rfl
  | fn f caps => obtain ⟨vs, rfl, _⟩ := h; rfl
  | agg cs => obtain ⟨vs, rfl, _⟩ := h; rfl
  | tup cs => obtain ⟨vs, rfl, _⟩ := h; rfl
  | emp => obtain ⟨a, cap, rfl⟩ := h; rfl
  | _ => cases h; rfl
theorem wanted_rel {ρ : Rho} {env : Env} {a : Act} {ops : Array Oper} {o : Oper} {g : Option (Nat × Bool)} (he : EnvRel ρ env a) (hg : compGuard ops o.guard = some g) : Region.wanted o (yielded ops a.tmps) = wantedG env g := by
  unfold compGuard at hg
  split at hg
  · rename_i h
    injection hg with hg; subst hg
    simp [Region.wanted, h, wantedG]
  · rename_i j b h
    obtain ⟨t, ht, rfl⟩ := Option.map_eq_some_iff.1 hg
    have hb := bit_rel (he t)
    simp only [Region.wanted, h, wantedG, yielded, ht, Option.bind_some]
    rw [hb]
    simp only [Act.eval, Array.getD_eq_getD_getElem?]
    cases hc : a.tmps[t]? with
    | none => simp [undef, vbit]
    | some u => cases u <;> simp [vbit]
theorem exec_len {env : Env} {σ σ' : St} {i : Ins} {v : GV} (h : exec env σ i = some (v, σ')) : σ.length ≤ σ'.length := by
  have app : ∀ {z b : Nat} {s : GV} {n : Nat} {new : List GV}, appG z b σ s n new = some (v, σ') → σ.length ≤ σ'.length := by
    intro z b s n new h
    unfold appG at h
    repeat' split at h
    all_goals first | cases h; done | (injection h with h; injection h with h1 h2; subst h2; simp)
  have none' : ∀ {α : Type} {x : α}, (none : Option α) = some x → False := fun h => by cases h
  have one : ∀ {x : GV} {τ : St}, some (x, τ) = some (v, σ') → σ.length ≤ τ.length → σ.length ≤ σ'.length := fun h hl => by
    injection h with h; injection h with h1 h2; subst h2; exact hl
  have via : ∀ {α : Type} {x : Option α} {f : α → GV}, (x.map fun y => (f y, σ)) = some (v, σ') → σ.length ≤ σ'.length := fun h => by
    obtain ⟨y, _, h⟩ := Option.map_eq_some_iff.1 h
    injection h with h1 h2; subst h2; exact Nat.le_refl _
  cases i with
  | mov x => exact one h (Nat.le_refl _)
  | pick c a b => exact via h
  | new cs => exact one h (by simp)
  | box x => exact one h (by simp)
  | build zero parts => exact via h
  | lit z len zero parts =>
    obtain ⟨y, _, h⟩ := Option.map_eq_some_iff.1 h
    injection h with h1 h2; subst h2; simp
  | ld agg n a =>
    obtain ⟨_, _, h⟩ := Option.bind_eq_some_iff.1 h
    obtain ⟨_, _, h⟩ := Option.bind_eq_some_iff.1 h
    obtain ⟨_, _, h⟩ := Option.bind_eq_some_iff.1 h
    exact via h
  | st n a x =>
    obtain ⟨_, _, h⟩ := Option.bind_eq_some_iff.1 h
    repeat' split at h
    all_goals first | exact (none' h).elim | exact one h (by simp)
  | nck x => exact via h
  | bin op x y => exact via h
  | eqb neg x y =>
    obtain ⟨_, _, h⟩ := Option.bind_eq_some_iff.1 h
    exact via h
  | eqn p neg x y => exact via h
  | eqs neg ks x y =>
    simp only [exec] at h
    split at h
    · exact via h
    · exact (none' h).elim
  | un op x => exact via h
  | cvi k x =>
    simp only [exec] at h
    split at h
    · exact one h (Nat.le_refl _)
    · exact (none' h).elim
  | bts x =>
    obtain ⟨_, _, h⟩ := Option.bind_eq_some_iff.1 h
    exact via h
  | mkf f caps => exact via h
  | mks z bytes zero n c =>
    obtain ⟨_, _, h⟩ := Option.bind_eq_some_iff.1 h
    obtain ⟨_, _, h⟩ := Option.bind_eq_some_iff.1 h
    split at h
    · exact one h (by simp)
    · exact (none' h).elim
  | cutS x lo hi => exact via h
  | cut z x lo hi =>
    simp only [exec] at h
    split at h
    · exact via h
    · exact (none' h).elim
  | fad off a => exact via h
  | part agg off n x =>
    simp only [exec] at h
    split at h
    · obtain ⟨_, _, h⟩ := Option.bind_eq_some_iff.1 h
      exact via h
    · exact (none' h).elim
  | iad z x i =>
    simp only [exec] at h
    split at h
    · obtain ⟨_, _, h⟩ := Option.bind_eq_some_iff.1 h
      split at h
      · exact one h (Nat.le_refl _)
      · exact (none' h).elim
    · exact (none' h).elim
  | idx x i =>
    simp only [exec] at h
    split at h
    · obtain ⟨_, _, h⟩ := Option.bind_eq_some_iff.1 h
      exact via h
    · exact (none' h).elim
  | ext i x =>
    simp only [exec] at h
    repeat' split at h
    all_goals first | exact (none' h).elim | exact one h (Nat.le_refl _)
  | len str x => exact via h
  | app z bytes zero s x =>
    simp only [exec] at h
    split at h
    · split at h
      · exact app h
      · exact (none' h).elim
    · obtain ⟨_, _, h⟩ := Option.bind_eq_some_iff.1 h
      exact app h
  | mm max x y =>
    simp only [exec] at h
    split at h
    · exact one h (Nat.le_refl _)
    · exact (none' h).elim
  | call f xs => exact (none' h).elim
  | callv x xs => exact (none' h).elim
theorem step_len {env : Env} {σ σ' : St} {i : Ins} {v : GV} (h : Step P env σ i v σ') : σ.length ≤ σ'.length := by
  cases i with
  | call f xs => exact h.2.1
  | callv x xs => obtain ⟨f, caps, _, h⟩ := h; exact h.2.1
  | _ => exact exec_len h
theorem step_oper {o : Oper} {ops : Array Oper} {o1 : Op1} {env : Env} {σ : St} {ρ : Rho} {a : Act} {w : World} (hc : compOper P n ops o = some o1) (hA : At n w0 ρ0 σ0 w1 env σ ρ a w) {next : Act → World → Prop} {Q : Exit → Act → World → Prop} :
    (∀ v σ', wantedG env o1.g = true → Step P env σ o1.i v σ' → (∀ ρ' u w', At n w0 ρ0 σ0 w1 (upo env o1.d v) σ' ρ' (a.put o.dst u) w' → next (a.put o.dst u) w') → o.wp P a w next Q) ∧
    (wantedG env o1.g = false → At n w0 ρ0 σ0 w1 (upo env o1.d (.tup [])) σ ρ (a.put o.dst undef) w) ∧ Region.wanted o (yielded ops a.tmps) = wantedG env o1.g := by
  unfold compOper at hc
  split at hc
  · rename_i hd
    obtain ⟨g, hg, hc⟩ := Option.bind_eq_some_iff.1 hc
    obtain ⟨i, hi, rfl⟩ := Option.map_eq_some_iff.1 hc
    have hps : ∀ u, (a.put o.dst u).tmps.size = n ∧ (a.put o.dst u).defers = [] := fun u => by
      cases ho : o.dst <;> simp [Act.put, hA.size, hA.defers]
    refine ⟨fun v σ' _ hs hn => ?_, fun _ => ?_, wanted_rel hA.env hg⟩
    · have hle := step_len hs
      refine (step_op hi (hA.env.on _) hA.good hs (fun u w' => next (a.put o.dst u) w') fun ρ' u w' hsub hv hG hF => hn ρ' u w' ?_).wp fun _ _ h => h
      have hle' : Le ρ ρ' := Good.le_of_sub hA.good.fresh hsub
      exact { env := put_rel (fun t => (hA.env t).mono hle') hv hA.size hd, good := hG, size := (hps u).1, defers := (hps u).2, len := Nat.le_trans hA.len hle
              sub := fun g hg => by rw [hsub g (Nat.lt_of_lt_of_le hg hA.len), hA.sub g hg]
              frame := hA.frame.trans hF }
    · exact { env := put_rel hA.env ⟨[], rfl, .nil⟩ hA.size hd, good := hA.good, size := (hps _).1, defers := (hps _).2, len := hA.len, sub := hA.sub, frame := hA.frame }
  · cases hc
theorem ops_sound {ops : Array Oper} {Q : Exit → Act → World → Prop} : ∀ {l : List Nat} {os : List Op1}, All2 (fun i o1 => ∃ o, ops[i]? = some o ∧ compOper P n ops o = some o1) l os → ∀ {K : Env → St → Prop} {env : Env} {σ : St} {ρ : Rho} {a : Act} {w : World}, vcOps false P os K env σ → At n w0 ρ0 σ0 w1 env σ ρ a w →
    (∀ env' σ' ρ' a' w', K env' σ' → At n w0 ρ0 σ0 w1 env' σ' ρ' a' w' → Q .normal a' w') → wpOps P ops Q l a w
  | _, _, .nil, K, env, σ, ρ, a, w, hv, hA, hK => hK env σ ρ a w hv hA
  | i :: l, o1 :: os, .cons ⟨o, ho, hc⟩ ht, K, env, σ, ρ, a, w, hv, hA, hK => by
    simp only [wpOps, ho]
    obtain ⟨h1, h2, h3⟩ := step_oper (next := wpOps P ops Q l) (Q := Q) hc hA
    rw [h3]
    simp only [vcOps] at hv
    cases hw : wantedG env o1.g with
    | true =>
      rw [hw] at hv
      simp only [if_true] at hv ⊢
      obtain ⟨v, σ', hs, _, hv⟩ := hv
      exact .inl (h1 v σ' hw hs fun ρ' u w' hA' => ops_sound ht hv hA' hK)
    | false =>
      rw [hw] at hv
      simp only [Bool.false_eq_true, if_false] at hv ⊢
      exact ops_sound ht hv (h2 hw) hK
theorem range_all2 {ops : Array Oper} {os : List Op1} (h : optAll (compOper P n ops) ops.toList = some os) : All2 (fun i o1 => ∃ o, ops[i]? = some o ∧ compOper P n ops o = some o1) (List.range ops.size) os := by
  have h2 := optAll_all2 h
  refine All2.of_get (by have := h2.length; simp at this ⊢; omega) fun j i o1 hi ho => ?_
  obtain ⟨o, h3, h4⟩ := h2.get' ho
  have hj : j < ops.size := by
    have := (List.getElem?_eq_some_iff.1 hi).1
    simpa using this
  simp only [List.getElem?_range hj, Option.some.injEq] at hi
  subst hi
  exact ⟨o, by simpa using h3, h4⟩
end sound
end Go.Proofs.Ytopannfdcikgiaa.Sy
