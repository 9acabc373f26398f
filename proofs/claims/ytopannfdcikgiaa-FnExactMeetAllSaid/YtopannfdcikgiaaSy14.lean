/- Functions, told plainly. -/
import Derived.Test.YtopannfdcikgiaaSy17
namespace Go.Proofs.Ytopannfdcikgiaa.Sy
open Go Go.RowKit
inductive Rs where
  | t (n : Nat)
  | c (a : Nat) (agg : Bool) (n : Nat)
structure Fn1 where
  n : Nat
  rs : List Rs
  c : Cd
def Rs.ev (env : Env) (σ : St) : Rs → Option GV
  | .t n => some (env n)
  | .c a agg n => (ptrG (env a)).bind fun p => (rdB σ p.1).bind fun cs => (seg cs p.2 n).bind fun r => mkv agg r
def notTup : GV → Bool
  | .tup _ => false
  | _ => true
def resG (env : Env) (σ : St) : List Rs → Option GV
  | [r] => r.ev env σ
  | rs => (optAll (Rs.ev env σ) rs).bind fun vs => if vs.all notTup then some (.tup vs) else none
def compRs (P : Program) : ResultVar → Option Rs
  | .tmp t => some (.t t)
  | .cell a t => (cellsG P t).map fun c => .c a c.1 c.2
def compFn (P : Program) (f : Nat) : Option Fn1 := (P.funcs[f]?).bind fun fn => fn.body.bind fun c =>
  if fn.name = "runtime.NumGoroutine" then none else (optAll (compRs P) fn.results.toList).bind fun rs => (comp P fn.ntmps c).map fun d => ⟨fn.ntmps, rs, d⟩
def env0 (args : List GV) : Env := fun n => args.getD n (.tup [])
theorem vcOps_mono {P : Program} {D : Bool} : ∀ {os : List Op1} {K K' : Env → St → Prop} {env : Env} {σ : St}, vcOps D P os K env σ → (∀ env σ, K env σ → K' env σ) → vcOps D P os K' env σ
  | [], _, _, env, σ, h, hk => hk env σ h
  | o :: os, K, K', env, σ, h, hk => by
    simp only [vcOps] at h ⊢
    split at h
    · rename_i hw
      rw [if_pos hw]
      obtain ⟨v, σ', hs, hp, h⟩ := h
      exact ⟨v, σ', hs, hp, vcOps_mono h hk⟩
    · rename_i hw
      rw [if_neg hw]
      exact vcOps_mono h hk
theorem vc_mono {P : Program} {d : Cd} : ∀ {Q Q' : Ex → Env → St → Prop} {env : Env} {σ : St}, vc P d Q env σ → (∀ e env σ, Q e env σ → Q' e env σ) → vc P d Q' env σ := by
  induction d with
  | skip => intro Q Q' env σ h hq; exact hq _ _ _ h
  | reg ops => intro Q Q' env σ h hq; exact vcOps_mono h fun env σ => hq _ env σ
  | drw as bs => intro Q Q' env σ h hq; exact vcOps_mono h fun env σ h => vcOps_mono h fun env σ => hq _ env σ
  | seq a b iha ihb =>
    intro Q Q' env σ h hq
    refine iha h fun e env σ he => ?_
    cases e with
    | nxt => exact ihb he hq
    | ext j => exact hq _ _ _ he
    | ret => exact hq _ _ _ he
  | cnd c a b iha ihb =>
    intro Q Q' env σ h hq
    obtain ⟨t, ht, h1, h2⟩ := h
    exact ⟨t, ht, fun e => iha (h1 e) hq, fun e => ihb (h2 e) hq⟩
  | blk id a ih =>
    intro Q Q' env σ h hq
    refine ih h fun e env σ he => ?_
    cases e with
    | nxt => exact hq _ _ _ he
    | ext j =>
      simp only at he ⊢
      split at he
      · rename_i hj; rw [if_pos hj]; exact hq _ _ _ he
      · rename_i hj; rw [if_neg hj]; exact hq _ _ _ he
    | ret => exact hq _ _ _ he
  | lop a ih =>
    intro Q Q' env σ h hq
    obtain ⟨I, μ, hI, hs⟩ := h
    refine ⟨I, μ, hI, fun env σ hi => ih (hs env σ hi) fun e env' σ' he => ?_⟩
    cases e with
    | nxt => exact he
    | ext j => exact hq _ _ _ he
    | ret => exact hq _ _ _ he
  | ext id => intro Q Q' env σ h hq; exact hq _ _ _ h
  | ret => intro Q Q' env σ h hq; exact hq _ _ _ h
def Eq3 (e : Ex) (env : Env) (σ : St) : Ex → Env → St → Prop := fun e1 env1 σ1 => e1 = e ∧ env1 = env ∧ σ1 = σ
theorem vcOps_det {P : Program} {D : Bool} : ∀ {os : List Op1} {K : Env → St → Prop} {env : Env} {σ : St}, vcOps D P os K env σ → ∃ env' σ', K env' σ' ∧ vcOps D P os (fun e s => e = env' ∧ s = σ') env σ
  | [], _, env, σ, h => ⟨env, σ, h, rfl, rfl⟩
  | o :: os, K, env, σ, h => by
    simp only [vcOps] at h ⊢
    split at h
    · rename_i hw
      obtain ⟨v, τ, hs, hp, h⟩ := h
      obtain ⟨env', σ', hk, h⟩ := vcOps_det h
      exact ⟨env', σ', hk, by rw [if_pos hw]; exact ⟨v, τ, hs, hp, h⟩⟩
    · rename_i hw
      obtain ⟨env', σ', hk, h⟩ := vcOps_det h
      exact ⟨env', σ', hk, by rw [if_neg hw]; exact h⟩
inductive LB (P : Program) (a : Cd) (I : Env → St → Prop) (μ : Env → St → Nat) (e : Ex) (env' : Env) (σ' : St) : Env → St → Prop
  | out {env : Env} {σ : St} : I env σ → e ≠ .nxt → vc P a (Eq3 e env' σ') env σ → LB P a I μ e env' σ' env σ
  | more {env : Env} {σ : St} {env1 : Env} {σ1 : St} : I env σ → vc P a (Eq3 .nxt env1 σ1) env σ → μ env1 σ1 < μ env σ → LB P a I μ e env' σ' env1 σ1 → LB P a I μ e env' σ' env σ
/-- Of what comes of code in some way, one way is chosen. -/
theorem vc_det {P : Program} {d : Cd} : ∀ {Q : Ex → Env → St → Prop} {env : Env} {σ : St}, vc P d Q env σ → ∃ e env' σ', Q e env' σ' ∧ vc P d (Eq3 e env' σ') env σ := by
  induction d with
  | skip => intro Q env σ h; exact ⟨_, _, _, h, rfl, rfl, rfl⟩
  | reg ops =>
    intro Q env σ h
    obtain ⟨env', σ', hk, h⟩ := vcOps_det h
    exact ⟨.nxt, env', σ', hk, vcOps_mono h fun _ _ he => ⟨rfl, he.1, he.2⟩⟩
  | drw as bs =>
    intro Q env σ h
    obtain ⟨env1, σ1, hk, h1⟩ := vcOps_det h
    obtain ⟨env', σ', hk, h2⟩ := vcOps_det hk
    refine ⟨.nxt, env', σ', hk, ?_⟩
    show vcOps true P as _ env σ
    refine vcOps_mono h1 fun e s he => ?_
    obtain ⟨rfl, rfl⟩ := he
    exact vcOps_mono h2 fun _ _ he => ⟨rfl, he.1, he.2⟩
  | seq a b iha ihb =>
    intro Q env σ h
    obtain ⟨e, env1, σ1, hq, h1⟩ := iha h
    cases e with
    | nxt =>
      obtain ⟨e, env', σ', hq, h2⟩ := ihb hq
      refine ⟨e, env', σ', hq, ?_⟩
      show vc P a _ env σ
      refine vc_mono h1 fun e1 en s he => ?_
      obtain ⟨rfl, rfl, rfl⟩ := he
      exact h2
    | ext j =>
      refine ⟨.ext j, env1, σ1, hq, ?_⟩
      show vc P a _ env σ
      refine vc_mono h1 fun e1 en s he => ?_
      obtain ⟨rfl, rfl, rfl⟩ := he
      exact ⟨rfl, rfl, rfl⟩
    | ret =>
      refine ⟨.ret, env1, σ1, hq, ?_⟩
      show vc P a _ env σ
      refine vc_mono h1 fun e1 en s he => ?_
      obtain ⟨rfl, rfl, rfl⟩ := he
      exact ⟨rfl, rfl, rfl⟩
  | cnd c a b iha ihb =>
    intro Q env σ h
    obtain ⟨t, ht, h1, h2⟩ := h
    cases t with
    | true =>
      obtain ⟨e, env', σ', hq, h⟩ := iha (h1 rfl)
      exact ⟨e, env', σ', hq, true, ht, fun _ => h, fun e => by cases e⟩
    | false =>
      obtain ⟨e, env', σ', hq, h⟩ := ihb (h2 rfl)
      exact ⟨e, env', σ', hq, false, ht, (fun e => by cases e), fun _ => h⟩
  | blk id a ih =>
    intro Q env σ h
    obtain ⟨e, env1, σ1, hq, h1⟩ := ih h
    cases e with
    | nxt =>
      refine ⟨.nxt, env1, σ1, hq, ?_⟩
      show vc P a _ env σ
      refine vc_mono h1 fun e1 en s he => ?_
      obtain ⟨rfl, rfl, rfl⟩ := he
      exact ⟨rfl, rfl, rfl⟩
    | ext j =>
      by_cases hj : j = id
      · simp only [if_pos hj] at hq
        refine ⟨.nxt, env1, σ1, hq, ?_⟩
        show vc P a _ env σ
        refine vc_mono h1 fun e1 en s he => ?_
        obtain ⟨rfl, rfl, rfl⟩ := he
        simp only [if_pos hj]
        exact ⟨rfl, rfl, rfl⟩
      · simp only [if_neg hj] at hq
        refine ⟨.ext j, env1, σ1, hq, ?_⟩
        show vc P a _ env σ
        refine vc_mono h1 fun e1 en s he => ?_
        obtain ⟨rfl, rfl, rfl⟩ := he
        simp only [if_neg hj]
        exact ⟨rfl, rfl, rfl⟩
    | ret =>
      refine ⟨.ret, env1, σ1, hq, ?_⟩
      show vc P a _ env σ
      refine vc_mono h1 fun e1 en s he => ?_
      obtain ⟨rfl, rfl, rfl⟩ := he
      exact ⟨rfl, rfl, rfl⟩
  | lop a ih =>
    intro Q env σ h
    obtain ⟨I, μ, hI, hs⟩ := h
    have key : ∀ m env σ, μ env σ = m → I env σ → ∃ e env' σ', Q e env' σ' ∧ LB P a I μ e env' σ' env σ := by
      intro m
      induction m using Nat.strongRecOn with
      | _ m ihm =>
        intro env σ hm hi
        obtain ⟨e, env1, σ1, hq, h1⟩ := ih (hs env σ hi)
        cases e with
        | nxt =>
          obtain ⟨e, env', σ', hq', hl⟩ := ihm _ (hm ▸ hq.2) env1 σ1 rfl hq.1
          exact ⟨e, env', σ', hq', .more hi h1 hq.2 hl⟩
        | ext j => exact ⟨.ext j, env1, σ1, hq, .out hi (by simp) h1⟩
        | ret => exact ⟨.ret, env1, σ1, hq, .out hi (by simp) h1⟩
    obtain ⟨e, env', σ', hq, hl⟩ := key _ env σ rfl hI
    refine ⟨e, env', σ', hq, LB P a I μ e env' σ', μ, hl, fun env σ hl => ?_⟩
    cases hl with
    | out hi hne h1 =>
      refine vc_mono h1 fun e1 en s he => ?_
      obtain ⟨rfl, rfl, rfl⟩ := he
      cases e1 with
      | nxt => exact absurd rfl hne
      | ext j => exact ⟨rfl, rfl, rfl⟩
      | ret => exact ⟨rfl, rfl, rfl⟩
    | more hi h1 hlt hl =>
      refine vc_mono h1 fun e1 en s he => ?_
      obtain ⟨rfl, rfl, rfl⟩ := he
      exact ⟨hl, hlt⟩
  | ext id => intro Q env σ h; exact ⟨_, _, _, h, rfl, rfl, rfl⟩
  | ret => intro Q env σ h; exact ⟨_, _, _, h, rfl, rfl, rfl⟩
section fns
variable {P : Program}
def resRun (tmps : Array Value) : ResultVar → Sem Value
  | .tmp t => pure (tmps.getD t undef)
  | .cell p t => do loadVar t (← asAddr (tmps.getD p undef))
theorem results_eq (fn : Func) (tmps : Array Value) : results fn tmps = (fn.results.mapM (resRun tmps) >>= fun vs => pure (if h : vs.size = 1 then vs[0] else .tuple vs)) := rfl
theorem run_rs {n : Nat} {w0 w1 w : World} {ρ0 ρ : Rho} {σ0 σ : St} {env : Env} {a : Act} (hA : At n w0 ρ0 σ0 w1 env σ ρ a w) {rv : ResultVar} {r : Rs} {v : GV} (hr : compRs P rv = some r) (hv : r.ev env σ = some v) :
    ∃ u, ((resRun a.tmps rv).run P w = .ok u w) ∧ vRel ρ v u := by
  cases rv with
  | tmp t =>
    simp only [compRs, Option.some.injEq] at hr
    subst hr
    simp only [Rs.ev, Option.some.injEq] at hv
    subst hv
    exact ⟨_, rfl, hA.env t⟩
  | cell p t =>
    obtain ⟨c, hc, rfl⟩ := Option.map_eq_some_iff.1 hr
    obtain ⟨d, ti, hd, hi, hag, hn, hn1⟩ := cellsG_spec hc
    simp only [Rs.ev, Option.bind_eq_some_iff] at hv
    obtain ⟨q, hq, cs, hcs, r, hr, hv⟩ := hv
    have hp := hA.env p
    cases hpv : env p <;> rw [hpv] at hq <;> simp only [ptrG, Option.some.injEq, reduceCtorEq] at hq
    subst hq
    rw [hpv] at hp
    obtain ⟨L, hL, hpu⟩ := vRel_ptr hp
    obtain ⟨u, hrun, hu⟩ := load_run (P := P) hA.good hd hag hi hn hn1 hL hcs hr hv
    simp only [Act.eval] at hpu
    refine ⟨u, ?_, hu.v⟩
    simp only [resRun, hpu, asAddr, Sem.run_bind, Sem.run_pure, Result.andThen_ok, hrun]
theorem run_rss {n : Nat} {w0 w1 w : World} {ρ0 ρ : Rho} {σ0 σ : St} {env : Env} {a : Act} (hA : At n w0 ρ0 σ0 w1 env σ ρ a w) : ∀ {rvs : List ResultVar} {rs : List Rs} {vs : List GV}, optAll (compRs P) rvs = some rs → optAll (Rs.ev env σ) rs = some vs →
    ∃ us, ((rvs.mapM (resRun a.tmps)).run P w = .ok us w) ∧ All2 (vRel ρ) vs us
  | [], rs, vs, h, hv => by
    simp only [optAll, Option.some.injEq] at h
    subst h
    simp only [optAll, Option.some.injEq] at hv
    subst hv
    exact ⟨[], rfl, .nil⟩
  | rv :: rvs, rs, vs, h, hv => by
    simp only [optAll, Option.bind_eq_some_iff, Option.map_eq_some_iff] at h
    obtain ⟨r, hr, rs', hrs, rfl⟩ := h
    simp only [optAll, Option.bind_eq_some_iff, Option.map_eq_some_iff] at hv
    obtain ⟨v, hv, vs', hvs, rfl⟩ := hv
    obtain ⟨u, hu, hur⟩ := run_rs hA hr hv
    obtain ⟨us, hus, hur'⟩ := run_rss hA hrs hvs
    refine ⟨u :: us, ?_, .cons hur hur'⟩
    rw [List.mapM_cons]
    simp only [Sem.run_bind, hu, Result.andThen_ok, hus, Sem.run_pure]
theorem run_results {n : Nat} {w0 w1 w : World} {ρ0 ρ : Rho} {σ0 σ : St} {env : Env} {a : Act} {fn : Func} {rs : List Rs} {v : GV} (hA : At n w0 ρ0 σ0 w1 env σ ρ a w) (hr : optAll (compRs P) fn.results.toList = some rs) (hv : resG env σ rs = some v) :
    ∃ u, (results fn a.tmps).run P w = .ok u w ∧ vRel ρ v u := by
  have hm : ∀ us, ((fn.results.toList.mapM (resRun a.tmps)).run P w = .ok us w) → (results fn a.tmps).run P w = .ok (if h : us.toArray.size = 1 then us.toArray[0] else .tuple us.toArray) w := by
    intro us hus
    rw [results_eq, ← Array.toArray_toList (xs := fn.results), List.mapM_toArray, map_eq_pure_bind]
    simp only [Sem.run_bind]
    rw [hus]
    simp only [Result.andThen_ok, Sem.run_pure]
  have gen : ∀ vs, optAll (Rs.ev env σ) rs = some vs → vs.length ≠ 1 → vs.all notTup = true → v = .tup vs → ∃ u, (results fn a.tmps).run P w = .ok u w ∧ vRel ρ v u := by
    intro vs hvs h1 hnt hv
    obtain ⟨us, hus, hur⟩ := run_rss hA hr hvs
    refine ⟨_, hm us hus, ?_⟩
    have : us.toArray.size ≠ 1 := by rw [List.size_toArray, ← hur.length]; exact h1
    rw [dif_neg this, hv]
    refine ⟨us, rfl, hur.imp_mem fun x u hx hxu => ?_⟩
    have hx2 := List.all_eq_true.1 hnt x hx
    cases x with
    | tup _ => simp [notTup] at hx2
    | _ => exact hxu
  unfold resG at hv
  split at hv
  · rename_i r
    obtain ⟨us, hus, hur⟩ := run_rss hA hr (vs := [v]) (by simp [optAll, hv])
    match us, hur, hus with
    | [u], .cons h1 _, hus => exact ⟨u, hm [u] hus, h1⟩
  · rename_i hne
    obtain ⟨vs, hvs, hv⟩ := Option.bind_eq_some_iff.1 hv
    split at hv
    · rename_i hnt
      injection hv with hv
      refine gen vs hvs ?_ hnt hv.symm
      have := (optAll_all2 hvs).length
      rw [← this]
      intro h1
      match rs, h1, hne with
      | [r], _, hne => exact hne r rfl
    · cases hv
/-- A function's contract, out of its code. -/
theorem fn_ret {f : Nat} {F : Fn1} {args : List GV} {σ : St} {Post : GV → St → Prop} (hF : compFn P f = some F) (hl : args.length ≤ F.n)
    (h : vc P F.c (fun e env τ => (∀ j, e ≠ .ext j) ∧ σ.length ≤ τ.length ∧ ∃ r, resG env τ F.rs = some r ∧ Post r τ) (env0 args) σ) : ∃ r τ, Ret P f args σ r τ ∧ Post r τ := by
  obtain ⟨e, env', τ, ⟨hne, hlen, r, hr, hp⟩, hd⟩ := vc_det h
  refine ⟨r, τ, ⟨?_, hlen, fun w0 ρ w us hG ha => ?_⟩, hp⟩
  · unfold compFn at hF
    obtain ⟨fn, hfn, hF⟩ := Option.bind_eq_some_iff.1 hF
    obtain ⟨c, hc, hF⟩ := Option.bind_eq_some_iff.1 hF
    split at hF
    · cases hF
    · rename_i hn
      simp [callable, hfn, hc, hn]
  · unfold compFn at hF
    obtain ⟨fn, hfn, hF⟩ := Option.bind_eq_some_iff.1 hF
    obtain ⟨c, hc, hF⟩ := Option.bind_eq_some_iff.1 hF
    split at hF
    · cases hF
    · obtain ⟨rs, hrs, hF⟩ := Option.bind_eq_some_iff.1 hF
      obtain ⟨d, hcd, rfl⟩ := Option.map_eq_some_iff.1 hF
      have hul := ha.length
      refine calls_of_wp hfn hc (vc_sound hcd hd (n := fn.ntmps) (w0 := w0) (w1 := w) (ρ0 := ρ) (σ0 := σ) (ρ := ρ) ?_ fun e1 env1 τ1 ρ' a' w' he hA => ?_)
      · refine { env := fun t => ?_, good := hG, size := ?_, defers := rfl, len := Nat.le_refl _, sub := fun _ _ => rfl, frame := Frame.refl _ _ _ }
        · simp only [Act.eval, env0]
          rcases Nat.lt_or_ge t args.length with h1 | h1
          · have e1 : args[t]? = some args[t] := List.getElem?_eq_getElem h1
            obtain ⟨u, hu, hr⟩ := ha.get e1
            have e2 : (us.toArray ++ Array.replicate (fn.ntmps - us.toArray.size) undef)[t]? = some u := by
              rw [Array.getElem?_append_left (by simp; omega)]
              simpa using hu
            rw [List.getD_eq_getElem?_getD, e1, Array.getD_eq_getD_getElem?, e2]
            exact hr
          · rw [List.getD_eq_getElem?_getD, List.getElem?_eq_none h1]
            have e2 : (us.toArray ++ Array.replicate (fn.ntmps - us.toArray.size) undef).getD t undef = undef := by
              rw [Array.getD_eq_getD_getElem?, Array.getElem?_append_right (by simp; omega)]
              rw [Array.getElem?_replicate]
              split <;> rfl
            rw [e2]
            exact ⟨[], rfl, .nil⟩
        · simp only [Array.size_append, Array.size_replicate, List.size_toArray]
          simp only at hl
          omega
      · obtain ⟨rfl, rfl, rfl⟩ := he
        obtain ⟨u, hu, hv⟩ := run_results hA hrs hr
        cases e1 with
        | nxt => exact ⟨hA.defers, u, hu, ρ', hA.sub, hv, hA.good, hA.frame⟩
        | ret => exact ⟨hA.defers, u, hu, ρ', hA.sub, hv, hA.good, hA.frame⟩
        | ext j => exact absurd rfl (hne j)
/-- What is named of a call's result by the caller alone. -/
theorem Ret.trunc {f : Nat} {args : List GV} {σ τ : St} {r : GV} (h : Ret P f args σ r τ) (hp : σ <+: τ) (hr : vLt σ.length r) : Ret P f args σ r σ := by
  refine ⟨h.1, Nat.le_refl _, fun w0 ρ w us hG ha => (h.2.2 w0 ρ w us hG ha).mono fun e w' he => ?_⟩
  cases e with
  | panicked _ => exact he
  | outgrown => exact he
  | returned u =>
    obtain ⟨ρ', hs, hv, hG', hF⟩ := he
    obtain ⟨ex, rfl⟩ := hp
    have hcl : ∀ (g : Nat) B, g < σ.length → (σ ++ ex)[g]? = some (some B) → B.lt σ.length := fun g B hg hB => by
      rw [List.getElem?_append_left hg] at hB
      exact hG.closed g B hB
    have hT := hG'.trunc (n := σ.length) (by simp) hcl
    rw [List.take_left] at hT
    refine ⟨Good.cut ρ' σ.length, fun g hg => by rw [Good.cut_lt hg, hs g hg], hv.back (n := σ.length) (fun g hg => (Good.cut_lt hg).symm ▸ rfl) hr, hT, ?_⟩
    exact .of hF.2.1 hF.2.2 fun g B L hB hL ho hlt => hF.1 g B L (by
      have hg : g < σ.length := (List.getElem?_eq_some_iff.1 hB).1
      rw [List.getElem?_append_left hg]; exact hB) (Good.cut_some hL).2 ho hlt
theorem tagged_symm {σ τ : St} (h : Good.tagged σ τ) : Good.tagged τ σ := ⟨h.1.symm, fun g => by
  have := h.2 g
  revert this
  generalize (σ[g]?).join = x
  generalize (τ[g]?).join = y
  intro this
  cases x with
  | none => cases y with
    | none => rfl
    | some B => cases B <;> cases this
  | some A => cases y with
    | none => cases A <;> cases this
    | some B => cases A <;> cases B <;> first | (cases this; done) | (cases this; rfl) | exact ⟨this.1.symm, this.2.symm⟩⟩
/-- Whether rows of our own are written or not makes no difference to a call. -/
theorem Ret.retag {f : Nat} {args : List GV} {σ σ1 τ τ1 : St} {r : GV} (h : Ret P f args σ r τ) (hs : Good.tagged σ σ1) (ht : Good.tagged τ τ1) : Ret P f args σ1 r τ1 := by
  refine ⟨h.1, by rw [← hs.1, ← ht.1]; exact h.2.1, fun w0 ρ w us hG ha => (h.2.2 w0 ρ w us (hG.retag (tagged_symm hs)) ha).mono fun e w' he => ?_⟩
  cases e with
  | panicked _ => exact he
  | outgrown => exact he
  | returned u =>
    obtain ⟨ρ', hsub, hv, hG', hF⟩ := he
    refine ⟨ρ', fun g hg => hsub g (by rw [hs.1]; exact hg), hv, hG'.retag ht, .of hF.2.1 (fun b hb hno => hF.2.2 b hb fun g B L hB hL ho => ?_) fun g B L hB hL ho hlt => ?_⟩
    · obtain ⟨B', h1, _⟩ := Good.retag_some (tagged_symm hs) hB
      exact hno g B' L h1 hL ho
    · obtain ⟨B', h1, _⟩ := Good.retag_some ht hB
      obtain ⟨g0, B0, L0, k1, k2, k3, k4⟩ := hF.1 g B' L h1 hL ho hlt
      obtain ⟨B1, h2, _⟩ := Good.retag_some (tagged_symm hs) k1
      exact ⟨g0, B1, L0, h2, k2, k3, k4⟩
end fns
end Go.Proofs.Ytopannfdcikgiaa.Sy
