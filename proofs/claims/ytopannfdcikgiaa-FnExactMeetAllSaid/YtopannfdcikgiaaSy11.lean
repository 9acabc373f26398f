/- The machine does each operation as the plain one says. -/
import Derived.Test.YtopannfdcikgiaaSy10
namespace Go.Proofs.Ytopannfdcikgiaa.Sy
open Go Go.RowKit
section ops
variable {P : Program} {w0 w : World} {ρ : Rho} {σ : St}
theorem Does.of_run {o : Oper} {a : Act} {m : Sem Value} {u : Value} {v : GV} (he : execOp a.eval o = (do pure (.value (← m)))) (hr : m.run P w = .ok u w) (hG : Good w0 ρ σ w) (hv : vRel ρ v u) : Does P o a w0 ρ σ w v σ :=
  .res he (.pure hG hr hv)
theorem callFunc_ok {f : Nat} {us : Array Value} (h : callable P f = true) : (callFunc f us).run P w = .ok (.enter f us) w := by
  unfold callable at h
  split at h
  · rename_i fn hf
    simp only [Bool.and_eq_true, bne_iff_ne, ne_eq] at h
    obtain ⟨hn, hb⟩ := h
    obtain ⟨c, hb'⟩ := Option.isSome_iff_exists.1 hb
    simp [callFunc, hf, hn, hb']
  · cases h
theorem Does.call {o : Oper} {a : Act} {f : Nat} {us : List Value} {args : List GV} {v : GV} {σ' : St} (he : (execOp a.eval o).run P w = .ok (.enter f us.toArray) w) (hR : Ret P f args σ v σ') (hG : Good w0 ρ σ w) (ha : All2 (vRel ρ) args us) : Does P o a w0 ρ σ w v σ' := by
  intro k hn
  rw [he]
  refine (hR.2.2 w0 ρ w us hG ha).mono fun e w' h => ?_
  cases e with
  | returned u =>
    obtain ⟨ρ', hs, hv, hG', hF⟩ := h
    exact hn ρ' u w' hs hv hG' hF
  | panicked _ => exact h.elim
  | outgrown => exact h.elim
theorem step_app {o : Oper} {a : Act} {env : Env} {s0 x0 : Operand} {t t2 : TypeId} {s x : Opd} {i : Ins} {v : GV} {σ' : St} (hx' : execOp a.eval o = (do pure (.value (← Builtin.append_ #[t, t2] o.type #[a.eval s0, a.eval x0])))) (h : compApp P t t2 s x = some i)
    (hsr : vRel ρ (s.ev env) (a.eval s0)) (hxr : vRel ρ (x.ev env) (a.eval x0)) (hG : Good w0 ρ σ w) (hs : exec env σ i = some (v, σ')) : Does P o a w0 ρ σ w v σ' := by
  unfold compApp at h
  obtain ⟨e, hte, h⟩ := Option.bind_eq_some_iff.1 h
  obtain ⟨r, hr, h⟩ := Option.bind_eq_some_iff.1 h
  have ht := isSlTy_spec hte
  obtain ⟨ti, zv, hi, hz, hza, hzs, hsz, hby, e1, e2⟩ := rowG_spec hr
  have key : ∃ d2, P.underlying t2 = some d2 ∧ ((∃ e', d2 = .slice e') ∨ d2 = .string) ∧ i = .app r.1 r.2.1 r.2.2 s x := by
    split at h
    · rename_i e' hu; injection h with h; exact ⟨_, hu, .inl ⟨e', rfl⟩, h.symm⟩
    · rename_i hu; injection h with h; exact ⟨_, hu, .inr rfl, h.symm⟩
    · cases h
  obtain ⟨d2, ht2, hd2, rfl⟩ := key
  have slice : ∀ X : GV, x.ev env = X → (∀ b, X ≠ .str b) → (elems σ r.1 X).bind (fun q => appG r.1 r.2.1 σ (s.ev env) q.1 q.2) = some (v, σ') → Does P o a w0 ρ σ w v σ' := by
    intro X hX _ hb
    rw [hX] at hxr
    obtain ⟨q, hq, hb⟩ := Option.bind_eq_some_iff.1 hb
    rw [e1] at hq
    obtain ⟨us, hul, hua, hcase⟩ := hG.elems hxr hq
    rw [e1, e2] at hb
    refine .res hx' (res_app hG ht ht2 hd2 hi hz hzs hsz hby hsr (n := q.1) (uns := us) ?_ ?_ hul hua hb)
    · intro w
      rcases hcase with ⟨⟨ad, cap, hu⟩, h0⟩ | ⟨g, off, ad, cap, _, hu, _, _⟩ <;> rw [hu]
      · rw [h0]; rfl
      · rfl
    · intro w' hw'
      rcases hcase with ⟨⟨ad, cap, hu⟩, h0⟩ | ⟨g, off, ad, cap, _, hu, _, hc⟩ <;> rw [hu]
      · have : us = [] := List.eq_nil_of_length_eq_zero (by rw [hul, h0]; simp)
        subst this
        cases ad with
        | none => exact run_firstCells_none _ _ _ _ _
        | some ad => exact run_firstCells_some w' ti.size q.1 ad 0 cap [] (by rw [h0]; simp) fun j v hj => by simp at hj
      · exact run_firstCells_some w' ti.size q.1 ad q.1 cap us hul fun j v hj => hw' _ _ (hc j v hj)
  simp only [exec] at hs
  split at hs
  · rename_i b hb
    split at hs
    · rename_i h1
      rw [hb] at hxr
      have hxr := vRel_str hxr
      rw [e1, e2] at hs
      refine .res hx' (res_app hG ht ht2 hd2 hi hz hzs hsz hby hsr (n := b.size) (uns := b.data.toList.map fun c => .int .u8 c.toNat) ?_ ?_ ?_ ?_ hs)
      · intro w; rw [hxr]; rfl
      · intro w' _; rw [hxr]
        simp only [Builtin.firstCells, Sem.run_pure]
        have he : b.extract 0 b.size = b := by
          apply ByteArray.ext; simp
        rw [he]
        congr 1
        apply Array.ext'
        simp
      · simp [← e1, h1]
      · have : ∀ l : List UInt8, All2 (sRel ρ) (l.map fun c => .int .u8 c.toNat) (l.map fun c => .int .u8 c.toNat) := by
          intro l
          induction l with
          | nil => exact .nil
          | cons c l ih => exact .cons rfl ih
        exact this _
    · cases hs
  · rename_i hne
    exact slice _ rfl (fun b hb => hne b hb) hs
theorem step_builtin {o : Oper} {a : Act} {b : Builtin} {xs : List Operand} {ts : List TypeId} {env : Env} {i : Ins} {v : GV} {σ' : St} (hop : o.op = .call { callee := .builtin b, args := xs.toArray, argTypes := ts.toArray }) (h : compBuiltin P b xs ts = some i) (he : EnvOn ρ env a o.op.operands.toList) (hG : Good w0 ρ σ w) (hs : exec env σ i = some (v, σ')) : Does P o a w0 ρ σ w v σ' := by
  unfold compBuiltin at h
  split at h
  · rename_i x t
    have hx' : execOp a.eval o = (do pure (.value (← Builtin.len_ #[t] o.type #[a.eval x]))) := by unfold execOp; rw [hop]; simp only [resolve, List.map_toArray, List.map_cons, List.map_nil]; rfl
    have fin : ∀ (str : Bool) (d : TypeDesc), P.underlying t = some d → ((str = true ∧ d = .string) ∨ (str = false ∧ ∃ e, d = .slice e)) → (opd x).map (Ins.len str) = some i → Does P o a w0 ρ σ w v σ' := by
      intro str d hd hd2 h
      obtain ⟨x', hx, rfl⟩ := Option.map_eq_some_iff.1 h
      simp only [exec, Option.map_eq_some_iff, Prod.mk.injEq] at hs
      obtain ⟨n, hn, rfl, rfl⟩ := hs
      exact .of_run hx' (run_len hd hd2 (opd_on hx he (by rw [hop]; simp [Op.operands, Call.operands])) hn) hG rfl
    split at h
    · rename_i hu; exact fin true _ hu (.inl ⟨rfl, rfl⟩) h
    · rename_i e hu; exact fin false _ hu (.inr ⟨rfl, e, rfl⟩) h
    · cases h
  · rename_i s x t t2
    have hx' : execOp a.eval o = (do pure (.value (← Builtin.append_ #[t, t2] o.type #[a.eval s, a.eval x]))) := by unfold execOp; rw [hop]; simp only [resolve, List.map_toArray, List.map_cons, List.map_nil]; rfl
    obtain ⟨s', hs0, h⟩ := Option.bind_eq_some_iff.1 h
    obtain ⟨x', hx0, h⟩ := Option.bind_eq_some_iff.1 h
    exact step_app hx' h (opd_on hs0 he (by rw [hop]; simp [Op.operands, Call.operands])) (opd_on hx0 he (by rw [hop]; simp [Op.operands, Call.operands])) hG hs
  · rename_i x y
    have hx' : execOp a.eval o = (do pure (.value (← Builtin.max_ ts.toArray o.type #[a.eval x, a.eval y]))) := by unfold execOp; rw [hop]; simp only [resolve, List.map_toArray, List.map_cons, List.map_nil]; rfl
    obtain ⟨x', hx0, h⟩ := Option.bind_eq_some_iff.1 h
    obtain ⟨y', hy0, rfl⟩ := Option.map_eq_some_iff.1 h
    simp only [exec] at hs
    split at hs
    · rename_i k p k' q h1 h2
      injection hs with hs
      injection hs with hs1 hs2
      subst hs1; subst hs2
      exact .of_run hx' (run_mm (mx := true) (opd_on hx0 he (by rw [hop]; simp [Op.operands, Call.operands])) (opd_on hy0 he (by rw [hop]; simp [Op.operands, Call.operands])) h1 h2 ts.toArray o.type) hG rfl
    · cases hs
  · rename_i x y
    have hx' : execOp a.eval o = (do pure (.value (← Builtin.min_ ts.toArray o.type #[a.eval x, a.eval y]))) := by unfold execOp; rw [hop]; simp only [resolve, List.map_toArray, List.map_cons, List.map_nil]; rfl
    obtain ⟨x', hx0, h⟩ := Option.bind_eq_some_iff.1 h
    obtain ⟨y', hy0, rfl⟩ := Option.map_eq_some_iff.1 h
    simp only [exec] at hs
    split at hs
    · rename_i k p k' q h1 h2
      injection hs with hs
      injection hs with hs1 hs2
      subst hs1; subst hs2
      exact .of_run hx' (run_mm (mx := false) (opd_on hx0 he (by rw [hop]; simp [Op.operands, Call.operands])) (opd_on hy0 he (by rw [hop]; simp [Op.operands, Call.operands])) h1 h2 ts.toArray o.type) hG rfl
    · cases hs
  · cases h
def Ins.isCall : Ins → Bool
  | .call _ _ => true
  | .callv _ _ => true
  | _ => false
theorem step_exec {env : Env} {i : Ins} {v : GV} {σ' : St} (h : i.isCall = false) (hs : Step P env σ i v σ') : exec env σ i = some (v, σ') := by
  cases i <;> first | exact hs | cases h
theorem compBuiltin_notCall {b : Builtin} {xs : List Operand} {ts : List TypeId} {i : Ins} (h : compBuiltin P b xs ts = some i) : i.isCall = false := by
  unfold compBuiltin at h
  split at h
  · split at h
    · obtain ⟨_, _, rfl⟩ := Option.map_eq_some_iff.1 h; rfl
    · obtain ⟨_, _, rfl⟩ := Option.map_eq_some_iff.1 h; rfl
    · cases h
  · obtain ⟨s', hs0, h⟩ := Option.bind_eq_some_iff.1 h
    obtain ⟨x', hx0, h⟩ := Option.bind_eq_some_iff.1 h
    unfold compApp at h
    obtain ⟨e, hte, h⟩ := Option.bind_eq_some_iff.1 h
    obtain ⟨r, hr, h⟩ := Option.bind_eq_some_iff.1 h
    split at h
    · injection h with h; subst h; rfl
    · injection h with h; subst h; rfl
    · cases h
  · obtain ⟨x', hx0, h⟩ := Option.bind_eq_some_iff.1 h
    obtain ⟨y', hy0, rfl⟩ := Option.map_eq_some_iff.1 h
    rfl
  · obtain ⟨x', hx0, h⟩ := Option.bind_eq_some_iff.1 h
    obtain ⟨y', hy0, rfl⟩ := Option.map_eq_some_iff.1 h
    rfl
  · cases h
theorem step_call {o : Oper} {a : Act} {c : Call} {env : Env} {i : Ins} {v : GV} {σ' : St} (hop : o.op = .call c) (h : compCall P c = some i) (he : EnvOn ρ env a o.op.operands.toList) (hG : Good w0 ρ σ w) (hs : Step P env σ i v σ') : Does P o a w0 ρ σ w v σ' := by
  obtain ⟨callee, args, argTypes⟩ := c
  unfold compCall at h
  simp only at h
  split at h
  · rename_i b
    exact step_builtin (xs := args.toList) (ts := argTypes.toList) (by simpa using hop) h he hG (step_exec (compBuiltin_notCall h) hs)
  · rename_i f
    obtain ⟨xs, hxs, rfl⟩ := Option.map_eq_some_iff.1 h
    refine .call (us := (args.toList.map a.eval)) ?_ hs hG (opds_on hxs he (fun x hx => by rw [hop]; simp only [Op.operands, Call.operands, Array.toList_append]; exact List.mem_append_right _ hx))
    unfold execOp
    rw [hop]
    simp only [resolve, Act.eval, Deferred.ofValue, Sem.run_bind, Sem.run_pure, Result.andThen_ok, invoke, Array.append_empty]
    rw [callFunc_ok hs.1]
    congr 2
    apply Array.ext'
    simp
  · rename_i t
    obtain ⟨xs, hxs, rfl⟩ := Option.map_eq_some_iff.1 h
    obtain ⟨f, caps, hf, hR⟩ := hs
    have hv := he (.tmp t) (by rw [hop]; simp [Op.operands, Call.operands]) (.t t) rfl
    simp only [Opd.ev] at hf hv
    rw [hf] at hv
    obtain ⟨vs, hvs, hcs⟩ := hv
    refine .call (us := (args.toList.map a.eval ++ vs)) ?_ hR hG ((opds_on hxs he (fun x hx => by rw [hop]; simp only [Op.operands, Call.operands, Array.toList_append]; exact List.mem_append_right _ hx)).append ?_)
    · unfold execOp
      rw [hop]
      simp only [resolve, hvs, Deferred.ofValue, Sem.run_bind, Sem.run_pure, Result.andThen_ok, invoke]
      rw [callFunc_ok hR.1]
      congr 2
      apply Array.ext'
      simp
    · clear hvs hf hR
      induction hcs with
      | nil => exact .nil
      | cons h _ ih => exact .cons h ih
  · cases h
end ops
end Go.Proofs.Ytopannfdcikgiaa.Sy
