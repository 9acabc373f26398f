/- The machine does each operation as the plain one says: the rest. -/
import Derived.Test.YtopannfdcikgiaaSy11
namespace Go.Proofs.Ytopannfdcikgiaa.Sy
open Go Go.RowKit
section ops
variable {P : Program} {w0 w : World} {ρ : Rho} {σ : St}
theorem parts_rel {fs : Array Field} {P : Program} {env : Env} {a : Act} {L : List Operand} (he : EnvOn ρ env a L) : ∀ {ps : List (Nat × Operand)} {qs : List (Nat × Nat × Opd)}, (∀ p ∈ ps, p.2 ∈ L) → optAll (partG fs P) ps = some qs →
    All2 (fun (p : Nat × Value) (q : Nat × Nat × GV) => ((fs[p.1]?).bind fun f => (P.info? f.type).map fun i => (f.offset, i.size)) = some (q.1, q.2.1) ∧ vRel ρ q.2.2 p.2) (ps.map fun p => (p.1, a.eval p.2)) (qs.map fun p => (p.1, p.2.1, p.2.2.ev env)) := by
  intro ps qs hL h
  have := optAll_all2 h
  clear h
  induction this with
  | nil => exact .nil
  | cons h _ ih =>
    refine .cons ?_ (ih fun p hp => hL p (List.mem_cons_of_mem _ hp))
    unfold partG at h
    obtain ⟨f, hf, h⟩ := Option.bind_eq_some_iff.1 h
    obtain ⟨i, hi, h⟩ := Option.bind_eq_some_iff.1 h
    obtain ⟨x, hx, rfl⟩ := Option.map_eq_some_iff.1 h
    exact ⟨by simp [hf, hi], opd_on hx he (hL _ List.mem_cons_self)⟩
theorem partsE_rel {n : Nat} {env : Env} {a : Act} {L : List Operand} (he : EnvOn ρ env a L) : ∀ {ps : List (Nat × Operand)} {qs : List (Nat × Nat × Opd)}, (∀ p ∈ ps, p.2 ∈ L) → optAll (partE n) ps = some qs →
    All2 (fun (p : Nat × Value) (q : Nat × Nat × GV) => some (p.1 * n, n) = some (q.1, q.2.1) ∧ vRel ρ q.2.2 p.2) (ps.map fun p => (p.1, a.eval p.2)) (qs.map fun p => (p.1, p.2.1, p.2.2.ev env)) := by
  intro ps qs hL h
  have := optAll_all2 h
  clear h
  induction this with
  | nil => exact .nil
  | cons h _ ih =>
    refine .cons ?_ (ih fun p hp => hL p (List.mem_cons_of_mem _ hp))
    unfold partE at h
    obtain ⟨x, hx, rfl⟩ := Option.map_eq_some_iff.1 h
    exact ⟨rfl, opd_on hx he (hL _ List.mem_cons_self)⟩
theorem run_build {t : TypeId} {fs : Array Field} {zero cs : List GV} {ps : List (Nat × Value)} {qs : List (Nat × Nat × GV)} (hu : P.underlying t = some (.struct fs)) (hz : zeroG P t = some zero) (hfs : ∀ f ∈ fs.toList, (P.info? f.type).isSome = true)
    (hp : All2 (fun (p : Nat × Value) (q : Nat × Nat × GV) => ((fs[p.1]?).bind fun f => (P.info? f.type).map fun i => (f.offset, i.size)) = some (q.1, q.2.1) ∧ vRel ρ q.2.2 p.2) ps qs) (hf : fillG zero qs = some cs) :
    ∃ u, (Instr.build t ps.toArray).run P w = .ok u w ∧ vRel ρ (.agg cs) u := by
  obtain ⟨i, zv, hi, hzv, hza⟩ := zeroG_spec hz
  have hmap : ∀ (l : List Field), (∀ f ∈ l, (P.info? f.type).isSome = true) → ∃ r : List (Nat × Nat), (l.mapM (m := Sem) fun f => do pure (f.offset, ← sizeOf f.type)).run P w = .ok r w ∧ r.length = l.length ∧ ∀ (j : Nat) f, l[j]? = some f → ∃ i, P.info? f.type = some i ∧ r[j]? = some (f.offset, i.size) := by
    intro l hl
    induction l with
    | nil => exact ⟨[], rfl, rfl, fun j f h => by simp at h⟩
    | cons f l ih =>
      obtain ⟨r, hr, hrl, hr2⟩ := ih (fun g hg => hl g (List.mem_cons_of_mem _ hg))
      obtain ⟨i, hi⟩ := Option.isSome_iff_exists.1 (hl f List.mem_cons_self)
      refine ⟨(f.offset, i.size) :: r, ?_, by simp [hrl], fun j g h => ?_⟩
      · simp only [List.mapM_cons, Sem.run_bind, run_size hi, Result.andThen_ok, Sem.run_pure, hr]
      · cases j with
        | zero => simp at h; subst h; exact ⟨i, hi, rfl⟩
        | succ j => exact hr2 j g (by simpa using h)
  obtain ⟨r, hr, hrl, hr2⟩ := hmap fs.toList hfs
  have hp' : All2 (fun (p : Nat × Value) (q : Nat × Nat × GV) => r.toArray[p.1]? = some (q.1, q.2.1) ∧ vRel ρ q.2.2 p.2) ps qs := hp.imp fun p q hh => by
    refine ⟨?_, hh.2⟩
    obtain ⟨f, hf, h2⟩ := Option.bind_eq_some_iff.1 hh.1
    obtain ⟨i', hi', h3⟩ := hr2 p.1 f (by simpa using hf)
    rw [hi'] at h2
    simp only [Option.map_some] at h2
    rw [← h2]
    simpa using h3
  obtain ⟨cells, hc, hca⟩ := fill_rel (place := fun j => r.toArray[j]?) hf (hza ρ) hp'
  refine ⟨.agg cells, ?_, cells.toList, rfl, hca⟩
  have hm : (fs.mapM (m := Sem) fun f => do pure (f.offset, ← sizeOf f.type)).run P w = .ok r.toArray w := by
    rw [← Array.toArray_toList (xs := fs)]
    rw [List.mapM_toArray]
    rw [map_eq_pure_bind]
    simp only [Sem.run_bind, hr, Result.andThen_ok, Sem.run_pure]
  simp only [Instr.build, Sem.run_bind, run_zero hi hzv, Result.andThen_ok, run_underlying hu, hm, hc, Sem.run_pure]
theorem step_cmp {o : Oper} {a : Act} {env : Env} {op : BinOp} {neg : Bool} {t ty : TypeId} {x0 y0 : Operand} {x y : Opd} {i : Ins} {v : GV} {σ' : St} (hop : o.op = .binOp op t x0 y0 ty) (hx : opd x0 = some x) (hy : opd y0 = some y) (hn : (op = .eql ∧ neg = false) ∨ (op = .neq ∧ neg = true))
    (h : compCmp P neg op t x y = some i) (he : EnvOn ρ env a o.op.operands.toList) (hG : Good w0 ρ σ w) (hs : exec env σ i = some (v, σ')) : Does P o a w0 ρ σ w v σ' := by
  have hx' : execOp a.eval o = (do pure (.value (← (do eqGuard op t x0 y0 (a.eval x0) (a.eval y0); binOp op t (a.eval x0) (a.eval y0) : Sem Value)))) := by unfold execOp; rw [hop]
  have hxr := opd_on hx he (by rw [hop]; simp [Op.operands, Call.operands])
  have hyr := opd_on hy he (by rw [hop]; simp [Op.operands, Call.operands])
  have bin : exec env σ (.bin op x y) = some (v, σ') → Does P o a w0 ρ σ w v σ' := fun hs => by
    simp only [exec, Option.map_eq_some_iff, Prod.mk.injEq] at hs
    obtain ⟨r, hr, rfl, rfl⟩ := hs
    obtain ⟨u, hu, hv⟩ := run_bin (P := P) (w := w) (t := t) (ox := x0) (oy := y0) hxr hyr hr
    exact .of_run hx' hu hG hv
  have nil : ∀ p d, P.underlying t = some d → ((p = false ∧ ∃ e, d = .slice e) ∨ (p = true ∧ ∃ e, d = .pointer e)) → exec env σ (.eqn p neg x y) = some (v, σ') → Does P o a w0 ρ σ w v σ' := fun p d hd hdd hs => by
    simp only [exec, Option.map_eq_some_iff, Prod.mk.injEq] at hs
    obtain ⟨b, hb, rfl, rfl⟩ := hs
    exact .of_run hx' (run_eqn hd hdd hn hxr hyr hb) hG rfl
  unfold compCmp at h
  split at h
  · rename_i hu
    injection h with h; subst h
    simp only [exec, Option.bind_eq_some_iff, Option.map_eq_some_iff, Prod.mk.injEq] at hs
    obtain ⟨b1, h1, b2, h2, rfl, rfl⟩ := hs
    exact .of_run hx' (run_eqb hu hn hxr hyr h1 h2) hG rfl
  · rename_i e hu
    injection h with h; subst h
    exact nil false _ hu (.inl ⟨rfl, e, rfl⟩) hs
  · rename_i e hu
    injection h with h; subst h
    exact nil true _ hu (.inr ⟨rfl, e, rfl⟩) hs
  · rename_i fs hu
    split at h
    · cases h
    · rename_i hg
      obtain ⟨ks, hks, rfl⟩ := Option.map_eq_some_iff.1 h
      simp only [exec] at hs
      split at hs
      · rename_i xs ys hxe hye
        obtain ⟨b, hb, hs⟩ := Option.map_eq_some_iff.1 hs
        injection hs with h1 h2
        subst h1; subst h2
        rw [hxe] at hxr
        rw [hye] at hyr
        exact .of_run hx' (run_eqs hu (by omega) hks (by simpa using hg) hn hxr hyr hb) hG rfl
      · cases hs
  · injection h with h; subst h; exact bin hs
  · injection h with h; subst h; exact bin hs
  · cases h
theorem step_conv {o : Oper} {a : Act} {env : Env} {src dst : TypeId} {x0 : Operand} {x : Opd} {i : Ins} {v : GV} {σ' : St} (hop : o.op = .convert src dst x0) (hx : opd x0 = some x)
    (h : compConv P src dst x = some i) (he : EnvOn ρ env a o.op.operands.toList) (hG : Good w0 ρ σ w) (hs : exec env σ i = some (v, σ')) : Does P o a w0 ρ σ w v σ' := by
  have hx' : execOp a.eval o = (do pure (.value (← convert src dst (a.eval x0)))) := by unfold execOp; rw [hop]
  have hxr := opd_on hx he (by rw [hop]; simp [Op.operands, Call.operands])
  unfold compConv at h
  split at h
  · rename_i k0 k hsu hdu
    injection h with h; subst h
    simp only [exec] at hs
    split at hs
    · rename_i k' n hxe
      injection hs with hs; injection hs with h1 h2; subst h1; subst h2
      rw [hxe] at hxr
      exact .of_run hx' (run_cvi hsu hdu hxr) hG rfl
    · cases hs
  · rename_i e hsu hdu
    split at h
    · rename_i hee
      injection h with h; subst h
      simp only [exec, Option.bind_eq_some_iff, Option.map_eq_some_iff, Prod.mk.injEq] at hs
      obtain ⟨r, hr, bs, hb, rfl, rfl⟩ := hs
      have hee' : P.underlying e = some (.int .u8) := hee
      exact .of_run hx' (run_bts hG hsu hee' hdu hxr hr hb) hG rfl
    · cases h
  · cases h
theorem step_slice {o : Oper} {a : Act} {env : Env} {t : TypeId} {x0 : Operand} {lo0 hi0 : Option Operand} {x : Opd} {lo hi : Option Opd} {i : Ins} {v : GV} {σ' : St} (hop : o.op = .slice t x0 lo0 hi0 none) (hx : opd x0 = some x) (hlo : opdO lo0 = some lo) (hhi : opdO hi0 = some hi)
    (h : compSlice P t x lo hi = some i) (he : EnvOn ρ env a o.op.operands.toList) (hG : Good w0 ρ σ w) (hs : exec env σ i = some (v, σ')) : Does P o a w0 ρ σ w v σ' := by
  have hx' : execOp a.eval o = (do pure (.value (← Instr.sliceAt t (a.eval x0) (lo0.map a.eval) (hi0.map a.eval) none))) := by unfold execOp; rw [hop]; rfl
  unfold compSlice at h
  split at h
  · rename_i hu
    injection h with h; subst h
    simp only [exec, Option.map_eq_some_iff, Prod.mk.injEq] at hs
    obtain ⟨r, hr, rfl, rfl⟩ := hs
    obtain ⟨u, hrun, hv⟩ := run_cutS (P := P) (w := w) hu (opd_on hx he (by rw [hop]; simp [Op.operands, Call.operands])) (opdO_on hlo he (fun z hz => by subst hz; rw [hop]; simp [Op.operands])) (opdO_on hhi he (fun z hz => by subst hz; rw [hop]; simp [Op.operands])) hr
    exact .of_run hx' hrun hG hv
  · rename_i e hu
    obtain ⟨ti, hti, rfl⟩ := Option.map_eq_some_iff.1 h
    simp only [exec] at hs
    split at hs
    · rename_i hz
      obtain ⟨r, hr, hs⟩ := Option.map_eq_some_iff.1 hs
      injection hs with h1 h2; subst h1; subst h2
      obtain ⟨u, hrun, hv⟩ := run_cut (P := P) (w := w) hu hti (opd_on hx he (by rw [hop]; simp [Op.operands, Call.operands])) (opdO_on hlo he (fun z hz => by subst hz; rw [hop]; simp [Op.operands])) (opdO_on hhi he (fun z hz => by subst hz; rw [hop]; simp [Op.operands])) (hG.zOk hz) hr
      exact .of_run hx' hrun hG hv
    · cases hs
  · cases h
theorem caps_rel {env : Env} {a : Act} {L : List Operand} {caps : List Opd} {caps0 : List Operand} {cs : List (Nat × Nat)} (hc : optAll opd caps0 = some caps) (he : EnvOn ρ env a L) (hL : ∀ x ∈ caps0, x ∈ L) (h : (caps.mapM fun c => capOf (c.ev env)) = some cs) :
    All2 (fun c u => ∃ L, ρ c.1 = some L ∧ u = .pointer (some (L.a.add c.2))) cs (caps0.map a.eval) := by
  have h2 := opds_on hc he hL
  refine capOf_rel (caps := caps.map (·.ev env)) ?_ h2
  rw [← h]
  simp only [List.mapM_map]
  rfl
theorem allInfo {fs : Array Field} {P : Program} {b : Bool} (h : (if fs.toList.all (fun f => (P.info? f.type).isSome) then b else false) = true) : ∀ f ∈ fs.toList, (P.info? f.type).isSome = true := by
  split at h
  · rename_i ha; exact List.all_eq_true.1 ha
  · cases h
theorem step_op {o : Oper} {a : Act} {env : Env} {i : Ins} {v : GV} {σ' : St} (h : compOp P o.op = some i) (he : EnvOn ρ env a o.op.operands.toList) (hG : Good w0 ρ σ w) (hs : Step P env σ i v σ') : Does P o a w0 ρ σ w v σ' := by
  cases hop : o.op <;> rw [hop] at h <;> (try (cases h; done))
  case move x =>
    obtain ⟨x', hx, rfl⟩ := Option.map_eq_some_iff.1 h
    cases hs
    exact .val (by unfold execOp; rw [hop]; rfl) hG (opd_on hx he (by rw [hop]; simp [Op.operands, Call.operands]))
  case assign x =>
    obtain ⟨x', hx, rfl⟩ := Option.map_eq_some_iff.1 h
    cases hs
    exact .val (by unfold execOp; rw [hop]; rfl) hG (opd_on hx he (by rw [hop]; simp [Op.operands, Call.operands]))
  case pick c x y =>
    obtain ⟨c', hc, h⟩ := Option.bind_eq_some_iff.1 h
    obtain ⟨x', hx, h⟩ := Option.bind_eq_some_iff.1 h
    obtain ⟨y', hy, rfl⟩ := Option.map_eq_some_iff.1 h
    simp only [Step, exec, Option.map_eq_some_iff, Prod.mk.injEq] at hs
    obtain ⟨b, hb, rfl, rfl⟩ := hs
    have hcr := opd_on hc he (by rw [hop]; simp [Op.operands, Call.operands])
    cases hcv : c'.ev env <;> rw [hcv] at hb <;> simp only [GV.bit, Option.some.injEq, reduceCtorEq] at hb
    subst hb
    rw [hcv] at hcr
    have hcr := vRel_bool hcr
    refine .val (u := if _ then a.eval x else a.eval y) (by unfold execOp; rw [hop]; simp only [hcr, asBool, Sem.run_bind, Sem.run_pure, Result.andThen_ok]; rfl) hG ?_
    split
    · exact opd_on hx he (by rw [hop]; simp [Op.operands, Call.operands])
    · exact opd_on hy he (by rw [hop]; simp [Op.operands, Call.operands])
  case alloc e =>
    obtain ⟨z, hz, rfl⟩ := Option.map_eq_some_iff.1 h
    cases hs
    obtain ⟨ti, zv, hi, hzv, ha⟩ := zeroG_spec hz
    exact .res (by unfold execOp; rw [hop]) (res_alloc hG hi hzv (ha ρ))
  case box e x =>
    obtain ⟨x', hx, rfl⟩ := Option.map_eq_some_iff.1 h
    cases hs
    exact .res (by unfold execOp; rw [hop]) (res_box hG (opd_on hx he (by rw [hop]; simp [Op.operands, Call.operands])))
  case build t parts =>
    obtain ⟨fs, hfs, h⟩ := Option.bind_eq_some_iff.1 h
    obtain ⟨z, hz, h⟩ := Option.bind_eq_some_iff.1 h
    split at h
    rotate_left
    · cases h
    rename_i hall
    obtain ⟨ps, hps, rfl⟩ := Option.map_eq_some_iff.1 h
    simp only [Step, exec, Option.map_eq_some_iff, Prod.mk.injEq] at hs
    obtain ⟨cs, hcs, rfl, rfl⟩ := hs
    obtain ⟨u, hu, hv⟩ := run_build (P := P) (w := w) (fieldsG_spec hfs) hz (List.all_eq_true.1 hall) (parts_rel he (fun p hp => by rw [hop]; simp only [Op.operands]; exact List.mem_map.2 ⟨p, hp, rfl⟩) hps) hcs
    refine .of_run (m := Instr.build t (parts.map fun (i, x) => (i, a.eval x))) (by unfold execOp; rw [hop]) ?_ hG hv
    rw [← hu]
    congr 2
    apply Array.ext'
    simp
  case buildSlice t len parts =>
    obtain ⟨e, hte, h⟩ := Option.bind_eq_some_iff.1 h
    obtain ⟨r, hr, h⟩ := Option.bind_eq_some_iff.1 h
    split at h
    · rename_i hl
      obtain ⟨ps, hps, rfl⟩ := Option.map_eq_some_iff.1 h
      obtain ⟨ti, zv, hi, hz, hza, hzs, hsz, hby, e1, e2⟩ := rowG_spec hr
      simp only [Step, exec, Option.map_eq_some_iff, Prod.mk.injEq] at hs
      obtain ⟨cs, hcs, rfl, rfl⟩ := hs
      rw [e1] at hps hl
      have := res_lit (P := P) hG (t := t) (isSlTy_spec hte) hi hz hzs hsz (hza ρ) hl (partsE_rel he (fun p hp => by rw [hop]; simp only [Op.operands]; exact List.mem_map.2 ⟨p, hp, rfl⟩) hps) hcs
      rw [e1]
      refine .res (m := Instr.buildSlice t len (parts.map fun (i, x) => (i, a.eval x))) (by unfold execOp; rw [hop]) ?_
      have e3 : (parts.map fun (i, x) => (i, a.eval x)) = (parts.toList.map fun p => (p.1, a.eval p.2)).toArray := by
        apply Array.ext'
        simp
      rw [e3]
      exact this
    · cases h
  case load t x =>
    obtain ⟨c, hc, h⟩ := Option.bind_eq_some_iff.1 h
    obtain ⟨x', hx, rfl⟩ := Option.map_eq_some_iff.1 h
    obtain ⟨d, ti, hd, hi, hag, hn, hn1⟩ := cellsG_spec hc
    simp only [Step, exec, Option.bind_eq_some_iff, Option.map_eq_some_iff, Prod.mk.injEq] at hs
    obtain ⟨p, hp, cs, hcs, r, hr, v', hv, rfl, rfl⟩ := hs
    have hxr := opd_on hx he (by rw [hop]; simp [Op.operands, Call.operands])
    cases hxv : x'.ev env <;> rw [hxv] at hp <;> simp only [ptrG, Option.some.injEq, reduceCtorEq] at hp
    subst hp
    rw [hxv] at hxr
    exact .res (by unfold execOp; rw [hop]) (res_load hG hd hag hi hn hn1 hxr hcs hr hv)
  case store t x y =>
    obtain ⟨ti, hi, h⟩ := Option.bind_eq_some_iff.1 h
    obtain ⟨x', hx, h⟩ := Option.bind_eq_some_iff.1 h
    obtain ⟨y', hy, rfl⟩ := Option.map_eq_some_iff.1 h
    simp only [Step, exec, Option.bind_eq_some_iff] at hs
    obtain ⟨p, hp, hs⟩ := hs
    have hxr := opd_on hx he (by rw [hop]; simp [Op.operands, Call.operands])
    cases hxv : x'.ev env <;> rw [hxv] at hp <;> simp only [ptrG, Option.some.injEq, reduceCtorEq] at hp
    subst hp
    rw [hxv] at hxr
    split at hs
    · rename_i z cs hB
      split at hs
      · rename_i hc
        injection hs with hs; injection hs with h1 h2; subst h1; subst h2
        obtain ⟨w', hrun, hG', hF⟩ := res_store (P := P) hG hi hxr (opd_on hy he (by rw [hop]; simp [Op.operands, Call.operands])) hB hc.1 hc.2.1 hc.2.2
        intro k hn
        have : (execOp a.eval o).run P w = .ok .skip w' := by
          unfold execOp; rw [hop]
          simp only [Sem.run_bind, hrun, Result.andThen_ok, Sem.run_pure]
        rw [this]
        exact hn ρ undef w' (fun _ _ => rfl) ⟨[], rfl, .nil⟩ hG' hF
      · cases hs
    · cases hs
  case nilCheck x =>
    obtain ⟨x', hx, rfl⟩ := Option.map_eq_some_iff.1 h
    simp only [Step, exec, Option.map_eq_some_iff, Prod.mk.injEq] at hs
    obtain ⟨r, hr, rfl, rfl⟩ := hs
    have hxr := opd_on hx he (by rw [hop]; simp [Op.operands, Call.operands])
    obtain ⟨k1, hrun⟩ := run_nck (P := P) (w := w) hop rfl hxr hr
    exact .val hrun hG (by rw [k1]; exact hxr)
  case binOp op t x y ty =>
    obtain ⟨x', hx, h⟩ := Option.bind_eq_some_iff.1 h
    obtain ⟨y', hy, h⟩ := Option.bind_eq_some_iff.1 h
    have hx' : execOp a.eval o = (do pure (.value (← (do eqGuard op t x y (a.eval x) (a.eval y); binOp op t (a.eval x) (a.eval y) : Sem Value)))) := by unfold execOp; rw [hop]
    split at h
    · exact step_cmp hop hx hy (.inl ⟨rfl, rfl⟩) h he hG (step_exec (by
        unfold compCmp at h
        split at h <;> (try split at h) <;> first | (cases h; done) | (injection h with h; subst h; rfl) | (obtain ⟨_, _, rfl⟩ := Option.map_eq_some_iff.1 h; rfl)) hs)
    · exact step_cmp hop hx hy (.inr ⟨rfl, rfl⟩) h he hG (step_exec (by
        unfold compCmp at h
        split at h <;> (try split at h) <;> first | (cases h; done) | (injection h with h; subst h; rfl) | (obtain ⟨_, _, rfl⟩ := Option.map_eq_some_iff.1 h; rfl)) hs)
    · injection h with h; subst h
      simp only [Step, exec, Option.map_eq_some_iff, Prod.mk.injEq] at hs
      obtain ⟨r, hr, rfl, rfl⟩ := hs
      obtain ⟨u, hu, hv⟩ := run_bin (P := P) (w := w) (t := t) (ox := x) (oy := y) (opd_on hx he (by rw [hop]; simp [Op.operands, Call.operands])) (opd_on hy he (by rw [hop]; simp [Op.operands, Call.operands])) hr
      exact .of_run hx' hu hG hv
  case unOp op t x =>
    obtain ⟨x', hx, rfl⟩ := Option.map_eq_some_iff.1 h
    simp only [Step, exec, Option.map_eq_some_iff, Prod.mk.injEq] at hs
    obtain ⟨r, hr, rfl, rfl⟩ := hs
    obtain ⟨u, hu, hv⟩ := run_un (P := P) (w := w) (opd_on hx he (by rw [hop]; simp [Op.operands, Call.operands])) hr
    exact .of_run (by unfold execOp; rw [hop]) hu hG hv
  case convert src dst x =>
    obtain ⟨x', hx, h⟩ := Option.bind_eq_some_iff.1 h
    exact step_conv hop hx h he hG (step_exec (by
        unfold compConv at h
        split at h <;> (try split at h) <;> first | (cases h; done) | (injection h with h; subst h; rfl)) hs)
  case makeFunc fn first caps =>
    cases fn <;> (try (cases h; done))
    rename_i f
    simp only [compOp] at h
    split at h
    · rename_i h0
      obtain ⟨xs, hxs, rfl⟩ := Option.map_eq_some_iff.1 h
      simp only [Step, exec, Option.map_eq_some_iff, Prod.mk.injEq] at hs
      obtain ⟨cs, hcs, rfl, rfl⟩ := hs
      have hf : first = #[] := Array.eq_empty_of_size_eq_zero h0
      subst hf
      refine .val (u := .func (.func f) #[] (caps.toList.map a.eval).toArray) ?_ hG ⟨_, rfl, caps_rel hxs he (fun x hx => by rw [hop]; simpa [Op.operands] using hx) hcs⟩
      unfold execOp
      rw [hop]
      simp only [Instr.makeFunc, Sem.run_bind, Sem.run_pure, Result.andThen_ok]
      congr 2
      simp only [List.map_toArray, Array.map_empty] <;> (congr 1; apply Array.ext'; simp)
    · cases h
  case makeSlice t l c =>
    obtain ⟨e, hte, h⟩ := Option.bind_eq_some_iff.1 h
    obtain ⟨r, hr, h⟩ := Option.bind_eq_some_iff.1 h
    obtain ⟨l', hl, h⟩ := Option.bind_eq_some_iff.1 h
    obtain ⟨c', hc, rfl⟩ := Option.map_eq_some_iff.1 h
    obtain ⟨ti, zv, hi, hz, hza, hzs, hsz, hby, e1, e2⟩ := rowG_spec hr
    simp only [Step, exec, Option.bind_eq_some_iff] at hs
    obtain ⟨n, hn, m, hm, hs⟩ := hs
    split at hs
    · rename_i hcond
      injection hs with hs; injection hs with h1 h2; subst h1; subst h2
      obtain ⟨rfl, hb⟩ := hcond
      rw [e2] at hb
      rw [e1]
      exact .res (by unfold execOp; rw [hop]) (res_mks hG (isSlTy_spec hte) hi hz hzs hsz (hza ρ) (opd_on hl he (by rw [hop]; simp [Op.operands, Call.operands])) (opd_on hc he (by rw [hop]; simp [Op.operands, Call.operands])) hn hm hb (by
        have : n ≤ n * ti.bytes := Nat.le_mul_of_pos_right _ hby
        omega))
    · cases hs
  case slice t x lo hi mx =>
    cases mx with
    | some _ => cases h
    | none =>
      obtain ⟨x', hx, h⟩ := Option.bind_eq_some_iff.1 h
      obtain ⟨lo', hlo, h⟩ := Option.bind_eq_some_iff.1 h
      obtain ⟨hi', hhi, h⟩ := Option.bind_eq_some_iff.1 h
      exact step_slice hop hx hlo hhi h he hG (step_exec (by
        unfold compSlice at h
        split at h <;> first | (cases h; done) | (injection h with h; subst h; rfl) | (obtain ⟨_, _, rfl⟩ := Option.map_eq_some_iff.1 h; rfl)) hs)
  case fieldAddr s x f =>
    obtain ⟨fs, hfs, h⟩ := Option.bind_eq_some_iff.1 h
    obtain ⟨fd, hfd, h⟩ := Option.bind_eq_some_iff.1 h
    obtain ⟨ti, hi, h⟩ := Option.bind_eq_some_iff.1 h
    split at h
    · cases h
    · rename_i h0
      obtain ⟨x', hx, rfl⟩ := Option.map_eq_some_iff.1 h
      simp only [Step, exec, Option.map_eq_some_iff, Prod.mk.injEq] at hs
      obtain ⟨p, hp, rfl, rfl⟩ := hs
      have hxr := opd_on hx he (by rw [hop]; simp [Op.operands, Call.operands])
      cases hxv : x'.ev env <;> rw [hxv] at hp <;> simp only [ptrG, Option.some.injEq, reduceCtorEq] at hp
      subst hp
      rw [hxv] at hxr
      obtain ⟨u, hu, hv⟩ := run_fad (P := P) (w := w) (fieldsG_spec hfs) hfd hi h0 hxr
      exact .of_run (by unfold execOp; rw [hop]) hu hG hv
  case field s x f =>
    obtain ⟨fs, hfs, h⟩ := Option.bind_eq_some_iff.1 h
    obtain ⟨fd, hfd, h⟩ := Option.bind_eq_some_iff.1 h
    obtain ⟨c, hc, h⟩ := Option.bind_eq_some_iff.1 h
    obtain ⟨x', hx, rfl⟩ := Option.map_eq_some_iff.1 h
    obtain ⟨d, ti, hd, hi, hag, hn, hn1⟩ := cellsG_spec hc
    simp only [Step, exec] at hs
    have hxr := opd_on hx he (by rw [hop]; simp [Op.operands, Call.operands])
    split at hs
    · rename_i cs hxv
      rw [hxv] at hxr
      obtain ⟨r, hr, hs⟩ := Option.bind_eq_some_iff.1 hs
      obtain ⟨v', hv, hs⟩ := Option.map_eq_some_iff.1 hs
      injection hs with h1 h2; subst h1; subst h2
      obtain ⟨u, hu, hv⟩ := run_part (P := P) (w := w) (fieldsG_spec hfs) hfd hi hd hag hn hn1 hxr hr hv
      exact .of_run (by unfold execOp; rw [hop]) hu hG hv
    · cases hs
  case indexAddr t x ix =>
    obtain ⟨e, hte, h⟩ := Option.bind_eq_some_iff.1 h
    obtain ⟨ti, hi, h⟩ := Option.bind_eq_some_iff.1 h
    obtain ⟨x', hx, h⟩ := Option.bind_eq_some_iff.1 h
    obtain ⟨ix', hix, rfl⟩ := Option.map_eq_some_iff.1 h
    simp only [Step, exec] at hs
    have hxr := opd_on hx he (by rw [hop]; simp [Op.operands, Call.operands])
    split at hs
    · rename_i g off len hxv
      rw [hxv] at hxr
      obtain ⟨n, hn, hs⟩ := Option.bind_eq_some_iff.1 hs
      split at hs
      · rename_i hl
        injection hs with hs; injection hs with h1 h2; subst h1; subst h2
        obtain ⟨u, hu, hv⟩ := run_iad (P := P) (w := w) (isSlTy_spec hte) hi hxr (opd_on hix he (by rw [hop]; simp [Op.operands, Call.operands])) hn hl
        exact .of_run (by unfold execOp; rw [hop]) hu hG hv
      · cases hs
    · cases hs
  case index t x ix =>
    simp only [compOp] at h
    split at h
    · rename_i hu
      obtain ⟨x', hx, h⟩ := Option.bind_eq_some_iff.1 h
      obtain ⟨ix', hix, rfl⟩ := Option.map_eq_some_iff.1 h
      simp only [Step, exec] at hs
      have hxr := opd_on hx he (by rw [hop]; simp [Op.operands, Call.operands])
      split at hs
      · rename_i b hxv
        rw [hxv] at hxr
        obtain ⟨n, hn, hs⟩ := Option.bind_eq_some_iff.1 hs
        obtain ⟨c, hc, hs⟩ := Option.map_eq_some_iff.1 hs
        injection hs with h1 h2; subst h1; subst h2
        exact .of_run (by unfold execOp; rw [hop]) (run_idx hu hxr (opd_on hix he (by rw [hop]; simp [Op.operands, Call.operands])) hn hc) hG rfl
      · cases hs
    · cases h
  case extract x n =>
    obtain ⟨x', hx, rfl⟩ := Option.map_eq_some_iff.1 h
    simp only [Step, exec] at hs
    have hxr := opd_on hx he (by rw [hop]; simp [Op.operands, Call.operands])
    split at hs
    · rename_i vs hxv
      rw [hxv] at hxr
      split at hs
      · rename_i v' hv
        split at hs
        · cases hs
        · rename_i hnt
          injection hs with hs; injection hs with h1 h2; subst h1; subst h2
          obtain ⟨u, hu, hv⟩ := run_ext (P := P) (w := w) hxr hv (fun xs e => hnt xs e)
          exact .of_run (by unfold execOp; rw [hop]) hu hG hv
      · cases hs
    · cases hs
  case call c => exact step_call hop h he hG hs
end ops
end Go.Proofs.Ytopannfdcikgiaa.Sy
