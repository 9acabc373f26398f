/- A region whose operations may come in some other order. -/
import Derived.Test.YtopannfdcikgiaaSy13
import Derived.Orders
namespace Go.Proofs.Ytopannfdcikgiaa.Sy
open Go Go.RowKit
theorem least_of {p : Nat → Prop} (h : ∃ m, p m) : ∃ m, p m ∧ ∀ k, p k → m ≤ k := by
  obtain ⟨m, hm⟩ := h
  induction m using Nat.strongRecOn with
  | _ m ih =>
    by_cases hk : ∃ k, p k ∧ k < m
    · obtain ⟨k, h1, h2⟩ := hk
      exact ih k h2 h1
    · exact ⟨m, hm, fun k h1 => Nat.le_of_not_lt fun h2 => hk ⟨k, h1, h2⟩⟩
section pureSteps
variable {P : Program} {n : Nat}
/-- Of what an operation looks at, the rest of the variables is free. -/
def Opd.on (E E' : Env) : Opd → Prop
  | .t n => E n = E' n
  | .k _ => True
theorem execOp_on {o : Oper} {a a' : Act} (hs : ∀ cs b, o.op ≠ .select cs b) (h : ∀ t ∈ tmpsOf #[] { o with guard := none }, a.eval (.tmp t) = a'.eval (.tmp t)) : execOp a.eval o = execOp a'.eval o :=
  execOp_congr o hs fun x hx => by
    cases x with
    | tmp t =>
      refine h t ?_
      unfold tmpsOf
      simp only [List.append_nil]
      exact List.mem_filterMap.2 ⟨.tmp t, by simpa using hx, rfl⟩
    | _ => rfl
end pureSteps
/-- A run in the text's order: after each operation the variables and memory, and what it yielded. -/
structure Run (P : Program) (k : Nat) (os : List Op1) (E : Nat → Env) (S : Nat → St) (V : Nat → GV) : Prop where
  len : k ≤ os.length
  step : ∀ (i : Nat) o, i < k → os[i]? = some o → E (i + 1) = upo (E i) o.d (V i) ∧ S i <+: S (i + 1) ∧ ((wantedG (E i) o.g = true ∧ Step P (E i) (S i) o.i (V i) (S (i + 1))) ∨ (wantedG (E i) o.g = false ∧ V i = .tup [] ∧ S (i + 1) = S i))
theorem run_of {P : Program} : ∀ {os : List Op1} {K : Env → St → Prop} {env : Env} {σ : St}, vcOps true P os K env σ → ∃ E S V, E 0 = env ∧ S 0 = σ ∧ Run P os.length os E S V ∧ K (E os.length) (S os.length)
  | [], K, env, σ, h => ⟨fun _ => env, fun _ => σ, fun _ => .nilS, rfl, rfl, ⟨Nat.le_refl _, fun i o hi => by simp at hi⟩, h⟩
  | o :: os, K, env, σ, h => by
    have key : ∀ (v : GV) (σ' : St), σ <+: σ' → ((wantedG env o.g = true ∧ Step P env σ o.i v σ') ∨ (wantedG env o.g = false ∧ v = .tup [] ∧ σ' = σ)) → vcOps true P os K (upo env o.d v) σ' → ∃ E S V, E 0 = env ∧ S 0 = σ ∧ Run P (o :: os).length (o :: os) E S V ∧ K (E (o :: os).length) (S (o :: os).length) := by
      intro v σ' hp hst hv
      obtain ⟨E, S, V, h1, h2, h3, h4⟩ := run_of hv
      refine ⟨fun i => match i with | 0 => env | i + 1 => E i, fun i => match i with | 0 => σ | i + 1 => S i, fun i => match i with | 0 => v | i + 1 => V i, rfl, rfl, ⟨Nat.le_refl _, fun i o' hi ho => ?_⟩, h4⟩
      cases i with
      | zero =>
        simp only [List.getElem?_cons_zero, Option.some.injEq] at ho
        subst ho
        simp only [h1, h2]
        exact ⟨trivial, hp, hst⟩
      | succ i =>
        simp only [List.getElem?_cons_succ] at ho
        simp only [List.length_cons] at hi
        exact h3.step i o' (by omega) ho
    simp only [vcOps] at h
    split at h
    · rename_i hw
      obtain ⟨v, σ', hs, hp, hv⟩ := h
      exact key v σ' (hp trivial) (.inl ⟨hw, hs⟩) hv
    · rename_i hw
      exact key (.tup []) σ (List.prefix_refl _) (.inr ⟨by simpa using hw, rfl, rfl⟩) h
theorem Run.mono {P : Program} {k : Nat} {os : List Op1} {E : Nat → Env} {S : Nat → St} {V : Nat → GV} (h : Run P k os E S V) {i j : Nat} (hij : i ≤ j) (hj : j ≤ k) : S i <+: S j := by
  induction j with
  | zero => have : i = 0 := by omega
            subst this; exact List.prefix_refl _
  | succ j ih =>
    rcases Nat.lt_or_ge j i with h1 | h1
    · have : i = j + 1 := by omega
      subst this; exact List.prefix_refl _
    · have hjl : j < os.length := Nat.lt_of_lt_of_le (by omega) h.len
      exact (ih h1 (by omega)).trans (h.step j os[j] (by omega) (List.getElem?_eq_getElem hjl)).2.1
def Clo (σ : St) : Prop := ∀ (g : Nat) B, σ[g]? = some (some B) → B.lt σ.length
section sound
variable {P : Program} {n : Nat} {w0 w1 : World} {ρ0 : Rho} {σ0 : St}
theorem compOper_spec {ops : Array Oper} {o : Oper} {o1 : Op1} (h : compOper P n ops o = some o1) : compDst n o.dst = true ∧ o1.d = o.dst ∧ compGuard ops o.guard = some o1.g ∧ compOp P o.op = some o1.i := by
  unfold compOper at h
  split at h
  · rename_i hd
    obtain ⟨g, hg, h⟩ := Option.bind_eq_some_iff.1 h
    obtain ⟨i, hi, rfl⟩ := Option.map_eq_some_iff.1 h
    exact ⟨hd, rfl, hg, hi⟩
  · cases h
/-- What a run in the text's order shows: memory stays closed, and what is yielded names what is there. -/
theorem run_clo {ops : Array Oper} {os : List Op1} {k : Nat} {E : Nat → Env} {S : Nat → St} {V : Nat → GV} (hR : Run P k os E S V) (hos : ∀ (i : Nat) o1, os[i]? = some o1 → ∃ o, ops[i]? = some o ∧ compOper P n ops o = some o1)
    {ρ : Rho} {a : Act} {w : World} (hA : At n w0 ρ0 σ0 w1 (E 0) (S 0) ρ a w) : ∀ i, i ≤ k → Clo (S i) ∧ ∀ j, j < i → vLt (S (j + 1)).length (V j) := by
  have key : ∀ m i, m + i ≤ k → ∀ {ρ : Rho} {a : Act} {w : World}, At n w0 ρ0 σ0 w1 (E i) (S i) ρ a w → Clo (S (m + i)) ∧ ∀ j, i ≤ j → j < m + i → vLt (S (j + 1)).length (V j) := by
    intro m
    induction m with
    | zero => intro i _ ρ a w hA; rw [Nat.zero_add]; exact ⟨hA.good.closed, fun j h1 h2 => by omega⟩
    | succ m ih =>
      intro i hi ρ a w hA
      have hil : i < os.length := Nat.lt_of_lt_of_le (by omega) hR.len
      obtain ⟨o, ho, hc⟩ := hos i os[i] (List.getElem?_eq_getElem hil)
      obtain ⟨hE, hp, hst⟩ := hR.step i os[i] (by omega) (List.getElem?_eq_getElem hil)
      obtain ⟨hd, hdd, hg, hop⟩ := compOper_spec hc
      have fin : ∀ {ρ' : Rho} {a' : Act} {w' : World}, At n w0 ρ0 σ0 w1 (E (i + 1)) (S (i + 1)) ρ' a' w' → vLt (S (i + 1)).length (V i) → Clo (S (m + 1 + i)) ∧ ∀ j, i ≤ j → j < m + 1 + i → vLt (S (j + 1)).length (V j) := by
        intro ρ' a' w' hA' hv
        have := ih (i + 1) (by omega) hA'
        rw [show m + (i + 1) = m + 1 + i by omega] at this
        refine ⟨this.1, fun j h1 h2 => ?_⟩
        rcases Nat.lt_or_ge i j with h3 | h3
        · exact this.2 j h3 h2
        · have : j = i := by omega
          subst this; exact hv
      have hps : ∀ u, (a.put o.dst u).tmps.size = n ∧ (a.put o.dst u).defers = [] := fun u => by
        cases ho : o.dst <;> simp [Act.put, hA.size, hA.defers]
      rcases hst with ⟨hw, hs⟩ | ⟨hw, hv, hS⟩
      · have hO := step_op hop (hA.env.on _) hA.good hs (fun _ _ => Clo (S (m + 1 + i)) ∧ ∀ j, i ≤ j → j < m + 1 + i → vLt (S (j + 1)).length (V j)) fun ρ' u w' hsub hv hG hF => ?_
        · exact hO.pure
        · have hle' : Le ρ ρ' := Good.le_of_sub hA.good.fresh hsub
          refine fin (ρ' := ρ') (a' := a.put o.dst u) (w' := w') ?_ (hv.lt hG.fresh)
          rw [hE]
          exact { env := by rw [hdd]; exact put_rel (fun t => (hA.env t).mono hle') hv hA.size hd, good := hG, size := (hps u).1, defers := (hps u).2, len := Nat.le_trans hA.len hp.length_le
                  sub := fun g hg => by rw [hsub g (Nat.lt_of_lt_of_le hg hA.len), hA.sub g hg]
                  frame := hA.frame.trans hF }
      · refine fin (ρ' := ρ) (a' := a.put o.dst undef) (w' := w) ?_ (by rw [hv]; exact fun v h => by cases h)
        rw [hE, hS, hv]
        exact { env := by rw [hdd]; exact put_rel hA.env ⟨[], rfl, .nil⟩ hA.size hd, good := hA.good, size := (hps _).1, defers := (hps _).2, len := hA.len, sub := hA.sub, frame := hA.frame }
  intro i hi
  have := key i 0 (by omega) hA
  exact ⟨this.1, fun j hj => this.2 j (by omega) hj⟩
def cur (d : Nat → Option Nat) (V : Nat → GV) (E0 : Env) (D : Nat → Bool) : Nat → Env
  | 0 => E0
  | m + 1 => fun t => if D m = true ∧ d m = some t then V m else cur d V E0 D m t
section order
variable {ops : Array Oper} {k k' : Nat}
def Closed (ops : Array Oper) (D : Nat → Bool) : Prop := ∀ (i : Nat) o, ops[i]? = some o → D i = true → ∀ e ∈ o.after.toList, Region.binds .any e = true → D e.on = true
theorem draw_at (hok : drawOk ops k = true) {i : Nat} {o : Oper} (ho : ops[i]? = some o) : (∀ e ∈ o.after.toList, e.on < i) ∧ ∀ j, j < i →
    (((Region.before ops).getD i 0).testBit j = true → edgeTo (Region.before ops) o j = true) ∧ (k ≤ i → ((Region.before ops).getD i 0).testBit j = true) ∧ (∀ x, ops[j]? = some x → must ops x o = true → ((Region.before ops).getD i 0).testBit j = true) := by
  have hi : i < ops.size := (Array.getElem?_eq_some_iff.1 ho).1
  have h := List.all_eq_true.1 hok i (List.mem_range.2 hi)
  unfold drawOkAt at h
  rw [ho] at h
  simp only [Bool.and_eq_true] at h
  obtain ⟨h1, h2⟩ := h
  refine ⟨fun e he => by simpa using List.all_eq_true.1 h1 e he, fun j hj => ?_⟩
  have h3 := List.all_eq_true.1 h2 j (List.mem_range.2 hj)
  simp only [Bool.and_eq_true, Bool.or_eq_true, Bool.not_eq_true'] at h3
  obtain ⟨h3, h4⟩ := h3
  refine ⟨fun hb => ?_, fun hk => ?_, fun x hx hmu => ?_⟩
  · rcases h3 with h3 | h3
    · rw [hb] at h3; cases h3
    · exact h3
  · rcases h4 with h4 | h4
    · simp [hk] at h4
    · exact h4
  · rcases h4 with h4 | h4
    · rw [hx] at h4
      simp [hmu] at h4
    · exact h4
theorem pre_listed (hok : drawOk ops k = true) {D : Nat → Bool} (hc : Closed ops D) : ∀ (i : Nat) o, ops[i]? = some o → (∀ e ∈ o.after.toList, Region.binds .any e = true → D e.on = true) → ∀ j, j < i → ((Region.before ops).getD i 0).testBit j = true → D j = true := by
  intro i
  induction i using Nat.strongRecOn with
  | _ i ih =>
    intro o ho he j hj hb
    obtain ⟨h1, h2⟩ := draw_at hok ho
    have h3 := (h2 j hj).1 hb
    unfold edgeTo at h3
    obtain ⟨e, hem, h4⟩ := List.any_eq_true.1 h3
    simp only [Bool.and_eq_true, Bool.or_eq_true, beq_iff_eq, decide_eq_true_eq] at h4
    obtain ⟨hbi, h4⟩ := h4
    have hD := he e hem hbi
    rcases h4 with rfl | ⟨h5, h6⟩
    · exact hD
    · have hlt := h1 e hem
      have hi : i < ops.size := (Array.getElem?_eq_some_iff.1 ho).1
      have ho' : ops[e.on]? = some ops[e.on] := Array.getElem?_eq_getElem (by omega)
      exact ih e.on hlt _ ho' (hc e.on _ ho' hD) j h5 h6
end order
structure Mid (n : Nat) (w0 : World) (ρ0 : Rho) (σ0 : St) (w1 : World) (C : Env) (S : St) (ρ : Rho) (a : Act) (w : World) : Prop where
  env : ∀ t, vRel ρ (C t) (a.eval (.tmp t))
  good : Good w0 ρ S w
  size : a.tmps.size = n
  defers : a.defers = []
  len : σ0.length ≤ S.length
  sub : ∀ g, g < σ0.length → ρ g = ρ0 g
  frame : Frame ρ0 σ0 w1 ρ S w
/-- One operation of a region, somewhere in the order. -/
theorem mid_step {ops : Array Oper} {o : Oper} {o1 : Op1} (hc : compOper P n ops o = some o1) {Ei C : Env} {Si Sj Sk : St} {v : GV} {ρ : Rho} {a : Act} {w : World} (hM : Mid n w0 ρ0 σ0 w1 C Sk ρ a w) (hij : Si <+: Sj) (hjk : Sj <+: Sk) (h0i : σ0.length ≤ Si.length) (hCi : Clo Si) (hCj : Clo Sj)
    (hops : ∀ t ∈ tmpsOf ops o, C t = Ei t ∧ vLt Si.length (Ei t)) (hund : ∀ g, Si.length ≤ g → g < Sj.length → ρ g = none) (hst : (wantedG Ei o1.g = true ∧ Step P Ei Si o1.i v Sj) ∨ (wantedG Ei o1.g = false ∧ v = .tup [] ∧ Sj = Si))
    {next : Act → World → Prop} {Q : Exit → Act → World → Prop} (hn : ∀ u w' ρ', Mid n w0 ρ0 σ0 w1 (upo C o.dst v) Sk ρ' (a.put o.dst u) w' → (∀ g, (g < Si.length ∨ Sj.length ≤ g) → ρ' g = ρ g) → next (a.put o.dst u) w') {i : Nat} (hi : ops[i]? = some o) : wpOp P ops Q i next a w := by
  obtain ⟨hd, hdd, hg, hop⟩ := compOper_spec hc
  have hps : ∀ u, (a.put o.dst u).tmps.size = n ∧ (a.put o.dst u).defers = [] := fun u => by
    cases ho : o.dst <;> simp [Act.put, hM.size, hM.defers]
  have hik : Si <+: Sk := hij.trans hjk
  have getI : ∀ (g : Nat), g < Si.length → Sk[g]? = Si[g]? := fun g h => by obtain ⟨r, rfl⟩ := hik; exact List.getElem?_append_left h
  have getJ : ∀ (g : Nat), g < Sj.length → Sk[g]? = Sj[g]? := fun g h => by obtain ⟨r, rfl⟩ := hjk; exact List.getElem?_append_left h
  have hwant : Region.wanted o (yielded ops a.tmps) = wantedG Ei o1.g := by
    rw [wanted_rel (ops := ops) (hM.env : EnvRel ρ C a) hg]
    unfold compGuard at hg
    split at hg
    · injection hg with hg; rw [← hg]; rfl
    · rename_i j b hgd
      obtain ⟨t, ht, hg⟩ := Option.map_eq_some_iff.1 hg
      rw [← hg]
      have : C t = Ei t := (hops t (by
        unfold tmpsOf
        rw [hgd]
        refine List.mem_append_right _ ?_
        simp [ht])).1
      simp only [wantedG, this]
  unfold wpOp
  rw [hi]
  simp only [hwant]
  rcases hst with ⟨hw, hs⟩ | ⟨hw, hv, hS⟩
  · rw [if_pos hw]
    have hGi : Good w0 (Good.cut ρ Si.length) Si w := by
      have := hM.good.trunc (n := Si.length) hik.length_le (fun g B hg hB => by rw [getI g hg] at hB; exact hCi g B hB)
      rwa [show Sk.take Si.length = Si by obtain ⟨r, rfl⟩ := hik; simp] at this
    have hon : EnvOn (Good.cut ρ Si.length) Ei a o.op.operands.toList := fun x hx y hy => by
      cases x with
      | tmp t =>
        simp only [opd, Option.some.injEq] at hy
        subst hy
        obtain ⟨h1, h2⟩ := hops t (by
          unfold tmpsOf
          exact List.mem_append_left _ (List.mem_filterMap.2 ⟨.tmp t, hx, rfl⟩))
        have h3 := hM.env t
        rw [h1] at h3
        exact h3.back (n := Si.length) (fun g hg => (Good.cut_lt hg).symm) h2
      | const u =>
        obtain ⟨q, hq, rfl⟩ := Option.map_eq_some_iff.1 hy
        exact gval_rel hq
      | func f =>
        simp only [opd, Option.some.injEq] at hy
        subst hy
        exact ⟨[], rfl, .nil⟩
      | global g => cases hy
    refine .inl ((step_op hop hon hGi hs (fun u w' => next (a.put o.dst u) w') fun ρ' u w' hsub hv hG hF => ?_).wp fun _ _ h => h)
    let ρ2 : Rho := fun g => if Si.length ≤ g ∧ g < Sj.length then ρ' g else ρ g
    have eqout : ∀ g, (g < Si.length ∨ Sj.length ≤ g) → ρ2 g = ρ g := fun g hg => if_neg (by omega)
    have eqlt : ∀ g, g < Sj.length → ρ' g = ρ2 g := fun g hg => by
      rcases Nat.lt_or_ge g Si.length with h1 | h1
      · rw [eqout g (.inl h1), hsub g h1, Good.cut_lt h1]
      · exact (if_pos ⟨h1, hg⟩).symm
    have hle : Le ρ ρ2 := fun g L hL => by
      by_cases hg : Si.length ≤ g ∧ g < Sj.length
      · rw [hund g hg.1 hg.2] at hL; cases hL
      · rw [eqout g (by omega)]; exact hL
    have hblk : ∀ g L, ρ g = some L → L.a.block < w.heap.size := fun g L hL => by
      cases ho : L.own with
      | true => exact (hM.good.loc g L hL ho).2.2.1
      | false => exact Nat.lt_of_lt_of_le (hM.good.old g L hL ho) hM.good.below.size
    -- what no step of this one touches
    have hkeep : ∀ (g : Nat) B L, Sj.length ≤ g → Sk[g]? = some (some B) → ρ g = some L → w'.heap[L.a.block]? = w.heap[L.a.block]? := fun g B L hg hB hL => by
      refine hF.2.2 L.a.block (hblk g L hL) fun g1 B1 L1 hB1 hL1 ho1 he => ?_
      obtain ⟨hlt1, hL1'⟩ := Good.cut_some hL1
      have hB1' : Sk[g1]? = some (some B1) := by rw [getI g1 hlt1]; exact hB1
      cases ho : L.own with
      | true =>
        have := hM.good.inj g1 g B1 B L1 L hB1' hB hL1' hL ho1 ho he
        have := hij.length_le
        omega
      | false =>
        have h1 := hM.good.old g L hL ho
        have h2 := (hM.good.loc g1 L1 hL1' ho1).2.1
        omega
    have hlive : ∀ (g : Nat) B L, g < Sj.length → Sk[g]? = some (some B) → ρ2 g = some L → L.own = true → L.a.block < w.heap.size → ∃ g0 B0 L0, g0 < Si.length ∧ Sk[g0]? = some (some B0) ∧ ρ g0 = some L0 ∧ L0.own = true ∧ L0.a.block = L.a.block := fun g B L hg hB hL ho hlt => by
      obtain ⟨g0, B0, L0, h1, h2, h3, h4⟩ := hF.1 g B L (by rw [← getJ g hg]; exact hB) (by rw [eqlt g hg]; exact hL) ho hlt
      obtain ⟨h5, h6⟩ := Good.cut_some h2
      exact ⟨g0, B0, L0, h5, by rw [getI g0 h5]; exact h1, h6, h3, h4⟩
    refine hn u w' ρ2 ?_ eqout
    refine { env := put_rel (fun t => (hM.env t).mono hle) (hv.back (n := Sj.length) eqlt (hv.lt hG.fresh)) hM.size hd, good := ?_, size := (hps u).1, defers := (hps u).2, len := hM.len
             sub := fun g hg => by rw [eqout g (.inl (Nat.lt_of_lt_of_le hg h0i)), hM.sub g hg]
             frame := hM.frame.trans ?_ }
    · refine { below := hG.below, fresh := fun g hg => by rw [eqout g (.inr (Nat.le_trans hjk.length_le hg))]; exact hM.good.fresh g hg, loc := ?_, old := ?_, closed := hM.good.closed, mem := ?_, inj := ?_ }
      · intro g L hL ho
        rcases Nat.lt_or_ge g Sj.length with h1 | h1
        · exact hG.loc g L (by rw [eqlt g h1]; exact hL) ho
        · rw [eqout g (.inr h1)] at hL
          have := hM.good.loc g L hL ho
          exact ⟨this.1, this.2.1, Nat.lt_of_lt_of_le this.2.2.1 hF.2.1, this.2.2.2⟩
      · intro g L hL ho
        rcases Nat.lt_or_ge g Sj.length with h1 | h1
        · exact hG.old g L (by rw [eqlt g h1]; exact hL) ho
        · rw [eqout g (.inr h1)] at hL
          exact hM.good.old g L hL ho
      · intro g B L hB hL
        rcases Nat.lt_or_ge g Sj.length with h1 | h1
        · have hBj : Sj[g]? = some (some B) := by rw [← getJ g h1]; exact hB
          exact Good.holds_back (n := Sj.length) eqlt (hCj g B hBj) (hG.mem g B L hBj (by rw [eqlt g h1]; exact hL))
        · rw [eqout g (.inr h1)] at hL
          exact Good.holds_mono hle (Good.holds_step (hM.good.mem g B L hB hL) (hkeep g B L h1 hB hL))
      · have cross : ∀ (g g' : Nat) B B' L L', g < Sj.length → Sj.length ≤ g' → Sk[g]? = some (some B) → Sk[g']? = some (some B') → ρ2 g = some L → ρ2 g' = some L' → L.own = true → L'.own = true → L.a.block = L'.a.block → False := by
          intro g g' B B' L L' h1 h1' hB hB' hL hL' ho ho' he
          rw [eqout g' (.inr h1')] at hL'
          obtain ⟨g0, B0, L0, k1, k2, k3, k4, k5⟩ := hlive g B L h1 hB hL ho (by rw [he]; exact hblk g' L' hL')
          have := hM.good.inj g0 g' B0 B' L0 L' k2 hB' k3 hL' k4 ho' (k5.trans he)
          have := hij.length_le
          omega
        intro g g' B B' L L' hB hB' hL hL' ho ho' he
        rcases Nat.lt_or_ge g Sj.length with h1 | h1 <;> rcases Nat.lt_or_ge g' Sj.length with h1' | h1'
        · exact hG.inj g g' B B' L L' (by rw [← getJ g h1]; exact hB) (by rw [← getJ g' h1']; exact hB') (by rw [eqlt g h1]; exact hL) (by rw [eqlt g' h1']; exact hL') ho ho' he
        · exact (cross g g' B B' L L' h1 h1' hB hB' hL hL' ho ho' he).elim
        · exact (cross g' g B' B L' L h1' h1 hB' hB hL' hL ho' ho he.symm).elim
        · rw [eqout g (.inr h1)] at hL
          rw [eqout g' (.inr h1')] at hL'
          exact hM.good.inj g g' B B' L L' hB hB' hL hL' ho ho' he
    · refine .of hF.2.1 (fun b hb hno => hF.2.2 b hb fun g1 B1 L1 hB1 hL1 ho1 => ?_) fun g B L hB hL ho hlt => ?_
      · obtain ⟨hlt1, hL1'⟩ := Good.cut_some hL1
        exact hno g1 B1 L1 (by rw [getI g1 hlt1]; exact hB1) hL1' ho1
      · rcases Nat.lt_or_ge g Sj.length with h1 | h1
        · obtain ⟨g0, B0, L0, k1, k2, k3, k4, k5⟩ := hlive g B L h1 hB hL ho hlt
          exact ⟨g0, B0, L0, k2, k3, k4, k5⟩
        · rw [eqout g (.inr h1)] at hL
          exact ⟨g, B, L, hB, hL, ho, rfl⟩
  · rw [if_neg (by rw [hw]; simp)]
    refine hn undef w ρ ?_ (fun _ _ => rfl)
    exact { env := put_rel (hM.env : EnvRel ρ C a) (by rw [hv]; exact ⟨[], rfl, .nil⟩) hM.size hd, good := hM.good, size := (hps _).1, defers := (hps _).2, len := hM.len, sub := hM.sub, frame := hM.frame }
def cnt (D : Nat → Bool) : Nat → Nat
  | 0 => 0
  | m + 1 => cnt D m + (if D m then 0 else 1)
theorem cnt_le {D D' : Nat → Bool} (h : ∀ j, D j = true → D' j = true) : ∀ m, cnt D' m ≤ cnt D m
  | 0 => Nat.le_refl _
  | m + 1 => by
    have := cnt_le h m
    simp only [cnt]
    cases h1 : D m with
    | true => rw [h m h1]; simpa using this
    | false => cases D' m <;> simp <;> omega
theorem cnt_lt {D D' : Nat → Bool} (h : ∀ j, D j = true → D' j = true) {i : Nat} (h1 : D i = false) (h2 : D' i = true) : ∀ m, i < m → cnt D' m < cnt D m
  | 0, hi => by omega
  | m + 1, hi => by
    simp only [cnt]
    by_cases he : i = m
    · subst he
      have := cnt_le h i
      rw [h1, h2]
      simp
      omega
    · have := cnt_lt h h1 h2 m (by omega)
      cases h3 : D m with
      | true => rw [h m h3]; simpa using this
      | false => cases D' m <;> simp <;> omega
theorem cnt_ge {D : Nat → Bool} {k : Nat} : ∀ m, (∀ i, k ≤ i → i < m → D i = false) → m ≤ k + cnt D m
  | 0, _ => Nat.zero_le _
  | m + 1, h => by
    have := cnt_ge m (fun i h1 h2 => h i h1 (by omega))
    simp only [cnt]
    by_cases hk : k ≤ m
    · rw [h m hk (by omega)]; simp; omega
    · omega
theorem cnt_max {D : Nat → Bool} : ∀ m, cnt D m ≤ m
  | 0 => Nat.le_refl _
  | m + 1 => by
    have := cnt_max (D := D) m
    simp only [cnt]
    split <;> omega
theorem getD_eq {l : Array Bool} {i : Nat} (h : i < l.size) (b c : Bool) : l.getD i b = l.getD i c := by
  simp [Array.getD, h]
/-- Behind the part whose order is free. -/
theorem phaseB {ops : Array Oper} {os : List Op1} {k k' : Nat} {Q : Exit → Act → World → Prop} {K : Env → St → Prop} (hok : drawOk ops k = true) (hk : k' = min k ops.size) (hlen : os.length = ops.size) (hget : ∀ (i : Nat) o1, os[i]? = some o1 → ∃ o, ops[i]? = some o ∧ compOper P n ops o = some o1)
    (hK : ∀ env' σ' ρ' a' w', K env' σ' → At n w0 ρ0 σ0 w1 env' σ' ρ' a' w' → Q .normal a' w') : ∀ (fuel m : Nat) (listed : Array Bool), ops.size ≤ m + fuel → k' ≤ m → m ≤ ops.size → listed.size = ops.size → (∀ i, i < ops.size → listed.getD i false = decide (i < m)) →
    ∀ {env : Env} {σ : St} {ρ : Rho} {a : Act} {w : World}, At n w0 ρ0 σ0 w1 env σ ρ a w → vcOps false P (os.drop m) K env σ → wpAny P .any ops Q fuel listed a w := by
  intro fuel
  induction fuel with
  | zero =>
    intro m listed hf hkm hm hs hD env σ ρ a w hA hv
    have hmN : m = ops.size := by omega
    subst hmN
    refine ⟨?_, ?_⟩
    · refine List.eq_nil_iff_forall_not_mem.2 fun i hi => ?_
      obtain ⟨h1, o, ho, _⟩ := mem_ready.1 hi
      have hlt : i < ops.size := (Array.getElem?_eq_some_iff.1 ho).1
      rw [getD_eq (by omega) true false, hD i hlt] at h1
      simp [hlt] at h1
    · rw [List.drop_eq_nil_of_le (by omega)] at hv
      exact hK env σ ρ a w hv hA
  | succ fuel ih =>
    intro m listed hf hkm hm hs hD env σ ρ a w hA hv
    have hcl : Closed ops (fun i => listed.getD i false) := fun i o ho hi e he _ => by
      have hlt : i < ops.size := (Array.getElem?_eq_some_iff.1 ho).1
      have := (draw_at hok ho).1 e he
      simp only at hi ⊢
      rw [hD i hlt] at hi
      rw [hD e.on (by omega)]
      simp at hi ⊢
      omega
    have isM : ∀ i, i ∈ Region.ready .any ops listed → i = m ∧ m < ops.size := fun i hi => by
      obtain ⟨h1, o, ho, h2⟩ := mem_ready.1 hi
      have hlt : i < ops.size := (Array.getElem?_eq_some_iff.1 ho).1
      rw [getD_eq (by omega) true false, hD i hlt] at h1
      have h1 : m ≤ i := by simpa using h1
      refine ⟨?_, by omega⟩
      rcases Nat.lt_or_ge m i with h3 | h3
      · have hb := ((draw_at hok ho).2 m h3).2.1 (by omega)
        have := pre_listed hok hcl i o ho (fun e he hbi => h2 e (by simpa using he) hbi) m h3 hb
        rw [hD m (by omega)] at this
        simp at this
      · omega
    by_cases hmN : m = ops.size
    · refine ⟨fun _ => ?_, fun i hi => ?_⟩
      · subst hmN
        rw [List.drop_eq_nil_of_le (by omega)] at hv
        exact hK env σ ρ a w hv hA
      · have := isM i hi; omega
    · have hlt : m < ops.size := by omega
      have ho : ops[m]? = some ops[m] := Array.getElem?_eq_getElem hlt
      have hmr : m ∈ Region.ready .any ops listed := mem_ready.2 ⟨by rw [getD_eq (by omega) true false, hD m hlt]; simp, _, ho, fun e he _ => by
        have := (draw_at hok ho).1 e (by simpa using he)
        rw [hD e.on (by omega)]
        simpa using this⟩
      refine ⟨fun h0 => by rw [h0] at hmr; simp at hmr, fun i hi => ?_⟩
      obtain ⟨rfl, _⟩ := isM i hi
      have hmo : i < os.length := by omega
      obtain ⟨o, ho', hc⟩ := hget i os[i] (List.getElem?_eq_getElem hmo)
      rw [List.drop_eq_getElem_cons hmo] at hv
      obtain ⟨h1, h2, h3⟩ := step_oper (next := wpAny P .any ops Q fuel (listed.setIfInBounds i true)) (Q := Q) hc hA
      have next : ∀ {env : Env} {σ : St} {ρ : Rho} {a : Act} {w : World}, At n w0 ρ0 σ0 w1 env σ ρ a w → vcOps false P (os.drop (i + 1)) K env σ → wpAny P .any ops Q fuel (listed.setIfInBounds i true) a w := fun hA hv => by
        refine ih (i + 1) _ (by omega) (by omega) (by omega) (by simpa using hs) (fun j hj => ?_) hA hv
        by_cases hji : j = i
        · subst hji
          have : (listed.setIfInBounds j true).getD j false = true := by simp [Array.getD, hs, hj]
          rw [this]; simp
        · rw [getD_set_ne false (Ne.symm hji), hD j hj]
          congr 1
          apply propext
          omega
      unfold wpOp
      rw [ho']
      simp only [h3]
      simp only [vcOps] at hv
      cases hw : wantedG env os[i].g with
      | true =>
        rw [hw] at hv
        simp only [if_true] at hv ⊢
        obtain ⟨v, σ', hst, _, hv⟩ := hv
        exact .inl (h1 v σ' hw hst fun ρ' u w' hA' => next hA' hv)
      | false =>
        rw [hw] at hv
        simp only [Bool.false_eq_true, if_false] at hv ⊢
        exact next (h2 hw) hv
theorem drw_sound {id : Nat} {ops : Array Oper} {os : List Op1} {Q : Exit → Act → World → Prop} {K : Env → St → Prop} {env : Env} {σ : St} {ρ : Rho} {a : Act} {w : World} (hm : (P.follows .mixedOrders || !Region.departs ops) = true) (hok : drawOk ops (splitAt ops) = true) (hos : optAll (compOper P n ops) ops.toList = some os)
    (hv : vcOps true P (os.take (splitAt ops)) (vcOps false P (os.drop (splitAt ops)) K) env σ) (hA : At n w0 ρ0 σ0 w1 env σ ρ a w)
    (hK : ∀ env' σ' ρ' a' w', K env' σ' → At n w0 ρ0 σ0 w1 env' σ' ρ' a' w' → Q .normal a' w') : (Code.region id ops true).wp P Q a w := by
  generalize hk : splitAt ops = k at hok hv
  have hlen : os.length = ops.size := by rw [← (optAll_all2 hos).length]; simp
  have hget : ∀ (i : Nat) o1, os[i]? = some o1 → ∃ o, ops[i]? = some o ∧ compOper P n ops o = some o1 := fun i o1 h => by
    obtain ⟨o, h1, h2⟩ := (optAll_all2 hos).get' h
    exact ⟨o, by simpa using h1, h2⟩
  obtain ⟨E, S, V, hE0, hS0, hR, hKB⟩ := run_of hv
  generalize hk' : (os.take k).length = k' at hR hKB
  have hk'2 : k' = min k ops.size := by rw [← hk', List.length_take, hlen]
  have hR' : Run P k' os E S V := ⟨by omega, fun i o hi ho => hR.step i o hi (by rw [List.getElem?_take, if_pos (by omega)]; exact ho)⟩
  subst hE0
  subst hS0
  have hclo := run_clo hR' hget hA
  let dd : Nat → Option Nat := fun i => (ops[i]?).bind (·.dst)
  have hE : ∀ i, i < k' → ∀ t, E (i + 1) t = if dd i = some t then V i else E i t := fun i hi t => by
    have hil : i < os.length := by omega
    obtain ⟨o, ho, hc⟩ := hget i os[i] (List.getElem?_eq_getElem hil)
    obtain ⟨hE, _, _⟩ := hR'.step i os[i] hi (List.getElem?_eq_getElem hil)
    obtain ⟨_, hdd, _, _⟩ := compOper_spec hc
    rw [hE, hdd]
    simp only [dd, ho, Option.bind_some]
    cases o.dst with
    | none => simp [upo]
    | some d =>
      simp only [upo, up, Option.some.injEq]
      by_cases h : t = d
      · rw [if_pos h, if_pos h.symm]
      · rw [if_neg h, if_neg (Ne.symm h)]
  have hlt : ∀ i, i ≤ k' → ∀ t, vLt (S i).length (E i t) := by
    intro i
    induction i with
    | zero => intro _ t; exact (hA.env t).lt hA.good.fresh
    | succ i ih =>
      intro hi t
      rw [hE i (by omega) t]
      split
      · exact (hclo (i + 1) hi).2 i (by omega)
      · have := ih (by omega) t
        have hle := (hR'.mono (show i ≤ i + 1 by omega) hi).length_le
        revert this
        cases E i t with
        | tup vs =>
          intro this v hv
          have := this v hv
          cases v with
          | agg cs => exact fun c hc => (this c hc).mono hle
          | _ => simp only [cLt] at this ⊢; exact sLt.mono hle this
        | agg cs => intro this c hc; exact (this c hc).mono hle
        | _ => intro this; simp only [vLt, cLt] at this ⊢; exact sLt.mono hle this
  -- the free part
  have phaseA : ∀ (fuel : Nat) (listed : Array Bool) (ρ : Rho) (a : Act) (w : World), listed.size = ops.size → cnt (fun i => listed.getD i false) ops.size ≤ fuel → Closed ops (fun i => listed.getD i false) → (∀ i, k' ≤ i → i < ops.size → listed.getD i false = false) →
      Mid n w0 ρ0 σ0 w1 (cur dd V (E 0) (fun i => listed.getD i false) k') (S k') ρ a w → (∀ i, i < k' → listed.getD i false = false → ∀ g, (S i).length ≤ g → g < (S (i + 1)).length → ρ g = none) → wpAny P .any ops Q fuel listed a w := by
    intro fuel
    induction fuel with
    | zero =>
      intro listed ρ a w hs hf hcl hB hM hund
      have all : ∀ i, i < ops.size → listed.getD i false = true := fun i hi => by
        cases h : listed.getD i false with
        | true => rfl
        | false =>
          have : ∀ m, i < m → 0 < cnt (fun i => listed.getD i false) m := by
            intro m
            induction m with
            | zero => intro h; omega
            | succ m ihm =>
              intro him
              simp only [cnt]
              by_cases he : i = m
              · subst he; simp [h]
              · have := ihm (by omega); omega
          have := this ops.size hi
          omega
      have hk0 : k' = ops.size := by
        rcases Nat.lt_or_ge k' ops.size with h | h
        · have h1 := all k' h
          rw [hB k' (Nat.le_refl _) h] at h1
          cases h1
        · omega
      refine phaseB hok hk'2 hlen hget hK 0 k' listed (by omega) (Nat.le_refl _) (by omega) hs (fun i hi => by rw [all i hi]; simp; omega) (env := E k') (σ := S k') (ρ := ρ) ?_ (by
        have : os.drop k' = os.drop k := by
          rcases Nat.le_total k ops.size with h | h
          · rw [show k' = k by omega]
          · rw [List.drop_eq_nil_of_le (by omega), List.drop_eq_nil_of_le (by omega)]
        rw [this]; exact hKB)
      have hcur : ∀ m, m ≤ k' → ∀ t, cur dd V (E 0) (fun i => listed.getD i false) m t = E m t := by
        intro m
        induction m with
        | zero => intro _ t; rfl
        | succ m ihm =>
          intro hm t
          simp only [cur]
          rw [hE m (by omega) t]
          simp only [all m (by omega), ihm (by omega) t, true_and]
      exact { env := fun t => by rw [← hcur k' (Nat.le_refl _) t]; exact hM.env t, good := hM.good, size := hM.size, defers := hM.defers, len := hM.len, sub := hM.sub, frame := hM.frame }
    | succ fuel ih =>
      intro listed ρ a w hs hf hcl hB hM hund
      by_cases hall : ∀ i, i < k' → listed.getD i false = true
      · have hcg := cnt_ge (D := fun i => listed.getD i false) (k := k') ops.size (fun i h1 h2 => hB i h1 h2)
        refine phaseB hok hk'2 hlen hget hK (fuel + 1) k' listed (by omega) (Nat.le_refl _) (by omega) hs (fun i hi => ?_) (env := E k') (σ := S k') (ρ := ρ) ?_ (by
          have : os.drop k' = os.drop k := by
            rcases Nat.le_total k ops.size with h | h
            · rw [show k' = k by omega]
            · rw [List.drop_eq_nil_of_le (by omega), List.drop_eq_nil_of_le (by omega)]
          rw [this]; exact hKB)
        · rcases Nat.lt_or_ge i k' with h | h
          · rw [hall i h]; simp [h]
          · rw [hB i h hi]; simp [h]
        · have hcur : ∀ m, m ≤ k' → ∀ t, cur dd V (E 0) (fun i => listed.getD i false) m t = E m t := by
            intro m
            induction m with
            | zero => intro _ t; rfl
            | succ m ihm =>
              intro hm t
              simp only [cur]
              rw [hE m (by omega) t]
              simp only [hall m (by omega), ihm (by omega) t, true_and]
          exact { env := fun t => by rw [← hcur k' (Nat.le_refl _) t]; exact hM.env t, good := hM.good, size := hM.size, defers := hM.defers, len := hM.len, sub := hM.sub, frame := hM.frame }
      · have hex : ∃ i, i < k' ∧ listed.getD i false = false := by
          apply Classical.byContradiction
          intro h
          exact hall fun i hi => by
            cases hb : listed.getD i false with
            | true => rfl
            | false => exact (h ⟨i, hi, hb⟩).elim
        obtain ⟨i0, ⟨h0, h0f⟩, hmin⟩ := least_of hex
        have ho0 : ops[i0]? = some ops[i0] := Array.getElem?_eq_getElem (by omega)
        have hr0 : i0 ∈ Region.ready .any ops listed := mem_ready.2 ⟨by rw [getD_eq (by omega) true false]; exact h0f, _, ho0, fun e he _ => by
          have hlt := (draw_at hok ho0).1 e (by simpa using he)
          cases hb : listed.getD e.on false with
          | true => rfl
          | false => have := hmin e.on ⟨by omega, hb⟩; omega⟩
        refine ⟨fun h => by rw [h] at hr0; simp at hr0, fun i hi => ?_⟩
        obtain ⟨h1, o, ho, h2⟩ := mem_ready.1 hi
        have hiN : i < ops.size := (Array.getElem?_eq_some_iff.1 ho).1
        rw [getD_eq (by omega) true false] at h1
        have hpre := pre_listed hok hcl i o ho (fun e he hbi => h2 e (by simpa using he) hbi)
        have hik : i < k' := by
          rcases Nat.lt_or_ge i k' with h | h
          · exact h
          · have hb := ((draw_at hok ho).2 i0 (by omega)).2.1 (by omega)
            have := hpre i0 (by omega) hb
            rw [h0f] at this; cases this
        have hil : i < os.length := by omega
        obtain ⟨o', ho', hc⟩ := hget i os[i] (List.getElem?_eq_getElem hil)
        rw [ho] at ho'; injection ho' with ho'; subst ho'
        obtain ⟨_, hpfx, hst⟩ := hR'.step i os[i] hik (List.getElem?_eq_getElem hil)
        obtain ⟨_, hdd, _, _⟩ := compOper_spec hc
        have hddi : dd i = o.dst := by simp only [dd, ho, Option.bind_some]
        have later : ∀ m, i < m → m < ops.size → ∀ x, ops[m]? = some x → must ops o x = true → listed.getD m false = false := fun m him hmN x hx hmu => by
          cases hb : listed.getD m false with
          | false => rfl
          | true =>
            have hbit := ((draw_at hok hx).2 i him).2.2 o ho hmu
            have := pre_listed hok hcl m x hx (fun e he hbi => hcl m x hx hb e he hbi) i him hbit
            rw [h1] at this; cases this
        refine mid_step hc hM hpfx (hR'.mono (by omega) (Nat.le_refl _)) (Nat.le_trans hA.len (hR'.mono (Nat.zero_le i) (by omega)).length_le) (hclo i (by omega)).1 (hclo (i + 1) (by omega)).1 (fun t ht => ⟨?_, hlt i (by omega) t⟩) (hund i hik h1) hst (fun u w' ρ' hM' hkeep => ?_) ho
        · have : ∀ m, m ≤ k' → cur dd V (E 0) (fun i => listed.getD i false) m t = if m ≤ i then E m t else E i t := by
            intro m
            induction m with
            | zero => intro _; rw [if_pos (Nat.zero_le _)]; rfl
            | succ m ihm =>
              intro hm
              have hxm : ops[m]? = some ops[m] := Array.getElem?_eq_getElem (by omega)
              simp only [cur]
              rw [ihm (by omega)]
              rcases Nat.lt_trichotomy m i with h | h | h
              · rw [if_pos (show m ≤ i by omega), if_pos (show m + 1 ≤ i by omega), hE m (by omega) t]
                by_cases hdm : dd m = some t
                · have hmu : must ops ops[m] o = true := by
                    simp only [dd, hxm, Option.bind_some] at hdm
                    simp [must, hdm, ht]
                  have := hpre m h (((draw_at hok ho).2 m h).2.2 _ hxm hmu)
                  rw [if_pos ⟨this, hdm⟩, if_pos hdm]
                · rw [if_neg (fun h => hdm h.2), if_neg hdm]
              · subst h
                rw [if_neg (by rw [h1]; simp), if_pos (Nat.le_refl _), if_neg (by omega)]
              · rw [if_neg (show ¬ m ≤ i by omega), if_neg (show ¬ m + 1 ≤ i by omega)]
                by_cases hdm : dd m = some t
                · have hmu : must ops o ops[m] = true := by
                    simp only [dd, hxm, Option.bind_some] at hdm
                    simp [must, hdm, ht]
                  rw [if_neg (by rw [later m h (by omega) _ hxm hmu]; simp)]
                · rw [if_neg (fun h => hdm h.2)]
          have := this k' (Nat.le_refl _)
          rw [if_neg (by omega)] at this
          exact this
        · have hD' : ∀ j, j < ops.size → (listed.setIfInBounds i true).getD j false = if j = i then true else listed.getD j false := fun j hj => by
            by_cases hji : j = i
            · subst hji
              rw [if_pos rfl]
              simp [Array.getD, hs, hj]
            · rw [if_neg hji, getD_set_ne false (Ne.symm hji)]
          have hsub : ∀ j, listed.getD j false = true → (listed.setIfInBounds i true).getD j false = true := fun j hj => getD_set_true hj
          refine ih (listed.setIfInBounds i true) ρ' _ w' (by simpa using hs) ?_ ?_ ?_ ?_ ?_
          · have := cnt_lt (D := fun j => listed.getD j false) (D' := fun j => (listed.setIfInBounds i true).getD j false) hsub h1 (by show (listed.setIfInBounds i true).getD i false = true; rw [hD' i hiN, if_pos rfl]) ops.size hiN
            omega
          · intro j x hx hj e he hbi
            have hjN : j < ops.size := (Array.getElem?_eq_some_iff.1 hx).1
            show (listed.setIfInBounds i true).getD e.on false = true
            have hj : (listed.setIfInBounds i true).getD j false = true := hj
            rw [hD' j hjN] at hj
            by_cases hji : j = i
            · subst hji
              rw [ho] at hx; injection hx with hx; subst hx
              exact hsub _ (h2 e (by simpa using he) hbi)
            · rw [if_neg hji] at hj
              exact hsub _ (hcl j x hx hj e he hbi)
          · intro j hj1 hj2
            rw [hD' j hj2, if_neg (by omega)]
            exact hB j hj1 hj2
          · refine { hM' with env := fun t => ?_ }
            have hcur : ∀ m, m ≤ k' → cur dd V (E 0) (fun j => (listed.setIfInBounds i true).getD j false) m t = if i < m ∧ dd i = some t then V i else cur dd V (E 0) (fun j => listed.getD j false) m t := by
              intro m
              induction m with
              | zero => intro _; rw [if_neg (by omega)]; rfl
              | succ m ihm =>
                intro hm
                have hxm : ops[m]? = some ops[m] := Array.getElem?_eq_getElem (by omega)
                simp only [cur]
                rw [ihm (by omega)]
                by_cases hmi : m = i
                · subst hmi
                  have hDm : (listed.setIfInBounds m true).getD m false = true := by rw [hD' m (by omega), if_pos rfl]
                  by_cases hdm : dd m = some t
                  · simp only [hDm, hdm, Nat.lt_succ_self, and_self, if_true]
                  · simp only [hdm, and_false, if_false]
                · have hDm : (listed.setIfInBounds i true).getD m false = listed.getD m false := by rw [hD' m (by omega), if_neg hmi]
                  simp only [hDm]
                  by_cases hdm : listed.getD m false = true ∧ dd m = some t
                  · rw [if_pos hdm]
                    by_cases hc2 : i < m + 1 ∧ dd i = some t
                    · exfalso
                      have hmu : must ops o ops[m] = true := by
                        have e1 := hdm.2
                        have e2 := hc2.2
                        simp only [dd, hxm, ho, Option.bind_some] at e1 e2
                        simp [must, e1, e2]
                      have := later m (by omega) (by omega) _ hxm hmu
                      rw [hdm.1] at this; cases this
                    · rw [if_neg hc2, if_pos hdm]
                  · rw [if_neg hdm, if_neg hdm]
                    by_cases hc2 : i < m ∧ dd i = some t
                    · rw [if_pos hc2, if_pos ⟨by omega, hc2.2⟩]
                    · rw [if_neg hc2, if_neg (fun h => hc2 ⟨by omega, h.2⟩)]
            have := hM'.env t
            rw [hcur k' (Nat.le_refl _)]
            rw [hddi]
            cases hdi : o.dst with
            | none => rw [hdi] at this; simpa only [upo, and_false, if_false, reduceCtorEq] using this
            | some d =>
              rw [hdi] at this
              simp only [upo, up] at this
              by_cases htd : t = d
              · subst htd
                rw [if_pos rfl] at this
                rw [if_pos ⟨hik, rfl⟩]
                exact this
              · rw [if_neg htd] at this
                rw [if_neg (by intro h; exact htd (by injection h.2 with h; exact h.symm))]
                exact this
          · intro j hj hjf g hg1 hg2
            rw [hD' j (by omega)] at hjf
            by_cases hji : j = i
            · rw [if_pos hji] at hjf; cases hjf
            · rw [if_neg hji] at hjf
              rw [hkeep g (by
                rcases Nat.lt_or_ge j i with h | h
                · have := (hR'.mono (show j + 1 ≤ i by omega) (by omega)).length_le
                  exact .inl (by omega)
                · have := (hR'.mono (show i + 1 ≤ j by omega) (by omega)).length_le
                  exact .inr (by omega))]
              exact hund j hj hjf g hg1 hg2
  have hM0 : Mid n w0 ρ0 σ0 w1 (cur dd V (E 0) (fun i => (Array.replicate ops.size false).getD i false) k') (S k') ρ a { w with drawn := w.drawn + 1 } := by
    have hlen0 : (S 0).length ≤ (S k').length := (hR'.mono (Nat.zero_le k') (Nat.le_refl _)).length_le
    have get0 : ∀ (g : Nat), g < (S 0).length → (S k')[g]? = (S 0)[g]? := fun g h => by
      obtain ⟨r, hr⟩ := hR'.mono (Nat.zero_le k') (Nat.le_refl _)
      rw [← hr]; exact List.getElem?_append_left h
    have hmap : ∀ g L, ρ g = some L → g < (S 0).length := fun g L hL => by
      rcases Nat.lt_or_ge g (S 0).length with h | h
      · exact h
      · rw [hA.good.fresh g h] at hL; cases hL
    have hcur0 : ∀ m t, cur dd V (E 0) (fun i => (Array.replicate ops.size false).getD i false) m t = E 0 t := by
      intro m t
      induction m with
      | zero => rfl
      | succ m ihm =>
        simp only [cur]
        rw [ihm]
        have : (Array.replicate ops.size false).getD m false = false := by
          simp only [Array.getD_eq_getD_getElem?, Array.getElem?_replicate]
          split <;> rfl
        simp only [this, Bool.false_eq_true, false_and, if_false]
    have hd := hA.good.drew
    refine { env := fun t => by rw [hcur0]; exact hA.env t, good := ?_, size := hA.size, defers := hA.defers, len := Nat.le_trans hA.len hlen0, sub := hA.sub, frame := hA.frame.trans ?_ }
    · exact { below := hd.below, fresh := fun g hg => hd.fresh g (Nat.le_trans hlen0 hg), loc := hd.loc, old := hd.old, closed := (hclo k' (Nat.le_refl _)).1
              mem := fun g B L hB hL => hd.mem g B L (by rw [← get0 g (hmap g L hL)]; exact hB) hL
              inj := fun g g' B B' L L' hB hB' hL hL' => hd.inj g g' B B' L L' (by rw [← get0 g (hmap g L hL)]; exact hB) (by rw [← get0 g' (hmap g' L' hL')]; exact hB') hL hL' }
    · exact .of (Nat.le_refl _) (fun _ _ _ => rfl) fun g B L hB hL ho _ => ⟨g, B, L, by rw [← get0 g (hmap g L hL)]; exact hB, hL, ho, rfl⟩
  have region : wpAny P .any ops Q ops.size (Array.replicate ops.size false) a { w with drawn := w.drawn + 1 } → (Code.region id ops true).wp P Q a w := fun h => wp_region_draw fun t => by
    simp only [Region.schedule]
    rw [if_pos hm]
    exact wpAny_sound ops.size t _ a _ h
  refine region (phaseA ops.size (Array.replicate ops.size false) ρ a _ (by simp) (cnt_max _) (fun i o ho hi => ?_) (fun i h1 h2 => ?_) hM0 (fun i hi _ g hg1 hg2 => ?_))
  · simp only [Array.getD_eq_getD_getElem?, Array.getElem?_replicate] at hi
    split at hi <;> simp at hi
  · simp [Array.getD_eq_getD_getElem?, h2]
  · exact hA.good.fresh g (Nat.le_trans (hR'.mono (Nat.zero_le i) (by omega)).length_le hg1)
end sound
end Go.Proofs.Ytopannfdcikgiaa.Sy
