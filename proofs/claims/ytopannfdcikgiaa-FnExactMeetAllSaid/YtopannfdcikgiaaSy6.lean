/- Structs of numbers and texts are compared; cuts; bytes to text; rows are filled. -/
import Derived.Test.YtopannfdcikgiaaSy5
namespace Go.Proofs.Ytopannfdcikgiaa.Sy
open Go Go.RowKit
def flatFs (P : Program) (flat : TypeId → Option (List Sc)) : List Field → Nat → Option (List Sc)
  | [], _ => some []
  | f :: fs, off => if f.name ≠ "_" ∧ f.offset = off then (flat f.type).bind fun ks => if (P.info? f.type).map (·.size) = some ks.length then (flatFs P flat fs (off + ks.length)).map (ks ++ ·) else none else none
def flatTy (P : Program) : Nat → TypeId → Option (List Sc)
  | 0, _ => none
  | d + 1, t => match P.underlying t with
    | some .bool => some [.b]
    | some (.int k) => some [.i k]
    | some .string => some [.s]
    | some (.struct fs) => if P.stoodInHeld t then none else flatFs P (flatTy P d) fs.toList 0
    | _ => none
def valOf (P : Program) (t : TypeId) (us : List Value) : Value := match P.underlying t with
  | some (.struct _) => .agg us.toArray
  | _ => us.headD undef
section ops
variable {P : Program} {w0 w : World} {ρ : Rho} {σ : St}
theorem scsEq_length : ∀ {ks : List Sc} {xs ys : List GV} {b : Bool}, scsEq ks xs ys = some b → xs.length = ks.length ∧ ys.length = ks.length
  | [], [], [], _, _ => ⟨rfl, rfl⟩
  | k :: ks, x :: xs, y :: ys, b, h => by
    simp only [scsEq, Option.bind_eq_some_iff, Option.map_eq_some_iff] at h
    obtain ⟨_, _, _, h2, _⟩ := h
    have := scsEq_length h2
    simp only [List.length_cons]
    omega
  | [], [], _ :: _, _, h => by simp [scsEq] at h
  | [], _ :: _, _, _, h => by simp [scsEq] at h
  | _ :: _, [], _, _, h => by simp [scsEq] at h
  | _ :: _, _ :: _, [], _, h => by simp [scsEq] at h
theorem scsEq_append : ∀ {ks ks' : List Sc} {xs ys : List GV} {b : Bool}, scsEq (ks ++ ks') xs ys = some b →
    ∃ b1 b2, scsEq ks (xs.take ks.length) (ys.take ks.length) = some b1 ∧ scsEq ks' (xs.drop ks.length) (ys.drop ks.length) = some b2 ∧ b = (b1 && b2)
  | [], ks', xs, ys, b, h => ⟨true, b, by simp [scsEq], by simpa using h, by simp⟩
  | k :: ks, ks', x :: xs, y :: ys, b, h => by
    simp only [List.cons_append, scsEq, Option.bind_eq_some_iff, Option.map_eq_some_iff] at h
    obtain ⟨c, hc, e, he, rfl⟩ := h
    obtain ⟨b1, b2, h1, h2, rfl⟩ := scsEq_append he
    refine ⟨c && b1, b2, ?_, ?_, by simp [Bool.and_assoc]⟩
    · simp [scsEq, hc, h1]
    · simpa using h2
  | _ :: _, _, [], _, _, h => by simp [scsEq] at h
  | _ :: _, _, _ :: _, [], _, h => by simp [scsEq] at h
theorem run_part_flat {d : Nat} {t : TypeId} {ks : List Sc} (hf : flatTy P d t = some ks) (hi : (P.info? t).map (·.size) = some ks.length) {us : List Value} {off : Nat} (hl : off + ks.length ≤ us.length) :
    (part t us.toArray off).run P w = .ok (valOf P t ((us.drop off).take ks.length)) w := by
  cases hii : P.info? t with
  | none => rw [hii] at hi; cases hi
  | some i =>
    rw [hii] at hi
    have hsz : i.size = ks.length := by simpa using hi
    cases d with
    | zero => cases hf
    | succ d =>
      unfold flatTy at hf
      unfold valOf
      have one : ∀ s0 : Sc, ks = [s0] → (us.drop off).take ks.length = [us[off]?.getD undef] ∧ us[off]? = some (us[off]?.getD undef) := fun s0 hs => by
        subst hs
        have hlt : off < us.length := by simp only [List.length_cons, List.length_nil] at hl; omega
        have e : (us.drop off).take 1 = [us[off]] := by rw [List.drop_eq_getElem_cons hlt]; rfl
        have e2 : us[off]? = some us[off] := List.getElem?_eq_getElem hlt
        refine ⟨by rw [e2]; exact e, by rw [e2]; rfl⟩
      split at hf
      · rename_i hu
        injection hf with hf
        obtain ⟨e1, e2⟩ := one _ hf.symm
        simp only [hu, e1, List.headD_cons]
        simp only [part, isAgg, Sem.run_bind, run_underlying hu, Result.andThen_ok, Sem.run_pure, Bool.false_eq_true, if_false, List.getElem?_toArray]
        rw [e2]
        rfl
      · rename_i hu
        injection hf with hf
        obtain ⟨e1, e2⟩ := one _ hf.symm
        simp only [hu, e1, List.headD_cons]
        simp only [part, isAgg, Sem.run_bind, run_underlying hu, Result.andThen_ok, Sem.run_pure, Bool.false_eq_true, if_false, List.getElem?_toArray]
        rw [e2]
        rfl
      · rename_i hu
        injection hf with hf
        obtain ⟨e1, e2⟩ := one _ hf.symm
        simp only [hu, e1, List.headD_cons]
        simp only [part, isAgg, Sem.run_bind, run_underlying hu, Result.andThen_ok, Sem.run_pure, Bool.false_eq_true, if_false, List.getElem?_toArray]
        rw [e2]
        rfl
      · rename_i fs hu
        simp only [hu]
        simp only [part, isAgg, Sem.run_bind, run_underlying hu, Result.andThen_ok, Sem.run_pure, if_true, sizeOf, typeInfo, run_program, hii, hsz]
        congr 2
        apply Array.ext'
        simp
      · cases hf
theorem run_eqFields {d m : Nat} (ih : ∀ (t : TypeId) (ks : List Sc), flatTy P d t = some ks → ∀ (xs ys : List GV) (us vs : List Value) (b : Bool), scsEq ks xs ys = some b → All2 (sRel ρ) xs us → All2 (sRel ρ) ys vs → (Op.equalIn (d + m) t (valOf P t us) (valOf P t vs)).run P w = .ok b w) :
    ∀ (fs : List Field) (off : Nat) (ks : List Sc), flatFs P (flatTy P d) fs off = some ks → ∀ (xs ys : List GV) (us vs : List Value) (b : Bool), scsEq ks (xs.drop off) (ys.drop off) = some b → All2 (sRel ρ) xs us → All2 (sRel ρ) ys vs → off ≤ xs.length → off ≤ ys.length →
      (Op.eqFields (d + m) us.toArray vs.toArray fs).run P w = .ok b w
  | [], off, ks, hf, xs, ys, us, vs, b, hb, hx, hy, _, _ => by
    simp only [flatFs, Option.some.injEq] at hf
    subst hf
    have : b = true := by
      cases h1 : xs.drop off with
      | nil => cases h2 : ys.drop off with
        | nil => rw [h1, h2] at hb; simpa [scsEq] using hb.symm
        | cons _ _ => rw [h1, h2] at hb; simp [scsEq] at hb
      | cons _ _ => rw [h1] at hb; simp [scsEq] at hb
    subst this
    simp [Op.eqFields]
  | f :: fs, off, ks, hf, xs, ys, us, vs, b, hb, hx, hy, hlx, hly => by
    simp only [flatFs] at hf
    split at hf
    · rename_i hn
      obtain ⟨hnm, rfl⟩ := hn
      obtain ⟨k1, hk1, hf⟩ := Option.bind_eq_some_iff.1 hf
      split at hf
      · rename_i hi
        obtain ⟨k2, hk2, rfl⟩ := Option.map_eq_some_iff.1 hf
        obtain ⟨b1, b2, h1, h2, rfl⟩ := scsEq_append hb
        obtain ⟨l1, l2⟩ := scsEq_length h1
        simp only [List.length_take, List.length_drop] at l1 l2
        have ex := hx.length
        have ey := hy.length
        have p1 := run_part_flat (w := w) hk1 hi (us := us) (off := f.offset) (by omega)
        have p2 := run_part_flat (w := w) hk1 hi (us := vs) (off := f.offset) (by omega)
        have e := ih f.type k1 hk1 _ _ _ _ b1 h1 ((hx.drop f.offset).take k1.length) ((hy.drop f.offset).take k1.length)
        simp only [Op.eqFields, hnm, ne_eq, not_false_eq_true, if_true, Sem.run_bind, p1, p2, e, Result.andThen_ok]
        rw [List.drop_drop, List.drop_drop] at h2
        cases b1 with
        | false => simp
        | true =>
          simp only [Bool.not_true, Bool.false_eq_true, if_false, Bool.true_and]
          exact run_eqFields ih fs (f.offset + k1.length) k2 hk2 xs ys us vs b2 h2 hx hy (by omega) (by omega)
      · cases hf
    · cases hf
theorem run_flatEq (m : Nat) : ∀ (d : Nat) (t : TypeId) (ks : List Sc), flatTy P d t = some ks → ∀ (xs ys : List GV) (us vs : List Value) (b : Bool), scsEq ks xs ys = some b → All2 (sRel ρ) xs us → All2 (sRel ρ) ys vs →
    (Op.equalIn (d + m) t (valOf P t us) (valOf P t vs)).run P w = .ok b w
  | 0, _, _, hf, _, _, _, _, _, _, _, _ => by cases hf
  | d + 1, t, ks, hf, xs, ys, us, vs, b, hb, hx, hy => by
    have hf0 := hf
    unfold flatTy at hf
    rw [show d + 1 + m = (d + m) + 1 by omega]
    unfold valOf
    have sc : ∀ s0 : Sc, ks = [s0] → ∃ x y u v, xs = [x] ∧ ys = [y] ∧ us = [u] ∧ vs = [v] ∧ scEq s0 x y = some b ∧ sRel ρ x u ∧ sRel ρ y v := fun s0 hs => by
      subst hs
      match xs, ys, us, vs, hb, hx, hy with
      | [], _, _, _, hb, _, _ => simp [scsEq] at hb
      | _ :: _, [], _, _, hb, _, _ => simp [scsEq] at hb
      | [x], [y], [u], [v], hb, .cons h1 _, .cons h2 _ => exact ⟨x, y, u, v, rfl, rfl, rfl, rfl, by simpa [scsEq] using hb, h1, h2⟩
      | _ :: _ :: _, _ :: _, _, _, hb, _, _ => simp [scsEq] at hb
      | [_], _ :: _ :: _, _, _, hb, _, _ => simp [scsEq] at hb
    split at hf
    · rename_i hu
      injection hf with hf
      obtain ⟨x, y, u, v, rfl, rfl, rfl, rfl, h1, h2, h3⟩ := sc _ hf.symm
      simp only [hu, List.headD_cons]
      cases x <;> simp only [scEq, reduceCtorEq] at h1
      cases y <;> simp only [scEq, Option.some.injEq, reduceCtorEq] at h1
      cases h2; cases h3; subst h1
      exact run_equalIn_bool w _ t _ _ hu
    · rename_i k hu
      injection hf with hf
      obtain ⟨x, y, u, v, rfl, rfl, rfl, rfl, h1, h2, h3⟩ := sc _ hf.symm
      simp only [hu, List.headD_cons]
      cases x <;> simp only [scEq, reduceCtorEq] at h1
      cases y <;> simp only [scEq, reduceCtorEq] at h1
      split at h1
      · rename_i hk
        obtain ⟨rfl, rfl⟩ := hk
        injection h1 with h1
        cases h2; cases h3; subst h1
        exact run_equalIn_int w _ t _ _ _ _ hu
      · cases h1
    · rename_i hu
      injection hf with hf
      obtain ⟨x, y, u, v, rfl, rfl, rfl, rfl, h1, h2, h3⟩ := sc _ hf.symm
      simp only [hu, List.headD_cons]
      cases x <;> simp only [scEq, reduceCtorEq] at h1
      cases y <;> simp only [scEq, Option.some.injEq, reduceCtorEq] at h1
      cases h2; cases h3; subst h1
      exact run_equalIn_string w _ t _ _ hu
    · rename_i fs hu
      split at hf
      · cases hf
      · rename_i hst
        simp only [hu]
        have hfo : P.fieldsOf t = fs := by simp [Program.fieldsOf, hu]
        rw [run_equalIn_struct w (d + m) t _ _ (by rw [hfo]; exact hu) (by simpa using hst), hfo]
        exact run_eqFields (fun t ks h xs ys us vs b hb hx hy => run_flatEq m d t ks h xs ys us vs b hb hx hy) fs.toList 0 ks hf xs ys us vs b (by simpa using hb) hx hy (Nat.zero_le _) (Nat.zero_le _)
    · cases hf
theorem run_eqs {op : BinOp} {neg : Bool} {t : TypeId} {fs : Array Field} {d : Nat} {ks : List Sc} {ox oy : Operand} {xs ys : List GV} {b : Bool} {ux uy : Value} (hu : P.underlying t = some (.struct fs)) (hd : d ≤ 10000) (hf : flatTy P d t = some ks) (hg : P.eqGuardType P.depth t = false)
    (hop : (op = .eql ∧ neg = false) ∨ (op = .neq ∧ neg = true)) (hx : vRel ρ (.agg xs) ux) (hy : vRel ρ (.agg ys) uy) (hb : scsEq ks xs ys = some b) :
    ((do eqGuard op t ox oy ux uy; binOp op t ux uy : Sem Value).run P w = .ok (.bool (neg ^^ b)) w) := by
  obtain ⟨us, rfl, hxs⟩ := vRel_agg hx
  obtain ⟨vs, rfl, hys⟩ := vRel_agg hy
  have h := run_flatEq (P := P) (w := w) (10000 - d) d t ks hf xs ys us vs b hb hxs hys
  rw [show d + (10000 - d) = 10000 by omega] at h
  simp only [valOf, hu] at h
  rcases hop with ⟨rfl, rfl⟩ | ⟨rfl, rfl⟩
  · simp only [Sem.run_bind, run_eqGuard_agg w .eql t ox oy _ _ hg, Result.andThen_ok, run_eql_struct, h]
    simp
  · simp only [Sem.run_bind, run_eqGuard_agg w .neq t ox oy _ _ hg, Result.andThen_ok, run_neq_struct, h]
    simp
end ops
end Go.Proofs.Ytopannfdcikgiaa.Sy
