/- Each plain operation that leaves memory as it is. -/
import Derived.Test.YtopannfdcikgiaaSy4
import Derived.Laws.IdiomStrings
import Derived.Great.FillDense
namespace Go.Proofs.Ytopannfdcikgiaa.Sy
open Go Go.RowKit
section ops
variable {P : Program} {w0 w : World} {ρ : Rho} {σ : St}
theorem run_bin {op : BinOp} {t : TypeId} {ox oy : Operand} {x y v : GV} {ux uy : Value} (hx : vRel ρ x ux) (hy : vRel ρ y uy) (h : binG op x y = some v) :
    ∃ u, ((do eqGuard op t ox oy ux uy; binOp op t ux uy : Sem Value).run P w = .ok u w) ∧ vRel ρ v u := by
  cases x with
  | int k a =>
    cases y with
    | int k' b =>
      have hx := vRel_int hx; have hy := vRel_int hy; subst hx; subst hy
      cases op <;> simp only [binG, shiftG, intG, bitG] at h <;> (try split at h) <;> (try split at h) <;> (try cases h) <;>
        refine ⟨_, ?_, rfl⟩ <;> simp_all [eqGuard, binOp, Op.shift, Op.intArith, Op.intDiv, Op.intBits, Op.intCmp] <;> (intro hneg; exfalso; omega)
    | _ => simp [binG] at h
  | str a =>
    cases y with
    | str b =>
      have hx := vRel_str hx; have hy := vRel_str hy; subst hx; subst hy
      cases op <;> simp only [binG, strG] at h <;> (try split at h) <;> (try cases h) <;>
        refine ⟨_, ?_, rfl⟩ <;> simp_all [eqGuard, binOp, Op.stringOp]
      omega
    | _ => simp [binG] at h
  | _ => simp [binG] at h
theorem run_equal {t : TypeId} {x y : Value} {b : Bool} (h : ∀ d : Nat, (Op.equalIn (d + 1) t x y).run P w = .ok b w) : (Op.equal t x y).run P w = .ok b w := h 9999
theorem run_eqb {op : BinOp} {neg : Bool} {t : TypeId} {ox oy : Operand} {x y : GV} {a b : Bool} {ux uy : Value} (hu : P.underlying t = some .bool) (hop : (op = .eql ∧ neg = false) ∨ (op = .neq ∧ neg = true)) (hx : vRel ρ x ux) (hy : vRel ρ y uy) (ha : x.bit = some a) (hb : y.bit = some b) :
    ((do eqGuard op t ox oy ux uy; binOp op t ux uy : Sem Value).run P w = .ok (.bool (neg ^^ (a == b))) w) := by
  cases x <;> simp only [GV.bit, Option.some.injEq, reduceCtorEq] at ha
  cases y <;> simp only [GV.bit, Option.some.injEq, reduceCtorEq] at hb
  subst ha; subst hb
  have hx := vRel_bool hx; have hy := vRel_bool hy; subst hx; subst hy
  have h : ∀ p q : Bool, (Op.equal t (.bool p) (.bool q)).run P w = .ok (p == q) w := fun p q => run_equal (fun d => run_equalIn_bool w d t p q hu)
  rcases hop with ⟨rfl, rfl⟩ | ⟨rfl, rfl⟩ <;> simp only [eqGuard, binOp, Sem.run_bind] <;> simp [h]
theorem run_eqn {op : BinOp} {p neg : Bool} {t : TypeId} {d : TypeDesc} {ox oy : Operand} {x y : GV} {b : Bool} {ux uy : Value} (hu : P.underlying t = some d) (hd : (p = false ∧ ∃ e, d = .slice e) ∨ (p = true ∧ ∃ e, d = .pointer e))
    (hop : (op = .eql ∧ neg = false) ∨ (op = .neq ∧ neg = true)) (hx : vRel ρ x ux) (hy : vRel ρ y uy) (hb : nilG p x y = some b) :
    ((do eqGuard op t ox oy ux uy; binOp op t ux uy : Sem Value).run P w = .ok (.bool (neg ^^ b)) w) := by
  rcases hd with ⟨rfl, e, rfl⟩ | ⟨rfl, e, rfl⟩ <;> cases x <;> cases y <;> simp only [nilG, Option.some.injEq, reduceCtorEq] at hb <;> subst hb
  · rw [vRel_nilS hx, vRel_nilS hy]
    have h := run_equal (P := P) (w := w) (t := t) (x := .slice none 0 0) (y := .slice none 0 0) (b := true) (fun d => by simp [Op.equalIn, run_underlying hu])
    rcases hop with ⟨rfl, rfl⟩ | ⟨rfl, rfl⟩ <;> simp only [eqGuard, binOp, Sem.run_bind] <;> simp [h]
  · obtain ⟨L, hL, a, cap, rfl, _⟩ := vRel_sl hy
    rw [vRel_nilS hx]
    have h : ∀ n, (Op.equal t (.slice none 0 0) (.slice (some a) n cap)).run P w = .ok false w := fun n => run_equal (fun d => by simp [Op.equalIn, run_underlying hu])
    rcases hop with ⟨rfl, rfl⟩ | ⟨rfl, rfl⟩ <;> simp only [eqGuard, binOp, Sem.run_bind] <;> simp [h]
  · obtain ⟨L, hL, a, cap, rfl, _⟩ := vRel_sl hx
    rw [vRel_nilS hy]
    have h : ∀ n, (Op.equal t (.slice (some a) n cap) (.slice none 0 0)).run P w = .ok false w := fun n => run_equal (fun d => by simp [Op.equalIn, run_underlying hu])
    rcases hop with ⟨rfl, rfl⟩ | ⟨rfl, rfl⟩ <;> simp only [eqGuard, binOp, Sem.run_bind] <;> simp [h]
  · rw [vRel_nilP hx, vRel_nilP hy]
    have h := run_equal (P := P) (w := w) (t := t) (x := .pointer none) (y := .pointer none) (b := true) (fun d => by simp [Op.equalIn, run_underlying hu])
    rcases hop with ⟨rfl, rfl⟩ | ⟨rfl, rfl⟩ <;> simp only [eqGuard, binOp, Sem.run_bind] <;> simp [h]
  · obtain ⟨L, hL, rfl⟩ := vRel_ptr hy
    rw [vRel_nilP hx]
    have h : ∀ a, (Op.equal t (.pointer none) (.pointer (some a))).run P w = .ok false w := fun a => run_equal (fun d => by simp [Op.equalIn, run_underlying hu])
    rcases hop with ⟨rfl, rfl⟩ | ⟨rfl, rfl⟩ <;> simp only [eqGuard, binOp, Sem.run_bind] <;> simp [h]
  · obtain ⟨L, hL, rfl⟩ := vRel_ptr hx
    rw [vRel_nilP hy]
    have h : ∀ a, (Op.equal t (.pointer (some a)) (.pointer none)).run P w = .ok false w := fun a => run_equal (fun d => by simp [Op.equalIn, run_underlying hu])
    rcases hop with ⟨rfl, rfl⟩ | ⟨rfl, rfl⟩ <;> simp only [eqGuard, binOp, Sem.run_bind] <;> simp [h]
theorem run_un {op : UnOp} {x v : GV} {ux : Value} (hx : vRel ρ x ux) (h : unG op x = some v) : ∃ u, (Op.unary op ux).run P w = .ok u w ∧ vRel ρ v u := by
  cases x with
  | int k n =>
    have hx := vRel_int hx; subst hx
    cases op <;> simp only [unG, Option.some.injEq, reduceCtorEq] at h
    subst h
    exact ⟨_, by simp [Op.unary, Op.intArith], rfl⟩
  | bool b =>
    have hx := vRel_bool hx; subst hx
    cases op <;> simp only [unG, Option.some.injEq, reduceCtorEq] at h
    subst h
    exact ⟨_, by simp [Op.unary], rfl⟩
  | _ => cases op <;> simp [unG] at h
theorem run_mm {mx : Bool} {x y : GV} {k k' : IntKind} {a b : Int} {ux uy : Value} (hx : vRel ρ x ux) (hy : vRel ρ y uy) (ha : x = .int k a) (hb : y = .int k' b) (ts : Array TypeId) (ty : TypeId) :
    ((if mx then Builtin.max_ ts ty #[ux, uy] else Builtin.min_ ts ty #[ux, uy]).run P w = .ok (.int k (if mx then (if b > a then b else a) else (if b < a then b else a))) w) := by
  subst ha; subst hb
  have hx := vRel_int hx; have hy := vRel_int hy; subst hx; subst hy
  cases mx <;> simp [Builtin.max_, Builtin.min_, Builtin.max2, Builtin.min2]
theorem run_len {x : GV} {n : Int} {str : Bool} {t ty : TypeId} {d : TypeDesc} {ux : Value} (hu : P.underlying t = some d) (hd : (str = true ∧ d = .string) ∨ (str = false ∧ ∃ e, d = .slice e)) (hx : vRel ρ x ux)
    (h : lenG str x = some n) : (Builtin.len_ #[t] ty #[ux]).run P w = .ok (.int .i64 n) w := by
  rcases hd with ⟨rfl, rfl⟩ | ⟨rfl, e, rfl⟩ <;> cases x <;> simp only [lenG, if_true, Bool.false_eq_true, if_false, Option.some.injEq, reduceCtorEq] at h <;> subst h
  · have hx := vRel_str hx; subst hx
    simp [Builtin.len_, run_underlying hu, goInt]
  · have hx := vRel_nilS hx; subst hx
    simp [Builtin.len_, run_underlying hu, goInt]
  · obtain ⟨a, cap, rfl⟩ := vRel_emp hx
    simp [Builtin.len_, run_underlying hu, goInt]
  · obtain ⟨L, hL, a, cap, rfl, _⟩ := vRel_sl hx
    simp [Builtin.len_, run_underlying hu, goInt]
theorem natOf_int {i : GV} {n : Nat} (h : natOf (some i) = some n) : ∃ k m, i = .int k m ∧ 0 ≤ m ∧ n = m.toNat := by
  cases i <;> simp [natOf] at h
  rename_i k m
  exact ⟨k, m, rfl, h.1, h.2.symm⟩
theorem run_iad {t e : TypeId} {i : TypeInfo} {g off len n : Nat} {ix : GV} {ux ui : Value} (hu : P.underlying t = some (.slice e)) (hi : P.info? e = some i) (hx : vRel ρ (.sl g off len) ux) (hix : vRel ρ ix ui) (hn : natOf (some ix) = some n) (hl : n < len) :
    ∃ u, (Instr.indexAt t ux ui).run P w = .ok u w ∧ vRel ρ (.ptr g (off + n * i.size)) u := by
  obtain ⟨L, hL, a, cap, rfl, hle, hc⟩ := vRel_sl hx
  obtain ⟨k, m, rfl, h0, rfl⟩ := natOf_int hn
  have hui := vRel_int hix; subst hui
  rcases hc with hc | ⟨rfl, _⟩
  · omega
  · refine ⟨.pointer (some ((L.a.add off).add (m.toNat * i.size))), ?_, L, hL, by rw [add_add]⟩
    have hlt : m < len := by omega
    simp [Instr.indexAt, asIntOf, run_underlying hu, sizeOf, typeInfo, hi, h0, hlt]
theorem run_idx {t : TypeId} {s : ByteArray} {n : Nat} {ix : GV} {b : UInt8} {ux ui : Value} (hu : P.underlying t = some .string) (hx : vRel ρ (.str s) ux) (hix : vRel ρ ix ui) (hn : natOf (some ix) = some n) (hb : s[n]? = some b) :
    (Instr.index t ux ui).run P w = .ok (.int .u8 b.toNat) w := by
  obtain ⟨k, m, rfl, h0, rfl⟩ := natOf_int hn
  have hui := vRel_int hix; subst hui
  have hx := vRel_str hx; subst hx
  simp [Instr.index, asIntOf, run_underlying hu, h0, hb]
theorem run_fad {s : TypeId} {fs : Array Field} {fi : Nat} {f : Field} {i : TypeInfo} {g off : Nat} {ua : Value} (hu : P.underlying s = some (.struct fs)) (hf : fs[fi]? = some f) (hi : P.info? f.type = some i) (hz : i.size ≠ 0) (ha : vRel ρ (.ptr g off) ua) :
    ∃ u, (Instr.fieldAt s ua fi).run P w = .ok u w ∧ vRel ρ (.ptr g (off + f.offset)) u := by
  obtain ⟨L, hL, rfl⟩ := vRel_ptr ha
  refine ⟨.pointer (some ((L.a.add off).add f.offset)), ?_, L, hL, by rw [add_add]⟩
  simp [Instr.fieldAt, run_underlying hu, hf, Instr.sureAddr, fieldPlace, sizeOf, typeInfo, hi, hz]
theorem run_part {s : TypeId} {fs : Array Field} {fi : Nat} {f : Field} {i : TypeInfo} {d : TypeDesc} {agg : Bool} {n : Nat} {cs r : List GV} {v : GV} {ua : Value} (hu : P.underlying s = some (.struct fs)) (hf : fs[fi]? = some f) (hi : P.info? f.type = some i) (hd : P.underlying f.type = some d)
    (hagg : aggTy d = agg) (hn : agg = true → i.size = n) (hn1 : agg = false → n = 1) (ha : vRel ρ (.agg cs) ua) (hr : seg cs f.offset n = some r) (hv : mkv agg r = some v) :
    ∃ u, (Instr.field s ua fi).run P w = .ok u w ∧ vRel ρ v u := by
  obtain ⟨vs, rfl, hvs⟩ := vRel_agg ha
  obtain ⟨hl, hj, hle, rfl⟩ := seg_spec hr
  have hag : (isAgg f.type).run P w = .ok agg w := by
    simp only [isAgg, Sem.run_bind, run_underlying hd, Result.andThen_ok]
    cases d <;> simp_all [aggTy]
  have hlen := hvs.length
  cases agg with
  | true =>
    have hv : v = .agg ((cs.drop f.offset).take n) := by simpa [mkv] using hv.symm
    subst hv
    refine ⟨.agg ((vs.drop f.offset).take n).toArray, ?_, _, rfl, (hvs.drop _).take _⟩
    simp only [Instr.field, Sem.run_bind, run_underlying hu, Result.andThen_ok, hf, asAgg, part, hag, if_true, sizeOf, typeInfo, run_program, hi, hn rfl, Sem.run_pure]
    congr 2
    apply Array.ext'
    simp
  | false =>
    have hn := hn1 rfl
    subst hn
    have h0 : (((cs.drop f.offset).take 1))[0]? = some v := by
      have : mkv false ((cs.drop f.offset).take 1) = ((cs.drop f.offset).take 1)[0]? := by
        simp [mkv, List.head?_eq_getElem?]
      rw [← this]; exact hv
    have h1 := hj 0 v h0
    obtain ⟨u, hu1, hs⟩ := hvs.get h1
    refine ⟨u, ?_, ?_⟩
    · simp only [Nat.add_zero] at hu1
      simp only [Instr.field, Sem.run_bind, run_underlying hu, Result.andThen_ok, hf, asAgg, part, hag, Bool.false_eq_true, if_false, Sem.run_pure, List.getElem?_toArray, hu1]
    · cases v with
      | agg _ => exact hs.elim
      | tup _ => exact hs.elim
      | _ => exact hs
theorem run_ext {i : Nat} {vs : List GV} {v : GV} {ux : Value} (hx : vRel ρ (.tup vs) ux) (h : vs[i]? = some v) (ht : ∀ xs, v ≠ .tup xs) : ∃ u, (Instr.extract ux i).run P w = .ok u w ∧ vRel ρ v u := by
  obtain ⟨us, rfl, hvs⟩ := vRel_tup hx
  obtain ⟨u, hu, hs⟩ := hvs.get h
  refine ⟨u, by simp [Instr.extract, hu], ?_⟩
  cases v with
  | tup xs => exact absurd rfl (ht xs)
  | _ => exact hs
theorem run_cvi {src dst : TypeId} {k k' : IntKind} {n : Int} {d : TypeDesc} {ux : Value} (hs : P.underlying src = some d) (hd : P.underlying dst = some (.int k)) (hx : vRel ρ (.int k' n) ux) : (convert src dst ux).run P w = .ok (.int k (k.wrap n)) w := by
  have hx := vRel_int hx; subst hx
  cases d <;> simp [convert, run_underlying hs, run_underlying hd, Conv.intToInt]
theorem run_nck {x v : GV} {ux : Value} {o : Oper} {ox : Operand} {ev : Operand → Value} (ho : o.op = .nilCheck ox) (he : ev ox = ux) (hx : vRel ρ x ux) (h : nckG x = some v) :
    v = x ∧ (execOp ev o).run P w = .ok (.value ux) w := by
  unfold execOp
  rw [ho]
  simp only [he]
  cases x <;> simp only [nckG, Option.some.injEq, reduceCtorEq] at h
  · obtain ⟨L, hL, rfl⟩ := vRel_ptr hx
    exact ⟨h.symm, rfl⟩
  · obtain ⟨vs, rfl, _⟩ := hx
    exact ⟨h.symm, rfl⟩
end ops
end Go.Proofs.Ytopannfdcikgiaa.Sy
