/- Slices that are made, filled and appended to. -/
import Derived.Test.YtopannfdcikgiaaSy7
namespace Go.Proofs.Ytopannfdcikgiaa.Sy
open Go Go.RowKit
section ops
variable {P : Program} {w0 w : World} {ρ : Rho} {σ : St}
theorem wrap64 {m : Int} (h : -9223372036854775808 ≤ m) (h' : m ≤ 9223372036854775807) : IntKind.i64.wrap m = m := by
  show (if (true && decide (m % 2 ^ 64 ≥ 2 ^ 63)) = true then m % 2 ^ 64 - 2 ^ 64 else m % 2 ^ 64) = m
  by_cases hd : m % 2 ^ 64 ≥ (2 : Int) ^ 63
  · rw [if_pos (by simp only [Bool.true_and]; exact decide_eq_true hd)]
    omega
  · rw [if_neg (by simp only [Bool.true_and]; simpa using hd)]
    omega
theorem run_zero {e : TypeId} {i : TypeInfo} {zv : Value} (hi : P.info? e = some i) (hz : i.zero = some zv) (w : World) : (zeroValue e).run P w = .ok zv w := by simp [zeroValue, typeInfo, hi, hz]
theorem run_size {e : TypeId} {i : TypeInfo} (hi : P.info? e = some i) (w : World) : (sizeOf e).run P w = .ok i.size w := by simp [sizeOf, typeInfo, hi]
theorem reps_get {zero : List GV} {n j : Nat} (hz : 0 < zero.length) (hj : j < n * zero.length) : (reps n zero)[j]? = zero[j % zero.length]? := by
  induction n generalizing j with
  | zero => simp at hj
  | succ n ih =>
    have e : reps (n + 1) zero = zero ++ reps n zero := by simp [reps, List.replicate_succ]
    rw [e]
    rw [Nat.add_mul, Nat.one_mul] at hj
    by_cases h : j < zero.length
    · rw [List.getElem?_append_left h, Nat.mod_eq_of_lt h]
    · rw [List.getElem?_append_right (by omega), ih (by omega)]
      congr 1
      rw [← Nat.mod_eq_sub_mod (by omega)]
theorem reps_length (n : Nat) (zero : List GV) : (reps n zero).length = n * zero.length := by
  induction n with
  | zero => simp [reps]
  | succ n ih =>
    have e : reps (n + 1) zero = zero ++ reps n zero := by simp [reps, List.replicate_succ]
    rw [e, List.length_append, ih, Nat.add_mul]
    omega
theorem zeros_rel {zero : List GV} {zc : Array Value} {n : Nat} (ha : All2 (sRel ρ) zero zc.toList) (hz : 0 < zc.size) : All2 (sRel ρ) (reps n zero) ((Array.range (n * zc.size)).map (fun j => zc[j % zc.size]!)).toList := by
  have hl : zero.length = zc.size := by rw [ha.length]; simp
  refine All2.of_get ?_ fun j c v hc hv => ?_
  · rw [reps_length, hl]; simp
  · have hj : j < n * zero.length := by
      have := (List.getElem?_eq_some_iff.1 hc).1
      rwa [reps_length] at this
    rw [reps_get (by omega) hj] at hc
    obtain ⟨u, hu, hs⟩ := ha.get hc
    have hm : j % zc.size < zc.size := Nat.mod_lt _ hz
    rw [hl] at hu
    rw [Array.getElem?_toList, Array.getElem?_eq_getElem hm] at hu
    injection hu with hu
    rw [hl] at hj
    simp [hj] at hv
    rw [← hv, getElem!_pos zc _ hm, hu]
    exact hs
theorem slice_new {ρ' : Rho} {a : Addr} {len cap tot z g : Nat} (hL : ρ' g = some ⟨a, tot, z, true⟩) (h0 : a.off = 0) (hle : len ≤ cap) (htot : cap * z = tot) : vRel ρ' (.sl g 0 len) (.slice (some a) len cap) :=
  ⟨_, hL, a, cap, rfl, hle, .inr ⟨by simp [Addr.add], fun _ => by simp only; omega⟩⟩
theorem res_mks (hG : Good w0 ρ σ w) {t e : TypeId} {i : TypeInfo} {zv : Value} {zero : List GV} {x y : GV} {ux uy : Value} {n : Nat} (hu : P.underlying t = some (.slice e)) (hi : P.info? e = some i) (hz : i.zero = some zv) (hzs : zv.cells.size = i.size) (hsz : 0 < i.size)
    (ha : All2 (sRel ρ) zero zv.cells.toList) (hx : vRel ρ x ux) (hy : vRel ρ y uy) (hn : natOf (some x) = some n) (hm : natOf (some y) = some n) (hb : n * i.bytes ≤ 140737488355328) (h63 : n ≤ 9223372036854775807) :
    Res P (Instr.makeSlice t ux uy) w0 ρ σ w (.sl σ.length 0 n) (σ ++ [some (.row i.size (reps n zero))]) := by
  obtain ⟨k, m, rfl, h0, rfl⟩ := natOf_int hn
  obtain ⟨k', m', rfl, h0', e'⟩ := natOf_int hm
  have hmm : m' = m := by omega
  subst hmm
  clear e'
  have := vRel_int hx; subst this
  have := vRel_int hy; subst this
  obtain ⟨a, w', ρ', hrun, hs, hL, ho, hsp, hG', hF⟩ := res_row (P := P) hG (e := e) (z := i.size) (cs := reps m'.toNat zero) (vs := (Array.range (m'.toNat * zv.cells.size)).map (fun j => zv.cells[j % zv.cells.size]!)) hsz (zeros_rel ha (by omega))
  refine ⟨.slice (some a) m'.toNat m'.toNat, w', ρ', ?_, hs, slice_new hL ho (Nat.le_refl _) (by simp [hzs]), hG', hF⟩
  have hw : IntKind.i64.wrap m' = m' := wrap64 (by omega) (by omega)
  have hbig : ¬ ((i.bytes : Int) * m' > 2 ^ 48) := by
    have h1 : ((m'.toNat * i.bytes : Nat) : Int) ≤ 140737488355328 := by omega
    rw [Int.natCast_mul, Int.toNat_of_nonneg h0, Int.mul_comm] at h1
    omega
  have hrow : (Array.range (m'.toNat * i.size)).map (fun j => (if m'.toNat * i.size = 0 then #[] else zv.cells)[j % (if m'.toNat * i.size = 0 then (#[] : Array Value) else zv.cells).size]!) = (Array.range (m'.toNat * zv.cells.size)).map (fun j => zv.cells[j % zv.cells.size]!) := by
    split
    · rename_i h; rw [hzs, h]; simp
    · rw [hzs]
  simp only [Instr.makeSlice, Sem.run_bind, run_underlying hu, Result.andThen_ok, asInt, asIntOf, Sem.run_pure, typeInfo, run_program, hi, hw]
  have c1 : (decide (m' < 0) || decide (↑i.bytes * m' > (2 : Int) ^ 48)) = false := by
    rw [decide_eq_false hbig, decide_eq_false (by omega)]; rfl
  rw [if_neg (by simp only [c1]; simp; omega)]
  simp only [Sem.run_bind, Sem.run_pure, Result.andThen_ok, run_askRoom, run_size hi]
  by_cases h0s : m'.toNat * i.size = 0
  · simp only [if_pos h0s] at hrow ⊢
    simp only [Sem.run_bind, Sem.run_pure, Result.andThen_ok, hrow, hrun]
  · simp only [if_neg h0s] at hrow ⊢
    simp only [Sem.run_bind, run_zero hi hz, Sem.run_pure, Result.andThen_ok, hrow, hrun]
theorem res_lit (hG : Good w0 ρ σ w) {t e : TypeId} {i : TypeInfo} {zv : Value} {zero cs : List GV} {len : Nat} {ps : List (Nat × Value)} {qs : List (Nat × Nat × GV)} (hu : P.underlying t = some (.slice e)) (hi : P.info? e = some i) (hz : i.zero = some zv) (hzs : zv.cells.size = i.size) (hsz : 0 < i.size)
    (ha : All2 (sRel ρ) zero zv.cells.toList) (hl : len * i.size ≤ 16777216) (hp : All2 (fun (p : Nat × Value) (q : Nat × Nat × GV) => some (p.1 * i.size, i.size) = some (q.1, q.2.1) ∧ vRel ρ q.2.2 p.2) ps qs) (hf : fillG (reps len zero) qs = some cs) :
    Res P (Instr.buildSlice t len ps.toArray) w0 ρ σ w (.sl σ.length 0 len) (σ ++ [some (.row i.size cs)]) := by
  obtain ⟨r, hr, har⟩ := fill_rel (place := fun j => some (j * i.size, i.size)) hf (zeros_rel (n := len) ha (by omega)) hp
  obtain ⟨a, w', ρ', hrun, hs, hL, ho, hsp, hG', hF⟩ := res_row (P := P) hG (e := e) (z := i.size) (cs := cs) (vs := r) hsz har
  have hlen : cs.length = len * i.size := by
    have : ∀ (qs : List (Nat × Nat × GV)) (c0 c1 : List GV), fillG c0 qs = some c1 → c1.length = c0.length := by
      intro qs
      induction qs with
      | nil => intro c0 c1 h; simp only [fillG, Option.some.injEq] at h; rw [h]
      | cons q qs ih =>
        intro c0 c1 h
        obtain ⟨off, size, v⟩ := q
        simp only [fillG] at h
        split at h
        · rename_i hc; rw [ih _ _ h, splice_length (by omega)]
        · cases h
    rw [this qs _ _ hf, reps_length, ha.length]
    simp [hzs]
  have hrs : r.size = len * i.size := by rw [← hlen, har.length]; simp
  refine ⟨.slice (some a) len len, w', ρ', ?_, hs, slice_new hL ho (Nat.le_refl _) hrs.symm, hG', hF⟩
  have hrow : (Array.range (len * i.size)).map (fun j => (if len * i.size = 0 then #[] else zv.cells)[j % (if len * i.size = 0 then (#[] : Array Value) else zv.cells).size]!) = (Array.range (len * zv.cells.size)).map (fun j => zv.cells[j % zv.cells.size]!) := by
    split
    · rename_i h; rw [hzs, h]; simp
    · rw [hzs]
  simp only [Instr.buildSlice, Sem.run_bind, run_underlying hu, Result.andThen_ok, run_size hi, Sem.run_ite]
  rw [if_neg (by omega)]
  simp only [Sem.run_pure, Result.andThen_ok]
  by_cases h0s : len * i.size = 0
  · simp only [if_pos h0s] at hrow ⊢
    simp only [Sem.run_bind, Sem.run_pure, Result.andThen_ok, hrow, hr, hrun]
  · simp only [if_neg h0s] at hrow ⊢
    simp only [Sem.run_bind, run_zero hi hz, Sem.run_pure, Result.andThen_ok, hrow, hr, hrun]
end ops
end Go.Proofs.Ytopannfdcikgiaa.Sy
