/- Cuts, functions with what they hold, rows that are made and filled, bytes to text. -/
import Derived.Test.YtopannfdcikgiaaSy6
namespace Go.Proofs.Ytopannfdcikgiaa.Sy
open Go Go.RowKit
section ops
variable {P : Program} {w0 w : World} {ρ : Rho} {σ : St}
/-- The cells behind a slice. -/
theorem Good.elems (hG : Good w0 ρ σ w) {z n : Nat} {x : GV} {r : List GV} {ux : Value} (hx : vRel ρ x ux) (he : elems σ z x = some (n, r)) :
    ∃ us : List Value, us.length = n * z ∧ All2 (sRel ρ) r us ∧ (((∃ a cap, ux = .slice a 0 cap) ∧ n = 0) ∨ ∃ g off a cap, x = .sl g off n ∧ ux = .slice (some a) n cap ∧ n ≤ cap ∧ ∀ (j : Nat) v, us[j]? = some v → w.cell? (a.add j) = some v) := by
  cases x with
  | nilS =>
    simp only [Sy.elems, Option.some.injEq, Prod.mk.injEq] at he
    obtain ⟨rfl, rfl⟩ := he
    exact ⟨[], by simp, .nil, .inl ⟨⟨none, 0, vRel_nilS hx⟩, rfl⟩⟩
  | emp =>
    simp only [Sy.elems, Option.some.injEq, Prod.mk.injEq] at he
    obtain ⟨rfl, rfl⟩ := he
    exact ⟨[], by simp, .nil, .inl ⟨vRel_emp hx, rfl⟩⟩
  | sl g off len =>
    simp only [Sy.elems, Option.bind_eq_some_iff, Option.map_eq_some_iff, Prod.mk.injEq] at he
    obtain ⟨cs, hcs, r', hr, rfl, rfl⟩ := he
    obtain ⟨L, hL, a, cap, rfl, hle, hc⟩ := vRel_sl hx
    obtain ⟨us, hl, hcell, ha⟩ := hG.read hcs hr hL
    refine ⟨us, hl, ha, .inr ⟨g, off, a, cap, rfl, rfl, hle, ?_⟩⟩
    rcases hc with hc | ⟨rfl, _⟩
    · have : len = 0 := by omega
      subst this
      have : us = [] := List.eq_nil_of_length_eq_zero (by omega)
      subst this
      intro j v hj
      simp at hj
    · exact hcell
  | _ => simp [Sy.elems] at he
theorem bytesOf_spec : ∀ {cs : List GV} {us : List Value} {bs : List UInt8}, bytesOf cs = some bs → All2 (sRel ρ) cs us → ∃ ns : List Int, us = ns.map (Value.int .u8) ∧ bs = ns.map fun n => UInt8.ofNat n.toNat
  | [], _, _, h, .nil => ⟨[], rfl, by simpa [bytesOf] using h.symm⟩
  | c :: cs, _, bs, h, .cons h1 h2 => by
    cases c with
    | int k n =>
      cases k <;> simp only [bytesOf, Option.map_eq_some_iff, reduceCtorEq] at h
      obtain ⟨bs', hb, rfl⟩ := h
      obtain ⟨ns, rfl, rfl⟩ := bytesOf_spec hb h2
      cases h1
      exact ⟨n :: ns, rfl, rfl⟩
    | _ => simp [bytesOf] at h
theorem run_bts (hG : Good w0 ρ σ w) {src dst e : TypeId} {n : Nat} {x : GV} {r : List GV} {bs : List UInt8} {ux : Value} (hs : P.underlying src = some (.slice e)) (he : P.underlying e = some (.int .u8)) (hd : P.underlying dst = some .string)
    (hx : vRel ρ x ux) (hr : elems σ 1 x = some (n, r)) (hb : bytesOf r = some bs) : (convert src dst ux).run P w = .ok (.string ⟨bs.toArray⟩) w := by
  obtain ⟨us, hl, ha, h⟩ := hG.elems hx hr
  obtain ⟨ns, rfl, rfl⟩ := bytesOf_spec hb ha
  rcases h with ⟨⟨a, cap, rfl⟩, rfl⟩ | ⟨g, off, a, cap, _, rfl, _, hc⟩
  · rw [run_convert_bytes_string w src dst e a 0 cap hs he hd]
    have : ns = [] := List.eq_nil_of_length_eq_zero (by simpa using hl)
    subst this
    cases a with
    | none => rfl
    | some a => rw [run_bytesToString w a 0 cap [] rfl]; rfl
  · rw [run_convert_bytes_string w src dst e (some a) n cap hs he hd]
    have hlo := run_loadCells_list (P := P) w a _ hc
    rw [hl, Nat.mul_one] at hlo
    rw [run_bytesToString w a n cap ns hlo]
    have : ∀ (l : List Int) (r : ByteArray), l.foldl (fun r n => r.push (UInt8.ofNat n.toNat)) r = ⟨r.data ++ (l.map fun n => UInt8.ofNat n.toNat).toArray⟩ := by
      intro l
      induction l with
      | nil => intro r; simp
      | cons n l ih => intro r; simp only [List.foldl_cons]; rw [ih]; simp [ByteArray.push]
    rw [this]
    have he0 : ByteArray.empty.data = #[] := rfl
    rw [he0]
    simp
theorem run_bound {x : GV} {ux : Value} {n y : Nat} {c : BoundsCode} (hx : vRel ρ x ux) (hn : natOf (some x) = some n) (hl : n ≤ y) : (Instr.sliceBound ux y c).run P w = .ok n w := by
  obtain ⟨k, m, rfl, h0, rfl⟩ := natOf_int hn
  have := vRel_int hx
  subst this
  have hle : m ≤ y := by omega
  simp [Instr.sliceBound, asIntOf, h0, hle]
theorem Good.zOk (hG : Good w0 ρ σ w) {z : Nat} {x : GV} (h : zOk σ z x = true) : ∀ g off len L, x = .sl g off len → ρ g = some L → L.own = true → L.z = z := by
  intro g off len L hx hL ho
  subst hx
  simp only [Sy.zOk] at h
  split at h
  · rename_i hB
    rw [← eq_of_beq h]; exact (hG.mem g _ L hB hL).2.1
  · rename_i hB
    rw [← eq_of_beq h]; exact (hG.mem g _ L hB hL).2.1
  · cases h
theorem run_bnd {x : Option GV} {ux : Option Value} {d m n y : Nat} {c : BoundsCode} (hx : OptRel ρ x ux) (h : bndG d m x = some n) (hd : d ≤ m) (hy : m ≤ y) : n ≤ m ∧ ((match ux with | some v => Instr.sliceBound v y c | none => Pure.pure d : Sem Nat).run P w = .ok n w) := by
  cases x with
  | none =>
    cases ux with
    | none => simp only [bndG, Option.some.injEq] at h; subst h; exact ⟨hd, rfl⟩
    | some u => exact hx.elim
  | some x =>
    cases ux with
    | none => exact hx.elim
    | some u =>
      simp only [bndG, Option.bind_eq_some_iff] at h
      obtain ⟨k, hk, h⟩ := h
      split at h
      · injection h with h; subst h
        exact ⟨by assumption, run_bound hx hk (by omega)⟩
      · cases h
/-- Two bounds of a cut. -/
theorem run_bounds {lo hi : Option GV} {ulo uhi : Option Value} {isS : Bool} {len cap h l : Nat} (hcap : len ≤ cap) (hlo : OptRel ρ lo ulo) (hhi : OptRel ρ hi uhi) (hh : bndG len len hi = some h) (hl : bndG 0 h lo = some l) :
    (Instr.sliceBounds isS len cap ulo uhi none).run P w = .ok (l, h, cap) w ∧ l ≤ h ∧ h ≤ len := by
  obtain ⟨h1, k1⟩ := run_bnd (P := P) (w := w) (y := cap) (c := if isS then .sliceAcap else .sliceAlen) hhi hh (Nat.le_refl _) hcap
  obtain ⟨h2, k2⟩ := run_bnd (P := P) (w := w) (y := h) (c := .sliceB) hlo hl (Nat.zero_le _) (Nat.le_refl _)
  refine ⟨?_, h2, h1⟩
  unfold Instr.sliceBounds
  cases uhi <;> cases ulo <;> simp_all
theorem run_cutS {t : TypeId} {x v : GV} {lo hi : Option GV} {ux : Value} {ulo uhi : Option Value} (hu : P.underlying t = some .string) (hx : vRel ρ x ux) (hlo : OptRel ρ lo ulo) (hhi : OptRel ρ hi uhi)
    (h : cutSG x lo hi = some v) : ∃ u, (Instr.sliceAt t ux ulo uhi none).run P w = .ok u w ∧ vRel ρ v u := by
  cases x with
  | str s0 =>
    have hx := vRel_str hx; subst hx
    simp only [cutSG] at h
    obtain ⟨b, hb, h⟩ := Option.bind_eq_some_iff.1 h
    obtain ⟨a, ha, h⟩ := Option.bind_eq_some_iff.1 h
    injection h with h
    subst h
    obtain ⟨hr, _, _⟩ := run_bounds (P := P) (w := w) (isS := false) (Nat.le_refl s0.size) hlo hhi hb ha
    exact ⟨.string (s0.extract a b), by simp [Instr.sliceAt, run_underlying hu, Instr.slice, hr], rfl⟩
  | _ => simp [cutSG] at h
theorem run_cut {t e : TypeId} {i : TypeInfo} {x v : GV} {lo hi : Option GV} {ux : Value} {ulo uhi : Option Value} (hu : P.underlying t = some (.slice e)) (hi' : P.info? e = some i) (hx : vRel ρ x ux) (hlo : OptRel ρ lo ulo) (hhi : OptRel ρ hi uhi)
    (hz : ∀ g off len L, x = .sl g off len → ρ g = some L → L.own = true → L.z = i.size) (h : cutG i.size x lo hi = some v) : ∃ u, (Instr.sliceAt t ux ulo uhi none).run P w = .ok u w ∧ vRel ρ v u := by
  cases x with
  | nilS =>
    have hx := vRel_nilS hx; subst hx
    simp only [cutG] at h
    obtain ⟨b, hb, h⟩ := Option.bind_eq_some_iff.1 h
    obtain ⟨l, ha, h⟩ := Option.bind_eq_some_iff.1 h
    injection h with h
    subst h
    have e : b = 0 := by
      have := (run_bnd (P := P) (w := w) (c := .sliceB) hhi hb (Nat.le_refl _) (Nat.le_refl _)).1
      omega
    subst e
    obtain ⟨hr, h1, h2⟩ := run_bounds (P := P) (w := w) (isS := true) (Nat.le_refl 0) hlo hhi hb ha
    have : l = 0 := by omega
    subst this
    exact ⟨.slice none 0 0, by simp [Instr.sliceAt, run_underlying hu, Instr.slice, hr, sizeOf, typeInfo, hi'], rfl⟩
  | emp =>
    obtain ⟨a, cap, rfl⟩ := vRel_emp hx
    simp only [cutG] at h
    obtain ⟨b, hb, h⟩ := Option.bind_eq_some_iff.1 h
    obtain ⟨l, ha, h⟩ := Option.bind_eq_some_iff.1 h
    injection h with h
    subst h
    have e : b = 0 := by
      have := (run_bnd (P := P) (w := w) (c := .sliceB) hhi hb (Nat.le_refl _) (Nat.le_refl _)).1
      omega
    subst e
    obtain ⟨hr, h1, h2⟩ := run_bounds (P := P) (w := w) (isS := true) (Nat.zero_le cap) hlo hhi hb ha
    have : l = 0 := by omega
    subst this
    refine ⟨.slice (if cap = 0 then a else a.map (·.add (0 * i.size))) 0 cap, ?_, _, _, rfl⟩
    simp [Instr.sliceAt, run_underlying hu, Instr.slice, hr, sizeOf, typeInfo, hi']
  | sl g off len =>
    obtain ⟨L, hL, a, cap, rfl, hle, hc⟩ := vRel_sl hx
    simp only [cutG] at h
    obtain ⟨b, hb, h⟩ := Option.bind_eq_some_iff.1 h
    obtain ⟨l, ha, h⟩ := Option.bind_eq_some_iff.1 h
    injection h with h
    subst h
    obtain ⟨hr, h1, h2⟩ := run_bounds (P := P) (w := w) (isS := true) hle hlo hhi hb ha
    refine ⟨.slice (some (if cap = l then a else a.add (l * i.size))) (b - l) (cap - l), ?_, L, hL, _, _, rfl, by omega, ?_⟩
    · simp [Instr.sliceAt, run_underlying hu, Instr.slice, hr, sizeOf, typeInfo, hi']
      split <;> rfl
    · by_cases hcl : cap = l
      · exact .inl (by omega)
      · rcases hc with hc | ⟨rfl, hc⟩
        · omega
        · refine .inr ⟨by rw [if_neg hcl, add_add], fun ho => ?_⟩
          have := hc ho
          rw [← this, hz g off len L rfl hL ho]
          have e : (cap - l) * i.size + l * i.size = cap * i.size := by rw [← Nat.add_mul]; congr 1; omega
          omega
  | _ => simp [cutG] at h
theorem capOf_rel {caps : List GV} {cs : List (Nat × Nat)} {us : List Value} (h : caps.mapM capOf = some cs) (ha : All2 (vRel ρ) caps us) : All2 (fun c u => ∃ L, ρ c.1 = some L ∧ u = .pointer (some (L.a.add c.2))) cs us := by
  induction ha generalizing cs with
  | nil => simp at h; subst h; exact .nil
  | cons h1 _ ih =>
    rw [List.mapM_cons] at h
    simp only [bind, Option.bind_eq_some_iff, pure, Option.some.injEq] at h
    obtain ⟨c, hc, cs', hcs, rfl⟩ := h
    refine .cons ?_ (ih hcs)
    rename_i x _ _ _ _
    cases x <;> simp only [capOf, Option.some.injEq, reduceCtorEq] at hc
    subst hc
    exact vRel_ptr h1
/-- A row that is filled. -/
theorem fill_rel {place : Nat → Option (Nat × Nat)} : ∀ {ps : List (Nat × Value)} {qs : List (Nat × Nat × GV)} {zero cs : List GV} {cells : Array Value}, fillG zero qs = some cs → All2 (sRel ρ) zero cells.toList →
    All2 (fun (p : Nat × Value) (q : Nat × Nat × GV) => place p.1 = some (q.1, q.2.1) ∧ vRel ρ q.2.2 p.2) ps qs → ∃ r, Instr.fill place cells ps = some r ∧ All2 (sRel ρ) cs r.toList
  | _, _, zero, cs, cells, h, hz, .nil => by
    simp only [fillG, Option.some.injEq] at h
    subst h
    exact ⟨cells, rfl, hz⟩
  | (pi, pv) :: ps, (off, size, v) :: qs, zero, cs, cells, h, hz, .cons h1 h2 => by
    simp only [fillG] at h
    split at h
    · rename_i hc
      obtain ⟨hs, h0, hl⟩ := hc
      obtain ⟨hp, hv⟩ := h1
      have ha := cells_rel' (v := v) hv (by omega)
      have hsz : pv.cells.size = size := by rw [← hs, ha.length]; simp
      have hcz : cells.size = zero.length := by rw [hz.length]; simp
      have hf := Great.foldl_set off pv.cells.toList 0 cells
      have hz' : All2 (sRel ρ) (splice zero off v.cells) (pv.cells.zipIdx.foldl (fun cs (c, j) => cs.setIfInBounds (off + j) c) cells).toList := by
        rw [← Array.foldl_toList, Array.toList_zipIdx]
        refine All2.of_get ?_ fun j a b hja hjb => ?_
        · rw [splice_length (by omega)]
          have := hf.1
          simp only [Array.length_toList]
          rw [this, hcz]
        · rw [Array.getElem?_toList] at hjb
          rw [hf.2 j] at hjb
          rw [splice_get (by omega)] at hja
          simp only [Nat.add_zero, Array.length_toList] at hjb
          split at hja
          · rename_i hj
            rw [if_pos (by omega)] at hjb
            obtain ⟨u, hu, hs⟩ := ha.get hja
            rw [hu] at hjb
            injection hjb with hjb
            rw [← hjb]; exact hs
          · rename_i hj
            rw [if_neg (by omega)] at hjb
            obtain ⟨u, hu, hs⟩ := hz.get hja
            rw [Array.getElem?_toList] at hu
            rw [hu] at hjb
            injection hjb with hjb
            rw [← hjb]; exact hs
      obtain ⟨r, hr, har⟩ := fill_rel h hz' h2
      refine ⟨r, ?_, har⟩
      simp only [Instr.fill, hp]
      rw [if_neg (by simp; omega)]
      exact hr
    · cases h
end ops
end Go.Proofs.Ytopannfdcikgiaa.Sy
