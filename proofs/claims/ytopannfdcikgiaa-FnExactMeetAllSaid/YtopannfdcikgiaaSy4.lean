/- Each plain operation: the machine does it. -/
import Derived.Test.YtopannfdcikgiaaSy3
namespace Go.Proofs.Ytopannfdcikgiaa.Sy
open Go Go.RowKit
section ops
variable {P : Program} {w0 w : World} {ρ : Rho} {σ : St}
theorem rdB_get {g : Nat} {cs : List GV} (h : rdB σ g = some cs) : ∃ B, σ[g]? = some (some B) ∧ B.cells = some cs := by
  unfold rdB at h
  split at h
  · rename_i B hB; exact ⟨B, hB, h⟩
  · cases h
theorem seg_spec {cs r : List GV} {off n : Nat} (h : seg cs off n = some r) : r.length = n ∧ (∀ (j : Nat) c, r[j]? = some c → cs[off + j]? = some c) ∧ off + n ≤ cs.length ∧ r = (cs.drop off).take n := by
  unfold seg at h
  split at h
  · rename_i hl
    injection h with h
    subst h
    refine ⟨by simp; omega, fun j c hj => ?_, hl, rfl⟩
    rw [List.getElem?_take] at hj
    split at hj
    · rw [List.getElem?_drop] at hj; exact hj
    · cases hj
  · cases h
/-- A run of cells is read. -/
theorem Good.read (hG : Good w0 ρ σ w) {g off n : Nat} {cs r : List GV} {L : Loc} (hcs : rdB σ g = some cs) (hr : seg cs off n = some r) (hL : ρ g = some L) :
    ∃ us : List Value, us.length = n ∧ (∀ (j : Nat) v, us[j]? = some v → w.cell? ((L.a.add off).add j) = some v) ∧ All2 (sRel ρ) r us := by
  obtain ⟨B, hB, hc⟩ := rdB_get hcs
  obtain ⟨hl, hj, hx1, hx2⟩ := seg_spec hr
  have key : ∀ (j : Nat), j < n → ∃ v, w.cell? ((L.a.add off).add j) = some v ∧ ∀ c, r[j]? = some c → sRel ρ c v := by
    intro j hjn
    have hrj : r[j]? = some r[j] := List.getElem?_eq_getElem (by omega)
    obtain ⟨v, hv, hs⟩ := hG.cell hB hc hL (hj j _ hrj)
    refine ⟨v, by rw [add_add]; exact hv, fun c hc => ?_⟩
    rw [hrj] at hc; injection hc with hc; rw [← hc]; exact hs
  have us : ∃ us : List Value, us.length = n ∧ ∀ (j : Nat) v, us[j]? = some v → w.cell? ((L.a.add off).add j) = some v ∧ ∀ c, r[j]? = some c → sRel ρ c v := by
    clear hl hj hr hx1 hx2
    induction n with
    | zero => exact ⟨[], rfl, fun j v h => by simp at h⟩
    | succ n ih =>
      obtain ⟨us, h1, h2⟩ := ih (fun j hjn => key j (by omega))
      obtain ⟨v, hv, hs⟩ := key n (by omega)
      refine ⟨us ++ [v], by simp [h1], fun j u hu => ?_⟩
      rcases Nat.lt_or_ge j n with hjn | hjn
      · rw [List.getElem?_append_left (by omega)] at hu; exact h2 j u hu
      · rw [List.getElem?_append_right (by omega)] at hu
        have : j - us.length = 0 := by
          cases hd : j - us.length with
          | zero => rfl
          | succ k => rw [hd] at hu; simp at hu
        rw [this] at hu
        simp at hu
        subst hu
        have : j = n := by omega
        subst this
        exact ⟨hv, hs⟩
  obtain ⟨us, h1, h2⟩ := us
  exact ⟨us, h1, fun j v h => (h2 j v h).1, All2.of_get (by omega) fun j c v hc hv => (h2 j v hv).2 c hc⟩
theorem load_run (hG : Good w0 ρ σ w) {t : TypeId} {d : TypeDesc} {i : TypeInfo} {agg : Bool} {n g off : Nat} {L : Loc} {cs r : List GV} {v : GV} (hd : P.underlying t = some d) (hagg : aggTy d = agg)
    (hi : P.info? t = some i) (hn : agg = true → i.size = n) (hn1 : agg = false → n = 1) (hL : ρ g = some L) (hcs : rdB σ g = some cs) (hr : seg cs off n = some r) (hv : mkv agg r = some v) : ∃ u, (loadVar t (L.a.add off)).run P w = .ok u w ∧ cRel ρ v u := by
  obtain ⟨us, hl, hc, ha⟩ := hG.read hcs hr hL
  cases agg with
  | true =>
    have hv : v = .agg r := by simpa [mkv] using hv.symm
    subst hv
    have hrun := run_loadCells_list (P := P) w (L.a.add off) us hc
    refine ⟨.agg us.toArray, ?_, us, rfl, ha⟩
    have hag : (isAgg t).run P w = .ok true w := by
      simp only [isAgg, Sem.run_bind, run_underlying hd, Result.andThen_ok]
      cases d <;> simp_all [aggTy]
    simp only [loadVar, Sem.run_bind, Sem.run_pure, Result.andThen_ok, hag, if_true, sizeOf, typeInfo, hi, run_program]
    rw [show i.size = us.length by rw [hn rfl, hl], hrun]
    rfl
  | false =>
    have hn := hn1 rfl
    subst hn
    match us, hl, r, ha, hv with
    | [u], _, [c], .cons hs _, hv =>
      simp only [mkv, Bool.false_eq_true, if_false, List.head?_cons, Option.some.injEq] at hv
      subst hv
      refine ⟨u, ?_, ?_⟩
      · have hag : (isAgg t).run P w = .ok false w := by
          simp only [isAgg, Sem.run_bind, run_underlying hd, Result.andThen_ok]
          cases d <;> simp_all [aggTy]
        have h0 := hc 0 u rfl
        rw [show (L.a.add off).add 0 = L.a.add off from by simp [Addr.add]] at h0
        simp only [loadVar, Sem.run_bind, Sem.run_pure, Result.andThen_ok, hag, Bool.false_eq_true, if_false, run_load, h0]
      · cases c with
        | agg _ => exact hs.elim
        | tup _ => exact hs.elim
        | _ => exact hs
theorem cRel.v {c : GV} {v : Value} (h : cRel ρ c v) : vRel ρ c v := by
  cases c with
  | tup _ => exact h.elim
  | _ => exact h
theorem res_load (hG : Good w0 ρ σ w) {t : TypeId} {d : TypeDesc} {i : TypeInfo} {agg : Bool} {n g off : Nat} {u : Value} {cs r : List GV} {v : GV} (hd : P.underlying t = some d) (hagg : aggTy d = agg)
    (hi : P.info? t = some i) (hn : agg = true → i.size = n) (hn1 : agg = false → n = 1) (hu : vRel ρ (.ptr g off) u) (hcs : rdB σ g = some cs) (hr : seg cs off n = some r) (hv : mkv agg r = some v) : Res P (Instr.loadAt t u) w0 ρ σ w v σ := by
  obtain ⟨L, hL, rfl⟩ := vRel_ptr hu
  obtain ⟨u, hrun, hu⟩ := load_run (P := P) hG hd hagg hi hn hn1 hL hcs hr hv
  exact Res.pure hG (u := u) (by simp only [Instr.loadAt, Instr.sureAddr, Sem.run_bind, Sem.run_pure, Result.andThen_ok, hrun]) hu.v
theorem oneCells {r : List GV} {us : List Value} (h : All2 (sRel ρ) r us) : ∀ u ∈ us, u.oneCell' = true := fun u hu => by
  obtain ⟨c, _, hs⟩ := h.mem' hu
  exact hs.one
theorem splice_get {cs new : List GV} {off : Nat} (hl : off + new.length ≤ cs.length) (j : Nat) : (splice cs off new)[j]? = if off ≤ j ∧ j < off + new.length then new[j - off]? else cs[j]? := by
  unfold splice
  rw [List.append_assoc]
  by_cases h1 : j < off
  · rw [List.getElem?_append_left (by simp; omega), if_neg (by omega), List.getElem?_take, if_pos h1]
  · rw [List.getElem?_append_right (by simp; omega)]
    have e : (cs.take off).length = off := by simp; omega
    rw [e]
    by_cases h2 : j < off + new.length
    · rw [List.getElem?_append_left (by omega), if_pos (by omega)]
    · rw [List.getElem?_append_right (by omega), if_neg (by omega), List.getElem?_drop]
      congr 1
      omega
theorem splice_length {cs new : List GV} {off : Nat} (hl : off + new.length ≤ cs.length) : (splice cs off new).length = cs.length := by
  unfold splice
  simp
  omega
/-- Cells of a row of our own are written. -/
theorem Good.store (hG : Good w0 ρ σ w) {g z off : Nat} {cs new : List GV} {us : List Value} {L : Loc} (hB : σ[g]? = some (some (.row z cs))) (hL : ρ g = some L) (hl : off + new.length ≤ cs.length) (ha : All2 (sRel ρ) new us) :
    ∃ w', (storeCells (L.a.add off) us 0).run P w = .ok () w' ∧ Good w0 ρ (σ.set g (some (.row z (splice cs off new)))) w' ∧ Frame ρ σ w ρ (σ.set g (some (.row z (splice cs off new)))) w' := by
  obtain ⟨ho, hz, cur, ty, h1, h2, h3, h4⟩ := hG.mem g _ L hB hL
  have hsp := (hG.loc g L hL ho).1
  have hul := ha.length
  have hrun := run_storeCells_at P L.a.block (L.a.off + off) ty us 0 cur w h1 (by omega) (oneCells ha)
  rw [add_own hsp]
  refine ⟨_, hrun, ?_, Frame.setRow hB hL ho _⟩
  refine hG.write hB hL ho h1 ?_ ?_ ?_
  · simp; omega
  · rw [splice_length hl]; omega
  · intro j c hc
    rw [splice_get hl] at hc
    have elen : (cur.toList.take (L.a.off + off + 0)).length = L.a.off + off := by simp; omega
    split at hc
    · rename_i hj
      obtain ⟨u, hu, hs⟩ := ha.get hc
      refine ⟨u, ?_, hs⟩
      simp only [List.getElem?_toArray]
      rw [List.append_assoc, List.getElem?_append_right (by omega), List.getElem?_append_left (by omega), elen]
      rw [← hu]
      congr 1
      omega
    · rename_i hj
      obtain ⟨u, hu, hs⟩ := h4 j c hc
      refine ⟨u, ?_, hs⟩
      simp only [List.getElem?_toArray]
      rw [List.append_assoc]
      by_cases h5 : j < off
      · rw [List.getElem?_append_left (by omega), List.getElem?_take, if_pos (by omega), ← hu]
        simp
      · rw [List.getElem?_append_right (by omega), List.getElem?_append_right (by omega), elen, List.getElem?_drop, ← hu]
        simp only [Array.getElem?_toList]
        congr 1
        omega
theorem res_store (hG : Good w0 ρ σ w) {t : TypeId} {i : TypeInfo} {z g off : Nat} {ua ux : Value} {cs : List GV} {x : GV} (hi : P.info? t = some i) (hua : vRel ρ (.ptr g off) ua) (hux : vRel ρ x ux)
    (hB : σ[g]? = some (some (.row z cs))) (hl : off + i.size ≤ cs.length) (hn : 0 < i.size) (hx : x.cells.length = i.size) : ∃ w', (Instr.storeAt t ua ux).run P w = .ok () w' ∧ Good w0 ρ (σ.set g (some (.row z (splice cs off x.cells)))) w' ∧ Frame ρ σ w ρ (σ.set g (some (.row z (splice cs off x.cells)))) w' := by
  obtain ⟨L, hL, rfl⟩ := vRel_ptr hua
  have ha := cells_rel' hux (by omega)
  obtain ⟨w', hrun, hG', hF⟩ := hG.store (P := P) hB hL (off := off) (new := x.cells) (by omega) ha
  refine ⟨w', ?_, hG', hF⟩
  have hsz : ux.cells.size = i.size := by rw [← hx, ha.length]; simp
  simp only [Instr.storeAt, Instr.sureAddr, storeVar, Sem.run_bind, Sem.run_pure, Result.andThen_ok, sizeOf, typeInfo, hi, run_program, hsz, ne_eq, not_true_eq_false, if_false, hrun]
/-- A new row. -/
theorem res_row (hG : Good w0 ρ σ w) {e z : Nat} {cs : List GV} {vs : Array Value} (hz : 0 < z) (ha : All2 (sRel ρ) cs vs.toList) :
    ∃ a w' ρ', (newRow e vs).run P w = .ok a w' ∧ (∀ g, g < σ.length → ρ' g = ρ g) ∧ ρ' σ.length = some ⟨a, vs.size, z, true⟩ ∧ a.off = 0 ∧ a.spot = none ∧ Good w0 ρ' (σ ++ [some (.row z cs)]) w' ∧ Frame ρ σ w ρ' (σ ++ [some (.row z cs)]) w' := by
  refine ⟨_, _, Good.put ρ σ.length ⟨⟨w.heap.size, 0, none⟩, vs.size, z, true⟩, rfl, Good.put_sub, ?_, rfl, rfl, hG.alloc (ty := e) hz (fun j c hc => ?_) ?_, Frame.alloc rfl rfl (fun _ _ h => h) rfl⟩
  · simp [Good.put]
  · obtain ⟨u, hu, hs⟩ := ha.get hc
    exact ⟨u, by simpa using hu, hs⟩
  · rw [ha.length]; simp
theorem res_box (hG : Good w0 ρ σ w) {e : Nat} {x : GV} {ux : Value} (hux : vRel ρ x ux) : Res P (Instr.box e ux) w0 ρ σ w (.ptr σ.length 0) (σ ++ [some (.row 1 x.cells)]) := by
  by_cases hn : 0 < x.cells.length
  · obtain ⟨a, w', ρ', hrun, hs, hL, _, hsp, hG', hF⟩ := res_row (P := P) hG (e := e) (z := 1) (cs := x.cells) (vs := ux.cells) (by omega) (cells_rel' hux hn)
    refine ⟨.pointer (some a), w', ρ', ?_, hs, ⟨_, hL, by simp [Addr.add]⟩, hG', hF⟩
    simp only [Instr.box, newVar, Sem.run_bind, hrun, Result.andThen_ok, Sem.run_pure]
  · have h0 : x.cells = [] := List.eq_nil_of_length_eq_zero (by omega)
    rw [h0]
    refine ⟨.pointer (some ⟨w.heap.size, 0, none⟩), w.alloc (.cells ux.cells e), Good.put ρ σ.length ⟨⟨w.heap.size, 0, none⟩, ux.cells.size, 1, true⟩, rfl, Good.put_sub, ⟨⟨⟨w.heap.size, 0, none⟩, ux.cells.size, 1, true⟩, by simp [Good.put], by simp [Addr.add]⟩, hG.alloc (ty := e) (by omega) (fun j c hc => by simp at hc) (by simp), Frame.alloc rfl rfl (fun _ _ h => h) rfl⟩
theorem res_alloc (hG : Good w0 ρ σ w) {e : Nat} {i : TypeInfo} {zv : Value} {cs : List GV} (hi : P.info? e = some i) (hz : i.zero = some zv) (ha : All2 (sRel ρ) cs zv.cells.toList) : Res P (Instr.alloc e true (.tuple #[])) w0 ρ σ w (.ptr σ.length 0) (σ ++ [some (.row 1 cs)]) := by
  obtain ⟨a, w', ρ', hrun, hs, hL, _, hsp, hG', hF⟩ := res_row (P := P) hG (e := e) (z := 1) (cs := cs) (vs := zv.cells) (by omega) ha
  refine ⟨.pointer (some a), w', ρ', ?_, hs, ⟨_, hL, by simp [Addr.add]⟩, hG', hF⟩
  have hzr : (zeroValue e).run P w = .ok zv w := by simp [zeroValue, typeInfo, hi, hz]
  simp only [Instr.alloc, Sem.run_bind, hzr, newVar, hrun, Result.andThen_ok, Sem.run_pure]
end ops
end Go.Proofs.Ytopannfdcikgiaa.Sy
