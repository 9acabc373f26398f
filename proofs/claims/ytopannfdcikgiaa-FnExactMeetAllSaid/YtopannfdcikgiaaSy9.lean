/- Appending. -/
import Derived.Test.YtopannfdcikgiaaSy8
namespace Go.Proofs.Ytopannfdcikgiaa.Sy
open Go Go.RowKit
section ops
variable {P : Program} {w0 w : World} {ρ : Rho} {σ : St}
theorem rowAt_read {L : Loc} {cs : List GV} (hm : rowAt ρ w L cs) (hsp : L.a.spot = none) {off n : Nat} (hl : off + n ≤ cs.length) :
    ∃ us : List Value, us.length = n ∧ (∀ (j : Nat) v, us[j]? = some v → w.cell? ((L.a.add off).add j) = some v) ∧ All2 (sRel ρ) ((cs.drop off).take n) us := by
  obtain ⟨cur, ty, h1, h2, h3, h4⟩ := hm
  refine ⟨((cur.toList.drop (L.a.off + off)).take n), by simp; omega, fun j v hj => ?_, All2.of_get (by simp; omega) fun j c v hc hv => ?_⟩
  · rw [List.getElem?_take] at hj
    split at hj
    · rw [List.getElem?_drop] at hj
      rw [add_add, add_own hsp, cell_of_row w L.a.block _ cur ty (0, 0) h1, ← hj]
      simp [Nat.add_assoc]
    · cases hj
  · rw [List.getElem?_take] at hc hv
    split at hc
    · rename_i hjn
      rw [if_pos hjn] at hv
      rw [List.getElem?_drop] at hc hv
      obtain ⟨u, hu, hs⟩ := h4 _ _ hc
      rw [← Nat.add_assoc] at hu
      simp only [Array.getElem?_toList] at hv
      rw [hu] at hv
      injection hv with hv
      rw [← hv]; exact hs
    · cases hc
theorem put_at {n : Nat} {L : Loc} : Good.put ρ n L n = some L := by simp [Good.put]
theorem run_app_room (w : World) {t t2 ty e : TypeId} {d2 : TypeDesc} {i : TypeInfo} {base : Option Addr} {ux : Value} {sLen sCap n : Nat} {uns : List Value} {w' : World} (ht : P.underlying t = some (.slice e)) (ht2 : P.underlying t2 = some d2) (hd2 : (∃ e', d2 = .slice e') ∨ d2 = .string)
    (hi : P.info? e = some i) (hlen : (Builtin.lenOf ux).run P w = .ok n w) (hfst : (Builtin.firstCells i.size n ux).run P w = .ok uns.toArray w) (hroom : sLen + n ≤ sCap)
    (hst : ∀ a, base = some a → (storeCells (a.add (sLen * i.size)) uns).run P w = .ok () w') (hb : base = none → w' = w) :
    (Builtin.append_ #[t, t2] ty #[.slice base sLen sCap, ux]).run P w = .ok (.slice base (sLen + n) sCap) w' := by
  cases base with
  | none =>
    have := hb rfl
    subst this
    rcases hd2 with ⟨e', rfl⟩ | rfl <;> simp [Builtin.append_, run_underlying ht, run_underlying ht2, sizeOf, typeInfo, hi, hlen, hroom, hfst]
  | some a =>
    have := hst a rfl
    rcases hd2 with ⟨e', rfl⟩ | rfl <;> simp [Builtin.append_, run_underlying ht, run_underlying ht2, sizeOf, typeInfo, hi, hlen, hroom, hfst, this]
theorem run_app_new (w : World) {t t2 ty e : TypeId} {d2 : TypeDesc} {i : TypeInfo} {zv : Value} {base : Option Addr} {ux : Value} {sLen sCap n : Nat} {olds uns : List Value} (ht : P.underlying t = some (.slice e)) (ht2 : P.underlying t2 = some d2) (hd2 : (∃ e', d2 = .slice e') ∨ d2 = .string)
    (hi : P.info? e = some i) (hz : i.zero = some zv) (hby : 0 < i.bytes) (hlen : (Builtin.lenOf ux).run P w = .ok n w) (hfst : (Builtin.firstCells i.size n ux).run P w.drew = .ok uns.toArray w.drew) (hold : (Builtin.firstCells i.size sLen (.slice base sLen sCap)).run P w.drew = .ok olds.toArray w.drew) (hroom : sCap < sLen + n) (hbytes : (sLen + n) * i.bytes ≤ 140737488355328) :
    (Builtin.append_ #[t, t2] ty #[.slice base sLen sCap, ux]).run P w = .ok (.slice (some ⟨w.heap.size, 0, none⟩) (sLen + n) (grownCap w (sLen + n) sCap e)) (w.drew.alloc (.cells (olds ++ uns ++ (Builtin.zeroCells zv.cells (grownCap w (sLen + n) sCap e - (sLen + n))).toList).toArray e)) := by
  have hn : ¬ (sLen + n ≤ sCap) := by omega
  have hle : sLen + n ≤ (sLen + n) * i.bytes := Nat.le_mul_of_pos_right _ hby
  have hby' : i.bytes ≠ 0 := by omega
  have h48' : ¬ (281474976710656 < Builtin.nextslicecap (sLen + n) sCap * i.bytes) := by
    have := growslice_fits hroom hbytes
    omega
  rcases hd2 with ⟨e', rfl⟩ | rfl <;>
  · simp [Builtin.append_, run_underlying ht, run_underlying ht2, sizeOf, typeInfo, zeroValue, hi, hz, hlen, hn, hby', h48', Question.forced, hfst, hold, newRow, grownCap]
    congr 2
    apply Array.ext'
    simp [List.append_assoc]
theorem res_app (hG : Good w0 ρ σ w) {t t2 ty e : TypeId} {d2 : TypeDesc} {i : TypeInfo} {zv : Value} {s v : GV} {us ux : Value} {n : Nat} {new : List GV} {uns : List Value} {σ' : St} (ht : P.underlying t = some (.slice e)) (ht2 : P.underlying t2 = some d2) (hd2 : (∃ e', d2 = .slice e') ∨ d2 = .string)
    (hi : P.info? e = some i) (hz : i.zero = some zv) (hzs : zv.cells.size = i.size) (hsz : 0 < i.size) (hby : 0 < i.bytes) (hs : vRel ρ s us) (hlen : ∀ w, (Builtin.lenOf ux).run P w = .ok n w)
    (hfst : ∀ w', (∀ a v, w.cell? a = some v → w'.cell? a = some v) → (Builtin.firstCells i.size n ux).run P w' = .ok uns.toArray w') (hul : uns.length = n * i.size) (ha : All2 (sRel ρ) new uns) (h : appG i.size i.bytes σ s n new = some (v, σ')) :
    Res P (Builtin.append_ #[t, t2] ty #[us, ux]) w0 ρ σ w v σ' := by
  have hfw := hfst w (fun _ _ h => h)
  have hfd := hfst w.drew (fun _ _ h => h)
  have hnl := ha.length
  unfold appG at h
  -- a new row
  have grow : ∀ (base : Option Addr) (sLen sCap : Nat) (olds : List Value) (cs : List GV) (σ1 : St), us = .slice base sLen sCap → sCap < sLen + n → (sLen + n) * i.bytes ≤ 140737488355328 → olds.length = sLen * i.size → All2 (sRel ρ) cs olds →
      (Builtin.firstCells i.size sLen (.slice base sLen sCap)).run P w.drew = .ok olds.toArray w.drew → Good w0 ρ σ1 w → σ1.length = σ.length →
      (∀ (g : Nat) B, σ1[g]? = some (some B) → σ[g]? = some (some B)) → Res P (Builtin.append_ #[t, t2] ty #[us, ux]) w0 ρ σ w (.sl σ.length 0 (sLen + n)) (σ1 ++ [some (.row i.size (cs ++ new))]) := by
    intro base sLen sCap olds cs σ1 hus hcap hbytes hol hcs hold hG1 hlen1 hsub
    subst hus
    have hr := run_app_new (P := P) w (ty := ty) ht ht2 hd2 hi hz hby (hlen w) hfd hold hcap hbytes
    have hge := grownCap_ge w (sLen + n) sCap e
    have hA := hG1.drew.alloc (ty := e) (z := i.size) (cs := cs ++ new) (vs := (olds ++ uns ++ (Builtin.zeroCells zv.cells (grownCap w (sLen + n) sCap e - (sLen + n))).toList).toArray) hsz (fun j c hc => by
      obtain ⟨u, hu, hs⟩ := (hcs.append ha).get hc
      refine ⟨u, ?_, hs⟩
      have hlt := (List.getElem?_eq_some_iff.1 hu).1
      simp only [List.getElem?_toArray]
      rw [List.getElem?_append_left hlt]
      exact hu) (by
      have := (hcs.append ha).length
      simp only [List.size_toArray, List.length_append] at this ⊢
      omega)
    rw [← hlen1]
    refine ⟨_, _, _, hr, fun g hg => Good.put_sub g (by omega), ⟨_, put_at, _, _, rfl, hge, .inr ⟨by simp [Addr.add], fun _ => ?_⟩⟩, hA, ?_⟩
    · simp only [List.size_toArray, List.length_append, Array.length_toList, size_zeroCells, hzs, hol, hul, Nat.zero_add, Nat.add_zero]
      rw [← Nat.add_mul, ← Nat.add_mul]
      congr 1
      omega
    · rw [hlen1]; exact Frame.alloc (w := w) rfl hlen1 hsub rfl
  by_cases hn : n = 0
  · rw [if_pos hn] at h
    split at h
    rotate_left
    · cases h
    rename_i hsl
    injection h with h
    injection h with h1 h2
    subst h1; subst h2; subst hn
    have huns : uns = [] := List.eq_nil_of_length_eq_zero (by omega)
    subst huns
    have key : ∀ base sLen sCap, us = .slice base sLen sCap → sLen ≤ sCap → Res P (Builtin.append_ #[t, t2] ty #[us, ux]) w0 ρ σ w s σ := fun base sLen sCap he hle => by
      subst he
      exact Res.pure hG (run_app_room w (ty := ty) (w' := w) ht ht2 hd2 hi (hlen w) hfw (by omega) (fun a _ => rfl) (fun _ => rfl)) hs
    cases s with
    | nilS => exact key none 0 0 (vRel_nilS hs) (Nat.le_refl _)
    | emp =>
      obtain ⟨a, cap, hus⟩ := vRel_emp hs
      exact key a 0 cap hus (Nat.zero_le _)
    | sl g off len =>
      obtain ⟨L, hL, a, cap, hus, hle, _⟩ := vRel_sl hs
      exact key _ _ _ hus hle
    | _ => simp [isSl] at hsl
  · rw [if_neg hn] at h
    cases s with
    | nilS =>
      have hus := vRel_nilS hs
      simp only at h
      split at h
      · injection h with h
        injection h with h1 h2
        subst h1; subst h2
        have := grow none 0 0 [] [] σ hus (by omega) (by rw [Nat.zero_add]; assumption) (by simp) .nil (run_firstCells_none _ _ _ _ _) hG rfl (fun _ _ h => h)
        simpa using this
      · cases h
    | sl g off len =>
      obtain ⟨L, hL, a, cap, hus, hle, hc⟩ := vRel_sl hs
      simp only at h
      split at h
      · rename_i z' cs hB
        split at h
        · rename_i hcond
          obtain ⟨rfl, hfit, hbytes⟩ := hcond
          injection h with h
          injection h with h1 h2
          subst h1; subst h2
          have hm := hG.mem g _ L hB hL
          obtain ⟨ho, hLz, hrow⟩ := hm
          have hsp := (hG.loc g L hL ho).1
          obtain ⟨olds, hol, hoc, hoa⟩ := rowAt_read hrow hsp (off := off) (n := len * i.size) hfit
          by_cases hroom : len + n ≤ cap
          · rcases hc with hc | ⟨ha', hcap⟩
            · omega
            · have hcap := hcap ho
              subst ha'
              obtain ⟨cur, ty0, g1, g2, g3, g4⟩ := hrow
              rw [hLz] at hcap
              have hmul : (len + n) * i.size ≤ cap * i.size := Nat.mul_le_mul_right _ hroom
              rw [Nat.add_mul] at hmul
              have hst := run_storeCells_at P L.a.block (L.a.off + off + len * i.size) ty0 uns 0 cur w g1 (by omega) (oneCells ha)
              have hst' : (storeCells ((L.a.add off).add (len * i.size)) uns).run P w = .ok () (w.setRow L.a.block (cur.toList.take (L.a.off + off + len * i.size + 0) ++ uns ++ cur.toList.drop (L.a.off + off + len * i.size + 0 + uns.length)).toArray) := by
                rw [add_add, add_own hsp, ← Nat.add_assoc]
                exact hst
              have hr := run_app_room w (ty := ty) (base := some (L.a.add off)) (sLen := len) (sCap := cap) ht ht2 hd2 hi (hlen w) hfw hroom (fun a ha => by injection ha with ha; subst ha; exact hst') (fun h => by cases h)
              rw [hus]
              have hG' := hG.regrow hB hL ho (off := off) (cs' := (cs.drop off).take (len * i.size) ++ new) g1 (cur' := (cur.toList.take (L.a.off + off + len * i.size + 0) ++ uns ++ cur.toList.drop (L.a.off + off + len * i.size + 0 + uns.length)).toArray) (by simp; omega) (by simp; omega) (fun j c hc => by
                have hlen0 : ((cs.drop off).take (len * i.size)).length = len * i.size := by simp; omega
                have htk : (cur.toList.take (L.a.off + off + len * i.size + 0)).length = L.a.off + off + len * i.size := by simp; omega
                simp only [List.getElem?_toArray]
                rw [List.append_assoc]
                by_cases hj : j < len * i.size
                · rw [List.getElem?_append_left (by omega), List.getElem?_take, if_pos hj, List.getElem?_drop] at hc
                  obtain ⟨u, hu, hs⟩ := g4 _ _ hc
                  refine ⟨u, ?_, hs⟩
                  rw [List.getElem?_append_left (by omega), List.getElem?_take, if_pos (by omega), ← hu]
                  simp [Nat.add_assoc]
                · rw [List.getElem?_append_right (by omega), hlen0] at hc
                  obtain ⟨u, hu, hs⟩ := ha.get hc
                  refine ⟨u, ?_, hs⟩
                  have hlt := (List.getElem?_eq_some_iff.1 hu).1
                  rw [List.getElem?_append_right (by omega), htk, show L.a.off + off + j - (L.a.off + off + len * i.size) = j - len * i.size by omega, List.getElem?_append_left (by omega)]
                  exact hu)
              refine ⟨_, _, _, hr, fun g hg => Good.put_sub g hg, ⟨_, put_at, _, _, rfl, hroom, .inr ⟨?_, fun _ => ?_⟩⟩, hG', Frame.regrow (M := ⟨⟨L.a.block, L.a.off + off, none⟩, L.tot, L.z, true⟩) hB hL ho rfl _⟩
              · rw [add_own hsp]; simp [Addr.add]
              · simp only [Nat.add_zero, hLz]; omega
          · have hfo : (Builtin.firstCells i.size len (.slice (some a) len cap)).run P w.drew = .ok olds.toArray w.drew := by
              refine run_firstCells_some w.drew i.size len a len cap olds hol fun j v hj => ?_
              rcases hc with hc | ⟨ha', _⟩
              · have : len = 0 := by omega
                subst this
                simp only [Nat.zero_mul] at hol
                have : olds = [] := List.eq_nil_of_length_eq_zero hol
                subst this
                simp at hj
              · subst ha'
                exact hoc j v hj
            exact grow (some a) len cap olds _ (σ.set g none) hus (by omega) hbytes hol hoa hfo (hG.kill g) (by simp) (fun g' B' hB' => by
              rcases Good.set_some hB' with ⟨_, hx, _⟩ | ⟨_, hB'⟩
              · cases hx
              · exact hB')
        · cases h
      · cases h
    | _ => simp at h
end ops
end Go.Proofs.Ytopannfdcikgiaa.Sy
