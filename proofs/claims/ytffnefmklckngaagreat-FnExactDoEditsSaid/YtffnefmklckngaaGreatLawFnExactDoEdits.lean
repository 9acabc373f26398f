/- FnExactDoEdits returns true, whatever its arguments, and each reads behind the call as it read before; no condition. -/
import Derived.Test.YtffnefmklckngaaGreatRows
import Derived.Test.YtffnefmklckngaaGreatBDoEdits4
import Derived.WalkKit
import Derived.ProofKit
import Derived.OpenShut
import Derived.ShutString
import Derived.ChangeOld
import Derived.Below
import Derived.Carry
import Derived.SizedLaws
namespace Go.Proofs.YtffnefmklckngaaGreat.fnExactDoEdits
open Go.ChangeShapes Go.WideShapes Go.ChangeAt Go.RowKit Go.Proofs.YtffnefmklckngaaGreat.Sy
set_option linter.unusedVariables false
theorem op3 : Opens Tryz.prog 3 (Ek.int .i64) I64 := opens_i64 Tryz.underlying3 (by kernel_rfl)
theorem op36 : Opens Tryz.prog 36 (Ek.slice (Ek.int .i64)) (fun xs => ((xs).length ≤ 9223372036854775807 ∧ ∀ y36 ∈ xs, I64 (y36))) := opens_slice Tryz.underlying36 (by kernel_rfl) (by decide) op3
theorem op9 : Opens Tryz.prog 9 Ek.str (fun s => s.size ≤ 9223372036854775807) := opens_str Tryz.underlying9 (by kernel_rfl)
theorem op147 : Opens Tryz.prog 147 eTally zTally := opens_mono (opens_iso (fun x : Sy.Tally => (x.obj, x.rep, x.sum)) (fun a => ⟨a.1, a.2.1, a.2.2⟩) (fun _ => rfl) (opens_struct Tryz.underlying147 (by kernel_rfl) rfl (part_pair (part_one 0 9 ⟨_, rfl, rfl, rfl⟩ rfl op9) (part_pair (part_one 1 3 ⟨_, rfl, rfl, rfl⟩ rfl op3) (part_one 2 3 ⟨_, rfl, rfl, rfl⟩ rfl op3))))) (fun _ h => h)
theorem op37 : Opens Tryz.prog 37 (Ek.slice eTally) (fun xs => ((xs).length ≤ 9223372036854775807 ∧ ∀ y37 ∈ xs, zTally (y37))) := opens_slice Tryz.underlying37 (by kernel_rfl) (by decide) op147
theorem op4 : Opens Tryz.prog 4 Ek.bool (fun _ => True) := opens_bool Tryz.underlying4 (by kernel_rfl)
theorem op65 : Opens Tryz.prog 65 eDot zDot := opens_mono (opens_iso (fun x : Sy.Dot => (x.rep, x.seq)) (fun a => ⟨a.1, a.2⟩) (fun _ => rfl) (opens_struct Tryz.underlying65 (by kernel_rfl) rfl (part_pair (part_one 0 3 ⟨_, rfl, rfl, rfl⟩ rfl op3) (part_one 1 3 ⟨_, rfl, rfl, rfl⟩ rfl op3)))) (fun _ h => h)
theorem op150 : Opens Tryz.prog 150 eLive zLive := opens_mono (opens_iso (fun x : Sy.Live => (x.map, x.obj, x.key, x.val, x.dot)) (fun a => ⟨a.1, a.2.1, a.2.2.1, a.2.2.2.1, a.2.2.2.2⟩) (fun _ => rfl) (opens_struct Tryz.underlying150 (by kernel_rfl) rfl (part_pair (part_one 0 4 ⟨_, rfl, rfl, rfl⟩ rfl op4) (part_pair (part_one 1 9 ⟨_, rfl, rfl, rfl⟩ rfl op9) (part_pair (part_one 2 9 ⟨_, rfl, rfl, rfl⟩ rfl op9) (part_pair (part_one 3 3 ⟨_, rfl, rfl, rfl⟩ rfl op3) (part_one 4 65 ⟨_, rfl, rfl, rfl⟩ rfl op65))))))) (fun _ h => h)
theorem op38 : Opens Tryz.prog 38 (Ek.slice eLive) (fun xs => ((xs).length ≤ 9223372036854775807 ∧ ∀ y38 ∈ xs, zLive (y38))) := opens_slice Tryz.underlying38 (by kernel_rfl) (by decide) op150
theorem op153 : Opens Tryz.prog 153 eCell zCell := opens_mono (opens_iso (fun x : Sy.Cell => (x.obj, x.dot, x.time, x.ref, x.val, x.gone)) (fun a => ⟨a.1, a.2.1, a.2.2.1, a.2.2.2.1, a.2.2.2.2.1, a.2.2.2.2.2⟩) (fun _ => rfl) (opens_struct Tryz.underlying153 (by kernel_rfl) rfl (part_pair (part_one 0 9 ⟨_, rfl, rfl, rfl⟩ rfl op9) (part_pair (part_one 1 65 ⟨_, rfl, rfl, rfl⟩ rfl op65) (part_pair (part_one 2 3 ⟨_, rfl, rfl, rfl⟩ rfl op3) (part_pair (part_one 3 65 ⟨_, rfl, rfl, rfl⟩ rfl op65) (part_pair (part_one 4 3 ⟨_, rfl, rfl, rfl⟩ rfl op3) (part_one 5 4 ⟨_, rfl, rfl, rfl⟩ rfl op4)))))))) (fun _ h => h)
theorem op39 : Opens Tryz.prog 39 (Ek.slice eCell) (fun xs => ((xs).length ≤ 9223372036854775807 ∧ ∀ y39 ∈ xs, zCell (y39))) := opens_slice Tryz.underlying39 (by kernel_rfl) (by decide) op153
theorem op41 : Opens Tryz.prog 41 eState zState := opens_mono (opens_iso (fun x : Sy.State => (x.know, x.tallies, x.lives, x.cells)) (fun a => ⟨a.1, a.2.1, a.2.2.1, a.2.2.2⟩) (fun _ => rfl) (opens_struct Tryz.underlying41 (by kernel_rfl) rfl (part_pair (part_one 0 36 ⟨_, rfl, rfl, rfl⟩ rfl op36) (part_pair (part_one 1 37 ⟨_, rfl, rfl, rfl⟩ rfl op37) (part_pair (part_one 2 38 ⟨_, rfl, rfl, rfl⟩ rfl op38) (part_one 3 39 ⟨_, rfl, rfl, rfl⟩ rfl op39)))))) (fun _ h => h)
theorem op118 : Opens Tryz.prog 118 eEdit zEdit := opens_mono (opens_iso (fun x : Sy.Edit => (x.kind, x.obj, x.key, x.val, x.place)) (fun a => ⟨a.1, a.2.1, a.2.2.1, a.2.2.2.1, a.2.2.2.2⟩) (fun _ => rfl) (opens_struct Tryz.underlying118 (by kernel_rfl) rfl (part_pair (part_one 0 3 ⟨_, rfl, rfl, rfl⟩ rfl op3) (part_pair (part_one 1 9 ⟨_, rfl, rfl, rfl⟩ rfl op9) (part_pair (part_one 2 9 ⟨_, rfl, rfl, rfl⟩ rfl op9) (part_pair (part_one 3 3 ⟨_, rfl, rfl, rfl⟩ rfl op3) (part_one 4 3 ⟨_, rfl, rfl, rfl⟩ rfl op3))))))) (fun _ h => h)
theorem op52 : Opens Tryz.prog 52 (Ek.slice eEdit) (fun xs => ((xs).length ≤ 9223372036854775807 ∧ ∀ y52 ∈ xs, zEdit (y52))) := opens_slice Tryz.underlying52 (by kernel_rfl) (by decide) op118
theorem own : ownKnob Tryz.prog.godebug = none := by kernel_rfl
theorem laidOut : laidOutB Tryz.prog = true := by kernel_rfl
set_option maxRecDepth 100000 in
theorem lifted (os : Os) (started : os.Started) (H : Type) (enc : TypeId × Value → H) :
    ReturnsInHanded {} Tryz.checked os 6 .any (Rows.fnExactDoEditsSpec.pre6 enc Tryz.prog Tryz.f6 Rows.fnExactDoEditsRow.domain false) (Rows.fnExactDoEditsSpec.post enc Tryz.prog Tryz.f6 false true false false) := by
  refine returnsInHanded_of_change_sized (C := Tryz.checked) own started (by kernel_rfl) Tryz.func6
    (ChangeSpec.witness6 (enc := enc) (C := Tryz.checked) false ⟨#[], #[.agg #[.slice none 0 0, .slice none 0 0, .slice none 0 0, .slice none 0 0], .int .i64 0, .int .i64 0, .slice none 0 0], []⟩ 8 (by kernel_rfl) (by kernel_rfl) (by kernel_rfl) (by kernel_rfl)) ?_
  intro W base args ds gs before hval0 hW hcnd hsz0 _
  have hval : ∀ (j : Nat) t v, Tryz.f6.params[j]? = some t → args[j]? = some v → Value.okWide Tryz.prog W .any base t v := hval0
  have hW' := hW
  obtain ⟨p, q, hA0, hV, rfl, hfz, hnd⟩ := hW
  have hA : DataW.TrodAll enc Tryz.prog W 0 (fun _ => true) true Tryz.f6.params.toList args.toList ds p := hA0
  rw [Tryz.params6] at hA hval
  obtain ⟨v0, vs0, d0, ds0, p0, q0, hargs, rfl, rfl, h0, r0⟩ := trodAll_cons hA
  obtain ⟨v1, vs1, d1, ds1, p1, q1, rfl, rfl, rfl, h1, r1⟩ := trodAll_cons r0
  obtain ⟨v2, vs2, d2, ds2, p2, q2, rfl, rfl, rfl, h2, r2⟩ := trodAll_cons r1
  obtain ⟨v3, vs3, d3, ds3, p3, q3, rfl, rfl, rfl, h3, r3⟩ := trodAll_cons r2
  obtain ⟨rfl, rfl, rfl⟩ := trodAll_nil r3
  obtain rfl : args = #[v0, v1, v2, v3] := by cases args; simp_all
  obtain ⟨rfl, rfl⟩ := trodVars_none hV
  obtain ⟨vv0, rfl⟩ := agg_of Tryz.underlying41 (hval 0 41 v0 rfl rfl)
  have k0_ := h0
  have lt0 : ∀ x ∈ p0, x.block < W.heap.size := by obtain ⟨m, hm⟩ := k0_; exact DataW.trod_lt m _ _ _ hm
  obtain ⟨x0, gs0, ρ0, σ0, hG0, hp0, hle0, hr0, hR0, hw0⟩ := op41.2 _ _ _ _ _ _ h0.choose _ _ h0.choose_spec (fun _ => none) [] (Good.nil W)
  have hv0 : vRel ρ0 (.agg gs0) (.agg vv0) := ⟨vv0.toList, by simp, hr0⟩
  obtain ⟨s1, rfl⟩ := okWide_int Tryz.underlying3 (hval 1 3 v1 rfl rfl)
  have k1_ := h1
  have lt1 : ∀ x ∈ p1, x.block < W.heap.size := by obtain ⟨m, hm⟩ := k1_; exact DataW.trod_lt m _ _ _ hm
  obtain ⟨x1, gs1, ρ1, σ1, hG1, hp1, hle1, hr1, hR1, hw1⟩ := op3.2 _ _ _ _ _ _ h1.choose _ _ h1.choose_spec ρ0 σ0 hG0
  obtain rfl := hR1
  have hv1 := match hr1 with | .cons hh _ => hh.v
  obtain ⟨s2, rfl⟩ := okWide_int Tryz.underlying3 (hval 2 3 v2 rfl rfl)
  have k2_ := h2
  have lt2 : ∀ x ∈ p2, x.block < W.heap.size := by obtain ⟨m, hm⟩ := k2_; exact DataW.trod_lt m _ _ _ hm
  obtain ⟨x2, gs2, ρ2, σ2, hG2, hp2, hle2, hr2, hR2, hw2⟩ := op3.2 _ _ _ _ _ _ h2.choose _ _ h2.choose_spec ρ1 σ1 hG1
  obtain rfl := hR2
  have hv2 := match hr2 with | .cons hh _ => hh.v
  obtain ⟨b3, n3, c3_, rfl⟩ := okWide_slice Tryz.underlying52 (hval 3 52 v3 rfl rfl)
  have k3_ := h3
  have lt3 : ∀ x ∈ p3, x.block < W.heap.size := by obtain ⟨m, hm⟩ := k3_; exact DataW.trod_lt m _ _ _ hm
  obtain ⟨x3, gs3, ρ3, σ3, hG3, hp3, hle3, hr3, hR3, hw3⟩ := op52.2 _ _ _ _ _ _ h3.choose _ _ h3.choose_spec ρ2 σ2 hG2
  obtain ⟨gv3, rfl, hs3⟩ := hR3
  have hv3 := match hr3 with | .cons hh _ => hh.v
  clear hA0 hval0 hsz0
  obtain ⟨r, τ, hR, rfl⟩ := law_DoEdits σ3 gs0 x0 (eState.mono (eState.mono (eState.mono hR0 (.pre hp1)) (.pre hp2)) (.pre hp3)) hw0 x1 hw1 x2 hw2 gv3 x3 hs3 hw3
  refine (Ret.row hR hG3 (.cons (((hv0.mono hle1).mono hle2).mono hle3) (.cons ((hv1.mono hle2).mono hle3) (.cons (hv2.mono hle3) (.cons hv3 .nil))))).mono fun e W' ⟨he, bel0⟩ => ?_
  have bel : Below W.heap.size W W' := bel0
  subst he
  exact ⟨_, rfl, _, _, _, [], _, [], hW', trodAll_mk1 (shut_bool Tryz.underlying4 _), (trodAll_cons_mk (Below.trod laidOut (by kernel_rfl) (of_decide_eq_true (by kernel_rfl)) k0_ bel lt0) (trodAll_cons_mk (Below.trod laidOut (by kernel_rfl) (of_decide_eq_true (by kernel_rfl)) k1_ bel lt1) (trodAll_cons_mk (Below.trod laidOut (by kernel_rfl) (of_decide_eq_true (by kernel_rfl)) k2_ bel lt2) (trodAll_cons_mk (Below.trod laidOut (by kernel_rfl) (of_decide_eq_true (by kernel_rfl)) k3_ bel lt3) trodAll_mk0)))), rfl, bel.frame _, fun h => by cases h⟩
theorem over : Rows.fnExactDoEditsRow.holds Tryz.pinned (OpenSpec.ofChange Rows.fnExactDoEditsSpec) :=
  OpenClaim.holds_of_wide 6 Tryz.f6 rfl rfl rfl rfl rfl rfl rfl ⟨rfl, rfl, rfl, rfl, rfl⟩ rfl rfl rfl rfl rfl (by kernel_rfl) Tryz.func6 (by kernel_rfl)
    (of_decide_eq_true (by kernel_rfl)) (by unfold Func.isWrapper; first | (rw [if_pos (by decide +kernel)]; kernel_rfl) | (rw [if_neg (by decide +kernel)]; exact ⟨rfl, rfl⟩))
    (fun os started H enc _ => lifted os started H enc)
end Go.Proofs.YtffnefmklckngaaGreat.fnExactDoEdits
namespace Go.Proofs.YtffnefmklckngaaGreat
theorem fnExactDoEdits_holds : Rows.FnExactDoEditsSaid := fnExactDoEdits.over
end Go.Proofs.YtffnefmklckngaaGreat
#print axioms Go.Proofs.YtffnefmklckngaaGreat.fnExactDoEdits_holds
