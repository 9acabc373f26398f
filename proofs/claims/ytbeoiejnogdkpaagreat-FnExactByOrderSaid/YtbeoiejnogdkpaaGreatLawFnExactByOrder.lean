/- FnExactByOrder returns true, whatever its arguments, and each reads behind the call as it read before; no condition. -/
import Derived.Test.YtbeoiejnogdkpaaGreatRows
import Derived.Test.YtbeoiejnogdkpaaGreatBByOrder4
import Derived.WalkKit
import Derived.ProofKit
import Derived.OpenShut
import Derived.ShutString
import Derived.ChangeOld
import Derived.Below
import Derived.Carry
import Derived.SizedLaws
namespace Go.Proofs.YtbeoiejnogdkpaaGreat.fnExactByOrder
open Go.ChangeShapes Go.WideShapes Go.ChangeAt Go.RowKit Go.Proofs.YtbeoiejnogdkpaaGreat.Sy
set_option linter.unusedVariables false
theorem op4 : Opens Tryz.prog 4 Ek.bool (fun _ => True) := opens_bool Tryz.underlying4 (by kernel_rfl)
theorem op3 : Opens Tryz.prog 3 (Ek.int .i64) I64 := opens_i64 Tryz.underlying3 (by kernel_rfl)
theorem op59 : Opens Tryz.prog 59 eDot zDot := opens_mono (opens_iso (fun x : Sy.Dot => (x.rep, x.seq)) (fun a => ⟨a.1, a.2⟩) (fun _ => rfl) (opens_struct Tryz.underlying59 (by kernel_rfl) rfl (part_pair (part_one 0 3 ⟨_, rfl, rfl, rfl⟩ rfl op3) (part_one 1 3 ⟨_, rfl, rfl, rfl⟩ rfl op3)))) (fun _ h => h)
theorem op35 : Opens Tryz.prog 35 (Ek.slice (Ek.int .i64)) (fun xs => ((xs).length ≤ 9223372036854775807 ∧ ∀ y35 ∈ xs, I64 (y35))) := opens_slice Tryz.underlying35 (by kernel_rfl) (by decide) op3
theorem op9 : Opens Tryz.prog 9 Ek.str (fun s => s.size ≤ 9223372036854775807) := opens_str Tryz.underlying9 (by kernel_rfl)
theorem op61 : Opens Tryz.prog 61 eAct zAct := opens_mono (opens_iso (fun x : Sy.Act => (x.dot, x.time, x.knew, x.kind, x.obj, x.key, x.val, x.ref)) (fun a => ⟨a.1, a.2.1, a.2.2.1, a.2.2.2.1, a.2.2.2.2.1, a.2.2.2.2.2.1, a.2.2.2.2.2.2.1, a.2.2.2.2.2.2.2⟩) (fun _ => rfl) (opens_struct Tryz.underlying61 (by kernel_rfl) rfl (part_pair (part_one 0 59 ⟨_, rfl, rfl, rfl⟩ rfl op59) (part_pair (part_one 1 3 ⟨_, rfl, rfl, rfl⟩ rfl op3) (part_pair (part_one 2 35 ⟨_, rfl, rfl, rfl⟩ rfl op35) (part_pair (part_one 3 3 ⟨_, rfl, rfl, rfl⟩ rfl op3) (part_pair (part_one 4 9 ⟨_, rfl, rfl, rfl⟩ rfl op9) (part_pair (part_one 5 9 ⟨_, rfl, rfl, rfl⟩ rfl op9) (part_pair (part_one 6 3 ⟨_, rfl, rfl, rfl⟩ rfl op3) (part_one 7 59 ⟨_, rfl, rfl, rfl⟩ rfl op59)))))))))) (fun _ h => h)
theorem op241 : Opens Tryz.prog 241 eTally zTally := opens_mono (opens_iso (fun x : Sy.Tally => (x.obj, x.rep, x.sum)) (fun a => ⟨a.1, a.2.1, a.2.2⟩) (fun _ => rfl) (opens_struct Tryz.underlying241 (by kernel_rfl) rfl (part_pair (part_one 0 9 ⟨_, rfl, rfl, rfl⟩ rfl op9) (part_pair (part_one 1 3 ⟨_, rfl, rfl, rfl⟩ rfl op3) (part_one 2 3 ⟨_, rfl, rfl, rfl⟩ rfl op3))))) (fun _ h => h)
theorem op53 : Opens Tryz.prog 53 (Ek.slice eTally) (fun xs => ((xs).length ≤ 9223372036854775807 ∧ ∀ y53 ∈ xs, zTally (y53))) := opens_slice Tryz.underlying53 (by kernel_rfl) (by decide) op241
theorem op244 : Opens Tryz.prog 244 eLive zLive := opens_mono (opens_iso (fun x : Sy.Live => (x.map, x.obj, x.key, x.val, x.dot)) (fun a => ⟨a.1, a.2.1, a.2.2.1, a.2.2.2.1, a.2.2.2.2⟩) (fun _ => rfl) (opens_struct Tryz.underlying244 (by kernel_rfl) rfl (part_pair (part_one 0 4 ⟨_, rfl, rfl, rfl⟩ rfl op4) (part_pair (part_one 1 9 ⟨_, rfl, rfl, rfl⟩ rfl op9) (part_pair (part_one 2 9 ⟨_, rfl, rfl, rfl⟩ rfl op9) (part_pair (part_one 3 3 ⟨_, rfl, rfl, rfl⟩ rfl op3) (part_one 4 59 ⟨_, rfl, rfl, rfl⟩ rfl op59))))))) (fun _ h => h)
theorem op54 : Opens Tryz.prog 54 (Ek.slice eLive) (fun xs => ((xs).length ≤ 9223372036854775807 ∧ ∀ y54 ∈ xs, zLive (y54))) := opens_slice Tryz.underlying54 (by kernel_rfl) (by decide) op244
theorem op132 : Opens Tryz.prog 132 (Ek.slice eDot) (fun xs => ((xs).length ≤ 9223372036854775807 ∧ ∀ y132 ∈ xs, zDot (y132))) := opens_slice Tryz.underlying132 (by kernel_rfl) (by decide) op59
theorem op247 : Opens Tryz.prog 247 eCell zCell := opens_mono (opens_iso (fun x : Sy.Cell => (x.obj, x.dot, x.time, x.ref, x.val, x.gone)) (fun a => ⟨a.1, a.2.1, a.2.2.1, a.2.2.2.1, a.2.2.2.2.1, a.2.2.2.2.2⟩) (fun _ => rfl) (opens_struct Tryz.underlying247 (by kernel_rfl) rfl (part_pair (part_one 0 9 ⟨_, rfl, rfl, rfl⟩ rfl op9) (part_pair (part_one 1 59 ⟨_, rfl, rfl, rfl⟩ rfl op59) (part_pair (part_one 2 3 ⟨_, rfl, rfl, rfl⟩ rfl op3) (part_pair (part_one 3 59 ⟨_, rfl, rfl, rfl⟩ rfl op59) (part_pair (part_one 4 3 ⟨_, rfl, rfl, rfl⟩ rfl op3) (part_one 5 4 ⟨_, rfl, rfl, rfl⟩ rfl op4)))))))) (fun _ h => h)
theorem op55 : Opens Tryz.prog 55 (Ek.slice eCell) (fun xs => ((xs).length ≤ 9223372036854775807 ∧ ∀ y55 ∈ xs, zCell (y55))) := opens_slice Tryz.underlying55 (by kernel_rfl) (by decide) op247
theorem op134 : Opens Tryz.prog 134 eDelta zDelta := opens_mono (opens_iso (fun x : Sy.Delta => (x.base, x.know, x.tallies, x.lives, x.dead, x.cells)) (fun a => ⟨a.1, a.2.1, a.2.2.1, a.2.2.2.1, a.2.2.2.2.1, a.2.2.2.2.2⟩) (fun _ => rfl) (opens_struct Tryz.underlying134 (by kernel_rfl) rfl (part_pair (part_one 0 35 ⟨_, rfl, rfl, rfl⟩ rfl op35) (part_pair (part_one 1 35 ⟨_, rfl, rfl, rfl⟩ rfl op35) (part_pair (part_one 2 53 ⟨_, rfl, rfl, rfl⟩ rfl op53) (part_pair (part_one 3 54 ⟨_, rfl, rfl, rfl⟩ rfl op54) (part_pair (part_one 4 132 ⟨_, rfl, rfl, rfl⟩ rfl op132) (part_one 5 55 ⟨_, rfl, rfl, rfl⟩ rfl op55)))))))) (fun _ h => h)
theorem op136 : Opens Tryz.prog 136 eUnit_ zUnit_ := opens_mono (opens_iso (fun x : Sy.Unit_ => (x.batch, x.act, x.delta)) (fun a => ⟨a.1, a.2.1, a.2.2⟩) (fun _ => rfl) (opens_struct Tryz.underlying136 (by kernel_rfl) rfl (part_pair (part_one 0 4 ⟨_, rfl, rfl, rfl⟩ rfl op4) (part_pair (part_one 1 61 ⟨_, rfl, rfl, rfl⟩ rfl op61) (part_one 2 134 ⟨_, rfl, rfl, rfl⟩ rfl op134))))) (fun _ h => h)
theorem op22 : Opens Tryz.prog 22 (Ek.slice eUnit_) (fun xs => ((xs).length ≤ 9223372036854775807 ∧ ∀ y22 ∈ xs, zUnit_ (y22))) := opens_slice Tryz.underlying22 (by kernel_rfl) (by decide) op136
theorem own : ownKnob Tryz.prog.godebug = none := by kernel_rfl
theorem laidOut : laidOutB Tryz.prog = true := by kernel_rfl
set_option maxRecDepth 100000 in
theorem lifted (os : Os) (started : os.Started) (H : Type) (enc : TypeId × Value → H) :
    ReturnsInHanded {} Tryz.checked os 3 .any (Rows.fnExactByOrderSpec.pre6 enc Tryz.prog Tryz.f3 Rows.fnExactByOrderRow.domain false) (Rows.fnExactByOrderSpec.post enc Tryz.prog Tryz.f3 false true false false) := by
  refine returnsInHanded_of_change_sized (C := Tryz.checked) own started (by kernel_rfl) Tryz.func3
    (ChangeSpec.witness6 (enc := enc) (C := Tryz.checked) false ⟨#[], #[.slice none 0 0], []⟩ 8 (by kernel_rfl) (by kernel_rfl) (by kernel_rfl) (by kernel_rfl)) ?_
  intro W base args ds gs before hval0 hW hcnd hsz0 _
  have hval : ∀ (j : Nat) t v, Tryz.f3.params[j]? = some t → args[j]? = some v → Value.okWide Tryz.prog W .any base t v := hval0
  have hW' := hW
  obtain ⟨p, q, hA0, hV, rfl, hfz, hnd⟩ := hW
  have hA : DataW.TrodAll enc Tryz.prog W 0 (fun _ => true) true Tryz.f3.params.toList args.toList ds p := hA0
  rw [Tryz.params3] at hA hval
  obtain ⟨v0, vs0, d0, ds0, p0, q0, hargs, rfl, rfl, h0, r0⟩ := trodAll_cons hA
  obtain ⟨rfl, rfl, rfl⟩ := trodAll_nil r0
  obtain rfl : args = #[v0] := by cases args; simp_all
  obtain ⟨rfl, rfl⟩ := trodVars_none hV
  obtain ⟨b0, n0, c0_, rfl⟩ := okWide_slice Tryz.underlying22 (hval 0 22 v0 rfl rfl)
  have k0_ := h0
  have lt0 : ∀ x ∈ p0, x.block < W.heap.size := by obtain ⟨m, hm⟩ := k0_; exact DataW.trod_lt m _ _ _ hm
  obtain ⟨x0, gs0, ρ0, σ0, hG0, hp0, hle0, hr0, hR0, hw0⟩ := op22.2 _ _ _ _ _ _ h0.choose _ _ h0.choose_spec (fun _ => none) [] (Good.nil W)
  obtain ⟨gv0, rfl, hs0⟩ := hR0
  have hv0 := match hr0 with | .cons hh _ => hh.v
  clear hA0 hval0 hsz0
  obtain ⟨r, τ, hR, rfl⟩ := law_ByOrder σ0 gv0 x0 hs0 hw0
  refine (Ret.row hR hG0 (.cons hv0 .nil)).mono fun e W' ⟨he, bel0⟩ => ?_
  have bel : Below W.heap.size W W' := bel0
  subst he
  exact ⟨_, rfl, _, _, _, [], _, [], hW', trodAll_mk1 (shut_bool Tryz.underlying4 _), (trodAll_cons_mk (Below.trod laidOut (by kernel_rfl) (of_decide_eq_true (by kernel_rfl)) k0_ bel lt0) trodAll_mk0), rfl, bel.frame _, fun h => by cases h⟩
set_option maxRecDepth 100000 in
set_option maxHeartbeats 400000000 in
theorem joined : joinedFacts Tryz.pinned.checked.prog 3 Tryz.f3 Rows.fnExactByOrderSpec Rows.fnExactByOrderRow = true := by
  unfold joinedFacts
  simp only [Bool.and_eq_true]
  repeat' (apply And.intro)
  all_goals (as_aux_lemma => kernel_rfl)
theorem over : Rows.fnExactByOrderRow.holds Tryz.pinned (OpenSpec.ofChange Rows.fnExactByOrderSpec) :=
  OpenClaim.holds_of_wide 3 Tryz.f3 rfl rfl rfl rfl rfl rfl rfl ⟨rfl, rfl, rfl, rfl, rfl⟩ rfl rfl rfl rfl rfl (by as_aux_lemma => kernel_rfl) Tryz.func3 joined
    (of_decide_eq_true (by kernel_rfl)) (by unfold Func.isWrapper; first | (rw [if_pos (by decide +kernel)]; kernel_rfl) | (rw [if_neg (by decide +kernel)]; exact ⟨rfl, rfl⟩))
    (fun os started H enc _ => lifted os started H enc)
end Go.Proofs.YtbeoiejnogdkpaaGreat.fnExactByOrder
namespace Go.Proofs.YtbeoiejnogdkpaaGreat
theorem fnExactByOrder_holds : Rows.FnExactByOrderSaid := fnExactByOrder.over
end Go.Proofs.YtbeoiejnogdkpaaGreat
#print axioms Go.Proofs.YtbeoiejnogdkpaaGreat.fnExactByOrder_holds
