/- FnExactWatchOk returns true, whatever its arguments, and each reads behind the call as it read before; no condition. -/
import Derived.Test.YtopannfdcikgiaaRows
import Derived.Test.YtopannfdcikgiaaPureFnExactWatchOk
import Derived.WalkKit
import Derived.ProofKit
import Derived.OpenShut
import Derived.ShutString
import Derived.ChangeOld
import Derived.Below
import Derived.Carry
import Derived.SizedLaws
namespace Go.Proofs.Ytopannfdcikgiaa.fnExactWatchOk
open Go.ChangeShapes Go.WideShapes Go.ChangeAt Go.RowKit Go.Proofs.YtopannfdcikgiaaW.PrintWords Go.Proofs.Ytopannfdcikgiaa.Open Go.Proofs.Ytopannfdcikgiaa.PFnExactWatchOk
set_option linter.unusedVariables false
theorem own : ownKnob Try.prog.godebug = none := by kernel_rfl
theorem laidOut : laidOutB Try.prog = true := by kernel_rfl
set_option maxRecDepth 100000 in
theorem lifted (os : Os) (started : os.Started) (H : Type) (enc : TypeId × Value → H) :
    ReturnsInHanded {} Try.checked os 3 .any (Rows.fnExactWatchOkSpec.pre6 enc Try.prog Try.f3 Rows.fnExactWatchOkRow.domain false) (Rows.fnExactWatchOkSpec.post enc Try.prog Try.f3 false true false false) := by
  refine returnsInHanded_of_change_sized (C := Try.checked) own started (by kernel_rfl) Try.func3
    (ChangeSpec.witness6 (enc := enc) (C := Try.checked) false ⟨#[], #[.agg #[.int .i64 0, .string ⟨#[]⟩, .string ⟨#[]⟩]], []⟩ 8 (by kernel_rfl) (by kernel_rfl) (by kernel_rfl) (by kernel_rfl)) ?_
  intro W base args ds gs before hval0 hW hcnd hsz0 _
  have hval : ∀ (j : Nat) t v, Try.f3.params[j]? = some t → args[j]? = some v → Value.okWide Try.prog W .any base t v := hval0
  have hW' := hW
  obtain ⟨p, q, hA0, hV, rfl, hfz, hnd⟩ := hW
  have hA : DataW.TrodAll enc Try.prog W 0 (fun _ => true) true Try.f3.params.toList args.toList ds p := hA0
  rw [Try.params3] at hA hval
  obtain ⟨v0, vs0, d0, ds0, p0, q0, hargs, rfl, rfl, h0, r0⟩ := trodAll_cons hA
  obtain ⟨rfl, rfl, rfl⟩ := trodAll_nil r0
  obtain rfl : args = #[v0] := by cases args; simp_all
  obtain ⟨rfl, rfl⟩ := trodVars_none hV
  obtain ⟨cs0, rfl⟩ := agg_of Try.underlying23 (hval 0 23 v0 rfl rfl)
  have k0_ := h0
  have lt0 : ∀ x ∈ p0, x.block < W.heap.size := by obtain ⟨m, hm⟩ := k0_; exact DataW.trod_lt m _ _ _ hm
  obtain ⟨x0, hK0, hw0⟩ := (opens_struct (d := (Kd.pair (Kd.int .i64) (Kd.pair Kd.string Kd.string))) Try.underlying23 (by kernel_rfl) (part_pair (part_one 0 3 ⟨_, rfl, rfl, rfl⟩ op3) (part_pair (part_one 1 9 ⟨_, rfl, rfl, rfl⟩ op9) (part_one 2 9 ⟨_, rfl, rfl, rfl⟩ op9)))).2 _ _ _ _ _ _ h0.choose _ _ h0.choose_spec
  obtain ⟨c0_0, d0_0, e0_0, q0_0, r0_0⟩ := k_pair hK0
  obtain ⟨c0_1, d0_1, e0_1, q0_1, r0_1⟩ := k_pair r0_0
  have z0_0 := k_int q0_0
  have z0_1 := k_str q0_1
  have z0_2 := k_str r0_1
  have hcs0 : cs0 = #[.int .i64 x0.1, .string x0.2.1, .string x0.2.2] := by
    have e : (Value.agg cs0).cells.toList = _ := rfl
    apply Array.toList_inj.1
    show cs0.toList = _
    have e2 : (Value.agg cs0).cells.toList = cs0.toList := rfl
    rw [← e2, e0_0, e0_1, z0_0, z0_1, z0_2]
    rfl
  subst hcs0
  clear hA0 hval0 hsz0
  obtain ⟨k, hp⟩ := PFnExactWatchOk.FnExactWatchOk_pure x0.1 x0.2.1 x0.2.2 hw0.1 hw0.2.1 hw0.2.2
  refine (PFnExactWatchOk.laws_FnExactWatchOk.calls k x0.1 x0.2.1 x0.2.2 true W  hp).mono fun e W' ⟨he, bel0⟩ => ?_
  have bel : Below W.heap.size W W' := bel0
  subst he
  exact ⟨_, rfl, _, _, _, [], _, [], hW', trodAll_mk1 (shut_bool Try.underlying4 _), (trodAll_cons_mk (Below.trod laidOut (by kernel_rfl) (of_decide_eq_true (by kernel_rfl)) k0_ bel lt0) trodAll_mk0), rfl, bel.frame _, fun h => by cases h⟩
theorem over : Rows.fnExactWatchOkRow.holds Try.pinned (OpenSpec.ofChange Rows.fnExactWatchOkSpec) :=
  OpenClaim.holds_of_wide 3 Try.f3 rfl rfl rfl rfl rfl rfl rfl ⟨rfl, rfl, rfl, rfl, rfl⟩ rfl rfl rfl rfl rfl (by kernel_rfl) Try.func3 (by kernel_rfl)
    (of_decide_eq_true (by kernel_rfl)) (by unfold Func.isWrapper; first | (rw [if_pos (by decide +kernel)]; kernel_rfl) | (rw [if_neg (by decide +kernel)]; exact ⟨rfl, rfl⟩))
    (fun os started H enc _ => lifted os started H enc)
end Go.Proofs.Ytopannfdcikgiaa.fnExactWatchOk
namespace Go.Proofs.Ytopannfdcikgiaa
theorem fnExactWatchOk_holds : Rows.FnExactWatchOkSaid := fnExactWatchOk.over
end Go.Proofs.Ytopannfdcikgiaa
#print axioms Go.Proofs.Ytopannfdcikgiaa.fnExactWatchOk_holds
