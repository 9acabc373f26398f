/- FnExactReadWatch returns true, whatever its arguments, and each reads behind the call as it read before; no condition. -/
import Derived.Test.YtopannfdcikgiaaRows
import Derived.Test.YtopannfdcikgiaaBReadWatch1
import Derived.WalkKit
import Derived.ProofKit
import Derived.OpenShut
import Derived.ShutString
import Derived.ChangeOld
import Derived.Below
import Derived.Carry
import Derived.SizedLaws
namespace Go.Proofs.Ytopannfdcikgiaa.fnExactReadWatch
open Go.ChangeShapes Go.WideShapes Go.ChangeAt Go.RowKit Go.Proofs.Ytopannfdcikgiaa.Sy
set_option linter.unusedVariables false
theorem op9 : Opens Try.prog 9 Ek.str (fun s => s.size ≤ 9223372036854775807) := opens_str Try.underlying9 (by kernel_rfl)
theorem own : ownKnob Try.prog.godebug = none := by kernel_rfl
theorem laidOut : laidOutB Try.prog = true := by kernel_rfl
set_option maxRecDepth 100000 in
theorem lifted (os : Os) (started : os.Started) (H : Type) (enc : TypeId × Value → H) :
    ReturnsInHanded {} Try.checked os 10 .any (Rows.fnExactReadWatchSpec.pre6 enc Try.prog Try.f10 Rows.fnExactReadWatchRow.domain false) (Rows.fnExactReadWatchSpec.post enc Try.prog Try.f10 false true false false) := by
  refine returnsInHanded_of_change_sized (C := Try.checked) own started (by kernel_rfl) Try.func10
    (ChangeSpec.witness6 (enc := enc) (C := Try.checked) false ⟨#[], #[.string ⟨#[]⟩], []⟩ 8 (by kernel_rfl) (by kernel_rfl) (by kernel_rfl) (by kernel_rfl)) ?_
  intro W base args ds gs before hval0 hW hcnd hsz0 _
  have hval : ∀ (j : Nat) t v, Try.f10.params[j]? = some t → args[j]? = some v → Value.okWide Try.prog W .any base t v := hval0
  have hW' := hW
  obtain ⟨p, q, hA0, hV, rfl, hfz, hnd⟩ := hW
  have hA : DataW.TrodAll enc Try.prog W 0 (fun _ => true) true Try.f10.params.toList args.toList ds p := hA0
  rw [Try.params10] at hA hval
  obtain ⟨v0, vs0, d0, ds0, p0, q0, hargs, rfl, rfl, h0, r0⟩ := trodAll_cons hA
  obtain ⟨rfl, rfl, rfl⟩ := trodAll_nil r0
  obtain rfl : args = #[v0] := by cases args; simp_all
  obtain ⟨rfl, rfl⟩ := trodVars_none hV
  obtain ⟨s0, rfl⟩ := okWide_string Try.underlying9 (hval 0 9 v0 rfl rfl)
  have k0_ := h0
  have lt0 : ∀ x ∈ p0, x.block < W.heap.size := by obtain ⟨m, hm⟩ := k0_; exact DataW.trod_lt m _ _ _ hm
  obtain ⟨x0, gs0, ρ0, σ0, hG0, hp0, hle0, hr0, hR0, hw0⟩ := op9.2 _ _ _ _ _ _ h0.choose _ _ h0.choose_spec (fun _ => none) [] (Good.nil W)
  obtain rfl := hR0
  have hv0 := match hr0 with | .cons hh _ => hh.v
  clear hA0 hval0 hsz0
  obtain ⟨r, τ, hR, rfl⟩ := law_ReadWatch σ0 x0 hw0
  refine (Ret.row hR hG0 (.cons hv0 .nil)).mono fun e W' ⟨he, bel0⟩ => ?_
  have bel : Below W.heap.size W W' := bel0
  subst he
  exact ⟨_, rfl, _, _, _, [], _, [], hW', trodAll_mk1 (shut_bool Try.underlying4 _), (trodAll_cons_mk (Below.trod laidOut (by kernel_rfl) (of_decide_eq_true (by kernel_rfl)) k0_ bel lt0) trodAll_mk0), rfl, bel.frame _, fun h => by cases h⟩
theorem over : Rows.fnExactReadWatchRow.holds Try.pinned (OpenSpec.ofChange Rows.fnExactReadWatchSpec) :=
  OpenClaim.holds_of_wide 10 Try.f10 rfl rfl rfl rfl rfl rfl rfl ⟨rfl, rfl, rfl, rfl, rfl⟩ rfl rfl rfl rfl rfl (by kernel_rfl) Try.func10 (by kernel_rfl)
    (of_decide_eq_true (by kernel_rfl)) (by unfold Func.isWrapper; first | (rw [if_pos (by decide +kernel)]; kernel_rfl) | (rw [if_neg (by decide +kernel)]; exact ⟨rfl, rfl⟩))
    (fun os started H enc _ => lifted os started H enc)
end Go.Proofs.Ytopannfdcikgiaa.fnExactReadWatch
namespace Go.Proofs.Ytopannfdcikgiaa
theorem fnExactReadWatch_holds : Rows.FnExactReadWatchSaid := fnExactReadWatch.over
end Go.Proofs.Ytopannfdcikgiaa
#print axioms Go.Proofs.Ytopannfdcikgiaa.fnExactReadWatch_holds
