/- FnExactWatchText returns true, whatever its arguments, and each reads behind the call as it read before; no condition. -/
import Derived.Test.YtopannfdcikgiaaRows
import Derived.Test.YtopannfdcikgiaaBWatchText1
import Derived.WalkKit
import Derived.ProofKit
import Derived.OpenShut
import Derived.ShutString
import Derived.ChangeOld
import Derived.Below
import Derived.Carry
import Derived.SizedLaws
namespace Go.Proofs.Ytopannfdcikgiaa.fnExactWatchText
open Go.ChangeShapes Go.WideShapes Go.ChangeAt Go.RowKit Go.Proofs.Ytopannfdcikgiaa.Sy
set_option linter.unusedVariables false
theorem op3 : Opens Try.prog 3 (Ek.int .i64) I64 := opens_i64 Try.underlying3 (by kernel_rfl)
theorem op9 : Opens Try.prog 9 Ek.str (fun s => s.size ≤ 9223372036854775807) := opens_str Try.underlying9 (by kernel_rfl)
theorem op23 : Opens Try.prog 23 eWatch zWatch := opens_mono (opens_iso (fun x : Sy.Watch => (x.kind, x.obj, x.key)) (fun a => ⟨a.1, a.2.1, a.2.2⟩) (fun _ => rfl) (opens_struct Try.underlying23 (by kernel_rfl) rfl (part_pair (part_one 0 3 ⟨_, rfl, rfl, rfl⟩ rfl op3) (part_pair (part_one 1 9 ⟨_, rfl, rfl, rfl⟩ rfl op9) (part_one 2 9 ⟨_, rfl, rfl, rfl⟩ rfl op9))))) (fun _ h => h)
theorem own : ownKnob Try.prog.godebug = none := by kernel_rfl
theorem laidOut : laidOutB Try.prog = true := by kernel_rfl
set_option maxRecDepth 100000 in
theorem lifted (os : Os) (started : os.Started) (H : Type) (enc : TypeId × Value → H) :
    ReturnsInHanded {} Try.checked os 5 .any (Rows.fnExactWatchTextSpec.pre6 enc Try.prog Try.f5 Rows.fnExactWatchTextRow.domain false) (Rows.fnExactWatchTextSpec.post enc Try.prog Try.f5 false true false false) := by
  refine returnsInHanded_of_change_sized (C := Try.checked) own started (by kernel_rfl) Try.func5
    (ChangeSpec.witness6 (enc := enc) (C := Try.checked) false ⟨#[], #[.agg #[.int .i64 0, .string ⟨#[]⟩, .string ⟨#[]⟩]], []⟩ 8 (by kernel_rfl) (by kernel_rfl) (by kernel_rfl) (by kernel_rfl)) ?_
  intro W base args ds gs before hval0 hW hcnd hsz0 _
  have hval : ∀ (j : Nat) t v, Try.f5.params[j]? = some t → args[j]? = some v → Value.okWide Try.prog W .any base t v := hval0
  have hW' := hW
  obtain ⟨p, q, hA0, hV, rfl, hfz, hnd⟩ := hW
  have hA : DataW.TrodAll enc Try.prog W 0 (fun _ => true) true Try.f5.params.toList args.toList ds p := hA0
  rw [Try.params5] at hA hval
  obtain ⟨v0, vs0, d0, ds0, p0, q0, hargs, rfl, rfl, h0, r0⟩ := trodAll_cons hA
  obtain ⟨rfl, rfl, rfl⟩ := trodAll_nil r0
  obtain rfl : args = #[v0] := by cases args; simp_all
  obtain ⟨rfl, rfl⟩ := trodVars_none hV
  obtain ⟨vv0, rfl⟩ := agg_of Try.underlying23 (hval 0 23 v0 rfl rfl)
  have k0_ := h0
  have lt0 : ∀ x ∈ p0, x.block < W.heap.size := by obtain ⟨m, hm⟩ := k0_; exact DataW.trod_lt m _ _ _ hm
  obtain ⟨x0, gs0, ρ0, σ0, hG0, hp0, hle0, hr0, hR0, hw0⟩ := op23.2 _ _ _ _ _ _ h0.choose _ _ h0.choose_spec (fun _ => none) [] (Good.nil W)
  have hv0 : vRel ρ0 (.agg gs0) (.agg vv0) := ⟨vv0.toList, by simp, hr0⟩
  clear hA0 hval0 hsz0
  obtain ⟨r, τ, hR, rfl⟩ := law_WatchText σ0 gs0 x0 hR0 hw0
  refine (Ret.row hR hG0 (.cons hv0 .nil)).mono fun e W' ⟨he, bel0⟩ => ?_
  have bel : Below W.heap.size W W' := bel0
  subst he
  exact ⟨_, rfl, _, _, _, [], _, [], hW', trodAll_mk1 (shut_bool Try.underlying4 _), (trodAll_cons_mk (Below.trod laidOut (by kernel_rfl) (of_decide_eq_true (by kernel_rfl)) k0_ bel lt0) trodAll_mk0), rfl, bel.frame _, fun h => by cases h⟩
theorem over : Rows.fnExactWatchTextRow.holds Try.pinned (OpenSpec.ofChange Rows.fnExactWatchTextSpec) :=
  OpenClaim.holds_of_wide 5 Try.f5 rfl rfl rfl rfl rfl rfl rfl ⟨rfl, rfl, rfl, rfl, rfl⟩ rfl rfl rfl rfl rfl (by kernel_rfl) Try.func5 (by kernel_rfl)
    (of_decide_eq_true (by kernel_rfl)) (by unfold Func.isWrapper; first | (rw [if_pos (by decide +kernel)]; kernel_rfl) | (rw [if_neg (by decide +kernel)]; exact ⟨rfl, rfl⟩))
    (fun os started H enc _ => lifted os started H enc)
end Go.Proofs.Ytopannfdcikgiaa.fnExactWatchText
namespace Go.Proofs.Ytopannfdcikgiaa
theorem fnExactWatchText_holds : Rows.FnExactWatchTextSaid := fnExactWatchText.over
end Go.Proofs.Ytopannfdcikgiaa
#print axioms Go.Proofs.Ytopannfdcikgiaa.fnExactWatchText_holds
