/- FnExactRowWhose returns true, whatever its arguments, and each reads behind the call as it read before; no condition. -/
import Derived.Test.YtffnefmklckngaaRows
import Derived.Test.YtffnefmklckngaaBRowWhose3
import Derived.WalkKit
import Derived.ProofKit
import Derived.OpenShut
import Derived.ShutString
import Derived.ChangeOld
import Derived.Below
import Derived.Carry
import Derived.SizedLaws
namespace Go.Proofs.Ytffnefmklckngaa.fnExactRowWhose
open Go.ChangeShapes Go.WideShapes Go.ChangeAt Go.RowKit Go.Proofs.Ytffnefmklckngaa.Sy
set_option linter.unusedVariables false
theorem op3 : Opens Try.prog 3 (Ek.int .i64) I64 := opens_i64 Try.underlying3 (by kernel_rfl)
theorem op22 : Opens Try.prog 22 (Ek.slice (Ek.int .i64)) (fun xs => ((xs).length ≤ 9223372036854775807 ∧ ∀ y22 ∈ xs, I64 (y22))) := opens_slice Try.underlying22 (by kernel_rfl) (by decide) op3
theorem op9 : Opens Try.prog 9 Ek.str (fun s => s.size ≤ 9223372036854775807) := opens_str Try.underlying9 (by kernel_rfl)
theorem op76 : Opens Try.prog 76 eTally zTally := opens_mono (opens_iso (fun x : Sy.Tally => (x.obj, x.rep, x.sum)) (fun a => ⟨a.1, a.2.1, a.2.2⟩) (fun _ => rfl) (opens_struct Try.underlying76 (by kernel_rfl) rfl (part_pair (part_one 0 9 ⟨_, rfl, rfl, rfl⟩ rfl op9) (part_pair (part_one 1 3 ⟨_, rfl, rfl, rfl⟩ rfl op3) (part_one 2 3 ⟨_, rfl, rfl, rfl⟩ rfl op3))))) (fun _ h => h)
theorem op23 : Opens Try.prog 23 (Ek.slice eTally) (fun xs => ((xs).length ≤ 9223372036854775807 ∧ ∀ y23 ∈ xs, zTally (y23))) := opens_slice Try.underlying23 (by kernel_rfl) (by decide) op76
theorem op4 : Opens Try.prog 4 Ek.bool (fun _ => True) := opens_bool Try.underlying4 (by kernel_rfl)
theorem op39 : Opens Try.prog 39 eDot zDot := opens_mono (opens_iso (fun x : Sy.Dot => (x.rep, x.seq)) (fun a => ⟨a.1, a.2⟩) (fun _ => rfl) (opens_struct Try.underlying39 (by kernel_rfl) rfl (part_pair (part_one 0 3 ⟨_, rfl, rfl, rfl⟩ rfl op3) (part_one 1 3 ⟨_, rfl, rfl, rfl⟩ rfl op3)))) (fun _ h => h)
theorem op79 : Opens Try.prog 79 eLive zLive := opens_mono (opens_iso (fun x : Sy.Live => (x.map, x.obj, x.key, x.val, x.dot)) (fun a => ⟨a.1, a.2.1, a.2.2.1, a.2.2.2.1, a.2.2.2.2⟩) (fun _ => rfl) (opens_struct Try.underlying79 (by kernel_rfl) rfl (part_pair (part_one 0 4 ⟨_, rfl, rfl, rfl⟩ rfl op4) (part_pair (part_one 1 9 ⟨_, rfl, rfl, rfl⟩ rfl op9) (part_pair (part_one 2 9 ⟨_, rfl, rfl, rfl⟩ rfl op9) (part_pair (part_one 3 3 ⟨_, rfl, rfl, rfl⟩ rfl op3) (part_one 4 39 ⟨_, rfl, rfl, rfl⟩ rfl op39))))))) (fun _ h => h)
theorem op24 : Opens Try.prog 24 (Ek.slice eLive) (fun xs => ((xs).length ≤ 9223372036854775807 ∧ ∀ y24 ∈ xs, zLive (y24))) := opens_slice Try.underlying24 (by kernel_rfl) (by decide) op79
theorem op82 : Opens Try.prog 82 eCell zCell := opens_mono (opens_iso (fun x : Sy.Cell => (x.obj, x.dot, x.time, x.ref, x.val, x.gone)) (fun a => ⟨a.1, a.2.1, a.2.2.1, a.2.2.2.1, a.2.2.2.2.1, a.2.2.2.2.2⟩) (fun _ => rfl) (opens_struct Try.underlying82 (by kernel_rfl) rfl (part_pair (part_one 0 9 ⟨_, rfl, rfl, rfl⟩ rfl op9) (part_pair (part_one 1 39 ⟨_, rfl, rfl, rfl⟩ rfl op39) (part_pair (part_one 2 3 ⟨_, rfl, rfl, rfl⟩ rfl op3) (part_pair (part_one 3 39 ⟨_, rfl, rfl, rfl⟩ rfl op39) (part_pair (part_one 4 3 ⟨_, rfl, rfl, rfl⟩ rfl op3) (part_one 5 4 ⟨_, rfl, rfl, rfl⟩ rfl op4)))))))) (fun _ h => h)
theorem op25 : Opens Try.prog 25 (Ek.slice eCell) (fun xs => ((xs).length ≤ 9223372036854775807 ∧ ∀ y25 ∈ xs, zCell (y25))) := opens_slice Try.underlying25 (by kernel_rfl) (by decide) op82
theorem op27 : Opens Try.prog 27 eState zState := opens_mono (opens_iso (fun x : Sy.State => (x.know, x.tallies, x.lives, x.cells)) (fun a => ⟨a.1, a.2.1, a.2.2.1, a.2.2.2⟩) (fun _ => rfl) (opens_struct Try.underlying27 (by kernel_rfl) rfl (part_pair (part_one 0 22 ⟨_, rfl, rfl, rfl⟩ rfl op22) (part_pair (part_one 1 23 ⟨_, rfl, rfl, rfl⟩ rfl op23) (part_pair (part_one 2 24 ⟨_, rfl, rfl, rfl⟩ rfl op24) (part_one 3 25 ⟨_, rfl, rfl, rfl⟩ rfl op25)))))) (fun _ h => h)
theorem own : ownKnob Try.prog.godebug = none := by kernel_rfl
theorem laidOut : laidOutB Try.prog = true := by kernel_rfl
set_option maxRecDepth 100000 in
theorem lifted (os : Os) (started : os.Started) (H : Type) (enc : TypeId × Value → H) :
    ReturnsInHanded {} Try.checked os 7 .any (Rows.fnExactRowWhoseSpec.pre6 enc Try.prog Try.f7 Rows.fnExactRowWhoseRow.domain false) (Rows.fnExactRowWhoseSpec.post enc Try.prog Try.f7 false true false false) := by
  refine returnsInHanded_of_change_sized (C := Try.checked) own started (by kernel_rfl) Try.func7
    (ChangeSpec.witness6 (enc := enc) (C := Try.checked) false ⟨#[], #[.agg #[.slice none 0 0, .slice none 0 0, .slice none 0 0, .slice none 0 0], .string ⟨#[]⟩], []⟩ 8 (by kernel_rfl) (by kernel_rfl) (by kernel_rfl) (by kernel_rfl)) ?_
  intro W base args ds gs before hval0 hW hcnd hsz0 _
  have hval : ∀ (j : Nat) t v, Try.f7.params[j]? = some t → args[j]? = some v → Value.okWide Try.prog W .any base t v := hval0
  have hW' := hW
  obtain ⟨p, q, hA0, hV, rfl, hfz, hnd⟩ := hW
  have hA : DataW.TrodAll enc Try.prog W 0 (fun _ => true) true Try.f7.params.toList args.toList ds p := hA0
  rw [Try.params7] at hA hval
  obtain ⟨v0, vs0, d0, ds0, p0, q0, hargs, rfl, rfl, h0, r0⟩ := trodAll_cons hA
  obtain ⟨v1, vs1, d1, ds1, p1, q1, rfl, rfl, rfl, h1, r1⟩ := trodAll_cons r0
  obtain ⟨rfl, rfl, rfl⟩ := trodAll_nil r1
  obtain rfl : args = #[v0, v1] := by cases args; simp_all
  obtain ⟨rfl, rfl⟩ := trodVars_none hV
  obtain ⟨vv0, rfl⟩ := agg_of Try.underlying27 (hval 0 27 v0 rfl rfl)
  have k0_ := h0
  have lt0 : ∀ x ∈ p0, x.block < W.heap.size := by obtain ⟨m, hm⟩ := k0_; exact DataW.trod_lt m _ _ _ hm
  obtain ⟨x0, gs0, ρ0, σ0, hG0, hp0, hle0, hr0, hR0, hw0⟩ := op27.2 _ _ _ _ _ _ h0.choose _ _ h0.choose_spec (fun _ => none) [] (Good.nil W)
  have hv0 : vRel ρ0 (.agg gs0) (.agg vv0) := ⟨vv0.toList, by simp, hr0⟩
  obtain ⟨s1, rfl⟩ := okWide_string Try.underlying9 (hval 1 9 v1 rfl rfl)
  have k1_ := h1
  have lt1 : ∀ x ∈ p1, x.block < W.heap.size := by obtain ⟨m, hm⟩ := k1_; exact DataW.trod_lt m _ _ _ hm
  obtain ⟨x1, gs1, ρ1, σ1, hG1, hp1, hle1, hr1, hR1, hw1⟩ := op9.2 _ _ _ _ _ _ h1.choose _ _ h1.choose_spec ρ0 σ0 hG0
  obtain rfl := hR1
  have hv1 := match hr1 with | .cons hh _ => hh.v
  clear hA0 hval0 hsz0
  obtain ⟨r, τ, hR, rfl⟩ := law_RowWhose σ1 gs0 x0 (eState.mono hR0 (.pre hp1)) hw0 x1 hw1
  refine (Ret.row hR hG1 (.cons (hv0.mono hle1) (.cons hv1 .nil))).mono fun e W' ⟨he, bel0⟩ => ?_
  have bel : Below W.heap.size W W' := bel0
  subst he
  exact ⟨_, rfl, _, _, _, [], _, [], hW', trodAll_mk1 (shut_bool Try.underlying4 _), (trodAll_cons_mk (Below.trod laidOut (by kernel_rfl) (of_decide_eq_true (by kernel_rfl)) k0_ bel lt0) (trodAll_cons_mk (Below.trod laidOut (by kernel_rfl) (of_decide_eq_true (by kernel_rfl)) k1_ bel lt1) trodAll_mk0)), rfl, bel.frame _, fun h => by cases h⟩
theorem over : Rows.fnExactRowWhoseRow.holds Try.pinned (OpenSpec.ofChange Rows.fnExactRowWhoseSpec) :=
  OpenClaim.holds_of_wide 7 Try.f7 rfl rfl rfl rfl rfl rfl rfl ⟨rfl, rfl, rfl, rfl, rfl⟩ rfl rfl rfl rfl rfl (by kernel_rfl) Try.func7 (by kernel_rfl)
    (of_decide_eq_true (by kernel_rfl)) (by unfold Func.isWrapper; first | (rw [if_pos (by decide +kernel)]; kernel_rfl) | (rw [if_neg (by decide +kernel)]; exact ⟨rfl, rfl⟩))
    (fun os started H enc _ => lifted os started H enc)
end Go.Proofs.Ytffnefmklckngaa.fnExactRowWhose
namespace Go.Proofs.Ytffnefmklckngaa
theorem fnExactRowWhose_holds : Rows.FnExactRowWhoseSaid := fnExactRowWhose.over
end Go.Proofs.Ytffnefmklckngaa
#print axioms Go.Proofs.Ytffnefmklckngaa.fnExactRowWhose_holds
