/- FnExactChangedBy returns true, whatever its arguments, and each reads behind the call as it read before; no condition. -/
import Derived.Test.YtbeoiejnogdkpaaGreatRows
import Derived.Test.YtbeoiejnogdkpaaGreatBChangedBy6
import Derived.WalkKit
import Derived.ProofKit
import Derived.OpenShut
import Derived.ShutString
import Derived.ChangeOld
import Derived.Below
import Derived.Carry
import Derived.SizedLaws
namespace Go.Proofs.YtbeoiejnogdkpaaGreat.fnExactChangedBy
open Go.ChangeShapes Go.WideShapes Go.ChangeAt Go.RowKit Go.Proofs.YtbeoiejnogdkpaaGreat.Sy
set_option linter.unusedVariables false
theorem op3 : Opens Tryz.prog 3 (Ek.int .i64) I64 := opens_i64 Tryz.underlying3 (by kernel_rfl)
theorem op59 : Opens Tryz.prog 59 eDot zDot := opens_mono (opens_iso (fun x : Sy.Dot => (x.rep, x.seq)) (fun a => ⟨a.1, a.2⟩) (fun _ => rfl) (opens_struct Tryz.underlying59 (by kernel_rfl) rfl (part_pair (part_one 0 3 ⟨_, rfl, rfl, rfl⟩ rfl op3) (part_one 1 3 ⟨_, rfl, rfl, rfl⟩ rfl op3)))) (fun _ h => h)
theorem op35 : Opens Tryz.prog 35 (Ek.slice (Ek.int .i64)) (fun xs => ((xs).length ≤ 9223372036854775807 ∧ ∀ y35 ∈ xs, I64 (y35))) := opens_slice Tryz.underlying35 (by kernel_rfl) (by decide) op3
theorem op9 : Opens Tryz.prog 9 Ek.str (fun s => s.size ≤ 9223372036854775807) := opens_str Tryz.underlying9 (by kernel_rfl)
theorem op241 : Opens Tryz.prog 241 eTally zTally := opens_mono (opens_iso (fun x : Sy.Tally => (x.obj, x.rep, x.sum)) (fun a => ⟨a.1, a.2.1, a.2.2⟩) (fun _ => rfl) (opens_struct Tryz.underlying241 (by kernel_rfl) rfl (part_pair (part_one 0 9 ⟨_, rfl, rfl, rfl⟩ rfl op9) (part_pair (part_one 1 3 ⟨_, rfl, rfl, rfl⟩ rfl op3) (part_one 2 3 ⟨_, rfl, rfl, rfl⟩ rfl op3))))) (fun _ h => h)
theorem op53 : Opens Tryz.prog 53 (Ek.slice eTally) (fun xs => ((xs).length ≤ 9223372036854775807 ∧ ∀ y53 ∈ xs, zTally (y53))) := opens_slice Tryz.underlying53 (by kernel_rfl) (by decide) op241
theorem op4 : Opens Tryz.prog 4 Ek.bool (fun _ => True) := opens_bool Tryz.underlying4 (by kernel_rfl)
theorem op244 : Opens Tryz.prog 244 eLive zLive := opens_mono (opens_iso (fun x : Sy.Live => (x.map, x.obj, x.key, x.val, x.dot)) (fun a => ⟨a.1, a.2.1, a.2.2.1, a.2.2.2.1, a.2.2.2.2⟩) (fun _ => rfl) (opens_struct Tryz.underlying244 (by kernel_rfl) rfl (part_pair (part_one 0 4 ⟨_, rfl, rfl, rfl⟩ rfl op4) (part_pair (part_one 1 9 ⟨_, rfl, rfl, rfl⟩ rfl op9) (part_pair (part_one 2 9 ⟨_, rfl, rfl, rfl⟩ rfl op9) (part_pair (part_one 3 3 ⟨_, rfl, rfl, rfl⟩ rfl op3) (part_one 4 59 ⟨_, rfl, rfl, rfl⟩ rfl op59))))))) (fun _ h => h)
theorem op54 : Opens Tryz.prog 54 (Ek.slice eLive) (fun xs => ((xs).length ≤ 9223372036854775807 ∧ ∀ y54 ∈ xs, zLive (y54))) := opens_slice Tryz.underlying54 (by kernel_rfl) (by decide) op244
theorem op247 : Opens Tryz.prog 247 eCell zCell := opens_mono (opens_iso (fun x : Sy.Cell => (x.obj, x.dot, x.time, x.ref, x.val, x.gone)) (fun a => ⟨a.1, a.2.1, a.2.2.1, a.2.2.2.1, a.2.2.2.2.1, a.2.2.2.2.2⟩) (fun _ => rfl) (opens_struct Tryz.underlying247 (by kernel_rfl) rfl (part_pair (part_one 0 9 ⟨_, rfl, rfl, rfl⟩ rfl op9) (part_pair (part_one 1 59 ⟨_, rfl, rfl, rfl⟩ rfl op59) (part_pair (part_one 2 3 ⟨_, rfl, rfl, rfl⟩ rfl op3) (part_pair (part_one 3 59 ⟨_, rfl, rfl, rfl⟩ rfl op59) (part_pair (part_one 4 3 ⟨_, rfl, rfl, rfl⟩ rfl op3) (part_one 5 4 ⟨_, rfl, rfl, rfl⟩ rfl op4)))))))) (fun _ h => h)
theorem op55 : Opens Tryz.prog 55 (Ek.slice eCell) (fun xs => ((xs).length ≤ 9223372036854775807 ∧ ∀ y55 ∈ xs, zCell (y55))) := opens_slice Tryz.underlying55 (by kernel_rfl) (by decide) op247
theorem op57 : Opens Tryz.prog 57 eState zState := opens_mono (opens_iso (fun x : Sy.State => (x.know, x.tallies, x.lives, x.cells)) (fun a => ⟨a.1, a.2.1, a.2.2.1, a.2.2.2⟩) (fun _ => rfl) (opens_struct Tryz.underlying57 (by kernel_rfl) rfl (part_pair (part_one 0 35 ⟨_, rfl, rfl, rfl⟩ rfl op35) (part_pair (part_one 1 53 ⟨_, rfl, rfl, rfl⟩ rfl op53) (part_pair (part_one 2 54 ⟨_, rfl, rfl, rfl⟩ rfl op54) (part_one 3 55 ⟨_, rfl, rfl, rfl⟩ rfl op55)))))) (fun _ h => h)
theorem op231 : Opens Tryz.prog 231 eCommit zCommit := opens_mono (opens_iso (fun x : Sy.Commit => (x.id, x.ups, x.state)) (fun a => ⟨a.1, a.2.1, a.2.2⟩) (fun _ => rfl) (opens_struct Tryz.underlying231 (by kernel_rfl) rfl (part_pair (part_one 0 59 ⟨_, rfl, rfl, rfl⟩ rfl op59) (part_pair (part_one 1 35 ⟨_, rfl, rfl, rfl⟩ rfl op35) (part_one 2 57 ⟨_, rfl, rfl, rfl⟩ rfl op57))))) (fun _ h => h)
theorem op31 : Opens Tryz.prog 31 (Ek.slice eCommit) (fun xs => ((xs).length ≤ 9223372036854775807 ∧ ∀ y31 ∈ xs, zCommit (y31))) := opens_slice Tryz.underlying31 (by kernel_rfl) (by decide) op231
theorem op33 : Opens Tryz.prog 33 eGraph zGraph := opens_mono (opens_iso (fun x : Sy.Graph => (x.commits, x.head)) (fun a => ⟨a.1, a.2⟩) (fun _ => rfl) (opens_struct Tryz.underlying33 (by kernel_rfl) rfl (part_pair (part_one 0 31 ⟨_, rfl, rfl, rfl⟩ rfl op31) (part_one 1 3 ⟨_, rfl, rfl, rfl⟩ rfl op3)))) (fun _ h => h)
theorem own : ownKnob Tryz.prog.godebug = none := by kernel_rfl
theorem laidOut : laidOutB Tryz.prog = true := by kernel_rfl
set_option maxRecDepth 100000 in
theorem lifted (os : Os) (started : os.Started) (H : Type) (enc : TypeId × Value → H) :
    ReturnsInHanded {} Tryz.checked os 4 .any (Rows.fnExactChangedBySpec.pre6 enc Tryz.prog Tryz.f4 Rows.fnExactChangedByRow.domain false) (Rows.fnExactChangedBySpec.post enc Tryz.prog Tryz.f4 false true false false) := by
  refine returnsInHanded_of_change_sized (C := Tryz.checked) own started (by kernel_rfl) Tryz.func4
    (ChangeSpec.witness6 (enc := enc) (C := Tryz.checked) false ⟨#[], #[.agg #[.slice none 0 0, .int .i64 0], .int .i64 0], []⟩ 8 (by kernel_rfl) (by kernel_rfl) (by kernel_rfl) (by kernel_rfl)) ?_
  intro W base args ds gs before hval0 hW hcnd hsz0 _
  have hval : ∀ (j : Nat) t v, Tryz.f4.params[j]? = some t → args[j]? = some v → Value.okWide Tryz.prog W .any base t v := hval0
  have hW' := hW
  obtain ⟨p, q, hA0, hV, rfl, hfz, hnd⟩ := hW
  have hA : DataW.TrodAll enc Tryz.prog W 0 (fun _ => true) true Tryz.f4.params.toList args.toList ds p := hA0
  rw [Tryz.params4] at hA hval
  obtain ⟨v0, vs0, d0, ds0, p0, q0, hargs, rfl, rfl, h0, r0⟩ := trodAll_cons hA
  obtain ⟨v1, vs1, d1, ds1, p1, q1, rfl, rfl, rfl, h1, r1⟩ := trodAll_cons r0
  obtain ⟨rfl, rfl, rfl⟩ := trodAll_nil r1
  obtain rfl : args = #[v0, v1] := by cases args; simp_all
  obtain ⟨rfl, rfl⟩ := trodVars_none hV
  obtain ⟨vv0, rfl⟩ := agg_of Tryz.underlying33 (hval 0 33 v0 rfl rfl)
  have k0_ := h0
  have lt0 : ∀ x ∈ p0, x.block < W.heap.size := by obtain ⟨m, hm⟩ := k0_; exact DataW.trod_lt m _ _ _ hm
  obtain ⟨x0, gs0, ρ0, σ0, hG0, hp0, hle0, hr0, hR0, hw0⟩ := op33.2 _ _ _ _ _ _ h0.choose _ _ h0.choose_spec (fun _ => none) [] (Good.nil W)
  have hv0 : vRel ρ0 (.agg gs0) (.agg vv0) := ⟨vv0.toList, by simp, hr0⟩
  obtain ⟨s1, rfl⟩ := okWide_int Tryz.underlying3 (hval 1 3 v1 rfl rfl)
  have k1_ := h1
  have lt1 : ∀ x ∈ p1, x.block < W.heap.size := by obtain ⟨m, hm⟩ := k1_; exact DataW.trod_lt m _ _ _ hm
  obtain ⟨x1, gs1, ρ1, σ1, hG1, hp1, hle1, hr1, hR1, hw1⟩ := op3.2 _ _ _ _ _ _ h1.choose _ _ h1.choose_spec ρ0 σ0 hG0
  obtain rfl := hR1
  have hv1 := match hr1 with | .cons hh _ => hh.v
  clear hA0 hval0 hsz0
  obtain ⟨r, τ, hR, rfl⟩ := law_ChangedBy σ1 gs0 x0 (eGraph.mono hR0 (.pre hp1)) hw0 x1 hw1
  refine (Ret.row hR hG1 (.cons (hv0.mono hle1) (.cons hv1 .nil))).mono fun e W' ⟨he, bel0⟩ => ?_
  have bel : Below W.heap.size W W' := bel0
  subst he
  exact ⟨_, rfl, _, _, _, [], _, [], hW', trodAll_mk1 (shut_bool Tryz.underlying4 _), (trodAll_cons_mk (Below.trod laidOut (by kernel_rfl) (of_decide_eq_true (by kernel_rfl)) k0_ bel lt0) (trodAll_cons_mk (Below.trod laidOut (by kernel_rfl) (of_decide_eq_true (by kernel_rfl)) k1_ bel lt1) trodAll_mk0)), rfl, bel.frame _, fun h => by cases h⟩
set_option maxRecDepth 100000 in
set_option maxHeartbeats 400000000 in
theorem joined : joinedFacts Tryz.pinned.checked.prog 4 Tryz.f4 Rows.fnExactChangedBySpec Rows.fnExactChangedByRow = true := by
  unfold joinedFacts
  simp only [Bool.and_eq_true]
  repeat' (apply And.intro)
  all_goals (as_aux_lemma => kernel_rfl)
theorem over : Rows.fnExactChangedByRow.holds Tryz.pinned (OpenSpec.ofChange Rows.fnExactChangedBySpec) :=
  OpenClaim.holds_of_wide 4 Tryz.f4 rfl rfl rfl rfl rfl rfl rfl ⟨rfl, rfl, rfl, rfl, rfl⟩ rfl rfl rfl rfl rfl (by as_aux_lemma => kernel_rfl) Tryz.func4 joined
    (of_decide_eq_true (by kernel_rfl)) (by unfold Func.isWrapper; first | (rw [if_pos (by decide +kernel)]; kernel_rfl) | (rw [if_neg (by decide +kernel)]; exact ⟨rfl, rfl⟩))
    (fun os started H enc _ => lifted os started H enc)
end Go.Proofs.YtbeoiejnogdkpaaGreat.fnExactChangedBy
namespace Go.Proofs.YtbeoiejnogdkpaaGreat
theorem fnExactChangedBy_holds : Rows.FnExactChangedBySaid := fnExactChangedBy.over
end Go.Proofs.YtbeoiejnogdkpaaGreat
#print axioms Go.Proofs.YtbeoiejnogdkpaaGreat.fnExactChangedBy_holds
