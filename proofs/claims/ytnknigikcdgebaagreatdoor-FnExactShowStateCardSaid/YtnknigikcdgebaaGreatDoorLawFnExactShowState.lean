/- FnExactShowState returns true, whatever its arguments, and each reads behind the call as it read before; no condition. -/
import Derived.Test.YtnknigikcdgebaaGreatDoorRows
import Derived.Test.YtnknigikcdgebaaGreatDoorCards
import Derived.Test.YtnknigikcdgebaaGreatDoorTie
import Derived.Test.YtnknigikcdgebaaGreatDoorBTc5
import Derived.WalkKit
import Derived.ProofKit
import Derived.OpenShut
import Derived.ShutString
import Derived.ChangeOld
import Derived.Below
import Derived.Carry
import Derived.SizedLaws
import Derived.LaidMore
import Derived.Stop.Joined
import Derived.Stop.LaidErr
import Derived.SevenTiedAt
import Derived.Lib.SmallJoins
import Derived.Shelf.Strconv.Itoa3
namespace Go.Proofs.YtnknigikcdgebaaGreatDoor.fnExactShowState
open Go.ChangeShapes Go.WideShapes Go.ChangeAt Go.RowKit Go.Proofs.YtnknigikcdgebaaGreatDoor.Sy
set_option linter.unusedVariables false
theorem op3 : Opens Tryz.prog 3 (Ek.int .i64) I64 := opens_i64 Tryz.underlying3 (by kernel_rfl)
theorem op22 : Opens Tryz.prog 22 (Ek.slice (Ek.int .i64)) (fun xs => ((xs).length ≤ 9223372036854775807 ∧ ∀ y22 ∈ xs, I64 (y22))) := opens_slice Tryz.underlying22 (by kernel_rfl) (by decide) op3
theorem op9 : Opens Tryz.prog 9 Ek.str (fun s => s.size ≤ 9223372036854775807) := opens_str Tryz.underlying9 (by kernel_rfl)
theorem op216 : Opens Tryz.prog 216 eTally zTally := opens_mono (opens_iso (fun x : Sy.Tally => (x.obj, x.rep, x.sum)) (fun a => ⟨a.1, a.2.1, a.2.2⟩) (fun _ => rfl) (opens_struct Tryz.underlying216 (by kernel_rfl) rfl (part_pair (part_one 0 9 ⟨_, rfl, rfl, rfl⟩ rfl op9) (part_pair (part_one 1 3 ⟨_, rfl, rfl, rfl⟩ rfl op3) (part_one 2 3 ⟨_, rfl, rfl, rfl⟩ rfl op3))))) (fun _ h => h)
theorem op23 : Opens Tryz.prog 23 (Ek.slice eTally) (fun xs => ((xs).length ≤ 9223372036854775807 ∧ ∀ y23 ∈ xs, zTally (y23))) := opens_slice Tryz.underlying23 (by kernel_rfl) (by decide) op216
theorem op4 : Opens Tryz.prog 4 Ek.bool (fun _ => True) := opens_bool Tryz.underlying4 (by kernel_rfl)
theorem op218 : Opens Tryz.prog 218 eDot zDot := opens_mono (opens_iso (fun x : Sy.Dot => (x.rep, x.seq)) (fun a => ⟨a.1, a.2⟩) (fun _ => rfl) (opens_struct Tryz.underlying218 (by kernel_rfl) rfl (part_pair (part_one 0 3 ⟨_, rfl, rfl, rfl⟩ rfl op3) (part_one 1 3 ⟨_, rfl, rfl, rfl⟩ rfl op3)))) (fun _ h => h)
theorem op220 : Opens Tryz.prog 220 eLive zLive := opens_mono (opens_iso (fun x : Sy.Live => (x.map, x.obj, x.key, x.val, x.dot)) (fun a => ⟨a.1, a.2.1, a.2.2.1, a.2.2.2.1, a.2.2.2.2⟩) (fun _ => rfl) (opens_struct Tryz.underlying220 (by kernel_rfl) rfl (part_pair (part_one 0 4 ⟨_, rfl, rfl, rfl⟩ rfl op4) (part_pair (part_one 1 9 ⟨_, rfl, rfl, rfl⟩ rfl op9) (part_pair (part_one 2 9 ⟨_, rfl, rfl, rfl⟩ rfl op9) (part_pair (part_one 3 3 ⟨_, rfl, rfl, rfl⟩ rfl op3) (part_one 4 218 ⟨_, rfl, rfl, rfl⟩ rfl op218))))))) (fun _ h => h)
theorem op24 : Opens Tryz.prog 24 (Ek.slice eLive) (fun xs => ((xs).length ≤ 9223372036854775807 ∧ ∀ y24 ∈ xs, zLive (y24))) := opens_slice Tryz.underlying24 (by kernel_rfl) (by decide) op220
theorem op223 : Opens Tryz.prog 223 eCell zCell := opens_mono (opens_iso (fun x : Sy.Cell => (x.obj, x.dot, x.time, x.ref, x.val, x.gone)) (fun a => ⟨a.1, a.2.1, a.2.2.1, a.2.2.2.1, a.2.2.2.2.1, a.2.2.2.2.2⟩) (fun _ => rfl) (opens_struct Tryz.underlying223 (by kernel_rfl) rfl (part_pair (part_one 0 9 ⟨_, rfl, rfl, rfl⟩ rfl op9) (part_pair (part_one 1 218 ⟨_, rfl, rfl, rfl⟩ rfl op218) (part_pair (part_one 2 3 ⟨_, rfl, rfl, rfl⟩ rfl op3) (part_pair (part_one 3 218 ⟨_, rfl, rfl, rfl⟩ rfl op218) (part_pair (part_one 4 3 ⟨_, rfl, rfl, rfl⟩ rfl op3) (part_one 5 4 ⟨_, rfl, rfl, rfl⟩ rfl op4)))))))) (fun _ h => h)
theorem op25 : Opens Tryz.prog 25 (Ek.slice eCell) (fun xs => ((xs).length ≤ 9223372036854775807 ∧ ∀ y25 ∈ xs, zCell (y25))) := opens_slice Tryz.underlying25 (by kernel_rfl) (by decide) op223
theorem op27 : Opens Tryz.prog 27 eState zState := opens_mono (opens_iso (fun x : Sy.State => (x.know, x.tallies, x.lives, x.cells)) (fun a => ⟨a.1, a.2.1, a.2.2.1, a.2.2.2⟩) (fun _ => rfl) (opens_struct Tryz.underlying27 (by kernel_rfl) rfl (part_pair (part_one 0 22 ⟨_, rfl, rfl, rfl⟩ rfl op22) (part_pair (part_one 1 23 ⟨_, rfl, rfl, rfl⟩ rfl op23) (part_pair (part_one 2 24 ⟨_, rfl, rfl, rfl⟩ rfl op24) (part_one 3 25 ⟨_, rfl, rfl, rfl⟩ rfl op25)))))) (fun _ h => h)
theorem own : ownKnob Tryz.prog.godebug = none := by kernel_rfl
theorem laidOut : laidOutB Tryz.prog = true := by kernel_rfl
set_option maxRecDepth 100000 in
theorem laid_W {W : World} (hL0 : laidMetH Tryz.prog Rows.fnExactShowStateRow.laid W) : Laid W := fun w hb n h0 h1 => by
  have hL := hL0
  rw [MakeChecks.laidMetH_plain _ _ _ (by kernel_rfl)] at hL
  have ht := Lib.tabIs_of_head (g := 1) (t := 372) (e := 332) (n := 20) (k := .u64) (zs := Lib.pow10Tab) (by kernel_rfl) (by kernel_rfl) Tryz.underlying372 Tryz.underlying332 (by kernel_rfl) (by kernel_rfl) (laidMet.tail (laidMet.tail hL))
  exact (Any.strconv_Itoa laysM171 n h0 h1 w (Joins.tab_stays (g := 1) (by kernel_rfl) ht hb (Nat.le_refl _))).mono fun e w' ⟨he, k, os, hw⟩ => ⟨he, hw ▸ below_grown w k os⟩
set_option maxRecDepth 100000 in
theorem door_met (os : Os) (args : Array Value) : laidMetH Tryz.prog Rows.fnExactShowStateRow.laid ((World.doorLaid Tryz.prog 24 os).forCall (fun _ _ => 0) ⟨#[], args, []⟩).memory :=
  laidMetH_of_parts3 (fuel := 8) (laidMet_of_run' 8 (by kernel_rfl) (by kernel_rfl)) (by kernel_rfl) (by kernel_rfl)
set_option maxRecDepth 100000 in
theorem lifted (os : Os) (started : os.Started) (H : Type) (enc : TypeId × Value → H) :
    ReturnsInHanded {} Tryz.checked os 12 .any (fun w args => (Rows.fnExactShowStateSpec.pre enc Tryz.prog Tryz.f12 [] false w args ∧ laidMetH Tryz.prog Rows.fnExactShowStateRow.laid w) ∧ sizedMet enc Tryz.prog Tryz.f12 (OpenSpec.ofChange Rows.fnExactShowStateSpec) false w args)
      (Rows.fnExactShowStateSpec.post enc Tryz.prog Tryz.f12 false true false false) := by
  refine returnsInHanded_of_change_and (C := Tryz.checked) (X := fun w _ => laidMetH Tryz.prog Rows.fnExactShowStateRow.laid w) (fun _ _ _ hh h => h.of_heap hh) own started (by kernel_rfl) Tryz.func12
    (ChangeSpec.witness_shaped (enc := enc) (C := Tryz.checked) (os := os) (X := fun w _ => laidMetH Tryz.prog Rows.fnExactShowStateRow.laid w) false (World.doorLaid Tryz.prog 24 os) #[.agg #[.slice none 0 0, .slice none 0 0, .slice none 0 0, .slice none 0 0]] 8 rfl (World.shaped_of_RefB (by kernel_rfl) (by kernel_rfl)) (by kernel_rfl) (by kernel_rfl) (by kernel_rfl) (door_met os _)) ?_
  intro W base args ds gs before hval0 hW _ hsz0 hL _
  have hval : ∀ (j : Nat) t v, Tryz.f12.params[j]? = some t → args[j]? = some v → Value.okWide Tryz.prog W .any base t v := hval0
  have hW' := hW
  obtain ⟨p, q, hA0, hV, rfl, hfz, hnd⟩ := hW
  have hA : DataW.TrodAll enc Tryz.prog W 0 (fun _ => true) true Tryz.f12.params.toList args.toList ds p := hA0
  rw [Tryz.params12] at hA hval
  obtain ⟨v0, vs0, d0, ds0, p0, q0, hargs, rfl, rfl, h0, r0⟩ := trodAll_cons hA
  obtain ⟨rfl, rfl, rfl⟩ := trodAll_nil r0
  obtain rfl : args = #[v0] := by cases args; simp_all
  obtain ⟨rfl, rfl⟩ := trodVars_none hV
  obtain ⟨vv0, rfl⟩ := agg_of Tryz.underlying27 (hval 0 27 v0 rfl rfl)
  have k0_ := h0
  have lt0 : ∀ x ∈ p0, x.block < W.heap.size := by obtain ⟨m, hm⟩ := k0_; exact DataW.trod_lt m _ _ _ hm
  obtain ⟨x0, gs0, ρ0, σ0, hG0, hp0, hle0, hr0, hR0, hw0⟩ := op27.2 _ _ _ _ _ _ h0.choose _ _ h0.choose_spec (fun _ => none) [] (Good.nil W (laid_W hL))
  have hv0 : vRel ρ0 (.agg gs0) (.agg vv0) := ⟨vv0.toList, by simp, hr0⟩
  clear hA0 hval0 hsz0
  obtain ⟨r, τ, hR, rfl⟩ := law_ShowState σ0 gs0 x0 hR0 hw0
  refine (Ret.row hR hG0 (.cons hv0 .nil)).mono fun e W' ⟨he, bel0⟩ => ?_
  have bel : Below W.heap.size W W' := bel0
  subst he
  exact ⟨_, rfl, _, _, _, [], _, [], hW', trodAll_mk1 (shut_bool Tryz.underlying4 _), (trodAll_cons_mk (Below.trod laidOut (by kernel_rfl) (of_decide_eq_true (by kernel_rfl)) k0_ bel lt0) trodAll_mk0), rfl, bel.frame _, fun h => by cases h⟩
set_option maxRecDepth 100000 in
set_option maxHeartbeats 400000000 in
theorem joined : joinedFacts Tryz.pinned.checked.prog 12 Tryz.f12 Rows.fnExactShowStateSpec Rows.fnExactShowStateRow = true := by
  unfold joinedFacts
  simp only [Bool.and_eq_true]
  repeat' (apply And.intro)
  all_goals (as_aux_lemma => kernel_rfl)
theorem over : Rows.fnExactShowStateRow.holds Tryz.pinned (OpenSpec.ofChange Rows.fnExactShowStateSpec) :=
  OpenClaim.holds_of_wide 12 Tryz.f12 rfl rfl rfl rfl rfl rfl rfl ⟨rfl, rfl, rfl, rfl, rfl⟩ rfl rfl rfl rfl rfl (by as_aux_lemma => kernel_rfl) Tryz.func12 joined
    (of_decide_eq_true (by kernel_rfl)) (by unfold Func.isWrapper; first | (rw [if_pos (by decide +kernel)]; kernel_rfl) | (rw [if_neg (by decide +kernel)]; exact ⟨rfl, rfl⟩))
    (fun os started H enc _ => lifted os started H enc)
end Go.Proofs.YtnknigikcdgebaaGreatDoor.fnExactShowState
