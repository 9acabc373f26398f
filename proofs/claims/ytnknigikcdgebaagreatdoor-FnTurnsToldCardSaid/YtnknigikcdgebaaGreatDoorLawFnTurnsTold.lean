/- FnTurnsTold returns true, whatever its arguments, and each reads behind the call as it read before; no condition. -/
import Derived.Test.YtnknigikcdgebaaGreatDoorRows
import Derived.Test.YtnknigikcdgebaaGreatDoorCards
import Derived.Test.YtnknigikcdgebaaGreatDoorTie
import Derived.Test.YtnknigikcdgebaaGreatDoorBTa6
import Derived.WalkKit
import Derived.ProofKit
import Derived.OpenShut
import Derived.ShutString
import Derived.ChangeOld
import Derived.Below
import Derived.Carry
import Derived.SizedLaws
import Derived.LaidMore
import Derived.Stop.Joined
import Derived.Stop.LaidErr
import Derived.SevenTiedAt
import Derived.Lib.SmallJoins
import Derived.Shelf.Strconv.Itoa3
namespace Go.Proofs.YtnknigikcdgebaaGreatDoor.fnTurnsTold
open Go.ChangeShapes Go.WideShapes Go.ChangeAt Go.RowKit Go.Proofs.YtnknigikcdgebaaGreatDoor.Sy
set_option linter.unusedVariables false
theorem op5 : Opens Tryz.prog 5 (Ek.int .u8) (fun n => (Lit.int .u8 n).wf = true) := opens_int Tryz.underlying5 (by kernel_rfl)
theorem op47 : Opens Tryz.prog 47 (Ek.slice (Ek.int .u8)) (fun xs => ((xs).length ≤ 9223372036854775807 ∧ ∀ y47 ∈ xs, (Lit.int .u8 (y47)).wf = true)) := opens_slice Tryz.underlying47 (by kernel_rfl) (by decide) op5
theorem own : ownKnob Tryz.prog.godebug = none := by kernel_rfl
theorem laidOut : laidOutB Tryz.prog = true := by kernel_rfl
set_option maxRecDepth 100000 in
theorem laid_W {W : World} (hL0 : laidMetH Tryz.prog Rows.fnTurnsToldRow.laid W) : Laid W := fun w hb n h0 h1 => by
  have hL := hL0
  rw [MakeChecks.laidMetH_plain _ _ _ (by kernel_rfl)] at hL
  have ht := Lib.tabIs_of_head (g := 1) (t := 372) (e := 332) (n := 20) (k := .u64) (zs := Lib.pow10Tab) (by kernel_rfl) (by kernel_rfl) Tryz.underlying372 Tryz.underlying332 (by kernel_rfl) (by kernel_rfl) (laidMet.tail (laidMet.tail hL))
  exact (Any.strconv_Itoa laysM171 n h0 h1 w (Joins.tab_stays (g := 1) (by kernel_rfl) ht hb (Nat.le_refl _))).mono fun e w' ⟨he, k, os, hw⟩ => ⟨he, hw ▸ below_grown w k os⟩
set_option maxRecDepth 100000 in
theorem door_met (os : Os) (args : Array Value) : laidMetH Tryz.prog Rows.fnTurnsToldRow.laid ((World.doorLaid Tryz.prog 24 os).forCall (fun _ _ => 0) ⟨#[], args, []⟩).memory :=
  laidMetH_of_parts3 (fuel := 8) (laidMet_of_run' 8 (by kernel_rfl) (by kernel_rfl)) (by kernel_rfl) (by kernel_rfl)
set_option maxRecDepth 100000 in
theorem lifted (os : Os) (started : os.Started) (H : Type) (enc : TypeId × Value → H) :
    ReturnsInHanded {} Tryz.checked os 6 .any (fun w args => (Rows.fnTurnsToldSpec.pre enc Tryz.prog Tryz.f6 [] false w args ∧ laidMetH Tryz.prog Rows.fnTurnsToldRow.laid w) ∧ sizedMet enc Tryz.prog Tryz.f6 (OpenSpec.ofChange Rows.fnTurnsToldSpec) false w args)
      (Rows.fnTurnsToldSpec.post enc Tryz.prog Tryz.f6 false true false false) := by
  refine returnsInHanded_of_change_and (C := Tryz.checked) (X := fun w _ => laidMetH Tryz.prog Rows.fnTurnsToldRow.laid w) (fun _ _ _ hh h => h.of_heap hh) own started (by kernel_rfl) Tryz.func6
    (ChangeSpec.witness_shaped (enc := enc) (C := Tryz.checked) (os := os) (X := fun w _ => laidMetH Tryz.prog Rows.fnTurnsToldRow.laid w) false (World.doorLaid Tryz.prog 24 os) #[.slice none 0 0] 8 rfl (World.shaped_of_RefB (by kernel_rfl) (by kernel_rfl)) (by kernel_rfl) (by kernel_rfl) (by kernel_rfl) (door_met os _)) ?_
  intro W base args ds gs before hval0 hW _ hsz0 hL _
  have hval : ∀ (j : Nat) t v, Tryz.f6.params[j]? = some t → args[j]? = some v → Value.okWide Tryz.prog W .any base t v := hval0
  have hW' := hW
  obtain ⟨p, q, hA0, hV, rfl, hfz, hnd⟩ := hW
  have hA : DataW.TrodAll enc Tryz.prog W 0 (fun _ => true) true Tryz.f6.params.toList args.toList ds p := hA0
  rw [Tryz.params6] at hA hval
  obtain ⟨v0, vs0, d0, ds0, p0, q0, hargs, rfl, rfl, h0, r0⟩ := trodAll_cons hA
  obtain ⟨rfl, rfl, rfl⟩ := trodAll_nil r0
  obtain rfl : args = #[v0] := by cases args; simp_all
  obtain ⟨rfl, rfl⟩ := trodVars_none hV
  obtain ⟨b0, n0, c0_, rfl⟩ := okWide_slice Tryz.underlying47 (hval 0 47 v0 rfl rfl)
  have k0_ := h0
  have lt0 : ∀ x ∈ p0, x.block < W.heap.size := by obtain ⟨m, hm⟩ := k0_; exact DataW.trod_lt m _ _ _ hm
  obtain ⟨x0, gs0, ρ0, σ0, hG0, hp0, hle0, hr0, hR0, hw0⟩ := op47.2 _ _ _ _ _ _ h0.choose _ _ h0.choose_spec (fun _ => none) [] (Good.nil W (laid_W hL))
  obtain ⟨gv0, rfl, hs0⟩ := hR0
  have hv0 := match hr0 with | .cons hh _ => hh.v
  clear hA0 hval0 hsz0
  obtain ⟨r, τ, hR, rfl⟩ := law_TurnsTold σ0 gv0 x0 hs0 hw0
  refine (Ret.row hR hG0 (.cons hv0 .nil)).mono fun e W' ⟨he, bel0⟩ => ?_
  have bel : Below W.heap.size W W' := bel0
  subst he
  exact ⟨_, rfl, _, _, _, [], _, [], hW', trodAll_mk1 (shut_bool Tryz.underlying4 _), (trodAll_cons_mk (Below.trod laidOut (by kernel_rfl) (of_decide_eq_true (by kernel_rfl)) k0_ bel lt0) trodAll_mk0), rfl, bel.frame _, fun h => by cases h⟩
set_option maxRecDepth 100000 in
set_option maxHeartbeats 400000000 in
theorem joined : joinedFacts Tryz.pinned.checked.prog 6 Tryz.f6 Rows.fnTurnsToldSpec Rows.fnTurnsToldRow = true := by
  unfold joinedFacts
  simp only [Bool.and_eq_true]
  repeat' (apply And.intro)
  all_goals (as_aux_lemma => kernel_rfl)
theorem over : Rows.fnTurnsToldRow.holds Tryz.pinned (OpenSpec.ofChange Rows.fnTurnsToldSpec) :=
  OpenClaim.holds_of_wide 6 Tryz.f6 rfl rfl rfl rfl rfl rfl rfl ⟨rfl, rfl, rfl, rfl, rfl⟩ rfl rfl rfl rfl rfl (by as_aux_lemma => kernel_rfl) Tryz.func6 joined
    (of_decide_eq_true (by kernel_rfl)) (by unfold Func.isWrapper; first | (rw [if_pos (by decide +kernel)]; kernel_rfl) | (rw [if_neg (by decide +kernel)]; exact ⟨rfl, rfl⟩))
    (fun os started H enc _ => lifted os started H enc)
end Go.Proofs.YtnknigikcdgebaaGreatDoor.fnTurnsTold
