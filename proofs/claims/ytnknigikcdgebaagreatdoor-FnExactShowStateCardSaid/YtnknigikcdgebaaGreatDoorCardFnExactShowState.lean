/- The tied card of FnExactShowState: it returns true, whatever its arguments; what it lists is tied to the program's text. -/
import Derived.Test.YtnknigikcdgebaaGreatDoorLawFnExactShowState
import Derived.Test.YtnknigikcdgebaaGreatDoorCards
import Derived.Test.YtnknigikcdgebaaGreatDoorTie
import Derived.SevenTiedAt
namespace Go.Proofs.YtnknigikcdgebaaGreatDoor.fnExactShowState
theorem wf : Rows.fnExactShowStateRow.wfByText (OpenSpec.ofChange Rows.fnExactShowStateSpec) = true := by kernel_rfl
theorem main : Tryz.pinned.checked.prog.mainIs = some (Rows.fnExactShowStateCard.stood.harness.1, Rows.fnExactShowStateCard.stood.harness.2.toList) := by kernel_rfl
theorem looks : false = Tryz.pinned.checked.prog.looks [] := by kernel_rfl
theorem goes : false = OpenClaim.goesBy Rows.fnExactShowStateRow Tryz.pinned.checked.prog := by kernel_rfl
theorem numb : Tryz.prog.funcNamed Rows.fnExactShowStateRow.func = some 12 := by kernel_rfl
theorem stand : ([27].all fun u => !Tryz.prog.wantsStandIn u) = true := by kernel_rfl
theorem card : Claim7.holds Tryz.pinned (.plain (OpenSpec.ofChange Rows.fnExactShowStateSpec)) Rows.fnExactShowStateCard :=
  Claim7.holds_tied_plain_at .later [] _ true _ _
    over (fun _ h => by cases h) wf (fun _ h => by cases h) fnExactShowState_row_tie rfl ⟨rfl, rfl⟩ main rfl
    (fun f fn hf hfn => by
      obtain rfl : f = 12 := Option.some.inj (numb.symm.trans hf) |>.symm
      obtain rfl : fn = Tryz.f12 := (Option.some.inj (Tryz.func12.symm.trans hfn)).symm
      exact ⟨looks, fun j t ht => by
        rw [Tryz.params12] at ht
        have hm : t ∈ [27] := by simpa using Array.mem_of_getElem? ht
        exact (show Tryz.prog.wantsStandIn t = false by simpa using List.all_eq_true.1 stand t hm)⟩)
    goes
end Go.Proofs.YtnknigikcdgebaaGreatDoor.fnExactShowState
namespace Go.Proofs.YtnknigikcdgebaaGreatDoor
theorem fnExactShowState_holds : Rows.FnExactShowStateCardSaid := fnExactShowState.card
end Go.Proofs.YtnknigikcdgebaaGreatDoor
#print axioms Go.Proofs.YtnknigikcdgebaaGreatDoor.fnExactShowState_holds
