/- The tied card of FnTurnsTold: it returns true, whatever its arguments; what it lists is tied to the program's text. -/
import Derived.Test.YtnknigikcdgebaaGreatDoorLawFnTurnsTold
import Derived.Test.YtnknigikcdgebaaGreatDoorCards
import Derived.Test.YtnknigikcdgebaaGreatDoorTie
import Derived.SevenTiedAt
namespace Go.Proofs.YtnknigikcdgebaaGreatDoor.fnTurnsTold
theorem wf : Rows.fnTurnsToldRow.wfByText (OpenSpec.ofChange Rows.fnTurnsToldSpec) = true := by kernel_rfl
theorem main : Tryz.pinned.checked.prog.mainIs = some (Rows.fnTurnsToldCard.stood.harness.1, Rows.fnTurnsToldCard.stood.harness.2.toList) := by kernel_rfl
theorem looks : false = Tryz.pinned.checked.prog.looks [] := by kernel_rfl
theorem goes : false = OpenClaim.goesBy Rows.fnTurnsToldRow Tryz.pinned.checked.prog := by kernel_rfl
theorem numb : Tryz.prog.funcNamed Rows.fnTurnsToldRow.func = some 6 := by kernel_rfl
theorem stand : ([47].all fun u => !Tryz.prog.wantsStandIn u) = true := by kernel_rfl
theorem card : Claim7.holds Tryz.pinned (.plain (OpenSpec.ofChange Rows.fnTurnsToldSpec)) Rows.fnTurnsToldCard :=
  Claim7.holds_tied_plain_at .later [] _ true _ _
    over (fun _ h => by cases h) wf (fun _ h => by cases h) fnTurnsTold_row_tie rfl ⟨rfl, rfl⟩ main rfl
    (fun f fn hf hfn => by
      obtain rfl : f = 6 := Option.some.inj (numb.symm.trans hf) |>.symm
      obtain rfl : fn = Tryz.f6 := (Option.some.inj (Tryz.func6.symm.trans hfn)).symm
      exact ⟨looks, fun j t ht => by
        rw [Tryz.params6] at ht
        have hm : t ∈ [47] := by simpa using Array.mem_of_getElem? ht
        exact (show Tryz.prog.wantsStandIn t = false by simpa using List.all_eq_true.1 stand t hm)⟩)
    goes
end Go.Proofs.YtnknigikcdgebaaGreatDoor.fnTurnsTold
namespace Go.Proofs.YtnknigikcdgebaaGreatDoor
theorem fnTurnsTold_holds : Rows.FnTurnsToldCardSaid := fnTurnsTold.card
end Go.Proofs.YtnknigikcdgebaaGreatDoor
#print axioms Go.Proofs.YtnknigikcdgebaaGreatDoor.fnTurnsTold_holds
