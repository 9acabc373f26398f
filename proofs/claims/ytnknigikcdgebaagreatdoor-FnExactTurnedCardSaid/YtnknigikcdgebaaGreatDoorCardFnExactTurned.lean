/- The tied card of FnExactTurned: it returns true, whatever its arguments; what it lists is tied to the program's text. -/
import Derived.Test.YtnknigikcdgebaaGreatDoorLawFnExactTurned
import Derived.Test.YtnknigikcdgebaaGreatDoorCards
import Derived.Test.YtnknigikcdgebaaGreatDoorTie
import Derived.SevenTiedAt
namespace Go.Proofs.YtnknigikcdgebaaGreatDoor.fnExactTurned
theorem wf : Rows.fnExactTurnedRow.wfByText (OpenSpec.ofChange Rows.fnExactTurnedSpec) = true := by kernel_rfl
theorem main : Tryz.pinned.checked.prog.mainIs = some (Rows.fnExactTurnedCard.stood.harness.1, Rows.fnExactTurnedCard.stood.harness.2.toList) := by kernel_rfl
theorem looks : false = Tryz.pinned.checked.prog.looks [] := by kernel_rfl
theorem goes : false = OpenClaim.goesBy Rows.fnExactTurnedRow Tryz.pinned.checked.prog := by kernel_rfl
theorem numb : Tryz.prog.funcNamed Rows.fnExactTurnedRow.func = some 3 := by kernel_rfl
theorem stand : ([27, 27, 28].all fun u => !Tryz.prog.wantsStandIn u) = true := by kernel_rfl
theorem card : Claim7.holds Tryz.pinned (.plain (OpenSpec.ofChange Rows.fnExactTurnedSpec)) Rows.fnExactTurnedCard :=
  Claim7.holds_tied_plain_at .later [] _ true _ _
    over (fun _ h => by cases h) wf (fun _ h => by cases h) fnExactTurned_row_tie rfl ⟨rfl, rfl⟩ main rfl
    (fun f fn hf hfn => by
      obtain rfl : f = 3 := Option.some.inj (numb.symm.trans hf) |>.symm
      obtain rfl : fn = Tryz.f3 := (Option.some.inj (Tryz.func3.symm.trans hfn)).symm
      exact ⟨looks, fun j t ht => by
        rw [Tryz.params3] at ht
        have hm : t ∈ [27, 27, 28] := by simpa using Array.mem_of_getElem? ht
        exact (show Tryz.prog.wantsStandIn t = false by simpa using List.all_eq_true.1 stand t hm)⟩)
    goes
end Go.Proofs.YtnknigikcdgebaaGreatDoor.fnExactTurned
namespace Go.Proofs.YtnknigikcdgebaaGreatDoor
theorem fnExactTurned_holds : Rows.FnExactTurnedCardSaid := fnExactTurned.card
end Go.Proofs.YtnknigikcdgebaaGreatDoor
#print axioms Go.Proofs.YtnknigikcdgebaaGreatDoor.fnExactTurned_holds
