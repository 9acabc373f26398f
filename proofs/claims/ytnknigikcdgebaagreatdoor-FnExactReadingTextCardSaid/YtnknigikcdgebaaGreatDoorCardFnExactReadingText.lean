/- The tied card of FnExactReadingText: it returns true, whatever its arguments; what it lists is tied to the program's text. -/
import Derived.Test.YtnknigikcdgebaaGreatDoorLawFnExactReadingText
import Derived.Test.YtnknigikcdgebaaGreatDoorCards
import Derived.Test.YtnknigikcdgebaaGreatDoorTie
import Derived.SevenTiedAt
namespace Go.Proofs.YtnknigikcdgebaaGreatDoor.fnExactReadingText
theorem wf : Rows.fnExactReadingTextRow.wfByText (OpenSpec.ofChange Rows.fnExactReadingTextSpec) = true := by kernel_rfl
theorem main : Tryz.pinned.checked.prog.mainIs = some (Rows.fnExactReadingTextCard.stood.harness.1, Rows.fnExactReadingTextCard.stood.harness.2.toList) := by kernel_rfl
theorem looks : false = Tryz.pinned.checked.prog.looks [] := by kernel_rfl
theorem goes : false = OpenClaim.goesBy Rows.fnExactReadingTextRow Tryz.pinned.checked.prog := by kernel_rfl
theorem numb : Tryz.prog.funcNamed Rows.fnExactReadingTextRow.func = some 10 := by kernel_rfl
theorem stand : ([27, 9].all fun u => !Tryz.prog.wantsStandIn u) = true := by kernel_rfl
theorem card : Claim7.holds Tryz.pinned (.plain (OpenSpec.ofChange Rows.fnExactReadingTextSpec)) Rows.fnExactReadingTextCard :=
  Claim7.holds_tied_plain_at .later [] _ true _ _
    over (fun _ h => by cases h) wf (fun _ h => by cases h) fnExactReadingText_row_tie rfl ⟨rfl, rfl⟩ main rfl
    (fun f fn hf hfn => by
      obtain rfl : f = 10 := Option.some.inj (numb.symm.trans hf) |>.symm
      obtain rfl : fn = Tryz.f10 := (Option.some.inj (Tryz.func10.symm.trans hfn)).symm
      exact ⟨looks, fun j t ht => by
        rw [Tryz.params10] at ht
        have hm : t ∈ [27, 9] := by simpa using Array.mem_of_getElem? ht
        exact (show Tryz.prog.wantsStandIn t = false by simpa using List.all_eq_true.1 stand t hm)⟩)
    goes
end Go.Proofs.YtnknigikcdgebaaGreatDoor.fnExactReadingText
namespace Go.Proofs.YtnknigikcdgebaaGreatDoor
theorem fnExactReadingText_holds : Rows.FnExactReadingTextCardSaid := fnExactReadingText.card
end Go.Proofs.YtnknigikcdgebaaGreatDoor
#print axioms Go.Proofs.YtnknigikcdgebaaGreatDoor.fnExactReadingText_holds
