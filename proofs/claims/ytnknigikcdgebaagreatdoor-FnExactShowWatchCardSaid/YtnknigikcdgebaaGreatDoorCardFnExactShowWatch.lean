/- The tied card of FnExactShowWatch: it returns true, whatever its arguments; what it lists is tied to the program's text. -/
import Derived.Test.YtnknigikcdgebaaGreatDoorLawFnExactShowWatch
import Derived.Test.YtnknigikcdgebaaGreatDoorCards
import Derived.Test.YtnknigikcdgebaaGreatDoorTie
import Derived.SevenTiedAt
namespace Go.Proofs.YtnknigikcdgebaaGreatDoor.fnExactShowWatch
theorem wf : Rows.fnExactShowWatchRow.wfByText (OpenSpec.ofChange Rows.fnExactShowWatchSpec) = true := by kernel_rfl
theorem main : Tryz.pinned.checked.prog.mainIs = some (Rows.fnExactShowWatchCard.stood.harness.1, Rows.fnExactShowWatchCard.stood.harness.2.toList) := by kernel_rfl
theorem looks : false = Tryz.pinned.checked.prog.looks [] := by kernel_rfl
theorem goes : false = OpenClaim.goesBy Rows.fnExactShowWatchRow Tryz.pinned.checked.prog := by kernel_rfl
theorem numb : Tryz.prog.funcNamed Rows.fnExactShowWatchRow.func = some 11 := by kernel_rfl
theorem stand : ([27, 91].all fun u => !Tryz.prog.wantsStandIn u) = true := by kernel_rfl
theorem card : Claim7.holds Tryz.pinned (.plain (OpenSpec.ofChange Rows.fnExactShowWatchSpec)) Rows.fnExactShowWatchCard :=
  Claim7.holds_tied_plain_at .later [] _ true _ _
    over (fun _ h => by cases h) wf (fun _ h => by cases h) fnExactShowWatch_row_tie rfl ⟨rfl, rfl⟩ main rfl
    (fun f fn hf hfn => by
      obtain rfl : f = 11 := Option.some.inj (numb.symm.trans hf) |>.symm
      obtain rfl : fn = Tryz.f11 := (Option.some.inj (Tryz.func11.symm.trans hfn)).symm
      exact ⟨looks, fun j t ht => by
        rw [Tryz.params11] at ht
        have hm : t ∈ [27, 91] := by simpa using Array.mem_of_getElem? ht
        exact (show Tryz.prog.wantsStandIn t = false by simpa using List.all_eq_true.1 stand t hm)⟩)
    goes
end Go.Proofs.YtnknigikcdgebaaGreatDoor.fnExactShowWatch
namespace Go.Proofs.YtnknigikcdgebaaGreatDoor
theorem fnExactShowWatch_holds : Rows.FnExactShowWatchCardSaid := fnExactShowWatch.card
end Go.Proofs.YtnknigikcdgebaaGreatDoor
#print axioms Go.Proofs.YtnknigikcdgebaaGreatDoor.fnExactShowWatch_holds
