/- The tied card of FnExactShowWorld: it returns true, whatever its arguments; what it lists is tied to the program's text. -/
import Derived.Test.YtckobfochhjmdaaGreatDoorLawFnExactShowWorld
import Derived.Test.YtckobfochhjmdaaGreatDoorCards
import Derived.Test.YtckobfochhjmdaaGreatDoorTie
import Derived.SevenTiedAt
namespace Go.Proofs.YtckobfochhjmdaaGreatDoor.fnExactShowWorld
theorem wf : Rows.fnExactShowWorldRow.wfByText (OpenSpec.ofChange Rows.fnExactShowWorldSpec) = true := by kernel_rfl
theorem main : Tryz.pinned.checked.prog.mainIs = some (Rows.fnExactShowWorldCard.stood.harness.1, Rows.fnExactShowWorldCard.stood.harness.2.toList) := by kernel_rfl
theorem looks : false = Tryz.pinned.checked.prog.looks [] := by kernel_rfl
theorem goes : false = OpenClaim.goesBy Rows.fnExactShowWorldRow Tryz.pinned.checked.prog := by kernel_rfl
theorem numb : Tryz.prog.funcNamed Rows.fnExactShowWorldRow.func = some 3 := by kernel_rfl
theorem stand : ([27].all fun u => !Tryz.prog.wantsStandIn u) = true := by kernel_rfl
theorem card : Claim7.holds Tryz.pinned (.plain (OpenSpec.ofChange Rows.fnExactShowWorldSpec)) Rows.fnExactShowWorldCard :=
  Claim7.holds_tied_plain_at .later [] _ true _ _
    over (fun _ h => by cases h) wf (fun _ h => by cases h) fnExactShowWorld_row_tie rfl ⟨rfl, rfl⟩ main rfl
    (fun f fn hf hfn => by
      obtain rfl : f = 3 := Option.some.inj (numb.symm.trans hf) |>.symm
      obtain rfl : fn = Tryz.f3 := (Option.some.inj (Tryz.func3.symm.trans hfn)).symm
      exact ⟨looks, fun j t ht => by
        rw [Tryz.params3] at ht
        have hm : t ∈ [27] := by simpa using Array.mem_of_getElem? ht
        exact (show Tryz.prog.wantsStandIn t = false by simpa using List.all_eq_true.1 stand t hm)⟩)
    goes
end Go.Proofs.YtckobfochhjmdaaGreatDoor.fnExactShowWorld
namespace Go.Proofs.YtckobfochhjmdaaGreatDoor
theorem fnExactShowWorld_holds : Rows.FnExactShowWorldCardSaid := fnExactShowWorld.card
end Go.Proofs.YtckobfochhjmdaaGreatDoor
#print axioms Go.Proofs.YtckobfochhjmdaaGreatDoor.fnExactShowWorld_holds
