/-
  No cell of these rows narrows 'for every input' (looked for: loops, veiled, ifaces, maps, wideKeys, modest, calm, conditions, laid).
  DERIVED. THE GIVEN ROWS OF THIS SEAT. 5 by the template 'for every input the law returns true; each argument reads behind the call as it read before'; 0 by the template 'total and deterministic' (their statements: YtffnefmklckngaaGreatTotals.lean).
  GIVEN WITH THE SEED: the statements are not yours to turn. If you find one false, say at which input.
  Laid BY PROGRAM, IN A SANDBOX (cutbox-rows.mjs): the forced cells as the released guide's own fill.sh prints them over the translation eb33be47c16fa2e5… (all of the seat's roots in one cut). By AI agents, Wed Nov 11 2026. No macro, syntax, notation, axiom, sorry.
-/
import Derived.Test.YtffnefmklckngaaGreatChecked
import GoSem.Claim
import GoSem.ClaimJoined
import GoSem.ClaimMapViews
import Derived.JoinedTies
import Derived.KernelRfl
namespace Go.Proofs.YtffnefmklckngaaGreat
/- THE CELL 'sum', in the pinned program and in every row, IS THE sha256 OF THE DUMP (.gsa) THAT YtffnefmklckngaaGreatProg.lean LOADS. Nothing in Lean hashes anything: it is a label: what it is worth is what the hold of that sum in a sandbox is worth. -/
noncomputable def Tryz.pinned : Pinned := { name := "ytffnefmklckngaagreat", sum := "eb33be47c16fa2e5bb2ca6f45bf3e30bfdd7c61b64dd5d360492ea2d2be21594", checked := Tryz.checked }
namespace Rows
def none {H : Type} : Left H := { results := [], args := [] }

/-- 'laws.FnExactActsBy': WHATEVER THE INPUT: true; the input reads as it did. -/
def fnExactActsBySpec : ChangeSpec := { name := "fnExactActsBy", fn := fun _ => fun
  | [d1, d2] => { results := [.lit (.bool true)], args := [d1, d2] }
  | _ => none }
def fnExactActsByRow : OpenClaim := { program := "ytffnefmklckngaagreat", sum := "eb33be47c16fa2e5bb2ca6f45bf3e30bfdd7c61b64dd5d360492ea2d2be21594", func := "loop.example/g00463/laws.FnExactActsBy", spec := "fnExactActsBy", plainKeys := false, apart := false }
def FnExactActsBySaid : Prop := fnExactActsByRow.holds Tryz.pinned (OpenSpec.ofChange fnExactActsBySpec)

/-- ITS FALSE NEIGHBOUR: 'it returns false'. Refute it at one input. -/
def fnExactActsByWrong : ChangeSpec := { name := "fnExactActsBy", fn := fun _ => fun
  | [d1, d2] => { results := [.lit (.bool false)], args := [d1, d2] }
  | _ => none }
def FnExactActsByWrongFalsely : Prop := fnExactActsByRow.holds Tryz.pinned (OpenSpec.ofChange fnExactActsByWrong)

/-- 'laws.FnExactByOrder': WHATEVER THE INPUT: true; the input reads as it did. -/
def fnExactByOrderSpec : ChangeSpec := { name := "fnExactByOrder", fn := fun _ => fun
  | [d] => { results := [.lit (.bool true)], args := [d] }
  | _ => none }
def fnExactByOrderRow : OpenClaim := { program := "ytffnefmklckngaagreat", sum := "eb33be47c16fa2e5bb2ca6f45bf3e30bfdd7c61b64dd5d360492ea2d2be21594", func := "loop.example/g00463/laws.FnExactByOrder", spec := "fnExactByOrder", unfollowed := true, recurses := true, plainKeys := false, apart := false }
def FnExactByOrderSaid : Prop := fnExactByOrderRow.holds Tryz.pinned (OpenSpec.ofChange fnExactByOrderSpec)

/-- ITS FALSE NEIGHBOUR: 'it returns false'. Refute it at one input. -/
def fnExactByOrderWrong : ChangeSpec := { name := "fnExactByOrder", fn := fun _ => fun
  | [d] => { results := [.lit (.bool false)], args := [d] }
  | _ => none }
def FnExactByOrderWrongFalsely : Prop := fnExactByOrderRow.holds Tryz.pinned (OpenSpec.ofChange fnExactByOrderWrong)

/-- 'laws.FnExactSameReading': WHATEVER THE INPUT: true; the input reads as it did. -/
def fnExactSameReadingSpec : ChangeSpec := { name := "fnExactSameReading", fn := fun _ => fun
  | [d1, d2, d3] => { results := [.lit (.bool true)], args := [d1, d2, d3] }
  | _ => none }
def fnExactSameReadingRow : OpenClaim := { program := "ytffnefmklckngaagreat", sum := "eb33be47c16fa2e5bb2ca6f45bf3e30bfdd7c61b64dd5d360492ea2d2be21594", func := "loop.example/g00463/laws.FnExactSameReading", spec := "fnExactSameReading", unfollowed := true, recurses := true, plainKeys := false, apart := false }
def FnExactSameReadingSaid : Prop := fnExactSameReadingRow.holds Tryz.pinned (OpenSpec.ofChange fnExactSameReadingSpec)

/-- ITS FALSE NEIGHBOUR: 'it returns false'. Refute it at one input. -/
def fnExactSameReadingWrong : ChangeSpec := { name := "fnExactSameReading", fn := fun _ => fun
  | [d1, d2, d3] => { results := [.lit (.bool false)], args := [d1, d2, d3] }
  | _ => none }
def FnExactSameReadingWrongFalsely : Prop := fnExactSameReadingRow.holds Tryz.pinned (OpenSpec.ofChange fnExactSameReadingWrong)

/-- 'laws.FnExactDoEdits': WHATEVER THE INPUT: true; the input reads as it did. -/
def fnExactDoEditsSpec : ChangeSpec := { name := "fnExactDoEdits", fn := fun _ => fun
  | [d1, d2, d3, d4] => { results := [.lit (.bool true)], args := [d1, d2, d3, d4] }
  | _ => none }
def fnExactDoEditsRow : OpenClaim := { program := "ytffnefmklckngaagreat", sum := "eb33be47c16fa2e5bb2ca6f45bf3e30bfdd7c61b64dd5d360492ea2d2be21594", func := "loop.example/g00463/laws.FnExactDoEdits", spec := "fnExactDoEdits", unfollowed := true, recurses := true, plainKeys := false, apart := false }
def FnExactDoEditsSaid : Prop := fnExactDoEditsRow.holds Tryz.pinned (OpenSpec.ofChange fnExactDoEditsSpec)

/-- ITS FALSE NEIGHBOUR: 'it returns false'. Refute it at one input. -/
def fnExactDoEditsWrong : ChangeSpec := { name := "fnExactDoEdits", fn := fun _ => fun
  | [d1, d2, d3, d4] => { results := [.lit (.bool false)], args := [d1, d2, d3, d4] }
  | _ => none }
def FnExactDoEditsWrongFalsely : Prop := fnExactDoEditsRow.holds Tryz.pinned (OpenSpec.ofChange fnExactDoEditsWrong)

/-- 'laws.FnExactMayStand': WHATEVER THE INPUT: true; the input reads as it did. -/
def fnExactMayStandSpec : ChangeSpec := { name := "fnExactMayStand", fn := fun _ => fun
  | [d] => { results := [.lit (.bool true)], args := [d] }
  | _ => none }
def fnExactMayStandRow : OpenClaim := { program := "ytffnefmklckngaagreat", sum := "eb33be47c16fa2e5bb2ca6f45bf3e30bfdd7c61b64dd5d360492ea2d2be21594", func := "loop.example/g00463/laws.FnExactMayStand", spec := "fnExactMayStand", unfollowed := true, recurses := true, plainKeys := false, apart := false }
def FnExactMayStandSaid : Prop := fnExactMayStandRow.holds Tryz.pinned (OpenSpec.ofChange fnExactMayStandSpec)

/-- ITS FALSE NEIGHBOUR: 'it returns false'. Refute it at one input. -/
def fnExactMayStandWrong : ChangeSpec := { name := "fnExactMayStand", fn := fun _ => fun
  | [d] => { results := [.lit (.bool false)], args := [d] }
  | _ => none }
def FnExactMayStandWrongFalsely : Prop := fnExactMayStandRow.holds Tryz.pinned (OpenSpec.ofChange fnExactMayStandWrong)

/- THE SECOND FORM. 'bulk': how many values and letters a reading holds, each counted each time it is reached (what is shared counts as often as it is met; a slice's spare places count too). A statement '..UptoSaid' is the law's where the arguments, and the package variables that the reading takes, are together of bulk at most 1048576: NARROWER than '..Said'. Prove '..Said' where nothing that the law and all that it calls make is longer than what came in: it says more and counts as full. Else prove '..UptoSaid'. A law counts once. -/
mutual
def uptoBulk {H : Type} : DataW H → Nat
  | .lit (.string bytes) => bytes.length + 1
  | .lit _ => 1
  | .nil => 1
  | .ptr d => uptoBulk d + 1
  | .slice elems spare => uptoBulkAll elems + uptoBulkAll spare + 1
  | .agg parts => uptoBulkAll parts + 1
  | .iface _ d => uptoBulk d + 1
  | .map entries => uptoBulkEntries entries + 1
  | .held _ => 1
def uptoBulkAll {H : Type} : List (DataW H) → Nat
  | [] => 0
  | d :: r => uptoBulk d + uptoBulkAll r
def uptoBulkEntries {H : Type} : List (Lit × DataW H) → Nat
  | [] => 0
  | x :: r => uptoBulkEntry x + uptoBulkEntries r
def uptoBulkEntry {H : Type} : Lit × DataW H → Nat
  | (.string bytes, d) => bytes.length + uptoBulk d + 1
  | (_, d) => uptoBulk d + 1
 end
def uptoSmall : (H : Type) → List (DataW H) → Bool := fun _ ds => decide (uptoBulkAll ds ≤ 1048576)
def OpenSpec.upto (s : _root_.Go.ChangeSpec) : _root_.Go.OpenSpec := { _root_.Go.OpenSpec.ofChange s with cond := some uptoSmall }

/-- 'laws.FnExactActsBy', WHERE WHAT IT READS IS OF BULK AT MOST 1048576: true; the input reads as it did. -/
def fnExactActsByUptoRow : OpenClaim := { program := "ytffnefmklckngaagreat", sum := "eb33be47c16fa2e5bb2ca6f45bf3e30bfdd7c61b64dd5d360492ea2d2be21594", func := "loop.example/g00463/laws.FnExactActsBy", spec := "fnExactActsBy", plainKeys := false, apart := false, narrowed := true }
def FnExactActsByUptoSaid : Prop := fnExactActsByUptoRow.holds Tryz.pinned (OpenSpec.upto fnExactActsBySpec)

/-- 'laws.FnExactByOrder', WHERE WHAT IT READS IS OF BULK AT MOST 1048576: true; the input reads as it did. -/
def fnExactByOrderUptoRow : OpenClaim := { program := "ytffnefmklckngaagreat", sum := "eb33be47c16fa2e5bb2ca6f45bf3e30bfdd7c61b64dd5d360492ea2d2be21594", func := "loop.example/g00463/laws.FnExactByOrder", spec := "fnExactByOrder", unfollowed := true, recurses := true, plainKeys := false, apart := false, narrowed := true }
def FnExactByOrderUptoSaid : Prop := fnExactByOrderUptoRow.holds Tryz.pinned (OpenSpec.upto fnExactByOrderSpec)

/-- 'laws.FnExactSameReading', WHERE WHAT IT READS IS OF BULK AT MOST 1048576: true; the input reads as it did. -/
def fnExactSameReadingUptoRow : OpenClaim := { program := "ytffnefmklckngaagreat", sum := "eb33be47c16fa2e5bb2ca6f45bf3e30bfdd7c61b64dd5d360492ea2d2be21594", func := "loop.example/g00463/laws.FnExactSameReading", spec := "fnExactSameReading", unfollowed := true, recurses := true, plainKeys := false, apart := false, narrowed := true }
def FnExactSameReadingUptoSaid : Prop := fnExactSameReadingUptoRow.holds Tryz.pinned (OpenSpec.upto fnExactSameReadingSpec)

/-- 'laws.FnExactDoEdits', WHERE WHAT IT READS IS OF BULK AT MOST 1048576: true; the input reads as it did. -/
def fnExactDoEditsUptoRow : OpenClaim := { program := "ytffnefmklckngaagreat", sum := "eb33be47c16fa2e5bb2ca6f45bf3e30bfdd7c61b64dd5d360492ea2d2be21594", func := "loop.example/g00463/laws.FnExactDoEdits", spec := "fnExactDoEdits", unfollowed := true, recurses := true, plainKeys := false, apart := false, narrowed := true }
def FnExactDoEditsUptoSaid : Prop := fnExactDoEditsUptoRow.holds Tryz.pinned (OpenSpec.upto fnExactDoEditsSpec)

/-- 'laws.FnExactMayStand', WHERE WHAT IT READS IS OF BULK AT MOST 1048576: true; the input reads as it did. -/
def fnExactMayStandUptoRow : OpenClaim := { program := "ytffnefmklckngaagreat", sum := "eb33be47c16fa2e5bb2ca6f45bf3e30bfdd7c61b64dd5d360492ea2d2be21594", func := "loop.example/g00463/laws.FnExactMayStand", spec := "fnExactMayStand", unfollowed := true, recurses := true, plainKeys := false, apart := false, narrowed := true }
def FnExactMayStandUptoSaid : Prop := fnExactMayStandUptoRow.holds Tryz.pinned (OpenSpec.upto fnExactMayStandSpec)

end Rows
end Go.Proofs.YtffnefmklckngaaGreat
