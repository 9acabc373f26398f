/-
  No cell of these rows narrows 'for every input' (looked for: loops, veiled, ifaces, maps, wideKeys, modest, calm, conditions, laid).
  DERIVED. THE GIVEN ROWS OF THIS SEAT. 12 by the template 'for every input the law returns true; each argument reads behind the call as it read before'; 0 by the template 'total and deterministic' (their statements: YtopannfdcikgiaaTotals.lean).
  GIVEN WITH THE SEED: the statements are not yours to turn. If you find one false, say at which input.
  Laid BY PROGRAM, IN A SANDBOX (cutbox-rows.mjs): the forced cells as the released guide's own fill.sh prints them over the translation 6bdc49a898fb4354… (all of the seat's roots in one cut). By AI agents, Wed Nov 11 2026. No macro, syntax, notation, axiom, sorry.
-/
import Derived.Test.YtopannfdcikgiaaChecked
import GoSem.Claim
import GoSem.ClaimJoined
import GoSem.ClaimMapViews
import Derived.JoinedTies
import Derived.KernelRfl
namespace Go.Proofs.Ytopannfdcikgiaa
/- THE CELL 'sum', in the pinned program and in every row, IS THE sha256 OF THE DUMP (.gsa) THAT YtopannfdcikgiaaProg.lean LOADS. Nothing in Lean hashes anything: it is a label: what it is worth is what the hold of that sum in a sandbox is worth. -/
noncomputable def Try.pinned : Pinned := { name := "ytopannfdcikgiaa", sum := "6bdc49a898fb435468e80f797b0765bf97bba34e48d30fd141e5e2ca860896c9", checked := Try.checked }
namespace Rows
def none {H : Type} : Left H := { results := [], args := [] }

/-- 'laws.FnExactWatchOk': WHATEVER THE INPUT: true; the input reads as it did. -/
def fnExactWatchOkSpec : ChangeSpec := { name := "fnExactWatchOk", fn := fun _ => fun
  | [d] => { results := [.lit (.bool true)], args := [d] }
  | _ => none }
def fnExactWatchOkRow : OpenClaim := { program := "ytopannfdcikgiaa", sum := "6bdc49a898fb435468e80f797b0765bf97bba34e48d30fd141e5e2ca860896c9", func := "loop.example/g00463/laws.FnExactWatchOk", spec := "fnExactWatchOk", apart := false }
def FnExactWatchOkSaid : Prop := fnExactWatchOkRow.holds Try.pinned (OpenSpec.ofChange fnExactWatchOkSpec)

/-- ITS FALSE NEIGHBOUR: 'it returns false'. Refute it at one input. -/
def fnExactWatchOkWrong : ChangeSpec := { name := "fnExactWatchOk", fn := fun _ => fun
  | [d] => { results := [.lit (.bool false)], args := [d] }
  | _ => none }
def FnExactWatchOkWrongFalsely : Prop := fnExactWatchOkRow.holds Try.pinned (OpenSpec.ofChange fnExactWatchOkWrong)

/-- 'laws.FnExactOrderOf': WHATEVER THE INPUT: true; the input reads as it did. -/
def fnExactOrderOfSpec : ChangeSpec := { name := "fnExactOrderOf", fn := fun _ => fun
  | [d1, d2] => { results := [.lit (.bool true)], args := [d1, d2] }
  | _ => none }
def fnExactOrderOfRow : OpenClaim := { program := "ytopannfdcikgiaa", sum := "6bdc49a898fb435468e80f797b0765bf97bba34e48d30fd141e5e2ca860896c9", func := "loop.example/g00463/laws.FnExactOrderOf", spec := "fnExactOrderOf", apart := false }
def FnExactOrderOfSaid : Prop := fnExactOrderOfRow.holds Try.pinned (OpenSpec.ofChange fnExactOrderOfSpec)

/-- ITS FALSE NEIGHBOUR: 'it returns false'. Refute it at one input. -/
def fnExactOrderOfWrong : ChangeSpec := { name := "fnExactOrderOf", fn := fun _ => fun
  | [d1, d2] => { results := [.lit (.bool false)], args := [d1, d2] }
  | _ => none }
def FnExactOrderOfWrongFalsely : Prop := fnExactOrderOfRow.holds Try.pinned (OpenSpec.ofChange fnExactOrderOfWrong)

/-- 'laws.FnExactWatchText': WHATEVER THE INPUT: true; the input reads as it did. -/
def fnExactWatchTextSpec : ChangeSpec := { name := "fnExactWatchText", fn := fun _ => fun
  | [d] => { results := [.lit (.bool true)], args := [d] }
  | _ => none }
def fnExactWatchTextRow : OpenClaim := { program := "ytopannfdcikgiaa", sum := "6bdc49a898fb435468e80f797b0765bf97bba34e48d30fd141e5e2ca860896c9", func := "loop.example/g00463/laws.FnExactWatchText", spec := "fnExactWatchText", apart := false }
def FnExactWatchTextSaid : Prop := fnExactWatchTextRow.holds Try.pinned (OpenSpec.ofChange fnExactWatchTextSpec)

/-- ITS FALSE NEIGHBOUR: 'it returns false'. Refute it at one input. -/
def fnExactWatchTextWrong : ChangeSpec := { name := "fnExactWatchText", fn := fun _ => fun
  | [d] => { results := [.lit (.bool false)], args := [d] }
  | _ => none }
def FnExactWatchTextWrongFalsely : Prop := fnExactWatchTextRow.holds Try.pinned (OpenSpec.ofChange fnExactWatchTextWrong)

/-- 'laws.FnExactJoinAll': WHATEVER THE INPUT: true; the input reads as it did. -/
def fnExactJoinAllSpec : ChangeSpec := { name := "fnExactJoinAll", fn := fun _ => fun
  | [d] => { results := [.lit (.bool true)], args := [d] }
  | _ => none }
def fnExactJoinAllRow : OpenClaim := { program := "ytopannfdcikgiaa", sum := "6bdc49a898fb435468e80f797b0765bf97bba34e48d30fd141e5e2ca860896c9", func := "loop.example/g00463/laws.FnExactJoinAll", spec := "fnExactJoinAll", apart := false }
def FnExactJoinAllSaid : Prop := fnExactJoinAllRow.holds Try.pinned (OpenSpec.ofChange fnExactJoinAllSpec)

/-- ITS FALSE NEIGHBOUR: 'it returns false'. Refute it at one input. -/
def fnExactJoinAllWrong : ChangeSpec := { name := "fnExactJoinAll", fn := fun _ => fun
  | [d] => { results := [.lit (.bool false)], args := [d] }
  | _ => none }
def FnExactJoinAllWrongFalsely : Prop := fnExactJoinAllRow.holds Try.pinned (OpenSpec.ofChange fnExactJoinAllWrong)

/-- 'laws.FnExactMeetAll': WHATEVER THE INPUT: true; the input reads as it did. -/
def fnExactMeetAllSpec : ChangeSpec := { name := "fnExactMeetAll", fn := fun _ => fun
  | [d] => { results := [.lit (.bool true)], args := [d] }
  | _ => none }
def fnExactMeetAllRow : OpenClaim := { program := "ytopannfdcikgiaa", sum := "6bdc49a898fb435468e80f797b0765bf97bba34e48d30fd141e5e2ca860896c9", func := "loop.example/g00463/laws.FnExactMeetAll", spec := "fnExactMeetAll", apart := false }
def FnExactMeetAllSaid : Prop := fnExactMeetAllRow.holds Try.pinned (OpenSpec.ofChange fnExactMeetAllSpec)

/-- ITS FALSE NEIGHBOUR: 'it returns false'. Refute it at one input. -/
def fnExactMeetAllWrong : ChangeSpec := { name := "fnExactMeetAll", fn := fun _ => fun
  | [d] => { results := [.lit (.bool false)], args := [d] }
  | _ => none }
def FnExactMeetAllWrongFalsely : Prop := fnExactMeetAllRow.holds Try.pinned (OpenSpec.ofChange fnExactMeetAllWrong)

/-- 'laws.FnOrdersKnow': WHATEVER THE INPUT: true; the input reads as it did. -/
def fnOrdersKnowSpec : ChangeSpec := { name := "fnOrdersKnow", fn := fun _ => fun
  | [d] => { results := [.lit (.bool true)], args := [d] }
  | _ => none }
def fnOrdersKnowRow : OpenClaim := { program := "ytopannfdcikgiaa", sum := "6bdc49a898fb435468e80f797b0765bf97bba34e48d30fd141e5e2ca860896c9", func := "loop.example/g00463/laws.FnOrdersKnow", spec := "fnOrdersKnow", apart := false }
def FnOrdersKnowSaid : Prop := fnOrdersKnowRow.holds Try.pinned (OpenSpec.ofChange fnOrdersKnowSpec)

/-- ITS FALSE NEIGHBOUR: 'it returns false'. Refute it at one input. -/
def fnOrdersKnowWrong : ChangeSpec := { name := "fnOrdersKnow", fn := fun _ => fun
  | [d] => { results := [.lit (.bool false)], args := [d] }
  | _ => none }
def FnOrdersKnowWrongFalsely : Prop := fnOrdersKnowRow.holds Try.pinned (OpenSpec.ofChange fnOrdersKnowWrong)

/-- 'laws.FnExactTogether': WHATEVER THE INPUT: true; the input reads as it did. -/
def fnExactTogetherSpec : ChangeSpec := { name := "fnExactTogether", fn := fun _ => fun
  | [d1, d2] => { results := [.lit (.bool true)], args := [d1, d2] }
  | _ => none }
def fnExactTogetherRow : OpenClaim := { program := "ytopannfdcikgiaa", sum := "6bdc49a898fb435468e80f797b0765bf97bba34e48d30fd141e5e2ca860896c9", func := "loop.example/g00463/laws.FnExactTogether", spec := "fnExactTogether", apart := false }
def FnExactTogetherSaid : Prop := fnExactTogetherRow.holds Try.pinned (OpenSpec.ofChange fnExactTogetherSpec)

/-- ITS FALSE NEIGHBOUR: 'it returns false'. Refute it at one input. -/
def fnExactTogetherWrong : ChangeSpec := { name := "fnExactTogether", fn := fun _ => fun
  | [d1, d2] => { results := [.lit (.bool false)], args := [d1, d2] }
  | _ => none }
def FnExactTogetherWrongFalsely : Prop := fnExactTogetherRow.holds Try.pinned (OpenSpec.ofChange fnExactTogetherWrong)

/-- 'laws.FnExactReadWatch': WHATEVER THE INPUT: true; the input reads as it did. -/
def fnExactReadWatchSpec : ChangeSpec := { name := "fnExactReadWatch", fn := fun _ => fun
  | [d] => { results := [.lit (.bool true)], args := [d] }
  | _ => none }
def fnExactReadWatchRow : OpenClaim := { program := "ytopannfdcikgiaa", sum := "6bdc49a898fb435468e80f797b0765bf97bba34e48d30fd141e5e2ca860896c9", func := "loop.example/g00463/laws.FnExactReadWatch", spec := "fnExactReadWatch", apart := false }
def FnExactReadWatchSaid : Prop := fnExactReadWatchRow.holds Try.pinned (OpenSpec.ofChange fnExactReadWatchSpec)

/-- ITS FALSE NEIGHBOUR: 'it returns false'. Refute it at one input. -/
def fnExactReadWatchWrong : ChangeSpec := { name := "fnExactReadWatch", fn := fun _ => fun
  | [d] => { results := [.lit (.bool false)], args := [d] }
  | _ => none }
def FnExactReadWatchWrongFalsely : Prop := fnExactReadWatchRow.holds Try.pinned (OpenSpec.ofChange fnExactReadWatchWrong)

/-- 'laws.FnExactGoneIn': WHATEVER THE INPUT: true; the input reads as it did. -/
def fnExactGoneInSpec : ChangeSpec := { name := "fnExactGoneIn", fn := fun _ => fun
  | [d1, d2] => { results := [.lit (.bool true)], args := [d1, d2] }
  | _ => none }
def fnExactGoneInRow : OpenClaim := { program := "ytopannfdcikgiaa", sum := "6bdc49a898fb435468e80f797b0765bf97bba34e48d30fd141e5e2ca860896c9", func := "loop.example/g00463/laws.FnExactGoneIn", spec := "fnExactGoneIn", apart := false }
def FnExactGoneInSaid : Prop := fnExactGoneInRow.holds Try.pinned (OpenSpec.ofChange fnExactGoneInSpec)

/-- ITS FALSE NEIGHBOUR: 'it returns false'. Refute it at one input. -/
def fnExactGoneInWrong : ChangeSpec := { name := "fnExactGoneIn", fn := fun _ => fun
  | [d1, d2] => { results := [.lit (.bool false)], args := [d1, d2] }
  | _ => none }
def FnExactGoneInWrongFalsely : Prop := fnExactGoneInRow.holds Try.pinned (OpenSpec.ofChange fnExactGoneInWrong)

/-- 'laws.FnExactRefsTo': WHATEVER THE INPUT: true; the input reads as it did. -/
def fnExactRefsToSpec : ChangeSpec := { name := "fnExactRefsTo", fn := fun _ => fun
  | [d1, d2] => { results := [.lit (.bool true)], args := [d1, d2] }
  | _ => none }
def fnExactRefsToRow : OpenClaim := { program := "ytopannfdcikgiaa", sum := "6bdc49a898fb435468e80f797b0765bf97bba34e48d30fd141e5e2ca860896c9", func := "loop.example/g00463/laws.FnExactRefsTo", spec := "fnExactRefsTo", apart := false }
def FnExactRefsToSaid : Prop := fnExactRefsToRow.holds Try.pinned (OpenSpec.ofChange fnExactRefsToSpec)

/-- ITS FALSE NEIGHBOUR: 'it returns false'. Refute it at one input. -/
def fnExactRefsToWrong : ChangeSpec := { name := "fnExactRefsTo", fn := fun _ => fun
  | [d1, d2] => { results := [.lit (.bool false)], args := [d1, d2] }
  | _ => none }
def FnExactRefsToWrongFalsely : Prop := fnExactRefsToRow.holds Try.pinned (OpenSpec.ofChange fnExactRefsToWrong)

/-- 'laws.FnExactCountBy': WHATEVER THE INPUT: true; the input reads as it did. -/
def fnExactCountBySpec : ChangeSpec := { name := "fnExactCountBy", fn := fun _ => fun
  | [d1, d2] => { results := [.lit (.bool true)], args := [d1, d2] }
  | _ => none }
def fnExactCountByRow : OpenClaim := { program := "ytopannfdcikgiaa", sum := "6bdc49a898fb435468e80f797b0765bf97bba34e48d30fd141e5e2ca860896c9", func := "loop.example/g00463/laws.FnExactCountBy", spec := "fnExactCountBy", apart := false }
def FnExactCountBySaid : Prop := fnExactCountByRow.holds Try.pinned (OpenSpec.ofChange fnExactCountBySpec)

/-- ITS FALSE NEIGHBOUR: 'it returns false'. Refute it at one input. -/
def fnExactCountByWrong : ChangeSpec := { name := "fnExactCountBy", fn := fun _ => fun
  | [d1, d2] => { results := [.lit (.bool false)], args := [d1, d2] }
  | _ => none }
def FnExactCountByWrongFalsely : Prop := fnExactCountByRow.holds Try.pinned (OpenSpec.ofChange fnExactCountByWrong)

/-- 'laws.FnExactLivesWhose': WHATEVER THE INPUT: true; the input reads as it did. -/
def fnExactLivesWhoseSpec : ChangeSpec := { name := "fnExactLivesWhose", fn := fun _ => fun
  | [d1, d2, d3, d4] => { results := [.lit (.bool true)], args := [d1, d2, d3, d4] }
  | _ => none }
def fnExactLivesWhoseRow : OpenClaim := { program := "ytopannfdcikgiaa", sum := "6bdc49a898fb435468e80f797b0765bf97bba34e48d30fd141e5e2ca860896c9", func := "loop.example/g00463/laws.FnExactLivesWhose", spec := "fnExactLivesWhose", recurses := true, apart := false }
def FnExactLivesWhoseSaid : Prop := fnExactLivesWhoseRow.holds Try.pinned (OpenSpec.ofChange fnExactLivesWhoseSpec)

/-- ITS FALSE NEIGHBOUR: 'it returns false'. Refute it at one input. -/
def fnExactLivesWhoseWrong : ChangeSpec := { name := "fnExactLivesWhose", fn := fun _ => fun
  | [d1, d2, d3, d4] => { results := [.lit (.bool false)], args := [d1, d2, d3, d4] }
  | _ => none }
def FnExactLivesWhoseWrongFalsely : Prop := fnExactLivesWhoseRow.holds Try.pinned (OpenSpec.ofChange fnExactLivesWhoseWrong)

/- THE SECOND FORM. 'bulk': how many values and letters a reading holds, each counted each time it is reached (what is shared counts as often as it is met; a slice's spare places count too). A statement '..UptoSaid' is the law's where the arguments, and the package variables that the reading takes, are together of bulk at most 1048576: NARROWER than '..Said'. Prove '..Said' where nothing that the law and all that it calls make is longer than what came in: it says more and counts as full. Else prove '..UptoSaid'. A law counts once. -/
mutual
def uptoBulk {H : Type} : DataW H → Nat
  | .lit (.string bytes) => bytes.length + 1
  | .lit _ => 1
  | .nil => 1
  | .ptr d => uptoBulk d + 1
  | .slice elems spare => uptoBulkAll elems + uptoBulkAll spare + 1
  | .agg parts => uptoBulkAll parts + 1
  | .iface _ d => uptoBulk d + 1
  | .map entries => uptoBulkEntries entries + 1
  | .held _ => 1
def uptoBulkAll {H : Type} : List (DataW H) → Nat
  | [] => 0
  | d :: r => uptoBulk d + uptoBulkAll r
def uptoBulkEntries {H : Type} : List (Lit × DataW H) → Nat
  | [] => 0
  | x :: r => uptoBulkEntry x + uptoBulkEntries r
def uptoBulkEntry {H : Type} : Lit × DataW H → Nat
  | (.string bytes, d) => bytes.length + uptoBulk d + 1
  | (_, d) => uptoBulk d + 1
 end
def uptoSmall : (H : Type) → List (DataW H) → Bool := fun _ ds => decide (uptoBulkAll ds ≤ 1048576)
def OpenSpec.upto (s : _root_.Go.ChangeSpec) : _root_.Go.OpenSpec := { _root_.Go.OpenSpec.ofChange s with cond := some uptoSmall }

/-- 'laws.FnExactWatchOk', WHERE WHAT IT READS IS OF BULK AT MOST 1048576: true; the input reads as it did. -/
def fnExactWatchOkUptoRow : OpenClaim := { program := "ytopannfdcikgiaa", sum := "6bdc49a898fb435468e80f797b0765bf97bba34e48d30fd141e5e2ca860896c9", func := "loop.example/g00463/laws.FnExactWatchOk", spec := "fnExactWatchOk", apart := false, narrowed := true }
def FnExactWatchOkUptoSaid : Prop := fnExactWatchOkUptoRow.holds Try.pinned (OpenSpec.upto fnExactWatchOkSpec)

/-- 'laws.FnExactOrderOf', WHERE WHAT IT READS IS OF BULK AT MOST 1048576: true; the input reads as it did. -/
def fnExactOrderOfUptoRow : OpenClaim := { program := "ytopannfdcikgiaa", sum := "6bdc49a898fb435468e80f797b0765bf97bba34e48d30fd141e5e2ca860896c9", func := "loop.example/g00463/laws.FnExactOrderOf", spec := "fnExactOrderOf", apart := false, narrowed := true }
def FnExactOrderOfUptoSaid : Prop := fnExactOrderOfUptoRow.holds Try.pinned (OpenSpec.upto fnExactOrderOfSpec)

/-- 'laws.FnExactWatchText', WHERE WHAT IT READS IS OF BULK AT MOST 1048576: true; the input reads as it did. -/
def fnExactWatchTextUptoRow : OpenClaim := { program := "ytopannfdcikgiaa", sum := "6bdc49a898fb435468e80f797b0765bf97bba34e48d30fd141e5e2ca860896c9", func := "loop.example/g00463/laws.FnExactWatchText", spec := "fnExactWatchText", apart := false, narrowed := true }
def FnExactWatchTextUptoSaid : Prop := fnExactWatchTextUptoRow.holds Try.pinned (OpenSpec.upto fnExactWatchTextSpec)

/-- 'laws.FnExactJoinAll', WHERE WHAT IT READS IS OF BULK AT MOST 1048576: true; the input reads as it did. -/
def fnExactJoinAllUptoRow : OpenClaim := { program := "ytopannfdcikgiaa", sum := "6bdc49a898fb435468e80f797b0765bf97bba34e48d30fd141e5e2ca860896c9", func := "loop.example/g00463/laws.FnExactJoinAll", spec := "fnExactJoinAll", apart := false, narrowed := true }
def FnExactJoinAllUptoSaid : Prop := fnExactJoinAllUptoRow.holds Try.pinned (OpenSpec.upto fnExactJoinAllSpec)

/-- 'laws.FnExactMeetAll', WHERE WHAT IT READS IS OF BULK AT MOST 1048576: true; the input reads as it did. -/
def fnExactMeetAllUptoRow : OpenClaim := { program := "ytopannfdcikgiaa", sum := "6bdc49a898fb435468e80f797b0765bf97bba34e48d30fd141e5e2ca860896c9", func := "loop.example/g00463/laws.FnExactMeetAll", spec := "fnExactMeetAll", apart := false, narrowed := true }
def FnExactMeetAllUptoSaid : Prop := fnExactMeetAllUptoRow.holds Try.pinned (OpenSpec.upto fnExactMeetAllSpec)

/-- 'laws.FnOrdersKnow', WHERE WHAT IT READS IS OF BULK AT MOST 1048576: true; the input reads as it did. -/
def fnOrdersKnowUptoRow : OpenClaim := { program := "ytopannfdcikgiaa", sum := "6bdc49a898fb435468e80f797b0765bf97bba34e48d30fd141e5e2ca860896c9", func := "loop.example/g00463/laws.FnOrdersKnow", spec := "fnOrdersKnow", apart := false, narrowed := true }
def FnOrdersKnowUptoSaid : Prop := fnOrdersKnowUptoRow.holds Try.pinned (OpenSpec.upto fnOrdersKnowSpec)

/-- 'laws.FnExactTogether', WHERE WHAT IT READS IS OF BULK AT MOST 1048576: true; the input reads as it did. -/
def fnExactTogetherUptoRow : OpenClaim := { program := "ytopannfdcikgiaa", sum := "6bdc49a898fb435468e80f797b0765bf97bba34e48d30fd141e5e2ca860896c9", func := "loop.example/g00463/laws.FnExactTogether", spec := "fnExactTogether", apart := false, narrowed := true }
def FnExactTogetherUptoSaid : Prop := fnExactTogetherUptoRow.holds Try.pinned (OpenSpec.upto fnExactTogetherSpec)

/-- 'laws.FnExactReadWatch', WHERE WHAT IT READS IS OF BULK AT MOST 1048576: true; the input reads as it did. -/
def fnExactReadWatchUptoRow : OpenClaim := { program := "ytopannfdcikgiaa", sum := "6bdc49a898fb435468e80f797b0765bf97bba34e48d30fd141e5e2ca860896c9", func := "loop.example/g00463/laws.FnExactReadWatch", spec := "fnExactReadWatch", apart := false, narrowed := true }
def FnExactReadWatchUptoSaid : Prop := fnExactReadWatchUptoRow.holds Try.pinned (OpenSpec.upto fnExactReadWatchSpec)

/-- 'laws.FnExactGoneIn', WHERE WHAT IT READS IS OF BULK AT MOST 1048576: true; the input reads as it did. -/
def fnExactGoneInUptoRow : OpenClaim := { program := "ytopannfdcikgiaa", sum := "6bdc49a898fb435468e80f797b0765bf97bba34e48d30fd141e5e2ca860896c9", func := "loop.example/g00463/laws.FnExactGoneIn", spec := "fnExactGoneIn", apart := false, narrowed := true }
def FnExactGoneInUptoSaid : Prop := fnExactGoneInUptoRow.holds Try.pinned (OpenSpec.upto fnExactGoneInSpec)

/-- 'laws.FnExactRefsTo', WHERE WHAT IT READS IS OF BULK AT MOST 1048576: true; the input reads as it did. -/
def fnExactRefsToUptoRow : OpenClaim := { program := "ytopannfdcikgiaa", sum := "6bdc49a898fb435468e80f797b0765bf97bba34e48d30fd141e5e2ca860896c9", func := "loop.example/g00463/laws.FnExactRefsTo", spec := "fnExactRefsTo", apart := false, narrowed := true }
def FnExactRefsToUptoSaid : Prop := fnExactRefsToUptoRow.holds Try.pinned (OpenSpec.upto fnExactRefsToSpec)

/-- 'laws.FnExactCountBy', WHERE WHAT IT READS IS OF BULK AT MOST 1048576: true; the input reads as it did. -/
def fnExactCountByUptoRow : OpenClaim := { program := "ytopannfdcikgiaa", sum := "6bdc49a898fb435468e80f797b0765bf97bba34e48d30fd141e5e2ca860896c9", func := "loop.example/g00463/laws.FnExactCountBy", spec := "fnExactCountBy", apart := false, narrowed := true }
def FnExactCountByUptoSaid : Prop := fnExactCountByUptoRow.holds Try.pinned (OpenSpec.upto fnExactCountBySpec)

/-- 'laws.FnExactLivesWhose', WHERE WHAT IT READS IS OF BULK AT MOST 1048576: true; the input reads as it did. -/
def fnExactLivesWhoseUptoRow : OpenClaim := { program := "ytopannfdcikgiaa", sum := "6bdc49a898fb435468e80f797b0765bf97bba34e48d30fd141e5e2ca860896c9", func := "loop.example/g00463/laws.FnExactLivesWhose", spec := "fnExactLivesWhose", recurses := true, apart := false, narrowed := true }
def FnExactLivesWhoseUptoSaid : Prop := fnExactLivesWhoseUptoRow.holds Try.pinned (OpenSpec.upto fnExactLivesWhoseSpec)

end Rows
end Go.Proofs.Ytopannfdcikgiaa
