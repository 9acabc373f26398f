/-
  No cell of these rows narrows 'for every input' (looked for: loops, veiled, ifaces, maps, wideKeys, modest, calm, conditions, laid).
  DERIVED. THE GIVEN ROWS OF THIS SEAT. 5 by the template 'for every input the law returns true; each argument reads behind the call as it read before'; 0 by the template 'total and deterministic' (their statements: YtffnefmklckngaaTotals.lean).
  GIVEN WITH THE SEED: the statements are not yours to turn. If you find one false, say at which input.
  Laid BY PROGRAM, IN A SANDBOX (cutbox-rows.mjs): the forced cells as the released guide's own fill.sh prints them over the translation 9af7644f67d163ed… (all of the seat's roots in one cut). By AI agents, Wed Nov 11 2026. No macro, syntax, notation, axiom, sorry.
-/
import Derived.Test.YtffnefmklckngaaChecked
import GoSem.Claim
import GoSem.ClaimJoined
import GoSem.ClaimMapViews
import Derived.JoinedTies
import Derived.KernelRfl
namespace Go.Proofs.Ytffnefmklckngaa
/- THE CELL 'sum', in the pinned program and in every row, IS THE sha256 OF THE DUMP (.gsa) THAT YtffnefmklckngaaProg.lean LOADS. Nothing in Lean hashes anything: it is a label: what it is worth is what the hold of that sum in a sandbox is worth. -/
noncomputable def Try.pinned : Pinned := { name := "ytffnefmklckngaa", sum := "9af7644f67d163ed328e784ecc0d20c8ee94e214633656e27be0290e197fa947", checked := Try.checked }
namespace Rows
def none {H : Type} : Left H := { results := [], args := [] }

/-- 'laws.FnExactBusiestOf': WHATEVER THE INPUT: true; the input reads as it did. -/
def fnExactBusiestOfSpec : ChangeSpec := { name := "fnExactBusiestOf", fn := fun _ => fun
  | [d] => { results := [.lit (.bool true)], args := [d] }
  | _ => none }
def fnExactBusiestOfRow : OpenClaim := { program := "ytffnefmklckngaa", sum := "9af7644f67d163ed328e784ecc0d20c8ee94e214633656e27be0290e197fa947", func := "loop.example/g00463/laws.FnExactBusiestOf", spec := "fnExactBusiestOf", plainKeys := false, apart := false }
def FnExactBusiestOfSaid : Prop := fnExactBusiestOfRow.holds Try.pinned (OpenSpec.ofChange fnExactBusiestOfSpec)

/-- ITS FALSE NEIGHBOUR: 'it returns false'. Refute it at one input. -/
def fnExactBusiestOfWrong : ChangeSpec := { name := "fnExactBusiestOf", fn := fun _ => fun
  | [d] => { results := [.lit (.bool false)], args := [d] }
  | _ => none }
def FnExactBusiestOfWrongFalsely : Prop := fnExactBusiestOfRow.holds Try.pinned (OpenSpec.ofChange fnExactBusiestOfWrong)

/-- 'laws.FnExactMayClear': WHATEVER THE INPUT: true; the input reads as it did. -/
def fnExactMayClearSpec : ChangeSpec := { name := "fnExactMayClear", fn := fun _ => fun
  | [d1, d2, d3] => { results := [.lit (.bool true)], args := [d1, d2, d3] }
  | _ => none }
def fnExactMayClearRow : OpenClaim := { program := "ytffnefmklckngaa", sum := "9af7644f67d163ed328e784ecc0d20c8ee94e214633656e27be0290e197fa947", func := "loop.example/g00463/laws.FnExactMayClear", spec := "fnExactMayClear", unfollowed := true, recurses := true, plainKeys := false, apart := false }
def FnExactMayClearSaid : Prop := fnExactMayClearRow.holds Try.pinned (OpenSpec.ofChange fnExactMayClearSpec)

/-- ITS FALSE NEIGHBOUR: 'it returns false'. Refute it at one input. -/
def fnExactMayClearWrong : ChangeSpec := { name := "fnExactMayClear", fn := fun _ => fun
  | [d1, d2, d3] => { results := [.lit (.bool false)], args := [d1, d2, d3] }
  | _ => none }
def FnExactMayClearWrongFalsely : Prop := fnExactMayClearRow.holds Try.pinned (OpenSpec.ofChange fnExactMayClearWrong)

/-- 'laws.FnExactClearOnce': WHATEVER THE INPUT: true; the input reads as it did. -/
def fnExactClearOnceSpec : ChangeSpec := { name := "fnExactClearOnce", fn := fun _ => fun
  | [d1, d2] => { results := [.lit (.bool true)], args := [d1, d2] }
  | _ => none }
def fnExactClearOnceRow : OpenClaim := { program := "ytffnefmklckngaa", sum := "9af7644f67d163ed328e784ecc0d20c8ee94e214633656e27be0290e197fa947", func := "loop.example/g00463/laws.FnExactClearOnce", spec := "fnExactClearOnce", unfollowed := true, recurses := true, plainKeys := false, apart := false }
def FnExactClearOnceSaid : Prop := fnExactClearOnceRow.holds Try.pinned (OpenSpec.ofChange fnExactClearOnceSpec)

/-- ITS FALSE NEIGHBOUR: 'it returns false'. Refute it at one input. -/
def fnExactClearOnceWrong : ChangeSpec := { name := "fnExactClearOnce", fn := fun _ => fun
  | [d1, d2] => { results := [.lit (.bool false)], args := [d1, d2] }
  | _ => none }
def FnExactClearOnceWrongFalsely : Prop := fnExactClearOnceRow.holds Try.pinned (OpenSpec.ofChange fnExactClearOnceWrong)

/-- 'laws.FnExactCleared': WHATEVER THE INPUT: true; the input reads as it did. -/
def fnExactClearedSpec : ChangeSpec := { name := "fnExactCleared", fn := fun _ => fun
  | [d1, d2] => { results := [.lit (.bool true)], args := [d1, d2] }
  | _ => none }
def fnExactClearedRow : OpenClaim := { program := "ytffnefmklckngaa", sum := "9af7644f67d163ed328e784ecc0d20c8ee94e214633656e27be0290e197fa947", func := "loop.example/g00463/laws.FnExactCleared", spec := "fnExactCleared", unfollowed := true, recurses := true, plainKeys := false, apart := false }
def FnExactClearedSaid : Prop := fnExactClearedRow.holds Try.pinned (OpenSpec.ofChange fnExactClearedSpec)

/-- ITS FALSE NEIGHBOUR: 'it returns false'. Refute it at one input. -/
def fnExactClearedWrong : ChangeSpec := { name := "fnExactCleared", fn := fun _ => fun
  | [d1, d2] => { results := [.lit (.bool false)], args := [d1, d2] }
  | _ => none }
def FnExactClearedWrongFalsely : Prop := fnExactClearedRow.holds Try.pinned (OpenSpec.ofChange fnExactClearedWrong)

/-- 'laws.FnExactRowWhose': WHATEVER THE INPUT: true; the input reads as it did. -/
def fnExactRowWhoseSpec : ChangeSpec := { name := "fnExactRowWhose", fn := fun _ => fun
  | [d1, d2] => { results := [.lit (.bool true)], args := [d1, d2] }
  | _ => none }
def fnExactRowWhoseRow : OpenClaim := { program := "ytffnefmklckngaa", sum := "9af7644f67d163ed328e784ecc0d20c8ee94e214633656e27be0290e197fa947", func := "loop.example/g00463/laws.FnExactRowWhose", spec := "fnExactRowWhose", unfollowed := true, recurses := true, plainKeys := false, apart := false }
def FnExactRowWhoseSaid : Prop := fnExactRowWhoseRow.holds Try.pinned (OpenSpec.ofChange fnExactRowWhoseSpec)

/-- ITS FALSE NEIGHBOUR: 'it returns false'. Refute it at one input. -/
def fnExactRowWhoseWrong : ChangeSpec := { name := "fnExactRowWhose", fn := fun _ => fun
  | [d1, d2] => { results := [.lit (.bool false)], args := [d1, d2] }
  | _ => none }
def FnExactRowWhoseWrongFalsely : Prop := fnExactRowWhoseRow.holds Try.pinned (OpenSpec.ofChange fnExactRowWhoseWrong)

/- THE SECOND FORM. 'bulk': how many values and letters a reading holds, each counted each time it is reached (what is shared counts as often as it is met; a slice's spare places count too). A statement '..UptoSaid' is the law's where the arguments, and the package variables that the reading takes, are together of bulk at most 1048576: NARROWER than '..Said'. Prove '..Said' where nothing that the law and all that it calls make is longer than what came in: it says more and counts as full. Else prove '..UptoSaid'. A law counts once. -/
mutual
def uptoBulk {H : Type} : DataW H → Nat
  | .lit (.string bytes) => bytes.length + 1
  | .lit _ => 1
  | .nil => 1
  | .ptr d => uptoBulk d + 1
  | .slice elems spare => uptoBulkAll elems + uptoBulkAll spare + 1
  | .agg parts => uptoBulkAll parts + 1
  | .iface _ d => uptoBulk d + 1
  | .map entries => uptoBulkEntries entries + 1
  | .held _ => 1
def uptoBulkAll {H : Type} : List (DataW H) → Nat
  | [] => 0
  | d :: r => uptoBulk d + uptoBulkAll r
def uptoBulkEntries {H : Type} : List (Lit × DataW H) → Nat
  | [] => 0
  | x :: r => uptoBulkEntry x + uptoBulkEntries r
def uptoBulkEntry {H : Type} : Lit × DataW H → Nat
  | (.string bytes, d) => bytes.length + uptoBulk d + 1
  | (_, d) => uptoBulk d + 1
 end
def uptoSmall : (H : Type) → List (DataW H) → Bool := fun _ ds => decide (uptoBulkAll ds ≤ 1048576)
def OpenSpec.upto (s : _root_.Go.ChangeSpec) : _root_.Go.OpenSpec := { _root_.Go.OpenSpec.ofChange s with cond := some uptoSmall }

/-- 'laws.FnExactBusiestOf', WHERE WHAT IT READS IS OF BULK AT MOST 1048576: true; the input reads as it did. -/
def fnExactBusiestOfUptoRow : OpenClaim := { program := "ytffnefmklckngaa", sum := "9af7644f67d163ed328e784ecc0d20c8ee94e214633656e27be0290e197fa947", func := "loop.example/g00463/laws.FnExactBusiestOf", spec := "fnExactBusiestOf", plainKeys := false, apart := false, narrowed := true }
def FnExactBusiestOfUptoSaid : Prop := fnExactBusiestOfUptoRow.holds Try.pinned (OpenSpec.upto fnExactBusiestOfSpec)

/-- 'laws.FnExactMayClear', WHERE WHAT IT READS IS OF BULK AT MOST 1048576: true; the input reads as it did. -/
def fnExactMayClearUptoRow : OpenClaim := { program := "ytffnefmklckngaa", sum := "9af7644f67d163ed328e784ecc0d20c8ee94e214633656e27be0290e197fa947", func := "loop.example/g00463/laws.FnExactMayClear", spec := "fnExactMayClear", unfollowed := true, recurses := true, plainKeys := false, apart := false, narrowed := true }
def FnExactMayClearUptoSaid : Prop := fnExactMayClearUptoRow.holds Try.pinned (OpenSpec.upto fnExactMayClearSpec)

/-- 'laws.FnExactClearOnce', WHERE WHAT IT READS IS OF BULK AT MOST 1048576: true; the input reads as it did. -/
def fnExactClearOnceUptoRow : OpenClaim := { program := "ytffnefmklckngaa", sum := "9af7644f67d163ed328e784ecc0d20c8ee94e214633656e27be0290e197fa947", func := "loop.example/g00463/laws.FnExactClearOnce", spec := "fnExactClearOnce", unfollowed := true, recurses := true, plainKeys := false, apart := false, narrowed := true }
def FnExactClearOnceUptoSaid : Prop := fnExactClearOnceUptoRow.holds Try.pinned (OpenSpec.upto fnExactClearOnceSpec)

/-- 'laws.FnExactCleared', WHERE WHAT IT READS IS OF BULK AT MOST 1048576: true; the input reads as it did. -/
def fnExactClearedUptoRow : OpenClaim := { program := "ytffnefmklckngaa", sum := "9af7644f67d163ed328e784ecc0d20c8ee94e214633656e27be0290e197fa947", func := "loop.example/g00463/laws.FnExactCleared", spec := "fnExactCleared", unfollowed := true, recurses := true, plainKeys := false, apart := false, narrowed := true }
def FnExactClearedUptoSaid : Prop := fnExactClearedUptoRow.holds Try.pinned (OpenSpec.upto fnExactClearedSpec)

/-- 'laws.FnExactRowWhose', WHERE WHAT IT READS IS OF BULK AT MOST 1048576: true; the input reads as it did. -/
def fnExactRowWhoseUptoRow : OpenClaim := { program := "ytffnefmklckngaa", sum := "9af7644f67d163ed328e784ecc0d20c8ee94e214633656e27be0290e197fa947", func := "loop.example/g00463/laws.FnExactRowWhose", spec := "fnExactRowWhose", unfollowed := true, recurses := true, plainKeys := false, apart := false, narrowed := true }
def FnExactRowWhoseUptoSaid : Prop := fnExactRowWhoseUptoRow.holds Try.pinned (OpenSpec.upto fnExactRowWhoseSpec)

end Rows
end Go.Proofs.Ytffnefmklckngaa
