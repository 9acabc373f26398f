/-
  No cell of these rows narrows 'for every input' (looked for: loops, veiled, ifaces, maps, wideKeys, modest, calm, conditions, laid).
  DERIVED. THE GIVEN ROWS OF THIS SEAT. 3 by the template 'for every input the law returns true; each argument reads behind the call as it read before'; 0 by the template 'total and deterministic' (their statements: YtbeoiejnogdkpaaTotals.lean).
  GIVEN WITH THE SEED: the statements are not yours to turn. If you find one false, say at which input.
  Laid BY PROGRAM, IN A SANDBOX (cutbox-rows.mjs): the forced cells as the released guide's own fill.sh prints them over the translation 0a2794bc2d3d3ae4… (all of the seat's roots in one cut). By AI agents, Wed Nov 11 2026. No macro, syntax, notation, axiom, sorry.
-/
import Derived.Test.YtbeoiejnogdkpaaChecked
import GoSem.Claim
import GoSem.ClaimJoined
import GoSem.ClaimMapViews
import Derived.JoinedTies
import Derived.KernelRfl
namespace Go.Proofs.Ytbeoiejnogdkpaa
/- THE CELL 'sum', in the pinned program and in every row, IS THE sha256 OF THE DUMP (.gsa) THAT YtbeoiejnogdkpaaProg.lean LOADS. Nothing in Lean hashes anything: it is a label: what it is worth is what the hold of that sum in a sandbox is worth. -/
noncomputable def Try.pinned : Pinned := { name := "ytbeoiejnogdkpaa", sum := "0a2794bc2d3d3ae4de8ec8637b0e440dc778cf9a14a7239ff3a78f6c731a6bcd", checked := Try.checked }
namespace Rows
def none {H : Type} : Left H := { results := [], args := [] }

/-- 'laws.FnClears': WHATEVER THE INPUT: true; the input reads as it did. -/
def fnClearsSpec : ChangeSpec := { name := "fnClears", fn := fun _ => fun
  | [d] => { results := [.lit (.bool true)], args := [d] }
  | _ => none }
def fnClearsRow : OpenClaim := { program := "ytbeoiejnogdkpaa", sum := "0a2794bc2d3d3ae4de8ec8637b0e440dc778cf9a14a7239ff3a78f6c731a6bcd", func := "loop.example/g00463/laws.FnClears", spec := "fnClears", unfollowed := true, recurses := true, plainKeys := false, apart := false }
def FnClearsSaid : Prop := fnClearsRow.holds Try.pinned (OpenSpec.ofChange fnClearsSpec)

/-- ITS FALSE NEIGHBOUR: 'it returns false'. Refute it at one input. -/
def fnClearsWrong : ChangeSpec := { name := "fnClears", fn := fun _ => fun
  | [d] => { results := [.lit (.bool false)], args := [d] }
  | _ => none }
def FnClearsWrongFalsely : Prop := fnClearsRow.holds Try.pinned (OpenSpec.ofChange fnClearsWrong)

/-- 'laws.FnClearsAll': WHATEVER THE INPUT: true; the input reads as it did. -/
def fnClearsAllSpec : ChangeSpec := { name := "fnClearsAll", fn := fun _ => fun
  | [d] => { results := [.lit (.bool true)], args := [d] }
  | _ => none }
def fnClearsAllRow : OpenClaim := { program := "ytbeoiejnogdkpaa", sum := "0a2794bc2d3d3ae4de8ec8637b0e440dc778cf9a14a7239ff3a78f6c731a6bcd", func := "loop.example/g00463/laws.FnClearsAll", spec := "fnClearsAll", unfollowed := true, recurses := true, plainKeys := false, apart := false }
def FnClearsAllSaid : Prop := fnClearsAllRow.holds Try.pinned (OpenSpec.ofChange fnClearsAllSpec)

/-- ITS FALSE NEIGHBOUR: 'it returns false'. Refute it at one input. -/
def fnClearsAllWrong : ChangeSpec := { name := "fnClearsAll", fn := fun _ => fun
  | [d] => { results := [.lit (.bool false)], args := [d] }
  | _ => none }
def FnClearsAllWrongFalsely : Prop := fnClearsAllRow.holds Try.pinned (OpenSpec.ofChange fnClearsAllWrong)

/-- 'laws.FnClearsTold': WHATEVER THE INPUT: true; the input reads as it did. -/
def fnClearsToldSpec : ChangeSpec := { name := "fnClearsTold", fn := fun _ => fun
  | [d] => { results := [.lit (.bool true)], args := [d] }
  | _ => none }
def fnClearsToldRow : OpenClaim := { program := "ytbeoiejnogdkpaa", sum := "0a2794bc2d3d3ae4de8ec8637b0e440dc778cf9a14a7239ff3a78f6c731a6bcd", func := "loop.example/g00463/laws.FnClearsTold", spec := "fnClearsTold", unfollowed := true, recurses := true, plainKeys := false, apart := false }
def FnClearsToldSaid : Prop := fnClearsToldRow.holds Try.pinned (OpenSpec.ofChange fnClearsToldSpec)

/-- ITS FALSE NEIGHBOUR: 'it returns false'. Refute it at one input. -/
def fnClearsToldWrong : ChangeSpec := { name := "fnClearsTold", fn := fun _ => fun
  | [d] => { results := [.lit (.bool false)], args := [d] }
  | _ => none }
def FnClearsToldWrongFalsely : Prop := fnClearsToldRow.holds Try.pinned (OpenSpec.ofChange fnClearsToldWrong)

/- THE SECOND FORM. 'bulk': how many values and letters a reading holds, each counted each time it is reached (what is shared counts as often as it is met; a slice's spare places count too). A statement '..UptoSaid' is the law's where the arguments, and the package variables that the reading takes, are together of bulk at most 1048576: NARROWER than '..Said'. Prove '..Said' where nothing that the law and all that it calls make is longer than what came in: it says more and counts as full. Else prove '..UptoSaid'. A law counts once. -/
mutual
def uptoBulk {H : Type} : DataW H → Nat
  | .lit (.string bytes) => bytes.length + 1
  | .lit _ => 1
  | .nil => 1
  | .ptr d => uptoBulk d + 1
  | .slice elems spare => uptoBulkAll elems + uptoBulkAll spare + 1
  | .agg parts => uptoBulkAll parts + 1
  | .iface _ d => uptoBulk d + 1
  | .map entries => uptoBulkEntries entries + 1
  | .held _ => 1
def uptoBulkAll {H : Type} : List (DataW H) → Nat
  | [] => 0
  | d :: r => uptoBulk d + uptoBulkAll r
def uptoBulkEntries {H : Type} : List (Lit × DataW H) → Nat
  | [] => 0
  | x :: r => uptoBulkEntry x + uptoBulkEntries r
def uptoBulkEntry {H : Type} : Lit × DataW H → Nat
  | (.string bytes, d) => bytes.length + uptoBulk d + 1
  | (_, d) => uptoBulk d + 1
 end
def uptoSmall : (H : Type) → List (DataW H) → Bool := fun _ ds => decide (uptoBulkAll ds ≤ 1048576)
def OpenSpec.upto (s : _root_.Go.ChangeSpec) : _root_.Go.OpenSpec := { _root_.Go.OpenSpec.ofChange s with cond := some uptoSmall }

/-- 'laws.FnClears', WHERE WHAT IT READS IS OF BULK AT MOST 1048576: true; the input reads as it did. -/
def fnClearsUptoRow : OpenClaim := { program := "ytbeoiejnogdkpaa", sum := "0a2794bc2d3d3ae4de8ec8637b0e440dc778cf9a14a7239ff3a78f6c731a6bcd", func := "loop.example/g00463/laws.FnClears", spec := "fnClears", unfollowed := true, recurses := true, plainKeys := false, apart := false, narrowed := true }
def FnClearsUptoSaid : Prop := fnClearsUptoRow.holds Try.pinned (OpenSpec.upto fnClearsSpec)

/-- 'laws.FnClearsAll', WHERE WHAT IT READS IS OF BULK AT MOST 1048576: true; the input reads as it did. -/
def fnClearsAllUptoRow : OpenClaim := { program := "ytbeoiejnogdkpaa", sum := "0a2794bc2d3d3ae4de8ec8637b0e440dc778cf9a14a7239ff3a78f6c731a6bcd", func := "loop.example/g00463/laws.FnClearsAll", spec := "fnClearsAll", unfollowed := true, recurses := true, plainKeys := false, apart := false, narrowed := true }
def FnClearsAllUptoSaid : Prop := fnClearsAllUptoRow.holds Try.pinned (OpenSpec.upto fnClearsAllSpec)

/-- 'laws.FnClearsTold', WHERE WHAT IT READS IS OF BULK AT MOST 1048576: true; the input reads as it did. -/
def fnClearsToldUptoRow : OpenClaim := { program := "ytbeoiejnogdkpaa", sum := "0a2794bc2d3d3ae4de8ec8637b0e440dc778cf9a14a7239ff3a78f6c731a6bcd", func := "loop.example/g00463/laws.FnClearsTold", spec := "fnClearsTold", unfollowed := true, recurses := true, plainKeys := false, apart := false, narrowed := true }
def FnClearsToldUptoSaid : Prop := fnClearsToldUptoRow.holds Try.pinned (OpenSpec.upto fnClearsToldSpec)

end Rows
end Go.Proofs.Ytbeoiejnogdkpaa
