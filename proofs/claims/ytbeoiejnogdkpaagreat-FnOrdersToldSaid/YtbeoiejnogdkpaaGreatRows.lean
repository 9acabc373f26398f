/-
  No cell of these rows narrows 'for every input' (looked for: loops, veiled, ifaces, maps, wideKeys, modest, calm, conditions, laid).
  DERIVED. THE GIVEN ROWS OF THIS SEAT. 8 by the template 'for every input the law returns true; each argument reads behind the call as it read before'; 0 by the template 'total and deterministic' (their statements: YtbeoiejnogdkpaaGreatTotals.lean).
  GIVEN WITH THE SEED: the statements are not yours to turn. If you find one false, say at which input.
  Laid BY PROGRAM, IN A SANDBOX (cutbox-rows.mjs): the forced cells as the released guide's own fill.sh prints them over the translation 3a8727fbad98031f… (all of the seat's roots in one cut). By AI agents, Wed Nov 11 2026. No macro, syntax, notation, axiom, sorry.
-/
import Derived.Test.YtbeoiejnogdkpaaGreatChecked
import GoSem.Claim
import GoSem.ClaimJoined
import GoSem.ClaimMapViews
import Derived.JoinedTies
import Derived.KernelRfl
namespace Go.Proofs.YtbeoiejnogdkpaaGreat
/- THE CELL 'sum', in the pinned program and in every row, IS THE sha256 OF THE DUMP (.gsa) THAT YtbeoiejnogdkpaaGreatProg.lean LOADS. Nothing in Lean hashes anything: it is a label: what it is worth is what the hold of that sum in a sandbox is worth. -/
noncomputable def Tryz.pinned : Pinned := { name := "ytbeoiejnogdkpaagreat", sum := "3a8727fbad98031f0290186b5db67676721dd52eebb6dda6c544de9d123229c4", checked := Tryz.checked }
namespace Rows
def none {H : Type} : Left H := { results := [], args := [] }

/-- 'laws.FnExactByOrder': WHATEVER THE INPUT: true; the input reads as it did. -/
def fnExactByOrderSpec : ChangeSpec := { name := "fnExactByOrder", fn := fun _ => fun
  | [d] => { results := [.lit (.bool true)], args := [d] }
  | _ => none }
def fnExactByOrderRow : OpenClaim := { program := "ytbeoiejnogdkpaagreat", sum := "3a8727fbad98031f0290186b5db67676721dd52eebb6dda6c544de9d123229c4", func := "loop.example/g00463/laws.FnExactByOrder", spec := "fnExactByOrder", unfollowed := true, recurses := true, plainKeys := false, apart := false }
def FnExactByOrderSaid : Prop := fnExactByOrderRow.holds Tryz.pinned (OpenSpec.ofChange fnExactByOrderSpec)

/-- ITS FALSE NEIGHBOUR: 'it returns false'. Refute it at one input. -/
def fnExactByOrderWrong : ChangeSpec := { name := "fnExactByOrder", fn := fun _ => fun
  | [d] => { results := [.lit (.bool false)], args := [d] }
  | _ => none }
def FnExactByOrderWrongFalsely : Prop := fnExactByOrderRow.holds Tryz.pinned (OpenSpec.ofChange fnExactByOrderWrong)

/-- 'laws.FnExactChangedBy': WHATEVER THE INPUT: true; the input reads as it did. -/
def fnExactChangedBySpec : ChangeSpec := { name := "fnExactChangedBy", fn := fun _ => fun
  | [d1, d2] => { results := [.lit (.bool true)], args := [d1, d2] }
  | _ => none }
def fnExactChangedByRow : OpenClaim := { program := "ytbeoiejnogdkpaagreat", sum := "3a8727fbad98031f0290186b5db67676721dd52eebb6dda6c544de9d123229c4", func := "loop.example/g00463/laws.FnExactChangedBy", spec := "fnExactChangedBy", unfollowed := true, recurses := true, plainKeys := false, apart := false }
def FnExactChangedBySaid : Prop := fnExactChangedByRow.holds Tryz.pinned (OpenSpec.ofChange fnExactChangedBySpec)

/-- ITS FALSE NEIGHBOUR: 'it returns false'. Refute it at one input. -/
def fnExactChangedByWrong : ChangeSpec := { name := "fnExactChangedBy", fn := fun _ => fun
  | [d1, d2] => { results := [.lit (.bool false)], args := [d1, d2] }
  | _ => none }
def FnExactChangedByWrongFalsely : Prop := fnExactChangedByRow.holds Tryz.pinned (OpenSpec.ofChange fnExactChangedByWrong)

/-- 'laws.FnExactBackEdits': WHATEVER THE INPUT: true; the input reads as it did. -/
def fnExactBackEditsSpec : ChangeSpec := { name := "fnExactBackEdits", fn := fun _ => fun
  | [d1, d2] => { results := [.lit (.bool true)], args := [d1, d2] }
  | _ => none }
def fnExactBackEditsRow : OpenClaim := { program := "ytbeoiejnogdkpaagreat", sum := "3a8727fbad98031f0290186b5db67676721dd52eebb6dda6c544de9d123229c4", func := "loop.example/g00463/laws.FnExactBackEdits", spec := "fnExactBackEdits", unfollowed := true, recurses := true, plainKeys := false, apart := false }
def FnExactBackEditsSaid : Prop := fnExactBackEditsRow.holds Tryz.pinned (OpenSpec.ofChange fnExactBackEditsSpec)

/-- ITS FALSE NEIGHBOUR: 'it returns false'. Refute it at one input. -/
def fnExactBackEditsWrong : ChangeSpec := { name := "fnExactBackEdits", fn := fun _ => fun
  | [d1, d2] => { results := [.lit (.bool false)], args := [d1, d2] }
  | _ => none }
def FnExactBackEditsWrongFalsely : Prop := fnExactBackEditsRow.holds Tryz.pinned (OpenSpec.ofChange fnExactBackEditsWrong)

/-- 'laws.FnOrdersActs': WHATEVER THE INPUT: true; the input reads as it did. -/
def fnOrdersActsSpec : ChangeSpec := { name := "fnOrdersActs", fn := fun _ => fun
  | [d] => { results := [.lit (.bool true)], args := [d] }
  | _ => none }
def fnOrdersActsRow : OpenClaim := { program := "ytbeoiejnogdkpaagreat", sum := "3a8727fbad98031f0290186b5db67676721dd52eebb6dda6c544de9d123229c4", func := "loop.example/g00463/laws.FnOrdersActs", spec := "fnOrdersActs", unfollowed := true, recurses := true, plainKeys := false, apart := false }
def FnOrdersActsSaid : Prop := fnOrdersActsRow.holds Tryz.pinned (OpenSpec.ofChange fnOrdersActsSpec)

/-- ITS FALSE NEIGHBOUR: 'it returns false'. Refute it at one input. -/
def fnOrdersActsWrong : ChangeSpec := { name := "fnOrdersActs", fn := fun _ => fun
  | [d] => { results := [.lit (.bool false)], args := [d] }
  | _ => none }
def FnOrdersActsWrongFalsely : Prop := fnOrdersActsRow.holds Tryz.pinned (OpenSpec.ofChange fnOrdersActsWrong)

/-- 'laws.FnOrdersTold': WHATEVER THE INPUT: true; the input reads as it did. -/
def fnOrdersToldSpec : ChangeSpec := { name := "fnOrdersTold", fn := fun _ => fun
  | [d] => { results := [.lit (.bool true)], args := [d] }
  | _ => none }
def fnOrdersToldRow : OpenClaim := { program := "ytbeoiejnogdkpaagreat", sum := "3a8727fbad98031f0290186b5db67676721dd52eebb6dda6c544de9d123229c4", func := "loop.example/g00463/laws.FnOrdersTold", spec := "fnOrdersTold", unfollowed := true, recurses := true, plainKeys := false, apart := false }
def FnOrdersToldSaid : Prop := fnOrdersToldRow.holds Tryz.pinned (OpenSpec.ofChange fnOrdersToldSpec)

/-- ITS FALSE NEIGHBOUR: 'it returns false'. Refute it at one input. -/
def fnOrdersToldWrong : ChangeSpec := { name := "fnOrdersTold", fn := fun _ => fun
  | [d] => { results := [.lit (.bool false)], args := [d] }
  | _ => none }
def FnOrdersToldWrongFalsely : Prop := fnOrdersToldRow.holds Tryz.pinned (OpenSpec.ofChange fnOrdersToldWrong)

/-- 'laws.FnWhose': WHATEVER THE INPUT: true; the input reads as it did. -/
def fnWhoseSpec : ChangeSpec := { name := "fnWhose", fn := fun _ => fun
  | [d] => { results := [.lit (.bool true)], args := [d] }
  | _ => none }
def fnWhoseRow : OpenClaim := { program := "ytbeoiejnogdkpaagreat", sum := "3a8727fbad98031f0290186b5db67676721dd52eebb6dda6c544de9d123229c4", func := "loop.example/g00463/laws.FnWhose", spec := "fnWhose", unfollowed := true, recurses := true, plainKeys := false, apart := false }
def FnWhoseSaid : Prop := fnWhoseRow.holds Tryz.pinned (OpenSpec.ofChange fnWhoseSpec)

/-- ITS FALSE NEIGHBOUR: 'it returns false'. Refute it at one input. -/
def fnWhoseWrong : ChangeSpec := { name := "fnWhose", fn := fun _ => fun
  | [d] => { results := [.lit (.bool false)], args := [d] }
  | _ => none }
def FnWhoseWrongFalsely : Prop := fnWhoseRow.holds Tryz.pinned (OpenSpec.ofChange fnWhoseWrong)

/-- 'laws.FnWhoseTold': WHATEVER THE INPUT: true; the input reads as it did. -/
def fnWhoseToldSpec : ChangeSpec := { name := "fnWhoseTold", fn := fun _ => fun
  | [d] => { results := [.lit (.bool true)], args := [d] }
  | _ => none }
def fnWhoseToldRow : OpenClaim := { program := "ytbeoiejnogdkpaagreat", sum := "3a8727fbad98031f0290186b5db67676721dd52eebb6dda6c544de9d123229c4", func := "loop.example/g00463/laws.FnWhoseTold", spec := "fnWhoseTold", unfollowed := true, recurses := true, plainKeys := false, apart := false }
def FnWhoseToldSaid : Prop := fnWhoseToldRow.holds Tryz.pinned (OpenSpec.ofChange fnWhoseToldSpec)

/-- ITS FALSE NEIGHBOUR: 'it returns false'. Refute it at one input. -/
def fnWhoseToldWrong : ChangeSpec := { name := "fnWhoseTold", fn := fun _ => fun
  | [d] => { results := [.lit (.bool false)], args := [d] }
  | _ => none }
def FnWhoseToldWrongFalsely : Prop := fnWhoseToldRow.holds Tryz.pinned (OpenSpec.ofChange fnWhoseToldWrong)

/-- 'laws.FnAgesTold': WHATEVER THE INPUT: true; the input reads as it did. -/
def fnAgesToldSpec : ChangeSpec := { name := "fnAgesTold", fn := fun _ => fun
  | [d] => { results := [.lit (.bool true)], args := [d] }
  | _ => none }
def fnAgesToldRow : OpenClaim := { program := "ytbeoiejnogdkpaagreat", sum := "3a8727fbad98031f0290186b5db67676721dd52eebb6dda6c544de9d123229c4", func := "loop.example/g00463/laws.FnAgesTold", spec := "fnAgesTold", unfollowed := true, recurses := true, plainKeys := false, apart := false }
def FnAgesToldSaid : Prop := fnAgesToldRow.holds Tryz.pinned (OpenSpec.ofChange fnAgesToldSpec)

/-- ITS FALSE NEIGHBOUR: 'it returns false'. Refute it at one input. -/
def fnAgesToldWrong : ChangeSpec := { name := "fnAgesTold", fn := fun _ => fun
  | [d] => { results := [.lit (.bool false)], args := [d] }
  | _ => none }
def FnAgesToldWrongFalsely : Prop := fnAgesToldRow.holds Tryz.pinned (OpenSpec.ofChange fnAgesToldWrong)

/- THE SECOND FORM. 'bulk': how many values and letters a reading holds, each counted each time it is reached (what is shared counts as often as it is met; a slice's spare places count too). A statement '..UptoSaid' is the law's where the arguments, and the package variables that the reading takes, are together of bulk at most 1048576: NARROWER than '..Said'. Prove '..Said' where nothing that the law and all that it calls make is longer than what came in: it says more and counts as full. Else prove '..UptoSaid'. A law counts once. -/
mutual
def uptoBulk {H : Type} : DataW H → Nat
  | .lit (.string bytes) => bytes.length + 1
  | .lit _ => 1
  | .nil => 1
  | .ptr d => uptoBulk d + 1
  | .slice elems spare => uptoBulkAll elems + uptoBulkAll spare + 1
  | .agg parts => uptoBulkAll parts + 1
  | .iface _ d => uptoBulk d + 1
  | .map entries => uptoBulkEntries entries + 1
  | .held _ => 1
def uptoBulkAll {H : Type} : List (DataW H) → Nat
  | [] => 0
  | d :: r => uptoBulk d + uptoBulkAll r
def uptoBulkEntries {H : Type} : List (Lit × DataW H) → Nat
  | [] => 0
  | x :: r => uptoBulkEntry x + uptoBulkEntries r
def uptoBulkEntry {H : Type} : Lit × DataW H → Nat
  | (.string bytes, d) => bytes.length + uptoBulk d + 1
  | (_, d) => uptoBulk d + 1
 end
def uptoSmall : (H : Type) → List (DataW H) → Bool := fun _ ds => decide (uptoBulkAll ds ≤ 1048576)
def OpenSpec.upto (s : _root_.Go.ChangeSpec) : _root_.Go.OpenSpec := { _root_.Go.OpenSpec.ofChange s with cond := some uptoSmall }

/-- 'laws.FnExactByOrder', WHERE WHAT IT READS IS OF BULK AT MOST 1048576: true; the input reads as it did. -/
def fnExactByOrderUptoRow : OpenClaim := { program := "ytbeoiejnogdkpaagreat", sum := "3a8727fbad98031f0290186b5db67676721dd52eebb6dda6c544de9d123229c4", func := "loop.example/g00463/laws.FnExactByOrder", spec := "fnExactByOrder", unfollowed := true, recurses := true, plainKeys := false, apart := false, narrowed := true }
def FnExactByOrderUptoSaid : Prop := fnExactByOrderUptoRow.holds Tryz.pinned (OpenSpec.upto fnExactByOrderSpec)

/-- 'laws.FnExactChangedBy', WHERE WHAT IT READS IS OF BULK AT MOST 1048576: true; the input reads as it did. -/
def fnExactChangedByUptoRow : OpenClaim := { program := "ytbeoiejnogdkpaagreat", sum := "3a8727fbad98031f0290186b5db67676721dd52eebb6dda6c544de9d123229c4", func := "loop.example/g00463/laws.FnExactChangedBy", spec := "fnExactChangedBy", unfollowed := true, recurses := true, plainKeys := false, apart := false, narrowed := true }
def FnExactChangedByUptoSaid : Prop := fnExactChangedByUptoRow.holds Tryz.pinned (OpenSpec.upto fnExactChangedBySpec)

/-- 'laws.FnExactBackEdits', WHERE WHAT IT READS IS OF BULK AT MOST 1048576: true; the input reads as it did. -/
def fnExactBackEditsUptoRow : OpenClaim := { program := "ytbeoiejnogdkpaagreat", sum := "3a8727fbad98031f0290186b5db67676721dd52eebb6dda6c544de9d123229c4", func := "loop.example/g00463/laws.FnExactBackEdits", spec := "fnExactBackEdits", unfollowed := true, recurses := true, plainKeys := false, apart := false, narrowed := true }
def FnExactBackEditsUptoSaid : Prop := fnExactBackEditsUptoRow.holds Tryz.pinned (OpenSpec.upto fnExactBackEditsSpec)

/-- 'laws.FnOrdersActs', WHERE WHAT IT READS IS OF BULK AT MOST 1048576: true; the input reads as it did. -/
def fnOrdersActsUptoRow : OpenClaim := { program := "ytbeoiejnogdkpaagreat", sum := "3a8727fbad98031f0290186b5db67676721dd52eebb6dda6c544de9d123229c4", func := "loop.example/g00463/laws.FnOrdersActs", spec := "fnOrdersActs", unfollowed := true, recurses := true, plainKeys := false, apart := false, narrowed := true }
def FnOrdersActsUptoSaid : Prop := fnOrdersActsUptoRow.holds Tryz.pinned (OpenSpec.upto fnOrdersActsSpec)

/-- 'laws.FnOrdersTold', WHERE WHAT IT READS IS OF BULK AT MOST 1048576: true; the input reads as it did. -/
def fnOrdersToldUptoRow : OpenClaim := { program := "ytbeoiejnogdkpaagreat", sum := "3a8727fbad98031f0290186b5db67676721dd52eebb6dda6c544de9d123229c4", func := "loop.example/g00463/laws.FnOrdersTold", spec := "fnOrdersTold", unfollowed := true, recurses := true, plainKeys := false, apart := false, narrowed := true }
def FnOrdersToldUptoSaid : Prop := fnOrdersToldUptoRow.holds Tryz.pinned (OpenSpec.upto fnOrdersToldSpec)

/-- 'laws.FnWhose', WHERE WHAT IT READS IS OF BULK AT MOST 1048576: true; the input reads as it did. -/
def fnWhoseUptoRow : OpenClaim := { program := "ytbeoiejnogdkpaagreat", sum := "3a8727fbad98031f0290186b5db67676721dd52eebb6dda6c544de9d123229c4", func := "loop.example/g00463/laws.FnWhose", spec := "fnWhose", unfollowed := true, recurses := true, plainKeys := false, apart := false, narrowed := true }
def FnWhoseUptoSaid : Prop := fnWhoseUptoRow.holds Tryz.pinned (OpenSpec.upto fnWhoseSpec)

/-- 'laws.FnWhoseTold', WHERE WHAT IT READS IS OF BULK AT MOST 1048576: true; the input reads as it did. -/
def fnWhoseToldUptoRow : OpenClaim := { program := "ytbeoiejnogdkpaagreat", sum := "3a8727fbad98031f0290186b5db67676721dd52eebb6dda6c544de9d123229c4", func := "loop.example/g00463/laws.FnWhoseTold", spec := "fnWhoseTold", unfollowed := true, recurses := true, plainKeys := false, apart := false, narrowed := true }
def FnWhoseToldUptoSaid : Prop := fnWhoseToldUptoRow.holds Tryz.pinned (OpenSpec.upto fnWhoseToldSpec)

/-- 'laws.FnAgesTold', WHERE WHAT IT READS IS OF BULK AT MOST 1048576: true; the input reads as it did. -/
def fnAgesToldUptoRow : OpenClaim := { program := "ytbeoiejnogdkpaagreat", sum := "3a8727fbad98031f0290186b5db67676721dd52eebb6dda6c544de9d123229c4", func := "loop.example/g00463/laws.FnAgesTold", spec := "fnAgesTold", unfollowed := true, recurses := true, plainKeys := false, apart := false, narrowed := true }
def FnAgesToldUptoSaid : Prop := fnAgesToldUptoRow.holds Tryz.pinned (OpenSpec.upto fnAgesToldSpec)

end Rows
end Go.Proofs.YtbeoiejnogdkpaaGreat
