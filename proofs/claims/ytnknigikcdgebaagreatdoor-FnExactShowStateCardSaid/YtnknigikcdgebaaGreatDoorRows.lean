/-
  NARROWER THAN 'FOR EVERY INPUT', by the rows' own cells (each row's printed sentence says how): FnExactTurned: laid · FnTurns: laid · FnTurnsBack: laid · FnTurnsTold: laid · FnBacks: laid · FnBacksReading: laid · FnBacksTold: laid · FnExactReadingText: laid · FnExactShowWatch: laid · FnExactShowState: laid · FnExactShowReplica: laid.
  DERIVED. THE GIVEN ROWS OF THIS SEAT. 11 by the template 'for every input the law returns true; each argument reads behind the call as it read before'; 0 by the template 'total and deterministic' (their statements: YtnknigikcdgebaaGreatDoorTotals.lean).
  GIVEN WITH THE SEED: the statements are not yours to turn. If you find one false, say at which input.
  Laid BY PROGRAM, IN A SANDBOX (cutbox-rows.mjs): the forced cells as the released guide's own fill.sh prints them over the translation 4ee994cdb0ee2ca2… (all of the seat's roots in one cut). By AI agents, Wed Nov 11 2026. No macro, syntax, notation, axiom, sorry.
-/
import Derived.Test.YtnknigikcdgebaaGreatDoorChecked
import GoSem.Claim
import GoSem.ClaimJoined
import GoSem.ClaimMapViews
import Derived.JoinedTies
import Derived.KernelRfl
namespace Go.Proofs.YtnknigikcdgebaaGreatDoor
/- THE CELL 'sum', in the pinned program and in every row, IS THE sha256 OF THE DUMP (.gsa) THAT YtnknigikcdgebaaGreatDoorProg.lean LOADS. Nothing in Lean hashes anything: it is a label: what it is worth is what the hold of that sum in a sandbox is worth. -/
noncomputable def Tryz.pinned : Pinned := { name := "ytnknigikcdgebaagreatdoor", sum := "4ee994cdb0ee2ca27decb4d7d6f62928fdbc78a2ec58e4407f41539284ac1d71", checked := Tryz.checked }
namespace Rows
def none {H : Type} : Left H := { results := [], args := [] }

/- WHAT THE LISTED PACKAGE-LEVEL VARIABLES READ AS WHEN THE CALL BEGINS. Each datum BY PROGRAM (the guide's laid-datum.mjs) off the statement by which the dump's own 'gosem.cut.vars' lays the variable. In a bare row this is a premise. The card (YtnknigikcdgebaaGreatDoorCards.lean) ties it to the program's text. -/
def laid_math_bits_deBruijn32tab {H : Type} : DataW H := .agg [.lit (.int .u8 0), .lit (.int .u8 1), .lit (.int .u8 28), .lit (.int .u8 2), .lit (.int .u8 29), .lit (.int .u8 14), .lit (.int .u8 24), .lit (.int .u8 3), .lit (.int .u8 30), .lit (.int .u8 22), .lit (.int .u8 20), .lit (.int .u8 15), .lit (.int .u8 25), .lit (.int .u8 17), .lit (.int .u8 4), .lit (.int .u8 8), .lit (.int .u8 31), .lit (.int .u8 27), .lit (.int .u8 13), .lit (.int .u8 23), .lit (.int .u8 21), .lit (.int .u8 19), .lit (.int .u8 16), .lit (.int .u8 7), .lit (.int .u8 26), .lit (.int .u8 12), .lit (.int .u8 18), .lit (.int .u8 6), .lit (.int .u8 11), .lit (.int .u8 5), .lit (.int .u8 10), .lit (.int .u8 9)]
def laid_math_bits_deBruijn64tab {H : Type} : DataW H := .agg [.lit (.int .u8 0), .lit (.int .u8 1), .lit (.int .u8 56), .lit (.int .u8 2), .lit (.int .u8 57), .lit (.int .u8 49), .lit (.int .u8 28), .lit (.int .u8 3), .lit (.int .u8 61), .lit (.int .u8 58), .lit (.int .u8 42), .lit (.int .u8 50), .lit (.int .u8 38), .lit (.int .u8 29), .lit (.int .u8 17), .lit (.int .u8 4), .lit (.int .u8 62), .lit (.int .u8 47), .lit (.int .u8 59), .lit (.int .u8 36), .lit (.int .u8 45), .lit (.int .u8 43), .lit (.int .u8 51), .lit (.int .u8 22), .lit (.int .u8 53), .lit (.int .u8 39), .lit (.int .u8 33), .lit (.int .u8 30), .lit (.int .u8 24), .lit (.int .u8 18), .lit (.int .u8 12), .lit (.int .u8 5), .lit (.int .u8 63), .lit (.int .u8 55), .lit (.int .u8 48), .lit (.int .u8 27), .lit (.int .u8 60), .lit (.int .u8 41), .lit (.int .u8 37), .lit (.int .u8 16), .lit (.int .u8 46), .lit (.int .u8 35), .lit (.int .u8 44), .lit (.int .u8 21), .lit (.int .u8 52), .lit (.int .u8 32), .lit (.int .u8 23), .lit (.int .u8 11), .lit (.int .u8 54), .lit (.int .u8 26), .lit (.int .u8 40), .lit (.int .u8 15), .lit (.int .u8 34), .lit (.int .u8 20), .lit (.int .u8 31), .lit (.int .u8 10), .lit (.int .u8 25), .lit (.int .u8 14), .lit (.int .u8 19), .lit (.int .u8 9), .lit (.int .u8 13), .lit (.int .u8 8), .lit (.int .u8 7), .lit (.int .u8 6)]
def laid_internal_strconv_uint64pow10 {H : Type} : DataW H := .agg [.lit (.int .u64 1), .lit (.int .u64 10), .lit (.int .u64 100), .lit (.int .u64 1000), .lit (.int .u64 10000), .lit (.int .u64 100000), .lit (.int .u64 1000000), .lit (.int .u64 10000000), .lit (.int .u64 100000000), .lit (.int .u64 1000000000), .lit (.int .u64 10000000000), .lit (.int .u64 100000000000), .lit (.int .u64 1000000000000), .lit (.int .u64 10000000000000), .lit (.int .u64 100000000000000), .lit (.int .u64 1000000000000000), .lit (.int .u64 10000000000000000), .lit (.int .u64 100000000000000000), .lit (.int .u64 1000000000000000000), .lit (.int .u64 10000000000000000000)]

/-- 'laws.FnExactTurned': WHATEVER THE INPUT: true; the input reads as it did. -/
def fnExactTurnedSpec : ChangeSpec := { name := "fnExactTurned", fn := fun _ => fun
  | [d1, d2, d3] => { results := [.lit (.bool true)], args := [d1, d2, d3] }
  | _ => none }
def fnExactTurnedRow : OpenClaim := { program := "ytnknigikcdgebaagreatdoor", sum := "4ee994cdb0ee2ca27decb4d7d6f62928fdbc78a2ec58e4407f41539284ac1d71", func := "loop.example/g00463/laws.FnExactTurned", spec := "fnExactTurned", inPlace := ["internal/abi.NoEscape", "internal/bytealg.MakeNoZero"], unfollowed := true, recurses := true, named := ["internal/strconv.uint64pow10", "math/bits.deBruijn32tab", "math/bits.deBruijn64tab"], plainKeys := false, apart := false, laid := [("math/bits.deBruijn32tab", laid_math_bits_deBruijn32tab), ("math/bits.deBruijn64tab", laid_math_bits_deBruijn64tab), ("internal/strconv.uint64pow10", laid_internal_strconv_uint64pow10)] }
def FnExactTurnedSaid : Prop := fnExactTurnedRow.holds Tryz.pinned (OpenSpec.ofChange fnExactTurnedSpec)

/-- ITS FALSE NEIGHBOUR: 'it returns false'. Refute it at one input. -/
def fnExactTurnedWrong : ChangeSpec := { name := "fnExactTurned", fn := fun _ => fun
  | [d1, d2, d3] => { results := [.lit (.bool false)], args := [d1, d2, d3] }
  | _ => none }
def FnExactTurnedWrongFalsely : Prop := fnExactTurnedRow.holds Tryz.pinned (OpenSpec.ofChange fnExactTurnedWrong)

/-- 'laws.FnTurns': WHATEVER THE INPUT: true; the input reads as it did. -/
def fnTurnsSpec : ChangeSpec := { name := "fnTurns", fn := fun _ => fun
  | [d] => { results := [.lit (.bool true)], args := [d] }
  | _ => none }
def fnTurnsRow : OpenClaim := { program := "ytnknigikcdgebaagreatdoor", sum := "4ee994cdb0ee2ca27decb4d7d6f62928fdbc78a2ec58e4407f41539284ac1d71", func := "loop.example/g00463/laws.FnTurns", spec := "fnTurns", inPlace := ["internal/abi.NoEscape", "internal/bytealg.MakeNoZero"], unfollowed := true, recurses := true, named := ["internal/strconv.uint64pow10", "math/bits.deBruijn32tab", "math/bits.deBruijn64tab"], plainKeys := false, apart := false, laid := [("math/bits.deBruijn32tab", laid_math_bits_deBruijn32tab), ("math/bits.deBruijn64tab", laid_math_bits_deBruijn64tab), ("internal/strconv.uint64pow10", laid_internal_strconv_uint64pow10)] }
def FnTurnsSaid : Prop := fnTurnsRow.holds Tryz.pinned (OpenSpec.ofChange fnTurnsSpec)

/-- ITS FALSE NEIGHBOUR: 'it returns false'. Refute it at one input. -/
def fnTurnsWrong : ChangeSpec := { name := "fnTurns", fn := fun _ => fun
  | [d] => { results := [.lit (.bool false)], args := [d] }
  | _ => none }
def FnTurnsWrongFalsely : Prop := fnTurnsRow.holds Tryz.pinned (OpenSpec.ofChange fnTurnsWrong)

/-- 'laws.FnTurnsBack': WHATEVER THE INPUT: true; the input reads as it did. -/
def fnTurnsBackSpec : ChangeSpec := { name := "fnTurnsBack", fn := fun _ => fun
  | [d] => { results := [.lit (.bool true)], args := [d] }
  | _ => none }
def fnTurnsBackRow : OpenClaim := { program := "ytnknigikcdgebaagreatdoor", sum := "4ee994cdb0ee2ca27decb4d7d6f62928fdbc78a2ec58e4407f41539284ac1d71", func := "loop.example/g00463/laws.FnTurnsBack", spec := "fnTurnsBack", inPlace := ["internal/abi.NoEscape", "internal/bytealg.MakeNoZero"], unfollowed := true, recurses := true, named := ["internal/strconv.uint64pow10", "math/bits.deBruijn32tab", "math/bits.deBruijn64tab"], plainKeys := false, apart := false, laid := [("math/bits.deBruijn32tab", laid_math_bits_deBruijn32tab), ("math/bits.deBruijn64tab", laid_math_bits_deBruijn64tab), ("internal/strconv.uint64pow10", laid_internal_strconv_uint64pow10)] }
def FnTurnsBackSaid : Prop := fnTurnsBackRow.holds Tryz.pinned (OpenSpec.ofChange fnTurnsBackSpec)

/-- ITS FALSE NEIGHBOUR: 'it returns false'. Refute it at one input. -/
def fnTurnsBackWrong : ChangeSpec := { name := "fnTurnsBack", fn := fun _ => fun
  | [d] => { results := [.lit (.bool false)], args := [d] }
  | _ => none }
def FnTurnsBackWrongFalsely : Prop := fnTurnsBackRow.holds Tryz.pinned (OpenSpec.ofChange fnTurnsBackWrong)

/-- 'laws.FnTurnsTold': WHATEVER THE INPUT: true; the input reads as it did. -/
def fnTurnsToldSpec : ChangeSpec := { name := "fnTurnsTold", fn := fun _ => fun
  | [d] => { results := [.lit (.bool true)], args := [d] }
  | _ => none }
def fnTurnsToldRow : OpenClaim := { program := "ytnknigikcdgebaagreatdoor", sum := "4ee994cdb0ee2ca27decb4d7d6f62928fdbc78a2ec58e4407f41539284ac1d71", func := "loop.example/g00463/laws.FnTurnsTold", spec := "fnTurnsTold", inPlace := ["internal/abi.NoEscape", "internal/bytealg.MakeNoZero"], unfollowed := true, recurses := true, named := ["internal/strconv.uint64pow10", "math/bits.deBruijn32tab", "math/bits.deBruijn64tab"], plainKeys := false, apart := false, laid := [("math/bits.deBruijn32tab", laid_math_bits_deBruijn32tab), ("math/bits.deBruijn64tab", laid_math_bits_deBruijn64tab), ("internal/strconv.uint64pow10", laid_internal_strconv_uint64pow10)] }
def FnTurnsToldSaid : Prop := fnTurnsToldRow.holds Tryz.pinned (OpenSpec.ofChange fnTurnsToldSpec)

/-- ITS FALSE NEIGHBOUR: 'it returns false'. Refute it at one input. -/
def fnTurnsToldWrong : ChangeSpec := { name := "fnTurnsTold", fn := fun _ => fun
  | [d] => { results := [.lit (.bool false)], args := [d] }
  | _ => none }
def FnTurnsToldWrongFalsely : Prop := fnTurnsToldRow.holds Tryz.pinned (OpenSpec.ofChange fnTurnsToldWrong)

/-- 'laws.FnBacks': WHATEVER THE INPUT: true; the input reads as it did. -/
def fnBacksSpec : ChangeSpec := { name := "fnBacks", fn := fun _ => fun
  | [d] => { results := [.lit (.bool true)], args := [d] }
  | _ => none }
def fnBacksRow : OpenClaim := { program := "ytnknigikcdgebaagreatdoor", sum := "4ee994cdb0ee2ca27decb4d7d6f62928fdbc78a2ec58e4407f41539284ac1d71", func := "loop.example/g00463/laws.FnBacks", spec := "fnBacks", inPlace := ["internal/abi.NoEscape", "internal/bytealg.MakeNoZero"], unfollowed := true, recurses := true, named := ["internal/strconv.uint64pow10", "math/bits.deBruijn32tab", "math/bits.deBruijn64tab"], plainKeys := false, apart := false, laid := [("math/bits.deBruijn32tab", laid_math_bits_deBruijn32tab), ("math/bits.deBruijn64tab", laid_math_bits_deBruijn64tab), ("internal/strconv.uint64pow10", laid_internal_strconv_uint64pow10)] }
def FnBacksSaid : Prop := fnBacksRow.holds Tryz.pinned (OpenSpec.ofChange fnBacksSpec)

/-- ITS FALSE NEIGHBOUR: 'it returns false'. Refute it at one input. -/
def fnBacksWrong : ChangeSpec := { name := "fnBacks", fn := fun _ => fun
  | [d] => { results := [.lit (.bool false)], args := [d] }
  | _ => none }
def FnBacksWrongFalsely : Prop := fnBacksRow.holds Tryz.pinned (OpenSpec.ofChange fnBacksWrong)

/-- 'laws.FnBacksReading': WHATEVER THE INPUT: true; the input reads as it did. -/
def fnBacksReadingSpec : ChangeSpec := { name := "fnBacksReading", fn := fun _ => fun
  | [d] => { results := [.lit (.bool true)], args := [d] }
  | _ => none }
def fnBacksReadingRow : OpenClaim := { program := "ytnknigikcdgebaagreatdoor", sum := "4ee994cdb0ee2ca27decb4d7d6f62928fdbc78a2ec58e4407f41539284ac1d71", func := "loop.example/g00463/laws.FnBacksReading", spec := "fnBacksReading", inPlace := ["internal/abi.NoEscape", "internal/bytealg.MakeNoZero"], unfollowed := true, recurses := true, named := ["internal/strconv.uint64pow10", "math/bits.deBruijn32tab", "math/bits.deBruijn64tab"], plainKeys := false, apart := false, laid := [("math/bits.deBruijn32tab", laid_math_bits_deBruijn32tab), ("math/bits.deBruijn64tab", laid_math_bits_deBruijn64tab), ("internal/strconv.uint64pow10", laid_internal_strconv_uint64pow10)] }
def FnBacksReadingSaid : Prop := fnBacksReadingRow.holds Tryz.pinned (OpenSpec.ofChange fnBacksReadingSpec)

/-- ITS FALSE NEIGHBOUR: 'it returns false'. Refute it at one input. -/
def fnBacksReadingWrong : ChangeSpec := { name := "fnBacksReading", fn := fun _ => fun
  | [d] => { results := [.lit (.bool false)], args := [d] }
  | _ => none }
def FnBacksReadingWrongFalsely : Prop := fnBacksReadingRow.holds Tryz.pinned (OpenSpec.ofChange fnBacksReadingWrong)

/-- 'laws.FnBacksTold': WHATEVER THE INPUT: true; the input reads as it did. -/
def fnBacksToldSpec : ChangeSpec := { name := "fnBacksTold", fn := fun _ => fun
  | [d] => { results := [.lit (.bool true)], args := [d] }
  | _ => none }
def fnBacksToldRow : OpenClaim := { program := "ytnknigikcdgebaagreatdoor", sum := "4ee994cdb0ee2ca27decb4d7d6f62928fdbc78a2ec58e4407f41539284ac1d71", func := "loop.example/g00463/laws.FnBacksTold", spec := "fnBacksTold", inPlace := ["internal/abi.NoEscape", "internal/bytealg.MakeNoZero"], unfollowed := true, recurses := true, named := ["internal/strconv.uint64pow10", "math/bits.deBruijn32tab", "math/bits.deBruijn64tab"], plainKeys := false, apart := false, laid := [("math/bits.deBruijn32tab", laid_math_bits_deBruijn32tab), ("math/bits.deBruijn64tab", laid_math_bits_deBruijn64tab), ("internal/strconv.uint64pow10", laid_internal_strconv_uint64pow10)] }
def FnBacksToldSaid : Prop := fnBacksToldRow.holds Tryz.pinned (OpenSpec.ofChange fnBacksToldSpec)

/-- ITS FALSE NEIGHBOUR: 'it returns false'. Refute it at one input. -/
def fnBacksToldWrong : ChangeSpec := { name := "fnBacksTold", fn := fun _ => fun
  | [d] => { results := [.lit (.bool false)], args := [d] }
  | _ => none }
def FnBacksToldWrongFalsely : Prop := fnBacksToldRow.holds Tryz.pinned (OpenSpec.ofChange fnBacksToldWrong)

/-- 'laws.FnExactReadingText': WHATEVER THE INPUT: true; the input reads as it did. -/
def fnExactReadingTextSpec : ChangeSpec := { name := "fnExactReadingText", fn := fun _ => fun
  | [d1, d2] => { results := [.lit (.bool true)], args := [d1, d2] }
  | _ => none }
def fnExactReadingTextRow : OpenClaim := { program := "ytnknigikcdgebaagreatdoor", sum := "4ee994cdb0ee2ca27decb4d7d6f62928fdbc78a2ec58e4407f41539284ac1d71", func := "loop.example/g00463/laws.FnExactReadingText", spec := "fnExactReadingText", inPlace := ["internal/abi.NoEscape", "internal/bytealg.MakeNoZero"], unfollowed := true, recurses := true, named := ["internal/strconv.uint64pow10", "math/bits.deBruijn32tab", "math/bits.deBruijn64tab"], plainKeys := false, apart := false, laid := [("math/bits.deBruijn32tab", laid_math_bits_deBruijn32tab), ("math/bits.deBruijn64tab", laid_math_bits_deBruijn64tab), ("internal/strconv.uint64pow10", laid_internal_strconv_uint64pow10)] }
def FnExactReadingTextSaid : Prop := fnExactReadingTextRow.holds Tryz.pinned (OpenSpec.ofChange fnExactReadingTextSpec)

/-- ITS FALSE NEIGHBOUR: 'it returns false'. Refute it at one input. -/
def fnExactReadingTextWrong : ChangeSpec := { name := "fnExactReadingText", fn := fun _ => fun
  | [d1, d2] => { results := [.lit (.bool false)], args := [d1, d2] }
  | _ => none }
def FnExactReadingTextWrongFalsely : Prop := fnExactReadingTextRow.holds Tryz.pinned (OpenSpec.ofChange fnExactReadingTextWrong)

/-- 'laws.FnExactShowWatch': WHATEVER THE INPUT: true; the input reads as it did. -/
def fnExactShowWatchSpec : ChangeSpec := { name := "fnExactShowWatch", fn := fun _ => fun
  | [d1, d2] => { results := [.lit (.bool true)], args := [d1, d2] }
  | _ => none }
def fnExactShowWatchRow : OpenClaim := { program := "ytnknigikcdgebaagreatdoor", sum := "4ee994cdb0ee2ca27decb4d7d6f62928fdbc78a2ec58e4407f41539284ac1d71", func := "loop.example/g00463/laws.FnExactShowWatch", spec := "fnExactShowWatch", inPlace := ["internal/abi.NoEscape", "internal/bytealg.MakeNoZero"], unfollowed := true, recurses := true, named := ["internal/strconv.uint64pow10", "math/bits.deBruijn32tab", "math/bits.deBruijn64tab"], plainKeys := false, apart := false, laid := [("math/bits.deBruijn32tab", laid_math_bits_deBruijn32tab), ("math/bits.deBruijn64tab", laid_math_bits_deBruijn64tab), ("internal/strconv.uint64pow10", laid_internal_strconv_uint64pow10)] }
def FnExactShowWatchSaid : Prop := fnExactShowWatchRow.holds Tryz.pinned (OpenSpec.ofChange fnExactShowWatchSpec)

/-- ITS FALSE NEIGHBOUR: 'it returns false'. Refute it at one input. -/
def fnExactShowWatchWrong : ChangeSpec := { name := "fnExactShowWatch", fn := fun _ => fun
  | [d1, d2] => { results := [.lit (.bool false)], args := [d1, d2] }
  | _ => none }
def FnExactShowWatchWrongFalsely : Prop := fnExactShowWatchRow.holds Tryz.pinned (OpenSpec.ofChange fnExactShowWatchWrong)

/-- 'laws.FnExactShowState': WHATEVER THE INPUT: true; the input reads as it did. -/
def fnExactShowStateSpec : ChangeSpec := { name := "fnExactShowState", fn := fun _ => fun
  | [d] => { results := [.lit (.bool true)], args := [d] }
  | _ => none }
def fnExactShowStateRow : OpenClaim := { program := "ytnknigikcdgebaagreatdoor", sum := "4ee994cdb0ee2ca27decb4d7d6f62928fdbc78a2ec58e4407f41539284ac1d71", func := "loop.example/g00463/laws.FnExactShowState", spec := "fnExactShowState", inPlace := ["internal/abi.NoEscape", "internal/bytealg.MakeNoZero"], unfollowed := true, recurses := true, named := ["internal/strconv.uint64pow10", "math/bits.deBruijn32tab", "math/bits.deBruijn64tab"], plainKeys := false, apart := false, laid := [("math/bits.deBruijn32tab", laid_math_bits_deBruijn32tab), ("math/bits.deBruijn64tab", laid_math_bits_deBruijn64tab), ("internal/strconv.uint64pow10", laid_internal_strconv_uint64pow10)] }
def FnExactShowStateSaid : Prop := fnExactShowStateRow.holds Tryz.pinned (OpenSpec.ofChange fnExactShowStateSpec)

/-- ITS FALSE NEIGHBOUR: 'it returns false'. Refute it at one input. -/
def fnExactShowStateWrong : ChangeSpec := { name := "fnExactShowState", fn := fun _ => fun
  | [d] => { results := [.lit (.bool false)], args := [d] }
  | _ => none }
def FnExactShowStateWrongFalsely : Prop := fnExactShowStateRow.holds Tryz.pinned (OpenSpec.ofChange fnExactShowStateWrong)

/-- 'laws.FnExactShowReplica': WHATEVER THE INPUT: true; the input reads as it did. -/
def fnExactShowReplicaSpec : ChangeSpec := { name := "fnExactShowReplica", fn := fun _ => fun
  | [d] => { results := [.lit (.bool true)], args := [d] }
  | _ => none }
def fnExactShowReplicaRow : OpenClaim := { program := "ytnknigikcdgebaagreatdoor", sum := "4ee994cdb0ee2ca27decb4d7d6f62928fdbc78a2ec58e4407f41539284ac1d71", func := "loop.example/g00463/laws.FnExactShowReplica", spec := "fnExactShowReplica", inPlace := ["internal/abi.NoEscape", "internal/bytealg.MakeNoZero"], unfollowed := true, recurses := true, named := ["internal/strconv.uint64pow10", "math/bits.deBruijn32tab", "math/bits.deBruijn64tab"], plainKeys := false, apart := false, laid := [("math/bits.deBruijn32tab", laid_math_bits_deBruijn32tab), ("math/bits.deBruijn64tab", laid_math_bits_deBruijn64tab), ("internal/strconv.uint64pow10", laid_internal_strconv_uint64pow10)] }
def FnExactShowReplicaSaid : Prop := fnExactShowReplicaRow.holds Tryz.pinned (OpenSpec.ofChange fnExactShowReplicaSpec)

/-- ITS FALSE NEIGHBOUR: 'it returns false'. Refute it at one input. -/
def fnExactShowReplicaWrong : ChangeSpec := { name := "fnExactShowReplica", fn := fun _ => fun
  | [d] => { results := [.lit (.bool false)], args := [d] }
  | _ => none }
def FnExactShowReplicaWrongFalsely : Prop := fnExactShowReplicaRow.holds Tryz.pinned (OpenSpec.ofChange fnExactShowReplicaWrong)

/- THE SECOND FORM. 'bulk': how many values and letters a reading holds, each counted each time it is reached (what is shared counts as often as it is met; a slice's spare places count too). A statement '..UptoSaid' is the law's where the arguments, and the package variables that the reading takes, are together of bulk at most 1048576: NARROWER than '..Said'. Prove '..Said' where nothing that the law and all that it calls make is longer than what came in: it says more and counts as full. Else prove '..UptoSaid'. A law counts once. -/
mutual
def uptoBulk {H : Type} : DataW H → Nat
  | .lit (.string bytes) => bytes.length + 1
  | .lit _ => 1
  | .nil => 1
  | .ptr d => uptoBulk d + 1
  | .slice elems spare => uptoBulkAll elems + uptoBulkAll spare + 1
  | .agg parts => uptoBulkAll parts + 1
  | .iface _ d => uptoBulk d + 1
  | .map entries => uptoBulkEntries entries + 1
  | .held _ => 1
def uptoBulkAll {H : Type} : List (DataW H) → Nat
  | [] => 0
  | d :: r => uptoBulk d + uptoBulkAll r
def uptoBulkEntries {H : Type} : List (Lit × DataW H) → Nat
  | [] => 0
  | x :: r => uptoBulkEntry x + uptoBulkEntries r
def uptoBulkEntry {H : Type} : Lit × DataW H → Nat
  | (.string bytes, d) => bytes.length + uptoBulk d + 1
  | (_, d) => uptoBulk d + 1
 end
def uptoSmall : (H : Type) → List (DataW H) → Bool := fun _ ds => decide (uptoBulkAll ds ≤ 1048576)
def OpenSpec.upto (s : _root_.Go.ChangeSpec) : _root_.Go.OpenSpec := { _root_.Go.OpenSpec.ofChange s with cond := some uptoSmall }

/-- 'laws.FnExactTurned', WHERE WHAT IT READS IS OF BULK AT MOST 1048576: true; the input reads as it did. -/
def fnExactTurnedUptoRow : OpenClaim := { program := "ytnknigikcdgebaagreatdoor", sum := "4ee994cdb0ee2ca27decb4d7d6f62928fdbc78a2ec58e4407f41539284ac1d71", func := "loop.example/g00463/laws.FnExactTurned", spec := "fnExactTurned", inPlace := ["internal/abi.NoEscape", "internal/bytealg.MakeNoZero"], unfollowed := true, recurses := true, named := ["internal/strconv.uint64pow10", "math/bits.deBruijn32tab", "math/bits.deBruijn64tab"], plainKeys := false, apart := false, laid := [("math/bits.deBruijn32tab", laid_math_bits_deBruijn32tab), ("math/bits.deBruijn64tab", laid_math_bits_deBruijn64tab), ("internal/strconv.uint64pow10", laid_internal_strconv_uint64pow10)], narrowed := true }
def FnExactTurnedUptoSaid : Prop := fnExactTurnedUptoRow.holds Tryz.pinned (OpenSpec.upto fnExactTurnedSpec)

/-- 'laws.FnTurns', WHERE WHAT IT READS IS OF BULK AT MOST 1048576: true; the input reads as it did. -/
def fnTurnsUptoRow : OpenClaim := { program := "ytnknigikcdgebaagreatdoor", sum := "4ee994cdb0ee2ca27decb4d7d6f62928fdbc78a2ec58e4407f41539284ac1d71", func := "loop.example/g00463/laws.FnTurns", spec := "fnTurns", inPlace := ["internal/abi.NoEscape", "internal/bytealg.MakeNoZero"], unfollowed := true, recurses := true, named := ["internal/strconv.uint64pow10", "math/bits.deBruijn32tab", "math/bits.deBruijn64tab"], plainKeys := false, apart := false, laid := [("math/bits.deBruijn32tab", laid_math_bits_deBruijn32tab), ("math/bits.deBruijn64tab", laid_math_bits_deBruijn64tab), ("internal/strconv.uint64pow10", laid_internal_strconv_uint64pow10)], narrowed := true }
def FnTurnsUptoSaid : Prop := fnTurnsUptoRow.holds Tryz.pinned (OpenSpec.upto fnTurnsSpec)

/-- 'laws.FnTurnsBack', WHERE WHAT IT READS IS OF BULK AT MOST 1048576: true; the input reads as it did. -/
def fnTurnsBackUptoRow : OpenClaim := { program := "ytnknigikcdgebaagreatdoor", sum := "4ee994cdb0ee2ca27decb4d7d6f62928fdbc78a2ec58e4407f41539284ac1d71", func := "loop.example/g00463/laws.FnTurnsBack", spec := "fnTurnsBack", inPlace := ["internal/abi.NoEscape", "internal/bytealg.MakeNoZero"], unfollowed := true, recurses := true, named := ["internal/strconv.uint64pow10", "math/bits.deBruijn32tab", "math/bits.deBruijn64tab"], plainKeys := false, apart := false, laid := [("math/bits.deBruijn32tab", laid_math_bits_deBruijn32tab), ("math/bits.deBruijn64tab", laid_math_bits_deBruijn64tab), ("internal/strconv.uint64pow10", laid_internal_strconv_uint64pow10)], narrowed := true }
def FnTurnsBackUptoSaid : Prop := fnTurnsBackUptoRow.holds Tryz.pinned (OpenSpec.upto fnTurnsBackSpec)

/-- 'laws.FnTurnsTold', WHERE WHAT IT READS IS OF BULK AT MOST 1048576: true; the input reads as it did. -/
def fnTurnsToldUptoRow : OpenClaim := { program := "ytnknigikcdgebaagreatdoor", sum := "4ee994cdb0ee2ca27decb4d7d6f62928fdbc78a2ec58e4407f41539284ac1d71", func := "loop.example/g00463/laws.FnTurnsTold", spec := "fnTurnsTold", inPlace := ["internal/abi.NoEscape", "internal/bytealg.MakeNoZero"], unfollowed := true, recurses := true, named := ["internal/strconv.uint64pow10", "math/bits.deBruijn32tab", "math/bits.deBruijn64tab"], plainKeys := false, apart := false, laid := [("math/bits.deBruijn32tab", laid_math_bits_deBruijn32tab), ("math/bits.deBruijn64tab", laid_math_bits_deBruijn64tab), ("internal/strconv.uint64pow10", laid_internal_strconv_uint64pow10)], narrowed := true }
def FnTurnsToldUptoSaid : Prop := fnTurnsToldUptoRow.holds Tryz.pinned (OpenSpec.upto fnTurnsToldSpec)

/-- 'laws.FnBacks', WHERE WHAT IT READS IS OF BULK AT MOST 1048576: true; the input reads as it did. -/
def fnBacksUptoRow : OpenClaim := { program := "ytnknigikcdgebaagreatdoor", sum := "4ee994cdb0ee2ca27decb4d7d6f62928fdbc78a2ec58e4407f41539284ac1d71", func := "loop.example/g00463/laws.FnBacks", spec := "fnBacks", inPlace := ["internal/abi.NoEscape", "internal/bytealg.MakeNoZero"], unfollowed := true, recurses := true, named := ["internal/strconv.uint64pow10", "math/bits.deBruijn32tab", "math/bits.deBruijn64tab"], plainKeys := false, apart := false, laid := [("math/bits.deBruijn32tab", laid_math_bits_deBruijn32tab), ("math/bits.deBruijn64tab", laid_math_bits_deBruijn64tab), ("internal/strconv.uint64pow10", laid_internal_strconv_uint64pow10)], narrowed := true }
def FnBacksUptoSaid : Prop := fnBacksUptoRow.holds Tryz.pinned (OpenSpec.upto fnBacksSpec)

/-- 'laws.FnBacksReading', WHERE WHAT IT READS IS OF BULK AT MOST 1048576: true; the input reads as it did. -/
def fnBacksReadingUptoRow : OpenClaim := { program := "ytnknigikcdgebaagreatdoor", sum := "4ee994cdb0ee2ca27decb4d7d6f62928fdbc78a2ec58e4407f41539284ac1d71", func := "loop.example/g00463/laws.FnBacksReading", spec := "fnBacksReading", inPlace := ["internal/abi.NoEscape", "internal/bytealg.MakeNoZero"], unfollowed := true, recurses := true, named := ["internal/strconv.uint64pow10", "math/bits.deBruijn32tab", "math/bits.deBruijn64tab"], plainKeys := false, apart := false, laid := [("math/bits.deBruijn32tab", laid_math_bits_deBruijn32tab), ("math/bits.deBruijn64tab", laid_math_bits_deBruijn64tab), ("internal/strconv.uint64pow10", laid_internal_strconv_uint64pow10)], narrowed := true }
def FnBacksReadingUptoSaid : Prop := fnBacksReadingUptoRow.holds Tryz.pinned (OpenSpec.upto fnBacksReadingSpec)

/-- 'laws.FnBacksTold', WHERE WHAT IT READS IS OF BULK AT MOST 1048576: true; the input reads as it did. -/
def fnBacksToldUptoRow : OpenClaim := { program := "ytnknigikcdgebaagreatdoor", sum := "4ee994cdb0ee2ca27decb4d7d6f62928fdbc78a2ec58e4407f41539284ac1d71", func := "loop.example/g00463/laws.FnBacksTold", spec := "fnBacksTold", inPlace := ["internal/abi.NoEscape", "internal/bytealg.MakeNoZero"], unfollowed := true, recurses := true, named := ["internal/strconv.uint64pow10", "math/bits.deBruijn32tab", "math/bits.deBruijn64tab"], plainKeys := false, apart := false, laid := [("math/bits.deBruijn32tab", laid_math_bits_deBruijn32tab), ("math/bits.deBruijn64tab", laid_math_bits_deBruijn64tab), ("internal/strconv.uint64pow10", laid_internal_strconv_uint64pow10)], narrowed := true }
def FnBacksToldUptoSaid : Prop := fnBacksToldUptoRow.holds Tryz.pinned (OpenSpec.upto fnBacksToldSpec)

/-- 'laws.FnExactReadingText', WHERE WHAT IT READS IS OF BULK AT MOST 1048576: true; the input reads as it did. -/
def fnExactReadingTextUptoRow : OpenClaim := { program := "ytnknigikcdgebaagreatdoor", sum := "4ee994cdb0ee2ca27decb4d7d6f62928fdbc78a2ec58e4407f41539284ac1d71", func := "loop.example/g00463/laws.FnExactReadingText", spec := "fnExactReadingText", inPlace := ["internal/abi.NoEscape", "internal/bytealg.MakeNoZero"], unfollowed := true, recurses := true, named := ["internal/strconv.uint64pow10", "math/bits.deBruijn32tab", "math/bits.deBruijn64tab"], plainKeys := false, apart := false, laid := [("math/bits.deBruijn32tab", laid_math_bits_deBruijn32tab), ("math/bits.deBruijn64tab", laid_math_bits_deBruijn64tab), ("internal/strconv.uint64pow10", laid_internal_strconv_uint64pow10)], narrowed := true }
def FnExactReadingTextUptoSaid : Prop := fnExactReadingTextUptoRow.holds Tryz.pinned (OpenSpec.upto fnExactReadingTextSpec)

/-- 'laws.FnExactShowWatch', WHERE WHAT IT READS IS OF BULK AT MOST 1048576: true; the input reads as it did. -/
def fnExactShowWatchUptoRow : OpenClaim := { program := "ytnknigikcdgebaagreatdoor", sum := "4ee994cdb0ee2ca27decb4d7d6f62928fdbc78a2ec58e4407f41539284ac1d71", func := "loop.example/g00463/laws.FnExactShowWatch", spec := "fnExactShowWatch", inPlace := ["internal/abi.NoEscape", "internal/bytealg.MakeNoZero"], unfollowed := true, recurses := true, named := ["internal/strconv.uint64pow10", "math/bits.deBruijn32tab", "math/bits.deBruijn64tab"], plainKeys := false, apart := false, laid := [("math/bits.deBruijn32tab", laid_math_bits_deBruijn32tab), ("math/bits.deBruijn64tab", laid_math_bits_deBruijn64tab), ("internal/strconv.uint64pow10", laid_internal_strconv_uint64pow10)], narrowed := true }
def FnExactShowWatchUptoSaid : Prop := fnExactShowWatchUptoRow.holds Tryz.pinned (OpenSpec.upto fnExactShowWatchSpec)

/-- 'laws.FnExactShowState', WHERE WHAT IT READS IS OF BULK AT MOST 1048576: true; the input reads as it did. -/
def fnExactShowStateUptoRow : OpenClaim := { program := "ytnknigikcdgebaagreatdoor", sum := "4ee994cdb0ee2ca27decb4d7d6f62928fdbc78a2ec58e4407f41539284ac1d71", func := "loop.example/g00463/laws.FnExactShowState", spec := "fnExactShowState", inPlace := ["internal/abi.NoEscape", "internal/bytealg.MakeNoZero"], unfollowed := true, recurses := true, named := ["internal/strconv.uint64pow10", "math/bits.deBruijn32tab", "math/bits.deBruijn64tab"], plainKeys := false, apart := false, laid := [("math/bits.deBruijn32tab", laid_math_bits_deBruijn32tab), ("math/bits.deBruijn64tab", laid_math_bits_deBruijn64tab), ("internal/strconv.uint64pow10", laid_internal_strconv_uint64pow10)], narrowed := true }
def FnExactShowStateUptoSaid : Prop := fnExactShowStateUptoRow.holds Tryz.pinned (OpenSpec.upto fnExactShowStateSpec)

/-- 'laws.FnExactShowReplica', WHERE WHAT IT READS IS OF BULK AT MOST 1048576: true; the input reads as it did. -/
def fnExactShowReplicaUptoRow : OpenClaim := { program := "ytnknigikcdgebaagreatdoor", sum := "4ee994cdb0ee2ca27decb4d7d6f62928fdbc78a2ec58e4407f41539284ac1d71", func := "loop.example/g00463/laws.FnExactShowReplica", spec := "fnExactShowReplica", inPlace := ["internal/abi.NoEscape", "internal/bytealg.MakeNoZero"], unfollowed := true, recurses := true, named := ["internal/strconv.uint64pow10", "math/bits.deBruijn32tab", "math/bits.deBruijn64tab"], plainKeys := false, apart := false, laid := [("math/bits.deBruijn32tab", laid_math_bits_deBruijn32tab), ("math/bits.deBruijn64tab", laid_math_bits_deBruijn64tab), ("internal/strconv.uint64pow10", laid_internal_strconv_uint64pow10)], narrowed := true }
def FnExactShowReplicaUptoSaid : Prop := fnExactShowReplicaUptoRow.holds Tryz.pinned (OpenSpec.upto fnExactShowReplicaSpec)

end Rows
end Go.Proofs.YtnknigikcdgebaaGreatDoor
