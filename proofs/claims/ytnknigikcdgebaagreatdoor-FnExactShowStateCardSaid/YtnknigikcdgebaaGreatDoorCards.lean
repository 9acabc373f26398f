/-
  DERIVED. GIVEN WITH THE SEED: THE CARDS: each row of YtnknigikcdgebaaGreatDoorRows.lean that lists a variable, with what it lists TIED to the program's text (the seventh form; the later family's looks); each row that meets fmt, with fmt's text TOLD by the authors' own Lean function (tested against real Go, not proved from fmt's source: count such statements apart). THE CARD IS WHAT COUNTS. Prove the row's statement (the work); the ties are given (YtnknigikcdgebaaGreatDoorTie.lean); close each card by the builder's one call (the guide's Derived/Test/ToyasCard.lean, 'card_holds'). Laid BY PROGRAM, IN A SANDBOX (cutbox-door.mjs). By AI agents, Wed Nov 11 2026. No macro, syntax, notation, axiom, sorry.
-/
import Derived.Test.YtnknigikcdgebaaGreatDoorRows
import GoSem.ClaimSeven
namespace Go.Proofs.YtnknigikcdgebaaGreatDoor
namespace Rows

/-- THE TIED CARD OF 'laws.FnExactTurned'. -/
def fnExactTurnedCard : Claim7 := { stood := { row := fnExactTurnedRow, standIns := [], harness := (true, "3303482bbffefbf7fcd2f30016b39a2afaf2c596019e22d53ae7969fe675dabf"), looks := false }, kinds := [], alts := [], laidByText := true, laidKinds := [.data, .data, .data], laidTests := true, laidLooks := .later }
def FnExactTurnedCardSaid : Prop := Claim7.holds Tryz.pinned (.plain (OpenSpec.ofChange fnExactTurnedSpec)) fnExactTurnedCard

/-- THE TIED CARD OF 'laws.FnTurns'. -/
def fnTurnsCard : Claim7 := { stood := { row := fnTurnsRow, standIns := [], harness := (true, "3303482bbffefbf7fcd2f30016b39a2afaf2c596019e22d53ae7969fe675dabf"), looks := false }, kinds := [], alts := [], laidByText := true, laidKinds := [.data, .data, .data], laidTests := true, laidLooks := .later }
def FnTurnsCardSaid : Prop := Claim7.holds Tryz.pinned (.plain (OpenSpec.ofChange fnTurnsSpec)) fnTurnsCard

/-- THE TIED CARD OF 'laws.FnTurnsBack'. -/
def fnTurnsBackCard : Claim7 := { stood := { row := fnTurnsBackRow, standIns := [], harness := (true, "3303482bbffefbf7fcd2f30016b39a2afaf2c596019e22d53ae7969fe675dabf"), looks := false }, kinds := [], alts := [], laidByText := true, laidKinds := [.data, .data, .data], laidTests := true, laidLooks := .later }
def FnTurnsBackCardSaid : Prop := Claim7.holds Tryz.pinned (.plain (OpenSpec.ofChange fnTurnsBackSpec)) fnTurnsBackCard

/-- THE TIED CARD OF 'laws.FnTurnsTold'. -/
def fnTurnsToldCard : Claim7 := { stood := { row := fnTurnsToldRow, standIns := [], harness := (true, "3303482bbffefbf7fcd2f30016b39a2afaf2c596019e22d53ae7969fe675dabf"), looks := false }, kinds := [], alts := [], laidByText := true, laidKinds := [.data, .data, .data], laidTests := true, laidLooks := .later }
def FnTurnsToldCardSaid : Prop := Claim7.holds Tryz.pinned (.plain (OpenSpec.ofChange fnTurnsToldSpec)) fnTurnsToldCard

/-- THE TIED CARD OF 'laws.FnBacks'. -/
def fnBacksCard : Claim7 := { stood := { row := fnBacksRow, standIns := [], harness := (true, "3303482bbffefbf7fcd2f30016b39a2afaf2c596019e22d53ae7969fe675dabf"), looks := false }, kinds := [], alts := [], laidByText := true, laidKinds := [.data, .data, .data], laidTests := true, laidLooks := .later }
def FnBacksCardSaid : Prop := Claim7.holds Tryz.pinned (.plain (OpenSpec.ofChange fnBacksSpec)) fnBacksCard

/-- THE TIED CARD OF 'laws.FnBacksReading'. -/
def fnBacksReadingCard : Claim7 := { stood := { row := fnBacksReadingRow, standIns := [], harness := (true, "3303482bbffefbf7fcd2f30016b39a2afaf2c596019e22d53ae7969fe675dabf"), looks := false }, kinds := [], alts := [], laidByText := true, laidKinds := [.data, .data, .data], laidTests := true, laidLooks := .later }
def FnBacksReadingCardSaid : Prop := Claim7.holds Tryz.pinned (.plain (OpenSpec.ofChange fnBacksReadingSpec)) fnBacksReadingCard

/-- THE TIED CARD OF 'laws.FnBacksTold'. -/
def fnBacksToldCard : Claim7 := { stood := { row := fnBacksToldRow, standIns := [], harness := (true, "3303482bbffefbf7fcd2f30016b39a2afaf2c596019e22d53ae7969fe675dabf"), looks := false }, kinds := [], alts := [], laidByText := true, laidKinds := [.data, .data, .data], laidTests := true, laidLooks := .later }
def FnBacksToldCardSaid : Prop := Claim7.holds Tryz.pinned (.plain (OpenSpec.ofChange fnBacksToldSpec)) fnBacksToldCard

/-- THE TIED CARD OF 'laws.FnExactReadingText'. -/
def fnExactReadingTextCard : Claim7 := { stood := { row := fnExactReadingTextRow, standIns := [], harness := (true, "3303482bbffefbf7fcd2f30016b39a2afaf2c596019e22d53ae7969fe675dabf"), looks := false }, kinds := [], alts := [], laidByText := true, laidKinds := [.data, .data, .data], laidTests := true, laidLooks := .later }
def FnExactReadingTextCardSaid : Prop := Claim7.holds Tryz.pinned (.plain (OpenSpec.ofChange fnExactReadingTextSpec)) fnExactReadingTextCard

/-- THE TIED CARD OF 'laws.FnExactShowWatch'. -/
def fnExactShowWatchCard : Claim7 := { stood := { row := fnExactShowWatchRow, standIns := [], harness := (true, "3303482bbffefbf7fcd2f30016b39a2afaf2c596019e22d53ae7969fe675dabf"), looks := false }, kinds := [], alts := [], laidByText := true, laidKinds := [.data, .data, .data], laidTests := true, laidLooks := .later }
def FnExactShowWatchCardSaid : Prop := Claim7.holds Tryz.pinned (.plain (OpenSpec.ofChange fnExactShowWatchSpec)) fnExactShowWatchCard

/-- THE TIED CARD OF 'laws.FnExactShowState'. -/
def fnExactShowStateCard : Claim7 := { stood := { row := fnExactShowStateRow, standIns := [], harness := (true, "3303482bbffefbf7fcd2f30016b39a2afaf2c596019e22d53ae7969fe675dabf"), looks := false }, kinds := [], alts := [], laidByText := true, laidKinds := [.data, .data, .data], laidTests := true, laidLooks := .later }
def FnExactShowStateCardSaid : Prop := Claim7.holds Tryz.pinned (.plain (OpenSpec.ofChange fnExactShowStateSpec)) fnExactShowStateCard

/-- THE TIED CARD OF 'laws.FnExactShowReplica'. -/
def fnExactShowReplicaCard : Claim7 := { stood := { row := fnExactShowReplicaRow, standIns := [], harness := (true, "3303482bbffefbf7fcd2f30016b39a2afaf2c596019e22d53ae7969fe675dabf"), looks := false }, kinds := [], alts := [], laidByText := true, laidKinds := [.data, .data, .data], laidTests := true, laidLooks := .later }
def FnExactShowReplicaCardSaid : Prop := Claim7.holds Tryz.pinned (.plain (OpenSpec.ofChange fnExactShowReplicaSpec)) fnExactShowReplicaCard

/-- THE SECOND FORM's CARD OF 'laws.FnExactTurned'. -/
def fnExactTurnedUptoCard : Claim7 := { stood := { row := fnExactTurnedUptoRow, standIns := [], harness := (true, "3303482bbffefbf7fcd2f30016b39a2afaf2c596019e22d53ae7969fe675dabf"), looks := false }, kinds := [], alts := [], laidByText := true, laidKinds := [.data, .data, .data], laidTests := true, laidLooks := .later }
def FnExactTurnedUptoCardSaid : Prop := Claim7.holds Tryz.pinned (.plain (OpenSpec.upto fnExactTurnedSpec)) fnExactTurnedUptoCard

/-- THE SECOND FORM's CARD OF 'laws.FnTurns'. -/
def fnTurnsUptoCard : Claim7 := { stood := { row := fnTurnsUptoRow, standIns := [], harness := (true, "3303482bbffefbf7fcd2f30016b39a2afaf2c596019e22d53ae7969fe675dabf"), looks := false }, kinds := [], alts := [], laidByText := true, laidKinds := [.data, .data, .data], laidTests := true, laidLooks := .later }
def FnTurnsUptoCardSaid : Prop := Claim7.holds Tryz.pinned (.plain (OpenSpec.upto fnTurnsSpec)) fnTurnsUptoCard

/-- THE SECOND FORM's CARD OF 'laws.FnTurnsBack'. -/
def fnTurnsBackUptoCard : Claim7 := { stood := { row := fnTurnsBackUptoRow, standIns := [], harness := (true, "3303482bbffefbf7fcd2f30016b39a2afaf2c596019e22d53ae7969fe675dabf"), looks := false }, kinds := [], alts := [], laidByText := true, laidKinds := [.data, .data, .data], laidTests := true, laidLooks := .later }
def FnTurnsBackUptoCardSaid : Prop := Claim7.holds Tryz.pinned (.plain (OpenSpec.upto fnTurnsBackSpec)) fnTurnsBackUptoCard

/-- THE SECOND FORM's CARD OF 'laws.FnTurnsTold'. -/
def fnTurnsToldUptoCard : Claim7 := { stood := { row := fnTurnsToldUptoRow, standIns := [], harness := (true, "3303482bbffefbf7fcd2f30016b39a2afaf2c596019e22d53ae7969fe675dabf"), looks := false }, kinds := [], alts := [], laidByText := true, laidKinds := [.data, .data, .data], laidTests := true, laidLooks := .later }
def FnTurnsToldUptoCardSaid : Prop := Claim7.holds Tryz.pinned (.plain (OpenSpec.upto fnTurnsToldSpec)) fnTurnsToldUptoCard

/-- THE SECOND FORM's CARD OF 'laws.FnBacks'. -/
def fnBacksUptoCard : Claim7 := { stood := { row := fnBacksUptoRow, standIns := [], harness := (true, "3303482bbffefbf7fcd2f30016b39a2afaf2c596019e22d53ae7969fe675dabf"), looks := false }, kinds := [], alts := [], laidByText := true, laidKinds := [.data, .data, .data], laidTests := true, laidLooks := .later }
def FnBacksUptoCardSaid : Prop := Claim7.holds Tryz.pinned (.plain (OpenSpec.upto fnBacksSpec)) fnBacksUptoCard

/-- THE SECOND FORM's CARD OF 'laws.FnBacksReading'. -/
def fnBacksReadingUptoCard : Claim7 := { stood := { row := fnBacksReadingUptoRow, standIns := [], harness := (true, "3303482bbffefbf7fcd2f30016b39a2afaf2c596019e22d53ae7969fe675dabf"), looks := false }, kinds := [], alts := [], laidByText := true, laidKinds := [.data, .data, .data], laidTests := true, laidLooks := .later }
def FnBacksReadingUptoCardSaid : Prop := Claim7.holds Tryz.pinned (.plain (OpenSpec.upto fnBacksReadingSpec)) fnBacksReadingUptoCard

/-- THE SECOND FORM's CARD OF 'laws.FnBacksTold'. -/
def fnBacksToldUptoCard : Claim7 := { stood := { row := fnBacksToldUptoRow, standIns := [], harness := (true, "3303482bbffefbf7fcd2f30016b39a2afaf2c596019e22d53ae7969fe675dabf"), looks := false }, kinds := [], alts := [], laidByText := true, laidKinds := [.data, .data, .data], laidTests := true, laidLooks := .later }
def FnBacksToldUptoCardSaid : Prop := Claim7.holds Tryz.pinned (.plain (OpenSpec.upto fnBacksToldSpec)) fnBacksToldUptoCard

/-- THE SECOND FORM's CARD OF 'laws.FnExactReadingText'. -/
def fnExactReadingTextUptoCard : Claim7 := { stood := { row := fnExactReadingTextUptoRow, standIns := [], harness := (true, "3303482bbffefbf7fcd2f30016b39a2afaf2c596019e22d53ae7969fe675dabf"), looks := false }, kinds := [], alts := [], laidByText := true, laidKinds := [.data, .data, .data], laidTests := true, laidLooks := .later }
def FnExactReadingTextUptoCardSaid : Prop := Claim7.holds Tryz.pinned (.plain (OpenSpec.upto fnExactReadingTextSpec)) fnExactReadingTextUptoCard

/-- THE SECOND FORM's CARD OF 'laws.FnExactShowWatch'. -/
def fnExactShowWatchUptoCard : Claim7 := { stood := { row := fnExactShowWatchUptoRow, standIns := [], harness := (true, "3303482bbffefbf7fcd2f30016b39a2afaf2c596019e22d53ae7969fe675dabf"), looks := false }, kinds := [], alts := [], laidByText := true, laidKinds := [.data, .data, .data], laidTests := true, laidLooks := .later }
def FnExactShowWatchUptoCardSaid : Prop := Claim7.holds Tryz.pinned (.plain (OpenSpec.upto fnExactShowWatchSpec)) fnExactShowWatchUptoCard

/-- THE SECOND FORM's CARD OF 'laws.FnExactShowState'. -/
def fnExactShowStateUptoCard : Claim7 := { stood := { row := fnExactShowStateUptoRow, standIns := [], harness := (true, "3303482bbffefbf7fcd2f30016b39a2afaf2c596019e22d53ae7969fe675dabf"), looks := false }, kinds := [], alts := [], laidByText := true, laidKinds := [.data, .data, .data], laidTests := true, laidLooks := .later }
def FnExactShowStateUptoCardSaid : Prop := Claim7.holds Tryz.pinned (.plain (OpenSpec.upto fnExactShowStateSpec)) fnExactShowStateUptoCard

/-- THE SECOND FORM's CARD OF 'laws.FnExactShowReplica'. -/
def fnExactShowReplicaUptoCard : Claim7 := { stood := { row := fnExactShowReplicaUptoRow, standIns := [], harness := (true, "3303482bbffefbf7fcd2f30016b39a2afaf2c596019e22d53ae7969fe675dabf"), looks := false }, kinds := [], alts := [], laidByText := true, laidKinds := [.data, .data, .data], laidTests := true, laidLooks := .later }
def FnExactShowReplicaUptoCardSaid : Prop := Claim7.holds Tryz.pinned (.plain (OpenSpec.upto fnExactShowReplicaSpec)) fnExactShowReplicaUptoCard
end Rows
end Go.Proofs.YtnknigikcdgebaaGreatDoor
