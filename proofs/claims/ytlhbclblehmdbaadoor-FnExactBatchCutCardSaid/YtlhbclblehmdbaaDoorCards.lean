/-
  DERIVED. GIVEN WITH THE SEED: THE CARDS: each row of YtlhbclblehmdbaaDoorRows.lean that lists a variable, with what it lists TIED to the program's text (the seventh form; the later family's looks); each row that meets fmt, with fmt's text TOLD by the authors' own Lean function (tested against real Go, not proved from fmt's source: count such statements apart). THE CARD IS WHAT COUNTS. Prove the row's statement (the work); the ties are given (YtlhbclblehmdbaaDoorTie.lean); close each card by the builder's one call (the guide's Derived/Test/ToyasCard.lean, 'card_holds'). Laid BY PROGRAM, IN A SANDBOX (cutbox-door.mjs). By AI agents, Wed Nov 11 2026. No macro, syntax, notation, axiom, sorry.
-/
import Derived.Test.YtlhbclblehmdbaaDoorRows
import GoSem.ClaimSeven
namespace Go.Proofs.YtlhbclblehmdbaaDoor
namespace Rows

/-- THE TIED CARD OF 'laws.FnExactBatchCut'. -/
def fnExactBatchCutCard : Claim7 := { stood := { row := fnExactBatchCutRow, standIns := [], harness := (true, "d7d0ae38050f6729477d5215752cc5ddc8415cba5d231be26b759684161f1b3e"), looks := true }, kinds := [], alts := [], laidByText := true, laidKinds := [.sentinel], laidTests := true, laidLooks := .later }
def FnExactBatchCutCardSaid : Prop := Claim7.holds Tryd.pinned (.plain (OpenSpec.ofChange fnExactBatchCutSpec)) fnExactBatchCutCard

/-- THE TIED CARD OF 'laws.FnExactBatchJoin'. -/
def fnExactBatchJoinCard : Claim7 := { stood := { row := fnExactBatchJoinRow, standIns := [], harness := (true, "d7d0ae38050f6729477d5215752cc5ddc8415cba5d231be26b759684161f1b3e"), looks := true }, kinds := [], alts := [], laidByText := true, laidKinds := [.sentinel], laidTests := true, laidLooks := .later }
def FnExactBatchJoinCardSaid : Prop := Claim7.holds Tryd.pinned (.plain (OpenSpec.ofChange fnExactBatchJoinSpec)) fnExactBatchJoinCard

/-- THE TIED CARD OF 'laws.FnRecordTextLast'. -/
def fnRecordTextLastCard : Claim7 := { stood := { row := fnRecordTextLastRow, standIns := [], harness := (true, "d7d0ae38050f6729477d5215752cc5ddc8415cba5d231be26b759684161f1b3e"), looks := true }, kinds := [], alts := [], laidByText := true, laidKinds := [.data, .data, .data], laidTests := true, laidLooks := .later }
def FnRecordTextLastCardSaid : Prop := Claim7.holds Tryd.pinned (.plain (OpenSpec.ofChange fnRecordTextLastSpec)) fnRecordTextLastCard

/-- THE SECOND FORM's CARD OF 'laws.FnExactBatchCut'. -/
def fnExactBatchCutUptoCard : Claim7 := { stood := { row := fnExactBatchCutUptoRow, standIns := [], harness := (true, "d7d0ae38050f6729477d5215752cc5ddc8415cba5d231be26b759684161f1b3e"), looks := true }, kinds := [], alts := [], laidByText := true, laidKinds := [.sentinel], laidTests := true, laidLooks := .later }
def FnExactBatchCutUptoCardSaid : Prop := Claim7.holds Tryd.pinned (.plain (OpenSpec.upto fnExactBatchCutSpec)) fnExactBatchCutUptoCard

/-- THE SECOND FORM's CARD OF 'laws.FnExactBatchJoin'. -/
def fnExactBatchJoinUptoCard : Claim7 := { stood := { row := fnExactBatchJoinUptoRow, standIns := [], harness := (true, "d7d0ae38050f6729477d5215752cc5ddc8415cba5d231be26b759684161f1b3e"), looks := true }, kinds := [], alts := [], laidByText := true, laidKinds := [.sentinel], laidTests := true, laidLooks := .later }
def FnExactBatchJoinUptoCardSaid : Prop := Claim7.holds Tryd.pinned (.plain (OpenSpec.upto fnExactBatchJoinSpec)) fnExactBatchJoinUptoCard

/-- THE SECOND FORM's CARD OF 'laws.FnRecordTextLast'. -/
def fnRecordTextLastUptoCard : Claim7 := { stood := { row := fnRecordTextLastUptoRow, standIns := [], harness := (true, "d7d0ae38050f6729477d5215752cc5ddc8415cba5d231be26b759684161f1b3e"), looks := true }, kinds := [], alts := [], laidByText := true, laidKinds := [.data, .data, .data], laidTests := true, laidLooks := .later }
def FnRecordTextLastUptoCardSaid : Prop := Claim7.holds Tryd.pinned (.plain (OpenSpec.upto fnRecordTextLastSpec)) fnRecordTextLastUptoCard
end Rows
end Go.Proofs.YtlhbclblehmdbaaDoor
