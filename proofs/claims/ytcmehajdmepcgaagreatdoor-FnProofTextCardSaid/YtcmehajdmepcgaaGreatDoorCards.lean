/-
  DERIVED. GIVEN WITH THE SEED: THE CARDS: each row of YtcmehajdmepcgaaGreatDoorRows.lean that lists a variable, with what it lists TIED to the program's text (the seventh form; the later family's looks); each row that meets fmt, with fmt's text TOLD by the authors' own Lean function (tested against real Go, not proved from fmt's source: count such statements apart). THE CARD IS WHAT COUNTS. Prove the row's statement (the work); the ties are given (YtcmehajdmepcgaaGreatDoorTie.lean); close each card by the builder's one call (the guide's Derived/Test/ToyasCard.lean, 'card_holds'). Laid BY PROGRAM, IN A SANDBOX (cutbox-door.mjs). By AI agents, Wed Nov 11 2026. No macro, syntax, notation, axiom, sorry.
-/
import Derived.Test.YtcmehajdmepcgaaGreatDoorRows
import GoSem.ClaimSeven
namespace Go.Proofs.YtcmehajdmepcgaaGreatDoor
namespace Rows

/-- THE TIED CARD OF 'laws.FnProofText'. -/
def fnProofTextCard : Claim7 := { stood := { row := fnProofTextRow, standIns := [], harness := (true, "2ed699c7639d6c7c30567cf4d4bd791352ec98442ee374ca94b9fbefafd61bb5"), looks := true }, kinds := [], alts := [], laidByText := true, laidKinds := [.data, .data, .data, .sentinel, .sentinel], laidTests := true, laidLooks := .later }
def FnProofTextCardSaid : Prop := Claim7.holds Tryz.pinned (.plain (OpenSpec.ofChange fnProofTextSpec)) fnProofTextCard

/-- THE SECOND FORM's CARD OF 'laws.FnProofText'. -/
def fnProofTextUptoCard : Claim7 := { stood := { row := fnProofTextUptoRow, standIns := [], harness := (true, "2ed699c7639d6c7c30567cf4d4bd791352ec98442ee374ca94b9fbefafd61bb5"), looks := true }, kinds := [], alts := [], laidByText := true, laidKinds := [.data, .data, .data, .sentinel, .sentinel], laidTests := true, laidLooks := .later }
def FnProofTextUptoCardSaid : Prop := Claim7.holds Tryz.pinned (.plain (OpenSpec.upto fnProofTextSpec)) fnProofTextUptoCard
end Rows
end Go.Proofs.YtcmehajdmepcgaaGreatDoor
