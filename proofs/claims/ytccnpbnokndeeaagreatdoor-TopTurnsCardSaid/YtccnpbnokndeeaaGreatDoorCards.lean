/-
  DERIVED. GIVEN WITH THE SEED: THE CARDS: each row of YtccnpbnokndeeaaGreatDoorRows.lean that lists a variable, with what it lists TIED to the program's text (the seventh form; the later family's looks); each row that meets fmt, with fmt's text TOLD by the authors' own Lean function (tested against real Go, not proved from fmt's source: count such statements apart). THE CARD IS WHAT COUNTS. Prove the row's statement (the work); the ties are given (YtccnpbnokndeeaaGreatDoorTie.lean); close each card by the builder's one call (the guide's Derived/Test/ToyasCard.lean, 'card_holds'). Laid BY PROGRAM, IN A SANDBOX (cutbox-door.mjs). By AI agents, Wed Nov 11 2026. No macro, syntax, notation, axiom, sorry.
-/
import Derived.Test.YtccnpbnokndeeaaGreatDoorRows
import GoSem.ClaimSeven
namespace Go.Proofs.YtccnpbnokndeeaaGreatDoor
namespace Rows

/-- THE TIED CARD OF 'sawmilltop.TopVolume'. -/
def topVolumeCard : Claim7 := { stood := { row := topVolumeRow, standIns := [], harness := (true, "6a4e29ba4d5b735d95e7319c2d5bc83d9057cffbc9b2b22c9cef58cf1a3b9d43"), looks := false }, kinds := [], alts := [], laidByText := true, laidKinds := [.data, .data], laidTests := true, laidLooks := .later }
def TopVolumeCardSaid : Prop := Claim7.holds Tryz.pinned (.plain (OpenSpec.ofChange topVolumeSpec)) topVolumeCard

/-- THE TIED CARD OF 'sawmilltop.TopTurns'. -/
def topTurnsCard : Claim7 := { stood := { row := topTurnsRow, standIns := [], harness := (true, "6a4e29ba4d5b735d95e7319c2d5bc83d9057cffbc9b2b22c9cef58cf1a3b9d43"), looks := false }, kinds := [], alts := [], laidByText := true, laidKinds := [.data, .data, .data], laidTests := true, laidLooks := .later }
def TopTurnsCardSaid : Prop := Claim7.holds Tryz.pinned (.plain (OpenSpec.ofChange topTurnsSpec)) topTurnsCard

/-- THE SECOND FORM's CARD OF 'sawmilltop.TopVolume'. -/
def topVolumeUptoCard : Claim7 := { stood := { row := topVolumeUptoRow, standIns := [], harness := (true, "6a4e29ba4d5b735d95e7319c2d5bc83d9057cffbc9b2b22c9cef58cf1a3b9d43"), looks := false }, kinds := [], alts := [], laidByText := true, laidKinds := [.data, .data], laidTests := true, laidLooks := .later }
def TopVolumeUptoCardSaid : Prop := Claim7.holds Tryz.pinned (.plain (OpenSpec.upto topVolumeSpec)) topVolumeUptoCard

/-- THE SECOND FORM's CARD OF 'sawmilltop.TopTurns'. -/
def topTurnsUptoCard : Claim7 := { stood := { row := topTurnsUptoRow, standIns := [], harness := (true, "6a4e29ba4d5b735d95e7319c2d5bc83d9057cffbc9b2b22c9cef58cf1a3b9d43"), looks := false }, kinds := [], alts := [], laidByText := true, laidKinds := [.data, .data, .data], laidTests := true, laidLooks := .later }
def TopTurnsUptoCardSaid : Prop := Claim7.holds Tryz.pinned (.plain (OpenSpec.upto topTurnsSpec)) topTurnsUptoCard
end Rows
end Go.Proofs.YtccnpbnokndeeaaGreatDoor
