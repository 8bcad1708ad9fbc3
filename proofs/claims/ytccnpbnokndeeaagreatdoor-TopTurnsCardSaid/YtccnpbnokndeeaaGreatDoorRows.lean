/-
  NARROWER THAN 'FOR EVERY INPUT', by the rows' own cells (each row's printed sentence says how): TopVolume: laid · TopTurns: laid.
  DERIVED. THE GIVEN ROWS OF THIS SEAT. 2 by the template 'for every input the law returns true; each argument reads behind the call as it read before'; 0 by the template 'total and deterministic' (their statements: YtccnpbnokndeeaaGreatDoorTotals.lean).
  GIVEN WITH THE SEED: the statements are not yours to turn. If you find one false, say at which input.
  Laid BY PROGRAM, IN A SANDBOX (cutbox-rows.mjs): the forced cells as the released guide's own fill.sh prints them over the translation 3569d9a6d820bb83… (all of the seat's roots in one cut). By AI agents, Wed Nov 11 2026. No macro, syntax, notation, axiom, sorry.
-/
import Derived.Test.YtccnpbnokndeeaaGreatDoorChecked
import GoSem.Claim
import GoSem.ClaimJoined
import GoSem.ClaimMapViews
import Derived.JoinedTies
import Derived.KernelRfl
namespace Go.Proofs.YtccnpbnokndeeaaGreatDoor
/- THE CELL 'sum', in the pinned program and in every row, IS THE sha256 OF THE DUMP (.gsa) THAT YtccnpbnokndeeaaGreatDoorProg.lean LOADS. Nothing in Lean hashes anything: it is a label: what it is worth is what the hold of that sum in a sandbox is worth. -/
noncomputable def Tryz.pinned : Pinned := { name := "ytccnpbnokndeeaagreatdoor", sum := "3569d9a6d820bb830a3ca4f0f3b4c0e1d94cce29aca1217d528fdf2ff74a11e0", checked := Tryz.checked }
namespace Rows
def none {H : Type} : Left H := { results := [], args := [] }

/- WHAT THE LISTED PACKAGE-LEVEL VARIABLES READ AS WHEN THE CALL BEGINS. Each datum BY PROGRAM (the guide's laid-datum.mjs) off the statement by which the dump's own 'gosem.cut.vars' lays the variable. In a bare row this is a premise. The card (YtccnpbnokndeeaaGreatDoorCards.lean) ties it to the program's text. -/
def laid_sawmill_poly_turns {H : Type} : DataW H := .agg [.agg [.lit (.int .i64 1), .lit (.int .i64 0)], .agg [.lit (.int .i64 0), .lit (.int .i64 1)], .agg [.lit (.int .i64 (-1)), .lit (.int .i64 0)], .agg [.lit (.int .i64 0), .lit (.int .i64 (-1))]]
def laid_sawmill_ring_directions {H : Type} : DataW H := .agg [.lit (.int .i64 (-1)), .lit (.int .i64 1)]
def laid_sawmill_cutting_none {H : Type} : DataW H := .agg [.lit (.int .i64 (-1)), .lit (.int .i64 (-1))]

/-- 'sawmilltop.TopVolume': WHATEVER THE INPUT: true; the input reads as it did. -/
def topVolumeSpec : ChangeSpec := { name := "topVolume", fn := fun _ => fun
  | [d1, d2, d3] => { results := [.lit (.bool true)], args := [d1, d2, d3] }
  | _ => none }
def topVolumeRow : OpenClaim := { program := "ytccnpbnokndeeaagreatdoor", sum := "3569d9a6d820bb830a3ca4f0f3b4c0e1d94cce29aca1217d528fdf2ff74a11e0", func := "sawmill/sawmilltop.TopVolume", spec := "topVolume", unfollowed := true, recurses := true, named := ["sawmill/poly.turns", "sawmill/ring.directions"], apart := false, laid := [("sawmill/poly.turns", laid_sawmill_poly_turns), ("sawmill/ring.directions", laid_sawmill_ring_directions)] }
def TopVolumeSaid : Prop := topVolumeRow.holds Tryz.pinned (OpenSpec.ofChange topVolumeSpec)

/-- ITS FALSE NEIGHBOUR: 'it returns false'. Refute it at one input. -/
def topVolumeWrong : ChangeSpec := { name := "topVolume", fn := fun _ => fun
  | [d1, d2, d3] => { results := [.lit (.bool false)], args := [d1, d2, d3] }
  | _ => none }
def TopVolumeWrongFalsely : Prop := topVolumeRow.holds Tryz.pinned (OpenSpec.ofChange topVolumeWrong)

/-- 'sawmilltop.TopTurns': WHATEVER THE INPUT: true; the input reads as it did. -/
def topTurnsSpec : ChangeSpec := { name := "topTurns", fn := fun _ => fun
  | [d1, d2] => { results := [.lit (.bool true)], args := [d1, d2] }
  | _ => none }
def topTurnsRow : OpenClaim := { program := "ytccnpbnokndeeaagreatdoor", sum := "3569d9a6d820bb830a3ca4f0f3b4c0e1d94cce29aca1217d528fdf2ff74a11e0", func := "sawmill/sawmilltop.TopTurns", spec := "topTurns", unfollowed := true, recurses := true, named := ["sawmill/poly.turns", "sawmill/ring.directions", "sawmill/cutting.none"], apart := false, laid := [("sawmill/cutting.none", laid_sawmill_cutting_none), ("sawmill/poly.turns", laid_sawmill_poly_turns), ("sawmill/ring.directions", laid_sawmill_ring_directions)] }
def TopTurnsSaid : Prop := topTurnsRow.holds Tryz.pinned (OpenSpec.ofChange topTurnsSpec)

/-- ITS FALSE NEIGHBOUR: 'it returns false'. Refute it at one input. -/
def topTurnsWrong : ChangeSpec := { name := "topTurns", fn := fun _ => fun
  | [d1, d2] => { results := [.lit (.bool false)], args := [d1, d2] }
  | _ => none }
def TopTurnsWrongFalsely : Prop := topTurnsRow.holds Tryz.pinned (OpenSpec.ofChange topTurnsWrong)

/- THE SECOND FORM. 'bulk': how many values and letters a reading holds, each counted each time it is reached (what is shared counts as often as it is met; a slice's spare places count too). A statement '..UptoSaid' is the law's where the arguments, and the package variables that the reading takes, are together of bulk at most 1048576: NARROWER than '..Said'. Prove '..Said' where nothing that the law and all that it calls make is longer than what came in: it says more and counts as full. Else prove '..UptoSaid'. A law counts once. -/
mutual
def uptoBulk {H : Type} : DataW H → Nat
  | .lit (.string bytes) => bytes.length + 1
  | .lit _ => 1
  | .nil => 1
  | .ptr d => uptoBulk d + 1
  | .slice elems spare => uptoBulkAll elems + uptoBulkAll spare + 1
  | .agg parts => uptoBulkAll parts + 1
  | .iface _ d => uptoBulk d + 1
  | .map entries => uptoBulkEntries entries + 1
  | .held _ => 1
def uptoBulkAll {H : Type} : List (DataW H) → Nat
  | [] => 0
  | d :: r => uptoBulk d + uptoBulkAll r
def uptoBulkEntries {H : Type} : List (Lit × DataW H) → Nat
  | [] => 0
  | x :: r => uptoBulkEntry x + uptoBulkEntries r
def uptoBulkEntry {H : Type} : Lit × DataW H → Nat
  | (.string bytes, d) => bytes.length + uptoBulk d + 1
  | (_, d) => uptoBulk d + 1
 end
def uptoSmall : (H : Type) → List (DataW H) → Bool := fun _ ds => decide (uptoBulkAll ds ≤ 1048576)
def OpenSpec.upto (s : _root_.Go.ChangeSpec) : _root_.Go.OpenSpec := { _root_.Go.OpenSpec.ofChange s with cond := some uptoSmall }

/-- 'sawmilltop.TopVolume', WHERE WHAT IT READS IS OF BULK AT MOST 1048576: true; the input reads as it did. -/
def topVolumeUptoRow : OpenClaim := { program := "ytccnpbnokndeeaagreatdoor", sum := "3569d9a6d820bb830a3ca4f0f3b4c0e1d94cce29aca1217d528fdf2ff74a11e0", func := "sawmill/sawmilltop.TopVolume", spec := "topVolume", unfollowed := true, recurses := true, named := ["sawmill/poly.turns", "sawmill/ring.directions"], apart := false, laid := [("sawmill/poly.turns", laid_sawmill_poly_turns), ("sawmill/ring.directions", laid_sawmill_ring_directions)], narrowed := true }
def TopVolumeUptoSaid : Prop := topVolumeUptoRow.holds Tryz.pinned (OpenSpec.upto topVolumeSpec)

/-- 'sawmilltop.TopTurns', WHERE WHAT IT READS IS OF BULK AT MOST 1048576: true; the input reads as it did. -/
def topTurnsUptoRow : OpenClaim := { program := "ytccnpbnokndeeaagreatdoor", sum := "3569d9a6d820bb830a3ca4f0f3b4c0e1d94cce29aca1217d528fdf2ff74a11e0", func := "sawmill/sawmilltop.TopTurns", spec := "topTurns", unfollowed := true, recurses := true, named := ["sawmill/poly.turns", "sawmill/ring.directions", "sawmill/cutting.none"], apart := false, laid := [("sawmill/cutting.none", laid_sawmill_cutting_none), ("sawmill/poly.turns", laid_sawmill_poly_turns), ("sawmill/ring.directions", laid_sawmill_ring_directions)], narrowed := true }
def TopTurnsUptoSaid : Prop := topTurnsUptoRow.holds Tryz.pinned (OpenSpec.upto topTurnsSpec)

end Rows
end Go.Proofs.YtccnpbnokndeeaaGreatDoor
