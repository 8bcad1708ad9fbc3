/-
  No cell of these rows narrows 'for every input' (looked for: loops, veiled, ifaces, maps, wideKeys, modest, calm, conditions, laid).
  DERIVED. THE GIVEN ROWS OF THIS SEAT. 4 by the template 'for every input the law returns true; each argument reads behind the call as it read before'; 0 by the template 'total and deterministic' (their statements: YtpoehckffpbfiaaGreatTotals.lean).
  GIVEN WITH THE SEED: the statements are not yours to turn. If you find one false, say at which input.
  Laid BY PROGRAM, IN A SANDBOX (cutbox-rows.mjs): the forced cells as the released guide's own fill.sh prints them over the translation e27c3b1c931e54a4… (all of the seat's roots in one cut). By AI agents, Wed Nov 11 2026. No macro, syntax, notation, axiom, sorry.
-/
import Derived.Test.YtpoehckffpbfiaaGreatChecked
import GoSem.Claim
import GoSem.ClaimJoined
import GoSem.ClaimMapViews
import Derived.JoinedTies
import Derived.KernelRfl
namespace Go.Proofs.YtpoehckffpbfiaaGreat
/- THE CELL 'sum', in the pinned program and in every row, IS THE sha256 OF THE DUMP (.gsa) THAT YtpoehckffpbfiaaGreatProg.lean LOADS. Nothing in Lean hashes anything: it is a label: what it is worth is what the hold of that sum in a sandbox is worth. -/
noncomputable def Tryz.pinned : Pinned := { name := "ytpoehckffpbfiaagreat", sum := "e27c3b1c931e54a44103d6e4a73ad615992fab3d43a50c1342dd806606aeae1b", checked := Tryz.checked }
namespace Rows
def none {H : Type} : Left H := { results := [], args := [] }

/-- 'sawmilllaw30.BoardChecks': WHATEVER THE INPUT: true; the input reads as it did. -/
def boardChecksSpec : ChangeSpec := { name := "boardChecks", fn := fun _ => fun
  | [d1, d2] => { results := [.lit (.bool true)], args := [d1, d2] }
  | _ => none }
def boardChecksRow : OpenClaim := { program := "ytpoehckffpbfiaagreat", sum := "e27c3b1c931e54a44103d6e4a73ad615992fab3d43a50c1342dd806606aeae1b", func := "sawmill/sawmilllaw30.BoardChecks", spec := "boardChecks", inPlace := ["internal/abi.NoEscape"], unfollowed := true, recurses := true, apart := false }
def BoardChecksSaid : Prop := boardChecksRow.holds Tryz.pinned (OpenSpec.ofChange boardChecksSpec)

/-- ITS FALSE NEIGHBOUR: 'it returns false'. Refute it at one input. -/
def boardChecksWrong : ChangeSpec := { name := "boardChecks", fn := fun _ => fun
  | [d1, d2] => { results := [.lit (.bool false)], args := [d1, d2] }
  | _ => none }
def BoardChecksWrongFalsely : Prop := boardChecksRow.holds Tryz.pinned (OpenSpec.ofChange boardChecksWrong)

/-- 'sawmilllaw30.BoardNews': WHATEVER THE INPUT: true; the input reads as it did. -/
def boardNewsSpec : ChangeSpec := { name := "boardNews", fn := fun _ => fun
  | [d1, d2] => { results := [.lit (.bool true)], args := [d1, d2] }
  | _ => none }
def boardNewsRow : OpenClaim := { program := "ytpoehckffpbfiaagreat", sum := "e27c3b1c931e54a44103d6e4a73ad615992fab3d43a50c1342dd806606aeae1b", func := "sawmill/sawmilllaw30.BoardNews", spec := "boardNews", inPlace := ["internal/abi.NoEscape"], unfollowed := true, recurses := true, apart := false }
def BoardNewsSaid : Prop := boardNewsRow.holds Tryz.pinned (OpenSpec.ofChange boardNewsSpec)

/-- ITS FALSE NEIGHBOUR: 'it returns false'. Refute it at one input. -/
def boardNewsWrong : ChangeSpec := { name := "boardNews", fn := fun _ => fun
  | [d1, d2] => { results := [.lit (.bool false)], args := [d1, d2] }
  | _ => none }
def BoardNewsWrongFalsely : Prop := boardNewsRow.holds Tryz.pinned (OpenSpec.ofChange boardNewsWrong)

/-- 'sawmilllaw30.BoardTexts': WHATEVER THE INPUT: true; the input reads as it did. -/
def boardTextsSpec : ChangeSpec := { name := "boardTexts", fn := fun _ => fun
  | [d1, d2] => { results := [.lit (.bool true)], args := [d1, d2] }
  | _ => none }
def boardTextsRow : OpenClaim := { program := "ytpoehckffpbfiaagreat", sum := "e27c3b1c931e54a44103d6e4a73ad615992fab3d43a50c1342dd806606aeae1b", func := "sawmill/sawmilllaw30.BoardTexts", spec := "boardTexts", inPlace := ["internal/abi.NoEscape"], unfollowed := true, recurses := true, apart := false }
def BoardTextsSaid : Prop := boardTextsRow.holds Tryz.pinned (OpenSpec.ofChange boardTextsSpec)

/-- ITS FALSE NEIGHBOUR: 'it returns false'. Refute it at one input. -/
def boardTextsWrong : ChangeSpec := { name := "boardTexts", fn := fun _ => fun
  | [d1, d2] => { results := [.lit (.bool false)], args := [d1, d2] }
  | _ => none }
def BoardTextsWrongFalsely : Prop := boardTextsRow.holds Tryz.pinned (OpenSpec.ofChange boardTextsWrong)

/-- 'sawmilllaw30.BoardAccepted': WHATEVER THE INPUT: true; the input reads as it did. -/
def boardAcceptedSpec : ChangeSpec := { name := "boardAccepted", fn := fun _ => fun
  | [d1, d2, d3] => { results := [.lit (.bool true)], args := [d1, d2, d3] }
  | _ => none }
def boardAcceptedRow : OpenClaim := { program := "ytpoehckffpbfiaagreat", sum := "e27c3b1c931e54a44103d6e4a73ad615992fab3d43a50c1342dd806606aeae1b", func := "sawmill/sawmilllaw30.BoardAccepted", spec := "boardAccepted", inPlace := ["internal/abi.NoEscape"], unfollowed := true, recurses := true, apart := false }
def BoardAcceptedSaid : Prop := boardAcceptedRow.holds Tryz.pinned (OpenSpec.ofChange boardAcceptedSpec)

/-- ITS FALSE NEIGHBOUR: 'it returns false'. Refute it at one input. -/
def boardAcceptedWrong : ChangeSpec := { name := "boardAccepted", fn := fun _ => fun
  | [d1, d2, d3] => { results := [.lit (.bool false)], args := [d1, d2, d3] }
  | _ => none }
def BoardAcceptedWrongFalsely : Prop := boardAcceptedRow.holds Tryz.pinned (OpenSpec.ofChange boardAcceptedWrong)

/- THE SECOND FORM. 'bulk': how many values and letters a reading holds, each counted each time it is reached (what is shared counts as often as it is met; a slice's spare places count too). A statement '..UptoSaid' is the law's where the arguments, and the package variables that the reading takes, are together of bulk at most 1048576: NARROWER than '..Said'. Prove '..Said' where nothing that the law and all that it calls make is longer than what came in: it says more and counts as full. Else prove '..UptoSaid'. A law counts once. -/
mutual
def uptoBulk {H : Type} : DataW H → Nat
  | .lit (.string bytes) => bytes.length + 1
  | .lit _ => 1
  | .nil => 1
  | .ptr d => uptoBulk d + 1
  | .slice elems spare => uptoBulkAll elems + uptoBulkAll spare + 1
  | .agg parts => uptoBulkAll parts + 1
  | .iface _ d => uptoBulk d + 1
  | .map entries => uptoBulkEntries entries + 1
  | .held _ => 1
def uptoBulkAll {H : Type} : List (DataW H) → Nat
  | [] => 0
  | d :: r => uptoBulk d + uptoBulkAll r
def uptoBulkEntries {H : Type} : List (Lit × DataW H) → Nat
  | [] => 0
  | x :: r => uptoBulkEntry x + uptoBulkEntries r
def uptoBulkEntry {H : Type} : Lit × DataW H → Nat
  | (.string bytes, d) => bytes.length + uptoBulk d + 1
  | (_, d) => uptoBulk d + 1
 end
def uptoSmall : (H : Type) → List (DataW H) → Bool := fun _ ds => decide (uptoBulkAll ds ≤ 1048576)
def OpenSpec.upto (s : _root_.Go.ChangeSpec) : _root_.Go.OpenSpec := { _root_.Go.OpenSpec.ofChange s with cond := some uptoSmall }

/-- 'sawmilllaw30.BoardChecks', WHERE WHAT IT READS IS OF BULK AT MOST 1048576: true; the input reads as it did. -/
def boardChecksUptoRow : OpenClaim := { program := "ytpoehckffpbfiaagreat", sum := "e27c3b1c931e54a44103d6e4a73ad615992fab3d43a50c1342dd806606aeae1b", func := "sawmill/sawmilllaw30.BoardChecks", spec := "boardChecks", inPlace := ["internal/abi.NoEscape"], unfollowed := true, recurses := true, apart := false, narrowed := true }
def BoardChecksUptoSaid : Prop := boardChecksUptoRow.holds Tryz.pinned (OpenSpec.upto boardChecksSpec)

/-- 'sawmilllaw30.BoardNews', WHERE WHAT IT READS IS OF BULK AT MOST 1048576: true; the input reads as it did. -/
def boardNewsUptoRow : OpenClaim := { program := "ytpoehckffpbfiaagreat", sum := "e27c3b1c931e54a44103d6e4a73ad615992fab3d43a50c1342dd806606aeae1b", func := "sawmill/sawmilllaw30.BoardNews", spec := "boardNews", inPlace := ["internal/abi.NoEscape"], unfollowed := true, recurses := true, apart := false, narrowed := true }
def BoardNewsUptoSaid : Prop := boardNewsUptoRow.holds Tryz.pinned (OpenSpec.upto boardNewsSpec)

/-- 'sawmilllaw30.BoardTexts', WHERE WHAT IT READS IS OF BULK AT MOST 1048576: true; the input reads as it did. -/
def boardTextsUptoRow : OpenClaim := { program := "ytpoehckffpbfiaagreat", sum := "e27c3b1c931e54a44103d6e4a73ad615992fab3d43a50c1342dd806606aeae1b", func := "sawmill/sawmilllaw30.BoardTexts", spec := "boardTexts", inPlace := ["internal/abi.NoEscape"], unfollowed := true, recurses := true, apart := false, narrowed := true }
def BoardTextsUptoSaid : Prop := boardTextsUptoRow.holds Tryz.pinned (OpenSpec.upto boardTextsSpec)

/-- 'sawmilllaw30.BoardAccepted', WHERE WHAT IT READS IS OF BULK AT MOST 1048576: true; the input reads as it did. -/
def boardAcceptedUptoRow : OpenClaim := { program := "ytpoehckffpbfiaagreat", sum := "e27c3b1c931e54a44103d6e4a73ad615992fab3d43a50c1342dd806606aeae1b", func := "sawmill/sawmilllaw30.BoardAccepted", spec := "boardAccepted", inPlace := ["internal/abi.NoEscape"], unfollowed := true, recurses := true, apart := false, narrowed := true }
def BoardAcceptedUptoSaid : Prop := boardAcceptedUptoRow.holds Tryz.pinned (OpenSpec.upto boardAcceptedSpec)

end Rows
end Go.Proofs.YtpoehckffpbfiaaGreat
