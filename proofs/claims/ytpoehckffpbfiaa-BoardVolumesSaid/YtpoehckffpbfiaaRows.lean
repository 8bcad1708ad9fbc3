/-
  No cell of these rows narrows 'for every input' (looked for: loops, veiled, ifaces, maps, wideKeys, modest, calm, conditions, laid).
  DERIVED. THE GIVEN ROWS OF THIS SEAT. 3 by the template 'for every input the law returns true; each argument reads behind the call as it read before'; 0 by the template 'total and deterministic' (their statements: YtpoehckffpbfiaaTotals.lean).
  GIVEN WITH THE SEED: the statements are not yours to turn. If you find one false, say at which input.
  Laid BY PROGRAM, IN A SANDBOX (cutbox-rows.mjs): the forced cells as the released guide's own fill.sh prints them over the translation 4f79237ef7c345ed… (all of the seat's roots in one cut). By AI agents, Wed Nov 11 2026. No macro, syntax, notation, axiom, sorry.
-/
import Derived.Test.YtpoehckffpbfiaaChecked
import GoSem.Claim
import GoSem.ClaimJoined
import GoSem.ClaimMapViews
import Derived.JoinedTies
import Derived.KernelRfl
namespace Go.Proofs.Ytpoehckffpbfiaa
/- THE CELL 'sum', in the pinned program and in every row, IS THE sha256 OF THE DUMP (.gsa) THAT YtpoehckffpbfiaaProg.lean LOADS. Nothing in Lean hashes anything: it is a label: what it is worth is what the hold of that sum in a sandbox is worth. -/
noncomputable def Try.pinned : Pinned := { name := "ytpoehckffpbfiaa", sum := "4f79237ef7c345ed40de4463143eed55bcc07dd110aedeb5a129b4ce6f028ea3", checked := Try.checked }
namespace Rows
def none {H : Type} : Left H := { results := [], args := [] }

/-- 'sawmilllaw30.BoardSizes': WHATEVER THE INPUT: true; the input reads as it did. -/
def boardSizesSpec : ChangeSpec := { name := "boardSizes", fn := fun _ => fun
  | [d1, d2] => { results := [.lit (.bool true)], args := [d1, d2] }
  | _ => none }
def boardSizesRow : OpenClaim := { program := "ytpoehckffpbfiaa", sum := "4f79237ef7c345ed40de4463143eed55bcc07dd110aedeb5a129b4ce6f028ea3", func := "sawmill/sawmilllaw30.BoardSizes", spec := "boardSizes", inPlace := ["internal/abi.NoEscape"], unfollowed := true, recurses := true, apart := false }
def BoardSizesSaid : Prop := boardSizesRow.holds Try.pinned (OpenSpec.ofChange boardSizesSpec)

/-- ITS FALSE NEIGHBOUR: 'it returns false'. Refute it at one input. -/
def boardSizesWrong : ChangeSpec := { name := "boardSizes", fn := fun _ => fun
  | [d1, d2] => { results := [.lit (.bool false)], args := [d1, d2] }
  | _ => none }
def BoardSizesWrongFalsely : Prop := boardSizesRow.holds Try.pinned (OpenSpec.ofChange boardSizesWrong)

/-- 'sawmilllaw30.BoardBack': WHATEVER THE INPUT: true; the input reads as it did. -/
def boardBackSpec : ChangeSpec := { name := "boardBack", fn := fun _ => fun
  | [d1, d2, d3] => { results := [.lit (.bool true)], args := [d1, d2, d3] }
  | _ => none }
def boardBackRow : OpenClaim := { program := "ytpoehckffpbfiaa", sum := "4f79237ef7c345ed40de4463143eed55bcc07dd110aedeb5a129b4ce6f028ea3", func := "sawmill/sawmilllaw30.BoardBack", spec := "boardBack", inPlace := ["internal/abi.NoEscape"], unfollowed := true, recurses := true, apart := false }
def BoardBackSaid : Prop := boardBackRow.holds Try.pinned (OpenSpec.ofChange boardBackSpec)

/-- ITS FALSE NEIGHBOUR: 'it returns false'. Refute it at one input. -/
def boardBackWrong : ChangeSpec := { name := "boardBack", fn := fun _ => fun
  | [d1, d2, d3] => { results := [.lit (.bool false)], args := [d1, d2, d3] }
  | _ => none }
def BoardBackWrongFalsely : Prop := boardBackRow.holds Try.pinned (OpenSpec.ofChange boardBackWrong)

/-- 'sawmilllaw30.BoardVolumes': WHATEVER THE INPUT: true; the input reads as it did. -/
def boardVolumesSpec : ChangeSpec := { name := "boardVolumes", fn := fun _ => fun
  | [d1, d2] => { results := [.lit (.bool true)], args := [d1, d2] }
  | _ => none }
def boardVolumesRow : OpenClaim := { program := "ytpoehckffpbfiaa", sum := "4f79237ef7c345ed40de4463143eed55bcc07dd110aedeb5a129b4ce6f028ea3", func := "sawmill/sawmilllaw30.BoardVolumes", spec := "boardVolumes", inPlace := ["internal/abi.NoEscape"], unfollowed := true, recurses := true, apart := false }
def BoardVolumesSaid : Prop := boardVolumesRow.holds Try.pinned (OpenSpec.ofChange boardVolumesSpec)

/-- ITS FALSE NEIGHBOUR: 'it returns false'. Refute it at one input. -/
def boardVolumesWrong : ChangeSpec := { name := "boardVolumes", fn := fun _ => fun
  | [d1, d2] => { results := [.lit (.bool false)], args := [d1, d2] }
  | _ => none }
def BoardVolumesWrongFalsely : Prop := boardVolumesRow.holds Try.pinned (OpenSpec.ofChange boardVolumesWrong)

/- THE SECOND FORM. 'bulk': how many values and letters a reading holds, each counted each time it is reached (what is shared counts as often as it is met; a slice's spare places count too). A statement '..UptoSaid' is the law's where the arguments, and the package variables that the reading takes, are together of bulk at most 1048576: NARROWER than '..Said'. Prove '..Said' where nothing that the law and all that it calls make is longer than what came in: it says more and counts as full. Else prove '..UptoSaid'. A law counts once. -/
mutual
def uptoBulk {H : Type} : DataW H → Nat
  | .lit (.string bytes) => bytes.length + 1
  | .lit _ => 1
  | .nil => 1
  | .ptr d => uptoBulk d + 1
  | .slice elems spare => uptoBulkAll elems + uptoBulkAll spare + 1
  | .agg parts => uptoBulkAll parts + 1
  | .iface _ d => uptoBulk d + 1
  | .map entries => uptoBulkEntries entries + 1
  | .held _ => 1
def uptoBulkAll {H : Type} : List (DataW H) → Nat
  | [] => 0
  | d :: r => uptoBulk d + uptoBulkAll r
def uptoBulkEntries {H : Type} : List (Lit × DataW H) → Nat
  | [] => 0
  | x :: r => uptoBulkEntry x + uptoBulkEntries r
def uptoBulkEntry {H : Type} : Lit × DataW H → Nat
  | (.string bytes, d) => bytes.length + uptoBulk d + 1
  | (_, d) => uptoBulk d + 1
 end
def uptoSmall : (H : Type) → List (DataW H) → Bool := fun _ ds => decide (uptoBulkAll ds ≤ 1048576)
def OpenSpec.upto (s : _root_.Go.ChangeSpec) : _root_.Go.OpenSpec := { _root_.Go.OpenSpec.ofChange s with cond := some uptoSmall }

/-- 'sawmilllaw30.BoardSizes', WHERE WHAT IT READS IS OF BULK AT MOST 1048576: true; the input reads as it did. -/
def boardSizesUptoRow : OpenClaim := { program := "ytpoehckffpbfiaa", sum := "4f79237ef7c345ed40de4463143eed55bcc07dd110aedeb5a129b4ce6f028ea3", func := "sawmill/sawmilllaw30.BoardSizes", spec := "boardSizes", inPlace := ["internal/abi.NoEscape"], unfollowed := true, recurses := true, apart := false, narrowed := true }
def BoardSizesUptoSaid : Prop := boardSizesUptoRow.holds Try.pinned (OpenSpec.upto boardSizesSpec)

/-- 'sawmilllaw30.BoardBack', WHERE WHAT IT READS IS OF BULK AT MOST 1048576: true; the input reads as it did. -/
def boardBackUptoRow : OpenClaim := { program := "ytpoehckffpbfiaa", sum := "4f79237ef7c345ed40de4463143eed55bcc07dd110aedeb5a129b4ce6f028ea3", func := "sawmill/sawmilllaw30.BoardBack", spec := "boardBack", inPlace := ["internal/abi.NoEscape"], unfollowed := true, recurses := true, apart := false, narrowed := true }
def BoardBackUptoSaid : Prop := boardBackUptoRow.holds Try.pinned (OpenSpec.upto boardBackSpec)

/-- 'sawmilllaw30.BoardVolumes', WHERE WHAT IT READS IS OF BULK AT MOST 1048576: true; the input reads as it did. -/
def boardVolumesUptoRow : OpenClaim := { program := "ytpoehckffpbfiaa", sum := "4f79237ef7c345ed40de4463143eed55bcc07dd110aedeb5a129b4ce6f028ea3", func := "sawmill/sawmilllaw30.BoardVolumes", spec := "boardVolumes", inPlace := ["internal/abi.NoEscape"], unfollowed := true, recurses := true, apart := false, narrowed := true }
def BoardVolumesUptoSaid : Prop := boardVolumesUptoRow.holds Try.pinned (OpenSpec.upto boardVolumesSpec)

end Rows
end Go.Proofs.Ytpoehckffpbfiaa
