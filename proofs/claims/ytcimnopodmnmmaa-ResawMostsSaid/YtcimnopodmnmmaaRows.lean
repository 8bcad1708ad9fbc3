/-
  No cell of these rows narrows 'for every input' (looked for: loops, veiled, ifaces, maps, wideKeys, modest, calm, conditions, laid).
  DERIVED. THE GIVEN ROWS OF THIS SEAT. 8 by the template 'for every input the law returns true; each argument reads behind the call as it read before'; 0 by the template 'total and deterministic' (their statements: YtcimnopodmnmmaaTotals.lean).
  GIVEN WITH THE SEED: the statements are not yours to turn. If you find one false, say at which input.
  Laid BY PROGRAM, IN A SANDBOX (cutbox-rows.mjs): the forced cells as the released guide's own fill.sh prints them over the translation b75268dffd6f053b… (all of the seat's roots in one cut). By AI agents, Wed Nov 11 2026. No macro, syntax, notation, axiom, sorry.
-/
import Derived.Test.YtcimnopodmnmmaaChecked
import GoSem.Claim
import GoSem.ClaimJoined
import GoSem.ClaimMapViews
import Derived.JoinedTies
import Derived.KernelRfl
namespace Go.Proofs.Ytcimnopodmnmmaa
/- THE CELL 'sum', in the pinned program and in every row, IS THE sha256 OF THE DUMP (.gsa) THAT YtcimnopodmnmmaaProg.lean LOADS. Nothing in Lean hashes anything: it is a label: what it is worth is what the hold of that sum in a sandbox is worth. -/
noncomputable def Try.pinned : Pinned := { name := "ytcimnopodmnmmaa", sum := "b75268dffd6f053b1bf9eb8b607e081180502914aed9614883e5ff36e3c16211", checked := Try.checked }
namespace Rows
def none {H : Type} : Left H := { results := [], args := [] }

/-- 'sawmilllaw27.ResawSpans': WHATEVER THE INPUT: true; the input reads as it did. -/
def resawSpansSpec : ChangeSpec := { name := "resawSpans", fn := fun _ => fun
  | [d] => { results := [.lit (.bool true)], args := [d] }
  | _ => none }
def resawSpansRow : OpenClaim := { program := "ytcimnopodmnmmaa", sum := "b75268dffd6f053b1bf9eb8b607e081180502914aed9614883e5ff36e3c16211", func := "sawmill/sawmilllaw27.ResawSpans", spec := "resawSpans", unfollowed := true, recurses := true, apart := false }
def ResawSpansSaid : Prop := resawSpansRow.holds Try.pinned (OpenSpec.ofChange resawSpansSpec)

/-- ITS FALSE NEIGHBOUR: 'it returns false'. Refute it at one input. -/
def resawSpansWrong : ChangeSpec := { name := "resawSpans", fn := fun _ => fun
  | [d] => { results := [.lit (.bool false)], args := [d] }
  | _ => none }
def ResawSpansWrongFalsely : Prop := resawSpansRow.holds Try.pinned (OpenSpec.ofChange resawSpansWrong)

/-- 'sawmilllaw27.ResawMosts': WHATEVER THE INPUT: true; the input reads as it did. -/
def resawMostsSpec : ChangeSpec := { name := "resawMosts", fn := fun _ => fun
  | [d] => { results := [.lit (.bool true)], args := [d] }
  | _ => none }
def resawMostsRow : OpenClaim := { program := "ytcimnopodmnmmaa", sum := "b75268dffd6f053b1bf9eb8b607e081180502914aed9614883e5ff36e3c16211", func := "sawmill/sawmilllaw27.ResawMosts", spec := "resawMosts", unfollowed := true, recurses := true, apart := false }
def ResawMostsSaid : Prop := resawMostsRow.holds Try.pinned (OpenSpec.ofChange resawMostsSpec)

/-- ITS FALSE NEIGHBOUR: 'it returns false'. Refute it at one input. -/
def resawMostsWrong : ChangeSpec := { name := "resawMosts", fn := fun _ => fun
  | [d] => { results := [.lit (.bool false)], args := [d] }
  | _ => none }
def ResawMostsWrongFalsely : Prop := resawMostsRow.holds Try.pinned (OpenSpec.ofChange resawMostsWrong)

/-- 'sawmilllaw27.ResawSplits': WHATEVER THE INPUT: true; the input reads as it did. -/
def resawSplitsSpec : ChangeSpec := { name := "resawSplits", fn := fun _ => fun
  | [d] => { results := [.lit (.bool true)], args := [d] }
  | _ => none }
def resawSplitsRow : OpenClaim := { program := "ytcimnopodmnmmaa", sum := "b75268dffd6f053b1bf9eb8b607e081180502914aed9614883e5ff36e3c16211", func := "sawmill/sawmilllaw27.ResawSplits", spec := "resawSplits", unfollowed := true, recurses := true, apart := false }
def ResawSplitsSaid : Prop := resawSplitsRow.holds Try.pinned (OpenSpec.ofChange resawSplitsSpec)

/-- ITS FALSE NEIGHBOUR: 'it returns false'. Refute it at one input. -/
def resawSplitsWrong : ChangeSpec := { name := "resawSplits", fn := fun _ => fun
  | [d] => { results := [.lit (.bool false)], args := [d] }
  | _ => none }
def ResawSplitsWrongFalsely : Prop := resawSplitsRow.holds Try.pinned (OpenSpec.ofChange resawSplitsWrong)

/-- 'sawmilllaw27.ResawParts': WHATEVER THE INPUT: true; the input reads as it did. -/
def resawPartsSpec : ChangeSpec := { name := "resawParts", fn := fun _ => fun
  | [d] => { results := [.lit (.bool true)], args := [d] }
  | _ => none }
def resawPartsRow : OpenClaim := { program := "ytcimnopodmnmmaa", sum := "b75268dffd6f053b1bf9eb8b607e081180502914aed9614883e5ff36e3c16211", func := "sawmill/sawmilllaw27.ResawParts", spec := "resawParts", unfollowed := true, recurses := true, apart := false }
def ResawPartsSaid : Prop := resawPartsRow.holds Try.pinned (OpenSpec.ofChange resawPartsSpec)

/-- ITS FALSE NEIGHBOUR: 'it returns false'. Refute it at one input. -/
def resawPartsWrong : ChangeSpec := { name := "resawParts", fn := fun _ => fun
  | [d] => { results := [.lit (.bool false)], args := [d] }
  | _ => none }
def ResawPartsWrongFalsely : Prop := resawPartsRow.holds Try.pinned (OpenSpec.ofChange resawPartsWrong)

/-- 'sawmilllaw27.ResawBest': WHATEVER THE INPUT: true; the input reads as it did. -/
def resawBestSpec : ChangeSpec := { name := "resawBest", fn := fun _ => fun
  | [d1, d2] => { results := [.lit (.bool true)], args := [d1, d2] }
  | _ => none }
def resawBestRow : OpenClaim := { program := "ytcimnopodmnmmaa", sum := "b75268dffd6f053b1bf9eb8b607e081180502914aed9614883e5ff36e3c16211", func := "sawmill/sawmilllaw27.ResawBest", spec := "resawBest", unfollowed := true, recurses := true, apart := false }
def ResawBestSaid : Prop := resawBestRow.holds Try.pinned (OpenSpec.ofChange resawBestSpec)

/-- ITS FALSE NEIGHBOUR: 'it returns false'. Refute it at one input. -/
def resawBestWrong : ChangeSpec := { name := "resawBest", fn := fun _ => fun
  | [d1, d2] => { results := [.lit (.bool false)], args := [d1, d2] }
  | _ => none }
def ResawBestWrongFalsely : Prop := resawBestRow.holds Try.pinned (OpenSpec.ofChange resawBestWrong)

/-- 'sawmilllaw27.ResawMore': WHATEVER THE INPUT: true; the input reads as it did. -/
def resawMoreSpec : ChangeSpec := { name := "resawMore", fn := fun _ => fun
  | [d1, d2] => { results := [.lit (.bool true)], args := [d1, d2] }
  | _ => none }
def resawMoreRow : OpenClaim := { program := "ytcimnopodmnmmaa", sum := "b75268dffd6f053b1bf9eb8b607e081180502914aed9614883e5ff36e3c16211", func := "sawmill/sawmilllaw27.ResawMore", spec := "resawMore", unfollowed := true, recurses := true, apart := false }
def ResawMoreSaid : Prop := resawMoreRow.holds Try.pinned (OpenSpec.ofChange resawMoreSpec)

/-- ITS FALSE NEIGHBOUR: 'it returns false'. Refute it at one input. -/
def resawMoreWrong : ChangeSpec := { name := "resawMore", fn := fun _ => fun
  | [d1, d2] => { results := [.lit (.bool false)], args := [d1, d2] }
  | _ => none }
def ResawMoreWrongFalsely : Prop := resawMoreRow.holds Try.pinned (OpenSpec.ofChange resawMoreWrong)

/-- 'sawmilllaw27.ResawBoards': WHATEVER THE INPUT: true; the input reads as it did. -/
def resawBoardsSpec : ChangeSpec := { name := "resawBoards", fn := fun _ => fun
  | [d] => { results := [.lit (.bool true)], args := [d] }
  | _ => none }
def resawBoardsRow : OpenClaim := { program := "ytcimnopodmnmmaa", sum := "b75268dffd6f053b1bf9eb8b607e081180502914aed9614883e5ff36e3c16211", func := "sawmill/sawmilllaw27.ResawBoards", spec := "resawBoards", unfollowed := true, recurses := true, apart := false }
def ResawBoardsSaid : Prop := resawBoardsRow.holds Try.pinned (OpenSpec.ofChange resawBoardsSpec)

/-- ITS FALSE NEIGHBOUR: 'it returns false'. Refute it at one input. -/
def resawBoardsWrong : ChangeSpec := { name := "resawBoards", fn := fun _ => fun
  | [d] => { results := [.lit (.bool false)], args := [d] }
  | _ => none }
def ResawBoardsWrongFalsely : Prop := resawBoardsRow.holds Try.pinned (OpenSpec.ofChange resawBoardsWrong)

/-- 'sawmilllaw27.ResawDefects': WHATEVER THE INPUT: true; the input reads as it did. -/
def resawDefectsSpec : ChangeSpec := { name := "resawDefects", fn := fun _ => fun
  | [d] => { results := [.lit (.bool true)], args := [d] }
  | _ => none }
def resawDefectsRow : OpenClaim := { program := "ytcimnopodmnmmaa", sum := "b75268dffd6f053b1bf9eb8b607e081180502914aed9614883e5ff36e3c16211", func := "sawmill/sawmilllaw27.ResawDefects", spec := "resawDefects", unfollowed := true, recurses := true, apart := false }
def ResawDefectsSaid : Prop := resawDefectsRow.holds Try.pinned (OpenSpec.ofChange resawDefectsSpec)

/-- ITS FALSE NEIGHBOUR: 'it returns false'. Refute it at one input. -/
def resawDefectsWrong : ChangeSpec := { name := "resawDefects", fn := fun _ => fun
  | [d] => { results := [.lit (.bool false)], args := [d] }
  | _ => none }
def ResawDefectsWrongFalsely : Prop := resawDefectsRow.holds Try.pinned (OpenSpec.ofChange resawDefectsWrong)

/- THE SECOND FORM. 'bulk': how many values and letters a reading holds, each counted each time it is reached (what is shared counts as often as it is met; a slice's spare places count too). A statement '..UptoSaid' is the law's where the arguments, and the package variables that the reading takes, are together of bulk at most 1048576: NARROWER than '..Said'. Prove '..Said' where nothing that the law and all that it calls make is longer than what came in: it says more and counts as full. Else prove '..UptoSaid'. A law counts once. -/
mutual
def uptoBulk {H : Type} : DataW H → Nat
  | .lit (.string bytes) => bytes.length + 1
  | .lit _ => 1
  | .nil => 1
  | .ptr d => uptoBulk d + 1
  | .slice elems spare => uptoBulkAll elems + uptoBulkAll spare + 1
  | .agg parts => uptoBulkAll parts + 1
  | .iface _ d => uptoBulk d + 1
  | .map entries => uptoBulkEntries entries + 1
  | .held _ => 1
def uptoBulkAll {H : Type} : List (DataW H) → Nat
  | [] => 0
  | d :: r => uptoBulk d + uptoBulkAll r
def uptoBulkEntries {H : Type} : List (Lit × DataW H) → Nat
  | [] => 0
  | x :: r => uptoBulkEntry x + uptoBulkEntries r
def uptoBulkEntry {H : Type} : Lit × DataW H → Nat
  | (.string bytes, d) => bytes.length + uptoBulk d + 1
  | (_, d) => uptoBulk d + 1
 end
def uptoSmall : (H : Type) → List (DataW H) → Bool := fun _ ds => decide (uptoBulkAll ds ≤ 1048576)
def OpenSpec.upto (s : _root_.Go.ChangeSpec) : _root_.Go.OpenSpec := { _root_.Go.OpenSpec.ofChange s with cond := some uptoSmall }

/-- 'sawmilllaw27.ResawSpans', WHERE WHAT IT READS IS OF BULK AT MOST 1048576: true; the input reads as it did. -/
def resawSpansUptoRow : OpenClaim := { program := "ytcimnopodmnmmaa", sum := "b75268dffd6f053b1bf9eb8b607e081180502914aed9614883e5ff36e3c16211", func := "sawmill/sawmilllaw27.ResawSpans", spec := "resawSpans", unfollowed := true, recurses := true, apart := false, narrowed := true }
def ResawSpansUptoSaid : Prop := resawSpansUptoRow.holds Try.pinned (OpenSpec.upto resawSpansSpec)

/-- 'sawmilllaw27.ResawMosts', WHERE WHAT IT READS IS OF BULK AT MOST 1048576: true; the input reads as it did. -/
def resawMostsUptoRow : OpenClaim := { program := "ytcimnopodmnmmaa", sum := "b75268dffd6f053b1bf9eb8b607e081180502914aed9614883e5ff36e3c16211", func := "sawmill/sawmilllaw27.ResawMosts", spec := "resawMosts", unfollowed := true, recurses := true, apart := false, narrowed := true }
def ResawMostsUptoSaid : Prop := resawMostsUptoRow.holds Try.pinned (OpenSpec.upto resawMostsSpec)

/-- 'sawmilllaw27.ResawSplits', WHERE WHAT IT READS IS OF BULK AT MOST 1048576: true; the input reads as it did. -/
def resawSplitsUptoRow : OpenClaim := { program := "ytcimnopodmnmmaa", sum := "b75268dffd6f053b1bf9eb8b607e081180502914aed9614883e5ff36e3c16211", func := "sawmill/sawmilllaw27.ResawSplits", spec := "resawSplits", unfollowed := true, recurses := true, apart := false, narrowed := true }
def ResawSplitsUptoSaid : Prop := resawSplitsUptoRow.holds Try.pinned (OpenSpec.upto resawSplitsSpec)

/-- 'sawmilllaw27.ResawParts', WHERE WHAT IT READS IS OF BULK AT MOST 1048576: true; the input reads as it did. -/
def resawPartsUptoRow : OpenClaim := { program := "ytcimnopodmnmmaa", sum := "b75268dffd6f053b1bf9eb8b607e081180502914aed9614883e5ff36e3c16211", func := "sawmill/sawmilllaw27.ResawParts", spec := "resawParts", unfollowed := true, recurses := true, apart := false, narrowed := true }
def ResawPartsUptoSaid : Prop := resawPartsUptoRow.holds Try.pinned (OpenSpec.upto resawPartsSpec)

/-- 'sawmilllaw27.ResawBest', WHERE WHAT IT READS IS OF BULK AT MOST 1048576: true; the input reads as it did. -/
def resawBestUptoRow : OpenClaim := { program := "ytcimnopodmnmmaa", sum := "b75268dffd6f053b1bf9eb8b607e081180502914aed9614883e5ff36e3c16211", func := "sawmill/sawmilllaw27.ResawBest", spec := "resawBest", unfollowed := true, recurses := true, apart := false, narrowed := true }
def ResawBestUptoSaid : Prop := resawBestUptoRow.holds Try.pinned (OpenSpec.upto resawBestSpec)

/-- 'sawmilllaw27.ResawMore', WHERE WHAT IT READS IS OF BULK AT MOST 1048576: true; the input reads as it did. -/
def resawMoreUptoRow : OpenClaim := { program := "ytcimnopodmnmmaa", sum := "b75268dffd6f053b1bf9eb8b607e081180502914aed9614883e5ff36e3c16211", func := "sawmill/sawmilllaw27.ResawMore", spec := "resawMore", unfollowed := true, recurses := true, apart := false, narrowed := true }
def ResawMoreUptoSaid : Prop := resawMoreUptoRow.holds Try.pinned (OpenSpec.upto resawMoreSpec)

/-- 'sawmilllaw27.ResawBoards', WHERE WHAT IT READS IS OF BULK AT MOST 1048576: true; the input reads as it did. -/
def resawBoardsUptoRow : OpenClaim := { program := "ytcimnopodmnmmaa", sum := "b75268dffd6f053b1bf9eb8b607e081180502914aed9614883e5ff36e3c16211", func := "sawmill/sawmilllaw27.ResawBoards", spec := "resawBoards", unfollowed := true, recurses := true, apart := false, narrowed := true }
def ResawBoardsUptoSaid : Prop := resawBoardsUptoRow.holds Try.pinned (OpenSpec.upto resawBoardsSpec)

/-- 'sawmilllaw27.ResawDefects', WHERE WHAT IT READS IS OF BULK AT MOST 1048576: true; the input reads as it did. -/
def resawDefectsUptoRow : OpenClaim := { program := "ytcimnopodmnmmaa", sum := "b75268dffd6f053b1bf9eb8b607e081180502914aed9614883e5ff36e3c16211", func := "sawmill/sawmilllaw27.ResawDefects", spec := "resawDefects", unfollowed := true, recurses := true, apart := false, narrowed := true }
def ResawDefectsUptoSaid : Prop := resawDefectsUptoRow.holds Try.pinned (OpenSpec.upto resawDefectsSpec)

end Rows
end Go.Proofs.Ytcimnopodmnmmaa
