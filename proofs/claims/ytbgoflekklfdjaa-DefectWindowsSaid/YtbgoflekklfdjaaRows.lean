/-
  No cell of these rows narrows 'for every input' (looked for: loops, veiled, ifaces, maps, wideKeys, modest, calm, conditions, laid).
  DERIVED. THE GIVEN ROWS OF THIS SEAT. 12 by the template 'for every input the law returns true; each argument reads behind the call as it read before'; 0 by the template 'total and deterministic' (their statements: YtbgoflekklfdjaaTotals.lean).
  GIVEN WITH THE SEED: the statements are not yours to turn. If you find one false, say at which input.
  Laid BY PROGRAM, IN A SANDBOX (cutbox-rows.mjs): the forced cells as the released guide's own fill.sh prints them over the translation 13f0bc320533d23b… (all of the seat's roots in one cut). By AI agents, Wed Nov 11 2026. No macro, syntax, notation, axiom, sorry.
-/
import Derived.Test.YtbgoflekklfdjaaChecked
import GoSem.Claim
import GoSem.ClaimJoined
import GoSem.ClaimMapViews
import Derived.JoinedTies
import Derived.KernelRfl
namespace Go.Proofs.Ytbgoflekklfdjaa
/- THE CELL 'sum', in the pinned program and in every row, IS THE sha256 OF THE DUMP (.gsa) THAT YtbgoflekklfdjaaProg.lean LOADS. Nothing in Lean hashes anything: it is a label: what it is worth is what the hold of that sum in a sandbox is worth. -/
noncomputable def Try.pinned : Pinned := { name := "ytbgoflekklfdjaa", sum := "13f0bc320533d23b79fe8abd65d7cd0d28b3efe7839ec3117618c54636ea0073", checked := Try.checked }
namespace Rows
def none {H : Type} : Left H := { results := [], args := [] }

/-- 'sawmilllaw41.StrengthOf': WHATEVER THE INPUT: true; the input reads as it did. -/
def strengthOfSpec : ChangeSpec := { name := "strengthOf", fn := fun _ => fun
  | [d1, d2] => { results := [.lit (.bool true)], args := [d1, d2] }
  | _ => none }
def strengthOfRow : OpenClaim := { program := "ytbgoflekklfdjaa", sum := "13f0bc320533d23b79fe8abd65d7cd0d28b3efe7839ec3117618c54636ea0073", func := "sawmill/sawmilllaw41.StrengthOf", spec := "strengthOf", unfollowed := true, recurses := true, apart := false }
def StrengthOfSaid : Prop := strengthOfRow.holds Try.pinned (OpenSpec.ofChange strengthOfSpec)

/-- ITS FALSE NEIGHBOUR: 'it returns false'. Refute it at one input. -/
def strengthOfWrong : ChangeSpec := { name := "strengthOf", fn := fun _ => fun
  | [d1, d2] => { results := [.lit (.bool false)], args := [d1, d2] }
  | _ => none }
def StrengthOfWrongFalsely : Prop := strengthOfRow.holds Try.pinned (OpenSpec.ofChange strengthOfWrong)

/-- 'sawmilllaw41.StrengthClasses': WHATEVER THE INPUT: true; the input reads as it did. -/
def strengthClassesSpec : ChangeSpec := { name := "strengthClasses", fn := fun _ => fun
  | [d1, d2] => { results := [.lit (.bool true)], args := [d1, d2] }
  | _ => none }
def strengthClassesRow : OpenClaim := { program := "ytbgoflekklfdjaa", sum := "13f0bc320533d23b79fe8abd65d7cd0d28b3efe7839ec3117618c54636ea0073", func := "sawmill/sawmilllaw41.StrengthClasses", spec := "strengthClasses", unfollowed := true, recurses := true, apart := false }
def StrengthClassesSaid : Prop := strengthClassesRow.holds Try.pinned (OpenSpec.ofChange strengthClassesSpec)

/-- ITS FALSE NEIGHBOUR: 'it returns false'. Refute it at one input. -/
def strengthClassesWrong : ChangeSpec := { name := "strengthClasses", fn := fun _ => fun
  | [d1, d2] => { results := [.lit (.bool false)], args := [d1, d2] }
  | _ => none }
def StrengthClassesWrongFalsely : Prop := strengthClassesRow.holds Try.pinned (OpenSpec.ofChange strengthClassesWrong)

/-- 'sawmilllaw41.StrengthOrder': WHATEVER THE INPUT: true; the input reads as it did. -/
def strengthOrderSpec : ChangeSpec := { name := "strengthOrder", fn := fun _ => fun
  | [d1, d2, d3] => { results := [.lit (.bool true)], args := [d1, d2, d3] }
  | _ => none }
def strengthOrderRow : OpenClaim := { program := "ytbgoflekklfdjaa", sum := "13f0bc320533d23b79fe8abd65d7cd0d28b3efe7839ec3117618c54636ea0073", func := "sawmill/sawmilllaw41.StrengthOrder", spec := "strengthOrder", unfollowed := true, recurses := true, apart := false }
def StrengthOrderSaid : Prop := strengthOrderRow.holds Try.pinned (OpenSpec.ofChange strengthOrderSpec)

/-- ITS FALSE NEIGHBOUR: 'it returns false'. Refute it at one input. -/
def strengthOrderWrong : ChangeSpec := { name := "strengthOrder", fn := fun _ => fun
  | [d1, d2, d3] => { results := [.lit (.bool false)], args := [d1, d2, d3] }
  | _ => none }
def StrengthOrderWrongFalsely : Prop := strengthOrderRow.holds Try.pinned (OpenSpec.ofChange strengthOrderWrong)

/-- 'sawmilllaw41.StrengthMoved': WHATEVER THE INPUT: true; the input reads as it did. -/
def strengthMovedSpec : ChangeSpec := { name := "strengthMoved", fn := fun _ => fun
  | [d1, d2, d3] => { results := [.lit (.bool true)], args := [d1, d2, d3] }
  | _ => none }
def strengthMovedRow : OpenClaim := { program := "ytbgoflekklfdjaa", sum := "13f0bc320533d23b79fe8abd65d7cd0d28b3efe7839ec3117618c54636ea0073", func := "sawmill/sawmilllaw41.StrengthMoved", spec := "strengthMoved", unfollowed := true, recurses := true, apart := false }
def StrengthMovedSaid : Prop := strengthMovedRow.holds Try.pinned (OpenSpec.ofChange strengthMovedSpec)

/-- ITS FALSE NEIGHBOUR: 'it returns false'. Refute it at one input. -/
def strengthMovedWrong : ChangeSpec := { name := "strengthMoved", fn := fun _ => fun
  | [d1, d2, d3] => { results := [.lit (.bool false)], args := [d1, d2, d3] }
  | _ => none }
def StrengthMovedWrongFalsely : Prop := strengthMovedRow.holds Try.pinned (OpenSpec.ofChange strengthMovedWrong)

/-- 'sawmilllaw41.StrengthRanks': WHATEVER THE INPUT: true; the input reads as it did. -/
def strengthRanksSpec : ChangeSpec := { name := "strengthRanks", fn := fun _ => fun
  | [d1, d2] => { results := [.lit (.bool true)], args := [d1, d2] }
  | _ => none }
def strengthRanksRow : OpenClaim := { program := "ytbgoflekklfdjaa", sum := "13f0bc320533d23b79fe8abd65d7cd0d28b3efe7839ec3117618c54636ea0073", func := "sawmill/sawmilllaw41.StrengthRanks", spec := "strengthRanks", unfollowed := true, recurses := true, apart := false }
def StrengthRanksSaid : Prop := strengthRanksRow.holds Try.pinned (OpenSpec.ofChange strengthRanksSpec)

/-- ITS FALSE NEIGHBOUR: 'it returns false'. Refute it at one input. -/
def strengthRanksWrong : ChangeSpec := { name := "strengthRanks", fn := fun _ => fun
  | [d1, d2] => { results := [.lit (.bool false)], args := [d1, d2] }
  | _ => none }
def StrengthRanksWrongFalsely : Prop := strengthRanksRow.holds Try.pinned (OpenSpec.ofChange strengthRanksWrong)

/-- 'sawmilllaw13.DefectChecks': WHATEVER THE INPUT: true; the input reads as it did. -/
def defectChecksSpec : ChangeSpec := { name := "defectChecks", fn := fun _ => fun
  | [d1, d2] => { results := [.lit (.bool true)], args := [d1, d2] }
  | _ => none }
def defectChecksRow : OpenClaim := { program := "ytbgoflekklfdjaa", sum := "13f0bc320533d23b79fe8abd65d7cd0d28b3efe7839ec3117618c54636ea0073", func := "sawmill/sawmilllaw13.DefectChecks", spec := "defectChecks", apart := false }
def DefectChecksSaid : Prop := defectChecksRow.holds Try.pinned (OpenSpec.ofChange defectChecksSpec)

/-- ITS FALSE NEIGHBOUR: 'it returns false'. Refute it at one input. -/
def defectChecksWrong : ChangeSpec := { name := "defectChecks", fn := fun _ => fun
  | [d1, d2] => { results := [.lit (.bool false)], args := [d1, d2] }
  | _ => none }
def DefectChecksWrongFalsely : Prop := defectChecksRow.holds Try.pinned (OpenSpec.ofChange defectChecksWrong)

/-- 'sawmilllaw13.DefectClips': WHATEVER THE INPUT: true; the input reads as it did. -/
def defectClipsSpec : ChangeSpec := { name := "defectClips", fn := fun _ => fun
  | [d1, d2] => { results := [.lit (.bool true)], args := [d1, d2] }
  | _ => none }
def defectClipsRow : OpenClaim := { program := "ytbgoflekklfdjaa", sum := "13f0bc320533d23b79fe8abd65d7cd0d28b3efe7839ec3117618c54636ea0073", func := "sawmill/sawmilllaw13.DefectClips", spec := "defectClips", apart := false }
def DefectClipsSaid : Prop := defectClipsRow.holds Try.pinned (OpenSpec.ofChange defectClipsSpec)

/-- ITS FALSE NEIGHBOUR: 'it returns false'. Refute it at one input. -/
def defectClipsWrong : ChangeSpec := { name := "defectClips", fn := fun _ => fun
  | [d1, d2] => { results := [.lit (.bool false)], args := [d1, d2] }
  | _ => none }
def DefectClipsWrongFalsely : Prop := defectClipsRow.holds Try.pinned (OpenSpec.ofChange defectClipsWrong)

/-- 'sawmilllaw13.DefectTurns': WHATEVER THE INPUT: true; the input reads as it did. -/
def defectTurnsSpec : ChangeSpec := { name := "defectTurns", fn := fun _ => fun
  | [d1, d2] => { results := [.lit (.bool true)], args := [d1, d2] }
  | _ => none }
def defectTurnsRow : OpenClaim := { program := "ytbgoflekklfdjaa", sum := "13f0bc320533d23b79fe8abd65d7cd0d28b3efe7839ec3117618c54636ea0073", func := "sawmill/sawmilllaw13.DefectTurns", spec := "defectTurns", apart := false }
def DefectTurnsSaid : Prop := defectTurnsRow.holds Try.pinned (OpenSpec.ofChange defectTurnsSpec)

/-- ITS FALSE NEIGHBOUR: 'it returns false'. Refute it at one input. -/
def defectTurnsWrong : ChangeSpec := { name := "defectTurns", fn := fun _ => fun
  | [d1, d2] => { results := [.lit (.bool false)], args := [d1, d2] }
  | _ => none }
def DefectTurnsWrongFalsely : Prop := defectTurnsRow.holds Try.pinned (OpenSpec.ofChange defectTurnsWrong)

/-- 'sawmilllaw13.DefectWorsts': WHATEVER THE INPUT: true; the input reads as it did. -/
def defectWorstsSpec : ChangeSpec := { name := "defectWorsts", fn := fun _ => fun
  | [d1, d2] => { results := [.lit (.bool true)], args := [d1, d2] }
  | _ => none }
def defectWorstsRow : OpenClaim := { program := "ytbgoflekklfdjaa", sum := "13f0bc320533d23b79fe8abd65d7cd0d28b3efe7839ec3117618c54636ea0073", func := "sawmill/sawmilllaw13.DefectWorsts", spec := "defectWorsts", apart := false }
def DefectWorstsSaid : Prop := defectWorstsRow.holds Try.pinned (OpenSpec.ofChange defectWorstsSpec)

/-- ITS FALSE NEIGHBOUR: 'it returns false'. Refute it at one input. -/
def defectWorstsWrong : ChangeSpec := { name := "defectWorsts", fn := fun _ => fun
  | [d1, d2] => { results := [.lit (.bool false)], args := [d1, d2] }
  | _ => none }
def DefectWorstsWrongFalsely : Prop := defectWorstsRow.holds Try.pinned (OpenSpec.ofChange defectWorstsWrong)

/-- 'sawmilllaw13.DefectClip': WHATEVER THE INPUT: true; the input reads as it did. -/
def defectClipSpec : ChangeSpec := { name := "defectClip", fn := fun _ => fun
  | [d1, d2, d3] => { results := [.lit (.bool true)], args := [d1, d2, d3] }
  | _ => none }
def defectClipRow : OpenClaim := { program := "ytbgoflekklfdjaa", sum := "13f0bc320533d23b79fe8abd65d7cd0d28b3efe7839ec3117618c54636ea0073", func := "sawmill/sawmilllaw13.DefectClip", spec := "defectClip", apart := false }
def DefectClipSaid : Prop := defectClipRow.holds Try.pinned (OpenSpec.ofChange defectClipSpec)

/-- ITS FALSE NEIGHBOUR: 'it returns false'. Refute it at one input. -/
def defectClipWrong : ChangeSpec := { name := "defectClip", fn := fun _ => fun
  | [d1, d2, d3] => { results := [.lit (.bool false)], args := [d1, d2, d3] }
  | _ => none }
def DefectClipWrongFalsely : Prop := defectClipRow.holds Try.pinned (OpenSpec.ofChange defectClipWrong)

/-- 'sawmilllaw13.DefectTurned': WHATEVER THE INPUT: true; the input reads as it did. -/
def defectTurnedSpec : ChangeSpec := { name := "defectTurned", fn := fun _ => fun
  | [d1, d2, d3] => { results := [.lit (.bool true)], args := [d1, d2, d3] }
  | _ => none }
def defectTurnedRow : OpenClaim := { program := "ytbgoflekklfdjaa", sum := "13f0bc320533d23b79fe8abd65d7cd0d28b3efe7839ec3117618c54636ea0073", func := "sawmill/sawmilllaw13.DefectTurned", spec := "defectTurned", apart := false }
def DefectTurnedSaid : Prop := defectTurnedRow.holds Try.pinned (OpenSpec.ofChange defectTurnedSpec)

/-- ITS FALSE NEIGHBOUR: 'it returns false'. Refute it at one input. -/
def defectTurnedWrong : ChangeSpec := { name := "defectTurned", fn := fun _ => fun
  | [d1, d2, d3] => { results := [.lit (.bool false)], args := [d1, d2, d3] }
  | _ => none }
def DefectTurnedWrongFalsely : Prop := defectTurnedRow.holds Try.pinned (OpenSpec.ofChange defectTurnedWrong)

/-- 'sawmilllaw13.DefectWindows': WHATEVER THE INPUT: true; the input reads as it did. -/
def defectWindowsSpec : ChangeSpec := { name := "defectWindows", fn := fun _ => fun
  | [d1, d2, d3] => { results := [.lit (.bool true)], args := [d1, d2, d3] }
  | _ => none }
def defectWindowsRow : OpenClaim := { program := "ytbgoflekklfdjaa", sum := "13f0bc320533d23b79fe8abd65d7cd0d28b3efe7839ec3117618c54636ea0073", func := "sawmill/sawmilllaw13.DefectWindows", spec := "defectWindows", apart := false }
def DefectWindowsSaid : Prop := defectWindowsRow.holds Try.pinned (OpenSpec.ofChange defectWindowsSpec)

/-- ITS FALSE NEIGHBOUR: 'it returns false'. Refute it at one input. -/
def defectWindowsWrong : ChangeSpec := { name := "defectWindows", fn := fun _ => fun
  | [d1, d2, d3] => { results := [.lit (.bool false)], args := [d1, d2, d3] }
  | _ => none }
def DefectWindowsWrongFalsely : Prop := defectWindowsRow.holds Try.pinned (OpenSpec.ofChange defectWindowsWrong)

/- THE SECOND FORM. 'bulk': how many values and letters a reading holds, each counted each time it is reached (what is shared counts as often as it is met; a slice's spare places count too). A statement '..UptoSaid' is the law's where the arguments, and the package variables that the reading takes, are together of bulk at most 1048576: NARROWER than '..Said'. Prove '..Said' where nothing that the law and all that it calls make is longer than what came in: it says more and counts as full. Else prove '..UptoSaid'. A law counts once. -/
mutual
def uptoBulk {H : Type} : DataW H → Nat
  | .lit (.string bytes) => bytes.length + 1
  | .lit _ => 1
  | .nil => 1
  | .ptr d => uptoBulk d + 1
  | .slice elems spare => uptoBulkAll elems + uptoBulkAll spare + 1
  | .agg parts => uptoBulkAll parts + 1
  | .iface _ d => uptoBulk d + 1
  | .map entries => uptoBulkEntries entries + 1
  | .held _ => 1
def uptoBulkAll {H : Type} : List (DataW H) → Nat
  | [] => 0
  | d :: r => uptoBulk d + uptoBulkAll r
def uptoBulkEntries {H : Type} : List (Lit × DataW H) → Nat
  | [] => 0
  | x :: r => uptoBulkEntry x + uptoBulkEntries r
def uptoBulkEntry {H : Type} : Lit × DataW H → Nat
  | (.string bytes, d) => bytes.length + uptoBulk d + 1
  | (_, d) => uptoBulk d + 1
 end
def uptoSmall : (H : Type) → List (DataW H) → Bool := fun _ ds => decide (uptoBulkAll ds ≤ 1048576)
def OpenSpec.upto (s : _root_.Go.ChangeSpec) : _root_.Go.OpenSpec := { _root_.Go.OpenSpec.ofChange s with cond := some uptoSmall }

/-- 'sawmilllaw41.StrengthOf', WHERE WHAT IT READS IS OF BULK AT MOST 1048576: true; the input reads as it did. -/
def strengthOfUptoRow : OpenClaim := { program := "ytbgoflekklfdjaa", sum := "13f0bc320533d23b79fe8abd65d7cd0d28b3efe7839ec3117618c54636ea0073", func := "sawmill/sawmilllaw41.StrengthOf", spec := "strengthOf", unfollowed := true, recurses := true, apart := false, narrowed := true }
def StrengthOfUptoSaid : Prop := strengthOfUptoRow.holds Try.pinned (OpenSpec.upto strengthOfSpec)

/-- 'sawmilllaw41.StrengthClasses', WHERE WHAT IT READS IS OF BULK AT MOST 1048576: true; the input reads as it did. -/
def strengthClassesUptoRow : OpenClaim := { program := "ytbgoflekklfdjaa", sum := "13f0bc320533d23b79fe8abd65d7cd0d28b3efe7839ec3117618c54636ea0073", func := "sawmill/sawmilllaw41.StrengthClasses", spec := "strengthClasses", unfollowed := true, recurses := true, apart := false, narrowed := true }
def StrengthClassesUptoSaid : Prop := strengthClassesUptoRow.holds Try.pinned (OpenSpec.upto strengthClassesSpec)

/-- 'sawmilllaw41.StrengthOrder', WHERE WHAT IT READS IS OF BULK AT MOST 1048576: true; the input reads as it did. -/
def strengthOrderUptoRow : OpenClaim := { program := "ytbgoflekklfdjaa", sum := "13f0bc320533d23b79fe8abd65d7cd0d28b3efe7839ec3117618c54636ea0073", func := "sawmill/sawmilllaw41.StrengthOrder", spec := "strengthOrder", unfollowed := true, recurses := true, apart := false, narrowed := true }
def StrengthOrderUptoSaid : Prop := strengthOrderUptoRow.holds Try.pinned (OpenSpec.upto strengthOrderSpec)

/-- 'sawmilllaw41.StrengthMoved', WHERE WHAT IT READS IS OF BULK AT MOST 1048576: true; the input reads as it did. -/
def strengthMovedUptoRow : OpenClaim := { program := "ytbgoflekklfdjaa", sum := "13f0bc320533d23b79fe8abd65d7cd0d28b3efe7839ec3117618c54636ea0073", func := "sawmill/sawmilllaw41.StrengthMoved", spec := "strengthMoved", unfollowed := true, recurses := true, apart := false, narrowed := true }
def StrengthMovedUptoSaid : Prop := strengthMovedUptoRow.holds Try.pinned (OpenSpec.upto strengthMovedSpec)

/-- 'sawmilllaw41.StrengthRanks', WHERE WHAT IT READS IS OF BULK AT MOST 1048576: true; the input reads as it did. -/
def strengthRanksUptoRow : OpenClaim := { program := "ytbgoflekklfdjaa", sum := "13f0bc320533d23b79fe8abd65d7cd0d28b3efe7839ec3117618c54636ea0073", func := "sawmill/sawmilllaw41.StrengthRanks", spec := "strengthRanks", unfollowed := true, recurses := true, apart := false, narrowed := true }
def StrengthRanksUptoSaid : Prop := strengthRanksUptoRow.holds Try.pinned (OpenSpec.upto strengthRanksSpec)

/-- 'sawmilllaw13.DefectChecks', WHERE WHAT IT READS IS OF BULK AT MOST 1048576: true; the input reads as it did. -/
def defectChecksUptoRow : OpenClaim := { program := "ytbgoflekklfdjaa", sum := "13f0bc320533d23b79fe8abd65d7cd0d28b3efe7839ec3117618c54636ea0073", func := "sawmill/sawmilllaw13.DefectChecks", spec := "defectChecks", apart := false, narrowed := true }
def DefectChecksUptoSaid : Prop := defectChecksUptoRow.holds Try.pinned (OpenSpec.upto defectChecksSpec)

/-- 'sawmilllaw13.DefectClips', WHERE WHAT IT READS IS OF BULK AT MOST 1048576: true; the input reads as it did. -/
def defectClipsUptoRow : OpenClaim := { program := "ytbgoflekklfdjaa", sum := "13f0bc320533d23b79fe8abd65d7cd0d28b3efe7839ec3117618c54636ea0073", func := "sawmill/sawmilllaw13.DefectClips", spec := "defectClips", apart := false, narrowed := true }
def DefectClipsUptoSaid : Prop := defectClipsUptoRow.holds Try.pinned (OpenSpec.upto defectClipsSpec)

/-- 'sawmilllaw13.DefectTurns', WHERE WHAT IT READS IS OF BULK AT MOST 1048576: true; the input reads as it did. -/
def defectTurnsUptoRow : OpenClaim := { program := "ytbgoflekklfdjaa", sum := "13f0bc320533d23b79fe8abd65d7cd0d28b3efe7839ec3117618c54636ea0073", func := "sawmill/sawmilllaw13.DefectTurns", spec := "defectTurns", apart := false, narrowed := true }
def DefectTurnsUptoSaid : Prop := defectTurnsUptoRow.holds Try.pinned (OpenSpec.upto defectTurnsSpec)

/-- 'sawmilllaw13.DefectWorsts', WHERE WHAT IT READS IS OF BULK AT MOST 1048576: true; the input reads as it did. -/
def defectWorstsUptoRow : OpenClaim := { program := "ytbgoflekklfdjaa", sum := "13f0bc320533d23b79fe8abd65d7cd0d28b3efe7839ec3117618c54636ea0073", func := "sawmill/sawmilllaw13.DefectWorsts", spec := "defectWorsts", apart := false, narrowed := true }
def DefectWorstsUptoSaid : Prop := defectWorstsUptoRow.holds Try.pinned (OpenSpec.upto defectWorstsSpec)

/-- 'sawmilllaw13.DefectClip', WHERE WHAT IT READS IS OF BULK AT MOST 1048576: true; the input reads as it did. -/
def defectClipUptoRow : OpenClaim := { program := "ytbgoflekklfdjaa", sum := "13f0bc320533d23b79fe8abd65d7cd0d28b3efe7839ec3117618c54636ea0073", func := "sawmill/sawmilllaw13.DefectClip", spec := "defectClip", apart := false, narrowed := true }
def DefectClipUptoSaid : Prop := defectClipUptoRow.holds Try.pinned (OpenSpec.upto defectClipSpec)

/-- 'sawmilllaw13.DefectTurned', WHERE WHAT IT READS IS OF BULK AT MOST 1048576: true; the input reads as it did. -/
def defectTurnedUptoRow : OpenClaim := { program := "ytbgoflekklfdjaa", sum := "13f0bc320533d23b79fe8abd65d7cd0d28b3efe7839ec3117618c54636ea0073", func := "sawmill/sawmilllaw13.DefectTurned", spec := "defectTurned", apart := false, narrowed := true }
def DefectTurnedUptoSaid : Prop := defectTurnedUptoRow.holds Try.pinned (OpenSpec.upto defectTurnedSpec)

/-- 'sawmilllaw13.DefectWindows', WHERE WHAT IT READS IS OF BULK AT MOST 1048576: true; the input reads as it did. -/
def defectWindowsUptoRow : OpenClaim := { program := "ytbgoflekklfdjaa", sum := "13f0bc320533d23b79fe8abd65d7cd0d28b3efe7839ec3117618c54636ea0073", func := "sawmill/sawmilllaw13.DefectWindows", spec := "defectWindows", apart := false, narrowed := true }
def DefectWindowsUptoSaid : Prop := defectWindowsUptoRow.holds Try.pinned (OpenSpec.upto defectWindowsSpec)

end Rows
end Go.Proofs.Ytbgoflekklfdjaa
