/-
  No cell of these rows narrows 'for every input' (looked for: loops, veiled, ifaces, maps, wideKeys, modest, calm, conditions, laid).
  DERIVED. THE GIVEN ROWS OF THIS SEAT. 7 by the template 'for every input the law returns true; each argument reads behind the call as it read before'; 0 by the template 'total and deterministic' (their statements: YtmfgheklnjmbjaaTotals.lean).
  GIVEN WITH THE SEED: the statements are not yours to turn. If you find one false, say at which input.
  Laid BY PROGRAM, IN A SANDBOX (cutbox-rows.mjs): the forced cells as the released guide's own fill.sh prints them over the translation 10b1dabbaeb62c58… (all of the seat's roots in one cut). By AI agents, Wed Nov 11 2026. No macro, syntax, notation, axiom, sorry.
-/
import Derived.Test.YtmfgheklnjmbjaaChecked
import GoSem.Claim
import GoSem.ClaimJoined
import GoSem.ClaimMapViews
import Derived.JoinedTies
import Derived.KernelRfl
namespace Go.Proofs.Ytmfgheklnjmbjaa
/- THE CELL 'sum', in the pinned program and in every row, IS THE sha256 OF THE DUMP (.gsa) THAT YtmfgheklnjmbjaaProg.lean LOADS. Nothing in Lean hashes anything: it is a label: what it is worth is what the hold of that sum in a sandbox is worth. -/
noncomputable def Try.pinned : Pinned := { name := "ytmfgheklnjmbjaa", sum := "10b1dabbaeb62c58814134959c04b078fa1b825a290468997c85ab6a010ca5b8", checked := Try.checked }
namespace Rows
def none {H : Type} : Left H := { results := [], args := [] }

/-- 'sawmilllaw46.OrderChecks': WHATEVER THE INPUT: true; the input reads as it did. -/
def orderChecksSpec : ChangeSpec := { name := "orderChecks", fn := fun _ => fun
  | [d1, d2] => { results := [.lit (.bool true)], args := [d1, d2] }
  | _ => none }
def orderChecksRow : OpenClaim := { program := "ytmfgheklnjmbjaa", sum := "10b1dabbaeb62c58814134959c04b078fa1b825a290468997c85ab6a010ca5b8", func := "sawmill/sawmilllaw46.OrderChecks", spec := "orderChecks", inPlace := ["internal/abi.NoEscape"], unfollowed := true, recurses := true, apart := false }
def OrderChecksSaid : Prop := orderChecksRow.holds Try.pinned (OpenSpec.ofChange orderChecksSpec)

/-- ITS FALSE NEIGHBOUR: 'it returns false'. Refute it at one input. -/
def orderChecksWrong : ChangeSpec := { name := "orderChecks", fn := fun _ => fun
  | [d1, d2] => { results := [.lit (.bool false)], args := [d1, d2] }
  | _ => none }
def OrderChecksWrongFalsely : Prop := orderChecksRow.holds Try.pinned (OpenSpec.ofChange orderChecksWrong)

/-- 'sawmilllaw46.OrderFits': WHATEVER THE INPUT: true; the input reads as it did. -/
def orderFitsSpec : ChangeSpec := { name := "orderFits", fn := fun _ => fun
  | [d1, d2] => { results := [.lit (.bool true)], args := [d1, d2] }
  | _ => none }
def orderFitsRow : OpenClaim := { program := "ytmfgheklnjmbjaa", sum := "10b1dabbaeb62c58814134959c04b078fa1b825a290468997c85ab6a010ca5b8", func := "sawmill/sawmilllaw46.OrderFits", spec := "orderFits", inPlace := ["internal/abi.NoEscape"], unfollowed := true, recurses := true, apart := false }
def OrderFitsSaid : Prop := orderFitsRow.holds Try.pinned (OpenSpec.ofChange orderFitsSpec)

/-- ITS FALSE NEIGHBOUR: 'it returns false'. Refute it at one input. -/
def orderFitsWrong : ChangeSpec := { name := "orderFits", fn := fun _ => fun
  | [d1, d2] => { results := [.lit (.bool false)], args := [d1, d2] }
  | _ => none }
def OrderFitsWrongFalsely : Prop := orderFitsRow.holds Try.pinned (OpenSpec.ofChange orderFitsWrong)

/-- 'sawmilllaw46.OrderFills': WHATEVER THE INPUT: true; the input reads as it did. -/
def orderFillsSpec : ChangeSpec := { name := "orderFills", fn := fun _ => fun
  | [d1, d2] => { results := [.lit (.bool true)], args := [d1, d2] }
  | _ => none }
def orderFillsRow : OpenClaim := { program := "ytmfgheklnjmbjaa", sum := "10b1dabbaeb62c58814134959c04b078fa1b825a290468997c85ab6a010ca5b8", func := "sawmill/sawmilllaw46.OrderFills", spec := "orderFills", inPlace := ["internal/abi.NoEscape"], unfollowed := true, recurses := true, apart := false }
def OrderFillsSaid : Prop := orderFillsRow.holds Try.pinned (OpenSpec.ofChange orderFillsSpec)

/-- ITS FALSE NEIGHBOUR: 'it returns false'. Refute it at one input. -/
def orderFillsWrong : ChangeSpec := { name := "orderFills", fn := fun _ => fun
  | [d1, d2] => { results := [.lit (.bool false)], args := [d1, d2] }
  | _ => none }
def OrderFillsWrongFalsely : Prop := orderFillsRow.holds Try.pinned (OpenSpec.ofChange orderFillsWrong)

/-- 'sawmilllaw46.OrderTexts': WHATEVER THE INPUT: true; the input reads as it did. -/
def orderTextsSpec : ChangeSpec := { name := "orderTexts", fn := fun _ => fun
  | [d1, d2] => { results := [.lit (.bool true)], args := [d1, d2] }
  | _ => none }
def orderTextsRow : OpenClaim := { program := "ytmfgheklnjmbjaa", sum := "10b1dabbaeb62c58814134959c04b078fa1b825a290468997c85ab6a010ca5b8", func := "sawmill/sawmilllaw46.OrderTexts", spec := "orderTexts", inPlace := ["internal/abi.NoEscape"], unfollowed := true, recurses := true, apart := false }
def OrderTextsSaid : Prop := orderTextsRow.holds Try.pinned (OpenSpec.ofChange orderTextsSpec)

/-- ITS FALSE NEIGHBOUR: 'it returns false'. Refute it at one input. -/
def orderTextsWrong : ChangeSpec := { name := "orderTexts", fn := fun _ => fun
  | [d1, d2] => { results := [.lit (.bool false)], args := [d1, d2] }
  | _ => none }
def OrderTextsWrongFalsely : Prop := orderTextsRow.holds Try.pinned (OpenSpec.ofChange orderTextsWrong)

/-- 'sawmilllaw46.OrderBack': WHATEVER THE INPUT: true; the input reads as it did. -/
def orderBackSpec : ChangeSpec := { name := "orderBack", fn := fun _ => fun
  | [d1, d2] => { results := [.lit (.bool true)], args := [d1, d2] }
  | _ => none }
def orderBackRow : OpenClaim := { program := "ytmfgheklnjmbjaa", sum := "10b1dabbaeb62c58814134959c04b078fa1b825a290468997c85ab6a010ca5b8", func := "sawmill/sawmilllaw46.OrderBack", spec := "orderBack", inPlace := ["internal/abi.NoEscape"], unfollowed := true, recurses := true, apart := false }
def OrderBackSaid : Prop := orderBackRow.holds Try.pinned (OpenSpec.ofChange orderBackSpec)

/-- ITS FALSE NEIGHBOUR: 'it returns false'. Refute it at one input. -/
def orderBackWrong : ChangeSpec := { name := "orderBack", fn := fun _ => fun
  | [d1, d2] => { results := [.lit (.bool false)], args := [d1, d2] }
  | _ => none }
def OrderBackWrongFalsely : Prop := orderBackRow.holds Try.pinned (OpenSpec.ofChange orderBackWrong)

/-- 'sawmilllaw46.OrderCounts': WHATEVER THE INPUT: true; the input reads as it did. -/
def orderCountsSpec : ChangeSpec := { name := "orderCounts", fn := fun _ => fun
  | [d1, d2, d3] => { results := [.lit (.bool true)], args := [d1, d2, d3] }
  | _ => none }
def orderCountsRow : OpenClaim := { program := "ytmfgheklnjmbjaa", sum := "10b1dabbaeb62c58814134959c04b078fa1b825a290468997c85ab6a010ca5b8", func := "sawmill/sawmilllaw46.OrderCounts", spec := "orderCounts", inPlace := ["internal/abi.NoEscape"], unfollowed := true, recurses := true, apart := false }
def OrderCountsSaid : Prop := orderCountsRow.holds Try.pinned (OpenSpec.ofChange orderCountsSpec)

/-- ITS FALSE NEIGHBOUR: 'it returns false'. Refute it at one input. -/
def orderCountsWrong : ChangeSpec := { name := "orderCounts", fn := fun _ => fun
  | [d1, d2, d3] => { results := [.lit (.bool false)], args := [d1, d2, d3] }
  | _ => none }
def OrderCountsWrongFalsely : Prop := orderCountsRow.holds Try.pinned (OpenSpec.ofChange orderCountsWrong)

/-- 'sawmilllaw46.OrderBetter': WHATEVER THE INPUT: true; the input reads as it did. -/
def orderBetterSpec : ChangeSpec := { name := "orderBetter", fn := fun _ => fun
  | [d1, d2, d3] => { results := [.lit (.bool true)], args := [d1, d2, d3] }
  | _ => none }
def orderBetterRow : OpenClaim := { program := "ytmfgheklnjmbjaa", sum := "10b1dabbaeb62c58814134959c04b078fa1b825a290468997c85ab6a010ca5b8", func := "sawmill/sawmilllaw46.OrderBetter", spec := "orderBetter", inPlace := ["internal/abi.NoEscape"], unfollowed := true, recurses := true, apart := false }
def OrderBetterSaid : Prop := orderBetterRow.holds Try.pinned (OpenSpec.ofChange orderBetterSpec)

/-- ITS FALSE NEIGHBOUR: 'it returns false'. Refute it at one input. -/
def orderBetterWrong : ChangeSpec := { name := "orderBetter", fn := fun _ => fun
  | [d1, d2, d3] => { results := [.lit (.bool false)], args := [d1, d2, d3] }
  | _ => none }
def OrderBetterWrongFalsely : Prop := orderBetterRow.holds Try.pinned (OpenSpec.ofChange orderBetterWrong)

/- THE SECOND FORM. 'bulk': how many values and letters a reading holds, each counted each time it is reached (what is shared counts as often as it is met; a slice's spare places count too). A statement '..UptoSaid' is the law's where the arguments, and the package variables that the reading takes, are together of bulk at most 1048576: NARROWER than '..Said'. Prove '..Said' where nothing that the law and all that it calls make is longer than what came in: it says more and counts as full. Else prove '..UptoSaid'. A law counts once. -/
mutual
def uptoBulk {H : Type} : DataW H → Nat
  | .lit (.string bytes) => bytes.length + 1
  | .lit _ => 1
  | .nil => 1
  | .ptr d => uptoBulk d + 1
  | .slice elems spare => uptoBulkAll elems + uptoBulkAll spare + 1
  | .agg parts => uptoBulkAll parts + 1
  | .iface _ d => uptoBulk d + 1
  | .map entries => uptoBulkEntries entries + 1
  | .held _ => 1
def uptoBulkAll {H : Type} : List (DataW H) → Nat
  | [] => 0
  | d :: r => uptoBulk d + uptoBulkAll r
def uptoBulkEntries {H : Type} : List (Lit × DataW H) → Nat
  | [] => 0
  | x :: r => uptoBulkEntry x + uptoBulkEntries r
def uptoBulkEntry {H : Type} : Lit × DataW H → Nat
  | (.string bytes, d) => bytes.length + uptoBulk d + 1
  | (_, d) => uptoBulk d + 1
 end
def uptoSmall : (H : Type) → List (DataW H) → Bool := fun _ ds => decide (uptoBulkAll ds ≤ 1048576)
def OpenSpec.upto (s : _root_.Go.ChangeSpec) : _root_.Go.OpenSpec := { _root_.Go.OpenSpec.ofChange s with cond := some uptoSmall }

/-- 'sawmilllaw46.OrderChecks', WHERE WHAT IT READS IS OF BULK AT MOST 1048576: true; the input reads as it did. -/
def orderChecksUptoRow : OpenClaim := { program := "ytmfgheklnjmbjaa", sum := "10b1dabbaeb62c58814134959c04b078fa1b825a290468997c85ab6a010ca5b8", func := "sawmill/sawmilllaw46.OrderChecks", spec := "orderChecks", inPlace := ["internal/abi.NoEscape"], unfollowed := true, recurses := true, apart := false, narrowed := true }
def OrderChecksUptoSaid : Prop := orderChecksUptoRow.holds Try.pinned (OpenSpec.upto orderChecksSpec)

/-- 'sawmilllaw46.OrderFits', WHERE WHAT IT READS IS OF BULK AT MOST 1048576: true; the input reads as it did. -/
def orderFitsUptoRow : OpenClaim := { program := "ytmfgheklnjmbjaa", sum := "10b1dabbaeb62c58814134959c04b078fa1b825a290468997c85ab6a010ca5b8", func := "sawmill/sawmilllaw46.OrderFits", spec := "orderFits", inPlace := ["internal/abi.NoEscape"], unfollowed := true, recurses := true, apart := false, narrowed := true }
def OrderFitsUptoSaid : Prop := orderFitsUptoRow.holds Try.pinned (OpenSpec.upto orderFitsSpec)

/-- 'sawmilllaw46.OrderFills', WHERE WHAT IT READS IS OF BULK AT MOST 1048576: true; the input reads as it did. -/
def orderFillsUptoRow : OpenClaim := { program := "ytmfgheklnjmbjaa", sum := "10b1dabbaeb62c58814134959c04b078fa1b825a290468997c85ab6a010ca5b8", func := "sawmill/sawmilllaw46.OrderFills", spec := "orderFills", inPlace := ["internal/abi.NoEscape"], unfollowed := true, recurses := true, apart := false, narrowed := true }
def OrderFillsUptoSaid : Prop := orderFillsUptoRow.holds Try.pinned (OpenSpec.upto orderFillsSpec)

/-- 'sawmilllaw46.OrderTexts', WHERE WHAT IT READS IS OF BULK AT MOST 1048576: true; the input reads as it did. -/
def orderTextsUptoRow : OpenClaim := { program := "ytmfgheklnjmbjaa", sum := "10b1dabbaeb62c58814134959c04b078fa1b825a290468997c85ab6a010ca5b8", func := "sawmill/sawmilllaw46.OrderTexts", spec := "orderTexts", inPlace := ["internal/abi.NoEscape"], unfollowed := true, recurses := true, apart := false, narrowed := true }
def OrderTextsUptoSaid : Prop := orderTextsUptoRow.holds Try.pinned (OpenSpec.upto orderTextsSpec)

/-- 'sawmilllaw46.OrderBack', WHERE WHAT IT READS IS OF BULK AT MOST 1048576: true; the input reads as it did. -/
def orderBackUptoRow : OpenClaim := { program := "ytmfgheklnjmbjaa", sum := "10b1dabbaeb62c58814134959c04b078fa1b825a290468997c85ab6a010ca5b8", func := "sawmill/sawmilllaw46.OrderBack", spec := "orderBack", inPlace := ["internal/abi.NoEscape"], unfollowed := true, recurses := true, apart := false, narrowed := true }
def OrderBackUptoSaid : Prop := orderBackUptoRow.holds Try.pinned (OpenSpec.upto orderBackSpec)

/-- 'sawmilllaw46.OrderCounts', WHERE WHAT IT READS IS OF BULK AT MOST 1048576: true; the input reads as it did. -/
def orderCountsUptoRow : OpenClaim := { program := "ytmfgheklnjmbjaa", sum := "10b1dabbaeb62c58814134959c04b078fa1b825a290468997c85ab6a010ca5b8", func := "sawmill/sawmilllaw46.OrderCounts", spec := "orderCounts", inPlace := ["internal/abi.NoEscape"], unfollowed := true, recurses := true, apart := false, narrowed := true }
def OrderCountsUptoSaid : Prop := orderCountsUptoRow.holds Try.pinned (OpenSpec.upto orderCountsSpec)

/-- 'sawmilllaw46.OrderBetter', WHERE WHAT IT READS IS OF BULK AT MOST 1048576: true; the input reads as it did. -/
def orderBetterUptoRow : OpenClaim := { program := "ytmfgheklnjmbjaa", sum := "10b1dabbaeb62c58814134959c04b078fa1b825a290468997c85ab6a010ca5b8", func := "sawmill/sawmilllaw46.OrderBetter", spec := "orderBetter", inPlace := ["internal/abi.NoEscape"], unfollowed := true, recurses := true, apart := false, narrowed := true }
def OrderBetterUptoSaid : Prop := orderBetterUptoRow.holds Try.pinned (OpenSpec.upto orderBetterSpec)

end Rows
end Go.Proofs.Ytmfgheklnjmbjaa
