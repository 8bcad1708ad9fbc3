/-
  No cell of these rows narrows 'for every input' (looked for: loops, veiled, ifaces, maps, wideKeys, modest, calm, conditions, laid).
  DERIVED. THE GIVEN ROWS OF THIS SEAT. 8 by the template 'for every input the law returns true; each argument reads behind the call as it read before'; 0 by the template 'total and deterministic' (their statements: YtjdgaclkcmjjcaaTotals.lean).
  GIVEN WITH THE SEED: the statements are not yours to turn. If you find one false, say at which input.
  Laid BY PROGRAM, IN A SANDBOX (cutbox-rows.mjs): the forced cells as the released guide's own fill.sh prints them over the translation 7448f4d5c45630e1… (all of the seat's roots in one cut). By AI agents, Wed Nov 11 2026. No macro, syntax, notation, axiom, sorry.
-/
import Derived.Test.YtjdgaclkcmjjcaaChecked
import GoSem.Claim
import GoSem.ClaimJoined
import GoSem.ClaimMapViews
import Derived.JoinedTies
import Derived.KernelRfl
namespace Go.Proofs.Ytjdgaclkcmjjcaa
/- THE CELL 'sum', in the pinned program and in every row, IS THE sha256 OF THE DUMP (.gsa) THAT YtjdgaclkcmjjcaaProg.lean LOADS. Nothing in Lean hashes anything: it is a label: what it is worth is what the hold of that sum in a sandbox is worth. -/
noncomputable def Try.pinned : Pinned := { name := "ytjdgaclkcmjjcaa", sum := "7448f4d5c45630e1b08f6cec5368c89314292dea0c0931b329f2f018be60848b", checked := Try.checked }
namespace Rows
def none {H : Type} : Left H := { results := [], args := [] }

/-- 'sawmilllaw20.WorthChecks': WHATEVER THE INPUT: true; the input reads as it did. -/
def worthChecksSpec : ChangeSpec := { name := "worthChecks", fn := fun _ => fun
  | [d1, d2] => { results := [.lit (.bool true)], args := [d1, d2] }
  | _ => none }
def worthChecksRow : OpenClaim := { program := "ytjdgaclkcmjjcaa", sum := "7448f4d5c45630e1b08f6cec5368c89314292dea0c0931b329f2f018be60848b", func := "sawmill/sawmilllaw20.WorthChecks", spec := "worthChecks", apart := false }
def WorthChecksSaid : Prop := worthChecksRow.holds Try.pinned (OpenSpec.ofChange worthChecksSpec)

/-- ITS FALSE NEIGHBOUR: 'it returns false'. Refute it at one input. -/
def worthChecksWrong : ChangeSpec := { name := "worthChecks", fn := fun _ => fun
  | [d1, d2] => { results := [.lit (.bool false)], args := [d1, d2] }
  | _ => none }
def WorthChecksWrongFalsely : Prop := worthChecksRow.holds Try.pinned (OpenSpec.ofChange worthChecksWrong)

/-- 'sawmilllaw20.WorthWanes': WHATEVER THE INPUT: true; the input reads as it did. -/
def worthWanesSpec : ChangeSpec := { name := "worthWanes", fn := fun _ => fun
  | [d1, d2] => { results := [.lit (.bool true)], args := [d1, d2] }
  | _ => none }
def worthWanesRow : OpenClaim := { program := "ytjdgaclkcmjjcaa", sum := "7448f4d5c45630e1b08f6cec5368c89314292dea0c0931b329f2f018be60848b", func := "sawmill/sawmilllaw20.WorthWanes", spec := "worthWanes", apart := false }
def WorthWanesSaid : Prop := worthWanesRow.holds Try.pinned (OpenSpec.ofChange worthWanesSpec)

/-- ITS FALSE NEIGHBOUR: 'it returns false'. Refute it at one input. -/
def worthWanesWrong : ChangeSpec := { name := "worthWanes", fn := fun _ => fun
  | [d1, d2] => { results := [.lit (.bool false)], args := [d1, d2] }
  | _ => none }
def WorthWanesWrongFalsely : Prop := worthWanesRow.holds Try.pinned (OpenSpec.ofChange worthWanesWrong)

/-- 'sawmilllaw20.WorthAccepts': WHATEVER THE INPUT: true; the input reads as it did. -/
def worthAcceptsSpec : ChangeSpec := { name := "worthAccepts", fn := fun _ => fun
  | [d1, d2] => { results := [.lit (.bool true)], args := [d1, d2] }
  | _ => none }
def worthAcceptsRow : OpenClaim := { program := "ytjdgaclkcmjjcaa", sum := "7448f4d5c45630e1b08f6cec5368c89314292dea0c0931b329f2f018be60848b", func := "sawmill/sawmilllaw20.WorthAccepts", spec := "worthAccepts", apart := false }
def WorthAcceptsSaid : Prop := worthAcceptsRow.holds Try.pinned (OpenSpec.ofChange worthAcceptsSpec)

/-- ITS FALSE NEIGHBOUR: 'it returns false'. Refute it at one input. -/
def worthAcceptsWrong : ChangeSpec := { name := "worthAccepts", fn := fun _ => fun
  | [d1, d2] => { results := [.lit (.bool false)], args := [d1, d2] }
  | _ => none }
def WorthAcceptsWrongFalsely : Prop := worthAcceptsRow.holds Try.pinned (OpenSpec.ofChange worthAcceptsWrong)

/-- 'sawmilllaw20.WorthBests': WHATEVER THE INPUT: true; the input reads as it did. -/
def worthBestsSpec : ChangeSpec := { name := "worthBests", fn := fun _ => fun
  | [d1, d2, d3] => { results := [.lit (.bool true)], args := [d1, d2, d3] }
  | _ => none }
def worthBestsRow : OpenClaim := { program := "ytjdgaclkcmjjcaa", sum := "7448f4d5c45630e1b08f6cec5368c89314292dea0c0931b329f2f018be60848b", func := "sawmill/sawmilllaw20.WorthBests", spec := "worthBests", apart := false }
def WorthBestsSaid : Prop := worthBestsRow.holds Try.pinned (OpenSpec.ofChange worthBestsSpec)

/-- ITS FALSE NEIGHBOUR: 'it returns false'. Refute it at one input. -/
def worthBestsWrong : ChangeSpec := { name := "worthBests", fn := fun _ => fun
  | [d1, d2, d3] => { results := [.lit (.bool false)], args := [d1, d2, d3] }
  | _ => none }
def WorthBestsWrongFalsely : Prop := worthBestsRow.holds Try.pinned (OpenSpec.ofChange worthBestsWrong)

/-- 'sawmilllaw20.WorthBest': WHATEVER THE INPUT: true; the input reads as it did. -/
def worthBestSpec : ChangeSpec := { name := "worthBest", fn := fun _ => fun
  | [d1, d2, d3] => { results := [.lit (.bool true)], args := [d1, d2, d3] }
  | _ => none }
def worthBestRow : OpenClaim := { program := "ytjdgaclkcmjjcaa", sum := "7448f4d5c45630e1b08f6cec5368c89314292dea0c0931b329f2f018be60848b", func := "sawmill/sawmilllaw20.WorthBest", spec := "worthBest", apart := false }
def WorthBestSaid : Prop := worthBestRow.holds Try.pinned (OpenSpec.ofChange worthBestSpec)

/-- ITS FALSE NEIGHBOUR: 'it returns false'. Refute it at one input. -/
def worthBestWrong : ChangeSpec := { name := "worthBest", fn := fun _ => fun
  | [d1, d2, d3] => { results := [.lit (.bool false)], args := [d1, d2, d3] }
  | _ => none }
def WorthBestWrongFalsely : Prop := worthBestRow.holds Try.pinned (OpenSpec.ofChange worthBestWrong)

/-- 'sawmilllaw20.WorthDefects': WHATEVER THE INPUT: true; the input reads as it did. -/
def worthDefectsSpec : ChangeSpec := { name := "worthDefects", fn := fun _ => fun
  | [d1, d2, d3] => { results := [.lit (.bool true)], args := [d1, d2, d3] }
  | _ => none }
def worthDefectsRow : OpenClaim := { program := "ytjdgaclkcmjjcaa", sum := "7448f4d5c45630e1b08f6cec5368c89314292dea0c0931b329f2f018be60848b", func := "sawmill/sawmilllaw20.WorthDefects", spec := "worthDefects", apart := false }
def WorthDefectsSaid : Prop := worthDefectsRow.holds Try.pinned (OpenSpec.ofChange worthDefectsSpec)

/-- ITS FALSE NEIGHBOUR: 'it returns false'. Refute it at one input. -/
def worthDefectsWrong : ChangeSpec := { name := "worthDefects", fn := fun _ => fun
  | [d1, d2, d3] => { results := [.lit (.bool false)], args := [d1, d2, d3] }
  | _ => none }
def WorthDefectsWrongFalsely : Prop := worthDefectsRow.holds Try.pinned (OpenSpec.ofChange worthDefectsWrong)

/-- 'sawmilllaw20.WorthOrder': WHATEVER THE INPUT: true; the input reads as it did. -/
def worthOrderSpec : ChangeSpec := { name := "worthOrder", fn := fun _ => fun
  | [d1, d2, d3] => { results := [.lit (.bool true)], args := [d1, d2, d3] }
  | _ => none }
def worthOrderRow : OpenClaim := { program := "ytjdgaclkcmjjcaa", sum := "7448f4d5c45630e1b08f6cec5368c89314292dea0c0931b329f2f018be60848b", func := "sawmill/sawmilllaw20.WorthOrder", spec := "worthOrder", apart := false }
def WorthOrderSaid : Prop := worthOrderRow.holds Try.pinned (OpenSpec.ofChange worthOrderSpec)

/-- ITS FALSE NEIGHBOUR: 'it returns false'. Refute it at one input. -/
def worthOrderWrong : ChangeSpec := { name := "worthOrder", fn := fun _ => fun
  | [d1, d2, d3] => { results := [.lit (.bool false)], args := [d1, d2, d3] }
  | _ => none }
def WorthOrderWrongFalsely : Prop := worthOrderRow.holds Try.pinned (OpenSpec.ofChange worthOrderWrong)

/-- 'sawmilllaw20.WorthWood': WHATEVER THE INPUT: true; the input reads as it did. -/
def worthWoodSpec : ChangeSpec := { name := "worthWood", fn := fun _ => fun
  | [d1, d2, d3] => { results := [.lit (.bool true)], args := [d1, d2, d3] }
  | _ => none }
def worthWoodRow : OpenClaim := { program := "ytjdgaclkcmjjcaa", sum := "7448f4d5c45630e1b08f6cec5368c89314292dea0c0931b329f2f018be60848b", func := "sawmill/sawmilllaw20.WorthWood", spec := "worthWood", apart := false }
def WorthWoodSaid : Prop := worthWoodRow.holds Try.pinned (OpenSpec.ofChange worthWoodSpec)

/-- ITS FALSE NEIGHBOUR: 'it returns false'. Refute it at one input. -/
def worthWoodWrong : ChangeSpec := { name := "worthWood", fn := fun _ => fun
  | [d1, d2, d3] => { results := [.lit (.bool false)], args := [d1, d2, d3] }
  | _ => none }
def WorthWoodWrongFalsely : Prop := worthWoodRow.holds Try.pinned (OpenSpec.ofChange worthWoodWrong)

/- THE SECOND FORM. 'bulk': how many values and letters a reading holds, each counted each time it is reached (what is shared counts as often as it is met; a slice's spare places count too). A statement '..UptoSaid' is the law's where the arguments, and the package variables that the reading takes, are together of bulk at most 1048576: NARROWER than '..Said'. Prove '..Said' where nothing that the law and all that it calls make is longer than what came in: it says more and counts as full. Else prove '..UptoSaid'. A law counts once. -/
mutual
def uptoBulk {H : Type} : DataW H → Nat
  | .lit (.string bytes) => bytes.length + 1
  | .lit _ => 1
  | .nil => 1
  | .ptr d => uptoBulk d + 1
  | .slice elems spare => uptoBulkAll elems + uptoBulkAll spare + 1
  | .agg parts => uptoBulkAll parts + 1
  | .iface _ d => uptoBulk d + 1
  | .map entries => uptoBulkEntries entries + 1
  | .held _ => 1
def uptoBulkAll {H : Type} : List (DataW H) → Nat
  | [] => 0
  | d :: r => uptoBulk d + uptoBulkAll r
def uptoBulkEntries {H : Type} : List (Lit × DataW H) → Nat
  | [] => 0
  | x :: r => uptoBulkEntry x + uptoBulkEntries r
def uptoBulkEntry {H : Type} : Lit × DataW H → Nat
  | (.string bytes, d) => bytes.length + uptoBulk d + 1
  | (_, d) => uptoBulk d + 1
 end
def uptoSmall : (H : Type) → List (DataW H) → Bool := fun _ ds => decide (uptoBulkAll ds ≤ 1048576)
def OpenSpec.upto (s : _root_.Go.ChangeSpec) : _root_.Go.OpenSpec := { _root_.Go.OpenSpec.ofChange s with cond := some uptoSmall }

/-- 'sawmilllaw20.WorthChecks', WHERE WHAT IT READS IS OF BULK AT MOST 1048576: true; the input reads as it did. -/
def worthChecksUptoRow : OpenClaim := { program := "ytjdgaclkcmjjcaa", sum := "7448f4d5c45630e1b08f6cec5368c89314292dea0c0931b329f2f018be60848b", func := "sawmill/sawmilllaw20.WorthChecks", spec := "worthChecks", apart := false, narrowed := true }
def WorthChecksUptoSaid : Prop := worthChecksUptoRow.holds Try.pinned (OpenSpec.upto worthChecksSpec)

/-- 'sawmilllaw20.WorthWanes', WHERE WHAT IT READS IS OF BULK AT MOST 1048576: true; the input reads as it did. -/
def worthWanesUptoRow : OpenClaim := { program := "ytjdgaclkcmjjcaa", sum := "7448f4d5c45630e1b08f6cec5368c89314292dea0c0931b329f2f018be60848b", func := "sawmill/sawmilllaw20.WorthWanes", spec := "worthWanes", apart := false, narrowed := true }
def WorthWanesUptoSaid : Prop := worthWanesUptoRow.holds Try.pinned (OpenSpec.upto worthWanesSpec)

/-- 'sawmilllaw20.WorthAccepts', WHERE WHAT IT READS IS OF BULK AT MOST 1048576: true; the input reads as it did. -/
def worthAcceptsUptoRow : OpenClaim := { program := "ytjdgaclkcmjjcaa", sum := "7448f4d5c45630e1b08f6cec5368c89314292dea0c0931b329f2f018be60848b", func := "sawmill/sawmilllaw20.WorthAccepts", spec := "worthAccepts", apart := false, narrowed := true }
def WorthAcceptsUptoSaid : Prop := worthAcceptsUptoRow.holds Try.pinned (OpenSpec.upto worthAcceptsSpec)

/-- 'sawmilllaw20.WorthBests', WHERE WHAT IT READS IS OF BULK AT MOST 1048576: true; the input reads as it did. -/
def worthBestsUptoRow : OpenClaim := { program := "ytjdgaclkcmjjcaa", sum := "7448f4d5c45630e1b08f6cec5368c89314292dea0c0931b329f2f018be60848b", func := "sawmill/sawmilllaw20.WorthBests", spec := "worthBests", apart := false, narrowed := true }
def WorthBestsUptoSaid : Prop := worthBestsUptoRow.holds Try.pinned (OpenSpec.upto worthBestsSpec)

/-- 'sawmilllaw20.WorthBest', WHERE WHAT IT READS IS OF BULK AT MOST 1048576: true; the input reads as it did. -/
def worthBestUptoRow : OpenClaim := { program := "ytjdgaclkcmjjcaa", sum := "7448f4d5c45630e1b08f6cec5368c89314292dea0c0931b329f2f018be60848b", func := "sawmill/sawmilllaw20.WorthBest", spec := "worthBest", apart := false, narrowed := true }
def WorthBestUptoSaid : Prop := worthBestUptoRow.holds Try.pinned (OpenSpec.upto worthBestSpec)

/-- 'sawmilllaw20.WorthDefects', WHERE WHAT IT READS IS OF BULK AT MOST 1048576: true; the input reads as it did. -/
def worthDefectsUptoRow : OpenClaim := { program := "ytjdgaclkcmjjcaa", sum := "7448f4d5c45630e1b08f6cec5368c89314292dea0c0931b329f2f018be60848b", func := "sawmill/sawmilllaw20.WorthDefects", spec := "worthDefects", apart := false, narrowed := true }
def WorthDefectsUptoSaid : Prop := worthDefectsUptoRow.holds Try.pinned (OpenSpec.upto worthDefectsSpec)

/-- 'sawmilllaw20.WorthOrder', WHERE WHAT IT READS IS OF BULK AT MOST 1048576: true; the input reads as it did. -/
def worthOrderUptoRow : OpenClaim := { program := "ytjdgaclkcmjjcaa", sum := "7448f4d5c45630e1b08f6cec5368c89314292dea0c0931b329f2f018be60848b", func := "sawmill/sawmilllaw20.WorthOrder", spec := "worthOrder", apart := false, narrowed := true }
def WorthOrderUptoSaid : Prop := worthOrderUptoRow.holds Try.pinned (OpenSpec.upto worthOrderSpec)

/-- 'sawmilllaw20.WorthWood', WHERE WHAT IT READS IS OF BULK AT MOST 1048576: true; the input reads as it did. -/
def worthWoodUptoRow : OpenClaim := { program := "ytjdgaclkcmjjcaa", sum := "7448f4d5c45630e1b08f6cec5368c89314292dea0c0931b329f2f018be60848b", func := "sawmill/sawmilllaw20.WorthWood", spec := "worthWood", apart := false, narrowed := true }
def WorthWoodUptoSaid : Prop := worthWoodUptoRow.holds Try.pinned (OpenSpec.upto worthWoodSpec)

end Rows
end Go.Proofs.Ytjdgaclkcmjjcaa
