/-
  No cell of these rows narrows 'for every input' (looked for: loops, veiled, ifaces, maps, wideKeys, modest, calm, conditions, laid).
  DERIVED. THE GIVEN ROWS OF THIS SEAT. 6 by the template 'for every input the law returns true; each argument reads behind the call as it read before'; 0 by the template 'total and deterministic' (their statements: YtbfjfplhgdnipaaTotals.lean).
  GIVEN WITH THE SEED: the statements are not yours to turn. If you find one false, say at which input.
  Laid BY PROGRAM, IN A SANDBOX (cutbox-rows.mjs): the forced cells as the released guide's own fill.sh prints them over the translation e1a3123c8b86a2a5… (all of the seat's roots in one cut). By AI agents, Wed Nov 11 2026. No macro, syntax, notation, axiom, sorry.
-/
import Derived.Test.YtbfjfplhgdnipaaChecked
import GoSem.Claim
import GoSem.ClaimJoined
import GoSem.ClaimMapViews
import Derived.JoinedTies
import Derived.KernelRfl
namespace Go.Proofs.Ytbfjfplhgdnipaa
/- THE CELL 'sum', in the pinned program and in every row, IS THE sha256 OF THE DUMP (.gsa) THAT YtbfjfplhgdnipaaProg.lean LOADS. Nothing in Lean hashes anything: it is a label: what it is worth is what the hold of that sum in a sandbox is worth. -/
noncomputable def Try.pinned : Pinned := { name := "ytbfjfplhgdnipaa", sum := "e1a3123c8b86a2a50611a3985023275a4164cd6d5e84c367e0568dcf94e51fcf", checked := Try.checked }
namespace Rows
def none {H : Type} : Left H := { results := [], args := [] }

/-- 'catacomblaw01.NumsFolds': WHATEVER THE INPUT: true; the input reads as it did. -/
def numsFoldsSpec : ChangeSpec := { name := "numsFolds", fn := fun _ => fun
  | [d1, d2] => { results := [.lit (.bool true)], args := [d1, d2] }
  | _ => none }
def numsFoldsRow : OpenClaim := { program := "ytbfjfplhgdnipaa", sum := "e1a3123c8b86a2a50611a3985023275a4164cd6d5e84c367e0568dcf94e51fcf", func := "catacomb/catacomblaw01.NumsFolds", spec := "numsFolds", apart := false }
def NumsFoldsSaid : Prop := numsFoldsRow.holds Try.pinned (OpenSpec.ofChange numsFoldsSpec)

/-- ITS FALSE NEIGHBOUR: 'it returns false'. Refute it at one input. -/
def numsFoldsWrong : ChangeSpec := { name := "numsFolds", fn := fun _ => fun
  | [d1, d2] => { results := [.lit (.bool false)], args := [d1, d2] }
  | _ => none }
def NumsFoldsWrongFalsely : Prop := numsFoldsRow.holds Try.pinned (OpenSpec.ofChange numsFoldsWrong)

/-- 'catacomblaw01.NumsAdds': WHATEVER THE INPUT: true; the input reads as it did. -/
def numsAddsSpec : ChangeSpec := { name := "numsAdds", fn := fun _ => fun
  | [d1, d2] => { results := [.lit (.bool true)], args := [d1, d2] }
  | _ => none }
def numsAddsRow : OpenClaim := { program := "ytbfjfplhgdnipaa", sum := "e1a3123c8b86a2a50611a3985023275a4164cd6d5e84c367e0568dcf94e51fcf", func := "catacomb/catacomblaw01.NumsAdds", spec := "numsAdds", apart := false }
def NumsAddsSaid : Prop := numsAddsRow.holds Try.pinned (OpenSpec.ofChange numsAddsSpec)

/-- ITS FALSE NEIGHBOUR: 'it returns false'. Refute it at one input. -/
def numsAddsWrong : ChangeSpec := { name := "numsAdds", fn := fun _ => fun
  | [d1, d2] => { results := [.lit (.bool false)], args := [d1, d2] }
  | _ => none }
def NumsAddsWrongFalsely : Prop := numsAddsRow.holds Try.pinned (OpenSpec.ofChange numsAddsWrong)

/-- 'catacomblaw01.NumsShifts': WHATEVER THE INPUT: true; the input reads as it did. -/
def numsShiftsSpec : ChangeSpec := { name := "numsShifts", fn := fun _ => fun
  | [d1, d2] => { results := [.lit (.bool true)], args := [d1, d2] }
  | _ => none }
def numsShiftsRow : OpenClaim := { program := "ytbfjfplhgdnipaa", sum := "e1a3123c8b86a2a50611a3985023275a4164cd6d5e84c367e0568dcf94e51fcf", func := "catacomb/catacomblaw01.NumsShifts", spec := "numsShifts", apart := false }
def NumsShiftsSaid : Prop := numsShiftsRow.holds Try.pinned (OpenSpec.ofChange numsShiftsSpec)

/-- ITS FALSE NEIGHBOUR: 'it returns false'. Refute it at one input. -/
def numsShiftsWrong : ChangeSpec := { name := "numsShifts", fn := fun _ => fun
  | [d1, d2] => { results := [.lit (.bool false)], args := [d1, d2] }
  | _ => none }
def NumsShiftsWrongFalsely : Prop := numsShiftsRow.holds Try.pinned (OpenSpec.ofChange numsShiftsWrong)

/-- 'catacomblaw01.NumsNarrows': WHATEVER THE INPUT: true; the input reads as it did. -/
def numsNarrowsSpec : ChangeSpec := { name := "numsNarrows", fn := fun _ => fun
  | [d] => { results := [.lit (.bool true)], args := [d] }
  | _ => none }
def numsNarrowsRow : OpenClaim := { program := "ytbfjfplhgdnipaa", sum := "e1a3123c8b86a2a50611a3985023275a4164cd6d5e84c367e0568dcf94e51fcf", func := "catacomb/catacomblaw01.NumsNarrows", spec := "numsNarrows", unfollowed := true, recurses := true, apart := false }
def NumsNarrowsSaid : Prop := numsNarrowsRow.holds Try.pinned (OpenSpec.ofChange numsNarrowsSpec)

/-- ITS FALSE NEIGHBOUR: 'it returns false'. Refute it at one input. -/
def numsNarrowsWrong : ChangeSpec := { name := "numsNarrows", fn := fun _ => fun
  | [d] => { results := [.lit (.bool false)], args := [d] }
  | _ => none }
def NumsNarrowsWrongFalsely : Prop := numsNarrowsRow.holds Try.pinned (OpenSpec.ofChange numsNarrowsWrong)

/-- 'catacomblaw01.NumsMuls': WHATEVER THE INPUT: true; the input reads as it did. -/
def numsMulsSpec : ChangeSpec := { name := "numsMuls", fn := fun _ => fun
  | [d1, d2] => { results := [.lit (.bool true)], args := [d1, d2] }
  | _ => none }
def numsMulsRow : OpenClaim := { program := "ytbfjfplhgdnipaa", sum := "e1a3123c8b86a2a50611a3985023275a4164cd6d5e84c367e0568dcf94e51fcf", func := "catacomb/catacomblaw01.NumsMuls", spec := "numsMuls", apart := false }
def NumsMulsSaid : Prop := numsMulsRow.holds Try.pinned (OpenSpec.ofChange numsMulsSpec)

/-- ITS FALSE NEIGHBOUR: 'it returns false'. Refute it at one input. -/
def numsMulsWrong : ChangeSpec := { name := "numsMuls", fn := fun _ => fun
  | [d1, d2] => { results := [.lit (.bool false)], args := [d1, d2] }
  | _ => none }
def NumsMulsWrongFalsely : Prop := numsMulsRow.holds Try.pinned (OpenSpec.ofChange numsMulsWrong)

/-- 'catacomblaw01.NumsRise': WHATEVER THE INPUT: true; the input reads as it did. -/
def numsRiseSpec : ChangeSpec := { name := "numsRise", fn := fun _ => fun
  | [d1, d2, d3] => { results := [.lit (.bool true)], args := [d1, d2, d3] }
  | _ => none }
def numsRiseRow : OpenClaim := { program := "ytbfjfplhgdnipaa", sum := "e1a3123c8b86a2a50611a3985023275a4164cd6d5e84c367e0568dcf94e51fcf", func := "catacomb/catacomblaw01.NumsRise", spec := "numsRise", apart := false }
def NumsRiseSaid : Prop := numsRiseRow.holds Try.pinned (OpenSpec.ofChange numsRiseSpec)

/-- ITS FALSE NEIGHBOUR: 'it returns false'. Refute it at one input. -/
def numsRiseWrong : ChangeSpec := { name := "numsRise", fn := fun _ => fun
  | [d1, d2, d3] => { results := [.lit (.bool false)], args := [d1, d2, d3] }
  | _ => none }
def NumsRiseWrongFalsely : Prop := numsRiseRow.holds Try.pinned (OpenSpec.ofChange numsRiseWrong)

/- THE SECOND FORM. 'bulk': how many values and letters a reading holds, each counted each time it is reached (what is shared counts as often as it is met; a slice's spare places count too). A statement '..UptoSaid' is the law's where the arguments, and the package variables that the reading takes, are together of bulk at most 1048576: NARROWER than '..Said'. Prove '..Said' where nothing that the law and all that it calls make is longer than what came in: it says more and counts as full. Else prove '..UptoSaid'. A law counts once. -/
mutual
def uptoBulk {H : Type} : DataW H → Nat
  | .lit (.string bytes) => bytes.length + 1
  | .lit _ => 1
  | .nil => 1
  | .ptr d => uptoBulk d + 1
  | .slice elems spare => uptoBulkAll elems + uptoBulkAll spare + 1
  | .agg parts => uptoBulkAll parts + 1
  | .iface _ d => uptoBulk d + 1
  | .map entries => uptoBulkEntries entries + 1
  | .held _ => 1
def uptoBulkAll {H : Type} : List (DataW H) → Nat
  | [] => 0
  | d :: r => uptoBulk d + uptoBulkAll r
def uptoBulkEntries {H : Type} : List (Lit × DataW H) → Nat
  | [] => 0
  | x :: r => uptoBulkEntry x + uptoBulkEntries r
def uptoBulkEntry {H : Type} : Lit × DataW H → Nat
  | (.string bytes, d) => bytes.length + uptoBulk d + 1
  | (_, d) => uptoBulk d + 1
 end
def uptoSmall : (H : Type) → List (DataW H) → Bool := fun _ ds => decide (uptoBulkAll ds ≤ 1048576)
def OpenSpec.upto (s : _root_.Go.ChangeSpec) : _root_.Go.OpenSpec := { _root_.Go.OpenSpec.ofChange s with cond := some uptoSmall }

/-- 'catacomblaw01.NumsFolds', WHERE WHAT IT READS IS OF BULK AT MOST 1048576: true; the input reads as it did. -/
def numsFoldsUptoRow : OpenClaim := { program := "ytbfjfplhgdnipaa", sum := "e1a3123c8b86a2a50611a3985023275a4164cd6d5e84c367e0568dcf94e51fcf", func := "catacomb/catacomblaw01.NumsFolds", spec := "numsFolds", apart := false, narrowed := true }
def NumsFoldsUptoSaid : Prop := numsFoldsUptoRow.holds Try.pinned (OpenSpec.upto numsFoldsSpec)

/-- 'catacomblaw01.NumsAdds', WHERE WHAT IT READS IS OF BULK AT MOST 1048576: true; the input reads as it did. -/
def numsAddsUptoRow : OpenClaim := { program := "ytbfjfplhgdnipaa", sum := "e1a3123c8b86a2a50611a3985023275a4164cd6d5e84c367e0568dcf94e51fcf", func := "catacomb/catacomblaw01.NumsAdds", spec := "numsAdds", apart := false, narrowed := true }
def NumsAddsUptoSaid : Prop := numsAddsUptoRow.holds Try.pinned (OpenSpec.upto numsAddsSpec)

/-- 'catacomblaw01.NumsShifts', WHERE WHAT IT READS IS OF BULK AT MOST 1048576: true; the input reads as it did. -/
def numsShiftsUptoRow : OpenClaim := { program := "ytbfjfplhgdnipaa", sum := "e1a3123c8b86a2a50611a3985023275a4164cd6d5e84c367e0568dcf94e51fcf", func := "catacomb/catacomblaw01.NumsShifts", spec := "numsShifts", apart := false, narrowed := true }
def NumsShiftsUptoSaid : Prop := numsShiftsUptoRow.holds Try.pinned (OpenSpec.upto numsShiftsSpec)

/-- 'catacomblaw01.NumsNarrows', WHERE WHAT IT READS IS OF BULK AT MOST 1048576: true; the input reads as it did. -/
def numsNarrowsUptoRow : OpenClaim := { program := "ytbfjfplhgdnipaa", sum := "e1a3123c8b86a2a50611a3985023275a4164cd6d5e84c367e0568dcf94e51fcf", func := "catacomb/catacomblaw01.NumsNarrows", spec := "numsNarrows", unfollowed := true, recurses := true, apart := false, narrowed := true }
def NumsNarrowsUptoSaid : Prop := numsNarrowsUptoRow.holds Try.pinned (OpenSpec.upto numsNarrowsSpec)

/-- 'catacomblaw01.NumsMuls', WHERE WHAT IT READS IS OF BULK AT MOST 1048576: true; the input reads as it did. -/
def numsMulsUptoRow : OpenClaim := { program := "ytbfjfplhgdnipaa", sum := "e1a3123c8b86a2a50611a3985023275a4164cd6d5e84c367e0568dcf94e51fcf", func := "catacomb/catacomblaw01.NumsMuls", spec := "numsMuls", apart := false, narrowed := true }
def NumsMulsUptoSaid : Prop := numsMulsUptoRow.holds Try.pinned (OpenSpec.upto numsMulsSpec)

/-- 'catacomblaw01.NumsRise', WHERE WHAT IT READS IS OF BULK AT MOST 1048576: true; the input reads as it did. -/
def numsRiseUptoRow : OpenClaim := { program := "ytbfjfplhgdnipaa", sum := "e1a3123c8b86a2a50611a3985023275a4164cd6d5e84c367e0568dcf94e51fcf", func := "catacomb/catacomblaw01.NumsRise", spec := "numsRise", apart := false, narrowed := true }
def NumsRiseUptoSaid : Prop := numsRiseUptoRow.holds Try.pinned (OpenSpec.upto numsRiseSpec)

end Rows
end Go.Proofs.Ytbfjfplhgdnipaa
