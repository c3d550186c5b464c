/-
  No cell of these rows narrows 'for every input' (looked for: loops, veiled, ifaces, maps, wideKeys, modest, calm, conditions, laid).
  DERIVED. THE GIVEN ROWS OF THIS SEAT. 11 by the template 'for every input the law returns true; each argument reads behind the call as it read before'; 0 by the template 'total and deterministic' (their statements: YtafcogdplhljmaaTotals.lean).
  GIVEN WITH THE SEED: the statements are not yours to turn. If you find one false, say at which input.
  Laid BY PROGRAM, IN A SANDBOX (cutbox-rows.mjs): the forced cells as the released guide's own fill.sh prints them over the translation 435b353584fc2bcd… (all of the seat's roots in one cut). By AI agents, Wed Nov 11 2026. No macro, syntax, notation, axiom, sorry.
-/
import Derived.Test.YtafcogdplhljmaaChecked
import GoSem.Claim
import GoSem.ClaimJoined
import GoSem.ClaimMapViews
import Derived.JoinedTies
import Derived.KernelRfl
namespace Go.Proofs.Ytafcogdplhljmaa
/- THE CELL 'sum', in the pinned program and in every row, IS THE sha256 OF THE DUMP (.gsa) THAT YtafcogdplhljmaaProg.lean LOADS. Nothing in Lean hashes anything: it is a label: what it is worth is what the hold of that sum in a sandbox is worth. -/
noncomputable def Try.pinned : Pinned := { name := "ytafcogdplhljmaa", sum := "435b353584fc2bcdb5251f970285f3bed41b6c6758332031473ec2fec6d5eb80", checked := Try.checked }
namespace Rows
def none {H : Type} : Left H := { results := [], args := [] }

/-- 'catacomblaw12.NameRight': WHATEVER THE INPUT: true; the input reads as it did. -/
def nameRightSpec : ChangeSpec := { name := "nameRight", fn := fun _ => fun
  | [d] => { results := [.lit (.bool true)], args := [d] }
  | _ => none }
def nameRightRow : OpenClaim := { program := "ytafcogdplhljmaa", sum := "435b353584fc2bcdb5251f970285f3bed41b6c6758332031473ec2fec6d5eb80", func := "catacomb/catacomblaw12.NameRight", spec := "nameRight", apart := false }
def NameRightSaid : Prop := nameRightRow.holds Try.pinned (OpenSpec.ofChange nameRightSpec)

/-- ITS FALSE NEIGHBOUR: 'it returns false'. Refute it at one input. -/
def nameRightWrong : ChangeSpec := { name := "nameRight", fn := fun _ => fun
  | [d] => { results := [.lit (.bool false)], args := [d] }
  | _ => none }
def NameRightWrongFalsely : Prop := nameRightRow.holds Try.pinned (OpenSpec.ofChange nameRightWrong)

/-- 'catacomblaw12.NameFolds': WHATEVER THE INPUT: true; the input reads as it did. -/
def nameFoldsSpec : ChangeSpec := { name := "nameFolds", fn := fun _ => fun
  | [d] => { results := [.lit (.bool true)], args := [d] }
  | _ => none }
def nameFoldsRow : OpenClaim := { program := "ytafcogdplhljmaa", sum := "435b353584fc2bcdb5251f970285f3bed41b6c6758332031473ec2fec6d5eb80", func := "catacomb/catacomblaw12.NameFolds", spec := "nameFolds", apart := false }
def NameFoldsSaid : Prop := nameFoldsRow.holds Try.pinned (OpenSpec.ofChange nameFoldsSpec)

/-- ITS FALSE NEIGHBOUR: 'it returns false'. Refute it at one input. -/
def nameFoldsWrong : ChangeSpec := { name := "nameFolds", fn := fun _ => fun
  | [d] => { results := [.lit (.bool false)], args := [d] }
  | _ => none }
def NameFoldsWrongFalsely : Prop := nameFoldsRow.holds Try.pinned (OpenSpec.ofChange nameFoldsWrong)

/-- 'catacomblaw12.NameOrders': WHATEVER THE INPUT: true; the input reads as it did. -/
def nameOrdersSpec : ChangeSpec := { name := "nameOrders", fn := fun _ => fun
  | [d1, d2, d3] => { results := [.lit (.bool true)], args := [d1, d2, d3] }
  | _ => none }
def nameOrdersRow : OpenClaim := { program := "ytafcogdplhljmaa", sum := "435b353584fc2bcdb5251f970285f3bed41b6c6758332031473ec2fec6d5eb80", func := "catacomb/catacomblaw12.NameOrders", spec := "nameOrders", inPlace := ["internal/bytealg.abigen_runtime_cmpstring"], apart := false }
def NameOrdersSaid : Prop := nameOrdersRow.holds Try.pinned (OpenSpec.ofChange nameOrdersSpec)

/-- ITS FALSE NEIGHBOUR: 'it returns false'. Refute it at one input. -/
def nameOrdersWrong : ChangeSpec := { name := "nameOrders", fn := fun _ => fun
  | [d1, d2, d3] => { results := [.lit (.bool false)], args := [d1, d2, d3] }
  | _ => none }
def NameOrdersWrongFalsely : Prop := nameOrdersRow.holds Try.pinned (OpenSpec.ofChange nameOrdersWrong)

/-- 'catacomblaw12.NameFull': WHATEVER THE INPUT: true; the input reads as it did. -/
def nameFullSpec : ChangeSpec := { name := "nameFull", fn := fun _ => fun
  | [d1, d2] => { results := [.lit (.bool true)], args := [d1, d2] }
  | _ => none }
def nameFullRow : OpenClaim := { program := "ytafcogdplhljmaa", sum := "435b353584fc2bcdb5251f970285f3bed41b6c6758332031473ec2fec6d5eb80", func := "catacomb/catacomblaw12.NameFull", spec := "nameFull", inPlace := ["internal/bytealg.IndexByteString", "internal/bytealg.IndexString"], named := ["internal/bytealg.MaxLen"], apart := false }
def NameFullSaid : Prop := nameFullRow.holds Try.pinned (OpenSpec.ofChange nameFullSpec)

/-- ITS FALSE NEIGHBOUR: 'it returns false'. Refute it at one input. -/
def nameFullWrong : ChangeSpec := { name := "nameFull", fn := fun _ => fun
  | [d1, d2] => { results := [.lit (.bool false)], args := [d1, d2] }
  | _ => none }
def NameFullWrongFalsely : Prop := nameFullRow.holds Try.pinned (OpenSpec.ofChange nameFullWrong)

/-- 'catacomblaw07.HexOrders': WHATEVER THE INPUT: true; the input reads as it did. -/
def hexOrdersSpec : ChangeSpec := { name := "hexOrders", fn := fun _ => fun
  | [d1, d2] => { results := [.lit (.bool true)], args := [d1, d2] }
  | _ => none }
def hexOrdersRow : OpenClaim := { program := "ytafcogdplhljmaa", sum := "435b353584fc2bcdb5251f970285f3bed41b6c6758332031473ec2fec6d5eb80", func := "catacomb/catacomblaw07.HexOrders", spec := "hexOrders", inPlace := ["internal/abi.NoEscape"], apart := false }
def HexOrdersSaid : Prop := hexOrdersRow.holds Try.pinned (OpenSpec.ofChange hexOrdersSpec)

/-- ITS FALSE NEIGHBOUR: 'it returns false'. Refute it at one input. -/
def hexOrdersWrong : ChangeSpec := { name := "hexOrders", fn := fun _ => fun
  | [d1, d2] => { results := [.lit (.bool false)], args := [d1, d2] }
  | _ => none }
def HexOrdersWrongFalsely : Prop := hexOrdersRow.holds Try.pinned (OpenSpec.ofChange hexOrdersWrong)

/-- 'catacomblaw07.HexTells': WHATEVER THE INPUT: true; the input reads as it did. -/
def hexTellsSpec : ChangeSpec := { name := "hexTells", fn := fun _ => fun
  | [d] => { results := [.lit (.bool true)], args := [d] }
  | _ => none }
def hexTellsRow : OpenClaim := { program := "ytafcogdplhljmaa", sum := "435b353584fc2bcdb5251f970285f3bed41b6c6758332031473ec2fec6d5eb80", func := "catacomb/catacomblaw07.HexTells", spec := "hexTells", inPlace := ["internal/abi.NoEscape"], apart := false }
def HexTellsSaid : Prop := hexTellsRow.holds Try.pinned (OpenSpec.ofChange hexTellsSpec)

/-- ITS FALSE NEIGHBOUR: 'it returns false'. Refute it at one input. -/
def hexTellsWrong : ChangeSpec := { name := "hexTells", fn := fun _ => fun
  | [d] => { results := [.lit (.bool false)], args := [d] }
  | _ => none }
def HexTellsWrongFalsely : Prop := hexTellsRow.holds Try.pinned (OpenSpec.ofChange hexTellsWrong)

/-- 'catacomblaw07.HexDumps': WHATEVER THE INPUT: true; the input reads as it did. -/
def hexDumpsSpec : ChangeSpec := { name := "hexDumps", fn := fun _ => fun
  | [d1, d2] => { results := [.lit (.bool true)], args := [d1, d2] }
  | _ => none }
def hexDumpsRow : OpenClaim := { program := "ytafcogdplhljmaa", sum := "435b353584fc2bcdb5251f970285f3bed41b6c6758332031473ec2fec6d5eb80", func := "catacomb/catacomblaw07.HexDumps", spec := "hexDumps", inPlace := ["internal/abi.NoEscape", "internal/bytealg.MakeNoZero"], unfollowed := true, recurses := true, apart := false }
def HexDumpsSaid : Prop := hexDumpsRow.holds Try.pinned (OpenSpec.ofChange hexDumpsSpec)

/-- ITS FALSE NEIGHBOUR: 'it returns false'. Refute it at one input. -/
def hexDumpsWrong : ChangeSpec := { name := "hexDumps", fn := fun _ => fun
  | [d1, d2] => { results := [.lit (.bool false)], args := [d1, d2] }
  | _ => none }
def HexDumpsWrongFalsely : Prop := hexDumpsRow.holds Try.pinned (OpenSpec.ofChange hexDumpsWrong)

/-- 'catacomblaw13.WindowCuts': WHATEVER THE INPUT: true; the input reads as it did. -/
def windowCutsSpec : ChangeSpec := { name := "windowCuts", fn := fun _ => fun
  | [d1, d2, d3] => { results := [.lit (.bool true)], args := [d1, d2, d3] }
  | _ => none }
def windowCutsRow : OpenClaim := { program := "ytafcogdplhljmaa", sum := "435b353584fc2bcdb5251f970285f3bed41b6c6758332031473ec2fec6d5eb80", func := "catacomb/catacomblaw13.WindowCuts", spec := "windowCuts", apart := false }
def WindowCutsSaid : Prop := windowCutsRow.holds Try.pinned (OpenSpec.ofChange windowCutsSpec)

/-- ITS FALSE NEIGHBOUR: 'it returns false'. Refute it at one input. -/
def windowCutsWrong : ChangeSpec := { name := "windowCuts", fn := fun _ => fun
  | [d1, d2, d3] => { results := [.lit (.bool false)], args := [d1, d2, d3] }
  | _ => none }
def WindowCutsWrongFalsely : Prop := windowCutsRow.holds Try.pinned (OpenSpec.ofChange windowCutsWrong)

/-- 'catacomblaw13.WindowNests': WHATEVER THE INPUT: true; the input reads as it did. -/
def windowNestsSpec : ChangeSpec := { name := "windowNests", fn := fun _ => fun
  | [d] => { results := [.lit (.bool true)], args := [d] }
  | _ => none }
def windowNestsRow : OpenClaim := { program := "ytafcogdplhljmaa", sum := "435b353584fc2bcdb5251f970285f3bed41b6c6758332031473ec2fec6d5eb80", func := "catacomb/catacomblaw13.WindowNests", spec := "windowNests", unfollowed := true, recurses := true, apart := false }
def WindowNestsSaid : Prop := windowNestsRow.holds Try.pinned (OpenSpec.ofChange windowNestsSpec)

/-- ITS FALSE NEIGHBOUR: 'it returns false'. Refute it at one input. -/
def windowNestsWrong : ChangeSpec := { name := "windowNests", fn := fun _ => fun
  | [d] => { results := [.lit (.bool false)], args := [d] }
  | _ => none }
def WindowNestsWrongFalsely : Prop := windowNestsRow.holds Try.pinned (OpenSpec.ofChange windowNestsWrong)

/-- 'catacomblaw13.WindowOf': WHATEVER THE INPUT: true; the input reads as it did. -/
def windowOfSpec : ChangeSpec := { name := "windowOf", fn := fun _ => fun
  | [d1, d2, d3] => { results := [.lit (.bool true)], args := [d1, d2, d3] }
  | _ => none }
def windowOfRow : OpenClaim := { program := "ytafcogdplhljmaa", sum := "435b353584fc2bcdb5251f970285f3bed41b6c6758332031473ec2fec6d5eb80", func := "catacomb/catacomblaw13.WindowOf", spec := "windowOf", apart := false }
def WindowOfSaid : Prop := windowOfRow.holds Try.pinned (OpenSpec.ofChange windowOfSpec)

/-- ITS FALSE NEIGHBOUR: 'it returns false'. Refute it at one input. -/
def windowOfWrong : ChangeSpec := { name := "windowOf", fn := fun _ => fun
  | [d1, d2, d3] => { results := [.lit (.bool false)], args := [d1, d2, d3] }
  | _ => none }
def WindowOfWrongFalsely : Prop := windowOfRow.holds Try.pinned (OpenSpec.ofChange windowOfWrong)

/-- 'catacomblaw13.WindowRanges': WHATEVER THE INPUT: true; the input reads as it did. -/
def windowRangesSpec : ChangeSpec := { name := "windowRanges", fn := fun _ => fun
  | [d1, d2, d3] => { results := [.lit (.bool true)], args := [d1, d2, d3] }
  | _ => none }
def windowRangesRow : OpenClaim := { program := "ytafcogdplhljmaa", sum := "435b353584fc2bcdb5251f970285f3bed41b6c6758332031473ec2fec6d5eb80", func := "catacomb/catacomblaw13.WindowRanges", spec := "windowRanges", unfollowed := true, recurses := true, apart := false }
def WindowRangesSaid : Prop := windowRangesRow.holds Try.pinned (OpenSpec.ofChange windowRangesSpec)

/-- ITS FALSE NEIGHBOUR: 'it returns false'. Refute it at one input. -/
def windowRangesWrong : ChangeSpec := { name := "windowRanges", fn := fun _ => fun
  | [d1, d2, d3] => { results := [.lit (.bool false)], args := [d1, d2, d3] }
  | _ => none }
def WindowRangesWrongFalsely : Prop := windowRangesRow.holds Try.pinned (OpenSpec.ofChange windowRangesWrong)

/- THE SECOND FORM. 'bulk': how many values and letters a reading holds, each counted each time it is reached (what is shared counts as often as it is met; a slice's spare places count too). A statement '..UptoSaid' is the law's where the arguments, and the package variables that the reading takes, are together of bulk at most 1048576: NARROWER than '..Said'. Prove '..Said' where nothing that the law and all that it calls make is longer than what came in: it says more and counts as full. Else prove '..UptoSaid'. A law counts once. -/
mutual
def uptoBulk {H : Type} : DataW H → Nat
  | .lit (.string bytes) => bytes.length + 1
  | .lit _ => 1
  | .nil => 1
  | .ptr d => uptoBulk d + 1
  | .slice elems spare => uptoBulkAll elems + uptoBulkAll spare + 1
  | .agg parts => uptoBulkAll parts + 1
  | .iface _ d => uptoBulk d + 1
  | .map entries => uptoBulkEntries entries + 1
  | .held _ => 1
def uptoBulkAll {H : Type} : List (DataW H) → Nat
  | [] => 0
  | d :: r => uptoBulk d + uptoBulkAll r
def uptoBulkEntries {H : Type} : List (Lit × DataW H) → Nat
  | [] => 0
  | x :: r => uptoBulkEntry x + uptoBulkEntries r
def uptoBulkEntry {H : Type} : Lit × DataW H → Nat
  | (.string bytes, d) => bytes.length + uptoBulk d + 1
  | (_, d) => uptoBulk d + 1
 end
def uptoSmall : (H : Type) → List (DataW H) → Bool := fun _ ds => decide (uptoBulkAll ds ≤ 1048576)
def OpenSpec.upto (s : _root_.Go.ChangeSpec) : _root_.Go.OpenSpec := { _root_.Go.OpenSpec.ofChange s with cond := some uptoSmall }

/-- 'catacomblaw12.NameRight', WHERE WHAT IT READS IS OF BULK AT MOST 1048576: true; the input reads as it did. -/
def nameRightUptoRow : OpenClaim := { program := "ytafcogdplhljmaa", sum := "435b353584fc2bcdb5251f970285f3bed41b6c6758332031473ec2fec6d5eb80", func := "catacomb/catacomblaw12.NameRight", spec := "nameRight", apart := false, narrowed := true }
def NameRightUptoSaid : Prop := nameRightUptoRow.holds Try.pinned (OpenSpec.upto nameRightSpec)

/-- 'catacomblaw12.NameFolds', WHERE WHAT IT READS IS OF BULK AT MOST 1048576: true; the input reads as it did. -/
def nameFoldsUptoRow : OpenClaim := { program := "ytafcogdplhljmaa", sum := "435b353584fc2bcdb5251f970285f3bed41b6c6758332031473ec2fec6d5eb80", func := "catacomb/catacomblaw12.NameFolds", spec := "nameFolds", apart := false, narrowed := true }
def NameFoldsUptoSaid : Prop := nameFoldsUptoRow.holds Try.pinned (OpenSpec.upto nameFoldsSpec)

/-- 'catacomblaw12.NameOrders', WHERE WHAT IT READS IS OF BULK AT MOST 1048576: true; the input reads as it did. -/
def nameOrdersUptoRow : OpenClaim := { program := "ytafcogdplhljmaa", sum := "435b353584fc2bcdb5251f970285f3bed41b6c6758332031473ec2fec6d5eb80", func := "catacomb/catacomblaw12.NameOrders", spec := "nameOrders", inPlace := ["internal/bytealg.abigen_runtime_cmpstring"], apart := false, narrowed := true }
def NameOrdersUptoSaid : Prop := nameOrdersUptoRow.holds Try.pinned (OpenSpec.upto nameOrdersSpec)

/-- 'catacomblaw12.NameFull', WHERE WHAT IT READS IS OF BULK AT MOST 1048576: true; the input reads as it did. -/
def nameFullUptoRow : OpenClaim := { program := "ytafcogdplhljmaa", sum := "435b353584fc2bcdb5251f970285f3bed41b6c6758332031473ec2fec6d5eb80", func := "catacomb/catacomblaw12.NameFull", spec := "nameFull", inPlace := ["internal/bytealg.IndexByteString", "internal/bytealg.IndexString"], named := ["internal/bytealg.MaxLen"], apart := false, narrowed := true }
def NameFullUptoSaid : Prop := nameFullUptoRow.holds Try.pinned (OpenSpec.upto nameFullSpec)

/-- 'catacomblaw07.HexOrders', WHERE WHAT IT READS IS OF BULK AT MOST 1048576: true; the input reads as it did. -/
def hexOrdersUptoRow : OpenClaim := { program := "ytafcogdplhljmaa", sum := "435b353584fc2bcdb5251f970285f3bed41b6c6758332031473ec2fec6d5eb80", func := "catacomb/catacomblaw07.HexOrders", spec := "hexOrders", inPlace := ["internal/abi.NoEscape"], apart := false, narrowed := true }
def HexOrdersUptoSaid : Prop := hexOrdersUptoRow.holds Try.pinned (OpenSpec.upto hexOrdersSpec)

/-- 'catacomblaw07.HexTells', WHERE WHAT IT READS IS OF BULK AT MOST 1048576: true; the input reads as it did. -/
def hexTellsUptoRow : OpenClaim := { program := "ytafcogdplhljmaa", sum := "435b353584fc2bcdb5251f970285f3bed41b6c6758332031473ec2fec6d5eb80", func := "catacomb/catacomblaw07.HexTells", spec := "hexTells", inPlace := ["internal/abi.NoEscape"], apart := false, narrowed := true }
def HexTellsUptoSaid : Prop := hexTellsUptoRow.holds Try.pinned (OpenSpec.upto hexTellsSpec)

/-- 'catacomblaw07.HexDumps', WHERE WHAT IT READS IS OF BULK AT MOST 1048576: true; the input reads as it did. -/
def hexDumpsUptoRow : OpenClaim := { program := "ytafcogdplhljmaa", sum := "435b353584fc2bcdb5251f970285f3bed41b6c6758332031473ec2fec6d5eb80", func := "catacomb/catacomblaw07.HexDumps", spec := "hexDumps", inPlace := ["internal/abi.NoEscape", "internal/bytealg.MakeNoZero"], unfollowed := true, recurses := true, apart := false, narrowed := true }
def HexDumpsUptoSaid : Prop := hexDumpsUptoRow.holds Try.pinned (OpenSpec.upto hexDumpsSpec)

/-- 'catacomblaw13.WindowCuts', WHERE WHAT IT READS IS OF BULK AT MOST 1048576: true; the input reads as it did. -/
def windowCutsUptoRow : OpenClaim := { program := "ytafcogdplhljmaa", sum := "435b353584fc2bcdb5251f970285f3bed41b6c6758332031473ec2fec6d5eb80", func := "catacomb/catacomblaw13.WindowCuts", spec := "windowCuts", apart := false, narrowed := true }
def WindowCutsUptoSaid : Prop := windowCutsUptoRow.holds Try.pinned (OpenSpec.upto windowCutsSpec)

/-- 'catacomblaw13.WindowNests', WHERE WHAT IT READS IS OF BULK AT MOST 1048576: true; the input reads as it did. -/
def windowNestsUptoRow : OpenClaim := { program := "ytafcogdplhljmaa", sum := "435b353584fc2bcdb5251f970285f3bed41b6c6758332031473ec2fec6d5eb80", func := "catacomb/catacomblaw13.WindowNests", spec := "windowNests", unfollowed := true, recurses := true, apart := false, narrowed := true }
def WindowNestsUptoSaid : Prop := windowNestsUptoRow.holds Try.pinned (OpenSpec.upto windowNestsSpec)

/-- 'catacomblaw13.WindowOf', WHERE WHAT IT READS IS OF BULK AT MOST 1048576: true; the input reads as it did. -/
def windowOfUptoRow : OpenClaim := { program := "ytafcogdplhljmaa", sum := "435b353584fc2bcdb5251f970285f3bed41b6c6758332031473ec2fec6d5eb80", func := "catacomb/catacomblaw13.WindowOf", spec := "windowOf", apart := false, narrowed := true }
def WindowOfUptoSaid : Prop := windowOfUptoRow.holds Try.pinned (OpenSpec.upto windowOfSpec)

/-- 'catacomblaw13.WindowRanges', WHERE WHAT IT READS IS OF BULK AT MOST 1048576: true; the input reads as it did. -/
def windowRangesUptoRow : OpenClaim := { program := "ytafcogdplhljmaa", sum := "435b353584fc2bcdb5251f970285f3bed41b6c6758332031473ec2fec6d5eb80", func := "catacomb/catacomblaw13.WindowRanges", spec := "windowRanges", unfollowed := true, recurses := true, apart := false, narrowed := true }
def WindowRangesUptoSaid : Prop := windowRangesUptoRow.holds Try.pinned (OpenSpec.upto windowRangesSpec)

end Rows
end Go.Proofs.Ytafcogdplhljmaa
