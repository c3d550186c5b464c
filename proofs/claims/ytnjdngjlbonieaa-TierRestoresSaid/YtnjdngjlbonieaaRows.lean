/-
  No cell of these rows narrows 'for every input' (looked for: loops, veiled, ifaces, maps, wideKeys, modest, calm, conditions, laid).
  DERIVED. THE GIVEN ROWS OF THIS SEAT. 8 by the template 'for every input the law returns true; each argument reads behind the call as it read before'; 0 by the template 'total and deterministic' (their statements: YtnjdngjlbonieaaTotals.lean).
  GIVEN WITH THE SEED: the statements are not yours to turn. If you find one false, say at which input.
  Laid BY PROGRAM, IN A SANDBOX (cutbox-rows.mjs): the forced cells as the released guide's own fill.sh prints them over the translation 79c5988c84b5a870… (all of the seat's roots in one cut). By AI agents, Wed Nov 11 2026. No macro, syntax, notation, axiom, sorry.
-/
import Derived.Test.YtnjdngjlbonieaaChecked
import GoSem.Claim
import GoSem.ClaimJoined
import GoSem.ClaimMapViews
import Derived.JoinedTies
import Derived.KernelRfl
namespace Go.Proofs.Ytnjdngjlbonieaa
/- THE CELL 'sum', in the pinned program and in every row, IS THE sha256 OF THE DUMP (.gsa) THAT YtnjdngjlbonieaaProg.lean LOADS. Nothing in Lean hashes anything: it is a label: what it is worth is what the hold of that sum in a sandbox is worth. -/
noncomputable def Try.pinned : Pinned := { name := "ytnjdngjlbonieaa", sum := "79c5988c84b5a870a760c472061d3f1724df8eb1b037213938ed8b3f48b11912", checked := Try.checked }
namespace Rows
def none {H : Type} : Left H := { results := [], args := [] }

/-- 'catacomblaw15.RollWindows': WHATEVER THE INPUT: true; the input reads as it did. -/
def rollWindowsSpec : ChangeSpec := { name := "rollWindows", fn := fun _ => fun
  | [d1, d2] => { results := [.lit (.bool true)], args := [d1, d2] }
  | _ => none }
def rollWindowsRow : OpenClaim := { program := "ytnjdngjlbonieaa", sum := "79c5988c84b5a870a760c472061d3f1724df8eb1b037213938ed8b3f48b11912", func := "catacomb/catacomblaw15.RollWindows", spec := "rollWindows", unfollowed := true, recurses := true, apart := false }
def RollWindowsSaid : Prop := rollWindowsRow.holds Try.pinned (OpenSpec.ofChange rollWindowsSpec)

/-- ITS FALSE NEIGHBOUR: 'it returns false'. Refute it at one input. -/
def rollWindowsWrong : ChangeSpec := { name := "rollWindows", fn := fun _ => fun
  | [d1, d2] => { results := [.lit (.bool false)], args := [d1, d2] }
  | _ => none }
def RollWindowsWrongFalsely : Prop := rollWindowsRow.holds Try.pinned (OpenSpec.ofChange rollWindowsWrong)

/-- 'catacomblaw15.RollTiers': WHATEVER THE INPUT: true; the input reads as it did. -/
def rollTiersSpec : ChangeSpec := { name := "rollTiers", fn := fun _ => fun
  | [d] => { results := [.lit (.bool true)], args := [d] }
  | _ => none }
def rollTiersRow : OpenClaim := { program := "ytnjdngjlbonieaa", sum := "79c5988c84b5a870a760c472061d3f1724df8eb1b037213938ed8b3f48b11912", func := "catacomb/catacomblaw15.RollTiers", spec := "rollTiers", unfollowed := true, recurses := true, apart := false }
def RollTiersSaid : Prop := rollTiersRow.holds Try.pinned (OpenSpec.ofChange rollTiersSpec)

/-- ITS FALSE NEIGHBOUR: 'it returns false'. Refute it at one input. -/
def rollTiersWrong : ChangeSpec := { name := "rollTiers", fn := fun _ => fun
  | [d] => { results := [.lit (.bool false)], args := [d] }
  | _ => none }
def RollTiersWrongFalsely : Prop := rollTiersRow.holds Try.pinned (OpenSpec.ofChange rollTiersWrong)

/-- 'catacomblaw14.SeriesParts': WHATEVER THE INPUT: true; the input reads as it did. -/
def seriesPartsSpec : ChangeSpec := { name := "seriesParts", fn := fun _ => fun
  | [d1, d2, d3, d4] => { results := [.lit (.bool true)], args := [d1, d2, d3, d4] }
  | _ => none }
def seriesPartsRow : OpenClaim := { program := "ytnjdngjlbonieaa", sum := "79c5988c84b5a870a760c472061d3f1724df8eb1b037213938ed8b3f48b11912", func := "catacomb/catacomblaw14.SeriesParts", spec := "seriesParts", inPlace := ["slices.overlaps[catacomb/api.Point]"], unfollowed := true, recurses := true, apart := false }
def SeriesPartsSaid : Prop := seriesPartsRow.holds Try.pinned (OpenSpec.ofChange seriesPartsSpec)

/-- ITS FALSE NEIGHBOUR: 'it returns false'. Refute it at one input. -/
def seriesPartsWrong : ChangeSpec := { name := "seriesParts", fn := fun _ => fun
  | [d1, d2, d3, d4] => { results := [.lit (.bool false)], args := [d1, d2, d3, d4] }
  | _ => none }
def SeriesPartsWrongFalsely : Prop := seriesPartsRow.holds Try.pinned (OpenSpec.ofChange seriesPartsWrong)

/-- 'catacomblaw14.SeriesAgain': WHATEVER THE INPUT: true; the input reads as it did. -/
def seriesAgainSpec : ChangeSpec := { name := "seriesAgain", fn := fun _ => fun
  | [d1, d2] => { results := [.lit (.bool true)], args := [d1, d2] }
  | _ => none }
def seriesAgainRow : OpenClaim := { program := "ytnjdngjlbonieaa", sum := "79c5988c84b5a870a760c472061d3f1724df8eb1b037213938ed8b3f48b11912", func := "catacomb/catacomblaw14.SeriesAgain", spec := "seriesAgain", inPlace := ["slices.overlaps[catacomb/api.Point]"], unfollowed := true, recurses := true, apart := false }
def SeriesAgainSaid : Prop := seriesAgainRow.holds Try.pinned (OpenSpec.ofChange seriesAgainSpec)

/-- ITS FALSE NEIGHBOUR: 'it returns false'. Refute it at one input. -/
def seriesAgainWrong : ChangeSpec := { name := "seriesAgain", fn := fun _ => fun
  | [d1, d2] => { results := [.lit (.bool false)], args := [d1, d2] }
  | _ => none }
def SeriesAgainWrongFalsely : Prop := seriesAgainRow.holds Try.pinned (OpenSpec.ofChange seriesAgainWrong)

/-- 'catacomblaw14.SeriesFull': WHATEVER THE INPUT: true; the input reads as it did. -/
def seriesFullSpec : ChangeSpec := { name := "seriesFull", fn := fun _ => fun
  | [d1, d2] => { results := [.lit (.bool true)], args := [d1, d2] }
  | _ => none }
def seriesFullRow : OpenClaim := { program := "ytnjdngjlbonieaa", sum := "79c5988c84b5a870a760c472061d3f1724df8eb1b037213938ed8b3f48b11912", func := "catacomb/catacomblaw14.SeriesFull", spec := "seriesFull", inPlace := ["slices.overlaps[catacomb/api.Point]"], unfollowed := true, recurses := true, apart := false }
def SeriesFullSaid : Prop := seriesFullRow.holds Try.pinned (OpenSpec.ofChange seriesFullSpec)

/-- ITS FALSE NEIGHBOUR: 'it returns false'. Refute it at one input. -/
def seriesFullWrong : ChangeSpec := { name := "seriesFull", fn := fun _ => fun
  | [d1, d2] => { results := [.lit (.bool false)], args := [d1, d2] }
  | _ => none }
def SeriesFullWrongFalsely : Prop := seriesFullRow.holds Try.pinned (OpenSpec.ofChange seriesFullWrong)

/-- 'catacomblaw16.TierRolls': WHATEVER THE INPUT: true; the input reads as it did. -/
def tierRollsSpec : ChangeSpec := { name := "tierRolls", fn := fun _ => fun
  | [d1, d2, d3] => { results := [.lit (.bool true)], args := [d1, d2, d3] }
  | _ => none }
def tierRollsRow : OpenClaim := { program := "ytnjdngjlbonieaa", sum := "79c5988c84b5a870a760c472061d3f1724df8eb1b037213938ed8b3f48b11912", func := "catacomb/catacomblaw16.TierRolls", spec := "tierRolls", inPlace := ["slices.overlaps[catacomb/api.Point]"], unfollowed := true, recurses := true, apart := false }
def TierRollsSaid : Prop := tierRollsRow.holds Try.pinned (OpenSpec.ofChange tierRollsSpec)

/-- ITS FALSE NEIGHBOUR: 'it returns false'. Refute it at one input. -/
def tierRollsWrong : ChangeSpec := { name := "tierRolls", fn := fun _ => fun
  | [d1, d2, d3] => { results := [.lit (.bool false)], args := [d1, d2, d3] }
  | _ => none }
def TierRollsWrongFalsely : Prop := tierRollsRow.holds Try.pinned (OpenSpec.ofChange tierRollsWrong)

/-- 'catacomblaw16.TierForgets': WHATEVER THE INPUT: true; the input reads as it did. -/
def tierForgetsSpec : ChangeSpec := { name := "tierForgets", fn := fun _ => fun
  | [d1, d2, d3, d4] => { results := [.lit (.bool true)], args := [d1, d2, d3, d4] }
  | _ => none }
def tierForgetsRow : OpenClaim := { program := "ytnjdngjlbonieaa", sum := "79c5988c84b5a870a760c472061d3f1724df8eb1b037213938ed8b3f48b11912", func := "catacomb/catacomblaw16.TierForgets", spec := "tierForgets", inPlace := ["slices.overlaps[catacomb/api.Point]"], unfollowed := true, recurses := true, apart := false }
def TierForgetsSaid : Prop := tierForgetsRow.holds Try.pinned (OpenSpec.ofChange tierForgetsSpec)

/-- ITS FALSE NEIGHBOUR: 'it returns false'. Refute it at one input. -/
def tierForgetsWrong : ChangeSpec := { name := "tierForgets", fn := fun _ => fun
  | [d1, d2, d3, d4] => { results := [.lit (.bool false)], args := [d1, d2, d3, d4] }
  | _ => none }
def TierForgetsWrongFalsely : Prop := tierForgetsRow.holds Try.pinned (OpenSpec.ofChange tierForgetsWrong)

/-- 'catacomblaw16.TierRestores': WHATEVER THE INPUT: true; the input reads as it did. -/
def tierRestoresSpec : ChangeSpec := { name := "tierRestores", fn := fun _ => fun
  | [d1, d2, d3] => { results := [.lit (.bool true)], args := [d1, d2, d3] }
  | _ => none }
def tierRestoresRow : OpenClaim := { program := "ytnjdngjlbonieaa", sum := "79c5988c84b5a870a760c472061d3f1724df8eb1b037213938ed8b3f48b11912", func := "catacomb/catacomblaw16.TierRestores", spec := "tierRestores", inPlace := ["slices.overlaps[catacomb/api.Point]"], unfollowed := true, recurses := true, apart := false }
def TierRestoresSaid : Prop := tierRestoresRow.holds Try.pinned (OpenSpec.ofChange tierRestoresSpec)

/-- ITS FALSE NEIGHBOUR: 'it returns false'. Refute it at one input. -/
def tierRestoresWrong : ChangeSpec := { name := "tierRestores", fn := fun _ => fun
  | [d1, d2, d3] => { results := [.lit (.bool false)], args := [d1, d2, d3] }
  | _ => none }
def TierRestoresWrongFalsely : Prop := tierRestoresRow.holds Try.pinned (OpenSpec.ofChange tierRestoresWrong)

/- THE SECOND FORM. 'bulk': how many values and letters a reading holds, each counted each time it is reached (what is shared counts as often as it is met; a slice's spare places count too). A statement '..UptoSaid' is the law's where the arguments, and the package variables that the reading takes, are together of bulk at most 1048576: NARROWER than '..Said'. Prove '..Said' where nothing that the law and all that it calls make is longer than what came in: it says more and counts as full. Else prove '..UptoSaid'. A law counts once. -/
mutual
def uptoBulk {H : Type} : DataW H → Nat
  | .lit (.string bytes) => bytes.length + 1
  | .lit _ => 1
  | .nil => 1
  | .ptr d => uptoBulk d + 1
  | .slice elems spare => uptoBulkAll elems + uptoBulkAll spare + 1
  | .agg parts => uptoBulkAll parts + 1
  | .iface _ d => uptoBulk d + 1
  | .map entries => uptoBulkEntries entries + 1
  | .held _ => 1
def uptoBulkAll {H : Type} : List (DataW H) → Nat
  | [] => 0
  | d :: r => uptoBulk d + uptoBulkAll r
def uptoBulkEntries {H : Type} : List (Lit × DataW H) → Nat
  | [] => 0
  | x :: r => uptoBulkEntry x + uptoBulkEntries r
def uptoBulkEntry {H : Type} : Lit × DataW H → Nat
  | (.string bytes, d) => bytes.length + uptoBulk d + 1
  | (_, d) => uptoBulk d + 1
 end
def uptoSmall : (H : Type) → List (DataW H) → Bool := fun _ ds => decide (uptoBulkAll ds ≤ 1048576)
def OpenSpec.upto (s : _root_.Go.ChangeSpec) : _root_.Go.OpenSpec := { _root_.Go.OpenSpec.ofChange s with cond := some uptoSmall }

/-- 'catacomblaw15.RollWindows', WHERE WHAT IT READS IS OF BULK AT MOST 1048576: true; the input reads as it did. -/
def rollWindowsUptoRow : OpenClaim := { program := "ytnjdngjlbonieaa", sum := "79c5988c84b5a870a760c472061d3f1724df8eb1b037213938ed8b3f48b11912", func := "catacomb/catacomblaw15.RollWindows", spec := "rollWindows", unfollowed := true, recurses := true, apart := false, narrowed := true }
def RollWindowsUptoSaid : Prop := rollWindowsUptoRow.holds Try.pinned (OpenSpec.upto rollWindowsSpec)

/-- 'catacomblaw15.RollTiers', WHERE WHAT IT READS IS OF BULK AT MOST 1048576: true; the input reads as it did. -/
def rollTiersUptoRow : OpenClaim := { program := "ytnjdngjlbonieaa", sum := "79c5988c84b5a870a760c472061d3f1724df8eb1b037213938ed8b3f48b11912", func := "catacomb/catacomblaw15.RollTiers", spec := "rollTiers", unfollowed := true, recurses := true, apart := false, narrowed := true }
def RollTiersUptoSaid : Prop := rollTiersUptoRow.holds Try.pinned (OpenSpec.upto rollTiersSpec)

/-- 'catacomblaw14.SeriesParts', WHERE WHAT IT READS IS OF BULK AT MOST 1048576: true; the input reads as it did. -/
def seriesPartsUptoRow : OpenClaim := { program := "ytnjdngjlbonieaa", sum := "79c5988c84b5a870a760c472061d3f1724df8eb1b037213938ed8b3f48b11912", func := "catacomb/catacomblaw14.SeriesParts", spec := "seriesParts", inPlace := ["slices.overlaps[catacomb/api.Point]"], unfollowed := true, recurses := true, apart := false, narrowed := true }
def SeriesPartsUptoSaid : Prop := seriesPartsUptoRow.holds Try.pinned (OpenSpec.upto seriesPartsSpec)

/-- 'catacomblaw14.SeriesAgain', WHERE WHAT IT READS IS OF BULK AT MOST 1048576: true; the input reads as it did. -/
def seriesAgainUptoRow : OpenClaim := { program := "ytnjdngjlbonieaa", sum := "79c5988c84b5a870a760c472061d3f1724df8eb1b037213938ed8b3f48b11912", func := "catacomb/catacomblaw14.SeriesAgain", spec := "seriesAgain", inPlace := ["slices.overlaps[catacomb/api.Point]"], unfollowed := true, recurses := true, apart := false, narrowed := true }
def SeriesAgainUptoSaid : Prop := seriesAgainUptoRow.holds Try.pinned (OpenSpec.upto seriesAgainSpec)

/-- 'catacomblaw14.SeriesFull', WHERE WHAT IT READS IS OF BULK AT MOST 1048576: true; the input reads as it did. -/
def seriesFullUptoRow : OpenClaim := { program := "ytnjdngjlbonieaa", sum := "79c5988c84b5a870a760c472061d3f1724df8eb1b037213938ed8b3f48b11912", func := "catacomb/catacomblaw14.SeriesFull", spec := "seriesFull", inPlace := ["slices.overlaps[catacomb/api.Point]"], unfollowed := true, recurses := true, apart := false, narrowed := true }
def SeriesFullUptoSaid : Prop := seriesFullUptoRow.holds Try.pinned (OpenSpec.upto seriesFullSpec)

/-- 'catacomblaw16.TierRolls', WHERE WHAT IT READS IS OF BULK AT MOST 1048576: true; the input reads as it did. -/
def tierRollsUptoRow : OpenClaim := { program := "ytnjdngjlbonieaa", sum := "79c5988c84b5a870a760c472061d3f1724df8eb1b037213938ed8b3f48b11912", func := "catacomb/catacomblaw16.TierRolls", spec := "tierRolls", inPlace := ["slices.overlaps[catacomb/api.Point]"], unfollowed := true, recurses := true, apart := false, narrowed := true }
def TierRollsUptoSaid : Prop := tierRollsUptoRow.holds Try.pinned (OpenSpec.upto tierRollsSpec)

/-- 'catacomblaw16.TierForgets', WHERE WHAT IT READS IS OF BULK AT MOST 1048576: true; the input reads as it did. -/
def tierForgetsUptoRow : OpenClaim := { program := "ytnjdngjlbonieaa", sum := "79c5988c84b5a870a760c472061d3f1724df8eb1b037213938ed8b3f48b11912", func := "catacomb/catacomblaw16.TierForgets", spec := "tierForgets", inPlace := ["slices.overlaps[catacomb/api.Point]"], unfollowed := true, recurses := true, apart := false, narrowed := true }
def TierForgetsUptoSaid : Prop := tierForgetsUptoRow.holds Try.pinned (OpenSpec.upto tierForgetsSpec)

/-- 'catacomblaw16.TierRestores', WHERE WHAT IT READS IS OF BULK AT MOST 1048576: true; the input reads as it did. -/
def tierRestoresUptoRow : OpenClaim := { program := "ytnjdngjlbonieaa", sum := "79c5988c84b5a870a760c472061d3f1724df8eb1b037213938ed8b3f48b11912", func := "catacomb/catacomblaw16.TierRestores", spec := "tierRestores", inPlace := ["slices.overlaps[catacomb/api.Point]"], unfollowed := true, recurses := true, apart := false, narrowed := true }
def TierRestoresUptoSaid : Prop := tierRestoresUptoRow.holds Try.pinned (OpenSpec.upto tierRestoresSpec)

end Rows
end Go.Proofs.Ytnjdngjlbonieaa
