/-
  No cell of these rows narrows 'for every input' (looked for: loops, veiled, ifaces, maps, wideKeys, modest, calm, conditions, laid).
  DERIVED. THE GIVEN ROWS OF THIS SEAT. 12 by the template 'for every input the law returns true; each argument reads behind the call as it read before'; 0 by the template 'total and deterministic' (their statements: YtdkmfkdagikpgaaTotals.lean).
  GIVEN WITH THE SEED: the statements are not yours to turn. If you find one false, say at which input.
  Laid BY PROGRAM, IN A SANDBOX (cutbox-rows.mjs): the forced cells as the released guide's own fill.sh prints them over the translation 1eb48a76c22f0c7d… (all of the seat's roots in one cut). By AI agents, Wed Nov 11 2026. No macro, syntax, notation, axiom, sorry.
-/
import Derived.Test.YtdkmfkdagikpgaaChecked
import GoSem.Claim
import GoSem.ClaimJoined
import GoSem.ClaimMapViews
import Derived.JoinedTies
import Derived.KernelRfl
namespace Go.Proofs.Ytdkmfkdagikpgaa
/- THE CELL 'sum', in the pinned program and in every row, IS THE sha256 OF THE DUMP (.gsa) THAT YtdkmfkdagikpgaaProg.lean LOADS. Nothing in Lean hashes anything: it is a label: what it is worth is what the hold of that sum in a sandbox is worth. -/
noncomputable def Try.pinned : Pinned := { name := "ytdkmfkdagikpgaa", sum := "1eb48a76c22f0c7da73d4cdf7a1346045ce325b01735d9327a516c5fbe6a63fb", checked := Try.checked }
namespace Rows
def none {H : Type} : Left H := { results := [], args := [] }

/-- 'catacomblaw15.RollOf': WHATEVER THE INPUT: true; the input reads as it did. -/
def rollOfSpec : ChangeSpec := { name := "rollOf", fn := fun _ => fun
  | [d1, d2, d3] => { results := [.lit (.bool true)], args := [d1, d2, d3] }
  | _ => none }
def rollOfRow : OpenClaim := { program := "ytdkmfkdagikpgaa", sum := "1eb48a76c22f0c7da73d4cdf7a1346045ce325b01735d9327a516c5fbe6a63fb", func := "catacomb/catacomblaw15.RollOf", spec := "rollOf", apart := false }
def RollOfSaid : Prop := rollOfRow.holds Try.pinned (OpenSpec.ofChange rollOfSpec)

/-- ITS FALSE NEIGHBOUR: 'it returns false'. Refute it at one input. -/
def rollOfWrong : ChangeSpec := { name := "rollOf", fn := fun _ => fun
  | [d1, d2, d3] => { results := [.lit (.bool false)], args := [d1, d2, d3] }
  | _ => none }
def RollOfWrongFalsely : Prop := rollOfRow.holds Try.pinned (OpenSpec.ofChange rollOfWrong)

/-- 'catacomblaw15.RollMeans': WHATEVER THE INPUT: true; the input reads as it did. -/
def rollMeansSpec : ChangeSpec := { name := "rollMeans", fn := fun _ => fun
  | [d1, d2] => { results := [.lit (.bool true)], args := [d1, d2] }
  | _ => none }
def rollMeansRow : OpenClaim := { program := "ytdkmfkdagikpgaa", sum := "1eb48a76c22f0c7da73d4cdf7a1346045ce325b01735d9327a516c5fbe6a63fb", func := "catacomb/catacomblaw15.RollMeans", spec := "rollMeans", apart := false }
def RollMeansSaid : Prop := rollMeansRow.holds Try.pinned (OpenSpec.ofChange rollMeansSpec)

/-- ITS FALSE NEIGHBOUR: 'it returns false'. Refute it at one input. -/
def rollMeansWrong : ChangeSpec := { name := "rollMeans", fn := fun _ => fun
  | [d1, d2] => { results := [.lit (.bool false)], args := [d1, d2] }
  | _ => none }
def RollMeansWrongFalsely : Prop := rollMeansRow.holds Try.pinned (OpenSpec.ofChange rollMeansWrong)

/-- 'catacomblaw15.RollJoins': WHATEVER THE INPUT: true; the input reads as it did. -/
def rollJoinsSpec : ChangeSpec := { name := "rollJoins", fn := fun _ => fun
  | [d1, d2] => { results := [.lit (.bool true)], args := [d1, d2] }
  | _ => none }
def rollJoinsRow : OpenClaim := { program := "ytdkmfkdagikpgaa", sum := "1eb48a76c22f0c7da73d4cdf7a1346045ce325b01735d9327a516c5fbe6a63fb", func := "catacomb/catacomblaw15.RollJoins", spec := "rollJoins", apart := false }
def RollJoinsSaid : Prop := rollJoinsRow.holds Try.pinned (OpenSpec.ofChange rollJoinsSpec)

/-- ITS FALSE NEIGHBOUR: 'it returns false'. Refute it at one input. -/
def rollJoinsWrong : ChangeSpec := { name := "rollJoins", fn := fun _ => fun
  | [d1, d2] => { results := [.lit (.bool false)], args := [d1, d2] }
  | _ => none }
def RollJoinsWrongFalsely : Prop := rollJoinsRow.holds Try.pinned (OpenSpec.ofChange rollJoinsWrong)

/-- 'catacomblaw15.RollWindows': WHATEVER THE INPUT: true; the input reads as it did. -/
def rollWindowsSpec : ChangeSpec := { name := "rollWindows", fn := fun _ => fun
  | [d1, d2] => { results := [.lit (.bool true)], args := [d1, d2] }
  | _ => none }
def rollWindowsRow : OpenClaim := { program := "ytdkmfkdagikpgaa", sum := "1eb48a76c22f0c7da73d4cdf7a1346045ce325b01735d9327a516c5fbe6a63fb", func := "catacomb/catacomblaw15.RollWindows", spec := "rollWindows", unfollowed := true, recurses := true, apart := false }
def RollWindowsSaid : Prop := rollWindowsRow.holds Try.pinned (OpenSpec.ofChange rollWindowsSpec)

/-- ITS FALSE NEIGHBOUR: 'it returns false'. Refute it at one input. -/
def rollWindowsWrong : ChangeSpec := { name := "rollWindows", fn := fun _ => fun
  | [d1, d2] => { results := [.lit (.bool false)], args := [d1, d2] }
  | _ => none }
def RollWindowsWrongFalsely : Prop := rollWindowsRow.holds Try.pinned (OpenSpec.ofChange rollWindowsWrong)

/-- 'catacomblaw15.RollTiers': WHATEVER THE INPUT: true; the input reads as it did. -/
def rollTiersSpec : ChangeSpec := { name := "rollTiers", fn := fun _ => fun
  | [d] => { results := [.lit (.bool true)], args := [d] }
  | _ => none }
def rollTiersRow : OpenClaim := { program := "ytdkmfkdagikpgaa", sum := "1eb48a76c22f0c7da73d4cdf7a1346045ce325b01735d9327a516c5fbe6a63fb", func := "catacomb/catacomblaw15.RollTiers", spec := "rollTiers", unfollowed := true, recurses := true, apart := false }
def RollTiersSaid : Prop := rollTiersRow.holds Try.pinned (OpenSpec.ofChange rollTiersSpec)

/-- ITS FALSE NEIGHBOUR: 'it returns false'. Refute it at one input. -/
def rollTiersWrong : ChangeSpec := { name := "rollTiers", fn := fun _ => fun
  | [d] => { results := [.lit (.bool false)], args := [d] }
  | _ => none }
def RollTiersWrongFalsely : Prop := rollTiersRow.holds Try.pinned (OpenSpec.ofChange rollTiersWrong)

/-- 'catacomblaw02.BitsParts': WHATEVER THE INPUT: true; the input reads as it did. -/
def bitsPartsSpec : ChangeSpec := { name := "bitsParts", fn := fun _ => fun
  | [d1, d2, d3] => { results := [.lit (.bool true)], args := [d1, d2, d3] }
  | _ => none }
def bitsPartsRow : OpenClaim := { program := "ytdkmfkdagikpgaa", sum := "1eb48a76c22f0c7da73d4cdf7a1346045ce325b01735d9327a516c5fbe6a63fb", func := "catacomb/catacomblaw02.BitsParts", spec := "bitsParts", apart := false }
def BitsPartsSaid : Prop := bitsPartsRow.holds Try.pinned (OpenSpec.ofChange bitsPartsSpec)

/-- ITS FALSE NEIGHBOUR: 'it returns false'. Refute it at one input. -/
def bitsPartsWrong : ChangeSpec := { name := "bitsParts", fn := fun _ => fun
  | [d1, d2, d3] => { results := [.lit (.bool false)], args := [d1, d2, d3] }
  | _ => none }
def BitsPartsWrongFalsely : Prop := bitsPartsRow.holds Try.pinned (OpenSpec.ofChange bitsPartsWrong)

/-- 'catacomblaw02.BitsReads': WHATEVER THE INPUT: true; the input reads as it did. -/
def bitsReadsSpec : ChangeSpec := { name := "bitsReads", fn := fun _ => fun
  | [d1, d2] => { results := [.lit (.bool true)], args := [d1, d2] }
  | _ => none }
def bitsReadsRow : OpenClaim := { program := "ytdkmfkdagikpgaa", sum := "1eb48a76c22f0c7da73d4cdf7a1346045ce325b01735d9327a516c5fbe6a63fb", func := "catacomb/catacomblaw02.BitsReads", spec := "bitsReads", apart := false }
def BitsReadsSaid : Prop := bitsReadsRow.holds Try.pinned (OpenSpec.ofChange bitsReadsSpec)

/-- ITS FALSE NEIGHBOUR: 'it returns false'. Refute it at one input. -/
def bitsReadsWrong : ChangeSpec := { name := "bitsReads", fn := fun _ => fun
  | [d1, d2] => { results := [.lit (.bool false)], args := [d1, d2] }
  | _ => none }
def BitsReadsWrongFalsely : Prop := bitsReadsRow.holds Try.pinned (OpenSpec.ofChange bitsReadsWrong)

/-- 'catacomblaw02.BitsNone': WHATEVER THE INPUT: true; the input reads as it did. -/
def bitsNoneSpec : ChangeSpec := { name := "bitsNone", fn := fun _ => fun
  | [d1, d2] => { results := [.lit (.bool true)], args := [d1, d2] }
  | _ => none }
def bitsNoneRow : OpenClaim := { program := "ytdkmfkdagikpgaa", sum := "1eb48a76c22f0c7da73d4cdf7a1346045ce325b01735d9327a516c5fbe6a63fb", func := "catacomb/catacomblaw02.BitsNone", spec := "bitsNone", apart := false }
def BitsNoneSaid : Prop := bitsNoneRow.holds Try.pinned (OpenSpec.ofChange bitsNoneSpec)

/-- ITS FALSE NEIGHBOUR: 'it returns false'. Refute it at one input. -/
def bitsNoneWrong : ChangeSpec := { name := "bitsNone", fn := fun _ => fun
  | [d1, d2] => { results := [.lit (.bool false)], args := [d1, d2] }
  | _ => none }
def BitsNoneWrongFalsely : Prop := bitsNoneRow.holds Try.pinned (OpenSpec.ofChange bitsNoneWrong)

/-- 'catacomblaw02.BitsWrites': WHATEVER THE INPUT: true; the input reads as it did. -/
def bitsWritesSpec : ChangeSpec := { name := "bitsWrites", fn := fun _ => fun
  | [d] => { results := [.lit (.bool true)], args := [d] }
  | _ => none }
def bitsWritesRow : OpenClaim := { program := "ytdkmfkdagikpgaa", sum := "1eb48a76c22f0c7da73d4cdf7a1346045ce325b01735d9327a516c5fbe6a63fb", func := "catacomb/catacomblaw02.BitsWrites", spec := "bitsWrites", apart := false }
def BitsWritesSaid : Prop := bitsWritesRow.holds Try.pinned (OpenSpec.ofChange bitsWritesSpec)

/-- ITS FALSE NEIGHBOUR: 'it returns false'. Refute it at one input. -/
def bitsWritesWrong : ChangeSpec := { name := "bitsWrites", fn := fun _ => fun
  | [d] => { results := [.lit (.bool false)], args := [d] }
  | _ => none }
def BitsWritesWrongFalsely : Prop := bitsWritesRow.holds Try.pinned (OpenSpec.ofChange bitsWritesWrong)

/-- 'catacomblaw24.SlotsBack': WHATEVER THE INPUT: true; the input reads as it did. -/
def slotsBackSpec : ChangeSpec := { name := "slotsBack", fn := fun _ => fun
  | [d] => { results := [.lit (.bool true)], args := [d] }
  | _ => none }
def slotsBackRow : OpenClaim := { program := "ytdkmfkdagikpgaa", sum := "1eb48a76c22f0c7da73d4cdf7a1346045ce325b01735d9327a516c5fbe6a63fb", func := "catacomb/catacomblaw24.SlotsBack", spec := "slotsBack", unfollowed := true, recurses := true, apart := false }
def SlotsBackSaid : Prop := slotsBackRow.holds Try.pinned (OpenSpec.ofChange slotsBackSpec)

/-- ITS FALSE NEIGHBOUR: 'it returns false'. Refute it at one input. -/
def slotsBackWrong : ChangeSpec := { name := "slotsBack", fn := fun _ => fun
  | [d] => { results := [.lit (.bool false)], args := [d] }
  | _ => none }
def SlotsBackWrongFalsely : Prop := slotsBackRow.holds Try.pinned (OpenSpec.ofChange slotsBackWrong)

/-- 'catacomblaw24.SlotsTurn': WHATEVER THE INPUT: true; the input reads as it did. -/
def slotsTurnSpec : ChangeSpec := { name := "slotsTurn", fn := fun _ => fun
  | [d1, d2] => { results := [.lit (.bool true)], args := [d1, d2] }
  | _ => none }
def slotsTurnRow : OpenClaim := { program := "ytdkmfkdagikpgaa", sum := "1eb48a76c22f0c7da73d4cdf7a1346045ce325b01735d9327a516c5fbe6a63fb", func := "catacomb/catacomblaw24.SlotsTurn", spec := "slotsTurn", apart := false }
def SlotsTurnSaid : Prop := slotsTurnRow.holds Try.pinned (OpenSpec.ofChange slotsTurnSpec)

/-- ITS FALSE NEIGHBOUR: 'it returns false'. Refute it at one input. -/
def slotsTurnWrong : ChangeSpec := { name := "slotsTurn", fn := fun _ => fun
  | [d1, d2] => { results := [.lit (.bool false)], args := [d1, d2] }
  | _ => none }
def SlotsTurnWrongFalsely : Prop := slotsTurnRow.holds Try.pinned (OpenSpec.ofChange slotsTurnWrong)

/-- 'catacomblaw24.SlotsPlay': WHATEVER THE INPUT: true; the input reads as it did. -/
def slotsPlaySpec : ChangeSpec := { name := "slotsPlay", fn := fun _ => fun
  | [d1, d2] => { results := [.lit (.bool true)], args := [d1, d2] }
  | _ => none }
def slotsPlayRow : OpenClaim := { program := "ytdkmfkdagikpgaa", sum := "1eb48a76c22f0c7da73d4cdf7a1346045ce325b01735d9327a516c5fbe6a63fb", func := "catacomb/catacomblaw24.SlotsPlay", spec := "slotsPlay", unfollowed := true, recurses := true, apart := false }
def SlotsPlaySaid : Prop := slotsPlayRow.holds Try.pinned (OpenSpec.ofChange slotsPlaySpec)

/-- ITS FALSE NEIGHBOUR: 'it returns false'. Refute it at one input. -/
def slotsPlayWrong : ChangeSpec := { name := "slotsPlay", fn := fun _ => fun
  | [d1, d2] => { results := [.lit (.bool false)], args := [d1, d2] }
  | _ => none }
def SlotsPlayWrongFalsely : Prop := slotsPlayRow.holds Try.pinned (OpenSpec.ofChange slotsPlayWrong)

/- THE SECOND FORM. 'bulk': how many values and letters a reading holds, each counted each time it is reached (what is shared counts as often as it is met; a slice's spare places count too). A statement '..UptoSaid' is the law's where the arguments, and the package variables that the reading takes, are together of bulk at most 1048576: NARROWER than '..Said'. Prove '..Said' where nothing that the law and all that it calls make is longer than what came in: it says more and counts as full. Else prove '..UptoSaid'. A law counts once. -/
mutual
def uptoBulk {H : Type} : DataW H → Nat
  | .lit (.string bytes) => bytes.length + 1
  | .lit _ => 1
  | .nil => 1
  | .ptr d => uptoBulk d + 1
  | .slice elems spare => uptoBulkAll elems + uptoBulkAll spare + 1
  | .agg parts => uptoBulkAll parts + 1
  | .iface _ d => uptoBulk d + 1
  | .map entries => uptoBulkEntries entries + 1
  | .held _ => 1
def uptoBulkAll {H : Type} : List (DataW H) → Nat
  | [] => 0
  | d :: r => uptoBulk d + uptoBulkAll r
def uptoBulkEntries {H : Type} : List (Lit × DataW H) → Nat
  | [] => 0
  | x :: r => uptoBulkEntry x + uptoBulkEntries r
def uptoBulkEntry {H : Type} : Lit × DataW H → Nat
  | (.string bytes, d) => bytes.length + uptoBulk d + 1
  | (_, d) => uptoBulk d + 1
 end
def uptoSmall : (H : Type) → List (DataW H) → Bool := fun _ ds => decide (uptoBulkAll ds ≤ 1048576)
def OpenSpec.upto (s : _root_.Go.ChangeSpec) : _root_.Go.OpenSpec := { _root_.Go.OpenSpec.ofChange s with cond := some uptoSmall }

/-- 'catacomblaw15.RollOf', WHERE WHAT IT READS IS OF BULK AT MOST 1048576: true; the input reads as it did. -/
def rollOfUptoRow : OpenClaim := { program := "ytdkmfkdagikpgaa", sum := "1eb48a76c22f0c7da73d4cdf7a1346045ce325b01735d9327a516c5fbe6a63fb", func := "catacomb/catacomblaw15.RollOf", spec := "rollOf", apart := false, narrowed := true }
def RollOfUptoSaid : Prop := rollOfUptoRow.holds Try.pinned (OpenSpec.upto rollOfSpec)

/-- 'catacomblaw15.RollMeans', WHERE WHAT IT READS IS OF BULK AT MOST 1048576: true; the input reads as it did. -/
def rollMeansUptoRow : OpenClaim := { program := "ytdkmfkdagikpgaa", sum := "1eb48a76c22f0c7da73d4cdf7a1346045ce325b01735d9327a516c5fbe6a63fb", func := "catacomb/catacomblaw15.RollMeans", spec := "rollMeans", apart := false, narrowed := true }
def RollMeansUptoSaid : Prop := rollMeansUptoRow.holds Try.pinned (OpenSpec.upto rollMeansSpec)

/-- 'catacomblaw15.RollJoins', WHERE WHAT IT READS IS OF BULK AT MOST 1048576: true; the input reads as it did. -/
def rollJoinsUptoRow : OpenClaim := { program := "ytdkmfkdagikpgaa", sum := "1eb48a76c22f0c7da73d4cdf7a1346045ce325b01735d9327a516c5fbe6a63fb", func := "catacomb/catacomblaw15.RollJoins", spec := "rollJoins", apart := false, narrowed := true }
def RollJoinsUptoSaid : Prop := rollJoinsUptoRow.holds Try.pinned (OpenSpec.upto rollJoinsSpec)

/-- 'catacomblaw15.RollWindows', WHERE WHAT IT READS IS OF BULK AT MOST 1048576: true; the input reads as it did. -/
def rollWindowsUptoRow : OpenClaim := { program := "ytdkmfkdagikpgaa", sum := "1eb48a76c22f0c7da73d4cdf7a1346045ce325b01735d9327a516c5fbe6a63fb", func := "catacomb/catacomblaw15.RollWindows", spec := "rollWindows", unfollowed := true, recurses := true, apart := false, narrowed := true }
def RollWindowsUptoSaid : Prop := rollWindowsUptoRow.holds Try.pinned (OpenSpec.upto rollWindowsSpec)

/-- 'catacomblaw15.RollTiers', WHERE WHAT IT READS IS OF BULK AT MOST 1048576: true; the input reads as it did. -/
def rollTiersUptoRow : OpenClaim := { program := "ytdkmfkdagikpgaa", sum := "1eb48a76c22f0c7da73d4cdf7a1346045ce325b01735d9327a516c5fbe6a63fb", func := "catacomb/catacomblaw15.RollTiers", spec := "rollTiers", unfollowed := true, recurses := true, apart := false, narrowed := true }
def RollTiersUptoSaid : Prop := rollTiersUptoRow.holds Try.pinned (OpenSpec.upto rollTiersSpec)

/-- 'catacomblaw02.BitsParts', WHERE WHAT IT READS IS OF BULK AT MOST 1048576: true; the input reads as it did. -/
def bitsPartsUptoRow : OpenClaim := { program := "ytdkmfkdagikpgaa", sum := "1eb48a76c22f0c7da73d4cdf7a1346045ce325b01735d9327a516c5fbe6a63fb", func := "catacomb/catacomblaw02.BitsParts", spec := "bitsParts", apart := false, narrowed := true }
def BitsPartsUptoSaid : Prop := bitsPartsUptoRow.holds Try.pinned (OpenSpec.upto bitsPartsSpec)

/-- 'catacomblaw02.BitsReads', WHERE WHAT IT READS IS OF BULK AT MOST 1048576: true; the input reads as it did. -/
def bitsReadsUptoRow : OpenClaim := { program := "ytdkmfkdagikpgaa", sum := "1eb48a76c22f0c7da73d4cdf7a1346045ce325b01735d9327a516c5fbe6a63fb", func := "catacomb/catacomblaw02.BitsReads", spec := "bitsReads", apart := false, narrowed := true }
def BitsReadsUptoSaid : Prop := bitsReadsUptoRow.holds Try.pinned (OpenSpec.upto bitsReadsSpec)

/-- 'catacomblaw02.BitsNone', WHERE WHAT IT READS IS OF BULK AT MOST 1048576: true; the input reads as it did. -/
def bitsNoneUptoRow : OpenClaim := { program := "ytdkmfkdagikpgaa", sum := "1eb48a76c22f0c7da73d4cdf7a1346045ce325b01735d9327a516c5fbe6a63fb", func := "catacomb/catacomblaw02.BitsNone", spec := "bitsNone", apart := false, narrowed := true }
def BitsNoneUptoSaid : Prop := bitsNoneUptoRow.holds Try.pinned (OpenSpec.upto bitsNoneSpec)

/-- 'catacomblaw02.BitsWrites', WHERE WHAT IT READS IS OF BULK AT MOST 1048576: true; the input reads as it did. -/
def bitsWritesUptoRow : OpenClaim := { program := "ytdkmfkdagikpgaa", sum := "1eb48a76c22f0c7da73d4cdf7a1346045ce325b01735d9327a516c5fbe6a63fb", func := "catacomb/catacomblaw02.BitsWrites", spec := "bitsWrites", apart := false, narrowed := true }
def BitsWritesUptoSaid : Prop := bitsWritesUptoRow.holds Try.pinned (OpenSpec.upto bitsWritesSpec)

/-- 'catacomblaw24.SlotsBack', WHERE WHAT IT READS IS OF BULK AT MOST 1048576: true; the input reads as it did. -/
def slotsBackUptoRow : OpenClaim := { program := "ytdkmfkdagikpgaa", sum := "1eb48a76c22f0c7da73d4cdf7a1346045ce325b01735d9327a516c5fbe6a63fb", func := "catacomb/catacomblaw24.SlotsBack", spec := "slotsBack", unfollowed := true, recurses := true, apart := false, narrowed := true }
def SlotsBackUptoSaid : Prop := slotsBackUptoRow.holds Try.pinned (OpenSpec.upto slotsBackSpec)

/-- 'catacomblaw24.SlotsTurn', WHERE WHAT IT READS IS OF BULK AT MOST 1048576: true; the input reads as it did. -/
def slotsTurnUptoRow : OpenClaim := { program := "ytdkmfkdagikpgaa", sum := "1eb48a76c22f0c7da73d4cdf7a1346045ce325b01735d9327a516c5fbe6a63fb", func := "catacomb/catacomblaw24.SlotsTurn", spec := "slotsTurn", apart := false, narrowed := true }
def SlotsTurnUptoSaid : Prop := slotsTurnUptoRow.holds Try.pinned (OpenSpec.upto slotsTurnSpec)

/-- 'catacomblaw24.SlotsPlay', WHERE WHAT IT READS IS OF BULK AT MOST 1048576: true; the input reads as it did. -/
def slotsPlayUptoRow : OpenClaim := { program := "ytdkmfkdagikpgaa", sum := "1eb48a76c22f0c7da73d4cdf7a1346045ce325b01735d9327a516c5fbe6a63fb", func := "catacomb/catacomblaw24.SlotsPlay", spec := "slotsPlay", unfollowed := true, recurses := true, apart := false, narrowed := true }
def SlotsPlayUptoSaid : Prop := slotsPlayUptoRow.holds Try.pinned (OpenSpec.upto slotsPlaySpec)

end Rows
end Go.Proofs.Ytdkmfkdagikpgaa
