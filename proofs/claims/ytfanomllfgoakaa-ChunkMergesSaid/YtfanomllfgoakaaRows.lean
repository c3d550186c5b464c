/-
  No cell of these rows narrows 'for every input' (looked for: loops, veiled, ifaces, maps, wideKeys, modest, calm, conditions, laid).
  DERIVED. THE GIVEN ROWS OF THIS SEAT. 8 by the template 'for every input the law returns true; each argument reads behind the call as it read before'; 0 by the template 'total and deterministic' (their statements: YtfanomllfgoakaaTotals.lean).
  GIVEN WITH THE SEED: the statements are not yours to turn. If you find one false, say at which input.
  Laid BY PROGRAM, IN A SANDBOX (cutbox-rows.mjs): the forced cells as the released guide's own fill.sh prints them over the translation 11bc068727f0ffa0… (all of the seat's roots in one cut). By AI agents, Wed Nov 11 2026. No macro, syntax, notation, axiom, sorry.
-/
import Derived.Test.YtfanomllfgoakaaChecked
import GoSem.Claim
import GoSem.ClaimJoined
import GoSem.ClaimMapViews
import Derived.JoinedTies
import Derived.KernelRfl
namespace Go.Proofs.Ytfanomllfgoakaa
/- THE CELL 'sum', in the pinned program and in every row, IS THE sha256 OF THE DUMP (.gsa) THAT YtfanomllfgoakaaProg.lean LOADS. Nothing in Lean hashes anything: it is a label: what it is worth is what the hold of that sum in a sandbox is worth. -/
noncomputable def Try.pinned : Pinned := { name := "ytfanomllfgoakaa", sum := "11bc068727f0ffa0403614f335fc69d6c9b5715d1edf13d7300fc9126ad8ba5f", checked := Try.checked }
namespace Rows
def none {H : Type} : Left H := { results := [], args := [] }

/-- 'catacomblaw02.BitsParts': WHATEVER THE INPUT: true; the input reads as it did. -/
def bitsPartsSpec : ChangeSpec := { name := "bitsParts", fn := fun _ => fun
  | [d1, d2, d3] => { results := [.lit (.bool true)], args := [d1, d2, d3] }
  | _ => none }
def bitsPartsRow : OpenClaim := { program := "ytfanomllfgoakaa", sum := "11bc068727f0ffa0403614f335fc69d6c9b5715d1edf13d7300fc9126ad8ba5f", func := "catacomb/catacomblaw02.BitsParts", spec := "bitsParts", apart := false }
def BitsPartsSaid : Prop := bitsPartsRow.holds Try.pinned (OpenSpec.ofChange bitsPartsSpec)

/-- ITS FALSE NEIGHBOUR: 'it returns false'. Refute it at one input. -/
def bitsPartsWrong : ChangeSpec := { name := "bitsParts", fn := fun _ => fun
  | [d1, d2, d3] => { results := [.lit (.bool false)], args := [d1, d2, d3] }
  | _ => none }
def BitsPartsWrongFalsely : Prop := bitsPartsRow.holds Try.pinned (OpenSpec.ofChange bitsPartsWrong)

/-- 'catacomblaw02.BitsReads': WHATEVER THE INPUT: true; the input reads as it did. -/
def bitsReadsSpec : ChangeSpec := { name := "bitsReads", fn := fun _ => fun
  | [d1, d2] => { results := [.lit (.bool true)], args := [d1, d2] }
  | _ => none }
def bitsReadsRow : OpenClaim := { program := "ytfanomllfgoakaa", sum := "11bc068727f0ffa0403614f335fc69d6c9b5715d1edf13d7300fc9126ad8ba5f", func := "catacomb/catacomblaw02.BitsReads", spec := "bitsReads", apart := false }
def BitsReadsSaid : Prop := bitsReadsRow.holds Try.pinned (OpenSpec.ofChange bitsReadsSpec)

/-- ITS FALSE NEIGHBOUR: 'it returns false'. Refute it at one input. -/
def bitsReadsWrong : ChangeSpec := { name := "bitsReads", fn := fun _ => fun
  | [d1, d2] => { results := [.lit (.bool false)], args := [d1, d2] }
  | _ => none }
def BitsReadsWrongFalsely : Prop := bitsReadsRow.holds Try.pinned (OpenSpec.ofChange bitsReadsWrong)

/-- 'catacomblaw02.BitsNone': WHATEVER THE INPUT: true; the input reads as it did. -/
def bitsNoneSpec : ChangeSpec := { name := "bitsNone", fn := fun _ => fun
  | [d1, d2] => { results := [.lit (.bool true)], args := [d1, d2] }
  | _ => none }
def bitsNoneRow : OpenClaim := { program := "ytfanomllfgoakaa", sum := "11bc068727f0ffa0403614f335fc69d6c9b5715d1edf13d7300fc9126ad8ba5f", func := "catacomb/catacomblaw02.BitsNone", spec := "bitsNone", apart := false }
def BitsNoneSaid : Prop := bitsNoneRow.holds Try.pinned (OpenSpec.ofChange bitsNoneSpec)

/-- ITS FALSE NEIGHBOUR: 'it returns false'. Refute it at one input. -/
def bitsNoneWrong : ChangeSpec := { name := "bitsNone", fn := fun _ => fun
  | [d1, d2] => { results := [.lit (.bool false)], args := [d1, d2] }
  | _ => none }
def BitsNoneWrongFalsely : Prop := bitsNoneRow.holds Try.pinned (OpenSpec.ofChange bitsNoneWrong)

/-- 'catacomblaw02.BitsWrites': WHATEVER THE INPUT: true; the input reads as it did. -/
def bitsWritesSpec : ChangeSpec := { name := "bitsWrites", fn := fun _ => fun
  | [d] => { results := [.lit (.bool true)], args := [d] }
  | _ => none }
def bitsWritesRow : OpenClaim := { program := "ytfanomllfgoakaa", sum := "11bc068727f0ffa0403614f335fc69d6c9b5715d1edf13d7300fc9126ad8ba5f", func := "catacomb/catacomblaw02.BitsWrites", spec := "bitsWrites", apart := false }
def BitsWritesSaid : Prop := bitsWritesRow.holds Try.pinned (OpenSpec.ofChange bitsWritesSpec)

/-- ITS FALSE NEIGHBOUR: 'it returns false'. Refute it at one input. -/
def bitsWritesWrong : ChangeSpec := { name := "bitsWrites", fn := fun _ => fun
  | [d] => { results := [.lit (.bool false)], args := [d] }
  | _ => none }
def BitsWritesWrongFalsely : Prop := bitsWritesRow.holds Try.pinned (OpenSpec.ofChange bitsWritesWrong)

/-- 'catacomblaw04.ChunkUnpacks': WHATEVER THE INPUT: true; the input reads as it did. -/
def chunkUnpacksSpec : ChangeSpec := { name := "chunkUnpacks", fn := fun _ => fun
  | [d] => { results := [.lit (.bool true)], args := [d] }
  | _ => none }
def chunkUnpacksRow : OpenClaim := { program := "ytfanomllfgoakaa", sum := "11bc068727f0ffa0403614f335fc69d6c9b5715d1edf13d7300fc9126ad8ba5f", func := "catacomb/catacomblaw04.ChunkUnpacks", spec := "chunkUnpacks", apart := false }
def ChunkUnpacksSaid : Prop := chunkUnpacksRow.holds Try.pinned (OpenSpec.ofChange chunkUnpacksSpec)

/-- ITS FALSE NEIGHBOUR: 'it returns false'. Refute it at one input. -/
def chunkUnpacksWrong : ChangeSpec := { name := "chunkUnpacks", fn := fun _ => fun
  | [d] => { results := [.lit (.bool false)], args := [d] }
  | _ => none }
def ChunkUnpacksWrongFalsely : Prop := chunkUnpacksRow.holds Try.pinned (OpenSpec.ofChange chunkUnpacksWrong)

/-- 'catacomblaw04.ChunkCuts': WHATEVER THE INPUT: true; the input reads as it did. -/
def chunkCutsSpec : ChangeSpec := { name := "chunkCuts", fn := fun _ => fun
  | [d1, d2] => { results := [.lit (.bool true)], args := [d1, d2] }
  | _ => none }
def chunkCutsRow : OpenClaim := { program := "ytfanomllfgoakaa", sum := "11bc068727f0ffa0403614f335fc69d6c9b5715d1edf13d7300fc9126ad8ba5f", func := "catacomb/catacomblaw04.ChunkCuts", spec := "chunkCuts", apart := false }
def ChunkCutsSaid : Prop := chunkCutsRow.holds Try.pinned (OpenSpec.ofChange chunkCutsSpec)

/-- ITS FALSE NEIGHBOUR: 'it returns false'. Refute it at one input. -/
def chunkCutsWrong : ChangeSpec := { name := "chunkCuts", fn := fun _ => fun
  | [d1, d2] => { results := [.lit (.bool false)], args := [d1, d2] }
  | _ => none }
def ChunkCutsWrongFalsely : Prop := chunkCutsRow.holds Try.pinned (OpenSpec.ofChange chunkCutsWrong)

/-- 'catacomblaw04.ChunkPacks': WHATEVER THE INPUT: true; the input reads as it did. -/
def chunkPacksSpec : ChangeSpec := { name := "chunkPacks", fn := fun _ => fun
  | [d] => { results := [.lit (.bool true)], args := [d] }
  | _ => none }
def chunkPacksRow : OpenClaim := { program := "ytfanomllfgoakaa", sum := "11bc068727f0ffa0403614f335fc69d6c9b5715d1edf13d7300fc9126ad8ba5f", func := "catacomb/catacomblaw04.ChunkPacks", spec := "chunkPacks", apart := false }
def ChunkPacksSaid : Prop := chunkPacksRow.holds Try.pinned (OpenSpec.ofChange chunkPacksSpec)

/-- ITS FALSE NEIGHBOUR: 'it returns false'. Refute it at one input. -/
def chunkPacksWrong : ChangeSpec := { name := "chunkPacks", fn := fun _ => fun
  | [d] => { results := [.lit (.bool false)], args := [d] }
  | _ => none }
def ChunkPacksWrongFalsely : Prop := chunkPacksRow.holds Try.pinned (OpenSpec.ofChange chunkPacksWrong)

/-- 'catacomblaw04.ChunkMerges': WHATEVER THE INPUT: true; the input reads as it did. -/
def chunkMergesSpec : ChangeSpec := { name := "chunkMerges", fn := fun _ => fun
  | [d1, d2] => { results := [.lit (.bool true)], args := [d1, d2] }
  | _ => none }
def chunkMergesRow : OpenClaim := { program := "ytfanomllfgoakaa", sum := "11bc068727f0ffa0403614f335fc69d6c9b5715d1edf13d7300fc9126ad8ba5f", func := "catacomb/catacomblaw04.ChunkMerges", spec := "chunkMerges", apart := false }
def ChunkMergesSaid : Prop := chunkMergesRow.holds Try.pinned (OpenSpec.ofChange chunkMergesSpec)

/-- ITS FALSE NEIGHBOUR: 'it returns false'. Refute it at one input. -/
def chunkMergesWrong : ChangeSpec := { name := "chunkMerges", fn := fun _ => fun
  | [d1, d2] => { results := [.lit (.bool false)], args := [d1, d2] }
  | _ => none }
def ChunkMergesWrongFalsely : Prop := chunkMergesRow.holds Try.pinned (OpenSpec.ofChange chunkMergesWrong)

/- THE SECOND FORM. 'bulk': how many values and letters a reading holds, each counted each time it is reached (what is shared counts as often as it is met; a slice's spare places count too). A statement '..UptoSaid' is the law's where the arguments, and the package variables that the reading takes, are together of bulk at most 1048576: NARROWER than '..Said'. Prove '..Said' where nothing that the law and all that it calls make is longer than what came in: it says more and counts as full. Else prove '..UptoSaid'. A law counts once. -/
mutual
def uptoBulk {H : Type} : DataW H → Nat
  | .lit (.string bytes) => bytes.length + 1
  | .lit _ => 1
  | .nil => 1
  | .ptr d => uptoBulk d + 1
  | .slice elems spare => uptoBulkAll elems + uptoBulkAll spare + 1
  | .agg parts => uptoBulkAll parts + 1
  | .iface _ d => uptoBulk d + 1
  | .map entries => uptoBulkEntries entries + 1
  | .held _ => 1
def uptoBulkAll {H : Type} : List (DataW H) → Nat
  | [] => 0
  | d :: r => uptoBulk d + uptoBulkAll r
def uptoBulkEntries {H : Type} : List (Lit × DataW H) → Nat
  | [] => 0
  | x :: r => uptoBulkEntry x + uptoBulkEntries r
def uptoBulkEntry {H : Type} : Lit × DataW H → Nat
  | (.string bytes, d) => bytes.length + uptoBulk d + 1
  | (_, d) => uptoBulk d + 1
 end
def uptoSmall : (H : Type) → List (DataW H) → Bool := fun _ ds => decide (uptoBulkAll ds ≤ 1048576)
def OpenSpec.upto (s : _root_.Go.ChangeSpec) : _root_.Go.OpenSpec := { _root_.Go.OpenSpec.ofChange s with cond := some uptoSmall }

/-- 'catacomblaw02.BitsParts', WHERE WHAT IT READS IS OF BULK AT MOST 1048576: true; the input reads as it did. -/
def bitsPartsUptoRow : OpenClaim := { program := "ytfanomllfgoakaa", sum := "11bc068727f0ffa0403614f335fc69d6c9b5715d1edf13d7300fc9126ad8ba5f", func := "catacomb/catacomblaw02.BitsParts", spec := "bitsParts", apart := false, narrowed := true }
def BitsPartsUptoSaid : Prop := bitsPartsUptoRow.holds Try.pinned (OpenSpec.upto bitsPartsSpec)

/-- 'catacomblaw02.BitsReads', WHERE WHAT IT READS IS OF BULK AT MOST 1048576: true; the input reads as it did. -/
def bitsReadsUptoRow : OpenClaim := { program := "ytfanomllfgoakaa", sum := "11bc068727f0ffa0403614f335fc69d6c9b5715d1edf13d7300fc9126ad8ba5f", func := "catacomb/catacomblaw02.BitsReads", spec := "bitsReads", apart := false, narrowed := true }
def BitsReadsUptoSaid : Prop := bitsReadsUptoRow.holds Try.pinned (OpenSpec.upto bitsReadsSpec)

/-- 'catacomblaw02.BitsNone', WHERE WHAT IT READS IS OF BULK AT MOST 1048576: true; the input reads as it did. -/
def bitsNoneUptoRow : OpenClaim := { program := "ytfanomllfgoakaa", sum := "11bc068727f0ffa0403614f335fc69d6c9b5715d1edf13d7300fc9126ad8ba5f", func := "catacomb/catacomblaw02.BitsNone", spec := "bitsNone", apart := false, narrowed := true }
def BitsNoneUptoSaid : Prop := bitsNoneUptoRow.holds Try.pinned (OpenSpec.upto bitsNoneSpec)

/-- 'catacomblaw02.BitsWrites', WHERE WHAT IT READS IS OF BULK AT MOST 1048576: true; the input reads as it did. -/
def bitsWritesUptoRow : OpenClaim := { program := "ytfanomllfgoakaa", sum := "11bc068727f0ffa0403614f335fc69d6c9b5715d1edf13d7300fc9126ad8ba5f", func := "catacomb/catacomblaw02.BitsWrites", spec := "bitsWrites", apart := false, narrowed := true }
def BitsWritesUptoSaid : Prop := bitsWritesUptoRow.holds Try.pinned (OpenSpec.upto bitsWritesSpec)

/-- 'catacomblaw04.ChunkUnpacks', WHERE WHAT IT READS IS OF BULK AT MOST 1048576: true; the input reads as it did. -/
def chunkUnpacksUptoRow : OpenClaim := { program := "ytfanomllfgoakaa", sum := "11bc068727f0ffa0403614f335fc69d6c9b5715d1edf13d7300fc9126ad8ba5f", func := "catacomb/catacomblaw04.ChunkUnpacks", spec := "chunkUnpacks", apart := false, narrowed := true }
def ChunkUnpacksUptoSaid : Prop := chunkUnpacksUptoRow.holds Try.pinned (OpenSpec.upto chunkUnpacksSpec)

/-- 'catacomblaw04.ChunkCuts', WHERE WHAT IT READS IS OF BULK AT MOST 1048576: true; the input reads as it did. -/
def chunkCutsUptoRow : OpenClaim := { program := "ytfanomllfgoakaa", sum := "11bc068727f0ffa0403614f335fc69d6c9b5715d1edf13d7300fc9126ad8ba5f", func := "catacomb/catacomblaw04.ChunkCuts", spec := "chunkCuts", apart := false, narrowed := true }
def ChunkCutsUptoSaid : Prop := chunkCutsUptoRow.holds Try.pinned (OpenSpec.upto chunkCutsSpec)

/-- 'catacomblaw04.ChunkPacks', WHERE WHAT IT READS IS OF BULK AT MOST 1048576: true; the input reads as it did. -/
def chunkPacksUptoRow : OpenClaim := { program := "ytfanomllfgoakaa", sum := "11bc068727f0ffa0403614f335fc69d6c9b5715d1edf13d7300fc9126ad8ba5f", func := "catacomb/catacomblaw04.ChunkPacks", spec := "chunkPacks", apart := false, narrowed := true }
def ChunkPacksUptoSaid : Prop := chunkPacksUptoRow.holds Try.pinned (OpenSpec.upto chunkPacksSpec)

/-- 'catacomblaw04.ChunkMerges', WHERE WHAT IT READS IS OF BULK AT MOST 1048576: true; the input reads as it did. -/
def chunkMergesUptoRow : OpenClaim := { program := "ytfanomllfgoakaa", sum := "11bc068727f0ffa0403614f335fc69d6c9b5715d1edf13d7300fc9126ad8ba5f", func := "catacomb/catacomblaw04.ChunkMerges", spec := "chunkMerges", apart := false, narrowed := true }
def ChunkMergesUptoSaid : Prop := chunkMergesUptoRow.holds Try.pinned (OpenSpec.upto chunkMergesSpec)

end Rows
end Go.Proofs.Ytfanomllfgoakaa
