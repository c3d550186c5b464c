/-
  No cell of these rows narrows 'for every input' (looked for: loops, veiled, ifaces, maps, wideKeys, modest, calm, conditions, laid).
  DERIVED. THE GIVEN ROWS OF THIS SEAT. 7 by the template 'for every input the law returns true; each argument reads behind the call as it read before'; 0 by the template 'total and deterministic' (their statements: YtjlnbklendkflaaTotals.lean).
  GIVEN WITH THE SEED: the statements are not yours to turn. If you find one false, say at which input.
  Laid BY PROGRAM, IN A SANDBOX (cutbox-rows.mjs): the forced cells as the released guide's own fill.sh prints them over the translation f73ad33b5f1f7440… (all of the seat's roots in one cut). By AI agents, Wed Nov 11 2026. No macro, syntax, notation, axiom, sorry.
-/
import Derived.Test.YtjlnbklendkflaaChecked
import GoSem.Claim
import GoSem.ClaimJoined
import GoSem.ClaimMapViews
import Derived.JoinedTies
import Derived.KernelRfl
namespace Go.Proofs.Ytjlnbklendkflaa
/- THE CELL 'sum', in the pinned program and in every row, IS THE sha256 OF THE DUMP (.gsa) THAT YtjlnbklendkflaaProg.lean LOADS. Nothing in Lean hashes anything: it is a label: what it is worth is what the hold of that sum in a sandbox is worth. -/
noncomputable def Try.pinned : Pinned := { name := "ytjlnbklendkflaa", sum := "f73ad33b5f1f7440906ce5b45aa9c2d49c57fb112106dc166add8bb187d0d042", checked := Try.checked }
namespace Rows
def none {H : Type} : Left H := { results := [], args := [] }

/-- 'catacomblaw05.HashSums': WHATEVER THE INPUT: true; the input reads as it did. -/
def hashSumsSpec : ChangeSpec := { name := "hashSums", fn := fun _ => fun
  | [d] => { results := [.lit (.bool true)], args := [d] }
  | _ => none }
def hashSumsRow : OpenClaim := { program := "ytjlnbklendkflaa", sum := "f73ad33b5f1f7440906ce5b45aa9c2d49c57fb112106dc166add8bb187d0d042", func := "catacomb/catacomblaw05.HashSums", spec := "hashSums", apart := false }
def HashSumsSaid : Prop := hashSumsRow.holds Try.pinned (OpenSpec.ofChange hashSumsSpec)

/-- ITS FALSE NEIGHBOUR: 'it returns false'. Refute it at one input. -/
def hashSumsWrong : ChangeSpec := { name := "hashSums", fn := fun _ => fun
  | [d] => { results := [.lit (.bool false)], args := [d] }
  | _ => none }
def HashSumsWrongFalsely : Prop := hashSumsRow.holds Try.pinned (OpenSpec.ofChange hashSumsWrong)

/-- 'catacomblaw05.HashParts': WHATEVER THE INPUT: true; the input reads as it did. -/
def hashPartsSpec : ChangeSpec := { name := "hashParts", fn := fun _ => fun
  | [d1, d2] => { results := [.lit (.bool true)], args := [d1, d2] }
  | _ => none }
def hashPartsRow : OpenClaim := { program := "ytjlnbklendkflaa", sum := "f73ad33b5f1f7440906ce5b45aa9c2d49c57fb112106dc166add8bb187d0d042", func := "catacomb/catacomblaw05.HashParts", spec := "hashParts", apart := false }
def HashPartsSaid : Prop := hashPartsRow.holds Try.pinned (OpenSpec.ofChange hashPartsSpec)

/-- ITS FALSE NEIGHBOUR: 'it returns false'. Refute it at one input. -/
def hashPartsWrong : ChangeSpec := { name := "hashParts", fn := fun _ => fun
  | [d1, d2] => { results := [.lit (.bool false)], args := [d1, d2] }
  | _ => none }
def HashPartsWrongFalsely : Prop := hashPartsRow.holds Try.pinned (OpenSpec.ofChange hashPartsWrong)

/-- 'catacomblaw05.HashLengths': WHATEVER THE INPUT: true; the input reads as it did. -/
def hashLengthsSpec : ChangeSpec := { name := "hashLengths", fn := fun _ => fun
  | [d1, d2] => { results := [.lit (.bool true)], args := [d1, d2] }
  | _ => none }
def hashLengthsRow : OpenClaim := { program := "ytjlnbklendkflaa", sum := "f73ad33b5f1f7440906ce5b45aa9c2d49c57fb112106dc166add8bb187d0d042", func := "catacomb/catacomblaw05.HashLengths", spec := "hashLengths", apart := false }
def HashLengthsSaid : Prop := hashLengthsRow.holds Try.pinned (OpenSpec.ofChange hashLengthsSpec)

/-- ITS FALSE NEIGHBOUR: 'it returns false'. Refute it at one input. -/
def hashLengthsWrong : ChangeSpec := { name := "hashLengths", fn := fun _ => fun
  | [d1, d2] => { results := [.lit (.bool false)], args := [d1, d2] }
  | _ => none }
def HashLengthsWrongFalsely : Prop := hashLengthsRow.holds Try.pinned (OpenSpec.ofChange hashLengthsWrong)

/-- 'catacomblaw06.MacCodes': WHATEVER THE INPUT: true; the input reads as it did. -/
def macCodesSpec : ChangeSpec := { name := "macCodes", fn := fun _ => fun
  | [d1, d2] => { results := [.lit (.bool true)], args := [d1, d2] }
  | _ => none }
def macCodesRow : OpenClaim := { program := "ytjlnbklendkflaa", sum := "f73ad33b5f1f7440906ce5b45aa9c2d49c57fb112106dc166add8bb187d0d042", func := "catacomb/catacomblaw06.MacCodes", spec := "macCodes", inPlace := ["internal/abi.NoEscape"], apart := false }
def MacCodesSaid : Prop := macCodesRow.holds Try.pinned (OpenSpec.ofChange macCodesSpec)

/-- ITS FALSE NEIGHBOUR: 'it returns false'. Refute it at one input. -/
def macCodesWrong : ChangeSpec := { name := "macCodes", fn := fun _ => fun
  | [d1, d2] => { results := [.lit (.bool false)], args := [d1, d2] }
  | _ => none }
def MacCodesWrongFalsely : Prop := macCodesRow.holds Try.pinned (OpenSpec.ofChange macCodesWrong)

/-- 'catacomblaw06.MacTokens': WHATEVER THE INPUT: true; the input reads as it did. -/
def macTokensSpec : ChangeSpec := { name := "macTokens", fn := fun _ => fun
  | [d1, d2, d3] => { results := [.lit (.bool true)], args := [d1, d2, d3] }
  | _ => none }
def macTokensRow : OpenClaim := { program := "ytjlnbklendkflaa", sum := "f73ad33b5f1f7440906ce5b45aa9c2d49c57fb112106dc166add8bb187d0d042", func := "catacomb/catacomblaw06.MacTokens", spec := "macTokens", inPlace := ["internal/abi.NoEscape"], apart := false }
def MacTokensSaid : Prop := macTokensRow.holds Try.pinned (OpenSpec.ofChange macTokensSpec)

/-- ITS FALSE NEIGHBOUR: 'it returns false'. Refute it at one input. -/
def macTokensWrong : ChangeSpec := { name := "macTokens", fn := fun _ => fun
  | [d1, d2, d3] => { results := [.lit (.bool false)], args := [d1, d2, d3] }
  | _ => none }
def MacTokensWrongFalsely : Prop := macTokensRow.holds Try.pinned (OpenSpec.ofChange macTokensWrong)

/-- 'catacomblaw06.MacTurned': WHATEVER THE INPUT: true; the input reads as it did. -/
def macTurnedSpec : ChangeSpec := { name := "macTurned", fn := fun _ => fun
  | [d1, d2, d3, d4] => { results := [.lit (.bool true)], args := [d1, d2, d3, d4] }
  | _ => none }
def macTurnedRow : OpenClaim := { program := "ytjlnbklendkflaa", sum := "f73ad33b5f1f7440906ce5b45aa9c2d49c57fb112106dc166add8bb187d0d042", func := "catacomb/catacomblaw06.MacTurned", spec := "macTurned", inPlace := ["internal/abi.NoEscape"], apart := false }
def MacTurnedSaid : Prop := macTurnedRow.holds Try.pinned (OpenSpec.ofChange macTurnedSpec)

/-- ITS FALSE NEIGHBOUR: 'it returns false'. Refute it at one input. -/
def macTurnedWrong : ChangeSpec := { name := "macTurned", fn := fun _ => fun
  | [d1, d2, d3, d4] => { results := [.lit (.bool false)], args := [d1, d2, d3, d4] }
  | _ => none }
def MacTurnedWrongFalsely : Prop := macTurnedRow.holds Try.pinned (OpenSpec.ofChange macTurnedWrong)

/-- 'catacomblaw06.MacSame': WHATEVER THE INPUT: true; the input reads as it did. -/
def macSameSpec : ChangeSpec := { name := "macSame", fn := fun _ => fun
  | [d1, d2] => { results := [.lit (.bool true)], args := [d1, d2] }
  | _ => none }
def macSameRow : OpenClaim := { program := "ytjlnbklendkflaa", sum := "f73ad33b5f1f7440906ce5b45aa9c2d49c57fb112106dc166add8bb187d0d042", func := "catacomb/catacomblaw06.MacSame", spec := "macSame", inPlace := ["internal/abi.NoEscape"], apart := false }
def MacSameSaid : Prop := macSameRow.holds Try.pinned (OpenSpec.ofChange macSameSpec)

/-- ITS FALSE NEIGHBOUR: 'it returns false'. Refute it at one input. -/
def macSameWrong : ChangeSpec := { name := "macSame", fn := fun _ => fun
  | [d1, d2] => { results := [.lit (.bool false)], args := [d1, d2] }
  | _ => none }
def MacSameWrongFalsely : Prop := macSameRow.holds Try.pinned (OpenSpec.ofChange macSameWrong)

/- THE SECOND FORM. 'bulk': how many values and letters a reading holds, each counted each time it is reached (what is shared counts as often as it is met; a slice's spare places count too). A statement '..UptoSaid' is the law's where the arguments, and the package variables that the reading takes, are together of bulk at most 1048576: NARROWER than '..Said'. Prove '..Said' where nothing that the law and all that it calls make is longer than what came in: it says more and counts as full. Else prove '..UptoSaid'. A law counts once. -/
mutual
def uptoBulk {H : Type} : DataW H → Nat
  | .lit (.string bytes) => bytes.length + 1
  | .lit _ => 1
  | .nil => 1
  | .ptr d => uptoBulk d + 1
  | .slice elems spare => uptoBulkAll elems + uptoBulkAll spare + 1
  | .agg parts => uptoBulkAll parts + 1
  | .iface _ d => uptoBulk d + 1
  | .map entries => uptoBulkEntries entries + 1
  | .held _ => 1
def uptoBulkAll {H : Type} : List (DataW H) → Nat
  | [] => 0
  | d :: r => uptoBulk d + uptoBulkAll r
def uptoBulkEntries {H : Type} : List (Lit × DataW H) → Nat
  | [] => 0
  | x :: r => uptoBulkEntry x + uptoBulkEntries r
def uptoBulkEntry {H : Type} : Lit × DataW H → Nat
  | (.string bytes, d) => bytes.length + uptoBulk d + 1
  | (_, d) => uptoBulk d + 1
 end
def uptoSmall : (H : Type) → List (DataW H) → Bool := fun _ ds => decide (uptoBulkAll ds ≤ 1048576)
def OpenSpec.upto (s : _root_.Go.ChangeSpec) : _root_.Go.OpenSpec := { _root_.Go.OpenSpec.ofChange s with cond := some uptoSmall }

/-- 'catacomblaw05.HashSums', WHERE WHAT IT READS IS OF BULK AT MOST 1048576: true; the input reads as it did. -/
def hashSumsUptoRow : OpenClaim := { program := "ytjlnbklendkflaa", sum := "f73ad33b5f1f7440906ce5b45aa9c2d49c57fb112106dc166add8bb187d0d042", func := "catacomb/catacomblaw05.HashSums", spec := "hashSums", apart := false, narrowed := true }
def HashSumsUptoSaid : Prop := hashSumsUptoRow.holds Try.pinned (OpenSpec.upto hashSumsSpec)

/-- 'catacomblaw05.HashParts', WHERE WHAT IT READS IS OF BULK AT MOST 1048576: true; the input reads as it did. -/
def hashPartsUptoRow : OpenClaim := { program := "ytjlnbklendkflaa", sum := "f73ad33b5f1f7440906ce5b45aa9c2d49c57fb112106dc166add8bb187d0d042", func := "catacomb/catacomblaw05.HashParts", spec := "hashParts", apart := false, narrowed := true }
def HashPartsUptoSaid : Prop := hashPartsUptoRow.holds Try.pinned (OpenSpec.upto hashPartsSpec)

/-- 'catacomblaw05.HashLengths', WHERE WHAT IT READS IS OF BULK AT MOST 1048576: true; the input reads as it did. -/
def hashLengthsUptoRow : OpenClaim := { program := "ytjlnbklendkflaa", sum := "f73ad33b5f1f7440906ce5b45aa9c2d49c57fb112106dc166add8bb187d0d042", func := "catacomb/catacomblaw05.HashLengths", spec := "hashLengths", apart := false, narrowed := true }
def HashLengthsUptoSaid : Prop := hashLengthsUptoRow.holds Try.pinned (OpenSpec.upto hashLengthsSpec)

/-- 'catacomblaw06.MacCodes', WHERE WHAT IT READS IS OF BULK AT MOST 1048576: true; the input reads as it did. -/
def macCodesUptoRow : OpenClaim := { program := "ytjlnbklendkflaa", sum := "f73ad33b5f1f7440906ce5b45aa9c2d49c57fb112106dc166add8bb187d0d042", func := "catacomb/catacomblaw06.MacCodes", spec := "macCodes", inPlace := ["internal/abi.NoEscape"], apart := false, narrowed := true }
def MacCodesUptoSaid : Prop := macCodesUptoRow.holds Try.pinned (OpenSpec.upto macCodesSpec)

/-- 'catacomblaw06.MacTokens', WHERE WHAT IT READS IS OF BULK AT MOST 1048576: true; the input reads as it did. -/
def macTokensUptoRow : OpenClaim := { program := "ytjlnbklendkflaa", sum := "f73ad33b5f1f7440906ce5b45aa9c2d49c57fb112106dc166add8bb187d0d042", func := "catacomb/catacomblaw06.MacTokens", spec := "macTokens", inPlace := ["internal/abi.NoEscape"], apart := false, narrowed := true }
def MacTokensUptoSaid : Prop := macTokensUptoRow.holds Try.pinned (OpenSpec.upto macTokensSpec)

/-- 'catacomblaw06.MacTurned', WHERE WHAT IT READS IS OF BULK AT MOST 1048576: true; the input reads as it did. -/
def macTurnedUptoRow : OpenClaim := { program := "ytjlnbklendkflaa", sum := "f73ad33b5f1f7440906ce5b45aa9c2d49c57fb112106dc166add8bb187d0d042", func := "catacomb/catacomblaw06.MacTurned", spec := "macTurned", inPlace := ["internal/abi.NoEscape"], apart := false, narrowed := true }
def MacTurnedUptoSaid : Prop := macTurnedUptoRow.holds Try.pinned (OpenSpec.upto macTurnedSpec)

/-- 'catacomblaw06.MacSame', WHERE WHAT IT READS IS OF BULK AT MOST 1048576: true; the input reads as it did. -/
def macSameUptoRow : OpenClaim := { program := "ytjlnbklendkflaa", sum := "f73ad33b5f1f7440906ce5b45aa9c2d49c57fb112106dc166add8bb187d0d042", func := "catacomb/catacomblaw06.MacSame", spec := "macSame", inPlace := ["internal/abi.NoEscape"], apart := false, narrowed := true }
def MacSameUptoSaid : Prop := macSameUptoRow.holds Try.pinned (OpenSpec.upto macSameSpec)

end Rows
end Go.Proofs.Ytjlnbklendkflaa
