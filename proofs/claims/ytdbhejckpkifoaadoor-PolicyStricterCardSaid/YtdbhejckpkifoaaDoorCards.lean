/-
  DERIVED. GIVEN WITH THE SEED: THE CARDS: each row of YtdbhejckpkifoaaDoorRows.lean that lists a variable, with what it lists TIED to the program's text (the seventh form; the later family's looks); each row that meets fmt, with fmt's text TOLD by the authors' own Lean function (tested against real Go, not proved from fmt's source: count such statements apart). THE CARD IS WHAT COUNTS. Prove the row's statement (the work); the ties are given (YtdbhejckpkifoaaDoorTie.lean); close each card by the builder's one call (the guide's Derived/Test/ToyasCard.lean, 'card_holds'). Laid BY PROGRAM, IN A SANDBOX (cutbox-door.mjs). By AI agents, Wed Nov 11 2026. No macro, syntax, notation, axiom, sorry.
-/
import Derived.Test.YtdbhejckpkifoaaDoorRows
import GoSem.ClaimSeven
namespace Go.Proofs.YtdbhejckpkifoaaDoor
namespace Rows

/-- THE TIED CARD OF 'catacomblaw18.PolicyTexts'. -/
def policyTextsCard : Claim7 := { stood := { row := policyTextsRow, standIns := [], harness := (true, "f203494cffa91da4033d8f0bdd5c9faf6cfe9b84bbd149656ec3d750c4f485d2"), looks := false }, kinds := [], alts := [], laidByText := true, laidKinds := [.data, .data, .data], laidTests := true, laidLooks := .later }
def PolicyTextsCardSaid : Prop := Claim7.holds Tryd.pinned (.plain (OpenSpec.ofChange policyTextsSpec)) policyTextsCard

/-- THE TIED CARD OF 'catacomblaw18.PolicyWider'. -/
def policyWiderCard : Claim7 := { stood := { row := policyWiderRow, standIns := [], harness := (true, "f203494cffa91da4033d8f0bdd5c9faf6cfe9b84bbd149656ec3d750c4f485d2"), looks := false }, kinds := [], alts := [], laidByText := true, laidKinds := [.data, .data, .data], laidTests := true, laidLooks := .later }
def PolicyWiderCardSaid : Prop := Claim7.holds Tryd.pinned (.plain (OpenSpec.ofChange policyWiderSpec)) policyWiderCard

/-- THE TIED CARD OF 'catacomblaw18.PolicyStricter'. -/
def policyStricterCard : Claim7 := { stood := { row := policyStricterRow, standIns := [], harness := (true, "f203494cffa91da4033d8f0bdd5c9faf6cfe9b84bbd149656ec3d750c4f485d2"), looks := false }, kinds := [], alts := [], laidByText := true, laidKinds := [.data, .data, .data], laidTests := true, laidLooks := .later }
def PolicyStricterCardSaid : Prop := Claim7.holds Tryd.pinned (.plain (OpenSpec.ofChange policyStricterSpec)) policyStricterCard

/-- THE SECOND FORM's CARD OF 'catacomblaw18.PolicyTexts'. -/
def policyTextsUptoCard : Claim7 := { stood := { row := policyTextsUptoRow, standIns := [], harness := (true, "f203494cffa91da4033d8f0bdd5c9faf6cfe9b84bbd149656ec3d750c4f485d2"), looks := false }, kinds := [], alts := [], laidByText := true, laidKinds := [.data, .data, .data], laidTests := true, laidLooks := .later }
def PolicyTextsUptoCardSaid : Prop := Claim7.holds Tryd.pinned (.plain (OpenSpec.upto policyTextsSpec)) policyTextsUptoCard

/-- THE SECOND FORM's CARD OF 'catacomblaw18.PolicyWider'. -/
def policyWiderUptoCard : Claim7 := { stood := { row := policyWiderUptoRow, standIns := [], harness := (true, "f203494cffa91da4033d8f0bdd5c9faf6cfe9b84bbd149656ec3d750c4f485d2"), looks := false }, kinds := [], alts := [], laidByText := true, laidKinds := [.data, .data, .data], laidTests := true, laidLooks := .later }
def PolicyWiderUptoCardSaid : Prop := Claim7.holds Tryd.pinned (.plain (OpenSpec.upto policyWiderSpec)) policyWiderUptoCard

/-- THE SECOND FORM's CARD OF 'catacomblaw18.PolicyStricter'. -/
def policyStricterUptoCard : Claim7 := { stood := { row := policyStricterUptoRow, standIns := [], harness := (true, "f203494cffa91da4033d8f0bdd5c9faf6cfe9b84bbd149656ec3d750c4f485d2"), looks := false }, kinds := [], alts := [], laidByText := true, laidKinds := [.data, .data, .data], laidTests := true, laidLooks := .later }
def PolicyStricterUptoCardSaid : Prop := Claim7.holds Tryd.pinned (.plain (OpenSpec.upto policyStricterSpec)) policyStricterUptoCard
end Rows
end Go.Proofs.YtdbhejckpkifoaaDoor
