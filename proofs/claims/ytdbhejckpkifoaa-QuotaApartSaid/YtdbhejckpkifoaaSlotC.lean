/- The law SlotsBack: names, rows of names; plain, and the names' function walked. -/
import Derived.Test.YtdbhejckpkifoaaSlotB
import Derived.Lib.Hide
import Derived.LoopTactic
import Derived.Outline
import Derived.Laws.Rows
import Derived.Laws.CopyOwn
import Derived.WalkKit
set_option linter.unusedVariables false
set_option linter.unusedSimpArgs false
namespace Go.Proofs.Ytdbhejckpkifoaa
open Go.RowKit Go.Proofs.YtdbhejckpkifoaaW.PrintWords Go.Proofs.YtdbhejckpkifoaaW.PrintLast Go.Proofs.YtdbhejckpkifoaaW.PrintMore
open Go.Proofs.Ytdbhejckpkifoaa.PSlotsBack
attribute [local go_sem] max2_int min2_int max_two min_two max_three min_three max_four min_four


theorem conv_one (x : Int) (W : World) : Sem.run Try.prog (convert 22 9 (.slice (some ⟨W.heap.size, 0, none⟩) 1 1)) (W.alloc (.cells #[.int .u8 x] 5)) = .ok (.string (strOfNums [x])) (W.alloc (.cells #[.int .u8 x] 5)) :=
  run_convert_bytes_arg (P := Try.prog) (W.alloc (.cells #[.int .u8 x] 5)) 22 5 Try.underlying22 Try.underlying5 W.heap.size 0 1 1 [x] rfl (fun i hi => by
    have h0 : i = 0 := by omega
    subst h0
    simp) 9 Try.underlying9
/-- The names of the law: a, b, .. -/
def nmS (i : Nat) : ByteArray := strOfNums [97 + (i : Int)]
def zS (i : Nat) : ByteArray := ⟨#[122]⟩ ++ nmS i
set_option maxRecDepth 100000 in
set_option maxHeartbeats 8000000 in
theorem nm_calls (i : Nat) (hi : i < 8) (w : World) : Calls Try.prog 12 #[.int .i64 (i : Int)] w fun e w' => e = .returned (.string (nmS i)) ∧ Below w.heap.size w w' := by
  have kc := conv_one (97 + (i : Int)) w
  have h1 : IntKind.u8.wrap (i : Int) = (i : Int) := by rw [IntKind.wrap_u8]; omega
  have h2 : IntKind.u8.wrap (97 + (i : Int)) = 97 + (i : Int) := by rw [IntKind.wrap_u8]; omega
  have h3 : (i : Int) % 256 = (i : Int) := by omega
  have h4 : (97 + (i : Int)) % 256 = 97 + (i : Int) := by omega
  obtain ⟨s, hs⟩ : ∃ s, s = strOfNums [97 + (i : Int)] := ⟨_, rfl⟩
  rw [← hs] at kc
  have HS := Aside0.mk (show s = nmS i from hs)
  clear hs
  go_enter Try.func12, Try.ntmps12
  go_wp2
  go_ret
  exact ⟨by rw [HS.out]; rfl, (Below.refl _ _).alloc (Nat.le_refl _) _⟩
/-- Eight names: those that G tells are nobody's, or have come anew. -/
def rowOf (f : Nat → ByteArray) : List ByteArray := (List.range 8).map f
theorem nm_right : ∀ i, i < 8 → name_Right.f 40 (nmS i) = some true := by decide +kernel
theorem z_right : ∀ i, i < 8 → name_Right.f 40 (zS i) = some true := by decide +kernel
theorem more_right : name_Right.f 40 ⟨#[109, 111, 114, 101]⟩ = some true := by decide +kernel
def moreS : ByteArray := ⟨#[109, 111, 114, 101]⟩
/-- Behind i names taken. -/
def rowA (i : Nat) : List ByteArray := rowOf fun j => if j < i then nmS j else ⟨#[]⟩
/-- Those of g are given back, and those below i of them are taken anew. -/
def rowC (g i : Nat) : List ByteArray := rowOf fun j => if g.testBit j then (if j < i then zS j else ⟨#[]⟩) else nmS j
theorem rowA_step : ∀ i, i < 8 → ofI (nmS i) (rowA i) < 0 ∧ idxI ⟨#[]⟩ (rowA i) = (i : Int) ∧ (rowA i).set i (nmS i) = rowA (i + 1) := by decide +kernel
theorem rowA_full : ofI moreS (rowA 8) < 0 ∧ idxI ⟨#[]⟩ (rowA 8) < 0 ∧ rowA 8 = rowC 0 0 := by decide +kernel
theorem rowC_give : ∀ g, g < 256 → ∀ i, i < 8 → (g.testBit i = true → ofI (nmS i) (rowC g 0) < 0) ∧ (g.testBit i = false → ofI (nmS i) (rowC g 0) = (i : Int) ∧ (rowC g 0).set i ⟨#[]⟩ = rowC (g ||| 2 ^ i) 0) := by decide +kernel
theorem rowC_take : ∀ g, g < 256 → ∀ i, i < 8 → (g.testBit i = true → ofI (zS i) (rowC g i) < 0 ∧ idxI ⟨#[]⟩ (rowC g i) = (i : Int) ∧ (rowC g i).set i (zS i) = rowC g (i + 1)) ∧ (g.testBit i = false → rowC g i = rowC g (i + 1)) := by decide +kernel
theorem rowC_full : ∀ g, g < 256 → ofI moreS (rowC g 8) < 0 ∧ idxI ⟨#[]⟩ (rowC g 8) < 0 := by decide +kernel
theorem set_bit (g i : Nat) (hg : g < 256) (hi : i < 8) : (g ||| 2 ^ i) < 256 ∧ ∀ j, (g ||| 2 ^ i).testBit j = (g.testBit j || decide (i = j)) := by
  have h2 : 2 ^ i < 2 ^ 8 := Nat.pow_lt_pow_right (by omega) hi
  refine ⟨Nat.or_lt_two_pow (n := 8) hg h2, fun j => ?_⟩
  rw [Nat.testBit_or, Nat.testBit_two_pow]
end Go.Proofs.Ytdbhejckpkifoaa
