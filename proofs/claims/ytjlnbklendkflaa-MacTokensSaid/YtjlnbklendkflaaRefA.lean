/- The document's answer for layer 5: its keys, turns, words; plain. -/
import Derived.Test.YtjlnbklendkflaaHashI
import Derived.Test.YtjlnbklendkflaaMacB
import Derived.Laws.BitsAllLaws
import Derived.Lib.Hide
import Derived.LoopTactic
import Derived.Outline
import Derived.Laws.Rows
import Derived.Laws.CopyOwn
import Derived.WalkKit
set_option linter.unusedVariables false
set_option linter.unusedSimpArgs false
namespace Go.Proofs.Ytjlnbklendkflaa
open Go.RowKit Go.Proofs.YtjlnbklendkflaaW.PrintWords Go.Proofs.YtjlnbklendkflaaW.PrintLast Go.Proofs.YtjlnbklendkflaaW.PrintMore
open Go.Proofs.Ytjlnbklendkflaa.PHashSums


theorem bits_or_comm (a b : Int) : Go.bits .or .u32 a b = Go.bits .or .u32 b a := by
  unfold Go.bits
  simp only [BitVec.or_comm]
theorem turn_is7 (x : Int) : catacombref05_turn.f x 7 = some (rotR x 7) := by
  unfold catacombref05_turn.f
  have e2 : IntKind.u64.wrap (32 - 7) = 25 := by decide +kernel
  rw [e2, if_pos (by omega), if_pos (by omega)]
  unfold rotR
  rw [bits_or_comm, show (32 : Int) - 7 = 25 from rfl]
theorem turn7 (x : Int) (w : World) : Calls Try.prog 26 #[.int .u32 x, .int .u64 7] w fun e w' => e = .returned (.int .u32 (rotR x 7)) ∧ Drawn0 w w' := catacombref05_turn.calls x 7 _ w (turn_is7 x)
theorem turn_is18 (x : Int) : catacombref05_turn.f x 18 = some (rotR x 18) := by
  unfold catacombref05_turn.f
  have e2 : IntKind.u64.wrap (32 - 18) = 14 := by decide +kernel
  rw [e2, if_pos (by omega), if_pos (by omega)]
  unfold rotR
  rw [bits_or_comm, show (32 : Int) - 18 = 14 from rfl]
theorem turn18 (x : Int) (w : World) : Calls Try.prog 26 #[.int .u32 x, .int .u64 18] w fun e w' => e = .returned (.int .u32 (rotR x 18)) ∧ Drawn0 w w' := catacombref05_turn.calls x 18 _ w (turn_is18 x)
theorem turn_is17 (x : Int) : catacombref05_turn.f x 17 = some (rotR x 17) := by
  unfold catacombref05_turn.f
  have e2 : IntKind.u64.wrap (32 - 17) = 15 := by decide +kernel
  rw [e2, if_pos (by omega), if_pos (by omega)]
  unfold rotR
  rw [bits_or_comm, show (32 : Int) - 17 = 15 from rfl]
theorem turn17 (x : Int) (w : World) : Calls Try.prog 26 #[.int .u32 x, .int .u64 17] w fun e w' => e = .returned (.int .u32 (rotR x 17)) ∧ Drawn0 w w' := catacombref05_turn.calls x 17 _ w (turn_is17 x)
theorem turn_is19 (x : Int) : catacombref05_turn.f x 19 = some (rotR x 19) := by
  unfold catacombref05_turn.f
  have e2 : IntKind.u64.wrap (32 - 19) = 13 := by decide +kernel
  rw [e2, if_pos (by omega), if_pos (by omega)]
  unfold rotR
  rw [bits_or_comm, show (32 : Int) - 19 = 13 from rfl]
theorem turn19 (x : Int) (w : World) : Calls Try.prog 26 #[.int .u32 x, .int .u64 19] w fun e w' => e = .returned (.int .u32 (rotR x 19)) ∧ Drawn0 w w' := catacombref05_turn.calls x 19 _ w (turn_is19 x)
theorem turn_is6 (x : Int) : catacombref05_turn.f x 6 = some (rotR x 6) := by
  unfold catacombref05_turn.f
  have e2 : IntKind.u64.wrap (32 - 6) = 26 := by decide +kernel
  rw [e2, if_pos (by omega), if_pos (by omega)]
  unfold rotR
  rw [bits_or_comm, show (32 : Int) - 6 = 26 from rfl]
theorem turn6 (x : Int) (w : World) : Calls Try.prog 26 #[.int .u32 x, .int .u64 6] w fun e w' => e = .returned (.int .u32 (rotR x 6)) ∧ Drawn0 w w' := catacombref05_turn.calls x 6 _ w (turn_is6 x)
theorem turn_is11 (x : Int) : catacombref05_turn.f x 11 = some (rotR x 11) := by
  unfold catacombref05_turn.f
  have e2 : IntKind.u64.wrap (32 - 11) = 21 := by decide +kernel
  rw [e2, if_pos (by omega), if_pos (by omega)]
  unfold rotR
  rw [bits_or_comm, show (32 : Int) - 11 = 21 from rfl]
theorem turn11 (x : Int) (w : World) : Calls Try.prog 26 #[.int .u32 x, .int .u64 11] w fun e w' => e = .returned (.int .u32 (rotR x 11)) ∧ Drawn0 w w' := catacombref05_turn.calls x 11 _ w (turn_is11 x)
theorem turn_is25 (x : Int) : catacombref05_turn.f x 25 = some (rotR x 25) := by
  unfold catacombref05_turn.f
  have e2 : IntKind.u64.wrap (32 - 25) = 7 := by decide +kernel
  rw [e2, if_pos (by omega), if_pos (by omega)]
  unfold rotR
  rw [bits_or_comm, show (32 : Int) - 25 = 7 from rfl]
theorem turn25 (x : Int) (w : World) : Calls Try.prog 26 #[.int .u32 x, .int .u64 25] w fun e w' => e = .returned (.int .u32 (rotR x 25)) ∧ Drawn0 w w' := catacombref05_turn.calls x 25 _ w (turn_is25 x)
theorem turn_is2 (x : Int) : catacombref05_turn.f x 2 = some (rotR x 2) := by
  unfold catacombref05_turn.f
  have e2 : IntKind.u64.wrap (32 - 2) = 30 := by decide +kernel
  rw [e2, if_pos (by omega), if_pos (by omega)]
  unfold rotR
  rw [bits_or_comm, show (32 : Int) - 2 = 30 from rfl]
theorem turn2 (x : Int) (w : World) : Calls Try.prog 26 #[.int .u32 x, .int .u64 2] w fun e w' => e = .returned (.int .u32 (rotR x 2)) ∧ Drawn0 w w' := catacombref05_turn.calls x 2 _ w (turn_is2 x)
theorem turn_is13 (x : Int) : catacombref05_turn.f x 13 = some (rotR x 13) := by
  unfold catacombref05_turn.f
  have e2 : IntKind.u64.wrap (32 - 13) = 19 := by decide +kernel
  rw [e2, if_pos (by omega), if_pos (by omega)]
  unfold rotR
  rw [bits_or_comm, show (32 : Int) - 13 = 19 from rfl]
theorem turn13 (x : Int) (w : World) : Calls Try.prog 26 #[.int .u32 x, .int .u64 13] w fun e w' => e = .returned (.int .u32 (rotR x 13)) ∧ Drawn0 w w' := catacombref05_turn.calls x 13 _ w (turn_is13 x)
theorem turn_is22 (x : Int) : catacombref05_turn.f x 22 = some (rotR x 22) := by
  unfold catacombref05_turn.f
  have e2 : IntKind.u64.wrap (32 - 22) = 10 := by decide +kernel
  rw [e2, if_pos (by omega), if_pos (by omega)]
  unfold rotR
  rw [bits_or_comm, show (32 : Int) - 22 = 10 from rfl]
theorem turn22 (x : Int) (w : World) : Calls Try.prog 26 #[.int .u32 x, .int .u64 22] w fun e w' => e = .returned (.int .u32 (rotR x 22)) ∧ Drawn0 w w' := catacombref05_turn.calls x 22 _ w (turn_is22 x)

def PL : List Int := [2, 3, 5, 7, 11, 13, 17, 19, 23, 29, 31, 37, 41, 43, 47, 53, 59, 61, 67, 71, 73, 79, 83, 89, 97, 101, 103, 107, 109, 113, 127, 131, 137, 139, 149, 151, 157, 163, 167, 173, 179, 181, 191, 193, 197, 199, 211, 223, 227, 229, 233, 239, 241, 251, 257, 263, 269, 271, 277, 281, 283, 293, 307, 311]
theorem primes_is : catacombref05_Primes.f 400 64 = some PL := by decide +kernel
theorem cube_is : ∀ n, n < 64 → catacombref05_Cube.f 60 (PL.getD n 0) = some (KS.getD n 0) := by decide +kernel
theorem square_is : ∀ n, n < 8 → catacombref05_Square.f 60 (PL.getD n 0) = some (H0.getD n 0) := by decide +kernel
theorem fill_set {l : List Int} {n k : Nat} (hl : l.length = n) (hk : k < n) : (l.take k ++ List.replicate (n - k) 0).set k (l.getD k 0) = l.take (k + 1) ++ List.replicate (n - (k + 1)) 0 := by
  have h1 : (l.take k).length = k := by rw [List.length_take]; omega
  rw [List.set_append_right _ _ (by omega), h1, Nat.sub_self, show n - k = (n - (k + 1)) + 1 by omega, List.replicate_succ, List.set_cons_zero, List.take_add_one, List.getD_eq_getElem?_getD, List.getElem?_eq_getElem (by omega), List.append_assoc]
  rfl
/-- Between two keys. -/
structure RfA (w1 wr : World) (k : Nat) : Prop where
  bel : Below w1.heap.size w1 wr
  hv : wr.heap[w1.heap.size]? = some (.cells (words (H0.take k ++ List.replicate (8 - k) 0)) 46 (0, 0))
  kv : wr.heap[w1.heap.size + 1]? = some (.cells (words (KS.take k ++ List.replicate (64 - k) 0)) 47 (0, 0))
theorem RfA.start (w1 : World) : RfA w1 ((w1.alloc (Obj.cells (words (List.replicate 8 0)) 46)).alloc (Obj.cells (words (List.replicate 64 0)) 47)) 0 :=
  ⟨((Below.refl _ _).alloc (Nat.le_refl _) _).alloc (by simp) _, blk_alloc (blk_new w1 _) _, by have h := blk_new (w1.alloc (Obj.cells (words (List.replicate 8 0)) 46)) (Obj.cells (words (List.replicate 64 0)) 47); rw [show (w1.alloc (Obj.cells (words (List.replicate 8 0)) 46)).heap.size = w1.heap.size + 1 by simp] at h; exact h⟩
theorem RfA.drewN {w1 wr : World} {k : Nat} (h : RfA w1 wr k) (n : Nat) : RfA w1 (wr.drewN n) k := ⟨pw_below_drewN h.bel n, h.hv, h.kv⟩
theorem RfA.far {w1 wr : World} {k : Nat} (h : RfA w1 wr k) (hk : k < 64) (h8 : 8 ≤ k) : RfA w1 (wr.setCell ⟨w1.heap.size + 1, k, none⟩ (.int .u32 (KS.getD k 0))) (k + 1) :=
  ⟨h.bel.setCell (by simp) _, by
    have e : H0.take k ++ List.replicate (8 - k) 0 = H0.take (k + 1) ++ List.replicate (8 - (k + 1)) 0 := by
      rw [List.take_of_length_le (show H0.length ≤ k from h8), List.take_of_length_le (show H0.length ≤ k + 1 from Nat.le_succ_of_le h8), show 8 - k = 0 by omega, show 8 - (k + 1) = 0 by omega]
    have := blk_far h.hv (p := ⟨w1.heap.size + 1, k, none⟩) (by simp) (.int .u32 (KS.getD k 0))
    rwa [e] at this, by
    have := words_store h.kv k (KS.getD k 0)
    rwa [fill_set (n := 64) rfl hk] at this⟩
theorem RfA.near {w1 wr : World} {k : Nat} (h : RfA w1 wr k) (h8 : k < 8) (n : Nat) : RfA w1 (((wr.setCell ⟨w1.heap.size + 1, k, none⟩ (.int .u32 (KS.getD k 0))).drewN n).setCell ⟨w1.heap.size, k, none⟩ (.int .u32 (H0.getD k 0))) (k + 1) :=
  ⟨(pw_below_drewN (h.bel.setCell (by simp) _) n).setCell (Nat.le_refl _) _, by
    have := words_store (w := (wr.setCell ⟨w1.heap.size + 1, k, none⟩ (.int .u32 (KS.getD k 0))).drewN n) (blk_far h.hv (p := ⟨w1.heap.size + 1, k, none⟩) (by simp) (.int .u32 (KS.getD k 0))) k (H0.getD k 0)
    rwa [fill_set (n := 8) rfl h8] at this, by
    have := words_store h.kv k (KS.getD k 0)
    rw [fill_set (n := 64) rfl (by omega)] at this
    exact blk_far (w := (wr.setCell ⟨w1.heap.size + 1, k, none⟩ (.int .u32 (KS.getD k 0))).drewN n) this (p := ⟨w1.heap.size, k, none⟩) (by simp) _⟩
theorem prim_reads {w1 : World} {base : Nat} {ok : Nat → Prop} {v : Value} (h : Kd.R (Kd.int .u64) 48 w1 base ok v PL) : ∃ ad c, v = .slice (some ad) 64 c ∧ ∀ j, j < 64 → w1.cell? (ad.add j) = some (.int .u64 (PL.getD j 0)) := by
  obtain ⟨A, c, rfl, _, hr⟩ := Kd.R_reads h
  obtain ⟨ad, e, hc⟩ := (ints_of_row (k := .u64) hr).2.2 (by decide)
  subst e
  exact ⟨ad, c, rfl, hc⟩
end Go.Proofs.Ytjlnbklendkflaa
