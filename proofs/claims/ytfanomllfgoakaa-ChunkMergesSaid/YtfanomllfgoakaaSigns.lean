/- The law's own signs of a number's bits: a text of 0 and 1. -/
import Derived.Test.YtfanomllfgoakaaParts
set_option linter.unusedVariables false
set_option linter.unusedSimpArgs false
namespace Go.Proofs.Ytfanomllfgoakaa
open Go.RowKit Go.Proofs.YtfanomllfgoakaaW.PrintWords Go.Proofs.YtfanomllfgoakaaW.PrintLast Go.Proofs.YtfanomllfgoakaaW.PrintMore
open Go.Proofs.Ytfanomllfgoakaa.BitsMath Go.Proofs.Ytfanomllfgoakaa.ChunkMath

/-- Bits as a text. -/
def strB (bs : List Bool) : ByteArray := strOfNums (bs.map fun b => 48 + bv b)
theorem strB_size (bs : List Bool) : (strB bs).size = bs.length := by simp [strB, strOfNums, ByteArray.size]
theorem strOfNums_append (a b : List Int) : strOfNums (a ++ b) = strOfNums a ++ strOfNums b := by
  apply ByteArray.ext
  simp [strOfNums]
theorem strB_append (a b : List Bool) : strB (a ++ b) = strB a ++ strB b := by
  unfold strB
  rw [List.map_append, strOfNums_append]
theorem strB_cons (b : Bool) (r : List Bool) : strB (b :: r) = strOfNums [48 + bv b] ++ strB r := by
  rw [show b :: r = [b] ++ r from rfl, strB_append]; rfl
theorem strB_nil : strB [] = ⟨#[]⟩ := rfl

theorem signs_step (x y i n : Nat) (hi : i < n) (h : bitsOf x n = bitsOf y (n - i) ++ (bitsOf x n).drop (n - i)) :
    bitsOf x n = bitsOf (y / 2) (n - (i + 1)) ++ (bitsOf x n).drop (n - (i + 1)) ∧ (bitsOf x n).drop (n - (i + 1)) = decide (y % 2 = 1) :: (bitsOf x n).drop (n - i) := by
  have e : n - i = n - (i + 1) + 1 := by omega
  have h2 : (bitsOf x n).drop (n - (i + 1)) = decide (y % 2 = 1) :: (bitsOf x n).drop (n - i) := by
    conv => lhs; rw [h, e, bitsOf, List.append_assoc]
    rw [List.drop_append_of_le_length (by rw [bitsOf_length]; exact Nat.le_refl _), List.drop_of_length_le (by rw [bitsOf_length]; exact Nat.le_refl _), ← e]
    rfl
  refine ⟨?_, h2⟩
  rw [h2]
  conv => lhs; rw [h, e, bitsOf, List.append_assoc]
  rw [← e]
  rfl
set_option maxHeartbeats 1000000 in
theorem signs_calls (x : Nat) (n : Int) (w : World) (hx : x < 18446744073709551616) (h0 : 0 ≤ n) (h1 : n ≤ 100) :
    Calls Try.prog 15 #[.int .u64 x, .int .i64 n] w fun e w' => e = .returned (.string (strB (bitsOf x n.toNat))) ∧ Below w.heap.size w w' := by
  go_enter Try.func15, Try.ntmps15
  go_wp2_with fail
  go_loopw [0, 5, 7] (fun v0 v5 v7 wr => ∃ (i y : Nat) (s : ByteArray), (i : Int) ≤ n ∧ y < 18446744073709551616 ∧ s.size ≤ 100 ∧ v7 = .int .i64 (i : Int) ∧ v0 = .int .u64 (y : Int) ∧ v5 = .string s ∧ Aside0 (bitsOf x n.toNat = bitsOf y (n.toNat - i) ++ (bitsOf x n.toNat).drop (n.toNat - i) ∧ s = strB ((bitsOf x n.toNat).drop (n.toNat - i))) ∧ Aside0 (Below w.heap.size w wr)) (fun _ _ v _ => (n - intOf v).toNat)
  case atStart =>
    refine ⟨0, x, ⟨#[]⟩, by omega, hx, by decide, rfl, rfl, rfl, ⟨?_, ?_⟩, ⟨Below.refl _ _⟩⟩
    · rw [Nat.sub_zero, List.drop_of_length_le (by rw [bitsOf_length]; exact Nat.le_refl _), List.append_nil]
    · rw [Nat.sub_zero, List.drop_of_length_le (by rw [bitsOf_length]; exact Nat.le_refl _)]; rfl
  case round =>
    obtain ⟨i, y, s, hi, hy, hs, rfl, rfl, rfl, HI, HW⟩ := hrel
    by_cases hlt : (i : Int) < n
    · have hcv : (convert 25 9 (.slice (some ⟨wr.heap.size, 0, none⟩) 1 1)).run Try.prog (wr.alloc (.cells #[.int .u8 (48 + (y : Int) % 2)] 5)) = .ok (.string (strOfNums [48 + (y : Int) % 2])) (wr.alloc (.cells #[.int .u8 (48 + (y : Int) % 2)] 5)) :=
        conv_own (base := 0) (n := 1) (xs := [48 + (y : Int) % 2]) (World.ownsRow_lit wr #[.int .u8 (48 + (y : Int) % 2)] 1 (Nat.zero_le _) (by decide) rfl)
      have HT := Aside0.mk (show (strOfNums [48 + (y : Int) % 2]).size = 1 by rw [strOfNums_size]; rfl)
      obtain ⟨t, ht⟩ : ∃ t, t = strOfNums [48 + (y : Int) % 2] := ⟨_, rfl⟩
      have HTE := Aside0.mk ht
      rw [← ht] at hcv HT
      have ht1 : t.size ≤ 1 := by rw [HT.out]; omega
      clear ht
      have HS := Aside0.mk (signs_step x y i n.toNat (by omega) HI.out.1)
      have HSE := Aside0.mk HI.out.2
      have hss : s.size ≤ i := by
        rw [HI.out.2, strB_size, List.length_drop, bitsOf_length]
        omega
      have HN := Aside0.mk (show (wr.alloc (.cells #[.int .u8 (48 + (y : Int) % 2)] 5)).heap.size = wr.heap.size + 1 by simp)
      go_wp2
      go_roundw
      case rel =>
        refine ⟨i + 1, y / 2, t ++ s, by omega, by omega, by simp; omega, rfl, by simp, rfl, ⟨HS.out.1, ?_⟩, ⟨HW.out.alloc HW.out.size _⟩⟩
        rw [HS.out.2, strB_cons, ← HSE.out, HTE.out]
        have e : (48 + bv (decide (y % 2 = 1)) : Int) = 48 + (y : Int) % 2 := by
          unfold bv
          by_cases h : y % 2 = 1
          · simp [h]; omega
          · simp [h]; omega
        rw [e]
      case measure => simp [intOf]; omega
    · have HE := Aside0.mk (show n.toNat - i = 0 by omega)
      go_wp2
      go_ret
      refine ⟨?_, HW.out⟩
      have h := HI.out.2
      rw [HE.out, List.drop_zero] at h
      rw [← h]
      rfl
end Go.Proofs.Ytfanomllfgoakaa
