/- The chunk law's own texts: signs, fold, own; and nums.Fold, nums.Unfold, chunk.change: walked. -/
import Derived.Test.YtfanomllfgoakaaItems
import Derived.Test.YtfanomllfgoakaaMergeMath
set_option linter.unusedVariables false
set_option linter.unusedSimpArgs false
namespace Go.Proofs.Ytfanomllfgoakaa
open Go.RowKit Go.Proofs.YtfanomllfgoakaaW.PrintWords Go.Proofs.YtfanomllfgoakaaW.PrintLast Go.Proofs.YtfanomllfgoakaaW.PrintMore
open Go.Proofs.Ytfanomllfgoakaa.BitsMath Go.Proofs.Ytfanomllfgoakaa.ChunkMath

set_option maxHeartbeats 1000000 in
theorem signs4_calls (x : Nat) (n : Int) (w : World) (hx : x < 18446744073709551616) (h0 : 0 ≤ n) (h1 : n ≤ 100) :
    Calls Try.prog 38 #[.int .u64 x, .int .i64 n] w fun e w' => e = .returned (.string (strB (bitsOf x n.toNat))) ∧ Below w.heap.size w w' := by
  go_enter Try.func38, Try.ntmps38
  go_wp2_with fail
  go_loopw [0, 5, 7] (fun v0 v5 v7 wr => ∃ (i y : Nat) (s : ByteArray), (i : Int) ≤ n ∧ y < 18446744073709551616 ∧ s.size ≤ 100 ∧ v7 = .int .i64 (i : Int) ∧ v0 = .int .u64 (y : Int) ∧ v5 = .string s ∧ Aside0 (bitsOf x n.toNat = bitsOf y (n.toNat - i) ++ (bitsOf x n.toNat).drop (n.toNat - i) ∧ s = strB ((bitsOf x n.toNat).drop (n.toNat - i))) ∧ Aside0 (Below w.heap.size w wr)) (fun _ _ v _ => (n - intOf v).toNat)
  case atStart =>
    refine ⟨0, x, ⟨#[]⟩, by omega, hx, by decide, rfl, rfl, rfl, ⟨?_, ?_⟩, ⟨Below.refl _ _⟩⟩
    · rw [Nat.sub_zero, List.drop_of_length_le (by rw [bitsOf_length]; exact Nat.le_refl _), List.append_nil]
    · rw [Nat.sub_zero, List.drop_of_length_le (by rw [bitsOf_length]; exact Nat.le_refl _)]; rfl
  case round =>
    obtain ⟨i, y, s, hi, hy, hs, rfl, rfl, rfl, HI, HW⟩ := hrel
    by_cases hlt : (i : Int) < n
    · have hcv : (convert 25 9 (.slice (some ⟨wr.heap.size, 0, none⟩) 1 1)).run Try.prog (wr.alloc (.cells #[.int .u8 (48 + (y : Int) % 2)] 5)) = .ok (.string (strOfNums [48 + (y : Int) % 2])) (wr.alloc (.cells #[.int .u8 (48 + (y : Int) % 2)] 5)) :=
        conv_own (base := 0) (n := 1) (xs := [48 + (y : Int) % 2]) (World.ownsRow_lit wr #[.int .u8 (48 + (y : Int) % 2)] 1 (Nat.zero_le _) (by decide) rfl)
      have HT := Aside0.mk (show (strOfNums [48 + (y : Int) % 2]).size = 1 by rw [strOfNums_size]; rfl)
      obtain ⟨t, ht⟩ : ∃ t, t = strOfNums [48 + (y : Int) % 2] := ⟨_, rfl⟩
      have HTE := Aside0.mk ht
      rw [← ht] at hcv HT
      have ht1 : t.size ≤ 1 := by rw [HT.out]; omega
      clear ht
      have HS := Aside0.mk (signs_step x y i n.toNat (by omega) HI.out.1)
      have HSE := Aside0.mk HI.out.2
      have hss : s.size ≤ i := by
        rw [HI.out.2, strB_size, List.length_drop, bitsOf_length]
        omega
      have HN := Aside0.mk (show (wr.alloc (.cells #[.int .u8 (48 + (y : Int) % 2)] 5)).heap.size = wr.heap.size + 1 by simp)
      go_wp2
      go_roundw
      case rel =>
        refine ⟨i + 1, y / 2, t ++ s, by omega, by omega, by simp; omega, rfl, by simp, rfl, ⟨HS.out.1, ?_⟩, ⟨HW.out.alloc HW.out.size _⟩⟩
        rw [HS.out.2, strB_cons, ← HSE.out, HTE.out]
        have e : (48 + bv (decide (y % 2 = 1)) : Int) = 48 + (y : Int) % 2 := by
          unfold bv
          by_cases h : y % 2 = 1
          · simp [h]; omega
          · simp [h]; omega
        rw [e]
      case measure => simp [intOf]; omega
    · have HE := Aside0.mk (show n.toNat - i = 0 by omega)
      go_wp2
      go_ret
      refine ⟨?_, HW.out⟩
      have h := HI.out.2
      rw [HE.out, List.drop_zero] at h
      rw [← h]
      rfl

set_option maxHeartbeats 1000000 in
theorem fold_calls (a : Int) (w : World) (h : I64 a) : Calls Try.prog 39 #[.int .i64 a] w fun e w' => e = .returned (.int .u64 (zig a : Int)) ∧ w = w' := by
  obtain ⟨h0, h1⟩ := h
  by_cases hn : a < 0
  · have HE := Aside0.mk (show (zig a : Int) = 2 * (-(a + 1)) + 1 by unfold zig; rw [if_pos hn]; omega)
    go_enter Try.func39, Try.ntmps39
    go_wp2
    go_ret
    refine ⟨?_, rfl⟩
    rw [HE.out]
    first | rfl | (simp; done) | trace_state
  · have HE := Aside0.mk (show (zig a : Int) = 2 * a by unfold zig; rw [if_neg hn]; omega)
    go_enter Try.func39, Try.ntmps39
    go_wp2
    go_ret
    refine ⟨?_, rfl⟩
    rw [HE.out]
    first | rfl | (simp; done) | trace_state
set_option maxHeartbeats 1000000 in
theorem own_calls (x : Nat) (w : World) (hx : x < 18446744073709551616) : Calls Try.prog 40 #[.int .u64 (x : Int)] w fun e w' => e = .returned (.string (strB (ChunkMath.own x))) ∧ Below w.heap.size w w' := by
  have hbl := blen_64 x hx
  go_enter Try.func40, Try.ntmps40
  go_wp2_with fail
  go_loop [3, 4] (fun v3 v4 => ∃ (n y : Nat), n ≤ 64 ∧ y < 18446744073709551616 ∧ v3 = .int .i64 (n : Int) ∧ v4 = .int .u64 (y : Int) ∧ Aside0 (n + blen y = blen x)) (fun _ v => (intOf v).toNat)
  case atStart => exact ⟨0, x, by omega, hx, rfl, rfl, ⟨by omega⟩⟩
  case round =>
    obtain ⟨n, y, hn, hy, rfl, rfl, HI⟩ := hrel
    by_cases hy0 : 0 < y
    · have HB := Aside0.mk (blen_pos y (by omega))
      have hn64 : n ≤ 63 := by have := HI.out; have := HB.out; omega
      go_wp2
      go_round
      case rel => exact ⟨n + 1, y / 2, by omega, by omega, by simp, by simp, ⟨by have := HI.out; have := HB.out; omega⟩⟩
      case measure => simp [intOf]; omega
    · have HN := Aside0.mk (show n = blen x by have h := HI.out; rw [show y = 0 by omega, blen_zero] at h; omega)
      go_wp2_with fail
      refine (signs4_calls n 7 _ (by omega) (by omega) (by omega)).mono ?_
      rintro e w1 ⟨rfl, h1⟩
      have H1 := Aside0.mk h1
      clear h1
      go_wp2_with fail
      refine (signs4_calls x n _ hx (by omega) (by omega)).mono ?_
      rintro e w2 ⟨rfl, h2⟩
      have H2 := Aside0.mk h2
      clear h2
      have hs1 : (strB (bitsOf n 7)).size ≤ 7 := by rw [strB_size, bitsOf_length]; decide
      have hs2 : (strB (bitsOf x (n : Int).toNat)).size ≤ 64 := by rw [strB_size, bitsOf_length]; omega
      obtain ⟨s1, hS1⟩ : ∃ s, s = strB (bitsOf n 7) := ⟨_, rfl⟩
      obtain ⟨s2, hS2⟩ : ∃ s, s = strB (bitsOf x (n : Int).toNat) := ⟨_, rfl⟩
      rw [← hS1] at hs1 ⊢
      rw [← hS2] at hs2 ⊢
      have HS1 := Aside0.mk hS1
      have HS2 := Aside0.mk hS2
      clear hS1 hS2
      go_wp2
      go_ret
      refine ⟨?_, H1.out.trans (H2.out.mono H1.out.size)⟩
      unfold ChunkMath.own
      rw [strB_append, ← HN.out]
      have e1 := HS1.out
      have e2 := HS2.out
      rw [Int.toNat_natCast] at e2
      rw [← e2]
      show _ = Ending.returned (Value.string (strB (bitsOf n 7) ++ s2))
      rw [← e1]
      rfl
theorem u64w (n : Int) : IntKind.u64.wrap n = n % 18446744073709551616 := IntKind.wrap_u64 n
theorem bv_xor_ones (b : BitVec 64) : b ^^^ BitVec.allOnes 64 = ~~~b := by
  apply BitVec.eq_of_getElem_eq
  intro i hi
  rw [BitVec.getElem_xor, BitVec.getElem_allOnes, BitVec.getElem_not, Bool.xor_true]
theorem bv_ones : BitVec.ofInt 64 18446744073709551615 = BitVec.allOnes 64 := by decide
theorem bv_neg1 : BitVec.ofInt 64 (-1) = BitVec.allOnes 64 := by decide
theorem bv_zero : BitVec.ofInt 64 0 = 0#64 := by decide

theorem xor_u64_ones (x : Nat) (h : x < 18446744073709551616) : Go.bits .xor .u64 (x : Int) 18446744073709551615 = 18446744073709551615 - (x : Int) := by
  show IntKind.u64.wrap ((BitVec.ofInt 64 (x : Int) ^^^ BitVec.ofInt 64 18446744073709551615).toNat : Int) = _
  rw [bv_ones, bv_xor_ones, u64w, BitVec.toNat_not, BitVec.ofInt_natCast, BitVec.toNat_ofNat]
  omega
theorem xor_u64_zero (x : Nat) (h : x < 18446744073709551616) : Go.bits .xor .u64 (x : Int) 0 = (x : Int) := by
  show IntKind.u64.wrap ((BitVec.ofInt 64 (x : Int) ^^^ BitVec.ofInt 64 0).toNat : Int) = _
  rw [bv_zero, BitVec.xor_zero, u64w, BitVec.ofInt_natCast, BitVec.toNat_ofNat]
  omega
theorem i64w (n : Int) : IntKind.i64.wrap n = (n + 9223372036854775808) % 18446744073709551616 - 9223372036854775808 := by rw [IntKind.wrap_i64]
theorem xor_i64_neg1 (x : Nat) (h : x < 9223372036854775808) : Go.bits .xor .i64 (x : Int) (-1) = -(x : Int) - 1 := by
  show IntKind.i64.wrap ((BitVec.ofInt 64 (x : Int) ^^^ BitVec.ofInt 64 (-1)).toNat : Int) = _
  rw [bv_neg1, bv_xor_ones, i64w, BitVec.toNat_not, BitVec.ofInt_natCast, BitVec.toNat_ofNat]
  omega
theorem xor_i64_zero (x : Nat) (h : x < 9223372036854775808) : Go.bits .xor .i64 (x : Int) 0 = (x : Int) := by
  show IntKind.i64.wrap ((BitVec.ofInt 64 (x : Int) ^^^ BitVec.ofInt 64 0).toNat : Int) = _
  rw [bv_zero, BitVec.xor_zero, i64w, BitVec.ofInt_natCast, BitVec.toNat_ofNat]
  omega
set_option maxHeartbeats 1000000 in
theorem nfold_calls (a : Int) (w : World) (h : I64 a) : Calls Try.prog 42 #[.int .i64 a] w fun e w' => e = .returned (.int .u64 (zig a : Int)) ∧ w = w' := by
  obtain ⟨h0, h1⟩ := h
  by_cases hn : a < 0
  · go_enter Try.func42, Try.ntmps42
    go_wp2
    go_ret
    refine ⟨?_, rfl⟩
    have e1 : IntKind.u64.wrap (a / 9223372036854775808) = 18446744073709551615 := by rw [IntKind.wrap_u64]; omega
    obtain ⟨k, hk⟩ : ∃ k : Nat, IntKind.u64.wrap (IntKind.u64.wrap a * 2) = (k : Int) ∧ k < 18446744073709551616 := ⟨(IntKind.u64.wrap (IntKind.u64.wrap a * 2)).toNat, by rw [IntKind.wrap_u64]; omega, by rw [IntKind.wrap_u64]; omega⟩
    have e2 : Go.bits .xor .u64 (IntKind.u64.wrap (IntKind.u64.wrap a * 2)) (IntKind.u64.wrap (a / 9223372036854775808)) = (zig a : Int) := by
      rw [e1, hk.1, xor_u64_ones k hk.2]
      have h3 := hk.1
      rw [IntKind.wrap_u64, IntKind.wrap_u64] at h3
      unfold zig
      rw [if_pos hn]
      omega
    rw [← e2]
    rfl
  · go_enter Try.func42, Try.ntmps42
    go_wp2
    go_ret
    refine ⟨?_, rfl⟩
    have e1 : a / 9223372036854775808 = 0 := by omega
    obtain ⟨k, rfl⟩ := Int.eq_ofNat_of_zero_le (show 0 ≤ a by omega)
    have e2 : Go.bits .xor .u64 ((k : Int) * 2) ((k : Int) / 9223372036854775808) = (zig (k : Int) : Int) := by
      rw [e1, show ((k : Int) * 2) = ((k * 2 : Nat) : Int) by simp, xor_u64_zero (k * 2) (by omega)]
      unfold zig
      rw [if_neg (by omega)]
      omega
    rw [← e2]
    rfl
set_option maxHeartbeats 1000000 in
theorem nunfold_calls (x : Nat) (w : World) (h : x < 18446744073709551616) : Calls Try.prog 46 #[.int .u64 (x : Int)] w fun e w' => e = .returned (.int .i64 (zag x)) ∧ w = w' := by
  have hb := and_u64_one (x : Int) (by omega) (by omega)
  go_enter Try.func46, Try.ntmps46
  go_wp2
  go_ret
  refine ⟨?_, rfl⟩
  have e2 : Go.bits .xor .i64 ((x : Int) / 2) (-((x : Int) % 2)) = zag x := by
    have e3 : ((x : Int) / 2) = ((x / 2 : Nat) : Int) := by omega
    unfold zag
    by_cases hn : x % 2 = 1
    · rw [if_pos hn, show -((x : Int) % 2) = -1 by omega, e3, xor_i64_neg1 _ (by omega)]
    · rw [if_neg hn, show -((x : Int) % 2) = 0 by omega, e3, xor_i64_zero _ (by omega)]
  rw [← e2]
  rfl
set_option maxHeartbeats 1000000 in
theorem change_calls (a b : Int) (w : World) (ha : I64 a) (hb : I64 b) : Calls Try.prog 44 #[.int .i64 a, .int .i64 b] w fun e w' => e = .returned (.int .u64 (zig (w64 (b - a)) : Int)) ∧ w = w' := by
  obtain ⟨h0, h1⟩ := ha
  obtain ⟨h2, h3⟩ := hb
  go_enter Try.func44, Try.ntmps44
  have e : wrap64 (IntKind.u64.wrap (IntKind.u64.wrap b - IntKind.u64.wrap a)) = w64 (b - a) := by
    rw [u64w, u64w, u64w]; unfold wrap64 w64; omega
  have HE := Aside0.mk e
  clear e
  go_wp2_with fail
  rw [HE.out]
  refine (nfold_calls _ _ (w64_in _)).mono ?_
  rintro e w1 ⟨rfl, rfl⟩
  go_wp2
  go_ret
  exact ⟨rfl, rfl⟩
end Go.Proofs.Ytfanomllfgoakaa
