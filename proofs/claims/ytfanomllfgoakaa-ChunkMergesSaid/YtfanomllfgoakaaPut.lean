/- bits.Writer.Put, Unary, Len, Bytes: walked over Writer.one. -/
import Derived.Test.YtfanomllfgoakaaWriter
import Derived.Test.YtfanomllfgoakaaWidth
import Derived.WalkSpells
set_option linter.unusedVariables false
namespace Go.Proofs.Ytfanomllfgoakaa
open Go.RowKit Go.Proofs.YtfanomllfgoakaaW.PrintWords Go.Proofs.YtfanomllfgoakaaW.PrintLast Go.Proofs.YtfanomllfgoakaaW.PrintMore
open Go.Proofs.Ytfanomllfgoakaa.BitsMath Go.Proofs.Ytfanomllfgoakaa.ChunkMath

set_option maxHeartbeats 1000000 in
theorem put_nil (x n : Int) (w : World) : Calls Try.prog 12 #[.pointer none, .int .u64 x, .int .i64 n] w fun e w' => e = .returned (.int .i64 1) ∧ w = w' := by
  go_enter Try.func12, Try.ntmps12
  go_wp2
  go_ret
  exact ⟨rfl, rfl⟩
set_option maxHeartbeats 1000000 in
theorem put_low (a : Addr) (x n : Int) (w : World) (h : decide (n < 0) = true) : Calls Try.prog 12 #[.pointer (some a), .int .u64 x, .int .i64 n] w fun e w' => e = .returned (.int .i64 1) ∧ w = w' := by
  go_enter Try.func12, Try.ntmps12
  go_wp2
  go_ret
  exact ⟨rfl, rfl⟩
set_option maxHeartbeats 1000000 in
theorem put_high (a : Addr) (x n : Int) (w : World) (h : decide (n < 0) = false) (h' : decide (64 < n) = true) : Calls Try.prog 12 #[.pointer (some a), .int .u64 x, .int .i64 n] w fun e w' => e = .returned (.int .i64 1) ∧ w = w' := by
  go_enter Try.func12, Try.ntmps12
  go_wp2
  go_ret
  exact ⟨rfl, rfl⟩
set_option maxHeartbeats 1000000 in
theorem put_range (a : Addr) (x : Nat) (n : Int) (w : World) (hx : x < 18446744073709551616) (h : decide (n < 0) = false) (h' : decide (64 < n) = false) (hr : decide (n < (blen x : Int)) = true) :
    Calls Try.prog 12 #[.pointer (some a), .int .u64 x, .int .i64 n] w fun e w' => e = .returned (.int .i64 3) ∧ w = w' := by
  go_enter Try.func12, Try.ntmps12
  go_wp2_with fail
  refine (width_blen x hx _).mono ?_
  rintro e w1 ⟨rfl, rfl⟩
  go_wp2
  go_ret
  exact ⟨rfl, rfl⟩
set_option maxHeartbeats 2000000 in
theorem put_ok (p : Nat) (bs : List Bool) (x : Nat) (n : Int) (w : World) (hx : x < 18446744073709551616) (h0 : 0 ≤ n) (h1 : n ≤ 64) (hr : decide (n < (blen x : Int)) = false) (hw : IsW p bs w) (hn : bs.length ≤ 1000000000) :
    Calls Try.prog 12 #[.pointer (some ⟨p, 0, none⟩), .int .u64 x, .int .i64 n] w fun e w' => e = .returned (.int .i64 0) ∧ WStep p w w' (bs ++ bitsOf x n.toNat) := by
  have h : decide (n < 0) = false := decide_eq_false (by omega)
  have h' : decide (64 < n) = false := decide_eq_false (by omega)
  have HW := Aside0.mk hw
  clear hw
  go_enter Try.func12, Try.ntmps12
  go_wp2_with fail
  refine (width_blen x hx _).mono ?_
  rintro e w1 ⟨rfl, rfl⟩
  go_wp2_with fail
  go_loopw [7] (fun v7 wr => ∃ i : Int, -1 ≤ i ∧ i < n ∧ v7 = .int .i64 i ∧ Aside0 (WStep p w wr (bs ++ bitsOf (x / 2 ^ (i + 1).toNat) (n - 1 - i).toNat))) (fun v7 _ => (intOf v7 + 1).toNat)
  case atStart =>
    refine ⟨n - 1, by omega, by omega, rfl, ⟨?_⟩⟩
    have e : (n - 1 - (n - 1)).toNat = 0 := by omega
    rw [e]
    simpa [bitsOf] using WStep.refl HW.out
  case round =>
    obtain ⟨i, hi0, hi1, rfl, HS⟩ := hrel
    by_cases hlt : 0 ≤ i
    · have hq : ((x : Int) / 2 ^ i.toNat) = ((x / 2 ^ i.toNat : Nat) : Int) := by simp
      have hq0 : 0 ≤ (x : Int) / 2 ^ i.toNat := by rw [hq]; exact Int.natCast_nonneg _
      have hq1 : (x : Int) / 2 ^ i.toNat < 18446744073709551616 := by rw [hq]; have := Nat.div_le_self x (2 ^ i.toNat); omega
      have HQ := Aside0.mk hq
      clear hq
      go_wp2_with fail
      refine (one_calls p _ _ wr hq0 hq1 HS.out.is (by rw [List.length_append, bitsOf_length]; omega)).mono ?_
      rintro e w2 ⟨rfl, h2⟩
      have HS2 := Aside0.mk (HS.out.trans h2)
      clear h2
      go_wp2
      go_roundw
      case rel =>
        refine ⟨i - 1, by omega, by omega, rfl, ⟨?_⟩⟩
        have h2 := HS2.out
        rw [List.append_assoc] at h2
        have e1 : (i - 1 + 1).toNat = i.toNat := by omega
        have e2 : (n - 1 - (i - 1)).toNat = (n - 1 - i).toNat + 1 := by omega
        have e3 : (i + 1).toNat = i.toNat + 1 := by omega
        rw [e1, e2, bitsOf]
        rw [e3, Nat.pow_succ, ← Nat.div_div_eq_div_mul] at h2
        have e4 : decide ((x : Int) / 2 ^ i.toNat % 2 = 1) = decide (x / 2 ^ i.toNat % 2 = 1) := by
          rw [HQ.out]
          exact decide_eq_decide.2 (by omega)
        rw [e4] at h2
        exact h2
      case measure => simp [intOf]; omega
    · have hd : decide (0 ≤ i) = false := decide_eq_false hlt
      have HE := Aside0.mk (show i = -1 by omega)
      go_wp2
      go_ret
      refine ⟨rfl, ?_⟩
      have hs := HS.out
      have hi := HE.out
      subst hi
      simpa using hs
set_option maxHeartbeats 1000000 in
theorem unaryW_nil (n : Int) (w : World) : Calls Try.prog 21 #[.pointer none, .int .i64 n] w fun e w' => e = .returned (.int .i64 1) ∧ w = w' := by
  go_enter Try.func21, Try.ntmps21
  go_wp2
  go_ret
  exact ⟨rfl, rfl⟩
set_option maxHeartbeats 1000000 in
theorem unaryW_low (a : Addr) (n : Int) (w : World) (h : decide (n < 0) = true) : Calls Try.prog 21 #[.pointer (some a), .int .i64 n] w fun e w' => e = .returned (.int .i64 1) ∧ w = w' := by
  go_enter Try.func21, Try.ntmps21
  go_wp2
  go_ret
  exact ⟨rfl, rfl⟩
set_option maxHeartbeats 1000000 in
theorem unaryW_high (a : Addr) (n : Int) (w : World) (h : decide (n < 0) = false) (h' : decide (4096 < n) = true) : Calls Try.prog 21 #[.pointer (some a), .int .i64 n] w fun e w' => e = .returned (.int .i64 1) ∧ w = w' := by
  go_enter Try.func21, Try.ntmps21
  go_wp2
  go_ret
  exact ⟨rfl, rfl⟩
set_option maxHeartbeats 2000000 in
theorem unaryW_ok (p : Nat) (bs : List Bool) (n : Int) (w : World) (h0 : 0 ≤ n) (h1 : n ≤ 4096) (hw : IsW p bs w) (hn : bs.length ≤ 1000000000) :
    Calls Try.prog 21 #[.pointer (some ⟨p, 0, none⟩), .int .i64 n] w fun e w' => e = .returned (.int .i64 0) ∧ WStep p w w' (bs ++ (List.replicate n.toNat true ++ [false])) := by
  have h : decide (n < 0) = false := decide_eq_false (by omega)
  have h' : decide (4096 < n) = false := decide_eq_false (by omega)
  have HW := Aside0.mk hw
  clear hw
  go_enter Try.func21, Try.ntmps21
  go_wp2_with fail
  go_loopw [16] (fun v wr => ∃ i : Int, 0 ≤ i ∧ i ≤ n ∧ v = .int .i64 i ∧ Aside0 (WStep p w wr (bs ++ List.replicate i.toNat true))) (fun v _ => (n - intOf v).toNat)
  case atStart =>
    refine ⟨0, by omega, by omega, rfl, ⟨?_⟩⟩
    simpa using WStep.refl HW.out
  case round =>
    obtain ⟨i, hi0, hi1, rfl, HS⟩ := hrel
    by_cases hlt : i < n
    · go_wp2_with fail
      refine (one_calls p _ 1 wr (by omega) (by omega) HS.out.is (by simp; omega)).mono ?_
      rintro e w2 ⟨rfl, h2⟩
      have HS2 := Aside0.mk (HS.out.trans h2)
      clear h2
      go_wp2
      go_roundw
      case rel =>
        refine ⟨i + 1, by omega, by omega, rfl, ⟨?_⟩⟩
        have h2 := HS2.out
        rw [List.append_assoc] at h2
        have e1 : (i + 1).toNat = i.toNat + 1 := by omega
        rw [e1, List.replicate_succ']
        simpa using h2
      case measure => simp [intOf]; omega
    · have HE := Aside0.mk (show i = n by omega)
      go_wp2_with fail
      refine (one_calls p _ 0 wr (by omega) (by omega) HS.out.is (by simp; omega)).mono ?_
      rintro e w2 ⟨rfl, h2⟩
      have HS2 := Aside0.mk (HS.out.trans h2)
      clear h2
      go_wp2
      go_ret
      refine ⟨rfl, ?_⟩
      have h2 := HS2.out
      rw [HE.out, List.append_assoc] at h2
      simpa using h2
set_option maxHeartbeats 1000000 in
theorem lenW_nil (w : World) : Calls Try.prog 13 #[.pointer none] w fun e w' => e = .returned (.int .i64 0) ∧ w = w' := by
  go_enter Try.func13, Try.ntmps13
  go_wp2
  go_ret
  exact ⟨rfl, rfl⟩
set_option maxHeartbeats 1000000 in
theorem lenW_calls (p : Nat) (bs : List Bool) (w : World) (hw : IsW p bs w) : Calls Try.prog 13 #[.pointer (some ⟨p, 0, none⟩)] w fun e w' => e = .returned (.int .i64 (bs.length : Int)) ∧ w = w' := by
  obtain ⟨v, hw⟩ := hw
  have h1 : w.cell? ⟨p, 1, none⟩ = some (.int .i64 (bs.length : Int)) := by rw [blk_cell hw.1]; rfl
  clear hw
  go_enter Try.func13, Try.ntmps13
  go_wp2
  go_ret
  exact ⟨rfl, rfl⟩

/-! slices.Clone of bytes -/
/-- What a slice of bytes reads as. -/
def RdB (w : World) (v : Value) (l : List Int) : Prop := ∃ A c, v = .slice A l.length c ∧ (0 < l.length → ∃ ad, A = some ad ∧ ∀ (j : Nat) (x : Int), l[j]? = some x → w.cell? (ad.add j) = some (.int .u8 x))
theorem eql25 (a : Option Addr) (n c : Nat) (w : World) : (binOp .eql 25 (.slice a n c) (.slice none 0 0)).run Try.prog w = .ok (.bool a.isNone) w := by
  simp only [binOp]
  simp [Op.equal, Op.maxDepth, Lib.run_equalIn_slice_nil w 9999 25 5 a n c 0 0 Try.underlying25]
theorem clone_nil (c : Nat) (w : World) : Calls Try.prog 34 #[.slice none 0 c] w fun e w' => e = .returned (.slice none 0 0) ∧ w = w' := by
  have hq := fun w => eql25 none 0 c w
  go_enter Try.func34, Try.ntmps34
  go_wp2
  go_ret
  exact ⟨rfl, rfl⟩
set_option maxHeartbeats 1000000 in
theorem clone_some (ad : Addr) (c : Nat) (l : List Int) (w : World) (h : ∀ (j : Nat) (x : Int), l[j]? = some x → w.cell? (ad.add j) = some (.int .u8 x)) (hn : l.length ≤ 1000000000) :
    Calls Try.prog 34 #[.slice (some ad) l.length c] w fun e w' => ∃ v, e = .returned v ∧ w'.ownsRow w.heap.size 5 1 v l.length (nums .u8 l) ∧ Below w.heap.size w w' := by
  obtain ⟨i0, hi, hz0, hz1, hz2⟩ := info_parts infoByte
  have hq := fun w => eql25 (some ad) l.length c w
  have HC := Aside0.mk h
  obtain ⟨L, hL⟩ : ∃ L : Nat, L = l.length := ⟨_, rfl⟩
  have HL := Aside0.mk hL
  have hL1 : L ≤ 1000000000 := by omega
  rw [← hL] at hq ⊢
  clear h hL hn
  go_enter Try.func34, Try.ntmps34
  go_wp2_with (at_builtin; refine wpList_append_own _ rfl _ _ 25 rfl w.heap.size 5 i0 (.int .u8 0) 1 1 Try.underlying25 hi hz0 hz1 hz2 rfl (by decide) _ _ _ rfl (World.ownsRow_made w #[] 0 (Nat.le_refl _) (Nat.zero_le _) rfl) ad L c (nums .u8 l) rfl ?c0 ?c1 ?c2 ?c3 ?c4 ?c5 ?_)
  case c0 => rw [nums_length, HL.out]; omega
  case c1 =>
    intro j u hj
    unfold nums at hj
    rw [List.getElem?_map] at hj
    obtain ⟨x, hx, rfl⟩ := Option.map_eq_some_iff.1 hj
    have := HC.out j x hx
    rw [World.cell?_alloc_lt _ _ _ (World.block_lt_of_cell? w _ this)]
    exact this
  case c2 =>
    intro u hu
    obtain ⟨x, _, rfl⟩ := List.mem_map.1 hu
    rfl
  case c3 => unfold maxLen; omega
  case c4 => omega
  case c5 => simp
  intro v' w1 hown' hgrow _
  have HO := Aside0.mk hown'
  have HB := Aside0.mk (((Below.refl w.heap.size w).alloc (Nat.le_refl _) (Obj.cells #[] 5)).grown hgrow (by simp) (fun k hk => by simp [Value.ownBlock] at hk; omega))
  clear hown' hgrow
  go_wp2
  go_ret
  refine ⟨_, rfl, ?_, HB.out⟩
  have := HO.out
  simpa using this
end Go.Proofs.Ytfanomllfgoakaa
