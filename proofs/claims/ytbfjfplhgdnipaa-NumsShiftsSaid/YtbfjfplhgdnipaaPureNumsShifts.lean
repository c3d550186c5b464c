/- A number shifted is doubled, or halved, so often, one by one, brought into the bounds each time. No condition. -/
import Derived.Test.YtbfjfplhgdnipaaHNumsShiftsx1
import Derived.Test.YtbfjfplhgdnipaaMath
namespace Go.Proofs.Ytbfjfplhgdnipaa.Pure
open Go.RowKit Go.Proofs.Ytbfjfplhgdnipaa.HNumsShifts Go.Proofs.YtbfjfplhgdnipaaW.PrintWords Go.Proofs.YtbfjfplhgdnipaaW.PrintLast Go.Proofs.YtbfjfplhgdnipaaW.PrintMore

namespace NumsShiftsPure

theorem beq_lt (x y : Int) : ((decide (x < 0)) == (decide (y < 0))) = true ↔ (x < 0 ↔ y < 0) := by
  by_cases h : x < 0 <;> by_cases h' : y < 0 <;> simp [h, h']
theorem bne_lt (x y : Int) : ((decide (x < 0)) != (decide (y < 0))) = true ↔ ¬ (x < 0 ↔ y < 0) := by
  by_cases h : x < 0 <;> by_cases h' : y < 0 <;> simp [h, h']
theorem end_is (b : Bool) : nums_end.f b = some (if b = true then -9223372036854775808 else 9223372036854775807) := by
  unfold nums_end.f
  cases b <;> rfl
theorem add_is (a b : Int) (ha : In64 a) (hb : In64 b) : nums_Add.f a b = some (clamp (a + b)) := by
  unfold In64 at ha hb
  have hw : wrap64 (IntKind.u64.wrap (IntKind.u64.wrap a + IntKind.u64.wrap b)) = wrap64 (a + b) := by
    rw [u64w, u64w, u64w]
    unfold wrap64
    omega
  unfold nums_Add.f clamp
  rw [hw]
  simp only [beq_lt, bne_lt, end_is]
  by_cases c1 : a < 0 ↔ b < 0
  · rw [if_pos c1]
    by_cases c2 : ¬ (wrap64 (a + b) < 0 ↔ a < 0)
    · rw [if_pos c2]
      by_cases c3 : a < 0
      · rw [if_pos (decide_eq_true c3)]
        simp only [Option.bind_some]
        congr 1
        unfold wrap64 at c2
        rw [if_neg (by omega), if_pos (by omega)]
      · rw [if_neg (by simpa using c3)]
        simp only [Option.bind_some]
        congr 1
        unfold wrap64 at c2
        rw [if_pos (by omega)]
    · rw [if_neg c2]
      congr 1
      unfold wrap64 at c2 ⊢
      by_cases c3 : a < 0
      · rw [if_neg (by omega), if_neg (by omega)]; omega
      · rw [if_neg (by omega), if_neg (by omega)]; omega
  · rw [if_neg c1]
    congr 1
    unfold wrap64
    rw [if_neg (by omega), if_neg (by omega)]
    omega

theorem sum_is (a b : Int) (ha : In64 a) (hb : In64 b) (k : Nat) : catacomblaw01_Sum.f (k + 1) a b = some (clamp (a + b)) := by
  unfold In64 at ha hb
  unfold catacomblaw01_Sum.f clamp
  simp only [catacomblaw01_Sum.j0]
  by_cases h : b > 0
  · rw [if_pos h]
    have hw : wrap64 (9223372036854775807 - b) = 9223372036854775807 - b := by unfold wrap64; omega
    rw [hw]
    by_cases h1 : a > 9223372036854775807 - b
    · rw [if_pos (decide_eq_true h1), if_pos (by omega)]
    · rw [if_neg (by simpa using h1), if_neg (by omega), if_neg (by omega), if_neg (by omega)]
      congr 1
      unfold wrap64
      omega
  · rw [if_neg h, if_neg (by simp)]
    by_cases h0 : b < 0
    · have hw : wrap64 (-9223372036854775808 - b) = -9223372036854775808 - b := by unfold wrap64; omega
      rw [if_pos h0, hw]
      by_cases h1 : a < -9223372036854775808 - b
      · rw [if_pos h1, if_neg (by omega), if_pos (by omega)]
      · rw [if_neg h1, if_neg (by omega), if_neg (by omega)]
        congr 1
        unfold wrap64
        omega
    · rw [if_neg h0, if_neg (by omega), if_neg (by omega)]
      congr 1
      unfold wrap64
      omega

theorem lives_is : catacomblaw01_lives.f = some true := by decide +kernel

theorem half_neg (w : Int) (hw : In64 w) (h : w < 0) : (if (Int.tmod w 2) = 0 then wrap64 (Int.tdiv w 2) else wrap64 (wrap64 (Int.tdiv w 2) - 1)) = w / 2 := by
  unfold In64 at hw
  have e1 := Int.tdiv_eq_ediv (a := w) (b := 2)
  have e2 : Int.tmod w 2 = w - 2 * Int.tdiv w 2 := Int.tmod_def w 2
  have hd : (2 ∣ w) ↔ w % 2 = 0 := by omega
  rw [Int.sign_eq_one_of_pos (by decide)] at e1
  by_cases c : 2 ∣ w
  · rw [if_pos (.inr c)] at e1
    rw [e2, e1]
    have := hd.1 c
    rw [if_pos (by omega)]
    unfold wrap64
    omega
  · rw [if_neg (by omega)] at e1
    rw [e2, e1]
    rw [if_neg (by omega)]
    unfold wrap64
    omega
theorem half_pos (w : Int) (hw : In64 w) (h : ¬ w < 0) : wrap64 (Int.tdiv w 2) = w / 2 := by
  unfold In64 at hw
  rw [Int.tdiv_eq_ediv_of_nonneg (by omega)]
  unfold wrap64
  omega
theorem half_in (w : Int) (hw : In64 w) : In64 (w / 2) := by
  unfold In64 at hw ⊢
  omega
/-- So many rounds of halving. -/
theorem l1_is (a by_ g : Int) (hb : In64 by_) (hS : nums_Shift.f a by_ = some g) : ∀ (d k : Nat) (w i : Int), In64 w → 0 ≤ i → i + d = (if by_ < 0 then (if by_ < -70 then 70 else -by_) else 0) → w / 2 ^ d = g → 2 * d + 1 < k →
    catacomblaw01_NumsShifts.l1 k a by_ w i = some true := by
  intro d
  unfold In64 at hb
  have hm : wrap64 (-(mx by_ (-100))) = if by_ < -100 then 100 else -by_ := by
    unfold mx wrap64
    by_cases c : by_ < -100
    · rw [if_pos c, if_pos c]; omega
    · rw [if_neg c, if_neg c]; omega
  induction d with
  | zero =>
    intro k w i hw h0 h1 he hk
    obtain ⟨k, rfl⟩ : ∃ m, k = m + 1 + 1 := ⟨k - 2, by omega⟩
    simp at he
    have tail : catacomblaw01_NumsShifts.j3 (k + 1) a by_ w i false = some true := by
      simp only [catacomblaw01_NumsShifts.j3]
      rw [if_neg (by simp), hS, he]
      simp
    conv => lhs; unfold catacomblaw01_NumsShifts.l1
    rw [hm]
    by_cases c : i < 70
    · rw [if_pos c, if_pos (by omega)]
      have : decide (i < if by_ < -100 then 100 else -by_) = false := by
        apply decide_eq_false
        split at h1
        · split at h1 <;> (try split) <;> omega
        · split <;> omega
      rw [this]
      exact tail
    · rw [if_neg c]
      exact tail
  | succ d ih =>
    intro k w i hw h0 h1 he hk
    obtain ⟨k, rfl⟩ : ∃ m, k = m + 1 + 1 := ⟨k - 2, by omega⟩
    have hi : i < 70 ∧ by_ < 0 := by
      split at h1
      · split at h1 <;> omega
      · omega
    conv => lhs; unfold catacomblaw01_NumsShifts.l1
    rw [hm, if_pos hi.1, if_pos (by omega)]
    have ht : decide (i < if by_ < -100 then 100 else -by_) = true := by
      apply decide_eq_true
      split at h1
      · split at h1 <;> split <;> omega
      · omega
    rw [ht]
    simp only [catacomblaw01_NumsShifts.j3]
    have hwr : wrap64 (i + 1) = i + 1 := by unfold wrap64; omega
    have he' : w / 2 / 2 ^ d = g := by
      rw [← he, Int.ediv_ediv_of_nonneg (by decide), Int.pow_succ, Int.mul_comm]
    have hnext := ih k (w / 2) (i + 1) (half_in w hw) (by omega) (by omega) he' (by omega)
    rw [if_pos trivial, hwr]
    by_cases c : w < 0
    · have hh := half_neg w hw c
      rw [if_pos c]
      by_cases c2 : Int.tmod w 2 = 0
      · rw [if_pos c2] at hh ⊢
        rw [hh]
        exact hnext
      · rw [if_neg c2] at hh ⊢
        rw [hh]
        exact hnext
    · rw [if_neg c, half_pos w hw c]
      exact hnext
/-- So many rounds of doubling. -/
theorem l0_is (a by_ g : Int) (hb : In64 by_) (hS : nums_Shift.f a by_ = some g) : ∀ (d k : Nat) (w i : Int), In64 w → 0 ≤ i → i + d = (if by_ > 70 then 70 else if by_ > 0 then by_ else 0) → (by_ > 0 → clamp (w * 2 ^ d) = g) → (by_ ≤ 0 → w = a) → (by_ ≤ 0 → a / 2 ^ (if by_ < 0 then (if by_ < -70 then 70 else -by_) else 0).toNat = g) → d + 200 < k →
    catacomblaw01_NumsShifts.l0 k a by_ w i = some true := by
  intro d
  have hb' := hb
  unfold In64 at hb
  induction d with
  | zero =>
    intro k w i hw h0 h1 he hwa hneg hk
    obtain ⟨k, rfl⟩ : ∃ m, k = m + 1 + 1 := ⟨k - 2, by omega⟩
    have next : catacomblaw01_NumsShifts.j1 (k + 1) a by_ w = some true := by
      simp only [catacomblaw01_NumsShifts.j1]
      by_cases c : by_ > 0
      · have e := he c
        simp at e
        rw [clamp_id hw] at e
        refine l1_is a by_ g hb' hS 0 k w 0 hw (by omega) (by rw [if_neg (by omega)]; rfl) (by simpa using e) (by omega)
      · have e := hneg (by omega)
        rw [← hwa (by omega)] at e
        refine l1_is a by_ g hb' hS _ k w 0 hw (by omega) ?_ e ?_
        · split
          · split <;> omega
          · omega
        · split
          · split <;> omega
          · omega
    conv => lhs; unfold catacomblaw01_NumsShifts.l0
    by_cases c : i < 70
    · rw [if_pos c]
      have : ¬ i < by_ := by
        split at h1
        · omega
        · split at h1 <;> omega
      rw [if_neg this]
      exact next
    · rw [if_neg c]
      exact next
  | succ d ih =>
    intro k w i hw h0 h1 he hwa hneg hk
    obtain ⟨k, rfl⟩ : ∃ m, k = m + 1 + 1 := ⟨k - 2, by omega⟩
    have hi : i < 70 ∧ i < by_ := by
      split at h1
      · omega
      · split at h1 <;> omega
    conv => lhs; unfold catacomblaw01_NumsShifts.l0
    rw [if_pos hi.1, if_pos hi.2, sum_is w w hw hw k]
    simp only [Option.bind_some]
    have hwr : wrap64 (i + 1) = i + 1 := by unfold wrap64; omega
    rw [hwr]
    refine ih (k + 1) _ (i + 1) (clamp_in _) (by omega) (by omega) ?_ (by omega) hneg (by omega)
    intro c
    have e := he c
    rw [← e]
    have dbl : ∀ (n : Nat) (x : Int), clamp (clamp x * 2 ^ n) = clamp (x * 2 ^ n) := by
      intro n
      induction n with
      | zero => intro x; simp only [Int.pow_zero, Int.mul_one]; exact clamp_id (clamp_in x)
      | succ n ihn =>
        intro x
        have e1 : ∀ y : Int, y * 2 ^ (n + 1) = (y + y) * 2 ^ n := by
          intro y
          rw [Int.pow_succ, ← Int.mul_assoc, Int.mul_comm (y * 2 ^ n) 2, Int.add_mul]
          omega
        rw [e1, e1, ← ihn (clamp x + clamp x), clamp_twice, ihn]
    rw [dbl]
    congr 1
    rw [Int.pow_succ, ← Int.mul_assoc, Int.mul_comm (w * 2 ^ d) 2, Int.add_mul]
    omega
theorem pow_le63 (n : Nat) (h : n ≤ 63) : (2 : Int) ^ n ≤ 9223372036854775808 := by
  have : (2 : Nat) ^ n ≤ 2 ^ 63 := Nat.pow_le_pow_right (by decide) h
  have h2 : ((2 ^ n : Nat) : Int) ≤ ((2 ^ 63 : Nat) : Int) := Int.ofNat_le.2 this
  rw [Int.natCast_pow, Int.natCast_pow] at h2
  have h3 : ((2 : Nat) : Int) ^ 63 = 9223372036854775808 := by decide
  rw [h3] at h2
  exact h2
/-- Shift up by at most 63. -/
theorem double_is (a : Int) (n : Nat) (ha : In64 a) (hn : n ≤ 63) : nums_double.f a n = some (clamp (a * 2 ^ n)) := by
  unfold nums_double.f
  rw [if_pos (by omega)]
  have hmin : min (n : Int).toNat IntKind.i64.bits = n := by
    rw [Int.toNat_natCast]
    exact Nat.min_eq_left (by show n ≤ 64; omega)
  have hshl : shl .i64 a (n : Int) = wrap64 (a * 2 ^ n) := by
    unfold shl
    rw [hmin, IntKind.wrap_i64, wrap64]
  have hshr : ∀ x : Int, shr .i64 x (n : Int) = x / 2 ^ n := by
    intro x
    unfold shr
    rw [hmin]
  rw [hshl, hshr]
  have hp := pow_pos2 n
  have hp2 := pow_le63 n hn
  by_cases hin : In64 (a * 2 ^ n)
  · rw [w64 hin, clamp_id hin, Int.mul_ediv_cancel _ (by omega), if_pos rfl]
  · have hne : ¬ (wrap64 (a * 2 ^ n) / 2 ^ n = a) := by
      intro h
      have h1 := Int.ediv_mul_le (wrap64 (a * 2 ^ n)) (show (2 : Int) ^ n ≠ 0 by omega)
      have h2 := Int.lt_ediv_add_one_mul_self (wrap64 (a * 2 ^ n)) hp
      rw [h] at h1 h2
      rw [Int.add_mul, Int.one_mul] at h2
      generalize a * 2 ^ n = p at h1 h2 hin
      generalize (2 : Int) ^ n = q at h2 hp hp2
      unfold In64 at hin
      unfold wrap64 at h1 h2
      omega
    rw [if_neg hne, end_is]
    simp only [Option.bind_some]
    congr 1
    unfold clamp
    unfold In64 at hin ha
    by_cases c : a < 0
    · have : a * 2 ^ n ≤ 0 := by
        have := Int.mul_le_mul_of_nonneg_right (show a ≤ 0 by omega) (show (0 : Int) ≤ 2 ^ n by omega)
        omega
      rw [if_pos (by simpa using c), if_neg (by omega), if_pos (by omega)]
    · have : 0 ≤ a * 2 ^ n := Int.mul_nonneg (by omega) (by omega)
      rw [if_neg (by simpa using c), if_pos (by omega)]
theorem shr_is (a : Int) (n : Nat) (hn : n ≤ 63) : shr .i64 a (n : Int) = a / 2 ^ n := by
  have hmin : min (n : Int).toNat IntKind.i64.bits = n := by
    rw [Int.toNat_natCast]
    exact Nat.min_eq_left (by show n ≤ 64; omega)
  unfold shr
  rw [hmin]
/-- What Shift answers. -/
theorem shift_is (a b : Int) (ha : In64 a) (hb : In64 b) : ∃ g, nums_Shift.f a b = some g ∧
    (b > 0 → clamp (a * 2 ^ (if b > 70 then 70 else if b > 0 then b else 0).toNat) = g) ∧ (b ≤ 0 → a / 2 ^ (if b < 0 then (if b < -70 then 70 else -b) else 0).toNat = g) := by
  have ha' := ha
  have hb' := hb
  unfold In64 at ha hb
  unfold nums_Shift.f
  by_cases c1 : b < -63
  · rw [if_pos c1]
    refine ⟨_, rfl, fun h => by omega, fun _ => ?_⟩
    have hN : 64 ≤ (if b < 0 then (if b < -70 then 70 else -b) else 0).toNat := by
      rw [if_pos (by omega)]
      split <;> omega
    generalize (if b < 0 then (if b < -70 then 70 else -b) else 0).toNat = n at hN
    have hp : (9223372036854775808 : Int) < 2 ^ n := by
      have : (2 : Nat) ^ 64 ≤ 2 ^ n := Nat.pow_le_pow_right (by decide) hN
      have h2 : ((2 ^ 64 : Nat) : Int) ≤ ((2 ^ n : Nat) : Int) := Int.ofNat_le.2 this
      rw [Int.natCast_pow, Int.natCast_pow] at h2
      have h3 : ((2 : Nat) : Int) ^ 64 = 18446744073709551616 := by decide
      rw [h3] at h2
      have h4 : ((2 : Nat) : Int) = 2 := rfl
      rw [h4] at h2
      omega
    by_cases c : a < 0
    · have e1 : a / 9223372036854775808 = -1 := by omega
      rw [e1]
      exact (Int.ediv_eq_iff_of_pos (by omega)).2 (by omega)
    · have e1 : a / 9223372036854775808 = 0 := by omega
      rw [e1]
      exact Int.ediv_eq_zero_of_lt (by omega) (by omega)
  · rw [if_neg c1]
    by_cases c2 : b < 0
    · rw [if_pos c2]
      have hw : IntKind.u64.wrap (wrap64 (-b)) = ((-b).toNat : Int) := by
        rw [u64w]
        unfold wrap64
        omega
      rw [hw, if_pos (by omega), shr_is a _ (by omega)]
      refine ⟨_, rfl, fun h => by omega, fun _ => ?_⟩
      rw [if_pos c2, if_neg (by omega)]
    · rw [if_neg c2]
      by_cases c3 : a = 0
      · rw [if_pos c3]
        refine ⟨_, rfl, fun _ => ?_, fun h => ?_⟩
        · rw [c3, Int.zero_mul]; decide
        · rw [c3]; simp
      · rw [if_neg c3]
        by_cases c4 : b > 63
        · rw [if_pos c4, end_is]
          refine ⟨_, rfl, fun _ => ?_, fun h => by omega⟩
          have hN : 64 ≤ (if b > 70 then 70 else if b > 0 then b else 0).toNat := by
            split
            · omega
            · omega
          generalize (if b > 70 then 70 else if b > 0 then b else 0).toNat = n at hN
          have hp : (18446744073709551616 : Int) ≤ 2 ^ n := by
            have : (2 : Nat) ^ 64 ≤ 2 ^ n := Nat.pow_le_pow_right (by decide) hN
            have h2 : ((2 ^ 64 : Nat) : Int) ≤ ((2 ^ n : Nat) : Int) := Int.ofNat_le.2 this
            rw [Int.natCast_pow, Int.natCast_pow] at h2
            have h3 : ((2 : Nat) : Int) ^ 64 = 18446744073709551616 := by decide
            rw [h3] at h2
            exact h2
          unfold clamp
          by_cases c : a < 0
          · have h1 := Int.mul_le_mul_of_nonneg_right (show a ≤ -1 by omega) (show (0 : Int) ≤ 2 ^ n by omega)
            rw [if_neg (by omega), if_pos (by omega), if_pos (by simpa using c)]
          · have h1 := Int.mul_le_mul_of_nonneg_right (show 1 ≤ a by omega) (show (0 : Int) ≤ 2 ^ n by omega)
            rw [if_pos (by omega), if_neg (by simpa using c)]
        · rw [if_neg c4]
          have hw : IntKind.u64.wrap b = (b.toNat : Int) := by
            rw [u64w]
            omega
          rw [hw, double_is a _ ha' (by omega)]
          refine ⟨_, rfl, fun h => ?_, fun h => ?_⟩
          · rw [if_neg (by omega), if_pos h]
          · have : b = 0 := by omega
            rw [this]
            simp
            exact (clamp_id ha').symm
theorem law : catacomblaw01_NumsShifts.Pure := by
  intro a b hwa hwb
  have ha := in64 hwa
  have hb := in64 hwb
  obtain ⟨g, hS, h1, h2⟩ := shift_is a b ha hb
  refine ⟨400, ?_⟩
  unfold catacomblaw01_NumsShifts.f
  rw [lives_is]
  simp only [Option.bind_some, if_true]
  refine l0_is a b g hb hS (if b > 70 then 70 else if b > 0 then b else 0).toNat 400 a 0 ha (by omega) ?_ h1 (fun _ => rfl) h2 ?_
  · split
    · rfl
    · split <;> omega
  · split
    · omega
    · split <;> omega

end NumsShiftsPure

theorem NumsShifts : catacomblaw01_NumsShifts.Pure := NumsShiftsPure.law

end Go.Proofs.Ytbfjfplhgdnipaa.Pure
