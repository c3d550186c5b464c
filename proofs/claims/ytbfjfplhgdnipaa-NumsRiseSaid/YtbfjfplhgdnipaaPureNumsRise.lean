/- Sums, and products with a number of at least 0, of a greater number aren't less; a sum, and a product, is the same both ways. No condition. -/
import Derived.Test.YtbfjfplhgdnipaaHNumsRisex1
import Derived.Test.YtbfjfplhgdnipaaMath
namespace Go.Proofs.Ytbfjfplhgdnipaa.Pure
open Go.RowKit Go.Proofs.Ytbfjfplhgdnipaa.HNumsRise Go.Proofs.YtbfjfplhgdnipaaW.PrintWords Go.Proofs.YtbfjfplhgdnipaaW.PrintLast Go.Proofs.YtbfjfplhgdnipaaW.PrintMore

namespace NumsRisePure

theorem beq_lt (x y : Int) : ((decide (x < 0)) == (decide (y < 0))) = true ↔ (x < 0 ↔ y < 0) := by
  by_cases h : x < 0 <;> by_cases h' : y < 0 <;> simp [h, h']
theorem bne_lt (x y : Int) : ((decide (x < 0)) != (decide (y < 0))) = true ↔ ¬ (x < 0 ↔ y < 0) := by
  by_cases h : x < 0 <;> by_cases h' : y < 0 <;> simp [h, h']
theorem end_is (b : Bool) : nums_end.f b = some (if b = true then -9223372036854775808 else 9223372036854775807) := by
  unfold nums_end.f
  cases b <;> rfl
theorem add_is (a b : Int) (ha : In64 a) (hb : In64 b) : nums_Add.f a b = some (clamp (a + b)) := by
  unfold In64 at ha hb
  have hw : wrap64 (IntKind.u64.wrap (IntKind.u64.wrap a + IntKind.u64.wrap b)) = wrap64 (a + b) := by
    rw [u64w, u64w, u64w]
    unfold wrap64
    omega
  unfold nums_Add.f clamp
  rw [hw]
  simp only [beq_lt, bne_lt, end_is]
  by_cases c1 : a < 0 ↔ b < 0
  · rw [if_pos c1]
    by_cases c2 : ¬ (wrap64 (a + b) < 0 ↔ a < 0)
    · rw [if_pos c2]
      by_cases c3 : a < 0
      · rw [if_pos (decide_eq_true c3)]
        simp only [Option.bind_some]
        congr 1
        unfold wrap64 at c2
        rw [if_neg (by omega), if_pos (by omega)]
      · rw [if_neg (by simpa using c3)]
        simp only [Option.bind_some]
        congr 1
        unfold wrap64 at c2
        rw [if_pos (by omega)]
    · rw [if_neg c2]
      congr 1
      unfold wrap64 at c2 ⊢
      by_cases c3 : a < 0
      · rw [if_neg (by omega), if_neg (by omega)]; omega
      · rw [if_neg (by omega), if_neg (by omega)]; omega
  · rw [if_neg c1]
    congr 1
    unfold wrap64
    rw [if_neg (by omega), if_neg (by omega)]
    omega

theorem sub_is (a b : Int) (ha : In64 a) (hb : In64 b) : nums_Sub.f a b = some (clamp (a - b)) := by
  unfold In64 at ha hb
  have hw : wrap64 (IntKind.u64.wrap (IntKind.u64.wrap a - IntKind.u64.wrap b)) = wrap64 (a - b) := by
    rw [u64w, u64w, u64w]
    unfold wrap64
    omega
  unfold nums_Sub.f clamp
  rw [hw]
  simp only [bne_lt, end_is]
  by_cases c1 : a < 0 ↔ b < 0
  · rw [if_neg (by simpa using c1)]
    congr 1
    unfold wrap64
    rw [if_neg (by omega), if_neg (by omega)]
    omega
  · rw [if_pos c1]
    by_cases c2 : ¬ (wrap64 (a - b) < 0 ↔ a < 0)
    · rw [if_pos c2]
      by_cases c3 : a < 0
      · rw [if_pos (decide_eq_true c3)]
        simp only [Option.bind_some]
        congr 1
        unfold wrap64 at c2
        rw [if_neg (by omega), if_pos (by omega)]
      · rw [if_neg (by simpa using c3)]
        simp only [Option.bind_some]
        congr 1
        unfold wrap64 at c2
        rw [if_pos (by omega)]
    · rw [if_neg c2]
      congr 1
      unfold wrap64 at c2 ⊢
      by_cases c3 : a < 0
      · rw [if_neg (by omega), if_neg (by omega)]; omega
      · rw [if_neg (by omega), if_neg (by omega)]; omega

theorem abs_is (a : Int) (ha : In64 a) : nums_abs.f a = some (if a < 0 then -a else a) := by
  unfold In64 at ha
  unfold nums_abs.f
  by_cases h : a < 0
  · rw [if_pos h, if_pos h, u64w, u64w]
    congr 1
    omega
  · rw [if_neg h, if_neg h, u64w]
    congr 1
    omega
theorem mul64_is (x y : Int) (hx : 0 ≤ x ∧ x ≤ 9223372036854775808) (hy : 0 ≤ y ∧ y ≤ 9223372036854775808) : bits_Mul64.f x y = some (x * y / 18446744073709551616, x * y % 18446744073709551616) := by
  unfold bits_Mul64.f
  rw [mul_high x y hx.1 (by omega) hy.1 (by omega), u64w]
theorem signed_yes (x : Int) (hx : 0 ≤ x ∧ x < 18446744073709551616) (k : Nat) : nums_signed.f (k + 1) x true = some (clamp (-x)) := by
  unfold nums_signed.f clamp
  simp only [nums_signed.j0]
  rw [if_pos trivial]
  by_cases h : x ≥ 9223372036854775808
  · rw [if_pos (decide_eq_true h), if_neg (by omega)]
    congr 1
    by_cases h1 : -x < -9223372036854775808
    · rw [if_pos h1]
    · rw [if_neg h1]; omega
  · rw [if_neg (by simpa using h)]
    simp only [if_true]
    rw [if_neg (by omega), if_neg (by omega)]
    congr 1
    unfold wrap64
    omega
theorem signed_no (x : Int) (hx : 0 ≤ x ∧ x < 18446744073709551616) (k : Nat) : nums_signed.f (k + 1) x false = some (clamp x) := by
  unfold nums_signed.f clamp
  simp only [nums_signed.j0]
  simp only [Bool.false_eq_true, if_false]
  by_cases h : x ≥ 9223372036854775808
  · rw [if_pos h, if_pos (by omega)]
  · rw [if_neg h, if_neg (by omega), if_neg (by omega)]
    congr 1
    unfold wrap64
    omega
theorem signed_is (x : Int) (b : Bool) (hx : 0 ≤ x ∧ x < 18446744073709551616) (k : Nat) : nums_signed.f (k + 1) x b = some (clamp (if b = true then -x else x)) := by
  cases b with
  | true => exact signed_yes x hx k
  | false => exact signed_no x hx k
/-- The product is the whole product, brought into its bounds. -/
theorem mul_is (a b : Int) (ha : In64 a) (hb : In64 b) (k : Nat) : nums_Mul.f (k + 1) a b = some (clamp (a * b)) := by
  unfold nums_Mul.f
  rw [abs_is a ha, abs_is b hb]
  simp only [Option.bind_some]
  have ha' : 0 ≤ (if a < 0 then -a else a) ∧ (if a < 0 then -a else a) ≤ 9223372036854775808 := by
    unfold In64 at ha
    split <;> omega
  have hb' : 0 ≤ (if b < 0 then -b else b) ∧ (if b < 0 then -b else b) ≤ 9223372036854775808 := by
    unfold In64 at hb
    split <;> omega
  rw [mul64_is _ _ ha' hb']
  simp only [Option.bind_some]
  have hp : 0 ≤ (if a < 0 then -a else a) * (if b < 0 then -b else b) := Int.mul_nonneg ha'.1 hb'.1
  have hs : a * b = if ((decide (a < 0)) != (decide (b < 0))) = true then -((if a < 0 then -a else a) * (if b < 0 then -b else b)) else (if a < 0 then -a else a) * (if b < 0 then -b else b) := by
    by_cases h1 : a < 0 <;> by_cases h2 : b < 0 <;> simp [h1, h2, Int.neg_mul, Int.mul_neg]
  rw [hs]
  generalize (if a < 0 then -a else a) * (if b < 0 then -b else b) = p at hp
  generalize ((decide (a < 0)) != (decide (b < 0))) = s
  by_cases h : p / 18446744073709551616 > 0
  · rw [if_pos h, end_is]
    simp only [Option.bind_some]
    congr 1
    unfold clamp
    cases s with
    | true => show (-9223372036854775808 : Int) = if -p > 9223372036854775807 then 9223372036854775807 else if -p < -9223372036854775808 then -9223372036854775808 else -p; rw [if_neg (by omega), if_pos (by omega)]
    | false => show (9223372036854775807 : Int) = if p > 9223372036854775807 then 9223372036854775807 else if p < -9223372036854775808 then -9223372036854775808 else p; rw [if_pos (by omega)]
  · rw [if_neg h, signed_is _ _ (by omega)]
    simp only [Option.bind_some]
    have : p % 18446744073709551616 = p := by omega
    rw [this]

theorem lives_is : catacomblaw01_lives.f = some true := by decide +kernel

theorem rise (a b c : Int) (hab : a ≤ b) (ha : In64 a) (hb : In64 b) (hc : In64 c) (k : Nat) : catacomblaw01_NumsRise.j0 (k + 3) a b c = some true := by
  simp only [catacomblaw01_NumsRise.j0]
  rw [add_is a c ha hc, add_is b c hb hc, sub_is a c ha hc, sub_is b c hb hc, add_is a b ha hb, add_is b a hb ha, mul_is a b ha hb (k + 1), mul_is b a hb ha (k + 1)]
  simp only [Option.bind_some]
  have m1 : ¬ (clamp (a + c) > clamp (b + c)) := by have := clamp_mono (show a + c ≤ b + c by omega); omega
  have m2 : ¬ (clamp (a - c) > clamp (b - c)) := by have := clamp_mono (show a - c ≤ b - c by omega); omega
  rw [if_neg m1, if_neg m2, if_pos (by rw [Int.add_comm]), Int.mul_comm b a, bne_self_eq_false]
  simp only [catacomblaw01_NumsRise.j1]
  rw [if_neg (by simp)]
  by_cases h : c < 0
  · rw [if_pos h]
  · rw [if_neg h, mul_is a c ha hc k, mul_is b c hb hc k]
    simp only [Option.bind_some]
    have := clamp_mono (Int.mul_le_mul_of_nonneg_right hab (show 0 ≤ c by omega))
    rw [decide_eq_true this]
theorem law : catacomblaw01_NumsRise.Pure := by
  intro a b c hwa hwb hwc
  have ha := in64 hwa
  have hb := in64 hwb
  have hc := in64 hwc
  refine ⟨10, ?_⟩
  unfold catacomblaw01_NumsRise.f
  rw [lives_is]
  simp only [Option.bind_some, if_true]
  by_cases h : a > b
  · rw [if_pos h]
    exact rise b a c (by omega) hb ha hc 7
  · rw [if_neg h]
    exact rise a b c (by omega) ha hb hc 7

end NumsRisePure

theorem NumsRise : catacomblaw01_NumsRise.Pure := NumsRisePure.law

end Go.Proofs.Ytbfjfplhgdnipaa.Pure
