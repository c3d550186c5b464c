/- A product of any two numbers of 64 bits is the true one, or the bound that is nearest to it; told by dividing. No condition. -/
import Derived.Test.YtbfjfplhgdnipaaMuls
import Derived.Test.YtbfjfplhgdnipaaMath
namespace Go.Proofs.Ytbfjfplhgdnipaa
open Go.RowKit Go.Proofs.Ytbfjfplhgdnipaa.HNumsMuls Go.Proofs.YtbfjfplhgdnipaaW.PrintWords Go.Proofs.YtbfjfplhgdnipaaW.PrintLast Go.Proofs.YtbfjfplhgdnipaaW.PrintMore

namespace NumsMulsPure

theorem beq_lt (x y : Int) : ((decide (x < 0)) == (decide (y < 0))) = true ↔ (x < 0 ↔ y < 0) := by
  by_cases h : x < 0 <;> by_cases h' : y < 0 <;> simp [h, h']
theorem bne_lt (x y : Int) : ((decide (x < 0)) != (decide (y < 0))) = true ↔ ¬ (x < 0 ↔ y < 0) := by
  by_cases h : x < 0 <;> by_cases h' : y < 0 <;> simp [h, h']
theorem end_is (b : Bool) : nums_end.f b = some (if b = true then -9223372036854775808 else 9223372036854775807) := by
  unfold nums_end.f
  cases b <;> rfl
theorem add_is (a b : Int) (ha : In64 a) (hb : In64 b) : nums_Add.f a b = some (clamp (a + b)) := by
  unfold In64 at ha hb
  have hw : wrap64 (IntKind.u64.wrap (IntKind.u64.wrap a + IntKind.u64.wrap b)) = wrap64 (a + b) := by
    rw [u64w, u64w, u64w]
    unfold wrap64
    omega
  unfold nums_Add.f clamp
  rw [hw]
  simp only [beq_lt, bne_lt, end_is]
  by_cases c1 : a < 0 ↔ b < 0
  · rw [if_pos c1]
    by_cases c2 : ¬ (wrap64 (a + b) < 0 ↔ a < 0)
    · rw [if_pos c2]
      by_cases c3 : a < 0
      · rw [if_pos (decide_eq_true c3)]
        simp only [Option.bind_some]
        congr 1
        unfold wrap64 at c2
        rw [if_neg (by omega), if_pos (by omega)]
      · rw [if_neg (by simpa using c3)]
        simp only [Option.bind_some]
        congr 1
        unfold wrap64 at c2
        rw [if_pos (by omega)]
    · rw [if_neg c2]
      congr 1
      unfold wrap64 at c2 ⊢
      by_cases c3 : a < 0
      · rw [if_neg (by omega), if_neg (by omega)]; omega
      · rw [if_neg (by omega), if_neg (by omega)]; omega
  · rw [if_neg c1]
    congr 1
    unfold wrap64
    rw [if_neg (by omega), if_neg (by omega)]
    omega

theorem abs_is (a : Int) (ha : In64 a) : nums_abs.f a = some (if a < 0 then -a else a) := by
  unfold In64 at ha
  unfold nums_abs.f
  by_cases h : a < 0
  · rw [if_pos h, if_pos h, u64w, u64w]
    congr 1
    omega
  · rw [if_neg h, if_neg h, u64w]
    congr 1
    omega
theorem mul64_is (x y : Int) (hx : 0 ≤ x ∧ x ≤ 9223372036854775808) (hy : 0 ≤ y ∧ y ≤ 9223372036854775808) : bits_Mul64.f x y = some (x * y / 18446744073709551616, x * y % 18446744073709551616) := by
  unfold bits_Mul64.f
  rw [mul_high x y hx.1 (by omega) hy.1 (by omega), u64w]
theorem signed_yes (x : Int) (hx : 0 ≤ x ∧ x < 18446744073709551616) (k : Nat) : nums_signed.f (k + 1) x true = some (clamp (-x)) := by
  unfold nums_signed.f clamp
  simp only [nums_signed.j0]
  rw [if_pos trivial]
  by_cases h : x ≥ 9223372036854775808
  · rw [if_pos (decide_eq_true h), if_neg (by omega)]
    congr 1
    by_cases h1 : -x < -9223372036854775808
    · rw [if_pos h1]
    · rw [if_neg h1]; omega
  · rw [if_neg (by simpa using h)]
    simp only [if_true]
    rw [if_neg (by omega), if_neg (by omega)]
    congr 1
    unfold wrap64
    omega
theorem signed_no (x : Int) (hx : 0 ≤ x ∧ x < 18446744073709551616) (k : Nat) : nums_signed.f (k + 1) x false = some (clamp x) := by
  unfold nums_signed.f clamp
  simp only [nums_signed.j0]
  simp only [Bool.false_eq_true, if_false]
  by_cases h : x ≥ 9223372036854775808
  · rw [if_pos h, if_pos (by omega)]
  · rw [if_neg h, if_neg (by omega), if_neg (by omega)]
    congr 1
    unfold wrap64
    omega
theorem signed_is (x : Int) (b : Bool) (hx : 0 ≤ x ∧ x < 18446744073709551616) (k : Nat) : nums_signed.f (k + 1) x b = some (clamp (if b = true then -x else x)) := by
  cases b with
  | true => exact signed_yes x hx k
  | false => exact signed_no x hx k
/-- The product is the whole product, brought into its bounds. -/
theorem mul_is (a b : Int) (ha : In64 a) (hb : In64 b) (k : Nat) : nums_Mul.f (k + 1) a b = some (clamp (a * b)) := by
  unfold nums_Mul.f
  rw [abs_is a ha, abs_is b hb]
  simp only [Option.bind_some]
  have ha' : 0 ≤ (if a < 0 then -a else a) ∧ (if a < 0 then -a else a) ≤ 9223372036854775808 := by
    unfold In64 at ha
    split <;> omega
  have hb' : 0 ≤ (if b < 0 then -b else b) ∧ (if b < 0 then -b else b) ≤ 9223372036854775808 := by
    unfold In64 at hb
    split <;> omega
  rw [mul64_is _ _ ha' hb']
  simp only [Option.bind_some]
  have hp : 0 ≤ (if a < 0 then -a else a) * (if b < 0 then -b else b) := Int.mul_nonneg ha'.1 hb'.1
  have hs : a * b = if ((decide (a < 0)) != (decide (b < 0))) = true then -((if a < 0 then -a else a) * (if b < 0 then -b else b)) else (if a < 0 then -a else a) * (if b < 0 then -b else b) := by
    by_cases h1 : a < 0 <;> by_cases h2 : b < 0 <;> simp [h1, h2, Int.neg_mul, Int.mul_neg]
  rw [hs]
  generalize (if a < 0 then -a else a) * (if b < 0 then -b else b) = p at hp
  generalize ((decide (a < 0)) != (decide (b < 0))) = s
  by_cases h : p / 18446744073709551616 > 0
  · rw [if_pos h, end_is]
    simp only [Option.bind_some]
    congr 1
    unfold clamp
    cases s with
    | true => show (-9223372036854775808 : Int) = if -p > 9223372036854775807 then 9223372036854775807 else if -p < -9223372036854775808 then -9223372036854775808 else -p; rw [if_neg (by omega), if_pos (by omega)]
    | false => show (9223372036854775807 : Int) = if p > 9223372036854775807 then 9223372036854775807 else if p < -9223372036854775808 then -9223372036854775808 else p; rw [if_pos (by omega)]
  · rw [if_neg h, signed_is _ _ (by omega)]
    simp only [Option.bind_some]
    have : p % 18446744073709551616 = p := by omega
    rw [this]

theorem lives_is : catacomblaw01_lives.f = some true := by decide +kernel
theorem clamp_hi {n : Int} (h : 9223372036854775807 < n) : clamp n = 9223372036854775807 := by unfold clamp; rw [if_pos h]
theorem clamp_lo {n : Int} (h : n ≤ -9223372036854775808) : clamp n = -9223372036854775808 := by unfold clamp; rw [if_neg (by omega)]; split <;> omega
theorem clamp_w {n : Int} (h : In64 n) : clamp n = wrap64 n := by rw [clamp_id h, w64 h]
theorem abs_hx {a x : Int} (ha : In64 a) (hn : a ≠ -9223372036854775808) (hx : x = if a < 0 then -a else a) : (if a < wrap64 (-a) then wrap64 (-a) else a) = x := by
  unfold In64 at ha
  have hw : wrap64 (-a) = -a := by unfold wrap64; omega
  rw [hw, hx]
  split <;> split <;> omega
/-- What the two absolute values come to. -/
theorem abs_facts {a b x y : Int} (ha : In64 a) (hb : In64 b) (ha0 : a ≠ 0) (hb0 : b ≠ 0) (hna : a ≠ -9223372036854775808) (hnb : b ≠ -9223372036854775808) (hx : x = if a < 0 then -a else a) (hy : y = if b < 0 then -b else b) :
    (1 ≤ x ∧ x ≤ 9223372036854775807) ∧ (1 ≤ y ∧ y ≤ 9223372036854775807) ∧ IntKind.u64.wrap x = x ∧ IntKind.u64.wrap y = y ∧ a * b = (if (a < 0 ↔ b < 0) then x * y else -(x * y)) ∧ wrap64 (Int.tdiv 9223372036854775807 y) = 9223372036854775807 / y := by
  have hs : a * b = if (a < 0 ↔ b < 0) then x * y else -(x * y) := by
    rw [hx, hy]
    by_cases h1 : a < 0 <;> by_cases h2 : b < 0 <;> simp [h1, h2, Int.neg_mul, Int.mul_neg]
  have h1 : 1 ≤ x ∧ x ≤ 9223372036854775807 := by rw [hx]; unfold In64 at ha; split <;> omega
  have h2 : 1 ≤ y ∧ y ≤ 9223372036854775807 := by rw [hy]; unfold In64 at hb; split <;> omega
  refine ⟨h1, h2, by rw [u64w]; omega, by rw [u64w]; omega, hs, ?_⟩
  rw [Int.tdiv_eq_ediv_of_nonneg (by decide)]
  refine w64 ?_
  have h3 := Int.ediv_le_self y (show (0 : Int) ≤ 9223372036854775807 by decide)
  have h4 := Int.ediv_nonneg (show (0 : Int) ≤ 9223372036854775807 by decide) (show 0 ≤ y by omega)
  unfold In64
  omega
theorem small_q {x y : Int} (hy : 1 ≤ y) (h : x ≤ 9223372036854775807 / y) : x * y ≤ 9223372036854775807 := (Int.le_ediv_iff_mul_le (show 0 < y by omega)).1 h
theorem big_q {x y : Int} (hy : 1 ≤ y) (h : ¬ x ≤ 9223372036854775807 / y) : 9223372036854775807 < x * y := by
  rcases (by omega : x * y ≤ 9223372036854775807 ∨ 9223372036854775807 < x * y) with h' | h'
  · exact absurd ((Int.le_ediv_iff_mul_le (show 0 < y by omega)).2 h') h
  · exact h'
theorem third_q {x y : Int} (hy : 1 ≤ y) (h : x = IntKind.u64.wrap (Int.tdiv 9223372036854775808 y)) : x * y ≤ 9223372036854775808 := by
  rw [Int.tdiv_eq_ediv_of_nonneg (by decide)] at h
  have h1 := Int.ediv_le_self y (show (0 : Int) ≤ 9223372036854775808 by decide)
  have h2 := Int.ediv_nonneg (show (0 : Int) ≤ 9223372036854775808 by decide) (show 0 ≤ y by omega)
  have h3 : x = 9223372036854775808 / y := by rw [h, u64w]; omega
  rw [h3]
  exact Int.ediv_mul_le _ (by omega)
theorem muls_walk (a b : Int) (W : World) (hwa : (Lit.int .i64 a).wf = true) (hwb : (Lit.int .i64 b).wf = true) :
    Calls Try.prog 7 #[.int .i64 a, .int .i64 b] W fun e w' => e = .returned (.bool true) ∧ Below W.heap.size W w' := by
  have ha := in64 hwa
  have hb := in64 hwb
  have hm := mul_is a b ha hb 0
  have ha' := ha
  have hb' := hb
  unfold In64 at ha' hb'
  cases c0 : (a == 0) with
  | true =>
    have e : a = 0 := by simpa using c0
    exact muls_a0 1 a b _  W lives_is hm (c0 := c0) (hg := by rw [e, Int.zero_mul]; decide)
  | false =>
    have ha0 : a ≠ 0 := by simpa using c0
    cases c1 : (b == 0) with
    | true =>
      have e : b = 0 := by simpa using c1
      exact muls_b0 1 a b _  W lives_is hm (c0 := c0) (c1 := c1) (hg := by rw [e, Int.mul_zero]; decide)
    | false =>
      have hb0 : b ≠ 0 := by simpa using c1
      cases c2 : decide (a < 0) with
      | true =>
        have s2 : a < 0 := of_decide_eq_true c2
        cases c3 : decide (b < 0) with
        | true =>
          have s3 : b < 0 := of_decide_eq_true c3
          cases c4 : (a == -9223372036854775808) with
          | true =>
            have e4 : a = -9223372036854775808 := by simpa using c4
            have c6 : (a == 1) = false := by rw [e4]; decide
            cases c7 : (b == 1) with
            | true =>
              have e7 : b = 1 := by simpa using c7
              omega
            | false =>
              have n7 : b ≠ 1 := by simpa using c7
              exact muls_nn_a 1 a b _  W lives_is hm (c0 := c0) (c1 := c1) (c2 := c2) (c3 := c3) (c4 := c4) (c6 := c6) (c7 := c7) (hg := by rw [e4]; exact clamp_hi (by omega))
          | false =>
            have n4 : a ≠ -9223372036854775808 := by simpa using c4
            cases c5 : (b == -9223372036854775808) with
            | true =>
              have e5 : b = -9223372036854775808 := by simpa using c5
              cases c6 : (a == 1) with
              | true =>
                have e6 : a = 1 := by simpa using c6
                omega
              | false =>
                have n6 : a ≠ 1 := by simpa using c6
                have c7 : (b == 1) = false := by rw [e5]; decide
                exact muls_nn_b 1 a b _  W lives_is hm (c0 := c0) (c1 := c1) (c2 := c2) (c3 := c3) (c4 := c4) (c5 := c5) (c6 := c6) (c7 := c7) (hg := by rw [e5]; exact clamp_hi (by omega))
            | false =>
              have n5 : b ≠ -9223372036854775808 := by simpa using c5
              obtain ⟨x, hxd⟩ : ∃ x, x = if a < 0 then -a else a := ⟨_, rfl⟩
              obtain ⟨y, hyd⟩ : ∃ y, y = if b < 0 then -b else b := ⟨_, rfl⟩
              obtain ⟨bx, by_, hxu, hyu, hs, hQ0⟩ := abs_facts ha hb ha0 hb0 n4 n5 hxd hyd
              have hx := abs_hx ha n4 hxd
              have hy := abs_hx hb n5 hyd
              have hy0 := by_.1
              rw [if_pos (by constructor <;> intro <;> omega)] at hs
              obtain ⟨Q, hQ⟩ : ∃ Q, wrap64 (Int.tdiv 9223372036854775807 y) = Q := ⟨_, rfl⟩
              have hQ1 : Q = 9223372036854775807 / y := by rw [← hQ, hQ0]
              cases c8 : decide (x ≤ Q) with
              | true =>
                have hsm := small_q hy0 (by rw [← hQ1]; exact of_decide_eq_true c8)
                have hp1 : 1 ≤ x * y := by have := Int.mul_le_mul bx.1 by_.1 (by omega) (by omega); omega
                exact muls_nn_q 1 a b _ x y Q W lives_is hm (c0 := c0) (c1 := c1) (c2 := c2) (c3 := c3) (c4 := c4) (c5 := c5) (hx := hx) (hy := hy) (hQ := hQ) (hy0 := hy0) (hyu := hyu) (c8 := c8) (hg := clamp_w (by rw [hs]; unfold In64; omega))
              | false =>
                have hbg := big_q hy0 (by rw [← hQ1]; exact of_decide_eq_false c8)
                exact muls_nn_big 1 a b _ x y Q W lives_is hm (c0 := c0) (c1 := c1) (c2 := c2) (c3 := c3) (c4 := c4) (c5 := c5) (hx := hx) (hy := hy) (hQ := hQ) (hy0 := hy0) (hyu := hyu) (c8 := c8) (hg := by rw [hs]; exact clamp_hi hbg)
        | false =>
          have s3 : ¬ b < 0 := of_decide_eq_false c3
          cases c4 : (a == -9223372036854775808) with
          | true =>
            have e4 : a = -9223372036854775808 := by simpa using c4
            have c6 : (a == 1) = false := by rw [e4]; decide
            cases c7 : (b == 1) with
            | true =>
              have e7 : b = 1 := by simpa using c7
              exact muls_np_a1 1 a b _  W lives_is hm (c0 := c0) (c1 := c1) (c2 := c2) (c3 := c3) (c4 := c4) (c6 := c6) (c7 := c7) (hg := clamp_w (by rw [e7, Int.mul_one]; exact ha))
            | false =>
              have n7 : b ≠ 1 := by simpa using c7
              exact muls_np_a 1 a b _  W lives_is hm (c0 := c0) (c1 := c1) (c2 := c2) (c3 := c3) (c4 := c4) (c6 := c6) (c7 := c7) (hg := by rw [e4]; exact clamp_lo (by omega))
          | false =>
            have n4 : a ≠ -9223372036854775808 := by simpa using c4
            cases c5 : (b == -9223372036854775808) with
            | true =>
              have e5 : b = -9223372036854775808 := by simpa using c5
              omega
            | false =>
              have n5 : b ≠ -9223372036854775808 := by simpa using c5
              obtain ⟨x, hxd⟩ : ∃ x, x = if a < 0 then -a else a := ⟨_, rfl⟩
              obtain ⟨y, hyd⟩ : ∃ y, y = if b < 0 then -b else b := ⟨_, rfl⟩
              obtain ⟨bx, by_, hxu, hyu, hs, hQ0⟩ := abs_facts ha hb ha0 hb0 n4 n5 hxd hyd
              have hx := abs_hx ha n4 hxd
              have hy := abs_hx hb n5 hyd
              have hy0 := by_.1
              rw [if_neg (by omega)] at hs
              obtain ⟨Q, hQ⟩ : ∃ Q, wrap64 (Int.tdiv 9223372036854775807 y) = Q := ⟨_, rfl⟩
              have hQ1 : Q = 9223372036854775807 / y := by rw [← hQ, hQ0]
              cases c8 : decide (x ≤ Q) with
              | true =>
                have hsm := small_q hy0 (by rw [← hQ1]; exact of_decide_eq_true c8)
                have hp1 : 1 ≤ x * y := by have := Int.mul_le_mul bx.1 by_.1 (by omega) (by omega); omega
                exact muls_np_q 1 a b _ x y Q W lives_is hm (c0 := c0) (c1 := c1) (c2 := c2) (c3 := c3) (c4 := c4) (c5 := c5) (hx := hx) (hy := hy) (hQ := hQ) (hy0 := hy0) (hyu := hyu) (c8 := c8) (hg := clamp_w (by rw [hs]; unfold In64; omega))
              | false =>
                have hbg := big_q hy0 (by rw [← hQ1]; exact of_decide_eq_false c8)
                have glo : clamp (a * b) = -9223372036854775808 := by rw [hs]; exact clamp_lo (by omega)
                have gex : x * y = 9223372036854775808 → clamp (a * b) = wrap64 (a * b) := fun h => clamp_w (by rw [hs, h]; unfold In64; omega)
                cases d1 : (x == 4611686018427387904) with
                | true =>
                  have e1 : x = 4611686018427387904 := by simpa using d1
                  cases d2 : (y == 2) with
                  | true =>
                    have e2 : y = 2 := by simpa using d2
                    exact muls_np_bigA 1 a b _ x y Q W lives_is hm (c0 := c0) (c1 := c1) (c2 := c2) (c3 := c3) (c4 := c4) (c5 := c5) (hx := hx) (hy := hy) (hQ := hQ) (hy0 := hy0) (hyu := hyu) (c8 := c8) (d1 := d1) (d2 := d2) (hg := gex (by rw [e1, e2]; decide))
                  | false =>
                    cases d3 : (y == 4611686018427387904) with
                    | true =>
                      have e3 : y = 4611686018427387904 := by simpa using d3
                      cases d4 : (x == 2) with
                      | true =>
                        have e4x : x = 2 := by simpa using d4
                        exact muls_np_bigtB 1 a b _ x y Q W lives_is hm (c0 := c0) (c1 := c1) (c2 := c2) (c3 := c3) (c4 := c4) (c5 := c5) (hx := hx) (hy := hy) (hQ := hQ) (hy0 := hy0) (hyu := hyu) (c8 := c8) (d1 := d1) (d2 := d2) (d3 := d3) (d4 := d4) (hg := gex (by rw [e3, e4x]; decide))
                      | false =>
                        cases d5 : (IntKind.u64.wrap (x * y) == 9223372036854775808) with
                        | true =>
                          cases d6 : (x == IntKind.u64.wrap (Int.tdiv 9223372036854775808 y)) with
                          | true =>
                            have t6 := third_q hy0 (by simpa using d6)
                            exact muls_np_bigttC 1 a b _ x y Q W lives_is hm (c0 := c0) (c1 := c1) (c2 := c2) (c3 := c3) (c4 := c4) (c5 := c5) (hx := hx) (hy := hy) (hQ := hQ) (hy0 := hy0) (hxu := hxu) (hyu := hyu) (c8 := c8) (d1 := d1) (d2 := d2) (d3 := d3) (d4 := d4) (d5 := d5) (d6 := d6) (hg := gex (by omega))
                          | false =>
                            exact muls_np_bigttD 1 a b _ x y Q W lives_is hm (c0 := c0) (c1 := c1) (c2 := c2) (c3 := c3) (c4 := c4) (c5 := c5) (hx := hx) (hy := hy) (hQ := hQ) (hy0 := hy0) (hxu := hxu) (hyu := hyu) (c8 := c8) (d1 := d1) (d2 := d2) (d3 := d3) (d4 := d4) (d5 := d5) (d6 := d6) (hg := glo)
                        | false =>
                          exact muls_np_bigttE 1 a b _ x y Q W lives_is hm (c0 := c0) (c1 := c1) (c2 := c2) (c3 := c3) (c4 := c4) (c5 := c5) (hx := hx) (hy := hy) (hQ := hQ) (hy0 := hy0) (hxu := hxu) (hyu := hyu) (c8 := c8) (d1 := d1) (d2 := d2) (d3 := d3) (d4 := d4) (d5 := d5) (hg := glo)
                    | false =>
                      cases d5 : (IntKind.u64.wrap (x * y) == 9223372036854775808) with
                      | true =>
                        cases d6 : (x == IntKind.u64.wrap (Int.tdiv 9223372036854775808 y)) with
                        | true =>
                          have t6 := third_q hy0 (by simpa using d6)
                          exact muls_np_bigtfC 1 a b _ x y Q W lives_is hm (c0 := c0) (c1 := c1) (c2 := c2) (c3 := c3) (c4 := c4) (c5 := c5) (hx := hx) (hy := hy) (hQ := hQ) (hy0 := hy0) (hxu := hxu) (hyu := hyu) (c8 := c8) (d1 := d1) (d2 := d2) (d3 := d3) (d5 := d5) (d6 := d6) (hg := gex (by omega))
                        | false =>
                          exact muls_np_bigtfD 1 a b _ x y Q W lives_is hm (c0 := c0) (c1 := c1) (c2 := c2) (c3 := c3) (c4 := c4) (c5 := c5) (hx := hx) (hy := hy) (hQ := hQ) (hy0 := hy0) (hxu := hxu) (hyu := hyu) (c8 := c8) (d1 := d1) (d2 := d2) (d3 := d3) (d5 := d5) (d6 := d6) (hg := glo)
                      | false =>
                        exact muls_np_bigtfE 1 a b _ x y Q W lives_is hm (c0 := c0) (c1 := c1) (c2 := c2) (c3 := c3) (c4 := c4) (c5 := c5) (hx := hx) (hy := hy) (hQ := hQ) (hy0 := hy0) (hxu := hxu) (hyu := hyu) (c8 := c8) (d1 := d1) (d2 := d2) (d3 := d3) (d5 := d5) (hg := glo)
                | false =>
                  cases d3 : (y == 4611686018427387904) with
                  | true =>
                    have e3 : y = 4611686018427387904 := by simpa using d3
                    cases d4 : (x == 2) with
                    | true =>
                      have e4x : x = 2 := by simpa using d4
                      exact muls_np_bigfB 1 a b _ x y Q W lives_is hm (c0 := c0) (c1 := c1) (c2 := c2) (c3 := c3) (c4 := c4) (c5 := c5) (hx := hx) (hy := hy) (hQ := hQ) (hy0 := hy0) (hyu := hyu) (c8 := c8) (d1 := d1) (d3 := d3) (d4 := d4) (hg := gex (by rw [e3, e4x]; decide))
                    | false =>
                      cases d5 : (IntKind.u64.wrap (x * y) == 9223372036854775808) with
                      | true =>
                        cases d6 : (x == IntKind.u64.wrap (Int.tdiv 9223372036854775808 y)) with
                        | true =>
                          have t6 := third_q hy0 (by simpa using d6)
                          exact muls_np_bigftC 1 a b _ x y Q W lives_is hm (c0 := c0) (c1 := c1) (c2 := c2) (c3 := c3) (c4 := c4) (c5 := c5) (hx := hx) (hy := hy) (hQ := hQ) (hy0 := hy0) (hxu := hxu) (hyu := hyu) (c8 := c8) (d1 := d1) (d3 := d3) (d4 := d4) (d5 := d5) (d6 := d6) (hg := gex (by omega))
                        | false =>
                          exact muls_np_bigftD 1 a b _ x y Q W lives_is hm (c0 := c0) (c1 := c1) (c2 := c2) (c3 := c3) (c4 := c4) (c5 := c5) (hx := hx) (hy := hy) (hQ := hQ) (hy0 := hy0) (hxu := hxu) (hyu := hyu) (c8 := c8) (d1 := d1) (d3 := d3) (d4 := d4) (d5 := d5) (d6 := d6) (hg := glo)
                      | false =>
                        exact muls_np_bigftE 1 a b _ x y Q W lives_is hm (c0 := c0) (c1 := c1) (c2 := c2) (c3 := c3) (c4 := c4) (c5 := c5) (hx := hx) (hy := hy) (hQ := hQ) (hy0 := hy0) (hxu := hxu) (hyu := hyu) (c8 := c8) (d1 := d1) (d3 := d3) (d4 := d4) (d5 := d5) (hg := glo)
                  | false =>
                    cases d5 : (IntKind.u64.wrap (x * y) == 9223372036854775808) with
                    | true =>
                      cases d6 : (x == IntKind.u64.wrap (Int.tdiv 9223372036854775808 y)) with
                      | true =>
                        have t6 := third_q hy0 (by simpa using d6)
                        exact muls_np_bigffC 1 a b _ x y Q W lives_is hm (c0 := c0) (c1 := c1) (c2 := c2) (c3 := c3) (c4 := c4) (c5 := c5) (hx := hx) (hy := hy) (hQ := hQ) (hy0 := hy0) (hxu := hxu) (hyu := hyu) (c8 := c8) (d1 := d1) (d3 := d3) (d5 := d5) (d6 := d6) (hg := gex (by omega))
                      | false =>
                        exact muls_np_bigffD 1 a b _ x y Q W lives_is hm (c0 := c0) (c1 := c1) (c2 := c2) (c3 := c3) (c4 := c4) (c5 := c5) (hx := hx) (hy := hy) (hQ := hQ) (hy0 := hy0) (hxu := hxu) (hyu := hyu) (c8 := c8) (d1 := d1) (d3 := d3) (d5 := d5) (d6 := d6) (hg := glo)
                    | false =>
                      exact muls_np_bigffE 1 a b _ x y Q W lives_is hm (c0 := c0) (c1 := c1) (c2 := c2) (c3 := c3) (c4 := c4) (c5 := c5) (hx := hx) (hy := hy) (hQ := hQ) (hy0 := hy0) (hxu := hxu) (hyu := hyu) (c8 := c8) (d1 := d1) (d3 := d3) (d5 := d5) (hg := glo)
      | false =>
        have s2 : ¬ a < 0 := of_decide_eq_false c2
        cases c3 : decide (b < 0) with
        | true =>
          have s3 : b < 0 := of_decide_eq_true c3
          cases c4 : (a == -9223372036854775808) with
          | true =>
            have e4 : a = -9223372036854775808 := by simpa using c4
            omega
          | false =>
            have n4 : a ≠ -9223372036854775808 := by simpa using c4
            cases c5 : (b == -9223372036854775808) with
            | true =>
              have e5 : b = -9223372036854775808 := by simpa using c5
              cases c6 : (a == 1) with
              | true =>
                have e6 : a = 1 := by simpa using c6
                exact muls_pn_b1 1 a b _  W lives_is hm (c0 := c0) (c1 := c1) (c2 := c2) (c3 := c3) (c4 := c4) (c5 := c5) (c6 := c6) (hg := clamp_w (by rw [e6, Int.one_mul]; exact hb))
              | false =>
                have n6 : a ≠ 1 := by simpa using c6
                have c7 : (b == 1) = false := by rw [e5]; decide
                exact muls_pn_b 1 a b _  W lives_is hm (c0 := c0) (c1 := c1) (c2 := c2) (c3 := c3) (c4 := c4) (c5 := c5) (c6 := c6) (c7 := c7) (hg := by rw [e5]; exact clamp_lo (by omega))
            | false =>
              have n5 : b ≠ -9223372036854775808 := by simpa using c5
              obtain ⟨x, hxd⟩ : ∃ x, x = if a < 0 then -a else a := ⟨_, rfl⟩
              obtain ⟨y, hyd⟩ : ∃ y, y = if b < 0 then -b else b := ⟨_, rfl⟩
              obtain ⟨bx, by_, hxu, hyu, hs, hQ0⟩ := abs_facts ha hb ha0 hb0 n4 n5 hxd hyd
              have hx := abs_hx ha n4 hxd
              have hy := abs_hx hb n5 hyd
              have hy0 := by_.1
              rw [if_neg (by omega)] at hs
              obtain ⟨Q, hQ⟩ : ∃ Q, wrap64 (Int.tdiv 9223372036854775807 y) = Q := ⟨_, rfl⟩
              have hQ1 : Q = 9223372036854775807 / y := by rw [← hQ, hQ0]
              cases c8 : decide (x ≤ Q) with
              | true =>
                have hsm := small_q hy0 (by rw [← hQ1]; exact of_decide_eq_true c8)
                have hp1 : 1 ≤ x * y := by have := Int.mul_le_mul bx.1 by_.1 (by omega) (by omega); omega
                exact muls_pn_q 1 a b _ x y Q W lives_is hm (c0 := c0) (c1 := c1) (c2 := c2) (c3 := c3) (c4 := c4) (c5 := c5) (hx := hx) (hy := hy) (hQ := hQ) (hy0 := hy0) (hyu := hyu) (c8 := c8) (hg := clamp_w (by rw [hs]; unfold In64; omega))
              | false =>
                have hbg := big_q hy0 (by rw [← hQ1]; exact of_decide_eq_false c8)
                have glo : clamp (a * b) = -9223372036854775808 := by rw [hs]; exact clamp_lo (by omega)
                have gex : x * y = 9223372036854775808 → clamp (a * b) = wrap64 (a * b) := fun h => clamp_w (by rw [hs, h]; unfold In64; omega)
                cases d1 : (x == 4611686018427387904) with
                | true =>
                  have e1 : x = 4611686018427387904 := by simpa using d1
                  cases d2 : (y == 2) with
                  | true =>
                    have e2 : y = 2 := by simpa using d2
                    exact muls_pn_bigA 1 a b _ x y Q W lives_is hm (c0 := c0) (c1 := c1) (c2 := c2) (c3 := c3) (c4 := c4) (c5 := c5) (hx := hx) (hy := hy) (hQ := hQ) (hy0 := hy0) (hyu := hyu) (c8 := c8) (d1 := d1) (d2 := d2) (hg := gex (by rw [e1, e2]; decide))
                  | false =>
                    cases d3 : (y == 4611686018427387904) with
                    | true =>
                      have e3 : y = 4611686018427387904 := by simpa using d3
                      cases d4 : (x == 2) with
                      | true =>
                        have e4x : x = 2 := by simpa using d4
                        exact muls_pn_bigtB 1 a b _ x y Q W lives_is hm (c0 := c0) (c1 := c1) (c2 := c2) (c3 := c3) (c4 := c4) (c5 := c5) (hx := hx) (hy := hy) (hQ := hQ) (hy0 := hy0) (hyu := hyu) (c8 := c8) (d1 := d1) (d2 := d2) (d3 := d3) (d4 := d4) (hg := gex (by rw [e3, e4x]; decide))
                      | false =>
                        cases d5 : (IntKind.u64.wrap (x * y) == 9223372036854775808) with
                        | true =>
                          cases d6 : (x == IntKind.u64.wrap (Int.tdiv 9223372036854775808 y)) with
                          | true =>
                            have t6 := third_q hy0 (by simpa using d6)
                            exact muls_pn_bigttC 1 a b _ x y Q W lives_is hm (c0 := c0) (c1 := c1) (c2 := c2) (c3 := c3) (c4 := c4) (c5 := c5) (hx := hx) (hy := hy) (hQ := hQ) (hy0 := hy0) (hxu := hxu) (hyu := hyu) (c8 := c8) (d1 := d1) (d2 := d2) (d3 := d3) (d4 := d4) (d5 := d5) (d6 := d6) (hg := gex (by omega))
                          | false =>
                            exact muls_pn_bigttD 1 a b _ x y Q W lives_is hm (c0 := c0) (c1 := c1) (c2 := c2) (c3 := c3) (c4 := c4) (c5 := c5) (hx := hx) (hy := hy) (hQ := hQ) (hy0 := hy0) (hxu := hxu) (hyu := hyu) (c8 := c8) (d1 := d1) (d2 := d2) (d3 := d3) (d4 := d4) (d5 := d5) (d6 := d6) (hg := glo)
                        | false =>
                          exact muls_pn_bigttE 1 a b _ x y Q W lives_is hm (c0 := c0) (c1 := c1) (c2 := c2) (c3 := c3) (c4 := c4) (c5 := c5) (hx := hx) (hy := hy) (hQ := hQ) (hy0 := hy0) (hxu := hxu) (hyu := hyu) (c8 := c8) (d1 := d1) (d2 := d2) (d3 := d3) (d4 := d4) (d5 := d5) (hg := glo)
                    | false =>
                      cases d5 : (IntKind.u64.wrap (x * y) == 9223372036854775808) with
                      | true =>
                        cases d6 : (x == IntKind.u64.wrap (Int.tdiv 9223372036854775808 y)) with
                        | true =>
                          have t6 := third_q hy0 (by simpa using d6)
                          exact muls_pn_bigtfC 1 a b _ x y Q W lives_is hm (c0 := c0) (c1 := c1) (c2 := c2) (c3 := c3) (c4 := c4) (c5 := c5) (hx := hx) (hy := hy) (hQ := hQ) (hy0 := hy0) (hxu := hxu) (hyu := hyu) (c8 := c8) (d1 := d1) (d2 := d2) (d3 := d3) (d5 := d5) (d6 := d6) (hg := gex (by omega))
                        | false =>
                          exact muls_pn_bigtfD 1 a b _ x y Q W lives_is hm (c0 := c0) (c1 := c1) (c2 := c2) (c3 := c3) (c4 := c4) (c5 := c5) (hx := hx) (hy := hy) (hQ := hQ) (hy0 := hy0) (hxu := hxu) (hyu := hyu) (c8 := c8) (d1 := d1) (d2 := d2) (d3 := d3) (d5 := d5) (d6 := d6) (hg := glo)
                      | false =>
                        exact muls_pn_bigtfE 1 a b _ x y Q W lives_is hm (c0 := c0) (c1 := c1) (c2 := c2) (c3 := c3) (c4 := c4) (c5 := c5) (hx := hx) (hy := hy) (hQ := hQ) (hy0 := hy0) (hxu := hxu) (hyu := hyu) (c8 := c8) (d1 := d1) (d2 := d2) (d3 := d3) (d5 := d5) (hg := glo)
                | false =>
                  cases d3 : (y == 4611686018427387904) with
                  | true =>
                    have e3 : y = 4611686018427387904 := by simpa using d3
                    cases d4 : (x == 2) with
                    | true =>
                      have e4x : x = 2 := by simpa using d4
                      exact muls_pn_bigfB 1 a b _ x y Q W lives_is hm (c0 := c0) (c1 := c1) (c2 := c2) (c3 := c3) (c4 := c4) (c5 := c5) (hx := hx) (hy := hy) (hQ := hQ) (hy0 := hy0) (hyu := hyu) (c8 := c8) (d1 := d1) (d3 := d3) (d4 := d4) (hg := gex (by rw [e3, e4x]; decide))
                    | false =>
                      cases d5 : (IntKind.u64.wrap (x * y) == 9223372036854775808) with
                      | true =>
                        cases d6 : (x == IntKind.u64.wrap (Int.tdiv 9223372036854775808 y)) with
                        | true =>
                          have t6 := third_q hy0 (by simpa using d6)
                          exact muls_pn_bigftC 1 a b _ x y Q W lives_is hm (c0 := c0) (c1 := c1) (c2 := c2) (c3 := c3) (c4 := c4) (c5 := c5) (hx := hx) (hy := hy) (hQ := hQ) (hy0 := hy0) (hxu := hxu) (hyu := hyu) (c8 := c8) (d1 := d1) (d3 := d3) (d4 := d4) (d5 := d5) (d6 := d6) (hg := gex (by omega))
                        | false =>
                          exact muls_pn_bigftD 1 a b _ x y Q W lives_is hm (c0 := c0) (c1 := c1) (c2 := c2) (c3 := c3) (c4 := c4) (c5 := c5) (hx := hx) (hy := hy) (hQ := hQ) (hy0 := hy0) (hxu := hxu) (hyu := hyu) (c8 := c8) (d1 := d1) (d3 := d3) (d4 := d4) (d5 := d5) (d6 := d6) (hg := glo)
                      | false =>
                        exact muls_pn_bigftE 1 a b _ x y Q W lives_is hm (c0 := c0) (c1 := c1) (c2 := c2) (c3 := c3) (c4 := c4) (c5 := c5) (hx := hx) (hy := hy) (hQ := hQ) (hy0 := hy0) (hxu := hxu) (hyu := hyu) (c8 := c8) (d1 := d1) (d3 := d3) (d4 := d4) (d5 := d5) (hg := glo)
                  | false =>
                    cases d5 : (IntKind.u64.wrap (x * y) == 9223372036854775808) with
                    | true =>
                      cases d6 : (x == IntKind.u64.wrap (Int.tdiv 9223372036854775808 y)) with
                      | true =>
                        have t6 := third_q hy0 (by simpa using d6)
                        exact muls_pn_bigffC 1 a b _ x y Q W lives_is hm (c0 := c0) (c1 := c1) (c2 := c2) (c3 := c3) (c4 := c4) (c5 := c5) (hx := hx) (hy := hy) (hQ := hQ) (hy0 := hy0) (hxu := hxu) (hyu := hyu) (c8 := c8) (d1 := d1) (d3 := d3) (d5 := d5) (d6 := d6) (hg := gex (by omega))
                      | false =>
                        exact muls_pn_bigffD 1 a b _ x y Q W lives_is hm (c0 := c0) (c1 := c1) (c2 := c2) (c3 := c3) (c4 := c4) (c5 := c5) (hx := hx) (hy := hy) (hQ := hQ) (hy0 := hy0) (hxu := hxu) (hyu := hyu) (c8 := c8) (d1 := d1) (d3 := d3) (d5 := d5) (d6 := d6) (hg := glo)
                    | false =>
                      exact muls_pn_bigffE 1 a b _ x y Q W lives_is hm (c0 := c0) (c1 := c1) (c2 := c2) (c3 := c3) (c4 := c4) (c5 := c5) (hx := hx) (hy := hy) (hQ := hQ) (hy0 := hy0) (hxu := hxu) (hyu := hyu) (c8 := c8) (d1 := d1) (d3 := d3) (d5 := d5) (hg := glo)
        | false =>
          have s3 : ¬ b < 0 := of_decide_eq_false c3
          cases c4 : (a == -9223372036854775808) with
          | true =>
            have e4 : a = -9223372036854775808 := by simpa using c4
            omega
          | false =>
            have n4 : a ≠ -9223372036854775808 := by simpa using c4
            cases c5 : (b == -9223372036854775808) with
            | true =>
              have e5 : b = -9223372036854775808 := by simpa using c5
              omega
            | false =>
              have n5 : b ≠ -9223372036854775808 := by simpa using c5
              obtain ⟨x, hxd⟩ : ∃ x, x = if a < 0 then -a else a := ⟨_, rfl⟩
              obtain ⟨y, hyd⟩ : ∃ y, y = if b < 0 then -b else b := ⟨_, rfl⟩
              obtain ⟨bx, by_, hxu, hyu, hs, hQ0⟩ := abs_facts ha hb ha0 hb0 n4 n5 hxd hyd
              have hx := abs_hx ha n4 hxd
              have hy := abs_hx hb n5 hyd
              have hy0 := by_.1
              rw [if_pos (by constructor <;> intro <;> omega)] at hs
              obtain ⟨Q, hQ⟩ : ∃ Q, wrap64 (Int.tdiv 9223372036854775807 y) = Q := ⟨_, rfl⟩
              have hQ1 : Q = 9223372036854775807 / y := by rw [← hQ, hQ0]
              cases c8 : decide (x ≤ Q) with
              | true =>
                have hsm := small_q hy0 (by rw [← hQ1]; exact of_decide_eq_true c8)
                have hp1 : 1 ≤ x * y := by have := Int.mul_le_mul bx.1 by_.1 (by omega) (by omega); omega
                exact muls_pp_q 1 a b _ x y Q W lives_is hm (c0 := c0) (c1 := c1) (c2 := c2) (c3 := c3) (c4 := c4) (c5 := c5) (hx := hx) (hy := hy) (hQ := hQ) (hy0 := hy0) (hyu := hyu) (c8 := c8) (hg := clamp_w (by rw [hs]; unfold In64; omega))
              | false =>
                have hbg := big_q hy0 (by rw [← hQ1]; exact of_decide_eq_false c8)
                exact muls_pp_big 1 a b _ x y Q W lives_is hm (c0 := c0) (c1 := c1) (c2 := c2) (c3 := c3) (c4 := c4) (c5 := c5) (hx := hx) (hy := hy) (hQ := hQ) (hy0 := hy0) (hyu := hyu) (c8 := c8) (hg := by rw [hs]; exact clamp_hi hbg)
end NumsMulsPure
end Go.Proofs.Ytbfjfplhgdnipaa
