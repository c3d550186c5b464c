/- Any number is folded as the chapter says, and unfolded to it; any folded one, too; its width is how often it can be halved. No condition. -/
import Derived.Test.YtbfjfplhgdnipaaHNumsFoldsx1
import Derived.Test.YtbfjfplhgdnipaaMath
namespace Go.Proofs.Ytbfjfplhgdnipaa.Pure
open Go.RowKit Go.Proofs.Ytbfjfplhgdnipaa.HNumsFolds Go.Proofs.YtbfjfplhgdnipaaW.PrintWords Go.Proofs.YtbfjfplhgdnipaaW.PrintLast Go.Proofs.YtbfjfplhgdnipaaW.PrintMore

namespace NumsFoldsPure

theorem lives_is : catacomblaw01_lives.f = some true := by decide +kernel

theorem fold_is (a : Int) (ha : In64 a) : nums_Fold.f a = some (if a < 0 then -2 * a - 1 else 2 * a) := by
  unfold In64 at ha
  unfold nums_Fold.f
  rw [u64w, u64w, u64w]
  congr 1
  by_cases h : a < 0
  · rw [if_pos h]
    have e1 : a % 18446744073709551616 * 2 % 18446744073709551616 = ((2 * a + 18446744073709551616).toNat : Int) := by omega
    have e2 : a / 9223372036854775808 % 18446744073709551616 = 18446744073709551615 := by omega
    rw [e1, e2, xor_u64_ones _ (by omega)]
    omega
  · rw [if_neg h]
    have e1 : a % 18446744073709551616 * 2 % 18446744073709551616 = ((2 * a).toNat : Int) := by omega
    have e2 : a / 9223372036854775808 % 18446744073709551616 = 0 := by omega
    rw [e1, e2, xor_u64_zero _ (by omega)]
    omega
theorem unfold_is (x : Int) (h0 : 0 ≤ x) (h1 : x < 18446744073709551616) : nums_Unfold.f x = some (if x % 2 = 1 then -(x / 2) - 1 else x / 2) := by
  unfold nums_Unfold.f
  have e0 : x = (x.toNat : Int) := by omega
  have ea : Go.bits .and .u64 x 1 = x % 2 := by
    rw [e0, and_u64_one _ (by omega)]
    omega
  rw [ea]
  have e1 : wrap64 (x / 2) = ((x / 2).toNat : Int) := by unfold wrap64; omega
  congr 1
  by_cases h : x % 2 = 1
  · have e2 : wrap64 (-(wrap64 (x % 2))) = -1 := by rw [h]; unfold wrap64; omega
    rw [if_pos h, e1, e2, xor_i64_neg1 _ (by omega)]
    omega
  · have h' : x % 2 = 0 := by omega
    have e2 : wrap64 (-(wrap64 (x % 2))) = 0 := by rw [h']; unfold wrap64; omega
    rw [if_neg h, e1, e2, xor_i64_zero _ (by omega)]
    omega
theorem loop (a x want : Int) (ha : In64 a) (hx : 0 ≤ x ∧ x < 18446744073709551616) (hw : want = if a < 0 then -2 * a - 1 else 2 * a) : ∀ (d k : Nat) (n y : Int), 0 ≤ y → y < 2 ^ d → 0 ≤ n → n + d ≤ 64 → n + blF d y = blF 64 x → d < k →
    catacomblaw01_NumsFolds.l0 k a x want n y = some true := by
  intro d
  induction d with
  | zero =>
    intro k n y h0 h1 h2 h3 he hk
    obtain ⟨k, rfl⟩ : ∃ m, k = m + 1 := ⟨k - 1, by omega⟩
    simp at h1
    have hy : ¬ (y > 0) := by omega
    have hz : blF 0 y = 0 := rfl
    rw [hz, Int.add_zero] at he
    simp only [catacomblaw01_NumsFolds.l0]
    rw [if_neg hy, fold_is a ha, ← hw]
    simp only [Option.bind_some, if_true]
    unfold In64 at ha
    have hwr : 0 ≤ want ∧ want < 18446744073709551616 := by rw [hw]; split <;> omega
    have hu : nums_Unfold.f want = some a := by
      rw [unfold_is want hwr.1 hwr.2]
      congr 1
      rw [hw]
      by_cases c : a < 0
      · rw [if_pos c, if_pos (by omega)]; omega
      · rw [if_neg c, if_neg (by omega)]; omega
    rw [hu, unfold_is x hx.1 hx.2]
    simp only [Option.bind_some, if_true]
    have hv : In64 (if x % 2 = 1 then -(x / 2) - 1 else x / 2) := by
      unfold In64
      split <;> omega
    have hf : nums_Fold.f (if x % 2 = 1 then -(x / 2) - 1 else x / 2) = some x := by
      rw [fold_is _ hv]
      congr 1
      by_cases c : x % 2 = 1
      · rw [if_pos c, if_pos (by omega)]; omega
      · rw [if_neg c, if_neg (by omega)]; omega
    rw [hf]
    simp only [Option.bind_some, if_true]
    unfold nums_Width.f
    rw [if_pos hx, width_is x hx.1 hx.2, ← he]
    simp
  | succ d ih =>
    intro k n y h0 h1 h2 h3 he hk
    by_cases hy : y > 0
    · obtain ⟨k, rfl⟩ : ∃ m, k = m + 1 := ⟨k - 1, by omega⟩
      have hs : blF (d + 1) y = 1 + blF d (y / 2) := by simp only [blF]; rw [if_pos hy]
      rw [hs] at he
      simp only [catacomblaw01_NumsFolds.l0]
      rw [if_pos hy]
      have e1 : wrap64 (n + 1) = n + 1 := by unfold wrap64; omega
      have hy64 : y < 18446744073709551616 := by
        have hp : (2 : Int) ^ (d + 1) ≤ 2 ^ 64 := by
          have : d + 1 ≤ 64 := by omega
          exact Int.ofNat_le.2 (Nat.pow_le_pow_right (by decide) this)
        have : (2 : Int) ^ 64 = 18446744073709551616 := by decide
        omega
      have e2 : IntKind.u64.wrap (Int.tdiv y 2) = y / 2 := by
        rw [u64w, Int.tdiv_eq_ediv_of_nonneg h0]
        omega
      rw [e1, e2]
      refine ih k (n + 1) (y / 2) (by omega) ?_ (by omega) (by omega) (by omega) (by omega)
      rw [Int.pow_succ] at h1
      omega
    · have hy0 : y ≤ 0 := by omega
      have h4 : y < 2 ^ d := by have := pow_pos2 d; omega
      refine ih k n y h0 h4 h2 (by omega) ?_ (by omega)
      rw [blF_zero _ hy0] at he ⊢
      exact he
theorem law : catacomblaw01_NumsFolds.Pure := by
  intro a x hwa hwx
  have ha := in64 hwa
  have hx := inu64 hwx
  refine ⟨70, ?_⟩
  unfold catacomblaw01_NumsFolds.f
  rw [lives_is]
  simp only [Option.bind_some, if_true]
  have go : ∀ want : Int, (want = if a < 0 then -2 * a - 1 else 2 * a) → catacomblaw01_NumsFolds.j0 70 a x want = some true := by
    intro want hw
    rw [show (70 : Nat) = 69 + 1 from rfl]
    simp only [catacomblaw01_NumsFolds.j0]
    exact loop a x want ha hx hw 64 69 0 x hx.1 (by have : (2 : Int) ^ 64 = 18446744073709551616 := by decide
                                                    omega) (by omega) (by omega) (by omega) (by omega)
  unfold In64 at ha
  by_cases h : a < 0
  · rw [if_pos h]
    refine go _ ?_
    rw [if_pos h]
    simp only [u64w]
    unfold wrap64
    omega
  · rw [if_neg h]
    refine go _ ?_
    rw [if_neg h]
    simp only [u64w]
    omega

end NumsFoldsPure

theorem NumsFolds : catacomblaw01_NumsFolds.Pure := NumsFoldsPure.law

end Go.Proofs.Ytbfjfplhgdnipaa.Pure
