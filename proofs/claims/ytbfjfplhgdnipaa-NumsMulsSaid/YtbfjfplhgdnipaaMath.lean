/- Plain facts on whole numbers that nums' statements lean on: bounds, exclusive or, doubling, halving, how many bits. No program. -/
import Derived.RowKit
import Derived.Laws.BitsAllLaws
import Derived.Laws.Bits64
import Derived.Test.YtbfjfplhgdnipaaWidth
namespace Go.Proofs.Ytbfjfplhgdnipaa
open Go.RowKit

def In64 (n : Int) : Prop := -9223372036854775808 ≤ n ∧ n ≤ 9223372036854775807
def clamp (n : Int) : Int := if n > 9223372036854775807 then 9223372036854775807 else if n < -9223372036854775808 then -9223372036854775808 else n

theorem in64 {n : Int} (h : (Lit.int .i64 n).wf = true) : In64 n := by
  simp [Lit.wf, IntKind.min, IntKind.max, IntKind.bits, IntKind.signed] at h
  unfold In64
  omega
theorem inu64 {n : Int} (h : (Lit.int .u64 n).wf = true) : 0 ≤ n ∧ n < 18446744073709551616 := by
  simp [Lit.wf, IntKind.min, IntKind.max, IntKind.bits, IntKind.signed] at h
  omega
theorem clamp_in (n : Int) : In64 (clamp n) := by
  unfold clamp In64
  split
  · omega
  · split <;> omega
theorem clamp_id {n : Int} (h : In64 n) : clamp n = n := by
  unfold In64 at h
  unfold clamp
  rw [if_neg (by omega), if_neg (by omega)]
theorem clamp_mono {a b : Int} (h : a ≤ b) : clamp a ≤ clamp b := by
  unfold clamp
  split <;> split <;> (try split) <;> (try split) <;> omega
theorem clamp_twice (x : Int) : clamp (clamp x + clamp x) = clamp (x + x) := by
  unfold clamp
  split
  · rw [if_pos (by omega), if_pos (by omega)]
  · split
    · rw [if_neg (by omega), if_pos (by omega), if_neg (by omega), if_pos (by omega)]
    · rfl
theorem u64w (n : Int) : IntKind.u64.wrap n = n % 18446744073709551616 := IntKind.wrap_u64 n
theorem w64 {n : Int} (h : In64 n) : wrap64 n = n := by unfold In64 at h; unfold wrap64; omega

theorem bv_xor_ones (b : BitVec 64) : b ^^^ BitVec.allOnes 64 = ~~~b := by
  apply BitVec.eq_of_getElem_eq
  intro i hi
  rw [BitVec.getElem_xor, BitVec.getElem_allOnes, BitVec.getElem_not, Bool.xor_true]
theorem bv_ones : BitVec.ofInt 64 18446744073709551615 = BitVec.allOnes 64 := by decide
theorem bv_neg1 : BitVec.ofInt 64 (-1) = BitVec.allOnes 64 := by decide
theorem bv_zero : BitVec.ofInt 64 0 = 0#64 := by decide

theorem xor_u64_ones (x : Nat) (h : x < 18446744073709551616) : Go.bits .xor .u64 (x : Int) 18446744073709551615 = 18446744073709551615 - (x : Int) := by
  show IntKind.u64.wrap ((BitVec.ofInt 64 (x : Int) ^^^ BitVec.ofInt 64 18446744073709551615).toNat : Int) = _
  rw [bv_ones, bv_xor_ones, u64w, BitVec.toNat_not, BitVec.ofInt_natCast, BitVec.toNat_ofNat]
  omega
theorem xor_u64_zero (x : Nat) (h : x < 18446744073709551616) : Go.bits .xor .u64 (x : Int) 0 = (x : Int) := by
  show IntKind.u64.wrap ((BitVec.ofInt 64 (x : Int) ^^^ BitVec.ofInt 64 0).toNat : Int) = _
  rw [bv_zero, BitVec.xor_zero, u64w, BitVec.ofInt_natCast, BitVec.toNat_ofNat]
  omega
theorem i64w (n : Int) : IntKind.i64.wrap n = (n + 9223372036854775808) % 18446744073709551616 - 9223372036854775808 := by rw [IntKind.wrap_i64]
theorem xor_i64_neg1 (x : Nat) (h : x < 9223372036854775808) : Go.bits .xor .i64 (x : Int) (-1) = -(x : Int) - 1 := by
  show IntKind.i64.wrap ((BitVec.ofInt 64 (x : Int) ^^^ BitVec.ofInt 64 (-1)).toNat : Int) = _
  rw [bv_neg1, bv_xor_ones, i64w, BitVec.toNat_not, BitVec.ofInt_natCast, BitVec.toNat_ofNat]
  omega
theorem xor_i64_zero (x : Nat) (h : x < 9223372036854775808) : Go.bits .xor .i64 (x : Int) 0 = (x : Int) := by
  show IntKind.i64.wrap ((BitVec.ofInt 64 (x : Int) ^^^ BitVec.ofInt 64 0).toNat : Int) = _
  rw [bv_zero, BitVec.xor_zero, i64w, BitVec.ofInt_natCast, BitVec.toNat_ofNat]
  omega
theorem and_u64_one (x : Nat) (h : x < 18446744073709551616) : Go.bits .and .u64 (x : Int) 1 = ((x % 2 : Nat) : Int) := by
  have := u64_and_nat x 1 h (by omega)
  rw [nat_mask1] at this
  exact this
theorem and_u64_32 (x : Int) (h0 : 0 ≤ x) (h : x < 18446744073709551616) : Go.bits .and .u64 x 4294967295 = x % 4294967296 := by
  have := u64_and x 4294967295 h0 h (by omega) (by omega)
  rw [this]
  have e : (4294967295 : Int).toNat = 2 ^ 32 - 1 := by decide
  rw [e, Nat.and_two_pow_sub_one_eq_mod]
  omega

/-- The high half of a product, out of the four products of the halves. -/
theorem mul_high (x y : Int) (hx0 : 0 ≤ x) (hx : x < 18446744073709551616) (hy0 : 0 ≤ y) (hy : y < 18446744073709551616) :
    IntKind.u64.wrap ((IntKind.u64.wrap ((IntKind.u64.wrap ((x / 4294967296) * (y / 4294967296))) + ((IntKind.u64.wrap ((IntKind.u64.wrap ((x / 4294967296) * (Go.bits .and .u64 y 4294967295))) + ((IntKind.u64.wrap ((Go.bits .and .u64 x 4294967295) * (Go.bits .and .u64 y 4294967295))) / 4294967296))) / 4294967296))) + ((IntKind.u64.wrap ((Go.bits .and .u64 (IntKind.u64.wrap ((IntKind.u64.wrap ((x / 4294967296) * (Go.bits .and .u64 y 4294967295))) + ((IntKind.u64.wrap ((Go.bits .and .u64 x 4294967295) * (Go.bits .and .u64 y 4294967295))) / 4294967296))) 4294967295) + (IntKind.u64.wrap ((Go.bits .and .u64 x 4294967295) * (y / 4294967296))))) / 4294967296)) = x * y / 18446744073709551616 := by
  rw [and_u64_32 x hx0 hx, and_u64_32 y hy0 hy]
  rw [and_u64_32 (IntKind.u64.wrap _) (by rw [u64w]; omega) (by rw [u64w]; omega)]
  have ex := Int.mul_ediv_add_emod x 4294967296
  have ey := Int.mul_ediv_add_emod y 4294967296
  have bx : 0 ≤ x / 4294967296 ∧ x / 4294967296 ≤ 4294967295 := by omega
  have by_ : 0 ≤ y / 4294967296 ∧ y / 4294967296 ≤ 4294967295 := by omega
  have cx : 0 ≤ x % 4294967296 ∧ x % 4294967296 ≤ 4294967295 := by omega
  have cy : 0 ≤ y % 4294967296 ∧ y % 4294967296 ≤ 4294967295 := by omega
  generalize x / 4294967296 = a at ex bx ⊢
  generalize x % 4294967296 = b at ex cx ⊢
  generalize y / 4294967296 = c at ey by_ ⊢
  generalize y % 4294967296 = d at ey cy ⊢
  have hm : ∀ p q : Int, 0 ≤ p → p ≤ 4294967295 → 0 ≤ q → q ≤ 4294967295 → 0 ≤ p * q ∧ p * q ≤ 18446744065119617025 := by
    intro p q h1 h2 h3 h4
    constructor
    · exact Int.mul_nonneg h1 h3
    · have e1 : p * q ≤ 4294967295 * q := Int.mul_le_mul_of_nonneg_right h2 h3
      omega
  have m1 := hm a c bx.1 bx.2 by_.1 by_.2
  have m2 := hm a d bx.1 bx.2 cy.1 cy.2
  have m3 := hm b c cx.1 cx.2 by_.1 by_.2
  have m4 := hm b d cx.1 cx.2 cy.1 cy.2
  have e : x * y = a * c * 18446744073709551616 + (a * d + b * c) * 4294967296 + b * d := by
    rw [← ex, ← ey, Int.add_mul, Int.mul_add, Int.mul_add]
    have t1 : 4294967296 * a * (4294967296 * c) = a * c * 18446744073709551616 := by
      rw [Int.mul_assoc 4294967296 a, Int.mul_left_comm a 4294967296 c, ← Int.mul_assoc]
      omega
    have t2 : 4294967296 * a * d = a * d * 4294967296 := by rw [Int.mul_assoc]; omega
    have t3 : b * (4294967296 * c) = b * c * 4294967296 := by rw [Int.mul_left_comm]; omega
    rw [t1, t2, t3, Int.add_mul]
    omega
  rw [e]
  generalize a * c = p at m1 ⊢
  generalize a * d = q at m2 ⊢
  generalize b * c = r at m3 ⊢
  generalize b * d = s at m4 ⊢
  simp only [u64w]
  omega

theorem pow_pos2 : ∀ n : Nat, (0 : Int) < 2 ^ n
  | 0 => by decide
  | n + 1 => by rw [Int.pow_succ]; have := pow_pos2 n; omega
/-! How many bits -/
def blF : Nat → Int → Int
  | 0, _ => 0
  | d + 1, y => if y > 0 then 1 + blF d (y / 2) else 0
theorem blF_zero (d : Nat) {y : Int} (h : y ≤ 0) : blF d y = 0 := by
  cases d with
  | zero => rfl
  | succ d => simp only [blF]; rw [if_neg (by omega)]
theorem blF_more : ∀ (d : Nat) (y : Int), y < 2 ^ d → blF (d + 1) y = blF d y
  | 0, y, h => by
    simp only [blF]
    rw [if_neg (by simp at h; omega)]
  | d + 1, y, h => by
    have hh : y / 2 < 2 ^ d := by
      rw [Int.pow_succ] at h
      omega
    have := blF_more d (y / 2) hh
    rw [blF, this]
    rfl
theorem blF_ge : ∀ (e d : Nat) (y : Int), y < 2 ^ d → blF (d + e) y = blF d y
  | 0, _, _, _ => rfl
  | e + 1, d, y, h => by
    have h2 : y < 2 ^ (d + e) := by
      have : (2 : Int) ^ d ≤ 2 ^ (d + e) := by
        rw [Int.pow_add]
        have h1 : (1 : Int) ≤ 2 ^ e := pow_pos2 e
        have h0 : (0 : Int) ≤ 2 ^ d := Int.le_of_lt (pow_pos2 d)
        have := Int.mul_le_mul_of_nonneg_left h1 h0
        omega
      omega
    rw [← Nat.add_assoc, blF_more (d + e) y h2, blF_ge e d y h]
theorem blF_cut : ∀ (s d : Nat) (y : Int), 0 < y / 2 ^ s → blF (d + s) y = (s : Int) + blF d (y / 2 ^ s)
  | 0, d, y, _ => by simp
  | s + 1, d, y, h => by
    have e : y / 2 / 2 ^ s = y / 2 ^ (s + 1) := by
      rw [Int.ediv_ediv_of_nonneg (by decide), Int.pow_succ, Int.mul_comm]
    have hy : 0 < y := by
      rcases (by omega : 0 < y ∨ y ≤ 0) with h1 | h1
      · exact h1
      · have : y / 2 ^ (s + 1) ≤ 0 := by
          have h2 : (0 : Int) < 2 ^ (s + 1) := pow_pos2 _
          exact Int.ediv_le_of_le_mul h2 (by omega)
        omega
    rw [← Nat.add_assoc, blF, if_pos hy, blF_cut s d (y / 2) (by rw [e]; exact h), e]
    omega
/-- One step of Width. -/
theorem wst_step (x : Int) (k s : Nat) (hs : wstep k = s) (h : 0 ≤ (wst x k).1) (hb : (wst x k).1 < 2 ^ (s + s)) (_ : 0 < s) :
    0 ≤ (wst x (k + 1)).1 ∧ (wst x (k + 1)).1 < 2 ^ s ∧ (wst x (k + 1)).2 + blF s (wst x (k + 1)).1 = (wst x k).2 + blF (s + s) (wst x k).1 := by
  simp only [wst, hs]
  generalize wst x k = p at h hb ⊢
  obtain ⟨a, b⟩ := p
  simp only at h hb ⊢
  have h2 : (0 : Int) < 2 ^ s := pow_pos2 _
  by_cases c : a / 2 ^ s > 0
  · rw [if_pos c]
    refine ⟨by show 0 ≤ a / 2 ^ s; omega, ?_, ?_⟩
    · show a / 2 ^ s < 2 ^ s
      rw [Int.ediv_lt_iff_lt_mul h2, ← Int.pow_add]
      exact hb
    · show b + (s : Int) + blF s (a / 2 ^ s) = b + blF (s + s) a
      rw [blF_cut s s a c]
      omega
  · rw [if_neg c]
    have hlt : a < 2 ^ s := by
      rcases (by omega : a < 2 ^ s ∨ 2 ^ s ≤ a) with h1 | h1
      · exact h1
      · have : 1 ≤ a / 2 ^ s := (Int.le_ediv_iff_mul_le h2).2 (by omega)
        omega
    exact ⟨h, hlt, by show b + blF s a = _; rw [blF_ge s s a hlt]⟩
/-- nums.Width is the number of bits. -/
theorem width_is (x : Int) (h0 : 0 ≤ x) (h1 : x < 18446744073709551616) : (wst x 6).2 + (wst x 6).1 = blF 64 x := by
  have a0 : 0 ≤ (wst x 0).1 ∧ (wst x 0).1 < 2 ^ (32 + 32) ∧ (wst x 0).2 + blF (32 + 32) (wst x 0).1 = blF 64 x := ⟨h0, by simpa [wst] using h1, by simp [wst]⟩
  have a1 := wst_step x 0 32 rfl a0.1 a0.2.1 (by decide)
  have a2 := wst_step x 1 16 rfl a1.1 a1.2.1 (by decide)
  have a3 := wst_step x 2 8 rfl a2.1 a2.2.1 (by decide)
  have a4 := wst_step x 3 4 rfl a3.1 a3.2.1 (by decide)
  have a5 := wst_step x 4 2 rfl a4.1 a4.2.1 (by decide)
  have a6 := wst_step x 5 1 rfl a5.1 a5.2.1 (by decide)
  have e : (wst x 6).2 + blF 1 (wst x 6).1 = blF 64 x := by
    rw [a6.2.2, show 1 + 1 = 2 from rfl, a5.2.2, show 2 + 2 = 4 from rfl, a4.2.2, show 4 + 4 = 8 from rfl, a3.2.2, show 8 + 8 = 16 from rfl, a2.2.2, show 16 + 16 = 32 from rfl, a1.2.2]
    exact a0.2.2
  rw [← e]
  have hlt : (wst x 6).1 < 2 := by have := a6.2.1; simpa using this
  have hge := a6.1
  generalize (wst x 6).1 = a at hlt hge ⊢
  have : a = 0 ∨ a = 1 := by omega
  rcases this with rfl | rfl <;> simp [blF]
end Go.Proofs.Ytbfjfplhgdnipaa
