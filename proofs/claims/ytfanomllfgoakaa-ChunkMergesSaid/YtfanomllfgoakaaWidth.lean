/- nums.Width: how many bits a number has (how often it can be halved): walked, step by step over the six steps of its array. No condition. -/
import Derived.Test.YtfanomllfgoakaaProg
import Derived.WalkKit
import Derived.LoopTactic
import Derived.OwnWalk
import Derived.KernelRfl
import Derived.Deep.LoopGhost
import Derived.Test.YtfanomllfgoakaaWMore
import Derived.Test.YtfanomllfgoakaaChunkMath
import Derived.Lib.Hide
namespace Go.Proofs.Ytfanomllfgoakaa
open Go.RowKit Go.Proofs.YtfanomllfgoakaaW.PrintWords

def wstep (k : Nat) : Nat := [32, 16, 8, 4, 2, 1].getD k 0
def wrem (k : Nat) : Int := [63, 31, 15, 7, 3, 1, 0].getD k 0
/-- Behind k steps: the number, and the bits counted. -/
def wst (x : Int) : Nat → Int × Int
  | 0 => (x, 0)
  | k + 1 => if (wst x k).1 / 2 ^ wstep k > 0 then ((wst x k).1 / 2 ^ wstep k, (wst x k).2 + wstep k) else wst x k
theorem wst_yes {x a b s c : Int} {k : Nat} (H : Hid (wst x k = (a, b))) (hs : ((2 : Int) ^ wstep k) = s) (hc : (wstep k : Int) = c) (h : 0 < a / s) : Hid (wst x (k + 1) = (a / s, b + c)) := by
  show wst x (k + 1) = _
  have H' : wst x k = (a, b) := H
  subst hs hc
  simp only [wst, H']
  rw [if_pos h]
theorem wst_no {x a b s : Int} {k : Nat} (H : Hid (wst x k = (a, b))) (hs : ((2 : Int) ^ wstep k) = s) (h : a / s ≤ 0) : Hid (wst x (k + 1) = (a, b)) := by
  show wst x (k + 1) = _
  have H' : wst x k = (a, b) := H
  subst hs
  simp only [wst, H']
  rw [if_neg (by omega)]

theorem ix0 : ∀ w, (Instr.index 84 (.agg #[.int .u64 32, .int .u64 16, .int .u64 8, .int .u64 4, .int .u64 2, .int .u64 1]) (.int .i64 0)).run Try.prog w = .ok (.int .u64 32) w := fun _ => by kernel_rfl
theorem ix1 : ∀ w, (Instr.index 84 (.agg #[.int .u64 32, .int .u64 16, .int .u64 8, .int .u64 4, .int .u64 2, .int .u64 1]) (.int .i64 1)).run Try.prog w = .ok (.int .u64 16) w := fun _ => by kernel_rfl
theorem ix2 : ∀ w, (Instr.index 84 (.agg #[.int .u64 32, .int .u64 16, .int .u64 8, .int .u64 4, .int .u64 2, .int .u64 1]) (.int .i64 2)).run Try.prog w = .ok (.int .u64 8) w := fun _ => by kernel_rfl
theorem ix3 : ∀ w, (Instr.index 84 (.agg #[.int .u64 32, .int .u64 16, .int .u64 8, .int .u64 4, .int .u64 2, .int .u64 1]) (.int .i64 3)).run Try.prog w = .ok (.int .u64 4) w := fun _ => by kernel_rfl
theorem ix4 : ∀ w, (Instr.index 84 (.agg #[.int .u64 32, .int .u64 16, .int .u64 8, .int .u64 4, .int .u64 2, .int .u64 1]) (.int .i64 4)).run Try.prog w = .ok (.int .u64 2) w := fun _ => by kernel_rfl
theorem ix5 : ∀ w, (Instr.index 84 (.agg #[.int .u64 32, .int .u64 16, .int .u64 8, .int .u64 4, .int .u64 2, .int .u64 1]) (.int .i64 5)).run Try.prog w = .ok (.int .u64 1) w := fun _ => by kernel_rfl

set_option maxHeartbeats 1000000 in
theorem width_calls (x : Int) (h0 : 0 ≤ x) (h1 : x < 18446744073709551616) (w : World) :
    Calls Try.prog 32 #[.int .u64 x] w fun e w' => e = .returned (.int .i64 ((wst x 6).2 + (wst x 6).1)) ∧ w = w' := by
  have j0 := ix0
  have j1 := ix1
  have j2 := ix2
  have j3 := ix3
  have j4 := ix4
  have j5 := ix5
  go_enter Try.func32, Try.ntmps32
  go_wp2
  go_loop [0, 3, 7] (fun v0 v3 v7 => ∃ (k : Nat) (i a b : Int), k ≤ 6 ∧ i = (k : Int) ∧ Hid (wst x k = (a, b)) ∧ 0 ≤ a ∧ (a < 18446744073709551616 ∧ (k = 6 → a ≤ 1)) ∧ (k < 6 → a < 2 ^ (2 * wstep k)) ∧ 0 ≤ b ∧ b + wrem k ≤ 63 ∧ v7 = .int .i64 i ∧ v0 = .int .u64 a ∧ v3 = .int .i64 b) (fun _ _ i => 6 - (intOf i).toNat)
  case atStart => exact ⟨0, 0, x, 0, by omega, rfl, rfl, h0, ⟨h1, by omega⟩, fun _ => by simpa [wstep] using h1, by omega, by decide, rfl, rfl, rfl⟩
  case round =>
    obtain ⟨k, i, a, b, hk, hi, H, ha0, ⟨ha1, _⟩, ha2, hb0, hb1, rfl, rfl, rfl⟩ := hrel
    by_cases hlt : k < 6
    · match k, hlt, hi, H, ha2, hb1 with
      | 0, _, hi, H, ha2, hb1 =>
        obtain rfl : i = 0 := hi
        have hb2 : b ≤ 0 := by have hb1' : b + (63 : Int) ≤ 63 := hb1; omega
        have ha3 : a < 18446744073709551616 := by have := ha2 (by omega); simpa [wstep] using this
        clear hi ha2 hb1
        go_wp2
        · have hp : 0 < a / 4294967296 := by assumption
          go_round
          case rel => exact ⟨1, 1, a / 4294967296, b + 32, by omega, rfl, wst_yes H (by decide) (by decide) hp, by omega, ⟨by omega, by omega⟩, fun _ => by show _ < (4294967296 : Int); omega, by omega, by show _ + (31 : Int) ≤ 63; omega, rfl, rfl, rfl⟩
          case measure => simp [intOf]
        · have hn : a / 4294967296 ≤ 0 := by assumption
          go_round
          case rel => exact ⟨1, 1, a, b, by omega, rfl, wst_no H (by decide) hn, by omega, ⟨by omega, by omega⟩, fun _ => by show _ < (4294967296 : Int); omega, by omega, by show _ + (31 : Int) ≤ 63; omega, rfl, rfl, rfl⟩
          case measure => simp [intOf]
      | 1, _, hi, H, ha2, hb1 =>
        obtain rfl : i = 1 := hi
        have hb2 : b ≤ 32 := by have hb1' : b + (31 : Int) ≤ 63 := hb1; omega
        have ha3 : a < 4294967296 := by have := ha2 (by omega); simpa [wstep] using this
        clear hi ha2 hb1
        go_wp2
        · have hp : 0 < a / 65536 := by assumption
          go_round
          case rel => exact ⟨2, 2, a / 65536, b + 16, by omega, rfl, wst_yes H (by decide) (by decide) hp, by omega, ⟨by omega, by omega⟩, fun _ => by show _ < (65536 : Int); omega, by omega, by show _ + (15 : Int) ≤ 63; omega, rfl, rfl, rfl⟩
          case measure => simp [intOf]
        · have hn : a / 65536 ≤ 0 := by assumption
          go_round
          case rel => exact ⟨2, 2, a, b, by omega, rfl, wst_no H (by decide) hn, by omega, ⟨by omega, by omega⟩, fun _ => by show _ < (65536 : Int); omega, by omega, by show _ + (15 : Int) ≤ 63; omega, rfl, rfl, rfl⟩
          case measure => simp [intOf]
      | 2, _, hi, H, ha2, hb1 =>
        obtain rfl : i = 2 := hi
        have hb2 : b ≤ 48 := by have hb1' : b + (15 : Int) ≤ 63 := hb1; omega
        have ha3 : a < 65536 := by have := ha2 (by omega); simpa [wstep] using this
        clear hi ha2 hb1
        go_wp2
        · have hp : 0 < a / 256 := by assumption
          go_round
          case rel => exact ⟨3, 3, a / 256, b + 8, by omega, rfl, wst_yes H (by decide) (by decide) hp, by omega, ⟨by omega, by omega⟩, fun _ => by show _ < (256 : Int); omega, by omega, by show _ + (7 : Int) ≤ 63; omega, rfl, rfl, rfl⟩
          case measure => simp [intOf]
        · have hn : a / 256 ≤ 0 := by assumption
          go_round
          case rel => exact ⟨3, 3, a, b, by omega, rfl, wst_no H (by decide) hn, by omega, ⟨by omega, by omega⟩, fun _ => by show _ < (256 : Int); omega, by omega, by show _ + (7 : Int) ≤ 63; omega, rfl, rfl, rfl⟩
          case measure => simp [intOf]
      | 3, _, hi, H, ha2, hb1 =>
        obtain rfl : i = 3 := hi
        have hb2 : b ≤ 56 := by have hb1' : b + (7 : Int) ≤ 63 := hb1; omega
        have ha3 : a < 256 := by have := ha2 (by omega); simpa [wstep] using this
        clear hi ha2 hb1
        go_wp2
        · have hp : 0 < a / 16 := by assumption
          go_round
          case rel => exact ⟨4, 4, a / 16, b + 4, by omega, rfl, wst_yes H (by decide) (by decide) hp, by omega, ⟨by omega, by omega⟩, fun _ => by show _ < (16 : Int); omega, by omega, by show _ + (3 : Int) ≤ 63; omega, rfl, rfl, rfl⟩
          case measure => simp [intOf]
        · have hn : a / 16 ≤ 0 := by assumption
          go_round
          case rel => exact ⟨4, 4, a, b, by omega, rfl, wst_no H (by decide) hn, by omega, ⟨by omega, by omega⟩, fun _ => by show _ < (16 : Int); omega, by omega, by show _ + (3 : Int) ≤ 63; omega, rfl, rfl, rfl⟩
          case measure => simp [intOf]
      | 4, _, hi, H, ha2, hb1 =>
        obtain rfl : i = 4 := hi
        have hb2 : b ≤ 60 := by have hb1' : b + (3 : Int) ≤ 63 := hb1; omega
        have ha3 : a < 16 := by have := ha2 (by omega); simpa [wstep] using this
        clear hi ha2 hb1
        go_wp2
        · have hp : 0 < a / 4 := by assumption
          go_round
          case rel => exact ⟨5, 5, a / 4, b + 2, by omega, rfl, wst_yes H (by decide) (by decide) hp, by omega, ⟨by omega, by omega⟩, fun _ => by show _ < (4 : Int); omega, by omega, by show _ + (1 : Int) ≤ 63; omega, rfl, rfl, rfl⟩
          case measure => simp [intOf]
        · have hn : a / 4 ≤ 0 := by assumption
          go_round
          case rel => exact ⟨5, 5, a, b, by omega, rfl, wst_no H (by decide) hn, by omega, ⟨by omega, by omega⟩, fun _ => by show _ < (4 : Int); omega, by omega, by show _ + (1 : Int) ≤ 63; omega, rfl, rfl, rfl⟩
          case measure => simp [intOf]
      | 5, _, hi, H, ha2, hb1 =>
        obtain rfl : i = 5 := hi
        have hb2 : b ≤ 62 := by have hb1' : b + (1 : Int) ≤ 63 := hb1; omega
        have ha3 : a < 4 := by have := ha2 (by omega); simpa [wstep] using this
        clear hi ha2 hb1
        go_wp2
        · have hp : 0 < a / 2 := by assumption
          go_round
          case rel => exact ⟨6, 6, a / 2, b + 1, by omega, rfl, wst_yes H (by decide) (by decide) hp, by omega, ⟨by omega, fun _ => by omega⟩, by omega, by omega, by show _ + (0 : Int) ≤ 63; omega, rfl, rfl, rfl⟩
          case measure => simp [intOf]
        · have hn : a / 2 ≤ 0 := by assumption
          go_round
          case rel => exact ⟨6, 6, a, b, by omega, rfl, wst_no H (by decide) hn, by omega, ⟨by omega, fun _ => by omega⟩, by omega, by omega, by show _ + (0 : Int) ≤ 63; omega, rfl, rfl, rfl⟩
          case measure => simp [intOf]
    · obtain rfl : k = 6 := by omega
      obtain rfl : i = 6 := hi
      have hb2 : b ≤ 63 := by have hb1' : b + (0 : Int) ≤ 63 := hb1; omega
      have ha3 : a ≤ 1 := by simp_all
      clear ha2 hb1
      go_wp2
      go_ret
      have H' : wst x 6 = (a, b) := H
      rw [H']
      exact ⟨rfl, rfl⟩
theorem pow_pos2 : ∀ n : Nat, (0 : Int) < 2 ^ n
  | 0 => by decide
  | n + 1 => by rw [Int.pow_succ]; have := pow_pos2 n; omega
/-! How many bits -/
def blF : Nat → Int → Int
  | 0, _ => 0
  | d + 1, y => if y > 0 then 1 + blF d (y / 2) else 0
theorem blF_zero (d : Nat) {y : Int} (h : y ≤ 0) : blF d y = 0 := by
  cases d with
  | zero => rfl
  | succ d => simp only [blF]; rw [if_neg (by omega)]
theorem blF_more : ∀ (d : Nat) (y : Int), y < 2 ^ d → blF (d + 1) y = blF d y
  | 0, y, h => by
    simp only [blF]
    rw [if_neg (by simp at h; omega)]
  | d + 1, y, h => by
    have hh : y / 2 < 2 ^ d := by
      rw [Int.pow_succ] at h
      omega
    have := blF_more d (y / 2) hh
    rw [blF, this]
    rfl
theorem blF_ge : ∀ (e d : Nat) (y : Int), y < 2 ^ d → blF (d + e) y = blF d y
  | 0, _, _, _ => rfl
  | e + 1, d, y, h => by
    have h2 : y < 2 ^ (d + e) := by
      have : (2 : Int) ^ d ≤ 2 ^ (d + e) := by
        rw [Int.pow_add]
        have h1 : (1 : Int) ≤ 2 ^ e := pow_pos2 e
        have h0 : (0 : Int) ≤ 2 ^ d := Int.le_of_lt (pow_pos2 d)
        have := Int.mul_le_mul_of_nonneg_left h1 h0
        omega
      omega
    rw [← Nat.add_assoc, blF_more (d + e) y h2, blF_ge e d y h]
theorem blF_cut : ∀ (s d : Nat) (y : Int), 0 < y / 2 ^ s → blF (d + s) y = (s : Int) + blF d (y / 2 ^ s)
  | 0, d, y, _ => by simp
  | s + 1, d, y, h => by
    have e : y / 2 / 2 ^ s = y / 2 ^ (s + 1) := by
      rw [Int.ediv_ediv_of_nonneg (by decide), Int.pow_succ, Int.mul_comm]
    have hy : 0 < y := by
      rcases (by omega : 0 < y ∨ y ≤ 0) with h1 | h1
      · exact h1
      · have : y / 2 ^ (s + 1) ≤ 0 := by
          have h2 : (0 : Int) < 2 ^ (s + 1) := pow_pos2 _
          exact Int.ediv_le_of_le_mul h2 (by omega)
        omega
    rw [← Nat.add_assoc, blF, if_pos hy, blF_cut s d (y / 2) (by rw [e]; exact h), e]
    omega
/-- One step of Width. -/
theorem wst_step (x : Int) (k s : Nat) (hs : wstep k = s) (h : 0 ≤ (wst x k).1) (hb : (wst x k).1 < 2 ^ (s + s)) (_ : 0 < s) :
    0 ≤ (wst x (k + 1)).1 ∧ (wst x (k + 1)).1 < 2 ^ s ∧ (wst x (k + 1)).2 + blF s (wst x (k + 1)).1 = (wst x k).2 + blF (s + s) (wst x k).1 := by
  simp only [wst, hs]
  generalize wst x k = p at h hb ⊢
  obtain ⟨a, b⟩ := p
  simp only at h hb ⊢
  have h2 : (0 : Int) < 2 ^ s := pow_pos2 _
  by_cases c : a / 2 ^ s > 0
  · rw [if_pos c]
    refine ⟨by show 0 ≤ a / 2 ^ s; omega, ?_, ?_⟩
    · show a / 2 ^ s < 2 ^ s
      rw [Int.ediv_lt_iff_lt_mul h2, ← Int.pow_add]
      exact hb
    · show b + (s : Int) + blF s (a / 2 ^ s) = b + blF (s + s) a
      rw [blF_cut s s a c]
      omega
  · rw [if_neg c]
    have hlt : a < 2 ^ s := by
      rcases (by omega : a < 2 ^ s ∨ 2 ^ s ≤ a) with h1 | h1
      · exact h1
      · have : 1 ≤ a / 2 ^ s := (Int.le_ediv_iff_mul_le h2).2 (by omega)
        omega
    exact ⟨h, hlt, by show b + blF s a = _; rw [blF_ge s s a hlt]⟩
/-- nums.Width is the number of bits. -/
theorem width_is (x : Int) (h0 : 0 ≤ x) (h1 : x < 18446744073709551616) : (wst x 6).2 + (wst x 6).1 = blF 64 x := by
  have a0 : 0 ≤ (wst x 0).1 ∧ (wst x 0).1 < 2 ^ (32 + 32) ∧ (wst x 0).2 + blF (32 + 32) (wst x 0).1 = blF 64 x := ⟨h0, by simpa [wst] using h1, by simp [wst]⟩
  have a1 := wst_step x 0 32 rfl a0.1 a0.2.1 (by decide)
  have a2 := wst_step x 1 16 rfl a1.1 a1.2.1 (by decide)
  have a3 := wst_step x 2 8 rfl a2.1 a2.2.1 (by decide)
  have a4 := wst_step x 3 4 rfl a3.1 a3.2.1 (by decide)
  have a5 := wst_step x 4 2 rfl a4.1 a4.2.1 (by decide)
  have a6 := wst_step x 5 1 rfl a5.1 a5.2.1 (by decide)
  have e : (wst x 6).2 + blF 1 (wst x 6).1 = blF 64 x := by
    rw [a6.2.2, show 1 + 1 = 2 from rfl, a5.2.2, show 2 + 2 = 4 from rfl, a4.2.2, show 4 + 4 = 8 from rfl, a3.2.2, show 8 + 8 = 16 from rfl, a2.2.2, show 16 + 16 = 32 from rfl, a1.2.2]
    exact a0.2.2
  rw [← e]
  have hlt : (wst x 6).1 < 2 := by have := a6.2.1; simpa using this
  have hge := a6.1
  generalize (wst x 6).1 = a at hlt hge ⊢
  have : a = 0 ∨ a = 1 := by omega
  rcases this with rfl | rfl <;> simp [blF]

open Go.Proofs.Ytfanomllfgoakaa.ChunkMath in
theorem blF_blen : ∀ (d n : Nat), n < 2 ^ d → blF d (n : Int) = (blen n : Int)
  | 0, n, h => by
    have : n = 0 := by simpa using h
    subst this
    rw [blen_zero]; rfl
  | d + 1, n, h => by
    by_cases h0 : n = 0
    · subst h0; rw [blen_zero]; exact blF_zero _ (by decide)
    · rw [blen_pos n h0]
      have ih := blF_blen d (n / 2) (by rw [Nat.pow_succ] at h; omega)
      have e : ((n / 2 : Nat) : Int) = (n : Int) / 2 := by omega
      rw [e] at ih
      unfold blF
      rw [if_pos (by omega), ih]
      omega
open Go.Proofs.Ytfanomllfgoakaa.ChunkMath in
theorem width_blen (n : Nat) (h : n < 18446744073709551616) (w : World) :
    Calls Try.prog 32 #[.int .u64 (n : Int)] w fun e w' => e = .returned (.int .i64 (blen n : Int)) ∧ w = w' := by
  have e := width_is (n : Int) (by omega) (by omega)
  rw [blF_blen 64 n (by simpa using h)] at e
  rw [← e]
  exact width_calls (n : Int) (by omega) (by omega) w
end Go.Proofs.Ytfanomllfgoakaa
