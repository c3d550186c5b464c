/- nums.Width: how many bits a number has (how often it can be halved): walked, step by step over the six steps of its array. No condition. -/
import Derived.Test.YtbfjfplhgdnipaaProg
import Derived.WalkKit
import Derived.LoopTactic
import Derived.OwnWalk
import Derived.KernelRfl
import Derived.Deep.LoopGhost
import Derived.Test.YtbfjfplhgdnipaaWMore
import Derived.Lib.Hide
namespace Go.Proofs.Ytbfjfplhgdnipaa
open Go.RowKit Go.Proofs.YtbfjfplhgdnipaaW.PrintWords Go.Proofs.YtbfjfplhgdnipaaW.PrintLast Go.Proofs.YtbfjfplhgdnipaaW.PrintMore

def wstep (k : Nat) : Nat := [32, 16, 8, 4, 2, 1].getD k 0
def wrem (k : Nat) : Int := [63, 31, 15, 7, 3, 1, 0].getD k 0
/-- Behind k steps: the number, and the bits counted. -/
def wst (x : Int) : Nat → Int × Int
  | 0 => (x, 0)
  | k + 1 => if (wst x k).1 / 2 ^ wstep k > 0 then ((wst x k).1 / 2 ^ wstep k, (wst x k).2 + wstep k) else wst x k
theorem wst_yes {x a b s c : Int} {k : Nat} (H : Hid (wst x k = (a, b))) (hs : ((2 : Int) ^ wstep k) = s) (hc : (wstep k : Int) = c) (h : 0 < a / s) : Hid (wst x (k + 1) = (a / s, b + c)) := by
  show wst x (k + 1) = _
  have H' : wst x k = (a, b) := H
  subst hs hc
  simp only [wst, H']
  rw [if_pos h]
theorem wst_no {x a b s : Int} {k : Nat} (H : Hid (wst x k = (a, b))) (hs : ((2 : Int) ^ wstep k) = s) (h : a / s ≤ 0) : Hid (wst x (k + 1) = (a, b)) := by
  show wst x (k + 1) = _
  have H' : wst x k = (a, b) := H
  subst hs
  simp only [wst, H']
  rw [if_neg (by omega)]

theorem ix0 : ∀ w, (Instr.index 53 (.agg #[.int .u64 32, .int .u64 16, .int .u64 8, .int .u64 4, .int .u64 2, .int .u64 1]) (.int .i64 0)).run Try.prog w = .ok (.int .u64 32) w := fun _ => by kernel_rfl
theorem ix1 : ∀ w, (Instr.index 53 (.agg #[.int .u64 32, .int .u64 16, .int .u64 8, .int .u64 4, .int .u64 2, .int .u64 1]) (.int .i64 1)).run Try.prog w = .ok (.int .u64 16) w := fun _ => by kernel_rfl
theorem ix2 : ∀ w, (Instr.index 53 (.agg #[.int .u64 32, .int .u64 16, .int .u64 8, .int .u64 4, .int .u64 2, .int .u64 1]) (.int .i64 2)).run Try.prog w = .ok (.int .u64 8) w := fun _ => by kernel_rfl
theorem ix3 : ∀ w, (Instr.index 53 (.agg #[.int .u64 32, .int .u64 16, .int .u64 8, .int .u64 4, .int .u64 2, .int .u64 1]) (.int .i64 3)).run Try.prog w = .ok (.int .u64 4) w := fun _ => by kernel_rfl
theorem ix4 : ∀ w, (Instr.index 53 (.agg #[.int .u64 32, .int .u64 16, .int .u64 8, .int .u64 4, .int .u64 2, .int .u64 1]) (.int .i64 4)).run Try.prog w = .ok (.int .u64 2) w := fun _ => by kernel_rfl
theorem ix5 : ∀ w, (Instr.index 53 (.agg #[.int .u64 32, .int .u64 16, .int .u64 8, .int .u64 4, .int .u64 2, .int .u64 1]) (.int .i64 5)).run Try.prog w = .ok (.int .u64 1) w := fun _ => by kernel_rfl

set_option maxHeartbeats 1000000 in
theorem width_calls (x : Int) (h0 : 0 ≤ x) (h1 : x < 18446744073709551616) (w : World) :
    Calls Try.prog 12 #[.int .u64 x] w fun e w' => e = .returned (.int .i64 ((wst x 6).2 + (wst x 6).1)) ∧ w = w' := by
  have j0 := ix0
  have j1 := ix1
  have j2 := ix2
  have j3 := ix3
  have j4 := ix4
  have j5 := ix5
  go_enter Try.func12, Try.ntmps12
  go_wp2
  go_loop [0, 3, 7] (fun v0 v3 v7 => ∃ (k : Nat) (i a b : Int), k ≤ 6 ∧ i = (k : Int) ∧ Hid (wst x k = (a, b)) ∧ 0 ≤ a ∧ (a < 18446744073709551616 ∧ (k = 6 → a ≤ 1)) ∧ (k < 6 → a < 2 ^ (2 * wstep k)) ∧ 0 ≤ b ∧ b + wrem k ≤ 63 ∧ v7 = .int .i64 i ∧ v0 = .int .u64 a ∧ v3 = .int .i64 b) (fun _ _ i => 6 - (intOf i).toNat)
  case atStart => exact ⟨0, 0, x, 0, by omega, rfl, rfl, h0, ⟨h1, by omega⟩, fun _ => by simpa [wstep] using h1, by omega, by decide, rfl, rfl, rfl⟩
  case round =>
    obtain ⟨k, i, a, b, hk, hi, H, ha0, ⟨ha1, _⟩, ha2, hb0, hb1, rfl, rfl, rfl⟩ := hrel
    by_cases hlt : k < 6
    · match k, hlt, hi, H, ha2, hb1 with
      | 0, _, hi, H, ha2, hb1 =>
        obtain rfl : i = 0 := hi
        have hb2 : b ≤ 0 := by have hb1' : b + (63 : Int) ≤ 63 := hb1; omega
        have ha3 : a < 18446744073709551616 := by have := ha2 (by omega); simpa [wstep] using this
        clear hi ha2 hb1
        go_wp2
        · have hp : 0 < a / 4294967296 := by assumption
          go_round
          case rel => exact ⟨1, 1, a / 4294967296, b + 32, by omega, rfl, wst_yes H (by decide) (by decide) hp, by omega, ⟨by omega, by omega⟩, fun _ => by show _ < (4294967296 : Int); omega, by omega, by show _ + (31 : Int) ≤ 63; omega, rfl, rfl, rfl⟩
          case measure => simp [intOf]
        · have hn : a / 4294967296 ≤ 0 := by assumption
          go_round
          case rel => exact ⟨1, 1, a, b, by omega, rfl, wst_no H (by decide) hn, by omega, ⟨by omega, by omega⟩, fun _ => by show _ < (4294967296 : Int); omega, by omega, by show _ + (31 : Int) ≤ 63; omega, rfl, rfl, rfl⟩
          case measure => simp [intOf]
      | 1, _, hi, H, ha2, hb1 =>
        obtain rfl : i = 1 := hi
        have hb2 : b ≤ 32 := by have hb1' : b + (31 : Int) ≤ 63 := hb1; omega
        have ha3 : a < 4294967296 := by have := ha2 (by omega); simpa [wstep] using this
        clear hi ha2 hb1
        go_wp2
        · have hp : 0 < a / 65536 := by assumption
          go_round
          case rel => exact ⟨2, 2, a / 65536, b + 16, by omega, rfl, wst_yes H (by decide) (by decide) hp, by omega, ⟨by omega, by omega⟩, fun _ => by show _ < (65536 : Int); omega, by omega, by show _ + (15 : Int) ≤ 63; omega, rfl, rfl, rfl⟩
          case measure => simp [intOf]
        · have hn : a / 65536 ≤ 0 := by assumption
          go_round
          case rel => exact ⟨2, 2, a, b, by omega, rfl, wst_no H (by decide) hn, by omega, ⟨by omega, by omega⟩, fun _ => by show _ < (65536 : Int); omega, by omega, by show _ + (15 : Int) ≤ 63; omega, rfl, rfl, rfl⟩
          case measure => simp [intOf]
      | 2, _, hi, H, ha2, hb1 =>
        obtain rfl : i = 2 := hi
        have hb2 : b ≤ 48 := by have hb1' : b + (15 : Int) ≤ 63 := hb1; omega
        have ha3 : a < 65536 := by have := ha2 (by omega); simpa [wstep] using this
        clear hi ha2 hb1
        go_wp2
        · have hp : 0 < a / 256 := by assumption
          go_round
          case rel => exact ⟨3, 3, a / 256, b + 8, by omega, rfl, wst_yes H (by decide) (by decide) hp, by omega, ⟨by omega, by omega⟩, fun _ => by show _ < (256 : Int); omega, by omega, by show _ + (7 : Int) ≤ 63; omega, rfl, rfl, rfl⟩
          case measure => simp [intOf]
        · have hn : a / 256 ≤ 0 := by assumption
          go_round
          case rel => exact ⟨3, 3, a, b, by omega, rfl, wst_no H (by decide) hn, by omega, ⟨by omega, by omega⟩, fun _ => by show _ < (256 : Int); omega, by omega, by show _ + (7 : Int) ≤ 63; omega, rfl, rfl, rfl⟩
          case measure => simp [intOf]
      | 3, _, hi, H, ha2, hb1 =>
        obtain rfl : i = 3 := hi
        have hb2 : b ≤ 56 := by have hb1' : b + (7 : Int) ≤ 63 := hb1; omega
        have ha3 : a < 256 := by have := ha2 (by omega); simpa [wstep] using this
        clear hi ha2 hb1
        go_wp2
        · have hp : 0 < a / 16 := by assumption
          go_round
          case rel => exact ⟨4, 4, a / 16, b + 4, by omega, rfl, wst_yes H (by decide) (by decide) hp, by omega, ⟨by omega, by omega⟩, fun _ => by show _ < (16 : Int); omega, by omega, by show _ + (3 : Int) ≤ 63; omega, rfl, rfl, rfl⟩
          case measure => simp [intOf]
        · have hn : a / 16 ≤ 0 := by assumption
          go_round
          case rel => exact ⟨4, 4, a, b, by omega, rfl, wst_no H (by decide) hn, by omega, ⟨by omega, by omega⟩, fun _ => by show _ < (16 : Int); omega, by omega, by show _ + (3 : Int) ≤ 63; omega, rfl, rfl, rfl⟩
          case measure => simp [intOf]
      | 4, _, hi, H, ha2, hb1 =>
        obtain rfl : i = 4 := hi
        have hb2 : b ≤ 60 := by have hb1' : b + (3 : Int) ≤ 63 := hb1; omega
        have ha3 : a < 16 := by have := ha2 (by omega); simpa [wstep] using this
        clear hi ha2 hb1
        go_wp2
        · have hp : 0 < a / 4 := by assumption
          go_round
          case rel => exact ⟨5, 5, a / 4, b + 2, by omega, rfl, wst_yes H (by decide) (by decide) hp, by omega, ⟨by omega, by omega⟩, fun _ => by show _ < (4 : Int); omega, by omega, by show _ + (1 : Int) ≤ 63; omega, rfl, rfl, rfl⟩
          case measure => simp [intOf]
        · have hn : a / 4 ≤ 0 := by assumption
          go_round
          case rel => exact ⟨5, 5, a, b, by omega, rfl, wst_no H (by decide) hn, by omega, ⟨by omega, by omega⟩, fun _ => by show _ < (4 : Int); omega, by omega, by show _ + (1 : Int) ≤ 63; omega, rfl, rfl, rfl⟩
          case measure => simp [intOf]
      | 5, _, hi, H, ha2, hb1 =>
        obtain rfl : i = 5 := hi
        have hb2 : b ≤ 62 := by have hb1' : b + (1 : Int) ≤ 63 := hb1; omega
        have ha3 : a < 4 := by have := ha2 (by omega); simpa [wstep] using this
        clear hi ha2 hb1
        go_wp2
        · have hp : 0 < a / 2 := by assumption
          go_round
          case rel => exact ⟨6, 6, a / 2, b + 1, by omega, rfl, wst_yes H (by decide) (by decide) hp, by omega, ⟨by omega, fun _ => by omega⟩, by omega, by omega, by show _ + (0 : Int) ≤ 63; omega, rfl, rfl, rfl⟩
          case measure => simp [intOf]
        · have hn : a / 2 ≤ 0 := by assumption
          go_round
          case rel => exact ⟨6, 6, a, b, by omega, rfl, wst_no H (by decide) hn, by omega, ⟨by omega, fun _ => by omega⟩, by omega, by omega, by show _ + (0 : Int) ≤ 63; omega, rfl, rfl, rfl⟩
          case measure => simp [intOf]
    · obtain rfl : k = 6 := by omega
      obtain rfl : i = 6 := hi
      have hb2 : b ≤ 63 := by have hb1' : b + (0 : Int) ≤ 63 := hb1; omega
      have ha3 : a ≤ 1 := by simp_all
      clear ha2 hb1
      go_wp2
      go_ret
      have H' : wst x 6 = (a, b) := H
      rw [H']
      exact ⟨rfl, rfl⟩
end Go.Proofs.Ytbfjfplhgdnipaa
