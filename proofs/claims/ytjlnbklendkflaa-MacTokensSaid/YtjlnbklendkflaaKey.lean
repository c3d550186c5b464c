/- hash.key: the number of a round, walked. -/
import Derived.Test.YtjlnbklendkflaaProg
import Derived.Test.YtjlnbklendkflaaWMore
import Derived.Lib.Hide
import Derived.LoopTactic
import Derived.Outline
set_option linter.unusedVariables false
set_option linter.unusedSimpArgs false
namespace Go.Proofs.Ytjlnbklendkflaa
open Go.RowKit Go.Proofs.YtjlnbklendkflaaW.PrintWords Go.Proofs.YtjlnbklendkflaaW.PrintLast Go.Proofs.YtjlnbklendkflaaW.PrintMore

/-- The numbers of the rounds. -/
def KS : List Int := [1116352408, 1899447441, 3049323471, 3921009573, 961987163, 1508970993, 2453635748, 2870763221, 3624381080, 310598401, 607225278, 1426881987, 1925078388, 2162078206, 2614888103, 3248222580, 3835390401, 4022224774, 264347078, 604807628, 770255983, 1249150122, 1555081692, 1996064986, 2554220882, 2821834349, 2952996808, 3210313671, 3336571891, 3584528711, 113926993, 338241895, 666307205, 773529912, 1294757372, 1396182291, 1695183700, 1986661051, 2177026350, 2456956037, 2730485921, 2820302411, 3259730800, 3345764771, 3516065817, 3600352804, 4094571909, 275423344, 430227734, 506948616, 659060556, 883997877, 958139571, 1322822218, 1537002063, 1747873779, 1955562222, 2024104815, 2227730452, 2361852424, 2428436474, 2756734187, 3204031479, 3329325298]
theorem kix : ∀ (n : Nat) (h : n < 64) (w : World), (Instr.index 47 (.agg #[.int .u32 1116352408, .int .u32 1899447441, .int .u32 3049323471, .int .u32 3921009573, .int .u32 961987163, .int .u32 1508970993, .int .u32 2453635748, .int .u32 2870763221, .int .u32 3624381080, .int .u32 310598401, .int .u32 607225278, .int .u32 1426881987, .int .u32 1925078388, .int .u32 2162078206, .int .u32 2614888103, .int .u32 3248222580, .int .u32 3835390401, .int .u32 4022224774, .int .u32 264347078, .int .u32 604807628, .int .u32 770255983, .int .u32 1249150122, .int .u32 1555081692, .int .u32 1996064986, .int .u32 2554220882, .int .u32 2821834349, .int .u32 2952996808, .int .u32 3210313671, .int .u32 3336571891, .int .u32 3584528711, .int .u32 113926993, .int .u32 338241895, .int .u32 666307205, .int .u32 773529912, .int .u32 1294757372, .int .u32 1396182291, .int .u32 1695183700, .int .u32 1986661051, .int .u32 2177026350, .int .u32 2456956037, .int .u32 2730485921, .int .u32 2820302411, .int .u32 3259730800, .int .u32 3345764771, .int .u32 3516065817, .int .u32 3600352804, .int .u32 4094571909, .int .u32 275423344, .int .u32 430227734, .int .u32 506948616, .int .u32 659060556, .int .u32 883997877, .int .u32 958139571, .int .u32 1322822218, .int .u32 1537002063, .int .u32 1747873779, .int .u32 1955562222, .int .u32 2024104815, .int .u32 2227730452, .int .u32 2361852424, .int .u32 2428436474, .int .u32 2756734187, .int .u32 3204031479, .int .u32 3329325298]) (.int .i64 (n : Int))).run Try.prog w = .ok (.int .u32 (KS.getD n 0)) w
  | 0, _, w => by kernel_rfl
  | 1, _, w => by kernel_rfl
  | 2, _, w => by kernel_rfl
  | 3, _, w => by kernel_rfl
  | 4, _, w => by kernel_rfl
  | 5, _, w => by kernel_rfl
  | 6, _, w => by kernel_rfl
  | 7, _, w => by kernel_rfl
  | 8, _, w => by kernel_rfl
  | 9, _, w => by kernel_rfl
  | 10, _, w => by kernel_rfl
  | 11, _, w => by kernel_rfl
  | 12, _, w => by kernel_rfl
  | 13, _, w => by kernel_rfl
  | 14, _, w => by kernel_rfl
  | 15, _, w => by kernel_rfl
  | 16, _, w => by kernel_rfl
  | 17, _, w => by kernel_rfl
  | 18, _, w => by kernel_rfl
  | 19, _, w => by kernel_rfl
  | 20, _, w => by kernel_rfl
  | 21, _, w => by kernel_rfl
  | 22, _, w => by kernel_rfl
  | 23, _, w => by kernel_rfl
  | 24, _, w => by kernel_rfl
  | 25, _, w => by kernel_rfl
  | 26, _, w => by kernel_rfl
  | 27, _, w => by kernel_rfl
  | 28, _, w => by kernel_rfl
  | 29, _, w => by kernel_rfl
  | 30, _, w => by kernel_rfl
  | 31, _, w => by kernel_rfl
  | 32, _, w => by kernel_rfl
  | 33, _, w => by kernel_rfl
  | 34, _, w => by kernel_rfl
  | 35, _, w => by kernel_rfl
  | 36, _, w => by kernel_rfl
  | 37, _, w => by kernel_rfl
  | 38, _, w => by kernel_rfl
  | 39, _, w => by kernel_rfl
  | 40, _, w => by kernel_rfl
  | 41, _, w => by kernel_rfl
  | 42, _, w => by kernel_rfl
  | 43, _, w => by kernel_rfl
  | 44, _, w => by kernel_rfl
  | 45, _, w => by kernel_rfl
  | 46, _, w => by kernel_rfl
  | 47, _, w => by kernel_rfl
  | 48, _, w => by kernel_rfl
  | 49, _, w => by kernel_rfl
  | 50, _, w => by kernel_rfl
  | 51, _, w => by kernel_rfl
  | 52, _, w => by kernel_rfl
  | 53, _, w => by kernel_rfl
  | 54, _, w => by kernel_rfl
  | 55, _, w => by kernel_rfl
  | 56, _, w => by kernel_rfl
  | 57, _, w => by kernel_rfl
  | 58, _, w => by kernel_rfl
  | 59, _, w => by kernel_rfl
  | 60, _, w => by kernel_rfl
  | 61, _, w => by kernel_rfl
  | 62, _, w => by kernel_rfl
  | 63, _, w => by kernel_rfl
  | n + 64, h, w => by omega
set_option maxRecDepth 100000 in
set_option maxHeartbeats 4000000 in
theorem key_calls (n : Nat) (h : n < 64) (w : World) : Calls Try.prog 40 #[.int .i64 (n : Int)] w fun e w' => e = .returned (.int .u32 (KS.getD n 0)) ∧ w = w' := by
  have hk := kix n h w
  obtain ⟨r, hr⟩ : ∃ r, r = KS.getD n 0 := ⟨_, rfl⟩
  rw [← hr] at hk ⊢
  clear hr h
  go_enter Try.func40, Try.ntmps40
  go_wp2
  go_ret
  exact ⟨rfl, rfl⟩
end Go.Proofs.Ytjlnbklendkflaa
