/- slots.Row's Next, walked. -/
import Derived.Test.YtdbhejckpkifoaaSlotE
import Derived.Lib.Hide
import Derived.LoopTactic
import Derived.Outline
import Derived.Laws.Rows
import Derived.Laws.CopyOwn
import Derived.WalkKit
set_option linter.unusedVariables false
set_option linter.unusedSimpArgs false
namespace Go.Proofs.Ytdbhejckpkifoaa
open Go.RowKit Go.Proofs.YtdbhejckpkifoaaW.PrintWords Go.Proofs.YtdbhejckpkifoaaW.PrintLast Go.Proofs.YtdbhejckpkifoaaW.PrintMore
open Go.Proofs.Ytdbhejckpkifoaa.PSlotsBack
attribute [local go_sem] max2_int min2_int max_two min_two max_three min_three max_four min_four


/-- From the number n on: the least whose slot is not free, of r tries that are left. -/
def nextI (l : List ByteArray) (n : Nat) : Nat → Int × Bool
  | 0 => (0, false)
  | r + 1 => if (n + (8 - (r + 1))) % 18446744073709551616 < n then (0, false) else if (l.getD ((n + (8 - (r + 1))) % 8) ⟨#[]⟩).toList.isEmpty then nextI l n r else (((n + (8 - (r + 1)) : Nat) : Int), true)
set_option maxRecDepth 100000 in
set_option maxHeartbeats 8000000 in
theorem next_calls (p : Nat) (l : List ByteArray) (n : Nat) (w : World) (h : IsRow p l w) (hn : n < 18446744073709551616) :
    Calls Try.prog 16 #[.pointer (some ⟨p, 0, none⟩), .int .u64 (n : Int)] w fun e w' => e = .returned (.tuple #[.int .u64 (nextI l n 8).1, .bool (nextI l n 8).2]) ∧ w = w' := by
  have H := Aside0.mk h
  obtain ⟨R, hR⟩ : ∃ R, R = nextI l n 8 := ⟨_, rfl⟩
  have HR0 := Aside0.mk (show nextI l n (8 - 0) = R from hR.symm)
  rw [← hR]
  clear h hR
  go_enter Try.func16, Try.ntmps16
  go_wp2_with fail
  go_loopw [9] (fun v9 wr => ∃ k : Nat, k ≤ 8 ∧ v9 = .int .u64 (k : Int) ∧ w = wr ∧ Aside0 (nextI l n (8 - k) = R)) (fun v _ => 8 - (intOf v).toNat)
  case atStart => exact ⟨0, by omega, rfl, rfl, HR0⟩
  case round =>
    obtain ⟨k, hk, rfl, rfl, HR⟩ := hrel
    by_cases hlt : k < 8
    · have hk8 : (k : Int) < 8 := by omega
      have hs : 8 - k = (8 - (k + 1)) + 1 := by omega
      have hrr := HR.out
      rw [hs] at hrr
      unfold nextI at hrr
      rw [← hs, show 8 - (8 - k) = k by omega] at hrr
      by_cases hov : (n + k) % 18446744073709551616 < n
      · rw [if_pos hov] at hrr
        have hw : decide (IntKind.u64.wrap ((n : Int) + (k : Int)) < (n : Int)) = true := decide_eq_true (by rw [IntKind.wrap_u64]; omega)
        have hw2 : decide (((n : Int) + (k : Int)) % 18446744073709551616 < (n : Int)) = true := decide_eq_true (by omega)
        subst hrr
        clear hov hs
        go_wp2
        go_ret2
        exact ⟨rfl, rfl⟩
      · rw [if_neg hov] at hrr
        have hsum : n + k < 18446744073709551616 := by omega
        have hw : IntKind.u64.wrap ((n : Int) + (k : Int)) = (n : Int) + (k : Int) := by rw [IntKind.wrap_u64]; omega
        have hw2 : decide ((n : Int) + (k : Int) < (n : Int)) = false := decide_eq_false (by omega)
        have hc := turn_calls p l ((n : Int) + (k : Int)) w H.out (by omega)
        rw [show (((n : Int) + (k : Int)) % 8).toNat = (n + k) % 8 by omega] at hc
        obtain ⟨x, hx⟩ : ∃ x, x = l.getD ((n + k) % 8) ⟨#[]⟩ := ⟨_, rfl⟩
        rw [← hx] at hc hrr
        have HC := Lib.hid hc
        clear hc hov hs hx
        by_cases he : x.toList.isEmpty = true
        · rw [if_pos he] at hrr
          have HN := Aside0.mk hrr
          rw [he] at HC
          clear hrr he
          have hkw : IntKind.u64.wrap ((k : Int) + 1) = (k : Int) + 1 := by rw [IntKind.wrap_u64]; omega
          go_wp2_with fail
          refine HC.out.mono ?_
          rintro e w2 ⟨rfl, rfl⟩
          go_wp2
          go_roundw
          case rel => exact ⟨k + 1, by omega, by simp, trivial, HN⟩
          case measure => simp [intOf]; omega
        · have he' : x.toList.isEmpty = false := by simpa using he
          rw [if_neg he] at hrr
          rw [he'] at HC
          subst hrr
          clear he he'
          go_wp2_with fail
          refine HC.out.mono ?_
          rintro e w2 ⟨rfl, rfl⟩
          go_wp2
          go_ret2
          exact ⟨by simp, rfl⟩
    · have hke : k = 8 := by omega
      subst hke
      have hrr := HR.out
      unfold nextI at hrr
      subst hrr
      go_wp2
      go_ret2
      exact ⟨rfl, rfl⟩
end Go.Proofs.Ytdbhejckpkifoaa
