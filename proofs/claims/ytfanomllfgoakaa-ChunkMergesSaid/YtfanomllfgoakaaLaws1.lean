/- The laws of bits: lives, BitsNone, BitsParts: walked over the contracts of Writer and Reader. -/
import Derived.Test.YtfanomllfgoakaaReader
import Derived.Deep.RegionHeld3
import Derived.Deep.DrawnRows
set_option linter.unusedVariables false
namespace Go.Proofs.Ytfanomllfgoakaa
open Go.RowKit Go.Proofs.YtfanomllfgoakaaW.PrintWords Go.Proofs.YtfanomllfgoakaaW.PrintLast Go.Proofs.YtfanomllfgoakaaW.PrintMore
open Go.Proofs.Ytfanomllfgoakaa.BitsMath Go.Proofs.Ytfanomllfgoakaa.ChunkMath

theorem conv_own {w : World} {base n : Nat} {v : Value} {xs : List Int} (h : w.ownsRow base 5 1 v n (nums .u8 xs)) : (convert 25 9 v).run Try.prog w = .ok (.string (strOfNums xs)) w :=
  own_string Try.underlying25 Try.underlying5 Try.underlying9 h
theorem put_ok_i (p : Nat) (bs : List Bool) (x n : Int) (w : World) (hx0 : 0 ≤ x) (hx : x < 18446744073709551616) (h0 : 0 ≤ n) (h1 : n ≤ 64) (hr : x < 2 ^ n.toNat) (hw : IsW p bs w) (hn : bs.length ≤ 1000000000) :
    Calls Try.prog 12 #[.pointer (some ⟨p, 0, none⟩), .int .u64 x, .int .i64 n] w fun e w' => e = .returned (.int .i64 0) ∧ WStep p w w' (bs ++ bitsOf x.toNat n.toNat) := by
  obtain ⟨m, rfl⟩ := Int.eq_ofNat_of_zero_le hx0
  have hb : blen m ≤ n.toNat := (blen_le _ _).2 (by
    have : ((m : Nat) : Int) < ((2 ^ n.toNat : Nat) : Int) := by simpa using hr
    omega)
  exact put_ok p bs m n w (by omega) h0 h1 (decide_eq_false (by omega)) hw hn

set_option maxHeartbeats 2000000 in
theorem lives_calls (w : World) : Calls Try.prog 11 #[] w fun e w' => e = .returned (.bool true) ∧ Below w.heap.size w w' := by
  go_enter Try.func11, Try.ntmps11
  go_wp2_with fail
  refine (put_ok_i w.heap.size [] 5 3 _ (by omega) (by omega) (by omega) (by omega) (by decide) (IsW.new w) (by decide)).mono ?_
  rintro e w1 ⟨rfl, h1⟩
  have H1 := Aside0.mk h1
  clear h1
  go_wp2_with fail
  refine (put_ok_i w.heap.size _ 1 2 _ (by omega) (by omega) (by omega) (by omega) (by decide) H1.out.is (by decide)).mono ?_
  rintro e w2 ⟨rfl, h2⟩
  have H2 := Aside0.mk (H1.out.trans h2)
  clear h2 H1
  go_wp2_with fail
  refine (bytesW_calls w.heap.size _ _ H2.out.is (by decide)).mono ?_
  rintro e w3 ⟨v, rfl, hr, hb⟩
  have hc : (convert 25 9 v).run Try.prog w3 = .ok (.string ⟨#[168]⟩) w3 := conv_own hr
  have HB := Aside0.mk hb
  have HW := Aside0.mk (H2.out.is.kept (Keep.of_below hb) fun i hi => by have := H2.out.is.foot_lt hi; omega).1
  clear hr hb
  go_wp2_with fail
  refine (lenW_calls w.heap.size _ _ HW.out).mono ?_
  rintro e w4 ⟨rfl, rfl⟩
  go_wp2
  go_ret
  refine ⟨rfl, ?_⟩
  have k := H2.out.keep
  have k2 : Below w.heap.size (w.alloc (.cells #[.slice none 0 0, .int .i64 0] 27)) w2 := k.to_below (fun i hi => by rw [WFoot.new w i hi]; exact Nat.le_refl _) (by simp)
  exact (((Below.refl _ w).alloc (Nat.le_refl _) _).trans k2).trans (HB.out.mono (by have := k2.size; simp at this; omega))
set_option maxHeartbeats 4000000 in
theorem none_calls (x n : Int) (w : World) : Calls Try.prog 5 #[.int .u64 x, .int .i64 n] w fun e w' => e = .returned (.bool true) ∧ Below w.heap.size w w' := by
  go_enter Try.func5, Try.ntmps5
  go_wp2_with fail
  refine (lives_calls _).mono ?_
  rintro e w1 ⟨rfl, hb⟩
  have HB := Aside0.mk hb
  clear hb
  go_wp2_with fail
  refine (get_nil n _).mono ?_
  rintro e w2 ⟨rfl, rfl⟩
  go_wp2_with fail
  refine (unaryR_nil n _).mono ?_
  rintro e w2 ⟨rfl, rfl⟩
  go_wp2_with fail
  refine (put_nil x n _).mono ?_
  rintro e w2 ⟨rfl, rfl⟩
  go_wp2_with fail
  refine (unaryW_nil n _).mono ?_
  rintro e w2 ⟨rfl, rfl⟩
  go_wp2_with fail
  refine (lenW_nil _).mono ?_
  rintro e w2 ⟨rfl, rfl⟩
  go_wp2_with fail
  refine (bytesW_nil _).mono ?_
  rintro e w2 ⟨rfl, rfl⟩
  go_wp2_with fail
  refine (left_nil _).mono ?_
  rintro e w2 ⟨rfl, rfl⟩
  go_wp2_with fail
  refine (rest_nil _).mono ?_
  rintro e w2 ⟨rfl, rfl⟩
  go_wp2
  go_ret
  exact ⟨rfl, HB.out⟩
theorem bitsNone_walk (x n : Int) (w : World) (_ : (Lit.int .u64 x).wf = true) (_ : (Lit.int .i64 n).wf = true) : Calls Try.prog 5 #[.int .u64 x, .int .i64 n] w fun e w' => e = .returned (.bool true) ∧ Below w.heap.size w w' := none_calls x n w
end Go.Proofs.Ytfanomllfgoakaa
