/- The slots' lives, walked. -/
import Derived.Test.YtdbhejckpkifoaaSlotA
import Derived.Lib.Hide
import Derived.LoopTactic
import Derived.Outline
import Derived.Laws.Rows
import Derived.Laws.CopyOwn
import Derived.WalkKit
set_option linter.unusedVariables false
set_option linter.unusedSimpArgs false
namespace Go.Proofs.Ytdbhejckpkifoaa
open Go.RowKit Go.Proofs.YtdbhejckpkifoaaW.PrintWords Go.Proofs.YtdbhejckpkifoaaW.PrintLast Go.Proofs.YtdbhejckpkifoaaW.PrintMore
open Go.Proofs.Ytdbhejckpkifoaa.PSlotsBack
attribute [local go_sem] max2_int min2_int max_two min_two max_three min_three max_four min_four


def E8 : List ByteArray := List.replicate 8 ⟨#[]⟩
theorem keep_below {p : Nat} {w0 w1 w2 : World} (h : Below w0.heap.size w0 w1) (k : Keep (fun g => g = p) w1 w2) (hp : w0.heap.size ≤ p) : Below w0.heap.size w0 w2 :=
  h.trans (k.to_below (fun i hi => by omega) h.size)
set_option maxRecDepth 100000 in
set_option maxHeartbeats 8000000 in
theorem lives24_calls (w : World) : Calls Try.prog 10 #[] w fun e w' => e = .returned (.bool true) ∧ Below w.heap.size w w' := by
  have HT1 := Lib.hid (fun W (h : IsRow w.heap.size (List.replicate 8 ⟨#[]⟩) W) => take_ok w.heap.size _ ⟨#[97]⟩ 40 W 0 h (by decide +kernel) (by decide +kernel) (by decide +kernel))
  have HT2 := Lib.hid (fun W (h : IsRow w.heap.size ((List.replicate 8 ⟨#[]⟩).set 0 ⟨#[97]⟩) W) => take_ok w.heap.size _ ⟨#[98]⟩ 40 W 1 h (by decide +kernel) (by decide +kernel) (by decide +kernel))
  have HG := Lib.hid (fun W (h : IsRow w.heap.size (((List.replicate 8 ⟨#[]⟩).set 0 ⟨#[97]⟩).set 1 ⟨#[98]⟩) W) => give_ok w.heap.size _ ⟨#[97]⟩ W 0 h (by decide +kernel))
  have HT3 := Lib.hid (fun W (h : IsRow w.heap.size ((((List.replicate 8 ⟨#[]⟩).set 0 ⟨#[97]⟩).set 1 ⟨#[98]⟩).set 0 ⟨#[]⟩) W) => take_ok w.heap.size _ ⟨#[99]⟩ 40 W 0 h (by decide +kernel) (by decide +kernel) (by decide +kernel))
  have HTU := Lib.hid (fun W (h : IsRow w.heap.size (((((List.replicate 8 ⟨#[]⟩).set 0 ⟨#[97]⟩).set 1 ⟨#[98]⟩).set 0 ⟨#[]⟩).set 0 ⟨#[99]⟩) W) => turn_calls w.heap.size _ 17 W h (by decide))
  go_enter Try.func10, Try.ntmps10
  go_wp2_with fail
  refine (rnew_calls w).mono ?_
  rintro e w1 ⟨rfl, h1, hb1⟩
  have H1 := Aside0.mk h1
  have B1 := Aside0.mk hb1
  clear h1 hb1
  go_wp2_with fail
  refine (HT1.out _ H1.out).mono ?_
  rintro e w2 ⟨rfl, h2, hb2⟩
  have H2 := Aside0.mk h2
  have B2 := Aside0.mk (keep_below B1.out hb2 (Nat.le_refl _))
  clear h2 hb2
  go_wp2_with fail
  refine (HT2.out _ H2.out).mono ?_
  rintro e w3 ⟨rfl, h3, hb3⟩
  have H3 := Aside0.mk h3
  have B3 := Aside0.mk (keep_below B2.out hb3 (Nat.le_refl _))
  clear h3 hb3
  go_wp2_with fail
  refine (HG.out _ H3.out).mono ?_
  rintro e w4 ⟨rfl, h4, hb4⟩
  have H4 := Aside0.mk h4
  have B4 := Aside0.mk (keep_below B3.out hb4 (Nat.le_refl _))
  clear h4 hb4
  go_wp2_with fail
  refine (HT3.out _ H4.out).mono ?_
  rintro e w5 ⟨rfl, h5, hb5⟩
  have H5 := Aside0.mk h5
  have B5 := Aside0.mk (keep_below B4.out hb5 (Nat.le_refl _))
  clear h5 hb5
  go_wp2_with fail
  refine (HTU.out _ H5.out).mono ?_
  rintro e w6 ⟨rfl, rfl⟩
  go_wp2
  go_ret
  exact ⟨rfl, B5.out⟩
end Go.Proofs.Ytdbhejckpkifoaa
