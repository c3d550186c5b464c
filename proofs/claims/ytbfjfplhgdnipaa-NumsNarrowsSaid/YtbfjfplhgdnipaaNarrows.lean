/- The law NumsNarrows, walked: its closure reads the law's own parameter out of a box. Over the printed contracts. -/
import Derived.Test.YtbfjfplhgdnipaaHNumsNarrowsx1
import Derived.Test.YtbfjfplhgdnipaaMath
import Derived.Test.YtbfjfplhgdnipaaWMore
import Derived.Deep.LoopGhost
import Derived.LoopTactic
import Derived.BigQuiet
import Derived.Deep.QuietTactic
import Derived.Outline
namespace Go.Proofs.Ytbfjfplhgdnipaa
open Go.RowKit Go.Proofs.YtbfjfplhgdnipaaW.PrintWords Go.Proofs.YtbfjfplhgdnipaaW.PrintLast Go.Proofs.YtbfjfplhgdnipaaW.PrintMore
open Go.Proofs.Ytbfjfplhgdnipaa.HNumsNarrows
/-- What a number is told as, of a type of so many. -/
def told (lo hi a v : Int) (b : Bool) : Prop := if a < lo ∨ hi < a then b = false ∧ v = 0 else b = true ∧ v = a

set_option maxHeartbeats 1000000 in
theorem is_calls (lo hi a v : Int) (b : Bool) (g : Nat) (w : World) (x : w.cell? ⟨g, 0, none⟩ = some (.int .i64 a)) (h : told lo hi a v b) :
    Calls Try.prog 24 #[.int .i64 lo, .int .i64 hi, .int .i64 v, .bool b, .pointer (some ⟨g, 0, none⟩)] w fun e w' => e = .returned (.bool true) ∧ w = w' := by
  unfold told at h
  by_cases c : a < lo ∨ hi < a
  · rw [if_pos c] at h
    obtain ⟨rfl, rfl⟩ := h
    by_cases c0 : a < lo
    · have d0 : decide (a < lo) = true := decide_eq_true c0
      go_enter Try.func24, Try.ntmps24
      go_wp2
      go_ret
      exact ⟨rfl, rfl⟩
    · have d0 : decide (a < lo) = false := decide_eq_false c0
      have d1 : decide (hi < a) = true := decide_eq_true (by omega)
      go_enter Try.func24, Try.ntmps24
      go_wp2
      go_ret
      exact ⟨rfl, rfl⟩
  · rw [if_neg c] at h
    obtain ⟨rfl, rfl⟩ := h
    have d0 : decide (v < lo) = false := decide_eq_false (by omega)
    have d1 : decide (hi < v) = false := decide_eq_false (by omega)
    go_enter Try.func24, Try.ntmps24
    go_wp2
    go_ret
    exact ⟨by simp, rfl⟩
theorem told_range {lo hi a v : Int} {b : Bool} (h : told lo hi a v b) (h0 : lo ≤ 0) (h1 : 0 ≤ hi) : lo ≤ v ∧ v ≤ hi := by
  unfold told at h
  split at h <;> omega

set_option maxHeartbeats 4000000 in
theorem law_calls (a v0 v1 v2 v3 v4 v5 : Int) (b0 b1 b2 b3 b4 b5 : Bool) (w : World)
    (hl : catacomblaw01_lives.f = some true)
    (e0 : nums_To8.f a = some (v0, b0)) (e1 : nums_To16.f a = some (v1, b1)) (e2 : nums_To32.f a = some (v2, b2)) (e3 : nums_ToU8.f a = some (v3, b3)) (e4 : nums_ToU16.f a = some (v4, b4)) (e5 : nums_ToU32.f a = some (v5, b5))
    (_ : In64 a)
    (h0 : told (-128) 127 a v0 b0) (h1 : told (-32768) 32767 a v1 b1) (h2 : told (-2147483648) 2147483647 a v2 b2) (h3 : told 0 255 a v3 b3) (h4 : told 0 65535 a v4 b4) (h5 : told 0 4294967295 a v5 b5) :
    Calls Try.prog 6 #[.int .i64 a] w fun e w' => e = .returned (.bool true) ∧ Below w.heap.size w w' := by
  go_enter Try.func6, Try.ntmps6
  go_wp2_with fail
  refine (catacomblaw01_lives.calls true _ hl).mono ?_
  rintro e w1 ⟨rfl, hB1⟩
  obtain ⟨n1, rfl⟩ := hB1
  have HB := Aside0.mk (show Below w.heap.size w ((w.alloc (Obj.cells #[.int .i64 a] 2)).drewN n1) from pw_below_drewN (below_alloc (Below.refl _ _) _) _)
  have x : ((w.alloc (Obj.cells #[.int .i64 a] 2)).drewN n1).cell? ⟨w.heap.size, 0, none⟩ = some (.int .i64 a) := by go_simp
  generalize (w.alloc (Obj.cells #[.int .i64 a] 2)).drewN n1 = W1 at HB x
  generalize hg : w.heap.size = g at x HB
  go_wp2_with fail
  refine (nums_To8.calls a v0 b0 _ e0).mono ?_
  rintro e u0 ⟨rfl, ⟨m0, rfl⟩⟩
  replace HB := Aside0.mk (pw_below_drewN HB.out m0)
  replace x : (W1.drewN m0).cell? ⟨g, 0, none⟩ = some (.int .i64 a) := x
  generalize W1.drewN m0 = W2 at HB x
  go_wp2_with fail
  refine (nums_To16.calls a v1 b1 _ e1).mono ?_
  rintro e u1 ⟨rfl, ⟨m1, rfl⟩⟩
  replace HB := Aside0.mk (pw_below_drewN HB.out m1)
  replace x : (W2.drewN m1).cell? ⟨g, 0, none⟩ = some (.int .i64 a) := x
  generalize W2.drewN m1 = W3 at HB x
  go_wp2_with fail
  refine (nums_To32.calls a v2 b2 _ e2).mono ?_
  rintro e u2 ⟨rfl, ⟨m2, rfl⟩⟩
  replace HB := Aside0.mk (pw_below_drewN HB.out m2)
  replace x : (W3.drewN m2).cell? ⟨g, 0, none⟩ = some (.int .i64 a) := x
  generalize W3.drewN m2 = W4 at HB x
  go_wp2_with fail
  refine (nums_ToU8.calls a v3 b3 _ e3).mono ?_
  rintro e u3 ⟨rfl, ⟨m3, rfl⟩⟩
  replace HB := Aside0.mk (pw_below_drewN HB.out m3)
  replace x : (W4.drewN m3).cell? ⟨g, 0, none⟩ = some (.int .i64 a) := x
  generalize W4.drewN m3 = W5 at HB x
  go_wp2_with fail
  refine (nums_ToU16.calls a v4 b4 _ e4).mono ?_
  rintro e u4 ⟨rfl, ⟨m4, rfl⟩⟩
  replace HB := Aside0.mk (pw_below_drewN HB.out m4)
  replace x : (W5.drewN m4).cell? ⟨g, 0, none⟩ = some (.int .i64 a) := x
  generalize W5.drewN m4 = W6 at HB x
  go_wp2_with fail
  refine (nums_ToU32.calls a v5 b5 _ e5).mono ?_
  rintro e u5 ⟨rfl, ⟨m5, rfl⟩⟩
  replace HB := Aside0.mk (pw_below_drewN HB.out m5)
  replace x : (W6.drewN m5).cell? ⟨g, 0, none⟩ = some (.int .i64 a) := x
  generalize W6.drewN m5 = W7 at HB x
  go_wp2_with fail
  refine (is_calls (-128) 127 a _ b0 g _ x ?_).mono ?_
  · have := told_range h0 (by omega) (by omega); first | exact h0 | (rw [show wrap64 v0 = v0 by unfold wrap64; omega]; exact h0)
  rintro e u10 ⟨rfl, rfl⟩
  go_wp2_with fail
  refine (is_calls (-32768) 32767 a _ b1 g _ x ?_).mono ?_
  · have := told_range h1 (by omega) (by omega); first | exact h1 | (rw [show wrap64 v1 = v1 by unfold wrap64; omega]; exact h1)
  rintro e u11 ⟨rfl, rfl⟩
  go_wp2_with fail
  refine (is_calls (-2147483648) 2147483647 a _ b2 g _ x ?_).mono ?_
  · have := told_range h2 (by omega) (by omega); first | exact h2 | (rw [show wrap64 v2 = v2 by unfold wrap64; omega]; exact h2)
  rintro e u12 ⟨rfl, rfl⟩
  go_wp2_with fail
  refine (is_calls (0) 255 a _ b3 g _ x ?_).mono ?_
  · have := told_range h3 (by omega) (by omega); first | exact h3 | (rw [show wrap64 v3 = v3 by unfold wrap64; omega]; exact h3)
  rintro e u13 ⟨rfl, rfl⟩
  go_wp2_with fail
  refine (is_calls (0) 65535 a _ b4 g _ x ?_).mono ?_
  · have := told_range h4 (by omega) (by omega); first | exact h4 | (rw [show wrap64 v4 = v4 by unfold wrap64; omega]; exact h4)
  rintro e u14 ⟨rfl, rfl⟩
  go_wp2_with fail
  refine (is_calls (0) 4294967295 a _ b5 g _ x ?_).mono ?_
  · have := told_range h5 (by omega) (by omega); first | exact h5 | (rw [show wrap64 v5 = v5 by unfold wrap64; omega]; exact h5)
  rintro e u15 ⟨rfl, rfl⟩
  go_wp2
  go_ret
  exact ⟨rfl, by rw [hg]; exact HB.out⟩

end Go.Proofs.Ytbfjfplhgdnipaa
