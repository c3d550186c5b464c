/- The law WindowNests, walked: its closure (no captures), and both its ways. Over the printed contracts. -/
import Derived.Test.YtafcogdplhljmaaPWindowNestsx2
import Derived.Test.YtafcogdplhljmaaWMore
import Derived.Deep.LoopGhost
import Derived.LoopTactic
import Derived.BigQuiet
import Derived.Deep.QuietTactic
import Derived.Outline
namespace Go.Proofs.Ytafcogdplhljmaa
open Go.RowKit Go.Proofs.YtafcogdplhljmaaW.PrintWords Go.Proofs.YtafcogdplhljmaaW.PrintLast Go.Proofs.YtafcogdplhljmaaW.PrintMore
open Go.Proofs.Ytafcogdplhljmaa.PWindowNests

set_option maxHeartbeats 1000000 in
theorem in_calls (a b c d : Int) (w : World) : Calls Try.prog 30 #[.agg #[.int .i64 a, .int .i64 b], .agg #[.int .i64 c, .int .i64 d]] w fun e w' => e = .returned (.bool (decide (c ≤ a) && decide (b ≤ d))) ∧ Below w.heap.size w w' := by
  have hu44 := Try.underlying44
  go_enter Try.func30, Try.ntmps30
  go_wp2
  · rename_i h
    go_ret
    exact ⟨by simp [h], ((Below.refl _ _).alloc (Nat.le_refl _) _).alloc (by simp) _⟩
  · rename_i h
    go_ret
    have : ¬ (c ≤ a) := by omega
    exact ⟨by simp [this], ((Below.refl _ _).alloc (Nat.le_refl _) _).alloc (by simp) _⟩

/-- Two cells of one box. -/
structure Two (w : World) (g : Nat) (a b : Int) : Prop where
  at0 : w.cell? ⟨g, 0, none⟩ = some (.int .i64 a)
  at1 : w.cell? ⟨g, 1, none⟩ = some (.int .i64 b)
  lt : g < w.heap.size
theorem Two.below {w w' : World} {g : Nat} {a b : Int} (h : Two w g a b) (hB : Below w.heap.size w w') : Two w' g a b :=
  ⟨by rw [hB.cell h.lt]; exact h.at0, by rw [hB.cell h.lt]; exact h.at1, Nat.lt_of_lt_of_le h.lt hB.size⟩

set_option maxHeartbeats 4000000 in
theorem law_calls (k : Nat) (t m l : Int) (w : World) (h0 : 0 ≤ t) (h1 : t < 4611686018427387904)
    (hl : catacomblaw13_lives.f k = some true)
    (ha : window_Of.f k 0 t = some (t, t + 1)) (hb : window_Of.f k 1 t = some (m, m + 300)) (hc : window_Of.f k 2 t = some (l, l + 3600))
    (hm : 0 ≤ l ∧ l ≤ m ∧ m ≤ t ∧ t < m + 300 ∧ m + 300 ≤ l + 3600 ∧ l < 4611686018427387904)
    (hbo : window_Both.f m (m + 300) l (l + 3600) = some (m, m + 300, true)) (hcu : window_Cut.f m (m + 300) l (l + 3600) = some []) :
    Calls Try.prog 11 #[.int .i64 t] w fun e w' => e = .returned (.bool true) ∧ Below w.heap.size w w' := by
  have hu44 := Try.underlying44
  go_enter Try.func11, Try.ntmps11
  go_wp2_with fail
  refine (catacomblaw13_lives.calls k true _ hl).mono ?_
  rintro e w1 ⟨rfl, hB1⟩
  have HB1 := Aside0.mk hB1
  clear hB1
  have c1 : decide (t < 0) = false := by simp; omega
  have c2 : decide (4611686018427387904 ≤ t) = false := by simp; omega
  go_wp2_with fail
  refine (window_Of.calls k 0 t _ _ _ ha).mono ?_
  rintro e w2 ⟨rfl, hB2⟩
  have HB2 := Aside0.mk (below_step HB1.out hB2)
  clear hB2
  go_wp2_with fail
  refine (window_Of.calls k 1 t _ _ _ hb).mono ?_
  rintro e w3 ⟨rfl, hB3⟩
  have HB3 := Aside0.mk (below_step HB2.out hB3)
  clear hB3
  go_wp2_with fail
  refine (window_Of.calls k 2 t _ _ _ hc).mono ?_
  rintro e w4 ⟨rfl, hB4⟩
  have HB4 := Aside0.mk (below_step HB3.out hB4)
  clear hB4
  go_wp2_with fail
  refine (in_calls t (t + 1) m (m + 300) _).mono ?_
  rintro e w5 ⟨rfl, hB5⟩
  have x3 : Two w5 w4.heap.size t (t + 1) := ⟨by rw [hB5.cell (by simp; omega)]; go_simp, by rw [hB5.cell (by simp; omega)]; go_simp, Nat.lt_of_lt_of_le (by simp; omega) hB5.size⟩
  have x4 : Two w5 (w4.heap.size + 1) m (m + 300) := ⟨by rw [hB5.cell (by simp)]; go_simp, by rw [hB5.cell (by simp)]; go_simp, Nat.lt_of_lt_of_le (by simp) hB5.size⟩
  have x5 : Two w5 (w4.heap.size + 2) l (l + 3600) := ⟨by rw [hB5.cell (by simp)]; go_simp, by rw [hB5.cell (by simp)]; go_simp, Nat.lt_of_lt_of_le (by simp) hB5.size⟩
  have HB5 := Aside0.mk (below_step (((HB4.out.alloc HB4.out.size _).alloc (Nat.le_trans HB4.out.size (by simp)) _).alloc (Nat.le_trans HB4.out.size (by simp; omega)) _) hB5)
  clear hB5
  have c3 : decide (m ≤ t) = true := by simp; omega
  have c4 : decide (t + 1 ≤ m + 300) = true := by simp; omega
  have c5 : decide (l ≤ m) = true := by simp; omega
  have c6 : decide (m + 300 ≤ l + 3600) = true := by simp; omega
  obtain ⟨x30, x31, l3⟩ := x3
  obtain ⟨x40, x41, l4⟩ := x4
  obtain ⟨x50, x51, l5⟩ := x5
  go_wp2_with fail
  refine (in_calls m (m + 300) l (l + 3600) _).mono ?_
  rintro e w6 ⟨rfl, hB6⟩
  obtain ⟨y30, y31, k3⟩ := Two.below ⟨x30, x31, l3⟩ hB6
  obtain ⟨y40, y41, k4⟩ := Two.below ⟨x40, x41, l4⟩ hB6
  obtain ⟨y50, y51, k5⟩ := Two.below ⟨x50, x51, l5⟩ hB6
  clear x30 x31 l3 x40 x41 l4 x50 x51 l5
  have HB6 := Aside0.mk (below_step HB5.out hB6)
  clear hB6
  go_wp2_with fail
  refine (window_In.calls t (t + 1) t true _ (by unfold window_In.f; rw [if_pos (by omega)]; simp; omega)).mono ?_
  rintro e w7 ⟨rfl, hB7⟩
  obtain ⟨x30, x31, l3⟩ := Two.below ⟨y30, y31, k3⟩ hB7
  obtain ⟨x40, x41, l4⟩ := Two.below ⟨y40, y41, k4⟩ hB7
  obtain ⟨x50, x51, l5⟩ := Two.below ⟨y50, y51, k5⟩ hB7
  clear y30 y31 k3 y40 y41 k4 y50 y51 k5
  have HB7 := Aside0.mk (below_step HB6.out hB7)
  clear hB7
  go_wp2_with fail
  refine (window_Both.calls _ _ _ _ m (m + 300) true _ hbo).mono ?_
  rintro e w8 ⟨rfl, hB8⟩
  obtain ⟨y30, y31, k3⟩ := Two.below ⟨x30, x31, l3⟩ hB8
  obtain ⟨y40, y41, k4⟩ := Two.below ⟨x40, x41, l4⟩ hB8
  obtain ⟨y50, y51, k5⟩ := Two.below ⟨x50, x51, l5⟩ hB8
  clear x30 x31 l3 x40 x41 l4 x50 x51 l5
  have HB8 := Aside0.mk (below_step HB7.out hB8)
  clear hB8
  go_wp2_with fail
  refine (window_Cut.calls _ _ _ _ [] _ hcu).mono ?_
  rintro e w9 ⟨v, rfl, hR, hB9⟩
  obtain ⟨A, c, rfl⟩ := Kd.R_slice hR
  have HB9 := Aside0.mk (below_step (HB8.out.alloc HB8.out.size _) hB9)
  clear hB9
  go_wp2
  go_ret
  exact ⟨by simp, HB9.out⟩

set_option maxHeartbeats 1000000 in
theorem out_calls (k : Nat) (t : Int) (w : World) (h : t < 0 ∨ 4611686018427387904 ≤ t) (hl : catacomblaw13_lives.f k = some true) :
    Calls Try.prog 11 #[.int .i64 t] w fun e w' => e = .returned (.bool true) ∧ Below w.heap.size w w' := by
  by_cases h0 : t < 0
  · have c1 : decide (t < 0) = true := by simp; omega
    go_enter Try.func11, Try.ntmps11
    go_wp2_with fail
    refine (catacomblaw13_lives.calls k true _ hl).mono ?_
    rintro e w1 ⟨rfl, hB1⟩
    have HB1 := Aside0.mk hB1
    clear hB1
    go_wp2_with fail
    refine (catacomblaw13_lives.calls k true _ hl).mono ?_
    rintro e w2 ⟨rfl, hB2⟩
    have HB2 := Aside0.mk (below_step HB1.out hB2)
    clear hB2
    go_wp2
    go_ret
    exact ⟨rfl, HB2.out⟩
  · have c1 : decide (t < 0) = false := by simp; omega
    have c2 : decide (4611686018427387904 ≤ t) = true := by simp; omega
    go_enter Try.func11, Try.ntmps11
    go_wp2_with fail
    refine (catacomblaw13_lives.calls k true _ hl).mono ?_
    rintro e w1 ⟨rfl, hB1⟩
    have HB1 := Aside0.mk hB1
    clear hB1
    go_wp2_with fail
    refine (catacomblaw13_lives.calls k true _ hl).mono ?_
    rintro e w2 ⟨rfl, hB2⟩
    have HB2 := Aside0.mk (below_step HB1.out hB2)
    clear hB2
    go_wp2
    go_ret
    exact ⟨rfl, HB2.out⟩

end Go.Proofs.Ytafcogdplhljmaa
