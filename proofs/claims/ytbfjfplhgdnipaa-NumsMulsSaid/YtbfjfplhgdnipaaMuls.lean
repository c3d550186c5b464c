/- The law NumsMuls, walked: one theorem for each way through its first tests. Over the printed contracts. -/
import Derived.Test.YtbfjfplhgdnipaaHNumsMulsx1
import Derived.Test.YtbfjfplhgdnipaaMath
import Derived.Test.YtbfjfplhgdnipaaWMore
import Derived.Deep.LoopGhost
import Derived.LoopTactic
import Derived.BigQuiet
import Derived.Deep.QuietTactic
import Derived.Outline
namespace Go.Proofs.Ytbfjfplhgdnipaa
open Go.RowKit Go.Proofs.YtbfjfplhgdnipaaW.PrintWords Go.Proofs.YtbfjfplhgdnipaaW.PrintLast Go.Proofs.YtbfjfplhgdnipaaW.PrintMore
open Go.Proofs.Ytbfjfplhgdnipaa.HNumsMuls
set_option maxHeartbeats 1000000 in
theorem muls_a0 (k : Nat) (a b g : Int) (w : World) (hl : catacomblaw01_lives.f = some true) (hm : nums_Mul.f k a b = some g)
    (c0 : (a == 0) = true) (hg : g = 0) :
    Calls Try.prog 7 #[.int .i64 a, .int .i64 b] w fun e w' => e = .returned (.bool true) ∧ Below w.heap.size w w' := by
  go_enter Try.func7, Try.ntmps7
  go_wp2_with fail
  refine (catacomblaw01_lives.calls true _ hl).mono ?_
  rintro e w1 ⟨rfl, ⟨n1, rfl⟩⟩
  go_wp2_with fail
  refine (nums_Mul.calls k a b g _ hm).mono ?_
  rintro e w2 ⟨rfl, ⟨n2, rfl⟩⟩
  go_wp2
  go_ret
  exact ⟨by simp, pw_below_drewN (Below.refl _ _) _⟩

set_option maxHeartbeats 1000000 in
theorem muls_b0 (k : Nat) (a b g : Int) (w : World) (hl : catacomblaw01_lives.f = some true) (hm : nums_Mul.f k a b = some g)
    (c0 : (a == 0) = false) (c1 : (b == 0) = true) (hg : g = 0) :
    Calls Try.prog 7 #[.int .i64 a, .int .i64 b] w fun e w' => e = .returned (.bool true) ∧ Below w.heap.size w w' := by
  go_enter Try.func7, Try.ntmps7
  go_wp2_with fail
  refine (catacomblaw01_lives.calls true _ hl).mono ?_
  rintro e w1 ⟨rfl, ⟨n1, rfl⟩⟩
  go_wp2_with fail
  refine (nums_Mul.calls k a b g _ hm).mono ?_
  rintro e w2 ⟨rfl, ⟨n2, rfl⟩⟩
  go_wp2
  go_ret
  exact ⟨by simp, pw_below_drewN (Below.refl _ _) _⟩

set_option maxHeartbeats 1000000 in
theorem muls_nn_a (k : Nat) (a b g : Int) (w : World) (hl : catacomblaw01_lives.f = some true) (hm : nums_Mul.f k a b = some g)
    (c0 : (a == 0) = false) (c1 : (b == 0) = false) (c2 : decide (a < 0) = true) (c3 : decide (b < 0) = true) (c4 : (a == -9223372036854775808) = true) (c6 : (a == 1) = false) (c7 : (b == 1) = false) (hg : g = 9223372036854775807) :
    Calls Try.prog 7 #[.int .i64 a, .int .i64 b] w fun e w' => e = .returned (.bool true) ∧ Below w.heap.size w w' := by
  go_enter Try.func7, Try.ntmps7
  go_wp2_with fail
  refine (catacomblaw01_lives.calls true _ hl).mono ?_
  rintro e w1 ⟨rfl, ⟨n1, rfl⟩⟩
  go_wp2_with fail
  refine (nums_Mul.calls k a b g _ hm).mono ?_
  rintro e w2 ⟨rfl, ⟨n2, rfl⟩⟩
  go_wp2
  go_ret
  exact ⟨by simp, pw_below_drewN (Below.refl _ _) _⟩

set_option maxHeartbeats 1000000 in
theorem muls_nn_b (k : Nat) (a b g : Int) (w : World) (hl : catacomblaw01_lives.f = some true) (hm : nums_Mul.f k a b = some g)
    (c0 : (a == 0) = false) (c1 : (b == 0) = false) (c2 : decide (a < 0) = true) (c3 : decide (b < 0) = true) (c4 : (a == -9223372036854775808) = false) (c5 : (b == -9223372036854775808) = true) (c6 : (a == 1) = false) (c7 : (b == 1) = false) (hg : g = 9223372036854775807) :
    Calls Try.prog 7 #[.int .i64 a, .int .i64 b] w fun e w' => e = .returned (.bool true) ∧ Below w.heap.size w w' := by
  go_enter Try.func7, Try.ntmps7
  go_wp2_with fail
  refine (catacomblaw01_lives.calls true _ hl).mono ?_
  rintro e w1 ⟨rfl, ⟨n1, rfl⟩⟩
  go_wp2_with fail
  refine (nums_Mul.calls k a b g _ hm).mono ?_
  rintro e w2 ⟨rfl, ⟨n2, rfl⟩⟩
  go_wp2
  go_ret
  exact ⟨by simp, pw_below_drewN (Below.refl _ _) _⟩

set_option maxHeartbeats 4000000 in
theorem muls_nn_q (k : Nat) (a b g x y Q : Int) (w : World) (hl : catacomblaw01_lives.f = some true) (hm : nums_Mul.f k a b = some g)
    (c0 : (a == 0) = false) (c1 : (b == 0) = false) (c2 : decide (a < 0) = true) (c3 : decide (b < 0) = true) (c4 : (a == -9223372036854775808) = false) (c5 : (b == -9223372036854775808) = false)
    (hx : (if a < wrap64 (-a) then wrap64 (-a) else a) = x) (hy : (if b < wrap64 (-b) then wrap64 (-b) else b) = y) (hQ : wrap64 (Int.tdiv 9223372036854775807 y) = Q) (hy0 : 1 ≤ y) (hyu : IntKind.u64.wrap y = y) (c8 : decide (x ≤ Q) = true)
    (hg : g = wrap64 (a * b)) :
    Calls Try.prog 7 #[.int .i64 a, .int .i64 b] w fun e w' => e = .returned (.bool true) ∧ Below w.heap.size w w' := by
  go_enter Try.func7, Try.ntmps7
  go_wp2_with fail
  refine (catacomblaw01_lives.calls true _ hl).mono ?_
  rintro e w1 ⟨rfl, ⟨n1, rfl⟩⟩
  go_wp2_with fail
  refine (nums_Mul.calls k a b g _ hm).mono ?_
  rintro e w2 ⟨rfl, ⟨n2, rfl⟩⟩
  go_upto_region 13 with (fail)
  have hy1 : (y == 0) = false := by simp; omega
  have hy2 : ¬ (y = 0) := by omega
  clear hy0 hx hy
  go_wp2
  go_ret
  exact ⟨by simp, pw_below_drewN (Below.refl _ _) _⟩

set_option maxHeartbeats 4000000 in
theorem muls_nn_big (k : Nat) (a b g x y Q : Int) (w : World) (hl : catacomblaw01_lives.f = some true) (hm : nums_Mul.f k a b = some g)
    (c0 : (a == 0) = false) (c1 : (b == 0) = false) (c2 : decide (a < 0) = true) (c3 : decide (b < 0) = true) (c4 : (a == -9223372036854775808) = false) (c5 : (b == -9223372036854775808) = false)
    (hx : (if a < wrap64 (-a) then wrap64 (-a) else a) = x) (hy : (if b < wrap64 (-b) then wrap64 (-b) else b) = y) (hQ : wrap64 (Int.tdiv 9223372036854775807 y) = Q) (hy0 : 1 ≤ y) (hyu : IntKind.u64.wrap y = y) (c8 : decide (x ≤ Q) = false)
    (hg : g = 9223372036854775807) :
    Calls Try.prog 7 #[.int .i64 a, .int .i64 b] w fun e w' => e = .returned (.bool true) ∧ Below w.heap.size w w' := by
  go_enter Try.func7, Try.ntmps7
  go_wp2_with fail
  refine (catacomblaw01_lives.calls true _ hl).mono ?_
  rintro e w1 ⟨rfl, ⟨n1, rfl⟩⟩
  go_wp2_with fail
  refine (nums_Mul.calls k a b g _ hm).mono ?_
  rintro e w2 ⟨rfl, ⟨n2, rfl⟩⟩
  go_upto_region 13 with (fail)
  have hy1 : (y == 0) = false := by simp; omega
  have hy2 : ¬ (y = 0) := by omega
  clear hy0 hx hy
  go_wp2
  go_ret
  exact ⟨by simp, pw_below_drewN (Below.refl _ _) _⟩

set_option maxHeartbeats 1000000 in
theorem muls_np_a1 (k : Nat) (a b g : Int) (w : World) (hl : catacomblaw01_lives.f = some true) (hm : nums_Mul.f k a b = some g)
    (c0 : (a == 0) = false) (c1 : (b == 0) = false) (c2 : decide (a < 0) = true) (c3 : decide (b < 0) = false) (c4 : (a == -9223372036854775808) = true) (c6 : (a == 1) = false) (c7 : (b == 1) = true) (hg : g = wrap64 (a * b)) :
    Calls Try.prog 7 #[.int .i64 a, .int .i64 b] w fun e w' => e = .returned (.bool true) ∧ Below w.heap.size w w' := by
  go_enter Try.func7, Try.ntmps7
  go_wp2_with fail
  refine (catacomblaw01_lives.calls true _ hl).mono ?_
  rintro e w1 ⟨rfl, ⟨n1, rfl⟩⟩
  go_wp2_with fail
  refine (nums_Mul.calls k a b g _ hm).mono ?_
  rintro e w2 ⟨rfl, ⟨n2, rfl⟩⟩
  go_wp2
  go_ret
  exact ⟨by simp, pw_below_drewN (Below.refl _ _) _⟩

set_option maxHeartbeats 1000000 in
theorem muls_np_a (k : Nat) (a b g : Int) (w : World) (hl : catacomblaw01_lives.f = some true) (hm : nums_Mul.f k a b = some g)
    (c0 : (a == 0) = false) (c1 : (b == 0) = false) (c2 : decide (a < 0) = true) (c3 : decide (b < 0) = false) (c4 : (a == -9223372036854775808) = true) (c6 : (a == 1) = false) (c7 : (b == 1) = false) (hg : g = -9223372036854775808) :
    Calls Try.prog 7 #[.int .i64 a, .int .i64 b] w fun e w' => e = .returned (.bool true) ∧ Below w.heap.size w w' := by
  go_enter Try.func7, Try.ntmps7
  go_wp2_with fail
  refine (catacomblaw01_lives.calls true _ hl).mono ?_
  rintro e w1 ⟨rfl, ⟨n1, rfl⟩⟩
  go_wp2_with fail
  refine (nums_Mul.calls k a b g _ hm).mono ?_
  rintro e w2 ⟨rfl, ⟨n2, rfl⟩⟩
  go_wp2
  go_ret
  exact ⟨by simp, pw_below_drewN (Below.refl _ _) _⟩

set_option maxHeartbeats 4000000 in
theorem muls_np_q (k : Nat) (a b g x y Q : Int) (w : World) (hl : catacomblaw01_lives.f = some true) (hm : nums_Mul.f k a b = some g)
    (c0 : (a == 0) = false) (c1 : (b == 0) = false) (c2 : decide (a < 0) = true) (c3 : decide (b < 0) = false) (c4 : (a == -9223372036854775808) = false) (c5 : (b == -9223372036854775808) = false)
    (hx : (if a < wrap64 (-a) then wrap64 (-a) else a) = x) (hy : (if b < wrap64 (-b) then wrap64 (-b) else b) = y) (hQ : wrap64 (Int.tdiv 9223372036854775807 y) = Q) (hy0 : 1 ≤ y) (hyu : IntKind.u64.wrap y = y) (c8 : decide (x ≤ Q) = true)
    (hg : g = wrap64 (a * b)) :
    Calls Try.prog 7 #[.int .i64 a, .int .i64 b] w fun e w' => e = .returned (.bool true) ∧ Below w.heap.size w w' := by
  go_enter Try.func7, Try.ntmps7
  go_wp2_with fail
  refine (catacomblaw01_lives.calls true _ hl).mono ?_
  rintro e w1 ⟨rfl, ⟨n1, rfl⟩⟩
  go_wp2_with fail
  refine (nums_Mul.calls k a b g _ hm).mono ?_
  rintro e w2 ⟨rfl, ⟨n2, rfl⟩⟩
  go_upto_region 13 with (fail)
  have hy1 : (y == 0) = false := by simp; omega
  have hy2 : ¬ (y = 0) := by omega
  clear hy0 hx hy
  go_wp2
  go_ret
  exact ⟨by simp, pw_below_drewN (Below.refl _ _) _⟩

set_option maxHeartbeats 4000000 in
theorem muls_np_bigA (k : Nat) (a b g x y Q : Int) (w : World) (hl : catacomblaw01_lives.f = some true) (hm : nums_Mul.f k a b = some g)
    (c0 : (a == 0) = false) (c1 : (b == 0) = false) (c2 : decide (a < 0) = true) (c3 : decide (b < 0) = false) (c4 : (a == -9223372036854775808) = false) (c5 : (b == -9223372036854775808) = false)
    (hx : (if a < wrap64 (-a) then wrap64 (-a) else a) = x) (hy : (if b < wrap64 (-b) then wrap64 (-b) else b) = y) (hQ : wrap64 (Int.tdiv 9223372036854775807 y) = Q) (hy0 : 1 ≤ y) (hyu : IntKind.u64.wrap y = y) (c8 : decide (x ≤ Q) = false)
    (d1 : (x == 4611686018427387904) = true) (d2 : (y == 2) = true) (hg : g = wrap64 (a * b)) :
    Calls Try.prog 7 #[.int .i64 a, .int .i64 b] w fun e w' => e = .returned (.bool true) ∧ Below w.heap.size w w' := by
  go_enter Try.func7, Try.ntmps7
  go_wp2_with fail
  refine (catacomblaw01_lives.calls true _ hl).mono ?_
  rintro e w1 ⟨rfl, ⟨n1, rfl⟩⟩
  go_wp2_with fail
  refine (nums_Mul.calls k a b g _ hm).mono ?_
  rintro e w2 ⟨rfl, ⟨n2, rfl⟩⟩
  go_upto_region 13 with (fail)
  have hy1 : (y == 0) = false := by simp; omega
  have hy2 : ¬ (y = 0) := by omega
  clear hy0 hx hy
  go_wp2
  go_ret
  exact ⟨by simp, pw_below_drewN (Below.refl _ _) _⟩

set_option maxHeartbeats 4000000 in
theorem muls_np_bigtB (k : Nat) (a b g x y Q : Int) (w : World) (hl : catacomblaw01_lives.f = some true) (hm : nums_Mul.f k a b = some g)
    (c0 : (a == 0) = false) (c1 : (b == 0) = false) (c2 : decide (a < 0) = true) (c3 : decide (b < 0) = false) (c4 : (a == -9223372036854775808) = false) (c5 : (b == -9223372036854775808) = false)
    (hx : (if a < wrap64 (-a) then wrap64 (-a) else a) = x) (hy : (if b < wrap64 (-b) then wrap64 (-b) else b) = y) (hQ : wrap64 (Int.tdiv 9223372036854775807 y) = Q) (hy0 : 1 ≤ y) (hyu : IntKind.u64.wrap y = y) (c8 : decide (x ≤ Q) = false)
    (d1 : (x == 4611686018427387904) = true) (d2 : (y == 2) = false) (d3 : (y == 4611686018427387904) = true) (d4 : (x == 2) = true) (hg : g = wrap64 (a * b)) :
    Calls Try.prog 7 #[.int .i64 a, .int .i64 b] w fun e w' => e = .returned (.bool true) ∧ Below w.heap.size w w' := by
  go_enter Try.func7, Try.ntmps7
  go_wp2_with fail
  refine (catacomblaw01_lives.calls true _ hl).mono ?_
  rintro e w1 ⟨rfl, ⟨n1, rfl⟩⟩
  go_wp2_with fail
  refine (nums_Mul.calls k a b g _ hm).mono ?_
  rintro e w2 ⟨rfl, ⟨n2, rfl⟩⟩
  go_upto_region 13 with (fail)
  have hy1 : (y == 0) = false := by simp; omega
  have hy2 : ¬ (y = 0) := by omega
  clear hy0 hx hy
  go_wp2
  go_ret
  exact ⟨by simp, pw_below_drewN (Below.refl _ _) _⟩

set_option maxHeartbeats 4000000 in
theorem muls_np_bigttC (k : Nat) (a b g x y Q : Int) (w : World) (hl : catacomblaw01_lives.f = some true) (hm : nums_Mul.f k a b = some g)
    (c0 : (a == 0) = false) (c1 : (b == 0) = false) (c2 : decide (a < 0) = true) (c3 : decide (b < 0) = false) (c4 : (a == -9223372036854775808) = false) (c5 : (b == -9223372036854775808) = false)
    (hx : (if a < wrap64 (-a) then wrap64 (-a) else a) = x) (hy : (if b < wrap64 (-b) then wrap64 (-b) else b) = y) (hQ : wrap64 (Int.tdiv 9223372036854775807 y) = Q) (hy0 : 1 ≤ y) (hxu : IntKind.u64.wrap x = x) (hyu : IntKind.u64.wrap y = y) (c8 : decide (x ≤ Q) = false)
    (d1 : (x == 4611686018427387904) = true) (d2 : (y == 2) = false) (d3 : (y == 4611686018427387904) = true) (d4 : (x == 2) = false) (d5 : (IntKind.u64.wrap (x * y) == 9223372036854775808) = true) (d6 : (x == IntKind.u64.wrap (Int.tdiv 9223372036854775808 y)) = true) (hg : g = wrap64 (a * b)) :
    Calls Try.prog 7 #[.int .i64 a, .int .i64 b] w fun e w' => e = .returned (.bool true) ∧ Below w.heap.size w w' := by
  go_enter Try.func7, Try.ntmps7
  go_wp2_with fail
  refine (catacomblaw01_lives.calls true _ hl).mono ?_
  rintro e w1 ⟨rfl, ⟨n1, rfl⟩⟩
  go_wp2_with fail
  refine (nums_Mul.calls k a b g _ hm).mono ?_
  rintro e w2 ⟨rfl, ⟨n2, rfl⟩⟩
  go_upto_region 13 with (fail)
  have hy1 : (y == 0) = false := by simp; omega
  have hy2 : ¬ (y = 0) := by omega
  clear hy0 hx hy
  go_wp2
  go_ret
  exact ⟨by simp, pw_below_drewN (Below.refl _ _) _⟩

set_option maxHeartbeats 4000000 in
theorem muls_np_bigttD (k : Nat) (a b g x y Q : Int) (w : World) (hl : catacomblaw01_lives.f = some true) (hm : nums_Mul.f k a b = some g)
    (c0 : (a == 0) = false) (c1 : (b == 0) = false) (c2 : decide (a < 0) = true) (c3 : decide (b < 0) = false) (c4 : (a == -9223372036854775808) = false) (c5 : (b == -9223372036854775808) = false)
    (hx : (if a < wrap64 (-a) then wrap64 (-a) else a) = x) (hy : (if b < wrap64 (-b) then wrap64 (-b) else b) = y) (hQ : wrap64 (Int.tdiv 9223372036854775807 y) = Q) (hy0 : 1 ≤ y) (hxu : IntKind.u64.wrap x = x) (hyu : IntKind.u64.wrap y = y) (c8 : decide (x ≤ Q) = false)
    (d1 : (x == 4611686018427387904) = true) (d2 : (y == 2) = false) (d3 : (y == 4611686018427387904) = true) (d4 : (x == 2) = false) (d5 : (IntKind.u64.wrap (x * y) == 9223372036854775808) = true) (d6 : (x == IntKind.u64.wrap (Int.tdiv 9223372036854775808 y)) = false) (hg : g = -9223372036854775808) :
    Calls Try.prog 7 #[.int .i64 a, .int .i64 b] w fun e w' => e = .returned (.bool true) ∧ Below w.heap.size w w' := by
  go_enter Try.func7, Try.ntmps7
  go_wp2_with fail
  refine (catacomblaw01_lives.calls true _ hl).mono ?_
  rintro e w1 ⟨rfl, ⟨n1, rfl⟩⟩
  go_wp2_with fail
  refine (nums_Mul.calls k a b g _ hm).mono ?_
  rintro e w2 ⟨rfl, ⟨n2, rfl⟩⟩
  go_upto_region 13 with (fail)
  have hy1 : (y == 0) = false := by simp; omega
  have hy2 : ¬ (y = 0) := by omega
  clear hy0 hx hy
  go_wp2
  go_ret
  exact ⟨by simp, pw_below_drewN (Below.refl _ _) _⟩

set_option maxHeartbeats 4000000 in
theorem muls_np_bigttE (k : Nat) (a b g x y Q : Int) (w : World) (hl : catacomblaw01_lives.f = some true) (hm : nums_Mul.f k a b = some g)
    (c0 : (a == 0) = false) (c1 : (b == 0) = false) (c2 : decide (a < 0) = true) (c3 : decide (b < 0) = false) (c4 : (a == -9223372036854775808) = false) (c5 : (b == -9223372036854775808) = false)
    (hx : (if a < wrap64 (-a) then wrap64 (-a) else a) = x) (hy : (if b < wrap64 (-b) then wrap64 (-b) else b) = y) (hQ : wrap64 (Int.tdiv 9223372036854775807 y) = Q) (hy0 : 1 ≤ y) (hxu : IntKind.u64.wrap x = x) (hyu : IntKind.u64.wrap y = y) (c8 : decide (x ≤ Q) = false)
    (d1 : (x == 4611686018427387904) = true) (d2 : (y == 2) = false) (d3 : (y == 4611686018427387904) = true) (d4 : (x == 2) = false) (d5 : (IntKind.u64.wrap (x * y) == 9223372036854775808) = false) (hg : g = -9223372036854775808) :
    Calls Try.prog 7 #[.int .i64 a, .int .i64 b] w fun e w' => e = .returned (.bool true) ∧ Below w.heap.size w w' := by
  go_enter Try.func7, Try.ntmps7
  go_wp2_with fail
  refine (catacomblaw01_lives.calls true _ hl).mono ?_
  rintro e w1 ⟨rfl, ⟨n1, rfl⟩⟩
  go_wp2_with fail
  refine (nums_Mul.calls k a b g _ hm).mono ?_
  rintro e w2 ⟨rfl, ⟨n2, rfl⟩⟩
  go_upto_region 13 with (fail)
  have hy1 : (y == 0) = false := by simp; omega
  have hy2 : ¬ (y = 0) := by omega
  clear hy0 hx hy
  go_wp2
  go_ret
  exact ⟨by simp, pw_below_drewN (Below.refl _ _) _⟩

set_option maxHeartbeats 4000000 in
theorem muls_np_bigtfC (k : Nat) (a b g x y Q : Int) (w : World) (hl : catacomblaw01_lives.f = some true) (hm : nums_Mul.f k a b = some g)
    (c0 : (a == 0) = false) (c1 : (b == 0) = false) (c2 : decide (a < 0) = true) (c3 : decide (b < 0) = false) (c4 : (a == -9223372036854775808) = false) (c5 : (b == -9223372036854775808) = false)
    (hx : (if a < wrap64 (-a) then wrap64 (-a) else a) = x) (hy : (if b < wrap64 (-b) then wrap64 (-b) else b) = y) (hQ : wrap64 (Int.tdiv 9223372036854775807 y) = Q) (hy0 : 1 ≤ y) (hxu : IntKind.u64.wrap x = x) (hyu : IntKind.u64.wrap y = y) (c8 : decide (x ≤ Q) = false)
    (d1 : (x == 4611686018427387904) = true) (d2 : (y == 2) = false) (d3 : (y == 4611686018427387904) = false) (d5 : (IntKind.u64.wrap (x * y) == 9223372036854775808) = true) (d6 : (x == IntKind.u64.wrap (Int.tdiv 9223372036854775808 y)) = true) (hg : g = wrap64 (a * b)) :
    Calls Try.prog 7 #[.int .i64 a, .int .i64 b] w fun e w' => e = .returned (.bool true) ∧ Below w.heap.size w w' := by
  go_enter Try.func7, Try.ntmps7
  go_wp2_with fail
  refine (catacomblaw01_lives.calls true _ hl).mono ?_
  rintro e w1 ⟨rfl, ⟨n1, rfl⟩⟩
  go_wp2_with fail
  refine (nums_Mul.calls k a b g _ hm).mono ?_
  rintro e w2 ⟨rfl, ⟨n2, rfl⟩⟩
  go_upto_region 13 with (fail)
  have hy1 : (y == 0) = false := by simp; omega
  have hy2 : ¬ (y = 0) := by omega
  clear hy0 hx hy
  go_wp2
  go_ret
  exact ⟨by simp, pw_below_drewN (Below.refl _ _) _⟩

set_option maxHeartbeats 4000000 in
theorem muls_np_bigtfD (k : Nat) (a b g x y Q : Int) (w : World) (hl : catacomblaw01_lives.f = some true) (hm : nums_Mul.f k a b = some g)
    (c0 : (a == 0) = false) (c1 : (b == 0) = false) (c2 : decide (a < 0) = true) (c3 : decide (b < 0) = false) (c4 : (a == -9223372036854775808) = false) (c5 : (b == -9223372036854775808) = false)
    (hx : (if a < wrap64 (-a) then wrap64 (-a) else a) = x) (hy : (if b < wrap64 (-b) then wrap64 (-b) else b) = y) (hQ : wrap64 (Int.tdiv 9223372036854775807 y) = Q) (hy0 : 1 ≤ y) (hxu : IntKind.u64.wrap x = x) (hyu : IntKind.u64.wrap y = y) (c8 : decide (x ≤ Q) = false)
    (d1 : (x == 4611686018427387904) = true) (d2 : (y == 2) = false) (d3 : (y == 4611686018427387904) = false) (d5 : (IntKind.u64.wrap (x * y) == 9223372036854775808) = true) (d6 : (x == IntKind.u64.wrap (Int.tdiv 9223372036854775808 y)) = false) (hg : g = -9223372036854775808) :
    Calls Try.prog 7 #[.int .i64 a, .int .i64 b] w fun e w' => e = .returned (.bool true) ∧ Below w.heap.size w w' := by
  go_enter Try.func7, Try.ntmps7
  go_wp2_with fail
  refine (catacomblaw01_lives.calls true _ hl).mono ?_
  rintro e w1 ⟨rfl, ⟨n1, rfl⟩⟩
  go_wp2_with fail
  refine (nums_Mul.calls k a b g _ hm).mono ?_
  rintro e w2 ⟨rfl, ⟨n2, rfl⟩⟩
  go_upto_region 13 with (fail)
  have hy1 : (y == 0) = false := by simp; omega
  have hy2 : ¬ (y = 0) := by omega
  clear hy0 hx hy
  go_wp2
  go_ret
  exact ⟨by simp, pw_below_drewN (Below.refl _ _) _⟩

set_option maxHeartbeats 4000000 in
theorem muls_np_bigtfE (k : Nat) (a b g x y Q : Int) (w : World) (hl : catacomblaw01_lives.f = some true) (hm : nums_Mul.f k a b = some g)
    (c0 : (a == 0) = false) (c1 : (b == 0) = false) (c2 : decide (a < 0) = true) (c3 : decide (b < 0) = false) (c4 : (a == -9223372036854775808) = false) (c5 : (b == -9223372036854775808) = false)
    (hx : (if a < wrap64 (-a) then wrap64 (-a) else a) = x) (hy : (if b < wrap64 (-b) then wrap64 (-b) else b) = y) (hQ : wrap64 (Int.tdiv 9223372036854775807 y) = Q) (hy0 : 1 ≤ y) (hxu : IntKind.u64.wrap x = x) (hyu : IntKind.u64.wrap y = y) (c8 : decide (x ≤ Q) = false)
    (d1 : (x == 4611686018427387904) = true) (d2 : (y == 2) = false) (d3 : (y == 4611686018427387904) = false) (d5 : (IntKind.u64.wrap (x * y) == 9223372036854775808) = false) (hg : g = -9223372036854775808) :
    Calls Try.prog 7 #[.int .i64 a, .int .i64 b] w fun e w' => e = .returned (.bool true) ∧ Below w.heap.size w w' := by
  go_enter Try.func7, Try.ntmps7
  go_wp2_with fail
  refine (catacomblaw01_lives.calls true _ hl).mono ?_
  rintro e w1 ⟨rfl, ⟨n1, rfl⟩⟩
  go_wp2_with fail
  refine (nums_Mul.calls k a b g _ hm).mono ?_
  rintro e w2 ⟨rfl, ⟨n2, rfl⟩⟩
  go_upto_region 13 with (fail)
  have hy1 : (y == 0) = false := by simp; omega
  have hy2 : ¬ (y = 0) := by omega
  clear hy0 hx hy
  go_wp2
  go_ret
  exact ⟨by simp, pw_below_drewN (Below.refl _ _) _⟩

set_option maxHeartbeats 4000000 in
theorem muls_np_bigfB (k : Nat) (a b g x y Q : Int) (w : World) (hl : catacomblaw01_lives.f = some true) (hm : nums_Mul.f k a b = some g)
    (c0 : (a == 0) = false) (c1 : (b == 0) = false) (c2 : decide (a < 0) = true) (c3 : decide (b < 0) = false) (c4 : (a == -9223372036854775808) = false) (c5 : (b == -9223372036854775808) = false)
    (hx : (if a < wrap64 (-a) then wrap64 (-a) else a) = x) (hy : (if b < wrap64 (-b) then wrap64 (-b) else b) = y) (hQ : wrap64 (Int.tdiv 9223372036854775807 y) = Q) (hy0 : 1 ≤ y) (hyu : IntKind.u64.wrap y = y) (c8 : decide (x ≤ Q) = false)
    (d1 : (x == 4611686018427387904) = false) (d3 : (y == 4611686018427387904) = true) (d4 : (x == 2) = true) (hg : g = wrap64 (a * b)) :
    Calls Try.prog 7 #[.int .i64 a, .int .i64 b] w fun e w' => e = .returned (.bool true) ∧ Below w.heap.size w w' := by
  go_enter Try.func7, Try.ntmps7
  go_wp2_with fail
  refine (catacomblaw01_lives.calls true _ hl).mono ?_
  rintro e w1 ⟨rfl, ⟨n1, rfl⟩⟩
  go_wp2_with fail
  refine (nums_Mul.calls k a b g _ hm).mono ?_
  rintro e w2 ⟨rfl, ⟨n2, rfl⟩⟩
  go_upto_region 13 with (fail)
  have hy1 : (y == 0) = false := by simp; omega
  have hy2 : ¬ (y = 0) := by omega
  clear hy0 hx hy
  go_wp2
  go_ret
  exact ⟨by simp, pw_below_drewN (Below.refl _ _) _⟩

set_option maxHeartbeats 4000000 in
theorem muls_np_bigftC (k : Nat) (a b g x y Q : Int) (w : World) (hl : catacomblaw01_lives.f = some true) (hm : nums_Mul.f k a b = some g)
    (c0 : (a == 0) = false) (c1 : (b == 0) = false) (c2 : decide (a < 0) = true) (c3 : decide (b < 0) = false) (c4 : (a == -9223372036854775808) = false) (c5 : (b == -9223372036854775808) = false)
    (hx : (if a < wrap64 (-a) then wrap64 (-a) else a) = x) (hy : (if b < wrap64 (-b) then wrap64 (-b) else b) = y) (hQ : wrap64 (Int.tdiv 9223372036854775807 y) = Q) (hy0 : 1 ≤ y) (hxu : IntKind.u64.wrap x = x) (hyu : IntKind.u64.wrap y = y) (c8 : decide (x ≤ Q) = false)
    (d1 : (x == 4611686018427387904) = false) (d3 : (y == 4611686018427387904) = true) (d4 : (x == 2) = false) (d5 : (IntKind.u64.wrap (x * y) == 9223372036854775808) = true) (d6 : (x == IntKind.u64.wrap (Int.tdiv 9223372036854775808 y)) = true) (hg : g = wrap64 (a * b)) :
    Calls Try.prog 7 #[.int .i64 a, .int .i64 b] w fun e w' => e = .returned (.bool true) ∧ Below w.heap.size w w' := by
  go_enter Try.func7, Try.ntmps7
  go_wp2_with fail
  refine (catacomblaw01_lives.calls true _ hl).mono ?_
  rintro e w1 ⟨rfl, ⟨n1, rfl⟩⟩
  go_wp2_with fail
  refine (nums_Mul.calls k a b g _ hm).mono ?_
  rintro e w2 ⟨rfl, ⟨n2, rfl⟩⟩
  go_upto_region 13 with (fail)
  have hy1 : (y == 0) = false := by simp; omega
  have hy2 : ¬ (y = 0) := by omega
  clear hy0 hx hy
  go_wp2
  go_ret
  exact ⟨by simp, pw_below_drewN (Below.refl _ _) _⟩

set_option maxHeartbeats 4000000 in
theorem muls_np_bigftD (k : Nat) (a b g x y Q : Int) (w : World) (hl : catacomblaw01_lives.f = some true) (hm : nums_Mul.f k a b = some g)
    (c0 : (a == 0) = false) (c1 : (b == 0) = false) (c2 : decide (a < 0) = true) (c3 : decide (b < 0) = false) (c4 : (a == -9223372036854775808) = false) (c5 : (b == -9223372036854775808) = false)
    (hx : (if a < wrap64 (-a) then wrap64 (-a) else a) = x) (hy : (if b < wrap64 (-b) then wrap64 (-b) else b) = y) (hQ : wrap64 (Int.tdiv 9223372036854775807 y) = Q) (hy0 : 1 ≤ y) (hxu : IntKind.u64.wrap x = x) (hyu : IntKind.u64.wrap y = y) (c8 : decide (x ≤ Q) = false)
    (d1 : (x == 4611686018427387904) = false) (d3 : (y == 4611686018427387904) = true) (d4 : (x == 2) = false) (d5 : (IntKind.u64.wrap (x * y) == 9223372036854775808) = true) (d6 : (x == IntKind.u64.wrap (Int.tdiv 9223372036854775808 y)) = false) (hg : g = -9223372036854775808) :
    Calls Try.prog 7 #[.int .i64 a, .int .i64 b] w fun e w' => e = .returned (.bool true) ∧ Below w.heap.size w w' := by
  go_enter Try.func7, Try.ntmps7
  go_wp2_with fail
  refine (catacomblaw01_lives.calls true _ hl).mono ?_
  rintro e w1 ⟨rfl, ⟨n1, rfl⟩⟩
  go_wp2_with fail
  refine (nums_Mul.calls k a b g _ hm).mono ?_
  rintro e w2 ⟨rfl, ⟨n2, rfl⟩⟩
  go_upto_region 13 with (fail)
  have hy1 : (y == 0) = false := by simp; omega
  have hy2 : ¬ (y = 0) := by omega
  clear hy0 hx hy
  go_wp2
  go_ret
  exact ⟨by simp, pw_below_drewN (Below.refl _ _) _⟩

set_option maxHeartbeats 4000000 in
theorem muls_np_bigftE (k : Nat) (a b g x y Q : Int) (w : World) (hl : catacomblaw01_lives.f = some true) (hm : nums_Mul.f k a b = some g)
    (c0 : (a == 0) = false) (c1 : (b == 0) = false) (c2 : decide (a < 0) = true) (c3 : decide (b < 0) = false) (c4 : (a == -9223372036854775808) = false) (c5 : (b == -9223372036854775808) = false)
    (hx : (if a < wrap64 (-a) then wrap64 (-a) else a) = x) (hy : (if b < wrap64 (-b) then wrap64 (-b) else b) = y) (hQ : wrap64 (Int.tdiv 9223372036854775807 y) = Q) (hy0 : 1 ≤ y) (hxu : IntKind.u64.wrap x = x) (hyu : IntKind.u64.wrap y = y) (c8 : decide (x ≤ Q) = false)
    (d1 : (x == 4611686018427387904) = false) (d3 : (y == 4611686018427387904) = true) (d4 : (x == 2) = false) (d5 : (IntKind.u64.wrap (x * y) == 9223372036854775808) = false) (hg : g = -9223372036854775808) :
    Calls Try.prog 7 #[.int .i64 a, .int .i64 b] w fun e w' => e = .returned (.bool true) ∧ Below w.heap.size w w' := by
  go_enter Try.func7, Try.ntmps7
  go_wp2_with fail
  refine (catacomblaw01_lives.calls true _ hl).mono ?_
  rintro e w1 ⟨rfl, ⟨n1, rfl⟩⟩
  go_wp2_with fail
  refine (nums_Mul.calls k a b g _ hm).mono ?_
  rintro e w2 ⟨rfl, ⟨n2, rfl⟩⟩
  go_upto_region 13 with (fail)
  have hy1 : (y == 0) = false := by simp; omega
  have hy2 : ¬ (y = 0) := by omega
  clear hy0 hx hy
  go_wp2
  go_ret
  exact ⟨by simp, pw_below_drewN (Below.refl _ _) _⟩

set_option maxHeartbeats 4000000 in
theorem muls_np_bigffC (k : Nat) (a b g x y Q : Int) (w : World) (hl : catacomblaw01_lives.f = some true) (hm : nums_Mul.f k a b = some g)
    (c0 : (a == 0) = false) (c1 : (b == 0) = false) (c2 : decide (a < 0) = true) (c3 : decide (b < 0) = false) (c4 : (a == -9223372036854775808) = false) (c5 : (b == -9223372036854775808) = false)
    (hx : (if a < wrap64 (-a) then wrap64 (-a) else a) = x) (hy : (if b < wrap64 (-b) then wrap64 (-b) else b) = y) (hQ : wrap64 (Int.tdiv 9223372036854775807 y) = Q) (hy0 : 1 ≤ y) (hxu : IntKind.u64.wrap x = x) (hyu : IntKind.u64.wrap y = y) (c8 : decide (x ≤ Q) = false)
    (d1 : (x == 4611686018427387904) = false) (d3 : (y == 4611686018427387904) = false) (d5 : (IntKind.u64.wrap (x * y) == 9223372036854775808) = true) (d6 : (x == IntKind.u64.wrap (Int.tdiv 9223372036854775808 y)) = true) (hg : g = wrap64 (a * b)) :
    Calls Try.prog 7 #[.int .i64 a, .int .i64 b] w fun e w' => e = .returned (.bool true) ∧ Below w.heap.size w w' := by
  go_enter Try.func7, Try.ntmps7
  go_wp2_with fail
  refine (catacomblaw01_lives.calls true _ hl).mono ?_
  rintro e w1 ⟨rfl, ⟨n1, rfl⟩⟩
  go_wp2_with fail
  refine (nums_Mul.calls k a b g _ hm).mono ?_
  rintro e w2 ⟨rfl, ⟨n2, rfl⟩⟩
  go_upto_region 13 with (fail)
  have hy1 : (y == 0) = false := by simp; omega
  have hy2 : ¬ (y = 0) := by omega
  clear hy0 hx hy
  go_wp2
  go_ret
  exact ⟨by simp, pw_below_drewN (Below.refl _ _) _⟩

set_option maxHeartbeats 4000000 in
theorem muls_np_bigffD (k : Nat) (a b g x y Q : Int) (w : World) (hl : catacomblaw01_lives.f = some true) (hm : nums_Mul.f k a b = some g)
    (c0 : (a == 0) = false) (c1 : (b == 0) = false) (c2 : decide (a < 0) = true) (c3 : decide (b < 0) = false) (c4 : (a == -9223372036854775808) = false) (c5 : (b == -9223372036854775808) = false)
    (hx : (if a < wrap64 (-a) then wrap64 (-a) else a) = x) (hy : (if b < wrap64 (-b) then wrap64 (-b) else b) = y) (hQ : wrap64 (Int.tdiv 9223372036854775807 y) = Q) (hy0 : 1 ≤ y) (hxu : IntKind.u64.wrap x = x) (hyu : IntKind.u64.wrap y = y) (c8 : decide (x ≤ Q) = false)
    (d1 : (x == 4611686018427387904) = false) (d3 : (y == 4611686018427387904) = false) (d5 : (IntKind.u64.wrap (x * y) == 9223372036854775808) = true) (d6 : (x == IntKind.u64.wrap (Int.tdiv 9223372036854775808 y)) = false) (hg : g = -9223372036854775808) :
    Calls Try.prog 7 #[.int .i64 a, .int .i64 b] w fun e w' => e = .returned (.bool true) ∧ Below w.heap.size w w' := by
  go_enter Try.func7, Try.ntmps7
  go_wp2_with fail
  refine (catacomblaw01_lives.calls true _ hl).mono ?_
  rintro e w1 ⟨rfl, ⟨n1, rfl⟩⟩
  go_wp2_with fail
  refine (nums_Mul.calls k a b g _ hm).mono ?_
  rintro e w2 ⟨rfl, ⟨n2, rfl⟩⟩
  go_upto_region 13 with (fail)
  have hy1 : (y == 0) = false := by simp; omega
  have hy2 : ¬ (y = 0) := by omega
  clear hy0 hx hy
  go_wp2
  go_ret
  exact ⟨by simp, pw_below_drewN (Below.refl _ _) _⟩

set_option maxHeartbeats 4000000 in
theorem muls_np_bigffE (k : Nat) (a b g x y Q : Int) (w : World) (hl : catacomblaw01_lives.f = some true) (hm : nums_Mul.f k a b = some g)
    (c0 : (a == 0) = false) (c1 : (b == 0) = false) (c2 : decide (a < 0) = true) (c3 : decide (b < 0) = false) (c4 : (a == -9223372036854775808) = false) (c5 : (b == -9223372036854775808) = false)
    (hx : (if a < wrap64 (-a) then wrap64 (-a) else a) = x) (hy : (if b < wrap64 (-b) then wrap64 (-b) else b) = y) (hQ : wrap64 (Int.tdiv 9223372036854775807 y) = Q) (hy0 : 1 ≤ y) (hxu : IntKind.u64.wrap x = x) (hyu : IntKind.u64.wrap y = y) (c8 : decide (x ≤ Q) = false)
    (d1 : (x == 4611686018427387904) = false) (d3 : (y == 4611686018427387904) = false) (d5 : (IntKind.u64.wrap (x * y) == 9223372036854775808) = false) (hg : g = -9223372036854775808) :
    Calls Try.prog 7 #[.int .i64 a, .int .i64 b] w fun e w' => e = .returned (.bool true) ∧ Below w.heap.size w w' := by
  go_enter Try.func7, Try.ntmps7
  go_wp2_with fail
  refine (catacomblaw01_lives.calls true _ hl).mono ?_
  rintro e w1 ⟨rfl, ⟨n1, rfl⟩⟩
  go_wp2_with fail
  refine (nums_Mul.calls k a b g _ hm).mono ?_
  rintro e w2 ⟨rfl, ⟨n2, rfl⟩⟩
  go_upto_region 13 with (fail)
  have hy1 : (y == 0) = false := by simp; omega
  have hy2 : ¬ (y = 0) := by omega
  clear hy0 hx hy
  go_wp2
  go_ret
  exact ⟨by simp, pw_below_drewN (Below.refl _ _) _⟩

set_option maxHeartbeats 1000000 in
theorem muls_pn_b1 (k : Nat) (a b g : Int) (w : World) (hl : catacomblaw01_lives.f = some true) (hm : nums_Mul.f k a b = some g)
    (c0 : (a == 0) = false) (c1 : (b == 0) = false) (c2 : decide (a < 0) = false) (c3 : decide (b < 0) = true) (c4 : (a == -9223372036854775808) = false) (c5 : (b == -9223372036854775808) = true) (c6 : (a == 1) = true) (hg : g = wrap64 (a * b)) :
    Calls Try.prog 7 #[.int .i64 a, .int .i64 b] w fun e w' => e = .returned (.bool true) ∧ Below w.heap.size w w' := by
  go_enter Try.func7, Try.ntmps7
  go_wp2_with fail
  refine (catacomblaw01_lives.calls true _ hl).mono ?_
  rintro e w1 ⟨rfl, ⟨n1, rfl⟩⟩
  go_wp2_with fail
  refine (nums_Mul.calls k a b g _ hm).mono ?_
  rintro e w2 ⟨rfl, ⟨n2, rfl⟩⟩
  go_wp2
  go_ret
  exact ⟨by simp, pw_below_drewN (Below.refl _ _) _⟩

set_option maxHeartbeats 1000000 in
theorem muls_pn_b (k : Nat) (a b g : Int) (w : World) (hl : catacomblaw01_lives.f = some true) (hm : nums_Mul.f k a b = some g)
    (c0 : (a == 0) = false) (c1 : (b == 0) = false) (c2 : decide (a < 0) = false) (c3 : decide (b < 0) = true) (c4 : (a == -9223372036854775808) = false) (c5 : (b == -9223372036854775808) = true) (c6 : (a == 1) = false) (c7 : (b == 1) = false) (hg : g = -9223372036854775808) :
    Calls Try.prog 7 #[.int .i64 a, .int .i64 b] w fun e w' => e = .returned (.bool true) ∧ Below w.heap.size w w' := by
  go_enter Try.func7, Try.ntmps7
  go_wp2_with fail
  refine (catacomblaw01_lives.calls true _ hl).mono ?_
  rintro e w1 ⟨rfl, ⟨n1, rfl⟩⟩
  go_wp2_with fail
  refine (nums_Mul.calls k a b g _ hm).mono ?_
  rintro e w2 ⟨rfl, ⟨n2, rfl⟩⟩
  go_wp2
  go_ret
  exact ⟨by simp, pw_below_drewN (Below.refl _ _) _⟩

set_option maxHeartbeats 4000000 in
theorem muls_pn_q (k : Nat) (a b g x y Q : Int) (w : World) (hl : catacomblaw01_lives.f = some true) (hm : nums_Mul.f k a b = some g)
    (c0 : (a == 0) = false) (c1 : (b == 0) = false) (c2 : decide (a < 0) = false) (c3 : decide (b < 0) = true) (c4 : (a == -9223372036854775808) = false) (c5 : (b == -9223372036854775808) = false)
    (hx : (if a < wrap64 (-a) then wrap64 (-a) else a) = x) (hy : (if b < wrap64 (-b) then wrap64 (-b) else b) = y) (hQ : wrap64 (Int.tdiv 9223372036854775807 y) = Q) (hy0 : 1 ≤ y) (hyu : IntKind.u64.wrap y = y) (c8 : decide (x ≤ Q) = true)
    (hg : g = wrap64 (a * b)) :
    Calls Try.prog 7 #[.int .i64 a, .int .i64 b] w fun e w' => e = .returned (.bool true) ∧ Below w.heap.size w w' := by
  go_enter Try.func7, Try.ntmps7
  go_wp2_with fail
  refine (catacomblaw01_lives.calls true _ hl).mono ?_
  rintro e w1 ⟨rfl, ⟨n1, rfl⟩⟩
  go_wp2_with fail
  refine (nums_Mul.calls k a b g _ hm).mono ?_
  rintro e w2 ⟨rfl, ⟨n2, rfl⟩⟩
  go_upto_region 13 with (fail)
  have hy1 : (y == 0) = false := by simp; omega
  have hy2 : ¬ (y = 0) := by omega
  clear hy0 hx hy
  go_wp2
  go_ret
  exact ⟨by simp, pw_below_drewN (Below.refl _ _) _⟩

set_option maxHeartbeats 4000000 in
theorem muls_pn_bigA (k : Nat) (a b g x y Q : Int) (w : World) (hl : catacomblaw01_lives.f = some true) (hm : nums_Mul.f k a b = some g)
    (c0 : (a == 0) = false) (c1 : (b == 0) = false) (c2 : decide (a < 0) = false) (c3 : decide (b < 0) = true) (c4 : (a == -9223372036854775808) = false) (c5 : (b == -9223372036854775808) = false)
    (hx : (if a < wrap64 (-a) then wrap64 (-a) else a) = x) (hy : (if b < wrap64 (-b) then wrap64 (-b) else b) = y) (hQ : wrap64 (Int.tdiv 9223372036854775807 y) = Q) (hy0 : 1 ≤ y) (hyu : IntKind.u64.wrap y = y) (c8 : decide (x ≤ Q) = false)
    (d1 : (x == 4611686018427387904) = true) (d2 : (y == 2) = true) (hg : g = wrap64 (a * b)) :
    Calls Try.prog 7 #[.int .i64 a, .int .i64 b] w fun e w' => e = .returned (.bool true) ∧ Below w.heap.size w w' := by
  go_enter Try.func7, Try.ntmps7
  go_wp2_with fail
  refine (catacomblaw01_lives.calls true _ hl).mono ?_
  rintro e w1 ⟨rfl, ⟨n1, rfl⟩⟩
  go_wp2_with fail
  refine (nums_Mul.calls k a b g _ hm).mono ?_
  rintro e w2 ⟨rfl, ⟨n2, rfl⟩⟩
  go_upto_region 13 with (fail)
  have hy1 : (y == 0) = false := by simp; omega
  have hy2 : ¬ (y = 0) := by omega
  clear hy0 hx hy
  go_wp2
  go_ret
  exact ⟨by simp, pw_below_drewN (Below.refl _ _) _⟩

set_option maxHeartbeats 4000000 in
theorem muls_pn_bigtB (k : Nat) (a b g x y Q : Int) (w : World) (hl : catacomblaw01_lives.f = some true) (hm : nums_Mul.f k a b = some g)
    (c0 : (a == 0) = false) (c1 : (b == 0) = false) (c2 : decide (a < 0) = false) (c3 : decide (b < 0) = true) (c4 : (a == -9223372036854775808) = false) (c5 : (b == -9223372036854775808) = false)
    (hx : (if a < wrap64 (-a) then wrap64 (-a) else a) = x) (hy : (if b < wrap64 (-b) then wrap64 (-b) else b) = y) (hQ : wrap64 (Int.tdiv 9223372036854775807 y) = Q) (hy0 : 1 ≤ y) (hyu : IntKind.u64.wrap y = y) (c8 : decide (x ≤ Q) = false)
    (d1 : (x == 4611686018427387904) = true) (d2 : (y == 2) = false) (d3 : (y == 4611686018427387904) = true) (d4 : (x == 2) = true) (hg : g = wrap64 (a * b)) :
    Calls Try.prog 7 #[.int .i64 a, .int .i64 b] w fun e w' => e = .returned (.bool true) ∧ Below w.heap.size w w' := by
  go_enter Try.func7, Try.ntmps7
  go_wp2_with fail
  refine (catacomblaw01_lives.calls true _ hl).mono ?_
  rintro e w1 ⟨rfl, ⟨n1, rfl⟩⟩
  go_wp2_with fail
  refine (nums_Mul.calls k a b g _ hm).mono ?_
  rintro e w2 ⟨rfl, ⟨n2, rfl⟩⟩
  go_upto_region 13 with (fail)
  have hy1 : (y == 0) = false := by simp; omega
  have hy2 : ¬ (y = 0) := by omega
  clear hy0 hx hy
  go_wp2
  go_ret
  exact ⟨by simp, pw_below_drewN (Below.refl _ _) _⟩

set_option maxHeartbeats 4000000 in
theorem muls_pn_bigttC (k : Nat) (a b g x y Q : Int) (w : World) (hl : catacomblaw01_lives.f = some true) (hm : nums_Mul.f k a b = some g)
    (c0 : (a == 0) = false) (c1 : (b == 0) = false) (c2 : decide (a < 0) = false) (c3 : decide (b < 0) = true) (c4 : (a == -9223372036854775808) = false) (c5 : (b == -9223372036854775808) = false)
    (hx : (if a < wrap64 (-a) then wrap64 (-a) else a) = x) (hy : (if b < wrap64 (-b) then wrap64 (-b) else b) = y) (hQ : wrap64 (Int.tdiv 9223372036854775807 y) = Q) (hy0 : 1 ≤ y) (hxu : IntKind.u64.wrap x = x) (hyu : IntKind.u64.wrap y = y) (c8 : decide (x ≤ Q) = false)
    (d1 : (x == 4611686018427387904) = true) (d2 : (y == 2) = false) (d3 : (y == 4611686018427387904) = true) (d4 : (x == 2) = false) (d5 : (IntKind.u64.wrap (x * y) == 9223372036854775808) = true) (d6 : (x == IntKind.u64.wrap (Int.tdiv 9223372036854775808 y)) = true) (hg : g = wrap64 (a * b)) :
    Calls Try.prog 7 #[.int .i64 a, .int .i64 b] w fun e w' => e = .returned (.bool true) ∧ Below w.heap.size w w' := by
  go_enter Try.func7, Try.ntmps7
  go_wp2_with fail
  refine (catacomblaw01_lives.calls true _ hl).mono ?_
  rintro e w1 ⟨rfl, ⟨n1, rfl⟩⟩
  go_wp2_with fail
  refine (nums_Mul.calls k a b g _ hm).mono ?_
  rintro e w2 ⟨rfl, ⟨n2, rfl⟩⟩
  go_upto_region 13 with (fail)
  have hy1 : (y == 0) = false := by simp; omega
  have hy2 : ¬ (y = 0) := by omega
  clear hy0 hx hy
  go_wp2
  go_ret
  exact ⟨by simp, pw_below_drewN (Below.refl _ _) _⟩

set_option maxHeartbeats 4000000 in
theorem muls_pn_bigttD (k : Nat) (a b g x y Q : Int) (w : World) (hl : catacomblaw01_lives.f = some true) (hm : nums_Mul.f k a b = some g)
    (c0 : (a == 0) = false) (c1 : (b == 0) = false) (c2 : decide (a < 0) = false) (c3 : decide (b < 0) = true) (c4 : (a == -9223372036854775808) = false) (c5 : (b == -9223372036854775808) = false)
    (hx : (if a < wrap64 (-a) then wrap64 (-a) else a) = x) (hy : (if b < wrap64 (-b) then wrap64 (-b) else b) = y) (hQ : wrap64 (Int.tdiv 9223372036854775807 y) = Q) (hy0 : 1 ≤ y) (hxu : IntKind.u64.wrap x = x) (hyu : IntKind.u64.wrap y = y) (c8 : decide (x ≤ Q) = false)
    (d1 : (x == 4611686018427387904) = true) (d2 : (y == 2) = false) (d3 : (y == 4611686018427387904) = true) (d4 : (x == 2) = false) (d5 : (IntKind.u64.wrap (x * y) == 9223372036854775808) = true) (d6 : (x == IntKind.u64.wrap (Int.tdiv 9223372036854775808 y)) = false) (hg : g = -9223372036854775808) :
    Calls Try.prog 7 #[.int .i64 a, .int .i64 b] w fun e w' => e = .returned (.bool true) ∧ Below w.heap.size w w' := by
  go_enter Try.func7, Try.ntmps7
  go_wp2_with fail
  refine (catacomblaw01_lives.calls true _ hl).mono ?_
  rintro e w1 ⟨rfl, ⟨n1, rfl⟩⟩
  go_wp2_with fail
  refine (nums_Mul.calls k a b g _ hm).mono ?_
  rintro e w2 ⟨rfl, ⟨n2, rfl⟩⟩
  go_upto_region 13 with (fail)
  have hy1 : (y == 0) = false := by simp; omega
  have hy2 : ¬ (y = 0) := by omega
  clear hy0 hx hy
  go_wp2
  go_ret
  exact ⟨by simp, pw_below_drewN (Below.refl _ _) _⟩

set_option maxHeartbeats 4000000 in
theorem muls_pn_bigttE (k : Nat) (a b g x y Q : Int) (w : World) (hl : catacomblaw01_lives.f = some true) (hm : nums_Mul.f k a b = some g)
    (c0 : (a == 0) = false) (c1 : (b == 0) = false) (c2 : decide (a < 0) = false) (c3 : decide (b < 0) = true) (c4 : (a == -9223372036854775808) = false) (c5 : (b == -9223372036854775808) = false)
    (hx : (if a < wrap64 (-a) then wrap64 (-a) else a) = x) (hy : (if b < wrap64 (-b) then wrap64 (-b) else b) = y) (hQ : wrap64 (Int.tdiv 9223372036854775807 y) = Q) (hy0 : 1 ≤ y) (hxu : IntKind.u64.wrap x = x) (hyu : IntKind.u64.wrap y = y) (c8 : decide (x ≤ Q) = false)
    (d1 : (x == 4611686018427387904) = true) (d2 : (y == 2) = false) (d3 : (y == 4611686018427387904) = true) (d4 : (x == 2) = false) (d5 : (IntKind.u64.wrap (x * y) == 9223372036854775808) = false) (hg : g = -9223372036854775808) :
    Calls Try.prog 7 #[.int .i64 a, .int .i64 b] w fun e w' => e = .returned (.bool true) ∧ Below w.heap.size w w' := by
  go_enter Try.func7, Try.ntmps7
  go_wp2_with fail
  refine (catacomblaw01_lives.calls true _ hl).mono ?_
  rintro e w1 ⟨rfl, ⟨n1, rfl⟩⟩
  go_wp2_with fail
  refine (nums_Mul.calls k a b g _ hm).mono ?_
  rintro e w2 ⟨rfl, ⟨n2, rfl⟩⟩
  go_upto_region 13 with (fail)
  have hy1 : (y == 0) = false := by simp; omega
  have hy2 : ¬ (y = 0) := by omega
  clear hy0 hx hy
  go_wp2
  go_ret
  exact ⟨by simp, pw_below_drewN (Below.refl _ _) _⟩

set_option maxHeartbeats 4000000 in
theorem muls_pn_bigtfC (k : Nat) (a b g x y Q : Int) (w : World) (hl : catacomblaw01_lives.f = some true) (hm : nums_Mul.f k a b = some g)
    (c0 : (a == 0) = false) (c1 : (b == 0) = false) (c2 : decide (a < 0) = false) (c3 : decide (b < 0) = true) (c4 : (a == -9223372036854775808) = false) (c5 : (b == -9223372036854775808) = false)
    (hx : (if a < wrap64 (-a) then wrap64 (-a) else a) = x) (hy : (if b < wrap64 (-b) then wrap64 (-b) else b) = y) (hQ : wrap64 (Int.tdiv 9223372036854775807 y) = Q) (hy0 : 1 ≤ y) (hxu : IntKind.u64.wrap x = x) (hyu : IntKind.u64.wrap y = y) (c8 : decide (x ≤ Q) = false)
    (d1 : (x == 4611686018427387904) = true) (d2 : (y == 2) = false) (d3 : (y == 4611686018427387904) = false) (d5 : (IntKind.u64.wrap (x * y) == 9223372036854775808) = true) (d6 : (x == IntKind.u64.wrap (Int.tdiv 9223372036854775808 y)) = true) (hg : g = wrap64 (a * b)) :
    Calls Try.prog 7 #[.int .i64 a, .int .i64 b] w fun e w' => e = .returned (.bool true) ∧ Below w.heap.size w w' := by
  go_enter Try.func7, Try.ntmps7
  go_wp2_with fail
  refine (catacomblaw01_lives.calls true _ hl).mono ?_
  rintro e w1 ⟨rfl, ⟨n1, rfl⟩⟩
  go_wp2_with fail
  refine (nums_Mul.calls k a b g _ hm).mono ?_
  rintro e w2 ⟨rfl, ⟨n2, rfl⟩⟩
  go_upto_region 13 with (fail)
  have hy1 : (y == 0) = false := by simp; omega
  have hy2 : ¬ (y = 0) := by omega
  clear hy0 hx hy
  go_wp2
  go_ret
  exact ⟨by simp, pw_below_drewN (Below.refl _ _) _⟩

set_option maxHeartbeats 4000000 in
theorem muls_pn_bigtfD (k : Nat) (a b g x y Q : Int) (w : World) (hl : catacomblaw01_lives.f = some true) (hm : nums_Mul.f k a b = some g)
    (c0 : (a == 0) = false) (c1 : (b == 0) = false) (c2 : decide (a < 0) = false) (c3 : decide (b < 0) = true) (c4 : (a == -9223372036854775808) = false) (c5 : (b == -9223372036854775808) = false)
    (hx : (if a < wrap64 (-a) then wrap64 (-a) else a) = x) (hy : (if b < wrap64 (-b) then wrap64 (-b) else b) = y) (hQ : wrap64 (Int.tdiv 9223372036854775807 y) = Q) (hy0 : 1 ≤ y) (hxu : IntKind.u64.wrap x = x) (hyu : IntKind.u64.wrap y = y) (c8 : decide (x ≤ Q) = false)
    (d1 : (x == 4611686018427387904) = true) (d2 : (y == 2) = false) (d3 : (y == 4611686018427387904) = false) (d5 : (IntKind.u64.wrap (x * y) == 9223372036854775808) = true) (d6 : (x == IntKind.u64.wrap (Int.tdiv 9223372036854775808 y)) = false) (hg : g = -9223372036854775808) :
    Calls Try.prog 7 #[.int .i64 a, .int .i64 b] w fun e w' => e = .returned (.bool true) ∧ Below w.heap.size w w' := by
  go_enter Try.func7, Try.ntmps7
  go_wp2_with fail
  refine (catacomblaw01_lives.calls true _ hl).mono ?_
  rintro e w1 ⟨rfl, ⟨n1, rfl⟩⟩
  go_wp2_with fail
  refine (nums_Mul.calls k a b g _ hm).mono ?_
  rintro e w2 ⟨rfl, ⟨n2, rfl⟩⟩
  go_upto_region 13 with (fail)
  have hy1 : (y == 0) = false := by simp; omega
  have hy2 : ¬ (y = 0) := by omega
  clear hy0 hx hy
  go_wp2
  go_ret
  exact ⟨by simp, pw_below_drewN (Below.refl _ _) _⟩

set_option maxHeartbeats 4000000 in
theorem muls_pn_bigtfE (k : Nat) (a b g x y Q : Int) (w : World) (hl : catacomblaw01_lives.f = some true) (hm : nums_Mul.f k a b = some g)
    (c0 : (a == 0) = false) (c1 : (b == 0) = false) (c2 : decide (a < 0) = false) (c3 : decide (b < 0) = true) (c4 : (a == -9223372036854775808) = false) (c5 : (b == -9223372036854775808) = false)
    (hx : (if a < wrap64 (-a) then wrap64 (-a) else a) = x) (hy : (if b < wrap64 (-b) then wrap64 (-b) else b) = y) (hQ : wrap64 (Int.tdiv 9223372036854775807 y) = Q) (hy0 : 1 ≤ y) (hxu : IntKind.u64.wrap x = x) (hyu : IntKind.u64.wrap y = y) (c8 : decide (x ≤ Q) = false)
    (d1 : (x == 4611686018427387904) = true) (d2 : (y == 2) = false) (d3 : (y == 4611686018427387904) = false) (d5 : (IntKind.u64.wrap (x * y) == 9223372036854775808) = false) (hg : g = -9223372036854775808) :
    Calls Try.prog 7 #[.int .i64 a, .int .i64 b] w fun e w' => e = .returned (.bool true) ∧ Below w.heap.size w w' := by
  go_enter Try.func7, Try.ntmps7
  go_wp2_with fail
  refine (catacomblaw01_lives.calls true _ hl).mono ?_
  rintro e w1 ⟨rfl, ⟨n1, rfl⟩⟩
  go_wp2_with fail
  refine (nums_Mul.calls k a b g _ hm).mono ?_
  rintro e w2 ⟨rfl, ⟨n2, rfl⟩⟩
  go_upto_region 13 with (fail)
  have hy1 : (y == 0) = false := by simp; omega
  have hy2 : ¬ (y = 0) := by omega
  clear hy0 hx hy
  go_wp2
  go_ret
  exact ⟨by simp, pw_below_drewN (Below.refl _ _) _⟩

set_option maxHeartbeats 4000000 in
theorem muls_pn_bigfB (k : Nat) (a b g x y Q : Int) (w : World) (hl : catacomblaw01_lives.f = some true) (hm : nums_Mul.f k a b = some g)
    (c0 : (a == 0) = false) (c1 : (b == 0) = false) (c2 : decide (a < 0) = false) (c3 : decide (b < 0) = true) (c4 : (a == -9223372036854775808) = false) (c5 : (b == -9223372036854775808) = false)
    (hx : (if a < wrap64 (-a) then wrap64 (-a) else a) = x) (hy : (if b < wrap64 (-b) then wrap64 (-b) else b) = y) (hQ : wrap64 (Int.tdiv 9223372036854775807 y) = Q) (hy0 : 1 ≤ y) (hyu : IntKind.u64.wrap y = y) (c8 : decide (x ≤ Q) = false)
    (d1 : (x == 4611686018427387904) = false) (d3 : (y == 4611686018427387904) = true) (d4 : (x == 2) = true) (hg : g = wrap64 (a * b)) :
    Calls Try.prog 7 #[.int .i64 a, .int .i64 b] w fun e w' => e = .returned (.bool true) ∧ Below w.heap.size w w' := by
  go_enter Try.func7, Try.ntmps7
  go_wp2_with fail
  refine (catacomblaw01_lives.calls true _ hl).mono ?_
  rintro e w1 ⟨rfl, ⟨n1, rfl⟩⟩
  go_wp2_with fail
  refine (nums_Mul.calls k a b g _ hm).mono ?_
  rintro e w2 ⟨rfl, ⟨n2, rfl⟩⟩
  go_upto_region 13 with (fail)
  have hy1 : (y == 0) = false := by simp; omega
  have hy2 : ¬ (y = 0) := by omega
  clear hy0 hx hy
  go_wp2
  go_ret
  exact ⟨by simp, pw_below_drewN (Below.refl _ _) _⟩

set_option maxHeartbeats 4000000 in
theorem muls_pn_bigftC (k : Nat) (a b g x y Q : Int) (w : World) (hl : catacomblaw01_lives.f = some true) (hm : nums_Mul.f k a b = some g)
    (c0 : (a == 0) = false) (c1 : (b == 0) = false) (c2 : decide (a < 0) = false) (c3 : decide (b < 0) = true) (c4 : (a == -9223372036854775808) = false) (c5 : (b == -9223372036854775808) = false)
    (hx : (if a < wrap64 (-a) then wrap64 (-a) else a) = x) (hy : (if b < wrap64 (-b) then wrap64 (-b) else b) = y) (hQ : wrap64 (Int.tdiv 9223372036854775807 y) = Q) (hy0 : 1 ≤ y) (hxu : IntKind.u64.wrap x = x) (hyu : IntKind.u64.wrap y = y) (c8 : decide (x ≤ Q) = false)
    (d1 : (x == 4611686018427387904) = false) (d3 : (y == 4611686018427387904) = true) (d4 : (x == 2) = false) (d5 : (IntKind.u64.wrap (x * y) == 9223372036854775808) = true) (d6 : (x == IntKind.u64.wrap (Int.tdiv 9223372036854775808 y)) = true) (hg : g = wrap64 (a * b)) :
    Calls Try.prog 7 #[.int .i64 a, .int .i64 b] w fun e w' => e = .returned (.bool true) ∧ Below w.heap.size w w' := by
  go_enter Try.func7, Try.ntmps7
  go_wp2_with fail
  refine (catacomblaw01_lives.calls true _ hl).mono ?_
  rintro e w1 ⟨rfl, ⟨n1, rfl⟩⟩
  go_wp2_with fail
  refine (nums_Mul.calls k a b g _ hm).mono ?_
  rintro e w2 ⟨rfl, ⟨n2, rfl⟩⟩
  go_upto_region 13 with (fail)
  have hy1 : (y == 0) = false := by simp; omega
  have hy2 : ¬ (y = 0) := by omega
  clear hy0 hx hy
  go_wp2
  go_ret
  exact ⟨by simp, pw_below_drewN (Below.refl _ _) _⟩

set_option maxHeartbeats 4000000 in
theorem muls_pn_bigftD (k : Nat) (a b g x y Q : Int) (w : World) (hl : catacomblaw01_lives.f = some true) (hm : nums_Mul.f k a b = some g)
    (c0 : (a == 0) = false) (c1 : (b == 0) = false) (c2 : decide (a < 0) = false) (c3 : decide (b < 0) = true) (c4 : (a == -9223372036854775808) = false) (c5 : (b == -9223372036854775808) = false)
    (hx : (if a < wrap64 (-a) then wrap64 (-a) else a) = x) (hy : (if b < wrap64 (-b) then wrap64 (-b) else b) = y) (hQ : wrap64 (Int.tdiv 9223372036854775807 y) = Q) (hy0 : 1 ≤ y) (hxu : IntKind.u64.wrap x = x) (hyu : IntKind.u64.wrap y = y) (c8 : decide (x ≤ Q) = false)
    (d1 : (x == 4611686018427387904) = false) (d3 : (y == 4611686018427387904) = true) (d4 : (x == 2) = false) (d5 : (IntKind.u64.wrap (x * y) == 9223372036854775808) = true) (d6 : (x == IntKind.u64.wrap (Int.tdiv 9223372036854775808 y)) = false) (hg : g = -9223372036854775808) :
    Calls Try.prog 7 #[.int .i64 a, .int .i64 b] w fun e w' => e = .returned (.bool true) ∧ Below w.heap.size w w' := by
  go_enter Try.func7, Try.ntmps7
  go_wp2_with fail
  refine (catacomblaw01_lives.calls true _ hl).mono ?_
  rintro e w1 ⟨rfl, ⟨n1, rfl⟩⟩
  go_wp2_with fail
  refine (nums_Mul.calls k a b g _ hm).mono ?_
  rintro e w2 ⟨rfl, ⟨n2, rfl⟩⟩
  go_upto_region 13 with (fail)
  have hy1 : (y == 0) = false := by simp; omega
  have hy2 : ¬ (y = 0) := by omega
  clear hy0 hx hy
  go_wp2
  go_ret
  exact ⟨by simp, pw_below_drewN (Below.refl _ _) _⟩

set_option maxHeartbeats 4000000 in
theorem muls_pn_bigftE (k : Nat) (a b g x y Q : Int) (w : World) (hl : catacomblaw01_lives.f = some true) (hm : nums_Mul.f k a b = some g)
    (c0 : (a == 0) = false) (c1 : (b == 0) = false) (c2 : decide (a < 0) = false) (c3 : decide (b < 0) = true) (c4 : (a == -9223372036854775808) = false) (c5 : (b == -9223372036854775808) = false)
    (hx : (if a < wrap64 (-a) then wrap64 (-a) else a) = x) (hy : (if b < wrap64 (-b) then wrap64 (-b) else b) = y) (hQ : wrap64 (Int.tdiv 9223372036854775807 y) = Q) (hy0 : 1 ≤ y) (hxu : IntKind.u64.wrap x = x) (hyu : IntKind.u64.wrap y = y) (c8 : decide (x ≤ Q) = false)
    (d1 : (x == 4611686018427387904) = false) (d3 : (y == 4611686018427387904) = true) (d4 : (x == 2) = false) (d5 : (IntKind.u64.wrap (x * y) == 9223372036854775808) = false) (hg : g = -9223372036854775808) :
    Calls Try.prog 7 #[.int .i64 a, .int .i64 b] w fun e w' => e = .returned (.bool true) ∧ Below w.heap.size w w' := by
  go_enter Try.func7, Try.ntmps7
  go_wp2_with fail
  refine (catacomblaw01_lives.calls true _ hl).mono ?_
  rintro e w1 ⟨rfl, ⟨n1, rfl⟩⟩
  go_wp2_with fail
  refine (nums_Mul.calls k a b g _ hm).mono ?_
  rintro e w2 ⟨rfl, ⟨n2, rfl⟩⟩
  go_upto_region 13 with (fail)
  have hy1 : (y == 0) = false := by simp; omega
  have hy2 : ¬ (y = 0) := by omega
  clear hy0 hx hy
  go_wp2
  go_ret
  exact ⟨by simp, pw_below_drewN (Below.refl _ _) _⟩

set_option maxHeartbeats 4000000 in
theorem muls_pn_bigffC (k : Nat) (a b g x y Q : Int) (w : World) (hl : catacomblaw01_lives.f = some true) (hm : nums_Mul.f k a b = some g)
    (c0 : (a == 0) = false) (c1 : (b == 0) = false) (c2 : decide (a < 0) = false) (c3 : decide (b < 0) = true) (c4 : (a == -9223372036854775808) = false) (c5 : (b == -9223372036854775808) = false)
    (hx : (if a < wrap64 (-a) then wrap64 (-a) else a) = x) (hy : (if b < wrap64 (-b) then wrap64 (-b) else b) = y) (hQ : wrap64 (Int.tdiv 9223372036854775807 y) = Q) (hy0 : 1 ≤ y) (hxu : IntKind.u64.wrap x = x) (hyu : IntKind.u64.wrap y = y) (c8 : decide (x ≤ Q) = false)
    (d1 : (x == 4611686018427387904) = false) (d3 : (y == 4611686018427387904) = false) (d5 : (IntKind.u64.wrap (x * y) == 9223372036854775808) = true) (d6 : (x == IntKind.u64.wrap (Int.tdiv 9223372036854775808 y)) = true) (hg : g = wrap64 (a * b)) :
    Calls Try.prog 7 #[.int .i64 a, .int .i64 b] w fun e w' => e = .returned (.bool true) ∧ Below w.heap.size w w' := by
  go_enter Try.func7, Try.ntmps7
  go_wp2_with fail
  refine (catacomblaw01_lives.calls true _ hl).mono ?_
  rintro e w1 ⟨rfl, ⟨n1, rfl⟩⟩
  go_wp2_with fail
  refine (nums_Mul.calls k a b g _ hm).mono ?_
  rintro e w2 ⟨rfl, ⟨n2, rfl⟩⟩
  go_upto_region 13 with (fail)
  have hy1 : (y == 0) = false := by simp; omega
  have hy2 : ¬ (y = 0) := by omega
  clear hy0 hx hy
  go_wp2
  go_ret
  exact ⟨by simp, pw_below_drewN (Below.refl _ _) _⟩

set_option maxHeartbeats 4000000 in
theorem muls_pn_bigffD (k : Nat) (a b g x y Q : Int) (w : World) (hl : catacomblaw01_lives.f = some true) (hm : nums_Mul.f k a b = some g)
    (c0 : (a == 0) = false) (c1 : (b == 0) = false) (c2 : decide (a < 0) = false) (c3 : decide (b < 0) = true) (c4 : (a == -9223372036854775808) = false) (c5 : (b == -9223372036854775808) = false)
    (hx : (if a < wrap64 (-a) then wrap64 (-a) else a) = x) (hy : (if b < wrap64 (-b) then wrap64 (-b) else b) = y) (hQ : wrap64 (Int.tdiv 9223372036854775807 y) = Q) (hy0 : 1 ≤ y) (hxu : IntKind.u64.wrap x = x) (hyu : IntKind.u64.wrap y = y) (c8 : decide (x ≤ Q) = false)
    (d1 : (x == 4611686018427387904) = false) (d3 : (y == 4611686018427387904) = false) (d5 : (IntKind.u64.wrap (x * y) == 9223372036854775808) = true) (d6 : (x == IntKind.u64.wrap (Int.tdiv 9223372036854775808 y)) = false) (hg : g = -9223372036854775808) :
    Calls Try.prog 7 #[.int .i64 a, .int .i64 b] w fun e w' => e = .returned (.bool true) ∧ Below w.heap.size w w' := by
  go_enter Try.func7, Try.ntmps7
  go_wp2_with fail
  refine (catacomblaw01_lives.calls true _ hl).mono ?_
  rintro e w1 ⟨rfl, ⟨n1, rfl⟩⟩
  go_wp2_with fail
  refine (nums_Mul.calls k a b g _ hm).mono ?_
  rintro e w2 ⟨rfl, ⟨n2, rfl⟩⟩
  go_upto_region 13 with (fail)
  have hy1 : (y == 0) = false := by simp; omega
  have hy2 : ¬ (y = 0) := by omega
  clear hy0 hx hy
  go_wp2
  go_ret
  exact ⟨by simp, pw_below_drewN (Below.refl _ _) _⟩

set_option maxHeartbeats 4000000 in
theorem muls_pn_bigffE (k : Nat) (a b g x y Q : Int) (w : World) (hl : catacomblaw01_lives.f = some true) (hm : nums_Mul.f k a b = some g)
    (c0 : (a == 0) = false) (c1 : (b == 0) = false) (c2 : decide (a < 0) = false) (c3 : decide (b < 0) = true) (c4 : (a == -9223372036854775808) = false) (c5 : (b == -9223372036854775808) = false)
    (hx : (if a < wrap64 (-a) then wrap64 (-a) else a) = x) (hy : (if b < wrap64 (-b) then wrap64 (-b) else b) = y) (hQ : wrap64 (Int.tdiv 9223372036854775807 y) = Q) (hy0 : 1 ≤ y) (hxu : IntKind.u64.wrap x = x) (hyu : IntKind.u64.wrap y = y) (c8 : decide (x ≤ Q) = false)
    (d1 : (x == 4611686018427387904) = false) (d3 : (y == 4611686018427387904) = false) (d5 : (IntKind.u64.wrap (x * y) == 9223372036854775808) = false) (hg : g = -9223372036854775808) :
    Calls Try.prog 7 #[.int .i64 a, .int .i64 b] w fun e w' => e = .returned (.bool true) ∧ Below w.heap.size w w' := by
  go_enter Try.func7, Try.ntmps7
  go_wp2_with fail
  refine (catacomblaw01_lives.calls true _ hl).mono ?_
  rintro e w1 ⟨rfl, ⟨n1, rfl⟩⟩
  go_wp2_with fail
  refine (nums_Mul.calls k a b g _ hm).mono ?_
  rintro e w2 ⟨rfl, ⟨n2, rfl⟩⟩
  go_upto_region 13 with (fail)
  have hy1 : (y == 0) = false := by simp; omega
  have hy2 : ¬ (y = 0) := by omega
  clear hy0 hx hy
  go_wp2
  go_ret
  exact ⟨by simp, pw_below_drewN (Below.refl _ _) _⟩

set_option maxHeartbeats 4000000 in
theorem muls_pp_q (k : Nat) (a b g x y Q : Int) (w : World) (hl : catacomblaw01_lives.f = some true) (hm : nums_Mul.f k a b = some g)
    (c0 : (a == 0) = false) (c1 : (b == 0) = false) (c2 : decide (a < 0) = false) (c3 : decide (b < 0) = false) (c4 : (a == -9223372036854775808) = false) (c5 : (b == -9223372036854775808) = false)
    (hx : (if a < wrap64 (-a) then wrap64 (-a) else a) = x) (hy : (if b < wrap64 (-b) then wrap64 (-b) else b) = y) (hQ : wrap64 (Int.tdiv 9223372036854775807 y) = Q) (hy0 : 1 ≤ y) (hyu : IntKind.u64.wrap y = y) (c8 : decide (x ≤ Q) = true)
    (hg : g = wrap64 (a * b)) :
    Calls Try.prog 7 #[.int .i64 a, .int .i64 b] w fun e w' => e = .returned (.bool true) ∧ Below w.heap.size w w' := by
  go_enter Try.func7, Try.ntmps7
  go_wp2_with fail
  refine (catacomblaw01_lives.calls true _ hl).mono ?_
  rintro e w1 ⟨rfl, ⟨n1, rfl⟩⟩
  go_wp2_with fail
  refine (nums_Mul.calls k a b g _ hm).mono ?_
  rintro e w2 ⟨rfl, ⟨n2, rfl⟩⟩
  go_upto_region 13 with (fail)
  have hy1 : (y == 0) = false := by simp; omega
  have hy2 : ¬ (y = 0) := by omega
  clear hy0 hx hy
  go_wp2
  go_ret
  exact ⟨by simp, pw_below_drewN (Below.refl _ _) _⟩

set_option maxHeartbeats 4000000 in
theorem muls_pp_big (k : Nat) (a b g x y Q : Int) (w : World) (hl : catacomblaw01_lives.f = some true) (hm : nums_Mul.f k a b = some g)
    (c0 : (a == 0) = false) (c1 : (b == 0) = false) (c2 : decide (a < 0) = false) (c3 : decide (b < 0) = false) (c4 : (a == -9223372036854775808) = false) (c5 : (b == -9223372036854775808) = false)
    (hx : (if a < wrap64 (-a) then wrap64 (-a) else a) = x) (hy : (if b < wrap64 (-b) then wrap64 (-b) else b) = y) (hQ : wrap64 (Int.tdiv 9223372036854775807 y) = Q) (hy0 : 1 ≤ y) (hyu : IntKind.u64.wrap y = y) (c8 : decide (x ≤ Q) = false)
    (hg : g = 9223372036854775807) :
    Calls Try.prog 7 #[.int .i64 a, .int .i64 b] w fun e w' => e = .returned (.bool true) ∧ Below w.heap.size w w' := by
  go_enter Try.func7, Try.ntmps7
  go_wp2_with fail
  refine (catacomblaw01_lives.calls true _ hl).mono ?_
  rintro e w1 ⟨rfl, ⟨n1, rfl⟩⟩
  go_wp2_with fail
  refine (nums_Mul.calls k a b g _ hm).mono ?_
  rintro e w2 ⟨rfl, ⟨n2, rfl⟩⟩
  go_upto_region 13 with (fail)
  have hy1 : (y == 0) = false := by simp; omega
  have hy2 : ¬ (y = 0) := by omega
  clear hy0 hx hy
  go_wp2
  go_ret
  exact ⟨by simp, pw_below_drewN (Below.refl _ _) _⟩

end Go.Proofs.Ytbfjfplhgdnipaa
