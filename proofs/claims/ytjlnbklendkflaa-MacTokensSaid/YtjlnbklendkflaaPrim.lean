/- hash.right, and the reference's prime, Primes, high, Cube, Square, turn: out of a printed text, three lines less. -/
import Derived.Test.YtjlnbklendkflaaPHashSumsx0
namespace Go.Proofs.Ytjlnbklendkflaa.PHashSums
open Go.RowKit Go.Proofs.YtjlnbklendkflaaW.PrintWords Go.Proofs.YtjlnbklendkflaaW.PrintLast Go.Proofs.YtjlnbklendkflaaW.PrintMore
attribute [local go_sem] max2_int min2_int max_two min_two max_three min_three max_four min_four   -- for this text's walks alone
set_option linter.unusedVariables false
set_option linter.unusedSimpArgs false

-- NOT PRINTED: function 13 (hash_New)

/-! ### bits_RotateLeft32: function 43 -/
def bits_RotateLeft32.f (a0 : Int) (a1 : Int) : Option (Int) := if 0 ≤ (Go.bits .and .u64 (IntKind.u64.wrap (a1)) 31) then (if 0 ≤ (IntKind.u64.wrap (32 - (Go.bits .and .u64 (IntKind.u64.wrap (a1)) 31))) then (some (Go.bits .or .u32 (shl .u32 a0 (Go.bits .and .u64 (IntKind.u64.wrap (a1)) 31)) (shr .u32 a0 (IntKind.u64.wrap (32 - (Go.bits .and .u64 (IntKind.u64.wrap (a1)) 31)))))) else (none)) else (none)
set_option maxHeartbeats 8000000 in
set_option maxRecDepth 100000 in
theorem bits_RotateLeft32.calls (a0 : Int) (a1 : Int) (r : Int) (w : World) (h : bits_RotateLeft32.f a0 a1 = some r) :
    Calls Try.prog 43 #[.int .u32 a0, .int .i64 a1] w fun e w' => e = .returned (.int .u32 r) ∧ Drawn0 w w' := by
  have H : (if 0 ≤ (Go.bits .and .u64 (IntKind.u64.wrap (a1)) 31) then (if 0 ≤ (IntKind.u64.wrap (32 - (Go.bits .and .u64 (IntKind.u64.wrap (a1)) 31))) then (some (Go.bits .or .u32 (shl .u32 a0 (Go.bits .and .u64 (IntKind.u64.wrap (a1)) 31)) (shr .u32 a0 (IntKind.u64.wrap (32 - (Go.bits .and .u64 (IntKind.u64.wrap (a1)) 31)))))) else (none)) else (none)) = some r := h
  clear h
  obtain ⟨ji3, hji3⟩ : ∃ j_ : Int, (Go.bits .and .u64 (IntKind.u64.wrap (a1)) 31) = j_ := ⟨_, rfl⟩
  replace H : (if 0 ≤ (ji3) then (if 0 ≤ (IntKind.u64.wrap (32 - (ji3))) then (some (Go.bits .or .u32 (shl .u32 a0 (ji3)) (shr .u32 a0 (IntKind.u64.wrap (32 - (ji3)))))) else (none)) else (none)) = some r := by first | (rw [hji3] at H; exact H) | (simp only [hji3] at H ⊢; exact H)
  by_cases c4 : 0 ≤ (ji3)
  · rw [if_pos c4] at H
    have c4b0 := eq_true c4
    have c4b1 : decide (0 ≤ (ji3)) = true := decide_eq_true c4
    clear c4
    obtain ⟨ji5, hji5⟩ : ∃ j_ : Int, (shl .u32 a0 (ji3)) = j_ := ⟨_, rfl⟩
    replace H : (if 0 ≤ (IntKind.u64.wrap (32 - (ji3))) then (some (Go.bits .or .u32 (ji5) (shr .u32 a0 (IntKind.u64.wrap (32 - (ji3)))))) else (none)) = some r := by first | (rw [hji5] at H; exact H) | (simp only [hji5] at H ⊢; exact H)
    have hji5_ : (IntKind.u32.wrap (a0 * 2 ^ min (ji3).toNat 32)) = ji5 := hji5
    have hji5z : (ji3) ≤ 32 → (IntKind.u32.wrap (a0 * 2 ^ (ji3).toNat)) = ji5 := shl_small hji5
    obtain ⟨ji6, hji6⟩ : ∃ j_ : Int, (IntKind.u64.wrap (32 - (ji3))) = j_ := ⟨_, rfl⟩
    replace H : (if 0 ≤ (ji6) then (some (Go.bits .or .u32 (ji5) (shr .u32 a0 (ji6)))) else (none)) = some r := by first | (rw [hji6] at H; exact H) | (simp only [hji6] at H ⊢; exact H)
    by_cases c7 : 0 ≤ (ji6)
    · rw [if_pos c7] at H
      have c7b0 := eq_true c7
      have c7b1 : decide (0 ≤ (ji6)) = true := decide_eq_true c7
      clear c7
      obtain ⟨ji8, hji8⟩ : ∃ j_ : Int, (shr .u32 a0 (ji6)) = j_ := ⟨_, rfl⟩
      replace H : (some (Go.bits .or .u32 (ji5) (ji8))) = some r := by first | (rw [hji8] at H; exact H) | (simp only [hji8] at H ⊢; exact H)
      have hji8_ : (a0 / 2 ^ min (ji6).toNat 32) = ji8 := hji8
      have hji8z : (ji6) ≤ 32 → (a0 / 2 ^ (ji6).toNat) = ji8 := shr_small hji8
      obtain rfl := Option.some.inj H
      go_enter Try.func43, Try.ntmps43
      go_wp2
      go_ret
      exact ⟨by first | rfl | (simp; done) | (simp only [← hji3, ← hji5, ← hji6, ← hji8] <;> (first | rfl | simp)) | (simp [*]; done), by repeat (first | exact Drawn0.refl _ | apply Drawn0.step)⟩
    · rw [if_neg c7] at H
      exact absurd H (by simp)
  · rw [if_neg c4] at H
    exact absurd H (by simp)

/-! ### hash_right: function 39 -/
def hash_right.f (a0 : Int) (a1 : Int) : Option (Int) := (bits_RotateLeft32.f a0 (wrap64 (-a1))).bind fun t101 => (some t101)
set_option maxHeartbeats 8000000 in
set_option maxRecDepth 100000 in
theorem hash_right.calls (a0 : Int) (a1 : Int) (r : Int) (w : World) (h : hash_right.f a0 a1 = some r) :
    Calls Try.prog 39 #[.int .u32 a0, .int .i64 a1] w fun e w' => e = .returned (.int .u32 r) ∧ Drawn0 w w' := by
  have H : ((bits_RotateLeft32.f a0 (wrap64 (-a1))).bind fun t101 => (some t101)) = some r := h
  clear h
  replace H := Option.bind_eq_some_iff.mp H
  obtain ⟨t101, A30, H⟩ := H
  replace H : (some t101) = some r := H
  have A3 := Aside0.mk A30
  clear A30
  obtain rfl := Option.some.inj H
  go_enter Try.func39, Try.ntmps39
  go_wp2_with (first | ((with_reducible refine gate_callee (f := 43) rfl ?_); refine goesL_ (some 8) rfl rfl Try.func43 (by kernel_rfl) rfl #[.int .u32 a0, .int .i64 (wrap64 (-a1))] rfl (by (try simp only [List.map_toArray, List.map_cons, List.map_nil]); first | done | rfl | (simp only [List.length_drop, List.length_take]; rfl)) ?_; (with_reducible refine (bits_RotateLeft32.calls a0 (wrap64 (-a1)) t101 _ A3.out).mono ?_); rintro e w' ⟨rfl, ⟨nd, rfl⟩⟩; refine ⟨_, rfl, ?_⟩))
  go_ret
  exact ⟨by first | rfl | (simp; done) | (simp [*]; done), by repeat (first | exact Drawn0.refl _ | apply Drawn0.step)⟩

-- NOT PRINTED: function 38 (hash_schedule)

-- NOT PRINTED: function 40 (hash_key)

-- NOT PRINTED: function 27 (hash_State_one)

-- NOT PRINTED: function 14 (hash_State_Write)

-- NOT PRINTED: function 28 (slices_Clone_byte_byte)

-- NOT PRINTED: function 16 (hash_State_Copy)

-- NOT PRINTED: function 15 (hash_State_Sum)

-- NOT PRINTED: function 11 (hash_Sum)

-- NOT PRINTED: function 10 (catacomblaw05_lives)

/-! ### catacombref05_prime: function 36 -/
def catacombref05_prime.l0 : Nat → Int → Int → Option (Bool)
  | 0, _, _ => none
  | k + 1, x0, x3 => if (IntKind.u64.wrap (x3 * x3)) ≤ x0 then (if x3 = 0 then (none) else (if (Int.tmod x0 x3) = 0 then (some false) else (catacombref05_prime.l0 k x0 (IntKind.u64.wrap (x3 + 1))))) else (some (decide (x0 ≥ 2)))
def catacombref05_prime.f (k : Nat) (a0 : Int) : Option (Bool) := catacombref05_prime.l0 k a0 2
theorem catacombref05_prime.mono_l : ∀ k, (∀ y0 y1, LeO (catacombref05_prime.l0 k y0 y1) (catacombref05_prime.l0 (k + 1) y0 y1))
  | 0 => fun _ _ r h => by simp [catacombref05_prime.l0] at h
  | k + 1 => by
    have ih0 := catacombref05_prime.mono_l k
    · intro y0 y1
      unfold catacombref05_prime.l0
      repeat' first
      | (with_reducible exact ih0 _ _)
      | (with_reducible exact LeO.refl _)
      | (with_reducible exact LeO.none _)
      | (with_reducible refine LeO.ite ?_ ?_)
      | (with_reducible refine LeO.bind ?_ (fun _ => ?_))
      | exact ih0 _ _
      | exact LeO.none _
      | refine LeO.ite ?_ ?_
      | refine LeO.bind ?_ (fun _ => ?_)
theorem catacombref05_prime.mono : ∀ a0 k, LeO (catacombref05_prime.f k a0) (catacombref05_prime.f (k + 1) a0) := by
  intro a0 k
  have ih0 := catacombref05_prime.mono_l k
  unfold catacombref05_prime.f
  repeat' first
      | (with_reducible exact ih0 _ _)
      | (with_reducible exact LeO.refl _)
      | (with_reducible exact LeO.none _)
      | (with_reducible refine LeO.ite ?_ ?_)
      | (with_reducible refine LeO.bind ?_ (fun _ => ?_))
      | exact ih0 _ _
      | exact LeO.none _
      | refine LeO.ite ?_ ?_
      | refine LeO.bind ?_ (fun _ => ?_)
set_option maxHeartbeats 8000000 in
set_option maxRecDepth 100000 in
theorem catacombref05_prime.calls (k : Nat) (a0 : Int) (r : Bool) (w : World) (h : catacombref05_prime.f k a0 = some r) :
    Calls Try.prog 36 #[.int .u64 a0] w fun e w' => e = .returned (.bool r) ∧ Drawn0 w w' := by
  have H : (catacombref05_prime.l0 k a0 2) = some r := h
  clear h
  have H' := Aside0.mk H
  clear H
  go_enter Try.func36, Try.ntmps36
  go_wp2
  go_loopg [3] k (fun kq v3 w' => ∃ (x3_1 : Int), v3 = .int .u64 x3_1 ∧ Aside0 (catacombref05_prime.l0 kq a0 x3_1 = some r) ∧ Aside0 (kq ≤ k) ∧ Drawn0 w w')
  case atStart => exact ⟨(2), (by first | rfl | (simp; done) | (simp [*]; done)), H', ⟨Nat.le_refl _⟩, by repeat (first | exact Drawn0.refl _ | apply Drawn0.step)⟩
  case round =>
    clear H'
    obtain ⟨x3_1, rfl, HA, HK1, ⟨m1, rfl⟩⟩ := hrel
    cases gk with
    | zero => exact absurd HA.out (by simp [catacombref05_prime.l0])
    | succ k1 =>
      have H := HA.out
      clear HA
      simp only [catacombref05_prime.l0] at H
      by_cases c2 : (IntKind.u64.wrap (x3_1 * x3_1)) ≤ a0
      · rw [if_pos c2] at H
        have c2b0 : decide ((IntKind.u64.wrap (x3_1 * x3_1)) ≤ a0) = true := decide_eq_true c2
        clear c2
        by_cases c3 : x3_1 = 0
        · rw [if_pos c3] at H
          exact absurd H (by simp)
        · rw [if_neg c3] at H
          have c3b0 : (x3_1 == 0) = false := beq_eq_false_iff_ne.mpr c3
          have c3b1 : (x3_1 != 0) = true := bne_iff_ne.mpr c3
          by_cases c4 : (Int.tmod a0 x3_1) = 0
          · rw [if_pos c4] at H
            have c4b0 : ((Int.tmod a0 x3_1) == 0) = true := beq_iff_eq.mpr c4
            have c4b1 : ((Int.tmod a0 x3_1) != 0) = false := bne_eq_false_iff_eq.mpr c4
            clear c4
            obtain rfl := Option.some.inj H
            go_wp2
            go_ret
            exact ⟨by first | rfl | (simp; done) | (simp [*]; done), by repeat (first | exact Drawn0.refl _ | apply Drawn0.step)⟩
          · rw [if_neg c4] at H
            have c4b0 : ((Int.tmod a0 x3_1) == 0) = false := beq_eq_false_iff_ne.mpr c4
            have c4b1 : ((Int.tmod a0 x3_1) != 0) = true := bne_iff_ne.mpr c4
            have H' := Aside0.mk H
            clear H
            go_wp2
            go_roundg k1
            case measure => have := HK1.out; omega
            case rel => exact ⟨(IntKind.u64.wrap (x3_1 + 1)), (by first | rfl | (simp; done) | (simp [*]; done)), H', ⟨by have := HK1.out; omega⟩, by repeat (first | exact Drawn0.refl _ | apply Drawn0.step)⟩
      · rw [if_neg c2] at H
        have c2b0 : decide ((IntKind.u64.wrap (x3_1 * x3_1)) ≤ a0) = false := decide_eq_false c2
        clear c2
        obtain rfl := Option.some.inj H
        go_wp2
        go_ret
        exact ⟨by first | rfl | (simp; done) | (simp [*]; done), by repeat (first | exact Drawn0.refl _ | apply Drawn0.step)⟩

/-! ### catacombref05_Primes: function 23 -/
def catacombref05_Primes.l0 : Nat → Int → List Int → Int → Option (List Int)
  | 0, _, _, _ => none
  | k + 1, x0, x3, x4 => if (x3.length : Int) < x0 then ((catacombref05_prime.f k x4).bind fun t105 => (if t105 = true then (if x3.length < 17592186044416 then (catacombref05_Primes.l0 k x0 (x3 ++ [x4]) (IntKind.u64.wrap (x4 + 1))) else (none)) else (catacombref05_Primes.l0 k x0 x3 (IntKind.u64.wrap (x4 + 1))))) else (some x3)
def catacombref05_Primes.f (k : Nat) (a0 : Int) : Option (List Int) := catacombref05_Primes.l0 k a0 ([] : List Int) 2
theorem catacombref05_Primes.mono_l : ∀ k, (∀ y0 y1 y2, LeO (catacombref05_Primes.l0 k y0 y1 y2) (catacombref05_Primes.l0 (k + 1) y0 y1 y2))
  | 0 => fun _ _ _ r h => by simp [catacombref05_Primes.l0] at h
  | k + 1 => by
    have ih0 := catacombref05_Primes.mono_l k
    · intro y0 y1 y2
      unfold catacombref05_Primes.l0
      repeat' first
      | (with_reducible exact ih0 _ _ _)
      | (with_reducible exact catacombref05_prime.mono _ _)
      | (with_reducible exact LeO.refl _)
      | (with_reducible exact LeO.none _)
      | (with_reducible refine LeO.ite ?_ ?_)
      | (with_reducible refine LeO.bind ?_ (fun _ => ?_))
      | exact ih0 _ _ _
      | exact catacombref05_prime.mono _ _
      | exact LeO.none _
      | refine LeO.ite ?_ ?_
      | refine LeO.bind ?_ (fun _ => ?_)
theorem catacombref05_Primes.mono : ∀ a0 k, LeO (catacombref05_Primes.f k a0) (catacombref05_Primes.f (k + 1) a0) := by
  intro a0 k
  have ih0 := catacombref05_Primes.mono_l k
  unfold catacombref05_Primes.f
  repeat' first
      | (with_reducible exact ih0 _ _ _)
      | (with_reducible exact catacombref05_prime.mono _ _)
      | (with_reducible exact LeO.refl _)
      | (with_reducible exact LeO.none _)
      | (with_reducible refine LeO.ite ?_ ?_)
      | (with_reducible refine LeO.bind ?_ (fun _ => ?_))
      | exact ih0 _ _ _
      | exact catacombref05_prime.mono _ _
      | exact LeO.none _
      | refine LeO.ite ?_ ?_
      | refine LeO.bind ?_ (fun _ => ?_)
set_option maxHeartbeats 8000000 in
set_option maxRecDepth 100000 in
theorem catacombref05_Primes.calls (k : Nat) (a0 : Int) (r : List Int) (w : World) (h : catacombref05_Primes.f k a0 = some r) :
    Calls Try.prog 23 #[.int .i64 a0] w fun e w' => ∃ v0_ : Value, e = .returned (v0_) ∧ Kd.R (Kd.int .u64) 48 w' w.heap.size (fun _ => True) v0_ r ∧ Below w.heap.size w w' := by
  have HB := Aside0.mk (Below.refl w.heap.size w)
  have H : (catacombref05_Primes.l0 k a0 ([] : List Int) 2) = some r := h
  clear h
  have H' := Aside0.mk H
  clear H
  go_enter Try.func23, Try.ntmps23
  go_wp2
  go_loopg [3, 4] k (fun kq v3 v4 w' => ∃ (x3_1 : List Int) (x4_1 : Int), v4 = .int .u64 x4_1 ∧ Aside0 (catacombref05_Primes.l0 kq a0 x3_1 x4_1 = some r) ∧ Aside0 (kq ≤ k) ∧ Aside0 (Kd.R (Kd.int .u64) 48 w' w.heap.size (fun _ => True) v3 x3_1) ∧ Aside0 (Below w.heap.size w w'))
  case atStart => exact ⟨(([] : List Int)), (2), (by first | rfl | (simp; done) | (simp [*]; done)), H', ⟨Nat.le_refl _⟩, ⟨by first | exact Kd.R_nil _ _ _ _ _ | exact Kd.N_nil _ _ _ _ _ | exact Kd.V_nil _ _ _ _ _ | exact Kd.Q_nil _ _ _ _ _ | exact Kd.S_nil _ _ _ _ _⟩, ⟨by repeat (first | (with_reducible first | exact HB.out | apply below_alloc | apply pw_below_drewN | apply below_drew1) | exact HB.out)⟩⟩
  case round =>
    clear H'
    obtain ⟨x3_1, x4_1, rfl, HA, HK1, HO_3, HB⟩ := hrel
    cases gk with
    | zero => exact absurd HA.out (by simp [catacombref05_Primes.l0])
    | succ k1 =>
      have H := HA.out
      clear HA
      simp only [catacombref05_Primes.l0] at H
      by_cases c2 : (x3_1.length : Int) < a0
      · rw [if_pos c2] at H
        have c2b0 : decide ((x3_1.length : Int) < a0) = true := decide_eq_true c2
        clear c2
        replace H := Option.bind_eq_some_iff.mp H
        obtain ⟨t105, A30, H⟩ := H
        replace H : (if t105 = true then (if x3_1.length < 17592186044416 then (catacombref05_Primes.l0 k1 a0 (x3_1 ++ [x4_1]) (IntKind.u64.wrap (x4_1 + 1))) else (none)) else (catacombref05_Primes.l0 k1 a0 x3_1 (IntKind.u64.wrap (x4_1 + 1)))) = some r := H
        have A3 := Aside0.mk A30
        clear A30
        by_cases c4 : t105 = true
        · subst c4
          have H1 : (if x3_1.length < 17592186044416 then (catacombref05_Primes.l0 k1 a0 (x3_1 ++ [x4_1]) (IntKind.u64.wrap (x4_1 + 1))) else (none)) = some r := by rw [if_pos rfl] at H; exact H
          clear H
          have H := H1
          clear H1
          by_cases c5 : x3_1.length < 17592186044416
          · rw [if_pos c5] at H
            have LMc5 := Aside0.mk c5
            clear c5
            obtain ⟨y106, hy106⟩ : ∃ y_ : List Int, y_ = (x3_1 ++ [x4_1]) := ⟨_, rfl⟩
            replace H : (catacombref05_Primes.l0 k1 a0 y106 (IntKind.u64.wrap (x4_1 + 1))) = some r := by first | (rw [hy106]; with_reducible exact H) | (have H2_ := (Option.bind_some _ _).symm.trans H; rw [hy106]; with_reducible exact H2_) | (have H2_ := (Option.bind_some _ _).symm.trans H; with_reducible exact H2_) | with_reducible exact H | (rw [hy106]; exact H) | exact H
            have Ny106 := Aside0.mk hy106
            clear hy106
            have H' := Aside0.mk H
            clear H
            obtain ⟨Ao6, co6, eo6⟩ := Kd.R_slice HO_3.out
            subst eo6
            go_wp2_with (first | ((with_reducible refine gate_callee (f := 36) rfl ?_); refine goesL_ (some 12) rfl rfl Try.func36 (by kernel_rfl) rfl #[.int .u64 x4_1] rfl (by (try simp only [List.map_toArray, List.map_cons, List.map_nil]); first | done | rfl | (simp only [List.length_drop, List.length_take]; rfl)) ?_; (with_reducible refine (catacombref05_prime.calls k1 x4_1 true _ A3.out).mono ?_); rintro e w' ⟨rfl, ⟨nd, rfl⟩⟩; refine ⟨_, rfl, ?_⟩) | ((with_reducible refine gate_builtin (b := .append) (xs := #[.tmp 13, .tmp 15]) rfl ?_); at_builtin; refine Kd.R_append (Kd.int .u64) (w0 := w) w.heap.size rfl (.tmp 13) (.tmp 15) 43 48 (.int .u64 0) 8 rfl Try.underlying43 info48 rfl (by decide) (by omega) (.slice Ao6 x3_1.length co6) x3_1 x4_1 [.int .u64 x4_1] (fun _ => True) (fun _ => False) rfl rfl ?aP (fun _ hk => hk.elim) ?aF ?aO ?aB ?aS ?aL ?_; (case aP => exact rfl); (case aB => exact (by repeat (first | (with_reducible first | exact HB.out | apply below_alloc | apply pw_below_drewN | apply below_drew1) | exact HB.out))); (case aF => exact (fun _ _ => trivial)); (case aO => exact (by (with_reducible repeat (first | apply Kd.R_alloc | apply Kd.R_drewN | apply Kd.R_drew)); exact HO_3.out)); (case aS => exact (below_size (by repeat (first | (with_reducible first | exact HB.out | apply below_alloc | apply pw_below_drewN | apply below_drew1) | exact HB.out)))); (case aL => have := LMc5.out; omega); intro v107 w7 ho hb hg hat; rw [← Ny106.out] at ho; have n0_ := Aside0.mk (hb); have n1_ := Aside0.mk (ho); clear HB; clear HO_3; have HB := n0_; have HO108 := n1_; clear n0_ n1_; clear ho hb hg hat))
            go_roundg k1
            case measure => have := HK1.out; omega
            case rel => exact ⟨(y106), (IntKind.u64.wrap (x4_1 + 1)), (by first | rfl | (simp; done) | (simp [*]; done)), H', ⟨by have := HK1.out; omega⟩, ⟨by (with_reducible repeat (first | apply Kd.R_alloc | apply Kd.R_drewN | apply Kd.R_drew)); exact HO108.out⟩, ⟨by repeat (first | (with_reducible first | exact HB.out | apply below_alloc | apply pw_below_drewN | apply below_drew1) | exact HB.out)⟩⟩
          · rw [if_neg c5] at H
            exact absurd H (by simp)
        · replace c4 := Bool.eq_false_iff.mpr c4
          subst c4
          have H1 : (catacombref05_Primes.l0 k1 a0 x3_1 (IntKind.u64.wrap (x4_1 + 1))) = some r := by rw [if_neg (show ¬ (false = true) by decide)] at H; exact H
          clear H
          have H := H1
          clear H1
          have H' := Aside0.mk H
          clear H
          obtain ⟨Ao8, co8, eo8⟩ := Kd.R_slice HO_3.out
          subst eo8
          go_wp2_with (first | ((with_reducible refine gate_callee (f := 36) rfl ?_); refine goesL_ (some 12) rfl rfl Try.func36 (by kernel_rfl) rfl #[.int .u64 x4_1] rfl (by (try simp only [List.map_toArray, List.map_cons, List.map_nil]); first | done | rfl | (simp only [List.length_drop, List.length_take]; rfl)) ?_; (with_reducible refine (catacombref05_prime.calls k1 x4_1 false _ A3.out).mono ?_); rintro e w' ⟨rfl, ⟨nd, rfl⟩⟩; refine ⟨_, rfl, ?_⟩))
          go_roundg k1
          case measure => have := HK1.out; omega
          case rel => exact ⟨(x3_1), (IntKind.u64.wrap (x4_1 + 1)), (by first | rfl | (simp; done) | (simp [*]; done)), H', ⟨by have := HK1.out; omega⟩, ⟨by (with_reducible repeat (first | apply Kd.R_alloc | apply Kd.R_drewN | apply Kd.R_drew)); exact HO_3.out⟩, ⟨by repeat (first | (with_reducible first | exact HB.out | apply below_alloc | apply pw_below_drewN | apply below_drew1) | exact HB.out)⟩⟩
      · rw [if_neg c2] at H
        have c2b0 : decide ((x3_1.length : Int) < a0) = false := decide_eq_false c2
        clear c2
        obtain rfl := Option.some.inj H
        obtain ⟨Ao9, co9, eo9⟩ := Kd.R_slice HO_3.out
        subst eo9
        go_wp2
        go_ret
        exact ⟨_, by first | rfl | (simp [errW_none, errW_some] <;> rfl) | (simp [*, errW_none, errW_some] <;> rfl), by (with_reducible repeat (first | apply Kd.R_alloc | apply Kd.R_drewN | apply Kd.R_drew)); exact HO_3.out, by repeat (first | (with_reducible first | exact HB.out | apply below_alloc | apply pw_below_drewN | apply below_drew1) | exact HB.out)⟩

/-! ### catacombref05_high: function 37 -/
def catacombref05_high.f (a0 : Int) (a1 : Int) : Option (Int) := some (IntKind.u64.wrap ((IntKind.u64.wrap ((IntKind.u64.wrap ((a0 / 4294967296) * (a1 / 4294967296))) + ((IntKind.u64.wrap ((IntKind.u64.wrap ((a0 / 4294967296) * (Int.tmod a1 4294967296))) + ((IntKind.u64.wrap ((Int.tmod a0 4294967296) * (Int.tmod a1 4294967296))) / 4294967296))) / 4294967296))) + ((IntKind.u64.wrap ((Int.tmod (IntKind.u64.wrap ((IntKind.u64.wrap ((a0 / 4294967296) * (Int.tmod a1 4294967296))) + ((IntKind.u64.wrap ((Int.tmod a0 4294967296) * (Int.tmod a1 4294967296))) / 4294967296))) 4294967296) + (IntKind.u64.wrap ((Int.tmod a0 4294967296) * (a1 / 4294967296))))) / 4294967296)))
set_option maxHeartbeats 8000000 in
set_option maxRecDepth 100000 in
theorem catacombref05_high.calls (a0 : Int) (a1 : Int) (r : Int) (w : World) (h : catacombref05_high.f a0 a1 = some r) :
    Calls Try.prog 37 #[.int .u64 a0, .int .u64 a1] w fun e w' => e = .returned (.int .u64 r) ∧ Drawn0 w w' := by
  have H : (some (IntKind.u64.wrap ((IntKind.u64.wrap ((IntKind.u64.wrap ((a0 / 4294967296) * (a1 / 4294967296))) + ((IntKind.u64.wrap ((IntKind.u64.wrap ((a0 / 4294967296) * (Int.tmod a1 4294967296))) + ((IntKind.u64.wrap ((Int.tmod a0 4294967296) * (Int.tmod a1 4294967296))) / 4294967296))) / 4294967296))) + ((IntKind.u64.wrap ((Int.tmod (IntKind.u64.wrap ((IntKind.u64.wrap ((a0 / 4294967296) * (Int.tmod a1 4294967296))) + ((IntKind.u64.wrap ((Int.tmod a0 4294967296) * (Int.tmod a1 4294967296))) / 4294967296))) 4294967296) + (IntKind.u64.wrap ((Int.tmod a0 4294967296) * (a1 / 4294967296))))) / 4294967296)))) = some r := h
  clear h
  obtain rfl := Option.some.inj H
  go_enter Try.func37, Try.ntmps37
  go_wp2
  go_ret
  exact ⟨by first | rfl | (simp; done) | (simp [*]; done), by repeat (first | exact Drawn0.refl _ | apply Drawn0.step)⟩

/-! ### catacombref05_Cube: function 24 -/
mutual
def catacombref05_Cube.l0 : Nat → Int → Int → Option (Int)
  | 0, _, _ => none
  | k + 1, x0, x3 => if (IntKind.u64.wrap ((IntKind.u64.wrap ((IntKind.u64.wrap (x3 + 1)) * (IntKind.u64.wrap (x3 + 1)))) * (IntKind.u64.wrap (x3 + 1)))) ≤ x0 then (catacombref05_Cube.l0 k x0 (IntKind.u64.wrap (x3 + 1))) else (catacombref05_Cube.l1 k x0 x3 0 31)
def catacombref05_Cube.l1 : Nat → Int → Int → Int → Int → Option (Int)
  | 0, _, _, _, _ => none
  | k + 1, x0, x3, x4, x5 => if x5 ≥ 0 then (if 0 ≤ (IntKind.u64.wrap (x5)) then ((catacombref05_high.f (IntKind.u64.wrap ((IntKind.u64.wrap ((IntKind.u64.wrap (x3 * 4294967296)) + x4)) + (shl .u64 1 (IntKind.u64.wrap (x5))))) (IntKind.u64.wrap ((IntKind.u64.wrap ((IntKind.u64.wrap (x3 * 4294967296)) + x4)) + (shl .u64 1 (IntKind.u64.wrap (x5)))))).bind fun t109 => ((catacombref05_high.f (IntKind.u64.wrap ((IntKind.u64.wrap ((IntKind.u64.wrap ((IntKind.u64.wrap (x3 * 4294967296)) + x4)) + (shl .u64 1 (IntKind.u64.wrap (x5))))) * (IntKind.u64.wrap ((IntKind.u64.wrap ((IntKind.u64.wrap (x3 * 4294967296)) + x4)) + (shl .u64 1 (IntKind.u64.wrap (x5))))))) (IntKind.u64.wrap ((IntKind.u64.wrap ((IntKind.u64.wrap (x3 * 4294967296)) + x4)) + (shl .u64 1 (IntKind.u64.wrap (x5)))))).bind fun t110 => (if ((IntKind.u64.wrap ((IntKind.u64.wrap (t109 * (IntKind.u64.wrap ((IntKind.u64.wrap ((IntKind.u64.wrap (x3 * 4294967296)) + x4)) + (shl .u64 1 (IntKind.u64.wrap (x5))))))) + t110)) / 4294967296) < x0 then (catacombref05_Cube.l1 k x0 x3 (IntKind.u64.wrap (x4 + (shl .u64 1 (IntKind.u64.wrap (x5))))) (wrap64 (x5 - 1))) else (if ((IntKind.u64.wrap ((IntKind.u64.wrap (t109 * (IntKind.u64.wrap ((IntKind.u64.wrap ((IntKind.u64.wrap (x3 * 4294967296)) + x4)) + (shl .u64 1 (IntKind.u64.wrap (x5))))))) + t110)) / 4294967296) = x0 then (if (Int.tmod (IntKind.u64.wrap ((IntKind.u64.wrap (t109 * (IntKind.u64.wrap ((IntKind.u64.wrap ((IntKind.u64.wrap (x3 * 4294967296)) + x4)) + (shl .u64 1 (IntKind.u64.wrap (x5))))))) + t110)) 4294967296) = 0 then (if (IntKind.u64.wrap ((IntKind.u64.wrap ((IntKind.u64.wrap ((IntKind.u64.wrap ((IntKind.u64.wrap (x3 * 4294967296)) + x4)) + (shl .u64 1 (IntKind.u64.wrap (x5))))) * (IntKind.u64.wrap ((IntKind.u64.wrap ((IntKind.u64.wrap (x3 * 4294967296)) + x4)) + (shl .u64 1 (IntKind.u64.wrap (x5))))))) * (IntKind.u64.wrap ((IntKind.u64.wrap ((IntKind.u64.wrap (x3 * 4294967296)) + x4)) + (shl .u64 1 (IntKind.u64.wrap (x5))))))) = 0 then (catacombref05_Cube.l1 k x0 x3 (IntKind.u64.wrap (x4 + (shl .u64 1 (IntKind.u64.wrap (x5))))) (wrap64 (x5 - 1))) else (catacombref05_Cube.l1 k x0 x3 x4 (wrap64 (x5 - 1)))) else (catacombref05_Cube.l1 k x0 x3 x4 (wrap64 (x5 - 1)))) else (catacombref05_Cube.l1 k x0 x3 x4 (wrap64 (x5 - 1))))))) else (none)) else (some ((x4) % 4294967296))
end
def catacombref05_Cube.f (k : Nat) (a0 : Int) : Option (Int) := catacombref05_Cube.l0 k a0 0
theorem catacombref05_Cube.mono_l : ∀ k, (∀ y0 y1, LeO (catacombref05_Cube.l0 k y0 y1) (catacombref05_Cube.l0 (k + 1) y0 y1)) ∧ (∀ y0 y1 y2 y3, LeO (catacombref05_Cube.l1 k y0 y1 y2 y3) (catacombref05_Cube.l1 (k + 1) y0 y1 y2 y3))
  | 0 => ⟨fun _ _ r h => by simp [catacombref05_Cube.l0] at h, fun _ _ _ _ r h => by simp [catacombref05_Cube.l1] at h⟩
  | k + 1 => by
    obtain ⟨ih0, ih1⟩ := catacombref05_Cube.mono_l k
    refine ⟨?_, ?_⟩
    · intro y0 y1
      unfold catacombref05_Cube.l0
      repeat' first
      | (with_reducible exact ih0 _ _)
      | (with_reducible exact ih1 _ _ _ _)
      | (with_reducible exact LeO.refl _)
      | (with_reducible exact LeO.none _)
      | (with_reducible refine LeO.ite ?_ ?_)
      | (with_reducible refine LeO.bind ?_ (fun _ => ?_))
      | exact ih0 _ _
      | exact ih1 _ _ _ _
      | exact LeO.none _
      | refine LeO.ite ?_ ?_
      | refine LeO.bind ?_ (fun _ => ?_)
    · intro y0 y1 y2 y3
      unfold catacombref05_Cube.l1
      repeat' first
      | (with_reducible exact ih0 _ _)
      | (with_reducible exact ih1 _ _ _ _)
      | (with_reducible exact LeO.refl _)
      | (with_reducible exact LeO.none _)
      | (with_reducible refine LeO.ite ?_ ?_)
      | (with_reducible refine LeO.bind ?_ (fun _ => ?_))
      | exact ih0 _ _
      | exact ih1 _ _ _ _
      | exact LeO.none _
      | refine LeO.ite ?_ ?_
      | refine LeO.bind ?_ (fun _ => ?_)
theorem catacombref05_Cube.mono : ∀ a0 k, LeO (catacombref05_Cube.f k a0) (catacombref05_Cube.f (k + 1) a0) := by
  intro a0 k
  obtain ⟨ih0, ih1⟩ := catacombref05_Cube.mono_l k
  unfold catacombref05_Cube.f
  repeat' first
      | (with_reducible exact ih0 _ _)
      | (with_reducible exact ih1 _ _ _ _)
      | (with_reducible exact LeO.refl _)
      | (with_reducible exact LeO.none _)
      | (with_reducible refine LeO.ite ?_ ?_)
      | (with_reducible refine LeO.bind ?_ (fun _ => ?_))
      | exact ih0 _ _
      | exact ih1 _ _ _ _
      | exact LeO.none _
      | refine LeO.ite ?_ ?_
      | refine LeO.bind ?_ (fun _ => ?_)
set_option maxHeartbeats 8000000 in
set_option maxRecDepth 100000 in
theorem catacombref05_Cube.calls (k : Nat) (a0 : Int) (r : Int) (w : World) (h : catacombref05_Cube.f k a0 = some r) :
    Calls Try.prog 24 #[.int .u64 a0] w fun e w' => e = .returned (.int .u32 r) ∧ Drawn0 w w' := by
  have H : (catacombref05_Cube.l0 k a0 0) = some r := h
  clear h
  have H' := Aside0.mk H
  clear H
  go_enter Try.func24, Try.ntmps24
  go_wp2
  go_loopg [3] k (fun kq v3 w' => ∃ (x3_1 : Int), v3 = .int .u64 x3_1 ∧ Aside0 (catacombref05_Cube.l0 kq a0 x3_1 = some r) ∧ Aside0 (kq ≤ k) ∧ Drawn0 w w')
  case atStart => exact ⟨(0), (by first | rfl | (simp; done) | (simp [*]; done)), H', ⟨Nat.le_refl _⟩, by repeat (first | exact Drawn0.refl _ | apply Drawn0.step)⟩
  case round =>
    clear H'
    obtain ⟨x3_1, rfl, HA, HK1, ⟨m1, rfl⟩⟩ := hrel
    cases gk with
    | zero => exact absurd HA.out (by simp [catacombref05_Cube.l0])
    | succ k1 =>
      have H := HA.out
      clear HA
      simp only [catacombref05_Cube.l0] at H
      by_cases c2 : (IntKind.u64.wrap ((IntKind.u64.wrap ((IntKind.u64.wrap (x3_1 + 1)) * (IntKind.u64.wrap (x3_1 + 1)))) * (IntKind.u64.wrap (x3_1 + 1)))) ≤ a0
      · rw [if_pos c2] at H
        have c2b0 : decide ((IntKind.u64.wrap ((IntKind.u64.wrap ((IntKind.u64.wrap (x3_1 + 1)) * (IntKind.u64.wrap (x3_1 + 1)))) * (IntKind.u64.wrap (x3_1 + 1)))) ≤ a0) = true := decide_eq_true c2
        clear c2
        have H' := Aside0.mk H
        clear H
        go_wp2
        go_roundg k1
        case measure => have := HK1.out; omega
        case rel => exact ⟨(IntKind.u64.wrap (x3_1 + 1)), (by first | rfl | (simp; done) | (simp [*]; done)), H', ⟨by have := HK1.out; omega⟩, by repeat (first | exact Drawn0.refl _ | apply Drawn0.step)⟩
      · rw [if_neg c2] at H
        have c2b0 : decide ((IntKind.u64.wrap ((IntKind.u64.wrap ((IntKind.u64.wrap (x3_1 + 1)) * (IntKind.u64.wrap (x3_1 + 1)))) * (IntKind.u64.wrap (x3_1 + 1)))) ≤ a0) = false := decide_eq_false c2
        clear c2
        have H' := Aside0.mk H
        clear H
        go_wp2
        go_loopg [4, 5] k1 (fun kq v4 v5 w' => ∃ (x4_2 : Int) (x5_2 : Int), v4 = .int .u64 x4_2 ∧ v5 = .int .i64 x5_2 ∧ Aside0 (catacombref05_Cube.l1 kq a0 x3_1 x4_2 x5_2 = some r) ∧ Aside0 (kq ≤ k1) ∧ Drawn0 w w')
        case atStart => exact ⟨(0), (31), (by first | rfl | (simp; done) | (simp [*]; done)), (by first | rfl | (simp; done) | (simp [*]; done)), H', ⟨Nat.le_refl _⟩, by repeat (first | exact Drawn0.refl _ | apply Drawn0.step)⟩
        case round =>
          clear H'
          try clear c2
          try clear c2b0
          try clear p2
          obtain ⟨x4_2, x5_2, rfl, rfl, HA, HK2, ⟨m2, rfl⟩⟩ := hrel
          cases gk with
          | zero => exact absurd HA.out (by simp [catacombref05_Cube.l1])
          | succ k2 =>
            have H := HA.out
            clear HA
            simp only [catacombref05_Cube.l1] at H
            by_cases c3 : x5_2 ≥ 0
            · rw [if_pos c3] at H
              have c3b0 : decide (0 ≤ x5_2) = true := decide_eq_true c3
              clear c3
              obtain ⟨ji4, hji4⟩ : ∃ j_ : Int, (IntKind.u64.wrap (x5_2)) = j_ := ⟨_, rfl⟩
              replace H : (if 0 ≤ (ji4) then ((catacombref05_high.f (IntKind.u64.wrap ((IntKind.u64.wrap ((IntKind.u64.wrap (x3_1 * 4294967296)) + x4_2)) + (shl .u64 1 (ji4)))) (IntKind.u64.wrap ((IntKind.u64.wrap ((IntKind.u64.wrap (x3_1 * 4294967296)) + x4_2)) + (shl .u64 1 (ji4))))).bind fun t109 => ((catacombref05_high.f (IntKind.u64.wrap ((IntKind.u64.wrap ((IntKind.u64.wrap ((IntKind.u64.wrap (x3_1 * 4294967296)) + x4_2)) + (shl .u64 1 (ji4)))) * (IntKind.u64.wrap ((IntKind.u64.wrap ((IntKind.u64.wrap (x3_1 * 4294967296)) + x4_2)) + (shl .u64 1 (ji4)))))) (IntKind.u64.wrap ((IntKind.u64.wrap ((IntKind.u64.wrap (x3_1 * 4294967296)) + x4_2)) + (shl .u64 1 (ji4))))).bind fun t110 => (if ((IntKind.u64.wrap ((IntKind.u64.wrap (t109 * (IntKind.u64.wrap ((IntKind.u64.wrap ((IntKind.u64.wrap (x3_1 * 4294967296)) + x4_2)) + (shl .u64 1 (ji4)))))) + t110)) / 4294967296) < a0 then (catacombref05_Cube.l1 k2 a0 x3_1 (IntKind.u64.wrap (x4_2 + (shl .u64 1 (ji4)))) (wrap64 (x5_2 - 1))) else (if ((IntKind.u64.wrap ((IntKind.u64.wrap (t109 * (IntKind.u64.wrap ((IntKind.u64.wrap ((IntKind.u64.wrap (x3_1 * 4294967296)) + x4_2)) + (shl .u64 1 (ji4)))))) + t110)) / 4294967296) = a0 then (if (Int.tmod (IntKind.u64.wrap ((IntKind.u64.wrap (t109 * (IntKind.u64.wrap ((IntKind.u64.wrap ((IntKind.u64.wrap (x3_1 * 4294967296)) + x4_2)) + (shl .u64 1 (ji4)))))) + t110)) 4294967296) = 0 then (if (IntKind.u64.wrap ((IntKind.u64.wrap ((IntKind.u64.wrap ((IntKind.u64.wrap ((IntKind.u64.wrap (x3_1 * 4294967296)) + x4_2)) + (shl .u64 1 (ji4)))) * (IntKind.u64.wrap ((IntKind.u64.wrap ((IntKind.u64.wrap (x3_1 * 4294967296)) + x4_2)) + (shl .u64 1 (ji4)))))) * (IntKind.u64.wrap ((IntKind.u64.wrap ((IntKind.u64.wrap (x3_1 * 4294967296)) + x4_2)) + (shl .u64 1 (ji4)))))) = 0 then (catacombref05_Cube.l1 k2 a0 x3_1 (IntKind.u64.wrap (x4_2 + (shl .u64 1 (ji4)))) (wrap64 (x5_2 - 1))) else (catacombref05_Cube.l1 k2 a0 x3_1 x4_2 (wrap64 (x5_2 - 1)))) else (catacombref05_Cube.l1 k2 a0 x3_1 x4_2 (wrap64 (x5_2 - 1)))) else (catacombref05_Cube.l1 k2 a0 x3_1 x4_2 (wrap64 (x5_2 - 1))))))) else (none)) = some r := by first | (rw [hji4] at H; exact H) | (simp only [hji4] at H ⊢; exact H)
              by_cases c5 : 0 ≤ (ji4)
              · rw [if_pos c5] at H
                have c5b0 := eq_true c5
                have c5b1 : decide (0 ≤ (ji4)) = true := decide_eq_true c5
                clear c5
                obtain ⟨ji6, hji6⟩ : ∃ j_ : Int, (shl .u64 1 (ji4)) = j_ := ⟨_, rfl⟩
                replace H : ((catacombref05_high.f (IntKind.u64.wrap ((IntKind.u64.wrap ((IntKind.u64.wrap (x3_1 * 4294967296)) + x4_2)) + (ji6))) (IntKind.u64.wrap ((IntKind.u64.wrap ((IntKind.u64.wrap (x3_1 * 4294967296)) + x4_2)) + (ji6)))).bind fun t109 => ((catacombref05_high.f (IntKind.u64.wrap ((IntKind.u64.wrap ((IntKind.u64.wrap ((IntKind.u64.wrap (x3_1 * 4294967296)) + x4_2)) + (ji6))) * (IntKind.u64.wrap ((IntKind.u64.wrap ((IntKind.u64.wrap (x3_1 * 4294967296)) + x4_2)) + (ji6))))) (IntKind.u64.wrap ((IntKind.u64.wrap ((IntKind.u64.wrap (x3_1 * 4294967296)) + x4_2)) + (ji6)))).bind fun t110 => (if ((IntKind.u64.wrap ((IntKind.u64.wrap (t109 * (IntKind.u64.wrap ((IntKind.u64.wrap ((IntKind.u64.wrap (x3_1 * 4294967296)) + x4_2)) + (ji6))))) + t110)) / 4294967296) < a0 then (catacombref05_Cube.l1 k2 a0 x3_1 (IntKind.u64.wrap (x4_2 + (ji6))) (wrap64 (x5_2 - 1))) else (if ((IntKind.u64.wrap ((IntKind.u64.wrap (t109 * (IntKind.u64.wrap ((IntKind.u64.wrap ((IntKind.u64.wrap (x3_1 * 4294967296)) + x4_2)) + (ji6))))) + t110)) / 4294967296) = a0 then (if (Int.tmod (IntKind.u64.wrap ((IntKind.u64.wrap (t109 * (IntKind.u64.wrap ((IntKind.u64.wrap ((IntKind.u64.wrap (x3_1 * 4294967296)) + x4_2)) + (ji6))))) + t110)) 4294967296) = 0 then (if (IntKind.u64.wrap ((IntKind.u64.wrap ((IntKind.u64.wrap ((IntKind.u64.wrap ((IntKind.u64.wrap (x3_1 * 4294967296)) + x4_2)) + (ji6))) * (IntKind.u64.wrap ((IntKind.u64.wrap ((IntKind.u64.wrap (x3_1 * 4294967296)) + x4_2)) + (ji6))))) * (IntKind.u64.wrap ((IntKind.u64.wrap ((IntKind.u64.wrap (x3_1 * 4294967296)) + x4_2)) + (ji6))))) = 0 then (catacombref05_Cube.l1 k2 a0 x3_1 (IntKind.u64.wrap (x4_2 + (ji6))) (wrap64 (x5_2 - 1))) else (catacombref05_Cube.l1 k2 a0 x3_1 x4_2 (wrap64 (x5_2 - 1)))) else (catacombref05_Cube.l1 k2 a0 x3_1 x4_2 (wrap64 (x5_2 - 1)))) else (catacombref05_Cube.l1 k2 a0 x3_1 x4_2 (wrap64 (x5_2 - 1))))))) = some r := by first | (rw [hji6] at H; exact H) | (simp only [hji6] at H ⊢; exact H)
                have hji6_ : (IntKind.u64.wrap (1 * 2 ^ min (ji4).toNat 64)) = ji6 := hji6
                have hji6z : (ji4) ≤ 64 → (IntKind.u64.wrap (1 * 2 ^ (ji4).toNat)) = ji6 := shl_small hji6
                have hji6u : (IntKind.u64.wrap (2 ^ min (ji4).toNat 64)) = ji6 := by have h_ := hji6_; rw [Int.one_mul] at h_; exact h_
                have hji6v : (ji4) ≤ 64 → (IntKind.u64.wrap (2 ^ (ji4).toNat)) = ji6 := fun hle_ => by have h_ := hji6z hle_; rw [Int.one_mul] at h_; exact h_
                replace H := Option.bind_eq_some_iff.mp H
                obtain ⟨t109, A70, H⟩ := H
                replace H : ((catacombref05_high.f (IntKind.u64.wrap ((IntKind.u64.wrap ((IntKind.u64.wrap ((IntKind.u64.wrap (x3_1 * 4294967296)) + x4_2)) + (ji6))) * (IntKind.u64.wrap ((IntKind.u64.wrap ((IntKind.u64.wrap (x3_1 * 4294967296)) + x4_2)) + (ji6))))) (IntKind.u64.wrap ((IntKind.u64.wrap ((IntKind.u64.wrap (x3_1 * 4294967296)) + x4_2)) + (ji6)))).bind fun t110 => (if ((IntKind.u64.wrap ((IntKind.u64.wrap (t109 * (IntKind.u64.wrap ((IntKind.u64.wrap ((IntKind.u64.wrap (x3_1 * 4294967296)) + x4_2)) + (ji6))))) + t110)) / 4294967296) < a0 then (catacombref05_Cube.l1 k2 a0 x3_1 (IntKind.u64.wrap (x4_2 + (ji6))) (wrap64 (x5_2 - 1))) else (if ((IntKind.u64.wrap ((IntKind.u64.wrap (t109 * (IntKind.u64.wrap ((IntKind.u64.wrap ((IntKind.u64.wrap (x3_1 * 4294967296)) + x4_2)) + (ji6))))) + t110)) / 4294967296) = a0 then (if (Int.tmod (IntKind.u64.wrap ((IntKind.u64.wrap (t109 * (IntKind.u64.wrap ((IntKind.u64.wrap ((IntKind.u64.wrap (x3_1 * 4294967296)) + x4_2)) + (ji6))))) + t110)) 4294967296) = 0 then (if (IntKind.u64.wrap ((IntKind.u64.wrap ((IntKind.u64.wrap ((IntKind.u64.wrap ((IntKind.u64.wrap (x3_1 * 4294967296)) + x4_2)) + (ji6))) * (IntKind.u64.wrap ((IntKind.u64.wrap ((IntKind.u64.wrap (x3_1 * 4294967296)) + x4_2)) + (ji6))))) * (IntKind.u64.wrap ((IntKind.u64.wrap ((IntKind.u64.wrap (x3_1 * 4294967296)) + x4_2)) + (ji6))))) = 0 then (catacombref05_Cube.l1 k2 a0 x3_1 (IntKind.u64.wrap (x4_2 + (ji6))) (wrap64 (x5_2 - 1))) else (catacombref05_Cube.l1 k2 a0 x3_1 x4_2 (wrap64 (x5_2 - 1)))) else (catacombref05_Cube.l1 k2 a0 x3_1 x4_2 (wrap64 (x5_2 - 1)))) else (catacombref05_Cube.l1 k2 a0 x3_1 x4_2 (wrap64 (x5_2 - 1)))))) = some r := H
                have A7 := Aside0.mk A70
                clear A70
                replace H := Option.bind_eq_some_iff.mp H
                obtain ⟨t110, A80, H⟩ := H
                replace H : (if ((IntKind.u64.wrap ((IntKind.u64.wrap (t109 * (IntKind.u64.wrap ((IntKind.u64.wrap ((IntKind.u64.wrap (x3_1 * 4294967296)) + x4_2)) + (ji6))))) + t110)) / 4294967296) < a0 then (catacombref05_Cube.l1 k2 a0 x3_1 (IntKind.u64.wrap (x4_2 + (ji6))) (wrap64 (x5_2 - 1))) else (if ((IntKind.u64.wrap ((IntKind.u64.wrap (t109 * (IntKind.u64.wrap ((IntKind.u64.wrap ((IntKind.u64.wrap (x3_1 * 4294967296)) + x4_2)) + (ji6))))) + t110)) / 4294967296) = a0 then (if (Int.tmod (IntKind.u64.wrap ((IntKind.u64.wrap (t109 * (IntKind.u64.wrap ((IntKind.u64.wrap ((IntKind.u64.wrap (x3_1 * 4294967296)) + x4_2)) + (ji6))))) + t110)) 4294967296) = 0 then (if (IntKind.u64.wrap ((IntKind.u64.wrap ((IntKind.u64.wrap ((IntKind.u64.wrap ((IntKind.u64.wrap (x3_1 * 4294967296)) + x4_2)) + (ji6))) * (IntKind.u64.wrap ((IntKind.u64.wrap ((IntKind.u64.wrap (x3_1 * 4294967296)) + x4_2)) + (ji6))))) * (IntKind.u64.wrap ((IntKind.u64.wrap ((IntKind.u64.wrap (x3_1 * 4294967296)) + x4_2)) + (ji6))))) = 0 then (catacombref05_Cube.l1 k2 a0 x3_1 (IntKind.u64.wrap (x4_2 + (ji6))) (wrap64 (x5_2 - 1))) else (catacombref05_Cube.l1 k2 a0 x3_1 x4_2 (wrap64 (x5_2 - 1)))) else (catacombref05_Cube.l1 k2 a0 x3_1 x4_2 (wrap64 (x5_2 - 1)))) else (catacombref05_Cube.l1 k2 a0 x3_1 x4_2 (wrap64 (x5_2 - 1))))) = some r := H
                have A8 := Aside0.mk A80
                clear A80
                by_cases c9 : ((IntKind.u64.wrap ((IntKind.u64.wrap (t109 * (IntKind.u64.wrap ((IntKind.u64.wrap ((IntKind.u64.wrap (x3_1 * 4294967296)) + x4_2)) + (ji6))))) + t110)) / 4294967296) < a0
                · rw [if_pos c9] at H
                  have c9b0 : decide (((IntKind.u64.wrap ((IntKind.u64.wrap (t109 * (IntKind.u64.wrap ((IntKind.u64.wrap ((IntKind.u64.wrap (x3_1 * 4294967296)) + x4_2)) + (ji6))))) + t110)) / 4294967296) < a0) = true := decide_eq_true c9
                  clear c9
                  have c10b0 := eq_true (of_decide_eq_true (by first | (with_reducible assumption) | assumption) : 0 ≤ (ji4))
                  have H' := Aside0.mk H
                  clear H
                  go_wp2_with (first | ((with_reducible refine gate_callee (f := 37) rfl ?_); refine goesL_ (some 37) rfl rfl Try.func37 (by kernel_rfl) rfl #[.int .u64 (IntKind.u64.wrap ((IntKind.u64.wrap ((IntKind.u64.wrap (x3_1 * 4294967296)) + x4_2)) + (ji6))), .int .u64 (IntKind.u64.wrap ((IntKind.u64.wrap ((IntKind.u64.wrap (x3_1 * 4294967296)) + x4_2)) + (ji6)))] rfl (by (try simp only [List.map_toArray, List.map_cons, List.map_nil]); first | done | (simp only [hji6]; rfl) | rfl | (simp only [List.length_drop, List.length_take]; rfl)) ?_; (with_reducible refine (catacombref05_high.calls (IntKind.u64.wrap ((IntKind.u64.wrap ((IntKind.u64.wrap (x3_1 * 4294967296)) + x4_2)) + (ji6))) (IntKind.u64.wrap ((IntKind.u64.wrap ((IntKind.u64.wrap (x3_1 * 4294967296)) + x4_2)) + (ji6))) t109 _ A7.out).mono ?_); rintro e w' ⟨rfl, ⟨nd, rfl⟩⟩; refine ⟨_, rfl, ?_⟩) | ((with_reducible refine gate_callee (f := 37) rfl ?_); refine goesL_ (some 43) rfl rfl Try.func37 (by kernel_rfl) rfl #[.int .u64 (IntKind.u64.wrap ((IntKind.u64.wrap ((IntKind.u64.wrap ((IntKind.u64.wrap (x3_1 * 4294967296)) + x4_2)) + (ji6))) * (IntKind.u64.wrap ((IntKind.u64.wrap ((IntKind.u64.wrap (x3_1 * 4294967296)) + x4_2)) + (ji6))))), .int .u64 (IntKind.u64.wrap ((IntKind.u64.wrap ((IntKind.u64.wrap (x3_1 * 4294967296)) + x4_2)) + (ji6)))] rfl (by (try simp only [List.map_toArray, List.map_cons, List.map_nil]); first | done | (simp only [hji6]; rfl) | rfl | (simp only [List.length_drop, List.length_take]; rfl)) ?_; (with_reducible refine (catacombref05_high.calls (IntKind.u64.wrap ((IntKind.u64.wrap ((IntKind.u64.wrap ((IntKind.u64.wrap (x3_1 * 4294967296)) + x4_2)) + (ji6))) * (IntKind.u64.wrap ((IntKind.u64.wrap ((IntKind.u64.wrap (x3_1 * 4294967296)) + x4_2)) + (ji6))))) (IntKind.u64.wrap ((IntKind.u64.wrap ((IntKind.u64.wrap (x3_1 * 4294967296)) + x4_2)) + (ji6))) t110 _ A8.out).mono ?_); rintro e w' ⟨rfl, ⟨nd, rfl⟩⟩; refine ⟨_, rfl, ?_⟩))
                  go_roundg k2
                  case measure => have := HK1.out; have := HK2.out; omega
                  case rel => exact ⟨(IntKind.u64.wrap (x4_2 + (ji6))), (wrap64 (x5_2 - 1)), (by first | rfl | (simp; done) | (simp only [← hji6] <;> (first | rfl | simp)) | (simp [*]; done)), (by first | rfl | (simp; done) | (simp [*]; done)), H', ⟨by have := HK1.out; have := HK2.out; omega⟩, by repeat (first | exact Drawn0.refl _ | apply Drawn0.step)⟩
                · rw [if_neg c9] at H
                  have c9b0 : decide (((IntKind.u64.wrap ((IntKind.u64.wrap (t109 * (IntKind.u64.wrap ((IntKind.u64.wrap ((IntKind.u64.wrap (x3_1 * 4294967296)) + x4_2)) + (ji6))))) + t110)) / 4294967296) < a0) = false := decide_eq_false c9
                  clear c9
                  by_cases c12 : ((IntKind.u64.wrap ((IntKind.u64.wrap (t109 * (IntKind.u64.wrap ((IntKind.u64.wrap ((IntKind.u64.wrap (x3_1 * 4294967296)) + x4_2)) + (ji6))))) + t110)) / 4294967296) = a0
                  · rw [if_pos c12] at H
                    have c12b0 : (((IntKind.u64.wrap ((IntKind.u64.wrap (t109 * (IntKind.u64.wrap ((IntKind.u64.wrap ((IntKind.u64.wrap (x3_1 * 4294967296)) + x4_2)) + (ji6))))) + t110)) / 4294967296) == a0) = true := beq_iff_eq.mpr c12
                    have c12b1 : (((IntKind.u64.wrap ((IntKind.u64.wrap (t109 * (IntKind.u64.wrap ((IntKind.u64.wrap ((IntKind.u64.wrap (x3_1 * 4294967296)) + x4_2)) + (ji6))))) + t110)) / 4294967296) != a0) = false := bne_eq_false_iff_eq.mpr c12
                    clear c12
                    by_cases c13 : (Int.tmod (IntKind.u64.wrap ((IntKind.u64.wrap (t109 * (IntKind.u64.wrap ((IntKind.u64.wrap ((IntKind.u64.wrap (x3_1 * 4294967296)) + x4_2)) + (ji6))))) + t110)) 4294967296) = 0
                    · rw [if_pos c13] at H
                      have c13b0 : ((Int.tmod (IntKind.u64.wrap ((IntKind.u64.wrap (t109 * (IntKind.u64.wrap ((IntKind.u64.wrap ((IntKind.u64.wrap (x3_1 * 4294967296)) + x4_2)) + (ji6))))) + t110)) 4294967296) == 0) = true := beq_iff_eq.mpr c13
                      have c13b1 : ((Int.tmod (IntKind.u64.wrap ((IntKind.u64.wrap (t109 * (IntKind.u64.wrap ((IntKind.u64.wrap ((IntKind.u64.wrap (x3_1 * 4294967296)) + x4_2)) + (ji6))))) + t110)) 4294967296) != 0) = false := bne_eq_false_iff_eq.mpr c13
                      clear c13
                      by_cases c14 : (IntKind.u64.wrap ((IntKind.u64.wrap ((IntKind.u64.wrap ((IntKind.u64.wrap ((IntKind.u64.wrap (x3_1 * 4294967296)) + x4_2)) + (ji6))) * (IntKind.u64.wrap ((IntKind.u64.wrap ((IntKind.u64.wrap (x3_1 * 4294967296)) + x4_2)) + (ji6))))) * (IntKind.u64.wrap ((IntKind.u64.wrap ((IntKind.u64.wrap (x3_1 * 4294967296)) + x4_2)) + (ji6))))) = 0
                      · rw [if_pos c14] at H
                        have c14b0 : ((IntKind.u64.wrap ((IntKind.u64.wrap ((IntKind.u64.wrap ((IntKind.u64.wrap ((IntKind.u64.wrap (x3_1 * 4294967296)) + x4_2)) + (ji6))) * (IntKind.u64.wrap ((IntKind.u64.wrap ((IntKind.u64.wrap (x3_1 * 4294967296)) + x4_2)) + (ji6))))) * (IntKind.u64.wrap ((IntKind.u64.wrap ((IntKind.u64.wrap (x3_1 * 4294967296)) + x4_2)) + (ji6))))) == 0) = true := beq_iff_eq.mpr c14
                        have c14b1 : ((IntKind.u64.wrap ((IntKind.u64.wrap ((IntKind.u64.wrap ((IntKind.u64.wrap ((IntKind.u64.wrap (x3_1 * 4294967296)) + x4_2)) + (ji6))) * (IntKind.u64.wrap ((IntKind.u64.wrap ((IntKind.u64.wrap (x3_1 * 4294967296)) + x4_2)) + (ji6))))) * (IntKind.u64.wrap ((IntKind.u64.wrap ((IntKind.u64.wrap (x3_1 * 4294967296)) + x4_2)) + (ji6))))) != 0) = false := bne_eq_false_iff_eq.mpr c14
                        clear c14
                        have c15b0 := eq_true (of_decide_eq_true (by first | (with_reducible assumption) | assumption) : 0 ≤ (ji4))
                        have H' := Aside0.mk H
                        clear H
                        go_wp2_with (first | ((with_reducible refine gate_callee (f := 37) rfl ?_); refine goesL_ (some 37) rfl rfl Try.func37 (by kernel_rfl) rfl #[.int .u64 (IntKind.u64.wrap ((IntKind.u64.wrap ((IntKind.u64.wrap (x3_1 * 4294967296)) + x4_2)) + (ji6))), .int .u64 (IntKind.u64.wrap ((IntKind.u64.wrap ((IntKind.u64.wrap (x3_1 * 4294967296)) + x4_2)) + (ji6)))] rfl (by (try simp only [List.map_toArray, List.map_cons, List.map_nil]); first | done | (simp only [hji6]; rfl) | rfl | (simp only [List.length_drop, List.length_take]; rfl)) ?_; (with_reducible refine (catacombref05_high.calls (IntKind.u64.wrap ((IntKind.u64.wrap ((IntKind.u64.wrap (x3_1 * 4294967296)) + x4_2)) + (ji6))) (IntKind.u64.wrap ((IntKind.u64.wrap ((IntKind.u64.wrap (x3_1 * 4294967296)) + x4_2)) + (ji6))) t109 _ A7.out).mono ?_); rintro e w' ⟨rfl, ⟨nd, rfl⟩⟩; refine ⟨_, rfl, ?_⟩) | ((with_reducible refine gate_callee (f := 37) rfl ?_); refine goesL_ (some 43) rfl rfl Try.func37 (by kernel_rfl) rfl #[.int .u64 (IntKind.u64.wrap ((IntKind.u64.wrap ((IntKind.u64.wrap ((IntKind.u64.wrap (x3_1 * 4294967296)) + x4_2)) + (ji6))) * (IntKind.u64.wrap ((IntKind.u64.wrap ((IntKind.u64.wrap (x3_1 * 4294967296)) + x4_2)) + (ji6))))), .int .u64 (IntKind.u64.wrap ((IntKind.u64.wrap ((IntKind.u64.wrap (x3_1 * 4294967296)) + x4_2)) + (ji6)))] rfl (by (try simp only [List.map_toArray, List.map_cons, List.map_nil]); first | done | (simp only [hji6]; rfl) | rfl | (simp only [List.length_drop, List.length_take]; rfl)) ?_; (with_reducible refine (catacombref05_high.calls (IntKind.u64.wrap ((IntKind.u64.wrap ((IntKind.u64.wrap ((IntKind.u64.wrap (x3_1 * 4294967296)) + x4_2)) + (ji6))) * (IntKind.u64.wrap ((IntKind.u64.wrap ((IntKind.u64.wrap (x3_1 * 4294967296)) + x4_2)) + (ji6))))) (IntKind.u64.wrap ((IntKind.u64.wrap ((IntKind.u64.wrap (x3_1 * 4294967296)) + x4_2)) + (ji6))) t110 _ A8.out).mono ?_); rintro e w' ⟨rfl, ⟨nd, rfl⟩⟩; refine ⟨_, rfl, ?_⟩))
                        go_roundg k2
                        case measure => have := HK1.out; have := HK2.out; omega
                        case rel => exact ⟨(IntKind.u64.wrap (x4_2 + (ji6))), (wrap64 (x5_2 - 1)), (by first | rfl | (simp; done) | (simp only [← hji6] <;> (first | rfl | simp)) | (simp [*]; done)), (by first | rfl | (simp; done) | (simp [*]; done)), H', ⟨by have := HK1.out; have := HK2.out; omega⟩, by repeat (first | exact Drawn0.refl _ | apply Drawn0.step)⟩
                      · rw [if_neg c14] at H
                        have c14b0 : ((IntKind.u64.wrap ((IntKind.u64.wrap ((IntKind.u64.wrap ((IntKind.u64.wrap ((IntKind.u64.wrap (x3_1 * 4294967296)) + x4_2)) + (ji6))) * (IntKind.u64.wrap ((IntKind.u64.wrap ((IntKind.u64.wrap (x3_1 * 4294967296)) + x4_2)) + (ji6))))) * (IntKind.u64.wrap ((IntKind.u64.wrap ((IntKind.u64.wrap (x3_1 * 4294967296)) + x4_2)) + (ji6))))) == 0) = false := beq_eq_false_iff_ne.mpr c14
                        have c14b1 : ((IntKind.u64.wrap ((IntKind.u64.wrap ((IntKind.u64.wrap ((IntKind.u64.wrap ((IntKind.u64.wrap (x3_1 * 4294967296)) + x4_2)) + (ji6))) * (IntKind.u64.wrap ((IntKind.u64.wrap ((IntKind.u64.wrap (x3_1 * 4294967296)) + x4_2)) + (ji6))))) * (IntKind.u64.wrap ((IntKind.u64.wrap ((IntKind.u64.wrap (x3_1 * 4294967296)) + x4_2)) + (ji6))))) != 0) = true := bne_iff_ne.mpr c14
                        have H' := Aside0.mk H
                        clear H
                        go_wp2_with (first | ((with_reducible refine gate_callee (f := 37) rfl ?_); refine goesL_ (some 37) rfl rfl Try.func37 (by kernel_rfl) rfl #[.int .u64 (IntKind.u64.wrap ((IntKind.u64.wrap ((IntKind.u64.wrap (x3_1 * 4294967296)) + x4_2)) + (ji6))), .int .u64 (IntKind.u64.wrap ((IntKind.u64.wrap ((IntKind.u64.wrap (x3_1 * 4294967296)) + x4_2)) + (ji6)))] rfl (by (try simp only [List.map_toArray, List.map_cons, List.map_nil]); first | done | (simp only [hji6]; rfl) | rfl | (simp only [List.length_drop, List.length_take]; rfl)) ?_; (with_reducible refine (catacombref05_high.calls (IntKind.u64.wrap ((IntKind.u64.wrap ((IntKind.u64.wrap (x3_1 * 4294967296)) + x4_2)) + (ji6))) (IntKind.u64.wrap ((IntKind.u64.wrap ((IntKind.u64.wrap (x3_1 * 4294967296)) + x4_2)) + (ji6))) t109 _ A7.out).mono ?_); rintro e w' ⟨rfl, ⟨nd, rfl⟩⟩; refine ⟨_, rfl, ?_⟩) | ((with_reducible refine gate_callee (f := 37) rfl ?_); refine goesL_ (some 43) rfl rfl Try.func37 (by kernel_rfl) rfl #[.int .u64 (IntKind.u64.wrap ((IntKind.u64.wrap ((IntKind.u64.wrap ((IntKind.u64.wrap (x3_1 * 4294967296)) + x4_2)) + (ji6))) * (IntKind.u64.wrap ((IntKind.u64.wrap ((IntKind.u64.wrap (x3_1 * 4294967296)) + x4_2)) + (ji6))))), .int .u64 (IntKind.u64.wrap ((IntKind.u64.wrap ((IntKind.u64.wrap (x3_1 * 4294967296)) + x4_2)) + (ji6)))] rfl (by (try simp only [List.map_toArray, List.map_cons, List.map_nil]); first | done | (simp only [hji6]; rfl) | rfl | (simp only [List.length_drop, List.length_take]; rfl)) ?_; (with_reducible refine (catacombref05_high.calls (IntKind.u64.wrap ((IntKind.u64.wrap ((IntKind.u64.wrap ((IntKind.u64.wrap (x3_1 * 4294967296)) + x4_2)) + (ji6))) * (IntKind.u64.wrap ((IntKind.u64.wrap ((IntKind.u64.wrap (x3_1 * 4294967296)) + x4_2)) + (ji6))))) (IntKind.u64.wrap ((IntKind.u64.wrap ((IntKind.u64.wrap (x3_1 * 4294967296)) + x4_2)) + (ji6))) t110 _ A8.out).mono ?_); rintro e w' ⟨rfl, ⟨nd, rfl⟩⟩; refine ⟨_, rfl, ?_⟩))
                        go_roundg k2
                        case measure => have := HK1.out; have := HK2.out; omega
                        case rel => exact ⟨(x4_2), (wrap64 (x5_2 - 1)), (by first | rfl | (simp; done) | (simp [*]; done)), (by first | rfl | (simp; done) | (simp [*]; done)), H', ⟨by have := HK1.out; have := HK2.out; omega⟩, by repeat (first | exact Drawn0.refl _ | apply Drawn0.step)⟩
                    · rw [if_neg c13] at H
                      have c13b0 : ((Int.tmod (IntKind.u64.wrap ((IntKind.u64.wrap (t109 * (IntKind.u64.wrap ((IntKind.u64.wrap ((IntKind.u64.wrap (x3_1 * 4294967296)) + x4_2)) + (ji6))))) + t110)) 4294967296) == 0) = false := beq_eq_false_iff_ne.mpr c13
                      have c13b1 : ((Int.tmod (IntKind.u64.wrap ((IntKind.u64.wrap (t109 * (IntKind.u64.wrap ((IntKind.u64.wrap ((IntKind.u64.wrap (x3_1 * 4294967296)) + x4_2)) + (ji6))))) + t110)) 4294967296) != 0) = true := bne_iff_ne.mpr c13
                      have H' := Aside0.mk H
                      clear H
                      go_wp2_with (first | ((with_reducible refine gate_callee (f := 37) rfl ?_); refine goesL_ (some 37) rfl rfl Try.func37 (by kernel_rfl) rfl #[.int .u64 (IntKind.u64.wrap ((IntKind.u64.wrap ((IntKind.u64.wrap (x3_1 * 4294967296)) + x4_2)) + (ji6))), .int .u64 (IntKind.u64.wrap ((IntKind.u64.wrap ((IntKind.u64.wrap (x3_1 * 4294967296)) + x4_2)) + (ji6)))] rfl (by (try simp only [List.map_toArray, List.map_cons, List.map_nil]); first | done | (simp only [hji6]; rfl) | rfl | (simp only [List.length_drop, List.length_take]; rfl)) ?_; (with_reducible refine (catacombref05_high.calls (IntKind.u64.wrap ((IntKind.u64.wrap ((IntKind.u64.wrap (x3_1 * 4294967296)) + x4_2)) + (ji6))) (IntKind.u64.wrap ((IntKind.u64.wrap ((IntKind.u64.wrap (x3_1 * 4294967296)) + x4_2)) + (ji6))) t109 _ A7.out).mono ?_); rintro e w' ⟨rfl, ⟨nd, rfl⟩⟩; refine ⟨_, rfl, ?_⟩) | ((with_reducible refine gate_callee (f := 37) rfl ?_); refine goesL_ (some 43) rfl rfl Try.func37 (by kernel_rfl) rfl #[.int .u64 (IntKind.u64.wrap ((IntKind.u64.wrap ((IntKind.u64.wrap ((IntKind.u64.wrap (x3_1 * 4294967296)) + x4_2)) + (ji6))) * (IntKind.u64.wrap ((IntKind.u64.wrap ((IntKind.u64.wrap (x3_1 * 4294967296)) + x4_2)) + (ji6))))), .int .u64 (IntKind.u64.wrap ((IntKind.u64.wrap ((IntKind.u64.wrap (x3_1 * 4294967296)) + x4_2)) + (ji6)))] rfl (by (try simp only [List.map_toArray, List.map_cons, List.map_nil]); first | done | (simp only [hji6]; rfl) | rfl | (simp only [List.length_drop, List.length_take]; rfl)) ?_; (with_reducible refine (catacombref05_high.calls (IntKind.u64.wrap ((IntKind.u64.wrap ((IntKind.u64.wrap ((IntKind.u64.wrap (x3_1 * 4294967296)) + x4_2)) + (ji6))) * (IntKind.u64.wrap ((IntKind.u64.wrap ((IntKind.u64.wrap (x3_1 * 4294967296)) + x4_2)) + (ji6))))) (IntKind.u64.wrap ((IntKind.u64.wrap ((IntKind.u64.wrap (x3_1 * 4294967296)) + x4_2)) + (ji6))) t110 _ A8.out).mono ?_); rintro e w' ⟨rfl, ⟨nd, rfl⟩⟩; refine ⟨_, rfl, ?_⟩))
                      go_roundg k2
                      case measure => have := HK1.out; have := HK2.out; omega
                      case rel => exact ⟨(x4_2), (wrap64 (x5_2 - 1)), (by first | rfl | (simp; done) | (simp [*]; done)), (by first | rfl | (simp; done) | (simp [*]; done)), H', ⟨by have := HK1.out; have := HK2.out; omega⟩, by repeat (first | exact Drawn0.refl _ | apply Drawn0.step)⟩
                  · rw [if_neg c12] at H
                    have c12b0 : (((IntKind.u64.wrap ((IntKind.u64.wrap (t109 * (IntKind.u64.wrap ((IntKind.u64.wrap ((IntKind.u64.wrap (x3_1 * 4294967296)) + x4_2)) + (ji6))))) + t110)) / 4294967296) == a0) = false := beq_eq_false_iff_ne.mpr c12
                    have c12b1 : (((IntKind.u64.wrap ((IntKind.u64.wrap (t109 * (IntKind.u64.wrap ((IntKind.u64.wrap ((IntKind.u64.wrap (x3_1 * 4294967296)) + x4_2)) + (ji6))))) + t110)) / 4294967296) != a0) = true := bne_iff_ne.mpr c12
                    have H' := Aside0.mk H
                    clear H
                    go_wp2_with (first | ((with_reducible refine gate_callee (f := 37) rfl ?_); refine goesL_ (some 37) rfl rfl Try.func37 (by kernel_rfl) rfl #[.int .u64 (IntKind.u64.wrap ((IntKind.u64.wrap ((IntKind.u64.wrap (x3_1 * 4294967296)) + x4_2)) + (ji6))), .int .u64 (IntKind.u64.wrap ((IntKind.u64.wrap ((IntKind.u64.wrap (x3_1 * 4294967296)) + x4_2)) + (ji6)))] rfl (by (try simp only [List.map_toArray, List.map_cons, List.map_nil]); first | done | (simp only [hji6]; rfl) | rfl | (simp only [List.length_drop, List.length_take]; rfl)) ?_; (with_reducible refine (catacombref05_high.calls (IntKind.u64.wrap ((IntKind.u64.wrap ((IntKind.u64.wrap (x3_1 * 4294967296)) + x4_2)) + (ji6))) (IntKind.u64.wrap ((IntKind.u64.wrap ((IntKind.u64.wrap (x3_1 * 4294967296)) + x4_2)) + (ji6))) t109 _ A7.out).mono ?_); rintro e w' ⟨rfl, ⟨nd, rfl⟩⟩; refine ⟨_, rfl, ?_⟩) | ((with_reducible refine gate_callee (f := 37) rfl ?_); refine goesL_ (some 43) rfl rfl Try.func37 (by kernel_rfl) rfl #[.int .u64 (IntKind.u64.wrap ((IntKind.u64.wrap ((IntKind.u64.wrap ((IntKind.u64.wrap (x3_1 * 4294967296)) + x4_2)) + (ji6))) * (IntKind.u64.wrap ((IntKind.u64.wrap ((IntKind.u64.wrap (x3_1 * 4294967296)) + x4_2)) + (ji6))))), .int .u64 (IntKind.u64.wrap ((IntKind.u64.wrap ((IntKind.u64.wrap (x3_1 * 4294967296)) + x4_2)) + (ji6)))] rfl (by (try simp only [List.map_toArray, List.map_cons, List.map_nil]); first | done | (simp only [hji6]; rfl) | rfl | (simp only [List.length_drop, List.length_take]; rfl)) ?_; (with_reducible refine (catacombref05_high.calls (IntKind.u64.wrap ((IntKind.u64.wrap ((IntKind.u64.wrap ((IntKind.u64.wrap (x3_1 * 4294967296)) + x4_2)) + (ji6))) * (IntKind.u64.wrap ((IntKind.u64.wrap ((IntKind.u64.wrap (x3_1 * 4294967296)) + x4_2)) + (ji6))))) (IntKind.u64.wrap ((IntKind.u64.wrap ((IntKind.u64.wrap (x3_1 * 4294967296)) + x4_2)) + (ji6))) t110 _ A8.out).mono ?_); rintro e w' ⟨rfl, ⟨nd, rfl⟩⟩; refine ⟨_, rfl, ?_⟩))
                    go_roundg k2
                    case measure => have := HK1.out; have := HK2.out; omega
                    case rel => exact ⟨(x4_2), (wrap64 (x5_2 - 1)), (by first | rfl | (simp; done) | (simp [*]; done)), (by first | rfl | (simp; done) | (simp [*]; done)), H', ⟨by have := HK1.out; have := HK2.out; omega⟩, by repeat (first | exact Drawn0.refl _ | apply Drawn0.step)⟩
              · rw [if_neg c5] at H
                exact absurd H (by simp)
            · rw [if_neg c3] at H
              have c3b0 : decide (0 ≤ x5_2) = false := decide_eq_false c3
              clear c3
              obtain rfl := Option.some.inj H
              go_wp2
              go_ret
              exact ⟨by first | rfl | (simp; done) | (simp [*]; done), by repeat (first | exact Drawn0.refl _ | apply Drawn0.step)⟩

/-! ### catacombref05_Square: function 25 -/
mutual
def catacombref05_Square.l0 : Nat → Int → Int → Option (Int)
  | 0, _, _ => none
  | k + 1, x0, x3 => if (IntKind.u64.wrap ((IntKind.u64.wrap (x3 + 1)) * (IntKind.u64.wrap (x3 + 1)))) ≤ x0 then (catacombref05_Square.l0 k x0 (IntKind.u64.wrap (x3 + 1))) else (catacombref05_Square.l1 k x0 x3 0 31)
def catacombref05_Square.l1 : Nat → Int → Int → Int → Int → Option (Int)
  | 0, _, _, _, _ => none
  | k + 1, x0, x3, x4, x5 => if x5 ≥ 0 then (if 0 ≤ (IntKind.u64.wrap (x5)) then ((catacombref05_high.f (IntKind.u64.wrap ((IntKind.u64.wrap ((IntKind.u64.wrap (x3 * 4294967296)) + x4)) + (shl .u64 1 (IntKind.u64.wrap (x5))))) (IntKind.u64.wrap ((IntKind.u64.wrap ((IntKind.u64.wrap (x3 * 4294967296)) + x4)) + (shl .u64 1 (IntKind.u64.wrap (x5)))))).bind fun t111 => (if t111 < x0 then (catacombref05_Square.l1 k x0 x3 (IntKind.u64.wrap (x4 + (shl .u64 1 (IntKind.u64.wrap (x5))))) (wrap64 (x5 - 1))) else (catacombref05_Square.l1 k x0 x3 x4 (wrap64 (x5 - 1))))) else (none)) else (some ((x4) % 4294967296))
end
def catacombref05_Square.f (k : Nat) (a0 : Int) : Option (Int) := catacombref05_Square.l0 k a0 0
theorem catacombref05_Square.mono_l : ∀ k, (∀ y0 y1, LeO (catacombref05_Square.l0 k y0 y1) (catacombref05_Square.l0 (k + 1) y0 y1)) ∧ (∀ y0 y1 y2 y3, LeO (catacombref05_Square.l1 k y0 y1 y2 y3) (catacombref05_Square.l1 (k + 1) y0 y1 y2 y3))
  | 0 => ⟨fun _ _ r h => by simp [catacombref05_Square.l0] at h, fun _ _ _ _ r h => by simp [catacombref05_Square.l1] at h⟩
  | k + 1 => by
    obtain ⟨ih0, ih1⟩ := catacombref05_Square.mono_l k
    refine ⟨?_, ?_⟩
    · intro y0 y1
      unfold catacombref05_Square.l0
      repeat' first
      | (with_reducible exact ih0 _ _)
      | (with_reducible exact ih1 _ _ _ _)
      | (with_reducible exact LeO.refl _)
      | (with_reducible exact LeO.none _)
      | (with_reducible refine LeO.ite ?_ ?_)
      | (with_reducible refine LeO.bind ?_ (fun _ => ?_))
      | exact ih0 _ _
      | exact ih1 _ _ _ _
      | exact LeO.none _
      | refine LeO.ite ?_ ?_
      | refine LeO.bind ?_ (fun _ => ?_)
    · intro y0 y1 y2 y3
      unfold catacombref05_Square.l1
      repeat' first
      | (with_reducible exact ih0 _ _)
      | (with_reducible exact ih1 _ _ _ _)
      | (with_reducible exact LeO.refl _)
      | (with_reducible exact LeO.none _)
      | (with_reducible refine LeO.ite ?_ ?_)
      | (with_reducible refine LeO.bind ?_ (fun _ => ?_))
      | exact ih0 _ _
      | exact ih1 _ _ _ _
      | exact LeO.none _
      | refine LeO.ite ?_ ?_
      | refine LeO.bind ?_ (fun _ => ?_)
theorem catacombref05_Square.mono : ∀ a0 k, LeO (catacombref05_Square.f k a0) (catacombref05_Square.f (k + 1) a0) := by
  intro a0 k
  obtain ⟨ih0, ih1⟩ := catacombref05_Square.mono_l k
  unfold catacombref05_Square.f
  repeat' first
      | (with_reducible exact ih0 _ _)
      | (with_reducible exact ih1 _ _ _ _)
      | (with_reducible exact LeO.refl _)
      | (with_reducible exact LeO.none _)
      | (with_reducible refine LeO.ite ?_ ?_)
      | (with_reducible refine LeO.bind ?_ (fun _ => ?_))
      | exact ih0 _ _
      | exact ih1 _ _ _ _
      | exact LeO.none _
      | refine LeO.ite ?_ ?_
      | refine LeO.bind ?_ (fun _ => ?_)
set_option maxHeartbeats 8000000 in
set_option maxRecDepth 100000 in
theorem catacombref05_Square.calls (k : Nat) (a0 : Int) (r : Int) (w : World) (h : catacombref05_Square.f k a0 = some r) :
    Calls Try.prog 25 #[.int .u64 a0] w fun e w' => e = .returned (.int .u32 r) ∧ Drawn0 w w' := by
  have H : (catacombref05_Square.l0 k a0 0) = some r := h
  clear h
  have H' := Aside0.mk H
  clear H
  go_enter Try.func25, Try.ntmps25
  go_wp2
  go_loopg [3] k (fun kq v3 w' => ∃ (x3_1 : Int), v3 = .int .u64 x3_1 ∧ Aside0 (catacombref05_Square.l0 kq a0 x3_1 = some r) ∧ Aside0 (kq ≤ k) ∧ Drawn0 w w')
  case atStart => exact ⟨(0), (by first | rfl | (simp; done) | (simp [*]; done)), H', ⟨Nat.le_refl _⟩, by repeat (first | exact Drawn0.refl _ | apply Drawn0.step)⟩
  case round =>
    clear H'
    obtain ⟨x3_1, rfl, HA, HK1, ⟨m1, rfl⟩⟩ := hrel
    cases gk with
    | zero => exact absurd HA.out (by simp [catacombref05_Square.l0])
    | succ k1 =>
      have H := HA.out
      clear HA
      simp only [catacombref05_Square.l0] at H
      by_cases c2 : (IntKind.u64.wrap ((IntKind.u64.wrap (x3_1 + 1)) * (IntKind.u64.wrap (x3_1 + 1)))) ≤ a0
      · rw [if_pos c2] at H
        have c2b0 : decide ((IntKind.u64.wrap ((IntKind.u64.wrap (x3_1 + 1)) * (IntKind.u64.wrap (x3_1 + 1)))) ≤ a0) = true := decide_eq_true c2
        clear c2
        have H' := Aside0.mk H
        clear H
        go_wp2
        go_roundg k1
        case measure => have := HK1.out; omega
        case rel => exact ⟨(IntKind.u64.wrap (x3_1 + 1)), (by first | rfl | (simp; done) | (simp [*]; done)), H', ⟨by have := HK1.out; omega⟩, by repeat (first | exact Drawn0.refl _ | apply Drawn0.step)⟩
      · rw [if_neg c2] at H
        have c2b0 : decide ((IntKind.u64.wrap ((IntKind.u64.wrap (x3_1 + 1)) * (IntKind.u64.wrap (x3_1 + 1)))) ≤ a0) = false := decide_eq_false c2
        clear c2
        have H' := Aside0.mk H
        clear H
        go_wp2
        go_loopg [4, 5] k1 (fun kq v4 v5 w' => ∃ (x4_2 : Int) (x5_2 : Int), v4 = .int .u64 x4_2 ∧ v5 = .int .i64 x5_2 ∧ Aside0 (catacombref05_Square.l1 kq a0 x3_1 x4_2 x5_2 = some r) ∧ Aside0 (kq ≤ k1) ∧ Drawn0 w w')
        case atStart => exact ⟨(0), (31), (by first | rfl | (simp; done) | (simp [*]; done)), (by first | rfl | (simp; done) | (simp [*]; done)), H', ⟨Nat.le_refl _⟩, by repeat (first | exact Drawn0.refl _ | apply Drawn0.step)⟩
        case round =>
          clear H'
          try clear c2
          try clear c2b0
          try clear p2
          obtain ⟨x4_2, x5_2, rfl, rfl, HA, HK2, ⟨m2, rfl⟩⟩ := hrel
          cases gk with
          | zero => exact absurd HA.out (by simp [catacombref05_Square.l1])
          | succ k2 =>
            have H := HA.out
            clear HA
            simp only [catacombref05_Square.l1] at H
            by_cases c3 : x5_2 ≥ 0
            · rw [if_pos c3] at H
              have c3b0 : decide (0 ≤ x5_2) = true := decide_eq_true c3
              clear c3
              obtain ⟨ji4, hji4⟩ : ∃ j_ : Int, (IntKind.u64.wrap (x5_2)) = j_ := ⟨_, rfl⟩
              replace H : (if 0 ≤ (ji4) then ((catacombref05_high.f (IntKind.u64.wrap ((IntKind.u64.wrap ((IntKind.u64.wrap (x3_1 * 4294967296)) + x4_2)) + (shl .u64 1 (ji4)))) (IntKind.u64.wrap ((IntKind.u64.wrap ((IntKind.u64.wrap (x3_1 * 4294967296)) + x4_2)) + (shl .u64 1 (ji4))))).bind fun t111 => (if t111 < a0 then (catacombref05_Square.l1 k2 a0 x3_1 (IntKind.u64.wrap (x4_2 + (shl .u64 1 (ji4)))) (wrap64 (x5_2 - 1))) else (catacombref05_Square.l1 k2 a0 x3_1 x4_2 (wrap64 (x5_2 - 1))))) else (none)) = some r := by first | (rw [hji4] at H; exact H) | (simp only [hji4] at H ⊢; exact H)
              by_cases c5 : 0 ≤ (ji4)
              · rw [if_pos c5] at H
                have c5b0 := eq_true c5
                have c5b1 : decide (0 ≤ (ji4)) = true := decide_eq_true c5
                clear c5
                obtain ⟨ji6, hji6⟩ : ∃ j_ : Int, (shl .u64 1 (ji4)) = j_ := ⟨_, rfl⟩
                replace H : ((catacombref05_high.f (IntKind.u64.wrap ((IntKind.u64.wrap ((IntKind.u64.wrap (x3_1 * 4294967296)) + x4_2)) + (ji6))) (IntKind.u64.wrap ((IntKind.u64.wrap ((IntKind.u64.wrap (x3_1 * 4294967296)) + x4_2)) + (ji6)))).bind fun t111 => (if t111 < a0 then (catacombref05_Square.l1 k2 a0 x3_1 (IntKind.u64.wrap (x4_2 + (ji6))) (wrap64 (x5_2 - 1))) else (catacombref05_Square.l1 k2 a0 x3_1 x4_2 (wrap64 (x5_2 - 1))))) = some r := by first | (rw [hji6] at H; exact H) | (simp only [hji6] at H ⊢; exact H)
                have hji6_ : (IntKind.u64.wrap (1 * 2 ^ min (ji4).toNat 64)) = ji6 := hji6
                have hji6z : (ji4) ≤ 64 → (IntKind.u64.wrap (1 * 2 ^ (ji4).toNat)) = ji6 := shl_small hji6
                have hji6u : (IntKind.u64.wrap (2 ^ min (ji4).toNat 64)) = ji6 := by have h_ := hji6_; rw [Int.one_mul] at h_; exact h_
                have hji6v : (ji4) ≤ 64 → (IntKind.u64.wrap (2 ^ (ji4).toNat)) = ji6 := fun hle_ => by have h_ := hji6z hle_; rw [Int.one_mul] at h_; exact h_
                replace H := Option.bind_eq_some_iff.mp H
                obtain ⟨t111, A70, H⟩ := H
                replace H : (if t111 < a0 then (catacombref05_Square.l1 k2 a0 x3_1 (IntKind.u64.wrap (x4_2 + (ji6))) (wrap64 (x5_2 - 1))) else (catacombref05_Square.l1 k2 a0 x3_1 x4_2 (wrap64 (x5_2 - 1)))) = some r := H
                have A7 := Aside0.mk A70
                clear A70
                by_cases c8 : t111 < a0
                · rw [if_pos c8] at H
                  have c8b0 : decide (t111 < a0) = true := decide_eq_true c8
                  clear c8
                  have c9b0 := eq_true (of_decide_eq_true (by first | (with_reducible assumption) | assumption) : 0 ≤ (ji4))
                  have H' := Aside0.mk H
                  clear H
                  go_wp2_with (first | ((with_reducible refine gate_callee (f := 37) rfl ?_); refine goesL_ (some 30) rfl rfl Try.func37 (by kernel_rfl) rfl #[.int .u64 (IntKind.u64.wrap ((IntKind.u64.wrap ((IntKind.u64.wrap (x3_1 * 4294967296)) + x4_2)) + (ji6))), .int .u64 (IntKind.u64.wrap ((IntKind.u64.wrap ((IntKind.u64.wrap (x3_1 * 4294967296)) + x4_2)) + (ji6)))] rfl (by (try simp only [List.map_toArray, List.map_cons, List.map_nil]); first | done | (simp only [hji6]; rfl) | rfl | (simp only [List.length_drop, List.length_take]; rfl)) ?_; (with_reducible refine (catacombref05_high.calls (IntKind.u64.wrap ((IntKind.u64.wrap ((IntKind.u64.wrap (x3_1 * 4294967296)) + x4_2)) + (ji6))) (IntKind.u64.wrap ((IntKind.u64.wrap ((IntKind.u64.wrap (x3_1 * 4294967296)) + x4_2)) + (ji6))) t111 _ A7.out).mono ?_); rintro e w' ⟨rfl, ⟨nd, rfl⟩⟩; refine ⟨_, rfl, ?_⟩))
                  go_roundg k2
                  case measure => have := HK1.out; have := HK2.out; omega
                  case rel => exact ⟨(IntKind.u64.wrap (x4_2 + (ji6))), (wrap64 (x5_2 - 1)), (by first | rfl | (simp; done) | (simp only [← hji6] <;> (first | rfl | simp)) | (simp [*]; done)), (by first | rfl | (simp; done) | (simp [*]; done)), H', ⟨by have := HK1.out; have := HK2.out; omega⟩, by repeat (first | exact Drawn0.refl _ | apply Drawn0.step)⟩
                · rw [if_neg c8] at H
                  have c8b0 : decide (t111 < a0) = false := decide_eq_false c8
                  clear c8
                  have H' := Aside0.mk H
                  clear H
                  go_wp2_with (first | ((with_reducible refine gate_callee (f := 37) rfl ?_); refine goesL_ (some 30) rfl rfl Try.func37 (by kernel_rfl) rfl #[.int .u64 (IntKind.u64.wrap ((IntKind.u64.wrap ((IntKind.u64.wrap (x3_1 * 4294967296)) + x4_2)) + (ji6))), .int .u64 (IntKind.u64.wrap ((IntKind.u64.wrap ((IntKind.u64.wrap (x3_1 * 4294967296)) + x4_2)) + (ji6)))] rfl (by (try simp only [List.map_toArray, List.map_cons, List.map_nil]); first | done | (simp only [hji6]; rfl) | rfl | (simp only [List.length_drop, List.length_take]; rfl)) ?_; (with_reducible refine (catacombref05_high.calls (IntKind.u64.wrap ((IntKind.u64.wrap ((IntKind.u64.wrap (x3_1 * 4294967296)) + x4_2)) + (ji6))) (IntKind.u64.wrap ((IntKind.u64.wrap ((IntKind.u64.wrap (x3_1 * 4294967296)) + x4_2)) + (ji6))) t111 _ A7.out).mono ?_); rintro e w' ⟨rfl, ⟨nd, rfl⟩⟩; refine ⟨_, rfl, ?_⟩))
                  go_roundg k2
                  case measure => have := HK1.out; have := HK2.out; omega
                  case rel => exact ⟨(x4_2), (wrap64 (x5_2 - 1)), (by first | rfl | (simp; done) | (simp [*]; done)), (by first | rfl | (simp; done) | (simp [*]; done)), H', ⟨by have := HK1.out; have := HK2.out; omega⟩, by repeat (first | exact Drawn0.refl _ | apply Drawn0.step)⟩
              · rw [if_neg c5] at H
                exact absurd H (by simp)
            · rw [if_neg c3] at H
              have c3b0 : decide (0 ≤ x5_2) = false := decide_eq_false c3
              clear c3
              obtain rfl := Option.some.inj H
              go_wp2
              go_ret
              exact ⟨by first | rfl | (simp; done) | (simp [*]; done), by repeat (first | exact Drawn0.refl _ | apply Drawn0.step)⟩

/-! ### catacombref05_turn: function 26 -/
def catacombref05_turn.f (a0 : Int) (a1 : Int) : Option (Int) := if 0 ≤ a1 then (if 0 ≤ (IntKind.u64.wrap (32 - a1)) then (some (Go.bits .or .u32 (shr .u32 a0 a1) (shl .u32 a0 (IntKind.u64.wrap (32 - a1))))) else (none)) else (none)
set_option maxHeartbeats 8000000 in
set_option maxRecDepth 100000 in
theorem catacombref05_turn.calls (a0 : Int) (a1 : Int) (r : Int) (w : World) (h : catacombref05_turn.f a0 a1 = some r) :
    Calls Try.prog 26 #[.int .u32 a0, .int .u64 a1] w fun e w' => e = .returned (.int .u32 r) ∧ Drawn0 w w' := by
  have H : (if 0 ≤ a1 then (if 0 ≤ (IntKind.u64.wrap (32 - a1)) then (some (Go.bits .or .u32 (shr .u32 a0 a1) (shl .u32 a0 (IntKind.u64.wrap (32 - a1))))) else (none)) else (none)) = some r := h
  clear h
  by_cases c3 : 0 ≤ a1
  · rw [if_pos c3] at H
    have c3b0 := eq_true c3
    have c3b1 : decide (0 ≤ a1) = true := decide_eq_true c3
    clear c3
    obtain ⟨ji4, hji4⟩ : ∃ j_ : Int, (shr .u32 a0 a1) = j_ := ⟨_, rfl⟩
    replace H : (if 0 ≤ (IntKind.u64.wrap (32 - a1)) then (some (Go.bits .or .u32 (ji4) (shl .u32 a0 (IntKind.u64.wrap (32 - a1))))) else (none)) = some r := by first | (rw [hji4] at H; exact H) | (simp only [hji4] at H ⊢; exact H)
    have hji4_ : (a0 / 2 ^ min a1.toNat 32) = ji4 := hji4
    have hji4z : a1 ≤ 32 → (a0 / 2 ^ a1.toNat) = ji4 := shr_small hji4
    obtain ⟨ji5, hji5⟩ : ∃ j_ : Int, (IntKind.u64.wrap (32 - a1)) = j_ := ⟨_, rfl⟩
    replace H : (if 0 ≤ (ji5) then (some (Go.bits .or .u32 (ji4) (shl .u32 a0 (ji5)))) else (none)) = some r := by first | (rw [hji5] at H; exact H) | (simp only [hji5] at H ⊢; exact H)
    by_cases c6 : 0 ≤ (ji5)
    · rw [if_pos c6] at H
      have c6b0 := eq_true c6
      have c6b1 : decide (0 ≤ (ji5)) = true := decide_eq_true c6
      clear c6
      obtain ⟨ji7, hji7⟩ : ∃ j_ : Int, (shl .u32 a0 (ji5)) = j_ := ⟨_, rfl⟩
      replace H : (some (Go.bits .or .u32 (ji4) (ji7))) = some r := by first | (rw [hji7] at H; exact H) | (simp only [hji7] at H ⊢; exact H)
      have hji7_ : (IntKind.u32.wrap (a0 * 2 ^ min (ji5).toNat 32)) = ji7 := hji7
      have hji7z : (ji5) ≤ 32 → (IntKind.u32.wrap (a0 * 2 ^ (ji5).toNat)) = ji7 := shl_small hji7
      obtain rfl := Option.some.inj H
      go_enter Try.func26, Try.ntmps26
      go_wp2
      go_ret
      exact ⟨by first | rfl | (simp; done) | (simp only [← hji4, ← hji5, ← hji7] <;> (first | rfl | simp)) | (simp [*]; done), by repeat (first | exact Drawn0.refl _ | apply Drawn0.step)⟩
    · rw [if_neg c6] at H
      exact absurd H (by simp)
  · rw [if_neg c3] at H
    exact absurd H (by simp)

-- NOT PRINTED: function 12 (catacombref05_Sum)

-- NOT PRINTED: function 3 (catacomblaw05_HashSums)

end Go.Proofs.Ytjlnbklendkflaa.PHashSums
