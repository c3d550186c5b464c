/- mac.Same, walked. -/
import Derived.Laws.BitsAllLaws
import Derived.Test.YtjlnbklendkflaaMacB
import Derived.Lib.Hide
import Derived.LoopTactic
import Derived.Outline
import Derived.Laws.Rows
import Derived.Laws.CopyOwn
import Derived.WalkKit
set_option linter.unusedVariables false
set_option linter.unusedSimpArgs false
namespace Go.Proofs.Ytjlnbklendkflaa
open Go.RowKit Go.Proofs.YtjlnbklendkflaaW.PrintWords Go.Proofs.YtjlnbklendkflaaW.PrintLast Go.Proofs.YtjlnbklendkflaaW.PrintMore
open Go.Proofs.Ytjlnbklendkflaa.PHashSums


theorem i64_or_nat (a b : Nat) (ha : a < 9223372036854775808) (hb : b < 9223372036854775808) : Go.bits .or .i64 (a : Int) (b : Int) = ((a ||| b : Nat) : Int) := by
  have hx : a ||| b < 2 ^ 63 := Nat.or_lt_two_pow (by omega) (by omega)
  show IntKind.i64.wrap ((BitVec.ofInt 64 (a : Int) ||| BitVec.ofInt 64 (b : Int)).toNat : Int) = _
  rw [BitVec.toNat_or, BitVec.ofInt_natCast, BitVec.ofInt_natCast, BitVec.toNat_ofNat, BitVec.toNat_ofNat, Nat.mod_eq_of_lt (show a < 2 ^ 64 by omega), Nat.mod_eq_of_lt (show b < 2 ^ 64 by omega), IntKind.wrap_i64]
  omega
theorem i64_xor_nat (a b : Nat) (ha : a < 9223372036854775808) (hb : b < 9223372036854775808) : Go.bits .xor .i64 (a : Int) (b : Int) = ((a ^^^ b : Nat) : Int) := by
  have hx : a ^^^ b < 2 ^ 63 := Nat.xor_lt_two_pow (by omega) (by omega)
  show IntKind.i64.wrap ((BitVec.ofInt 64 (a : Int) ^^^ BitVec.ofInt 64 (b : Int)).toNat : Int) = _
  rw [BitVec.toNat_xor, BitVec.ofInt_natCast, BitVec.ofInt_natCast, BitVec.toNat_ofNat, BitVec.toNat_ofNat, Nat.mod_eq_of_lt (show a < 2 ^ 64 by omega), Nat.mod_eq_of_lt (show b < 2 ^ 64 by omega), IntKind.wrap_i64]
  omega
theorem nat_xor_zero {a b : Nat} : a ^^^ b = 0 ↔ a = b := by
  constructor
  · intro h
    have : a ^^^ (a ^^^ b) = a := by rw [h, Nat.xor_zero]
    rw [← Nat.xor_assoc, Nat.xor_self, Nat.zero_xor] at this
    exact this.symm
  · rintro rfl; exact Nat.xor_self _
theorem nat_or_zero {a b : Nat} : a ||| b = 0 ↔ a = 0 ∧ b = 0 := by
  constructor
  · intro h
    exact ⟨by have := @Nat.left_le_or a b; omega, by have := @Nat.right_le_or a b; omega⟩
  · rintro ⟨rfl, rfl⟩; rfl
theorem wrap_small {x : Int} (h : 0 ≤ x) (h2 : x < 256) : wrap64 x = x := by unfold wrap64; omega
/-- The next unlike: or with the exclusive or of two bytes. -/
theorem unlike_next {acc : Nat} {x y : Int} (ha : acc < 9223372036854775808) (hx : 0 ≤ x ∧ x < 256) (hy : 0 ≤ y ∧ y < 256) :
    ∃ r : Nat, r < 9223372036854775808 ∧ Go.bits .or .i64 (acc : Int) (Go.bits .xor .u8 x y) = (r : Int) ∧ (r = 0 ↔ acc = 0 ∧ x = y) ∧ 0 ≤ Go.bits .xor .u8 x y ∧ Go.bits .xor .u8 x y < 256 := by
  obtain ⟨X, rfl⟩ := Int.eq_ofNat_of_zero_le hx.1
  obtain ⟨Y, rfl⟩ := Int.eq_ofNat_of_zero_le hy.1
  have e : Go.bits .xor .u8 (X : Int) (Y : Int) = ((X ^^^ Y : Nat) : Int) := u8_xor_nat X Y (by omega) (by omega)
  have hx' : X ^^^ Y < 2 ^ 8 := Nat.xor_lt_two_pow (by omega) (by omega)
  refine ⟨acc ||| (X ^^^ Y), Nat.or_lt_two_pow (n := 63) (by omega) (by omega), ?_, ?_, by rw [e]; omega, by rw [e]; omega⟩
  · rw [e, i64_or_nat _ _ ha (by omega)]
  · rw [nat_or_zero, nat_xor_zero]
    omega
theorem take_eq_succ {a b : List Int} {i : Nat} {x y : Int} (hx : a[i]? = some x) (hy : b[i]? = some y) : a.take (i + 1) = b.take (i + 1) ↔ a.take i = b.take i ∧ x = y := by
  rw [List.take_add_one, List.take_add_one, hx, hy]
  constructor
  · intro h
    have := List.append_inj' h rfl
    exact ⟨this.1, by simpa using this.2⟩
  · rintro ⟨h1, rfl⟩; rw [h1]
theorem src_at {w : World} {v : Value} {l : List Int} (h : SrcB w v l) (hl : 0 < l.length) : ∃ ad c, v = .slice (some ad) l.length c ∧ ∀ j u, l[j]? = some u → w.cell? (ad.add j) = some (.int .u8 u) := by
  rcases h with ⟨c', e, h0⟩ | ⟨ad, c', e, hc⟩
  · subst h0; exact absurd hl (by simp)
  · exact ⟨ad, c', e, hc⟩
set_option maxRecDepth 100000 in
set_option maxHeartbeats 8000000 in
theorem same_calls (A B : Option Addr) (c d : Nat) (a b : List Int) (w : World) (ha : SrcB w (.slice A a.length c) a) (hb : SrcB w (.slice B b.length d) b) (hla : a.length ≤ 4611686018427387904) (hlb : b.length ≤ 4611686018427387904) (hwa : ∀ x ∈ a, 0 ≤ x ∧ x < 256) (hwb : ∀ x ∈ b, 0 ≤ x ∧ x < 256) :
    Calls Try.prog 22 #[.slice A a.length c, .slice B b.length d] w fun e w' => e = .returned (.bool (decide (a = b))) ∧ Below w.heap.size w w' := by
  have HA := Aside0.mk ha
  have HB := Aside0.mk hb
  have HWA := Aside0.mk hwa
  have HWB := Aside0.mk hwb
  have hxl := i64_xor_nat a.length b.length (by omega) (by omega)
  have hmn : min (a.length : Int) (b.length : Int) = ((min a.length b.length : Nat) : Int) := by omega
  have HXZ := Aside0.mk (nat_xor_zero (a := a.length) (b := b.length))
  have HXB := Aside0.mk (show a.length ^^^ b.length < 9223372036854775808 from Nat.xor_lt_two_pow (n := 63) (by omega) (by omega))
  clear ha hb hwa hwb
  go_enter Try.func22, Try.ntmps22
  go_wp2_with fail
  case inl h =>
    have hma : b.length ≤ a.length := by omega
    have hmb : b.length ≤ b.length := by omega
    go_loopw [5, 6, 17] (fun v5 v6 v17 wr => ∃ i acc : Nat, i ≤ b.length ∧ v17 = .int .i64 (i : Int) ∧ v5 = .int .i64 (acc : Int) ∧ acc < 9223372036854775808 ∧ Aside0 (acc = 0 ↔ a.length = b.length ∧ a.take i = b.take i) ∧ Aside0 (Below w.heap.size w wr)) (fun _ _ v17 _ => b.length - (intOf v17).toNat)
    case atStart => exact ⟨0, _, by omega, rfl, rfl, HXB.out, ⟨by rw [HXZ.out]; simp⟩, ⟨Below.refl _ _⟩⟩
    case round =>
      obtain ⟨i, acc, hi, rfl, rfl, hac, HI, HW⟩ := hrel
      by_cases hlt : i < b.length
      · obtain ⟨x, hx⟩ : ∃ x, a[i]? = some x := ⟨_, List.getElem?_eq_getElem (by omega)⟩
        obtain ⟨y, hy⟩ : ∃ y, b[i]? = some y := ⟨_, List.getElem?_eq_getElem (by omega)⟩
        obtain ⟨ad, c1, e1, hca⟩ := src_at (HA.out.below HW.out) (by omega)
        obtain ⟨bd, c2, e2, hcb⟩ := src_at (HB.out.below HW.out) (by omega)
        injection e1 with e1a _ e1c
        injection e2 with e2a _ e2c
        subst e1a e2a
        have cx := hca i x hx
        have cy := hcb i y hy
        obtain ⟨r, hr, er, hr0, hb0, hb1⟩ := unlike_next hac (HWA.out x (List.mem_of_getElem? hx)) (HWB.out y (List.mem_of_getElem? hy))
        have HN := Aside0.mk (show r = 0 ↔ a.length = b.length ∧ a.take (i + 1) = b.take (i + 1) by rw [hr0, HI.out, take_eq_succ hx hy]; exact and_assoc)
        have hia : (i : Int) < (a.length : Int) := by omega
        have hib : (i : Int) < (b.length : Int) := by omega
        clear hx hy hca hcb hr0 e1c e2c
        go_wp2
        refine start_ (n := 13) (S := fun w' => (w'.cell? (ad.add i) = some (.int .u8 x)) ∧ (w'.cell? (bd.add i) = some (.int .u8 y))) (ds := []) #[false, false, false, false, false, false, false, false, false, false, false, false, false] (by kernel_rfl) rfl rfl ⟨cx, cy⟩ (fun hHeld => ?_)
        refine pure_ (i := 0) (N := some 20) (v := ?_) (a' := ?_) #[true, false, false, false, false, false, false, false, false, false, false, false, false] rfl rfl (by kernel_rfl) (fun _ _ _ h => h) (Or.inl ⟨by rfl, ?_⟩) ?_ ?_
        rotate_left
        · intro w'
          go_simp
          with_reducible rfl
        rotate_left
        · simp only [Act.put, List.setIfInBounds_toArray, List.set_cons_zero, List.set_cons_succ, i64_w, i32_w]
          rfl
        refine pure_ (i := 1) (N := some 21) (v := ?_) (a' := ?_) #[true, true, false, false, false, false, false, false, false, false, false, false, false] rfl rfl (by kernel_rfl) (fun _ _ _ h => h) (Or.inl ⟨by rfl, ?_⟩) ?_ ?_
        rotate_left
        · intro w'
          go_simp
          with_reducible rfl
        rotate_left
        · simp only [Act.put, List.setIfInBounds_toArray, List.set_cons_zero, List.set_cons_succ, i64_w, i32_w]
          rfl
        refine pure_ (i := 2) (N := some 22) (v := ?_) (a' := ?_) #[true, true, true, false, false, false, false, false, false, false, false, false, false] rfl rfl (by kernel_rfl) (fun _ _ _ h => h) (Or.inl ⟨by rfl, ?_⟩) ?_ ?_
        rotate_left
        · intro w'
          go_simp
          with_reducible rfl
        rotate_left
        · simp only [Act.put, List.setIfInBounds_toArray, List.set_cons_zero, List.set_cons_succ, i64_w, i32_w]
          rfl
        refine pure_ (i := 3) (N := some 23) (v := ?_) (a' := ?_) #[true, true, true, true, false, false, false, false, false, false, false, false, false] rfl rfl (by kernel_rfl) (fun _ _ _ h => h) (Or.inl ⟨by rfl, ?_⟩) ?_ ?_
        rotate_left
        · intro w'
          go_simp
          with_reducible rfl
        rotate_left
        · simp only [Act.put, List.setIfInBounds_toArray, List.set_cons_zero, List.set_cons_succ, i64_w, i32_w]
          rfl
        refine pure_ (i := 5) (N := some 25) (v := ?_) (a' := ?_) #[true, true, true, true, false, true, false, false, false, false, false, false, false] rfl rfl (by kernel_rfl) (fun _ _ _ h => h) (Or.inl ⟨by rfl, ?_⟩) ?_ ?_
        rotate_left
        · intro w'
          go_simp
          with_reducible rfl
        rotate_left
        · simp only [Act.put, List.setIfInBounds_toArray, List.set_cons_zero, List.set_cons_succ, i64_w, i32_w]
          rfl
        refine pure_ (i := 6) (N := some 26) (v := ?_) (a' := ?_) #[true, true, true, true, false, true, true, false, false, false, false, false, false] rfl rfl (by kernel_rfl) (fun _ _ _ h => h) (Or.inl ⟨by rfl, ?_⟩) ?_ ?_
        rotate_left
        · intro w'
          go_simp
          with_reducible rfl
        rotate_left
        · simp only [Act.put, List.setIfInBounds_toArray, List.set_cons_zero, List.set_cons_succ, i64_w, i32_w]
          rfl
        refine pure_ (i := 7) (N := some 27) (v := ?_) (a' := ?_) #[true, true, true, true, false, true, true, true, false, false, false, false, false] rfl rfl (by kernel_rfl) (fun _ _ _ h => h) (Or.inl ⟨by rfl, ?_⟩) ?_ ?_
        rotate_left
        · intro w'
          go_simp
          with_reducible rfl
        rotate_left
        · simp only [Act.put, List.setIfInBounds_toArray, List.set_cons_zero, List.set_cons_succ, i64_w, i32_w]
          rfl
        refine take_ (i := 4) (N := some 24) (v := ?_) (a' := ?_) #[true, true, true, true, true, true, true, true, false, false, false, false, false] rfl rfl (by kernel_rfl) (fun _ _ _ h => h) (Or.inl ⟨by rfl, ?_⟩) hHeld ?_ ?_
        rotate_left
        · rintro w' ⟨s0, s1⟩
          go_simp
          with_reducible rfl
        rotate_left
        · simp only [Act.put, List.setIfInBounds_toArray, List.set_cons_zero, List.set_cons_succ, i64_w, i32_w]
          rfl
        refine take_ (i := 8) (N := some 28) (v := ?_) (a' := ?_) #[true, true, true, true, true, true, true, true, true, false, false, false, false] rfl rfl (by kernel_rfl) (fun _ _ _ h => h) (Or.inl ⟨by rfl, ?_⟩) hHeld ?_ ?_
        rotate_left
        · rintro w' ⟨s0, s1⟩
          go_simp
          with_reducible rfl
        rotate_left
        · simp only [Act.put, List.setIfInBounds_toArray, List.set_cons_zero, List.set_cons_succ, i64_w, i32_w]
          rfl
        refine pure_ (i := 9) (N := some 29) (v := ?_) (a' := ?_) #[true, true, true, true, true, true, true, true, true, true, false, false, false] rfl rfl (by kernel_rfl) (fun _ _ _ h => h) (Or.inl ⟨by rfl, ?_⟩) ?_ ?_
        rotate_left
        · intro w'
          go_simp
          with_reducible rfl
        rotate_left
        · simp only [Act.put, List.setIfInBounds_toArray, List.set_cons_zero, List.set_cons_succ, i64_w, i32_w]
          rfl
        refine pure_ (i := 10) (N := some 30) (v := ?_) (a' := ?_) #[true, true, true, true, true, true, true, true, true, true, true, false, false] rfl rfl (by kernel_rfl) (fun _ _ _ h => h) (Or.inl ⟨by rfl, ?_⟩) ?_ ?_
        rotate_left
        · intro w'
          go_simp
          with_reducible rfl
        rotate_left
        · simp only [Act.put, List.setIfInBounds_toArray, List.set_cons_zero, List.set_cons_succ, i64_w, i32_w]
          rfl
        refine pure_ (i := 11) (N := some 31) (v := ?_) (a' := ?_) #[true, true, true, true, true, true, true, true, true, true, true, true, false] rfl rfl (by kernel_rfl) (fun _ _ _ h => h) (Or.inl ⟨by rfl, ?_⟩) ?_ ?_
        rotate_left
        · intro w'
          go_simp
          with_reducible rfl
        rotate_left
        · simp only [Act.put, List.setIfInBounds_toArray, List.set_cons_zero, List.set_cons_succ, i64_w, i32_w]
          rfl
        refine pure_ (i := 12) (N := some 5) (v := ?_) (a' := ?_) #[true, true, true, true, true, true, true, true, true, true, true, true, true] rfl rfl (by kernel_rfl) (fun _ _ _ h => h) (Or.inl ⟨by rfl, ?_⟩) ?_ ?_
        rotate_left
        · intro w'
          go_simp
          with_reducible rfl
        rotate_left
        · simp only [Act.put, List.setIfInBounds_toArray, List.set_cons_zero, List.set_cons_succ, i64_w, i32_w]
          rfl
        refine done_ (by kernel_rfl) ?_
        go_wp2
        go_roundw
        case rel => exact ⟨i + 1, r, by omega, by simp, by rw [← er, wrap_small hb0 hb1], hr, HN, ⟨HW.out.drew⟩⟩
        case measure => simp [intOf]; omega
      · have hie : i = b.length := by omega
        subst hie
        have HF := Aside0.mk (show acc = 0 ↔ a = b by
          rw [HI.out]
          constructor
          · rintro ⟨h1, h2⟩
            have h3 : a.take a.length = b.take a.length := by simpa [h1] using h2
            rw [List.take_length, h1, List.take_length] at h3
            exact h3
          · rintro rfl; exact ⟨rfl, rfl⟩)
        go_wp2
        go_ret
        refine ⟨?_, HW.out⟩
        have hd : ((acc : Int) == 0) = decide (a = b) := by
          rw [Bool.eq_iff_iff, beq_iff_eq, decide_eq_true_iff, ← HF.out]
          omega
        rw [hd]
        rfl
  case inr h =>
    have hma : a.length ≤ a.length := by omega
    have hmb : a.length ≤ b.length := by omega
    go_loopw [5, 6, 17] (fun v5 v6 v17 wr => ∃ i acc : Nat, i ≤ a.length ∧ v17 = .int .i64 (i : Int) ∧ v5 = .int .i64 (acc : Int) ∧ acc < 9223372036854775808 ∧ Aside0 (acc = 0 ↔ a.length = b.length ∧ a.take i = b.take i) ∧ Aside0 (Below w.heap.size w wr)) (fun _ _ v17 _ => a.length - (intOf v17).toNat)
    case atStart => exact ⟨0, _, by omega, rfl, rfl, HXB.out, ⟨by rw [HXZ.out]; simp⟩, ⟨Below.refl _ _⟩⟩
    case round =>
      obtain ⟨i, acc, hi, rfl, rfl, hac, HI, HW⟩ := hrel
      by_cases hlt : i < a.length
      · obtain ⟨x, hx⟩ : ∃ x, a[i]? = some x := ⟨_, List.getElem?_eq_getElem (by omega)⟩
        obtain ⟨y, hy⟩ : ∃ y, b[i]? = some y := ⟨_, List.getElem?_eq_getElem (by omega)⟩
        obtain ⟨ad, c1, e1, hca⟩ := src_at (HA.out.below HW.out) (by omega)
        obtain ⟨bd, c2, e2, hcb⟩ := src_at (HB.out.below HW.out) (by omega)
        injection e1 with e1a _ e1c
        injection e2 with e2a _ e2c
        subst e1a e2a
        have cx := hca i x hx
        have cy := hcb i y hy
        obtain ⟨r, hr, er, hr0, hb0, hb1⟩ := unlike_next hac (HWA.out x (List.mem_of_getElem? hx)) (HWB.out y (List.mem_of_getElem? hy))
        have HN := Aside0.mk (show r = 0 ↔ a.length = b.length ∧ a.take (i + 1) = b.take (i + 1) by rw [hr0, HI.out, take_eq_succ hx hy]; exact and_assoc)
        have hia : (i : Int) < (a.length : Int) := by omega
        have hib : (i : Int) < (b.length : Int) := by omega
        clear hx hy hca hcb hr0 e1c e2c
        go_wp2
        refine start_ (n := 13) (S := fun w' => (w'.cell? (ad.add i) = some (.int .u8 x)) ∧ (w'.cell? (bd.add i) = some (.int .u8 y))) (ds := []) #[false, false, false, false, false, false, false, false, false, false, false, false, false] (by kernel_rfl) rfl rfl ⟨cx, cy⟩ (fun hHeld => ?_)
        refine pure_ (i := 0) (N := some 20) (v := ?_) (a' := ?_) #[true, false, false, false, false, false, false, false, false, false, false, false, false] rfl rfl (by kernel_rfl) (fun _ _ _ h => h) (Or.inl ⟨by rfl, ?_⟩) ?_ ?_
        rotate_left
        · intro w'
          go_simp
          with_reducible rfl
        rotate_left
        · simp only [Act.put, List.setIfInBounds_toArray, List.set_cons_zero, List.set_cons_succ, i64_w, i32_w]
          rfl
        refine pure_ (i := 1) (N := some 21) (v := ?_) (a' := ?_) #[true, true, false, false, false, false, false, false, false, false, false, false, false] rfl rfl (by kernel_rfl) (fun _ _ _ h => h) (Or.inl ⟨by rfl, ?_⟩) ?_ ?_
        rotate_left
        · intro w'
          go_simp
          with_reducible rfl
        rotate_left
        · simp only [Act.put, List.setIfInBounds_toArray, List.set_cons_zero, List.set_cons_succ, i64_w, i32_w]
          rfl
        refine pure_ (i := 2) (N := some 22) (v := ?_) (a' := ?_) #[true, true, true, false, false, false, false, false, false, false, false, false, false] rfl rfl (by kernel_rfl) (fun _ _ _ h => h) (Or.inl ⟨by rfl, ?_⟩) ?_ ?_
        rotate_left
        · intro w'
          go_simp
          with_reducible rfl
        rotate_left
        · simp only [Act.put, List.setIfInBounds_toArray, List.set_cons_zero, List.set_cons_succ, i64_w, i32_w]
          rfl
        refine pure_ (i := 3) (N := some 23) (v := ?_) (a' := ?_) #[true, true, true, true, false, false, false, false, false, false, false, false, false] rfl rfl (by kernel_rfl) (fun _ _ _ h => h) (Or.inl ⟨by rfl, ?_⟩) ?_ ?_
        rotate_left
        · intro w'
          go_simp
          with_reducible rfl
        rotate_left
        · simp only [Act.put, List.setIfInBounds_toArray, List.set_cons_zero, List.set_cons_succ, i64_w, i32_w]
          rfl
        refine pure_ (i := 5) (N := some 25) (v := ?_) (a' := ?_) #[true, true, true, true, false, true, false, false, false, false, false, false, false] rfl rfl (by kernel_rfl) (fun _ _ _ h => h) (Or.inl ⟨by rfl, ?_⟩) ?_ ?_
        rotate_left
        · intro w'
          go_simp
          with_reducible rfl
        rotate_left
        · simp only [Act.put, List.setIfInBounds_toArray, List.set_cons_zero, List.set_cons_succ, i64_w, i32_w]
          rfl
        refine pure_ (i := 6) (N := some 26) (v := ?_) (a' := ?_) #[true, true, true, true, false, true, true, false, false, false, false, false, false] rfl rfl (by kernel_rfl) (fun _ _ _ h => h) (Or.inl ⟨by rfl, ?_⟩) ?_ ?_
        rotate_left
        · intro w'
          go_simp
          with_reducible rfl
        rotate_left
        · simp only [Act.put, List.setIfInBounds_toArray, List.set_cons_zero, List.set_cons_succ, i64_w, i32_w]
          rfl
        refine pure_ (i := 7) (N := some 27) (v := ?_) (a' := ?_) #[true, true, true, true, false, true, true, true, false, false, false, false, false] rfl rfl (by kernel_rfl) (fun _ _ _ h => h) (Or.inl ⟨by rfl, ?_⟩) ?_ ?_
        rotate_left
        · intro w'
          go_simp
          with_reducible rfl
        rotate_left
        · simp only [Act.put, List.setIfInBounds_toArray, List.set_cons_zero, List.set_cons_succ, i64_w, i32_w]
          rfl
        refine take_ (i := 4) (N := some 24) (v := ?_) (a' := ?_) #[true, true, true, true, true, true, true, true, false, false, false, false, false] rfl rfl (by kernel_rfl) (fun _ _ _ h => h) (Or.inl ⟨by rfl, ?_⟩) hHeld ?_ ?_
        rotate_left
        · rintro w' ⟨s0, s1⟩
          go_simp
          with_reducible rfl
        rotate_left
        · simp only [Act.put, List.setIfInBounds_toArray, List.set_cons_zero, List.set_cons_succ, i64_w, i32_w]
          rfl
        refine take_ (i := 8) (N := some 28) (v := ?_) (a' := ?_) #[true, true, true, true, true, true, true, true, true, false, false, false, false] rfl rfl (by kernel_rfl) (fun _ _ _ h => h) (Or.inl ⟨by rfl, ?_⟩) hHeld ?_ ?_
        rotate_left
        · rintro w' ⟨s0, s1⟩
          go_simp
          with_reducible rfl
        rotate_left
        · simp only [Act.put, List.setIfInBounds_toArray, List.set_cons_zero, List.set_cons_succ, i64_w, i32_w]
          rfl
        refine pure_ (i := 9) (N := some 29) (v := ?_) (a' := ?_) #[true, true, true, true, true, true, true, true, true, true, false, false, false] rfl rfl (by kernel_rfl) (fun _ _ _ h => h) (Or.inl ⟨by rfl, ?_⟩) ?_ ?_
        rotate_left
        · intro w'
          go_simp
          with_reducible rfl
        rotate_left
        · simp only [Act.put, List.setIfInBounds_toArray, List.set_cons_zero, List.set_cons_succ, i64_w, i32_w]
          rfl
        refine pure_ (i := 10) (N := some 30) (v := ?_) (a' := ?_) #[true, true, true, true, true, true, true, true, true, true, true, false, false] rfl rfl (by kernel_rfl) (fun _ _ _ h => h) (Or.inl ⟨by rfl, ?_⟩) ?_ ?_
        rotate_left
        · intro w'
          go_simp
          with_reducible rfl
        rotate_left
        · simp only [Act.put, List.setIfInBounds_toArray, List.set_cons_zero, List.set_cons_succ, i64_w, i32_w]
          rfl
        refine pure_ (i := 11) (N := some 31) (v := ?_) (a' := ?_) #[true, true, true, true, true, true, true, true, true, true, true, true, false] rfl rfl (by kernel_rfl) (fun _ _ _ h => h) (Or.inl ⟨by rfl, ?_⟩) ?_ ?_
        rotate_left
        · intro w'
          go_simp
          with_reducible rfl
        rotate_left
        · simp only [Act.put, List.setIfInBounds_toArray, List.set_cons_zero, List.set_cons_succ, i64_w, i32_w]
          rfl
        refine pure_ (i := 12) (N := some 5) (v := ?_) (a' := ?_) #[true, true, true, true, true, true, true, true, true, true, true, true, true] rfl rfl (by kernel_rfl) (fun _ _ _ h => h) (Or.inl ⟨by rfl, ?_⟩) ?_ ?_
        rotate_left
        · intro w'
          go_simp
          with_reducible rfl
        rotate_left
        · simp only [Act.put, List.setIfInBounds_toArray, List.set_cons_zero, List.set_cons_succ, i64_w, i32_w]
          rfl
        refine done_ (by kernel_rfl) ?_
        go_wp2
        go_roundw
        case rel => exact ⟨i + 1, r, by omega, by simp, by rw [← er, wrap_small hb0 hb1], hr, HN, ⟨HW.out.drew⟩⟩
        case measure => simp [intOf]; omega
      · have hie : i = a.length := by omega
        subst hie
        have HF := Aside0.mk (show acc = 0 ↔ a = b by
          rw [HI.out]
          constructor
          · rintro ⟨h1, h2⟩
            have h3 : a.take a.length = b.take a.length := by simpa [h1] using h2
            rw [List.take_length, h1, List.take_length] at h3
            exact h3
          · rintro rfl; exact ⟨rfl, rfl⟩)
        go_wp2
        go_ret
        refine ⟨?_, HW.out⟩
        have hd : ((acc : Int) == 0) = decide (a = b) := by
          rw [Bool.eq_iff_iff, beq_iff_eq, decide_eq_true_iff, ← HF.out]
          omega
        rw [hd]
        rfl
end Go.Proofs.Ytjlnbklendkflaa
