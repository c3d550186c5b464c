/- The law BitsParts: a number's high bits, then its low ones: walked over the contracts of Writer. -/
import Derived.Test.YtfanomllfgoakaaLaws1
import Derived.Deep.RegionWith
set_option linter.unusedVariables false
set_option linter.unusedSimpArgs false
namespace Go.Proofs.Ytfanomllfgoakaa
open Go.RowKit Go.Proofs.YtfanomllfgoakaaW.PrintWords Go.Proofs.YtfanomllfgoakaaW.PrintLast Go.Proofs.YtfanomllfgoakaaW.PrintMore
open Go.Proofs.Ytfanomllfgoakaa.BitsMath Go.Proofs.Ytfanomllfgoakaa.ChunkMath

theorem and_u64_nat (a b : Nat) (ha : a < 18446744073709551616) (hb : b < 18446744073709551616) : Go.bits .and .u64 (a : Int) (b : Int) = ((a &&& b : Nat) : Int) := by
  have hx : a &&& b < 2 ^ 64 := Nat.and_lt_two_pow _ (by omega)
  show IntKind.u64.wrap ((BitVec.ofInt 64 (a : Int) &&& BitVec.ofInt 64 (b : Int)).toNat : Int) = _
  rw [BitVec.toNat_and, BitVec.ofInt_natCast, BitVec.ofInt_natCast, BitVec.toNat_ofNat, BitVec.toNat_ofNat, Nat.mod_eq_of_lt (by omega), Nat.mod_eq_of_lt (by omega), IntKind.wrap_u64]
  omega
theorem bits_u64_range (op : BinOp) (a b : Int) (h : op = .and ∨ op = .or) : 0 ≤ Go.bits op .u64 a b ∧ Go.bits op .u64 a b < 18446744073709551616 := by
  rcases h with rfl | rfl
  · show 0 ≤ IntKind.u64.wrap _ ∧ IntKind.u64.wrap _ < _
    rw [IntKind.wrap_u64]; omega
  · show 0 ≤ IntKind.u64.wrap _ ∧ IntKind.u64.wrap _ < _
    rw [IntKind.wrap_u64]; omega
theorem pow64 : (2 : Int) ^ (64 : Int).toNat = 18446744073709551616 := by simp
theorem lt_pow64 {y : Int} (h : y < 18446744073709551616) : y < 2 ^ (64 : Int).toNat := by rw [pow64]; exact h
theorem lt_pow_of {s y : Int} (h : s = 64) (hy : y < 18446744073709551616) : y < 2 ^ s.toNat := by rw [h]; exact lt_pow64 hy
theorem mask_u64 (x s : Int) (hx0 : 0 ≤ x) (hx1 : x < 18446744073709551616) (hs0 : 0 ≤ s) (hs1 : s ≤ 64) :
    Go.bits .and .u64 x (IntKind.u64.wrap (IntKind.u64.wrap (2 ^ s.toNat) - 1)) = x % 2 ^ s.toNat := by
  obtain ⟨n, rfl⟩ := Int.eq_ofNat_of_zero_le hx0
  have hp : (2 : Nat) ^ s.toNat ≤ 2 ^ 64 := Nat.pow_le_pow_right (by decide) (by omega)
  have hp1 : 1 ≤ (2 : Nat) ^ s.toNat := Nat.pow_pos (by decide)
  have e : IntKind.u64.wrap (IntKind.u64.wrap (2 ^ s.toNat) - 1) = ((2 ^ s.toNat - 1 : Nat) : Int) := by
    have e0 : (2 : Int) ^ s.toNat = ((2 ^ s.toNat : Nat) : Int) := by simp
    rw [e0, IntKind.wrap_u64, IntKind.wrap_u64]
    omega
  rw [e, and_u64_nat _ _ (by omega) (by omega), Nat.and_two_pow_sub_one_eq_mod]
  simp
theorem IsW.drew {bs : List Bool} {q : Nat} {w : World} (h : IsW q bs w) : IsW q bs w.drew := h
theorem below_drew0 {B : Nat} {w w1 : World} (h : Below B w.drew w1) : Below B w w1 := ⟨h.os, h.tape, h.output, h.size, h.block⟩
theorem row_below {w w1 : World} {base n : Nat} {v : Value} {e : TypeId} {size : Nat} {xs : List Value} (k : Below w.heap.size w w1) (h : w.ownsRow base e size v n xs) : w1.ownsRow base e size v n xs :=
  (Keep.of_below k).row h fun g hg hc => by have := (h.lt g hg).2; omega
section
variable {P : Program} {ops : Array Oper} {Q : Exit → Act → World → Prop} {md : Region.Mode} {S S' : World → Prop}
theorem raise0 (hs : ∀ w, S' w → S w) : ∀ (fuel : Nat) (l : Array Bool) (a : Act) (w : World), S' w → wpAnyLast P md ops Q S' [] fuel l a w → wpAnyLast P md ops Q S [] fuel l a w
  | 0, _, _, _, _, h => h
  | fuel + 1, l, a, w, h0, h => ⟨h.1, fun i hi => wpOp_mono (fun a' w' hh => ⟨fun hn _ => hs w' (hh.1 hn h0), raise0 hs fuel _ a' w' (hh.1 (by simp) h0) hh.2⟩) (h.2 i hi)⟩
/-- From here on S' is known. -/
theorem raise_ {fuel : Nat} {l : Array Bool} {a : Act} {w : World} (hs : ∀ w, S' w → S w) (h0 : S' w) (h : S' w → wpAnyLast P md ops Q S' [] fuel l a w) : wpAnyLast P md ops Q S [] fuel l a w :=
  raise0 hs fuel l a w h0 (h h0)
end
theorem same_bytes {bs : List Bool} {q : Nat} {w w1 : World} (k : Below w.heap.size w w1) (h : IsW q bs w) : IsW q bs w1 :=
  (h.kept (Keep.of_below k) fun i hi => by have := h.foot_lt hi; omega).1

/-- The number is cut to its bits. -/
theorem parts_rest (X H L : Int) (hX0 : 0 ≤ X) (hX1 : X < 18446744073709551616) (hX : X < 2 ^ (H + L).toNat) (hH0 : 0 ≤ H) (hH1 : H ≤ 32) (hL0 : 0 ≤ L) (hL1 : L ≤ 32) :
    bitsOf X.toNat (H + L).toNat = bitsOf (X / 2 ^ L.toNat).toNat H.toNat ++ bitsOf (X % 2 ^ L.toNat).toNat L.toNat ∧ 0 ≤ X / 2 ^ L.toNat ∧ X / 2 ^ L.toNat < 18446744073709551616 ∧ X / 2 ^ L.toNat < 2 ^ H.toNat ∧ 0 ≤ X % 2 ^ L.toNat ∧ X % 2 ^ L.toNat < 18446744073709551616 ∧ X % 2 ^ L.toNat < 2 ^ L.toNat := by
  obtain ⟨n, rfl⟩ := Int.eq_ofNat_of_zero_le hX0
  have e1 : ((n : Int) / 2 ^ L.toNat) = ((n / 2 ^ L.toNat : Nat) : Int) := by simp
  have e2 : ((n : Int) % 2 ^ L.toNat) = ((n % 2 ^ L.toNat : Nat) : Int) := by simp
  have e3 : (H + L).toNat = H.toNat + L.toNat := by omega
  have hn : n < 2 ^ (H.toNat + L.toNat) := by
    rw [e3] at hX
    have e5 : ((2 ^ (H.toNat + L.toNat) : Nat) : Int) = 2 ^ (H.toNat + L.toNat) := by simp
    rw [← e5] at hX
    exact Int.ofNat_lt.1 hX
  have d1 : n / 2 ^ L.toNat < 2 ^ H.toNat := by
    rw [Nat.div_lt_iff_lt_mul (Nat.pow_pos (by decide)), ← Nat.pow_add]
    exact hn
  have d2 : n % 2 ^ L.toNat < 2 ^ L.toNat := Nat.mod_lt _ (Nat.pow_pos (by decide))
  have d3 := Nat.div_le_self n (2 ^ L.toNat)
  have d4 := Nat.mod_le n (2 ^ L.toNat)
  rw [e1, e2, e3]
  refine ⟨by simp only [Int.toNat_natCast]; exact bitsOf_add L.toNat H.toNat n, Int.natCast_nonneg _, by omega, ?_, Int.natCast_nonneg _, by omega, ?_⟩
  · have : ((n / 2 ^ L.toNat : Nat) : Int) < ((2 ^ H.toNat : Nat) : Int) := by omega
    simpa using this
  · have : ((n % 2 ^ L.toNat : Nat) : Int) < ((2 ^ L.toNat : Nat) : Int) := by omega
    simpa using this

theorem foot_new2 {w1 : World} : ∀ i, WFoot w1.heap.size ((w1.alloc (.cells #[.slice none 0 0, .int .i64 0] 27)).alloc (.cells #[.slice none 0 0, .int .i64 0] 27)) i → i = w1.heap.size := by
  intro i h
  have k : Keep (fun _ => False) (w1.alloc (.cells #[.slice none 0 0, .int .i64 0] 27)) ((w1.alloc (.cells #[.slice none 0 0, .int .i64 0] 27)).alloc (.cells #[.slice none 0 0, .int .i64 0] 27)) := (Keep.refl _ _).alloc _
  exact WFoot.new w1 i ((((IsW.new w1).kept k fun _ _ h => h).2 i).1 h)
theorem is_new2 {w1 : World} : IsW w1.heap.size [] ((w1.alloc (.cells #[.slice none 0 0, .int .i64 0] 27)).alloc (.cells #[.slice none 0 0, .int .i64 0] 27)) := by
  have k : Keep (fun _ => False) (w1.alloc (.cells #[.slice none 0 0, .int .i64 0] 27)) ((w1.alloc (.cells #[.slice none 0 0, .int .i64 0] 27)).alloc (.cells #[.slice none 0 0, .int .i64 0] 27)) := (Keep.refl _ _).alloc _
  exact ((IsW.new w1).kept k fun _ _ h => h).1
theorem is_new3 {w1 : World} : IsW (w1.heap.size + 1) [] ((w1.alloc (.cells #[.slice none 0 0, .int .i64 0] 27)).alloc (.cells #[.slice none 0 0, .int .i64 0] 27)) := by
  have := IsW.new (w1.alloc (.cells #[.slice none 0 0, .int .i64 0] 27))
  simpa using this
theorem foot_new3 {w1 : World} : ∀ i, WFoot (w1.heap.size + 1) ((w1.alloc (.cells #[.slice none 0 0, .int .i64 0] 27)).alloc (.cells #[.slice none 0 0, .int .i64 0] 27)) i → i = w1.heap.size + 1 := by
  intro i h
  have := WFoot.new (w1.alloc (.cells #[.slice none 0 0, .int .i64 0] 27)) i (by simpa using h)
  simpa using this

set_option maxHeartbeats 1000000 in
theorem parts_calls (x hi lo : Int) (w : World) (hx0 : 0 ≤ x) (hx1 : x < 18446744073709551616) (hh0 : 0 ≤ hi) (hh1 : hi ≤ 255) (hl0 : 0 ≤ lo) (hl1 : lo ≤ 255) :
    Calls Try.prog 3 #[.int .u64 x, .int .u8 hi, .int .u8 lo] w fun e w' => e = .returned (.bool true) ∧ Below w.heap.size w w' := by
  go_enter Try.func3, Try.ntmps3
  go_wp2_with fail
  refine (lives_calls _).mono ?_
  rintro e w1 ⟨rfl, hb⟩
  have HB := Aside0.mk hb
  clear hb
  have hH0 : 0 ≤ hi % 33 := by omega
  have hH1 : hi % 33 ≤ 32 := by omega
  have hL0 : 0 ≤ lo % 33 := by omega
  have hL1 : lo % 33 ≤ 32 := by omega
  have hmask := mask_u64 x (hi % 33 + lo % 33) hx0 hx1 (by omega) (by omega)
  have hpos : (0 : Int) < 2 ^ (hi % 33 + lo % 33).toNat := Int.pow_pos (by decide)
  by_cases h64 : hi % 33 + lo % 33 = 64
  case' pos =>
    have d : (hi % 33 + lo % 33 == 64) = true := by simp [h64]
    have HX := Aside0.mk (bits_u64_range .or (Go.bits .and .u64 x (IntKind.u64.wrap (IntKind.u64.wrap (2 ^ (hi % 33 + lo % 33).toNat) - 1))) 9223372036854775808 (.inr rfl))
    have HX2 := Aside0.mk (show Go.bits .or .u64 (Go.bits .and .u64 x (IntKind.u64.wrap (IntKind.u64.wrap (2 ^ (hi % 33 + lo % 33).toNat) - 1))) 9223372036854775808 < 2 ^ (hi % 33 + lo % 33).toNat from lt_pow_of h64 HX.out.2)
    clear h64 hmask hpos
    go_wp2_with fail
    generalize Go.bits .or .u64 (Go.bits .and .u64 x (IntKind.u64.wrap (IntKind.u64.wrap (2 ^ (hi % 33 + lo % 33).toNat) - 1))) 9223372036854775808 = X at HX HX2 ⊢
  case' neg =>
    have d : (hi % 33 + lo % 33 == 64) = false := by simp [h64]
    have HX := Aside0.mk (bits_u64_range .and x (IntKind.u64.wrap (IntKind.u64.wrap (2 ^ (hi % 33 + lo % 33).toNat) - 1)) (.inl rfl))
    have HX2 := Aside0.mk (show Go.bits .and .u64 x (IntKind.u64.wrap (IntKind.u64.wrap (2 ^ (hi % 33 + lo % 33).toNat) - 1)) < 2 ^ (hi % 33 + lo % 33).toNat by rw [hmask]; exact Int.emod_lt_of_pos _ hpos)
    clear h64 hmask hpos
    go_wp2_with fail
    generalize Go.bits .and .u64 x (IntKind.u64.wrap (IntKind.u64.wrap (2 ^ (hi % 33 + lo % 33).toNat) - 1)) = X at HX HX2 ⊢
  all_goals
    clear d
    generalize hi % 33 = H at *
    generalize lo % 33 = L at *
    have HR := Aside0.mk (parts_rest X H L HX.out.1 HX.out.2 HX2.out hH0 hH1 hL0 hL1)
    have hX0 := HX.out.1
    have hX1 := HX.out.2
    refine (put_ok_i w1.heap.size [] X (H + L) _ hX0 hX1 (by omega) (by omega) HX2.out is_new2 (by decide)).mono ?_
    rintro e w2 ⟨rfl, h1⟩
    have H1 := Aside0.mk h1
    have H1b := Aside0.mk (is_new3.kept h1.keep (fun i hi hc => by have := foot_new3 i hi; have := foot_new2 i hc; omega))
    clear h1
    have q0 := HR.out.2.1
    have q1 := HR.out.2.2.1
    have hm2 := mask_u64 X L hX0 hX1 hL0 (by omega)
    go_wp2_with fail
    refine (put_ok_i (w1.heap.size + 1) [] (X / 2 ^ L.toNat) H _ q0 q1 hH0 (by omega) HR.out.2.2.2.1 H1b.out.1 (by decide)).mono ?_
    rintro e w3 ⟨rfl, h2⟩
    have H2 := Aside0.mk h2
    clear h2
    go_wp2_with fail
    refine (put_ok_i (w1.heap.size + 1) _ (X % 2 ^ L.toNat) L _ HR.out.2.2.2.2.1 HR.out.2.2.2.2.2.1 hL0 (by omega) HR.out.2.2.2.2.2.2 H2.out.is (by rw [List.nil_append, bitsOf_length]; omega)).mono ?_
    rintro e w4 ⟨rfl, h3⟩
    have H3 := Aside0.mk (H2.out.trans h3)
    clear h3 H2
    have hbs := HR.out.1
    have HA := Aside0.mk (H1.out.is.kept H3.out.keep (fun i hi hc => by
      rcases H1.out.foot i hi with h | h
      · have := foot_new2 i h
        have := foot_new3 i ((H1b.out.2 i).1 hc)
        omega
      · have := foot_new3 i ((H1b.out.2 i).1 hc)
        simp at h
        omega)).1
    have HBb := Aside0.mk H3.out.is
    rw [List.nil_append] at HA HBb
    rw [← hbs] at HBb
    have HK := Aside0.mk (show Below w1.heap.size w1 w4 from ((((Below.refl _ w1).alloc (Nat.le_refl _) _).alloc (by simp) _).trans ((H1.out.keep.to_below (fun i hi => by rw [foot_new2 i hi]; exact Nat.le_refl _) (by simp; omega)))).trans
      (H3.out.keep.to_below (fun i hi => by have := foot_new3 i ((H1b.out.2 i).1 hi); omega) (by have := H1.out.keep.size; simp at this; omega)))
    have hlen : (bitsOf X.toNat (H + L).toNat).length ≤ 1000 := by rw [bitsOf_length]; omega
    generalize bitsOf X.toNat (H + L).toNat = B at HA HBb hlen
    clear H1 H1b H3 HR hbs hm2 HX HX2 q0 q1
    go_wp2_with fail
    have hlen2 : B.length ≤ 1000000000 := by omega
    refine start_ (n := 27) (S := fun w' => True) (ds := []) #[false, false, false, false, false, false, false, false, false, false, false, false, false, false, false, false, false, false, false, false, false, false, false, false, false, false, false] (by kernel_rfl) rfl rfl trivial (fun hHeld => ?_)
    refine pure_ (i := 0) (N := some 59) (v := ?_) (a' := ?_) #[true, false, false, false, false, false, false, false, false, false, false, false, false, false, false, false, false, false, false, false, false, false, false, false, false, false, false] rfl rfl (by kernel_rfl) (fun _ _ _ h => h) (Or.inl ⟨by rfl, ?_⟩) ?_ ?_
    rotate_left
    · intro w'
      go_simp
      with_reducible rfl
    rotate_left
    · simp only [Act.put, List.setIfInBounds_toArray, List.set_cons_zero, List.set_cons_succ, i64_w, i32_w]
      rfl
    refine pure_ (i := 1) (N := some 60) (v := ?_) (a' := ?_) #[true, true, false, false, false, false, false, false, false, false, false, false, false, false, false, false, false, false, false, false, false, false, false, false, false, false, false] rfl rfl (by kernel_rfl) (fun _ _ _ h => h) (Or.inl ⟨by rfl, ?_⟩) ?_ ?_
    rotate_left
    · intro w'
      go_simp
      with_reducible rfl
    rotate_left
    · simp only [Act.put, List.setIfInBounds_toArray, List.set_cons_zero, List.set_cons_succ, i64_w, i32_w]
      rfl
    refine pure_ (i := 2) (N := some 61) (v := ?_) (a' := ?_) #[true, true, true, false, false, false, false, false, false, false, false, false, false, false, false, false, false, false, false, false, false, false, false, false, false, false, false] rfl rfl (by kernel_rfl) (fun _ _ _ h => h) (Or.inl ⟨by rfl, ?_⟩) ?_ ?_
    rotate_left
    · intro w'
      go_simp
      with_reducible rfl
    rotate_left
    · simp only [Act.put, List.setIfInBounds_toArray, List.set_cons_zero, List.set_cons_succ, i64_w, i32_w]
      rfl
    refine pure_ (i := 3) (N := some 62) (v := ?_) (a' := ?_) #[true, true, true, true, false, false, false, false, false, false, false, false, false, false, false, false, false, false, false, false, false, false, false, false, false, false, false] rfl rfl (by kernel_rfl) (fun _ _ _ h => h) (Or.inl ⟨by rfl, ?_⟩) ?_ ?_
    rotate_left
    · intro w'
      go_simp
      with_reducible rfl
    rotate_left
    · simp only [Act.put, List.setIfInBounds_toArray, List.set_cons_zero, List.set_cons_succ, i64_w, i32_w]
      rfl
    refine pure_ (i := 4) (N := some 63) (v := ?_) (a' := ?_) #[true, true, true, true, true, false, false, false, false, false, false, false, false, false, false, false, false, false, false, false, false, false, false, false, false, false, false] rfl rfl (by kernel_rfl) (fun _ _ _ h => h) (Or.inl ⟨by rfl, ?_⟩) ?_ ?_
    rotate_left
    · intro w'
      go_simp
      with_reducible rfl
    rotate_left
    · simp only [Act.put, List.setIfInBounds_toArray, List.set_cons_zero, List.set_cons_succ, i64_w, i32_w]
      rfl
    refine pure_ (i := 5) (N := some 64) (v := ?_) (a' := ?_) #[true, true, true, true, true, true, false, false, false, false, false, false, false, false, false, false, false, false, false, false, false, false, false, false, false, false, false] rfl rfl (by kernel_rfl) (fun _ _ _ h => h) (Or.inl ⟨by rfl, ?_⟩) ?_ ?_
    rotate_left
    · intro w'
      go_simp
      with_reducible rfl
    rotate_left
    · simp only [Act.put, List.setIfInBounds_toArray, List.set_cons_zero, List.set_cons_succ, i64_w, i32_w]
      rfl
    refine pure_ (i := 6) (N := some 65) (v := ?_) (a' := ?_) #[true, true, true, true, true, true, true, false, false, false, false, false, false, false, false, false, false, false, false, false, false, false, false, false, false, false, false] rfl rfl (by kernel_rfl) (fun _ _ _ h => h) (Or.inl ⟨by rfl, ?_⟩) ?_ ?_
    rotate_left
    · intro w'
      go_simp
      with_reducible rfl
    rotate_left
    · simp only [Act.put, List.setIfInBounds_toArray, List.set_cons_zero, List.set_cons_succ, i64_w, i32_w]
      rfl
    refine pure_ (i := 7) (N := some 66) (v := ?_) (a' := ?_) #[true, true, true, true, true, true, true, true, false, false, false, false, false, false, false, false, false, false, false, false, false, false, false, false, false, false, false] rfl rfl (by kernel_rfl) (fun _ _ _ h => h) (Or.inl ⟨by rfl, ?_⟩) ?_ ?_
    rotate_left
    · intro w'
      go_simp
      with_reducible rfl
    rotate_left
    · simp only [Act.put, List.setIfInBounds_toArray, List.set_cons_zero, List.set_cons_succ, i64_w, i32_w]
      rfl
    refine pure_ (i := 8) (N := some 67) (v := ?_) (a' := ?_) #[true, true, true, true, true, true, true, true, true, false, false, false, false, false, false, false, false, false, false, false, false, false, false, false, false, false, false] rfl rfl (by kernel_rfl) (fun _ _ _ h => h) (Or.inl ⟨by rfl, ?_⟩) ?_ ?_
    rotate_left
    · intro w'
      go_simp
      with_reducible rfl
    rotate_left
    · simp only [Act.put, List.setIfInBounds_toArray, List.set_cons_zero, List.set_cons_succ, i64_w, i32_w]
      rfl
    refine pure_ (i := 9) (N := some 68) (v := ?_) (a' := ?_) #[true, true, true, true, true, true, true, true, true, true, false, false, false, false, false, false, false, false, false, false, false, false, false, false, false, false, false] rfl rfl (by kernel_rfl) (fun _ _ _ h => h) (Or.inl ⟨by rfl, ?_⟩) ?_ ?_
    rotate_left
    · intro w'
      go_simp
      with_reducible rfl
    rotate_left
    · simp only [Act.put, List.setIfInBounds_toArray, List.set_cons_zero, List.set_cons_succ, i64_w, i32_w]
      rfl
    refine pure_ (i := 10) (N := some 69) (v := ?_) (a' := ?_) #[true, true, true, true, true, true, true, true, true, true, true, false, false, false, false, false, false, false, false, false, false, false, false, false, false, false, false] rfl rfl (by kernel_rfl) (fun _ _ _ h => h) (Or.inl ⟨by rfl, ?_⟩) ?_ ?_
    rotate_left
    · intro w'
      go_simp
      with_reducible rfl
    rotate_left
    · simp only [Act.put, List.setIfInBounds_toArray, List.set_cons_zero, List.set_cons_succ, i64_w, i32_w]
      rfl
    refine pure_ (i := 11) (N := some 70) (v := ?_) (a' := ?_) #[true, true, true, true, true, true, true, true, true, true, true, true, false, false, false, false, false, false, false, false, false, false, false, false, false, false, false] rfl rfl (by kernel_rfl) (fun _ _ _ h => h) (Or.inl ⟨by rfl, ?_⟩) ?_ ?_
    rotate_left
    · intro w'
      go_simp
      with_reducible rfl
    rotate_left
    · simp only [Act.put, List.setIfInBounds_toArray, List.set_cons_zero, List.set_cons_succ, i64_w, i32_w]
      rfl
    refine pure_ (i := 13) (N := some 72) (v := ?_) (a' := ?_) #[true, true, true, true, true, true, true, true, true, true, true, true, false, true, false, false, false, false, false, false, false, false, false, false, false, false, false] rfl rfl (by kernel_rfl) (fun _ _ _ h => h) (Or.inl ⟨by rfl, ?_⟩) ?_ ?_
    rotate_left
    · intro w'
      go_simp
      with_reducible rfl
    rotate_left
    · simp only [Act.put, List.setIfInBounds_toArray, List.set_cons_zero, List.set_cons_succ, i64_w, i32_w]
      rfl
    refine one_ (i := 12) (N := some 71) #[true, true, true, true, true, true, true, true, true, true, true, true, true, true, false, false, false, false, false, false, false, false, false, false, false, false, false] rfl rfl (by kernel_rfl) (by decide) (fun K hK => ?_)
    refine goes_ Try.func13 (by kernel_rfl) rfl #[.pointer (some ⟨w1.heap.size, 0, none⟩)] (by rfl) rfl rfl (by simp only [List.map_toArray, List.map_cons, List.map_nil]; rfl) ?_
    with_reducible refine (lenW_calls w1.heap.size B _ (IsW.drew HA.out)).mono ?_
    rintro e w' ⟨rfl, rfl⟩
    refine ⟨_, rfl, ?_⟩
    refine hK.out _ _ trivial (fun hHeld => ?_)
    clear hK K
    refine norm_ (a' := ?_) ?_ ?_
    rotate_left
    · show Act.put _ (some 71) _ = _
      simp only [Act.put, List.setIfInBounds_toArray, List.set_cons_zero, List.set_cons_succ, i64_w, i32_w]
      rfl
    refine one_ (i := 14) (N := some 73) #[true, true, true, true, true, true, true, true, true, true, true, true, true, true, true, false, false, false, false, false, false, false, false, false, false, false, false] rfl rfl (by kernel_rfl) (by decide) (fun K hK => ?_)
    refine goes_ Try.func13 (by kernel_rfl) rfl #[.pointer (some ⟨w1.heap.size + 1, 0, none⟩)] (by rfl) rfl rfl (by simp only [List.map_toArray, List.map_cons, List.map_nil]; rfl) ?_
    with_reducible refine (lenW_calls (w1.heap.size + 1) B _ (IsW.drew HBb.out)).mono ?_
    rintro e w' ⟨rfl, rfl⟩
    refine ⟨_, rfl, ?_⟩
    refine hK.out _ _ trivial (fun hHeld => ?_)
    clear hK K
    refine norm_ (a' := ?_) ?_ ?_
    rotate_left
    · show Act.put _ (some 73) _ = _
      simp only [Act.put, List.setIfInBounds_toArray, List.set_cons_zero, List.set_cons_succ, i64_w, i32_w]
      rfl
    refine pure_ (i := 15) (N := some 74) (v := ?_) (a' := ?_) #[true, true, true, true, true, true, true, true, true, true, true, true, true, true, true, true, false, false, false, false, false, false, false, false, false, false, false] rfl rfl (by kernel_rfl) (fun _ _ _ h => h) (Or.inl ⟨by rfl, ?_⟩) ?_ ?_
    rotate_left
    · intro w'
      go_simp
      with_reducible rfl
    rotate_left
    · simp only [Act.put, List.setIfInBounds_toArray, List.set_cons_zero, List.set_cons_succ, i64_w, i32_w]
      rfl
    refine pure_ (i := 16) (N := some 75) (v := ?_) (a' := ?_) #[true, true, true, true, true, true, true, true, true, true, true, true, true, true, true, true, true, false, false, false, false, false, false, false, false, false, false] rfl rfl (by kernel_rfl) (fun _ _ _ h => h) (Or.inl ⟨by rfl, ?_⟩) ?_ ?_
    rotate_left
    · intro w'
      go_simp
      with_reducible rfl
    rotate_left
    · simp only [Act.put, List.setIfInBounds_toArray, List.set_cons_zero, List.set_cons_succ, i64_w, i32_w]
      rfl
    refine pure_ (i := 17) (N := some 76) (v := ?_) (a' := ?_) #[true, true, true, true, true, true, true, true, true, true, true, true, true, true, true, true, true, true, false, false, false, false, false, false, false, false, false] rfl rfl (by kernel_rfl) (fun _ _ _ h => h) (Or.inl ⟨by rfl, ?_⟩) ?_ ?_
    rotate_left
    · intro w'
      go_simp
      with_reducible rfl
    rotate_left
    · simp only [Act.put, List.setIfInBounds_toArray, List.set_cons_zero, List.set_cons_succ, i64_w, i32_w]
      rfl
    refine pure_ (i := 18) (N := some 77) (v := ?_) (a' := ?_) #[true, true, true, true, true, true, true, true, true, true, true, true, true, true, true, true, true, true, true, false, false, false, false, false, false, false, false] rfl rfl (by kernel_rfl) (fun _ _ _ h => h) (Or.inl ⟨by rfl, ?_⟩) ?_ ?_
    rotate_left
    · intro w'
      go_simp
      with_reducible rfl
    rotate_left
    · simp only [Act.put, List.setIfInBounds_toArray, List.set_cons_zero, List.set_cons_succ, i64_w, i32_w]
      rfl
    refine pure_ (i := 21) (N := some 80) (v := ?_) (a' := ?_) #[true, true, true, true, true, true, true, true, true, true, true, true, true, true, true, true, true, true, true, false, false, true, false, false, false, false, false] rfl rfl (by kernel_rfl) (fun _ _ _ h => h) (Or.inl ⟨by rfl, ?_⟩) ?_ ?_
    rotate_left
    · intro w'
      go_simp
      with_reducible rfl
    rotate_left
    · simp only [Act.put, List.setIfInBounds_toArray, List.set_cons_zero, List.set_cons_succ, i64_w, i32_w]
      rfl
    refine one_ (i := 19) (N := some 78) #[true, true, true, true, true, true, true, true, true, true, true, true, true, true, true, true, true, true, true, true, false, true, false, false, false, false, false] rfl rfl (by kernel_rfl) (by decide) (fun K hK => ?_)
    refine goes_ Try.func14 (by kernel_rfl) rfl #[.pointer (some ⟨w1.heap.size, 0, none⟩)] (by rfl) rfl rfl (by simp only [List.map_toArray, List.map_cons, List.map_nil]; rfl) ?_
    with_reducible refine (bytesW_calls w1.heap.size B _ (IsW.drew HA.out) hlen2).mono ?_
    rintro e w5 ⟨va, rfl, hra, hba⟩
    have HBb2 := Aside0.mk (same_bytes hba (IsW.drew HBb.out))
    have HRA := Aside0.mk hra
    have HBA := Aside0.mk (below_drew0 hba)
    clear hra hba
    refine ⟨_, rfl, ?_⟩
    refine hK.out _ _ trivial (fun hHeld => ?_)
    clear hK K
    refine norm_ (a' := ?_) ?_ ?_
    rotate_left
    · show Act.put _ (some 78) _ = _
      simp only [Act.put, List.setIfInBounds_toArray, List.set_cons_zero, List.set_cons_succ, i64_w, i32_w]
      rfl
    refine raise_ (S' := fun w' => ((convert 25 9 va).run Try.prog w' = .ok (.string (strOfNums (pack B))) w')) (fun w' h => by obtain s0 := h; exact trivial) ((conv_own HRA.out)) (fun hHeld => ?_)
    refine take_ (i := 20) (N := some 79) (v := ?_) (a' := ?_) #[true, true, true, true, true, true, true, true, true, true, true, true, true, true, true, true, true, true, true, true, true, true, false, false, false, false, false] rfl rfl (by kernel_rfl) (fun _ _ _ h => h) (Or.inl ⟨by rfl, ?_⟩) hHeld ?_ ?_
    rotate_left
    · rintro w' s0
      go_simp
      with_reducible rfl
    rotate_left
    · simp only [Act.put, List.setIfInBounds_toArray, List.set_cons_zero, List.set_cons_succ, i64_w, i32_w]
      rfl
    refine one_ (i := 22) (N := some 81) #[true, true, true, true, true, true, true, true, true, true, true, true, true, true, true, true, true, true, true, true, true, true, true, false, false, false, false] rfl rfl (by kernel_rfl) (by decide) (fun K hK => ?_)
    refine goes_ Try.func14 (by kernel_rfl) rfl #[.pointer (some ⟨w1.heap.size + 1, 0, none⟩)] (by rfl) rfl rfl (by simp only [List.map_toArray, List.map_cons, List.map_nil]; rfl) ?_
    with_reducible refine (bytesW_calls (w1.heap.size + 1) B _ HBb2.out hlen2).mono ?_
    rintro e w6 ⟨vb, rfl, hrb, hbb⟩
    have HRA2 := Aside0.mk (row_below hbb HRA.out)
    have HRB := Aside0.mk hrb
    have HBB := Aside0.mk hbb
    clear hrb hbb
    refine ⟨_, rfl, ?_⟩
    refine hK.out _ _ ((conv_own HRA2.out)) (fun hHeld => ?_)
    clear hK K
    refine norm_ (a' := ?_) ?_ ?_
    rotate_left
    · show Act.put _ (some 81) _ = _
      simp only [Act.put, List.setIfInBounds_toArray, List.set_cons_zero, List.set_cons_succ, i64_w, i32_w]
      rfl
    refine raise_ (S' := fun w' => ((convert 25 9 va).run Try.prog w' = .ok (.string (strOfNums (pack B))) w') ∧ ((convert 25 9 vb).run Try.prog w' = .ok (.string (strOfNums (pack B))) w')) (fun w' h => by obtain ⟨s0, s1⟩ := h; exact s0) ⟨hHeld, (conv_own HRB.out)⟩ (fun hHeld => ?_)
    refine take_ (i := 23) (N := some 82) (v := ?_) (a' := ?_) #[true, true, true, true, true, true, true, true, true, true, true, true, true, true, true, true, true, true, true, true, true, true, true, true, false, false, false] rfl rfl (by kernel_rfl) (fun _ _ _ h => h) (Or.inl ⟨by rfl, ?_⟩) hHeld ?_ ?_
    rotate_left
    · rintro w' ⟨s0, s1⟩
      go_simp
      with_reducible rfl
    rotate_left
    · simp only [Act.put, List.setIfInBounds_toArray, List.set_cons_zero, List.set_cons_succ, i64_w, i32_w]
      rfl
    refine pure_ (i := 24) (N := some 83) (v := ?_) (a' := ?_) #[true, true, true, true, true, true, true, true, true, true, true, true, true, true, true, true, true, true, true, true, true, true, true, true, true, false, false] rfl rfl (by kernel_rfl) (fun _ _ _ h => h) (Or.inl ⟨by rfl, ?_⟩) ?_ ?_
    rotate_left
    · intro w'
      go_simp
      with_reducible rfl
    rotate_left
    · simp only [Act.put, List.setIfInBounds_toArray, List.set_cons_zero, List.set_cons_succ, i64_w, i32_w]
      rfl
    refine pure_ (i := 25) (N := some 84) (v := ?_) (a' := ?_) #[true, true, true, true, true, true, true, true, true, true, true, true, true, true, true, true, true, true, true, true, true, true, true, true, true, true, false] rfl rfl (by kernel_rfl) (fun _ _ _ h => h) (Or.inl ⟨by rfl, ?_⟩) ?_ ?_
    rotate_left
    · intro w'
      go_simp
      with_reducible rfl
    rotate_left
    · simp only [Act.put, List.setIfInBounds_toArray, List.set_cons_zero, List.set_cons_succ, i64_w, i32_w]
      rfl
    refine pure_ (i := 26) (N := some 6) (v := ?_) (a' := ?_) #[true, true, true, true, true, true, true, true, true, true, true, true, true, true, true, true, true, true, true, true, true, true, true, true, true, true, true] rfl rfl (by kernel_rfl) (fun _ _ _ h => h) (Or.inl ⟨by rfl, ?_⟩) ?_ ?_
    rotate_left
    · intro w'
      go_simp
      with_reducible rfl
    rotate_left
    · simp only [Act.put, List.setIfInBounds_toArray, List.set_cons_zero, List.set_cons_succ, i64_w, i32_w]
      rfl
    refine done_ (by kernel_rfl) ?_
    go_wp2
    go_ret
    exact ⟨by simp, ((HB.out.trans (HK.out.mono HB.out.size)).trans (HBA.out.mono (Nat.le_trans HB.out.size HK.out.size))).trans (HBB.out.mono (Nat.le_trans (Nat.le_trans HB.out.size HK.out.size) HBA.out.size))⟩
theorem wf_u64 {n : Int} (h : (Lit.int .u64 n).wf = true) : 0 ≤ n ∧ n < 18446744073709551616 := by
  simp [Lit.wf, IntKind.min, IntKind.max, IntKind.bits, IntKind.signed] at h
  omega
theorem wf_u8 {n : Int} (h : (Lit.int .u8 n).wf = true) : 0 ≤ n ∧ n ≤ 255 := by
  simp [Lit.wf, IntKind.min, IntKind.max, IntKind.bits, IntKind.signed] at h
  omega
theorem wf_i64 {n : Int} (h : (Lit.int .i64 n).wf = true) : -9223372036854775808 ≤ n ∧ n ≤ 9223372036854775807 := by
  simp [Lit.wf, IntKind.min, IntKind.max, IntKind.bits, IntKind.signed] at h
  omega
theorem bitsParts_walk (x h l : Int) (w : World) (hx : (Lit.int .u64 x).wf = true) (hh : (Lit.int .u8 h).wf = true) (hl : (Lit.int .u8 l).wf = true) :
    Calls Try.prog 3 #[.int .u64 x, .int .u8 h, .int .u8 l] w fun e w' => e = .returned (.bool true) ∧ Below w.heap.size w w' :=
  parts_calls x h l w (wf_u64 hx).1 (wf_u64 hx).2 (wf_u8 hh).1 (wf_u8 hh).2 (wf_u8 hl).1 (wf_u8 hl).2
end Go.Proofs.Ytfanomllfgoakaa
