/- Keys stand in one order: by tenants, then by series (of at most 600 bytes together; of more the statement says that the chapter's example holds). No condition. -/
import Derived.Test.YtafcogdplhljmaaHNameOrdersx3
namespace Go.Proofs.Ytafcogdplhljmaa.Pure
open Go.RowKit Go.Proofs.Ytafcogdplhljmaa.HNameOrders Go.Proofs.YtafcogdplhljmaaW.PrintWords Go.Proofs.YtafcogdplhljmaaW.PrintLast Go.Proofs.YtafcogdplhljmaaW.PrintMore

namespace NameOrdersPure
open Lib (compareBytes)

theorem u8_eq {a b : UInt8} (h1 : ¬ a < b) (h2 : ¬ b < a) : a = b := by
  rw [UInt8.lt_iff_toNat_lt] at h1 h2
  rw [← UInt8.toNat_inj]
  omega
theorem cb_tri : ∀ x y, compareBytes x y = -1 ∨ compareBytes x y = 0 ∨ compareBytes x y = 1
  | [], [] => by simp [compareBytes]
  | [], _ :: _ => by simp [compareBytes]
  | _ :: _, [] => by simp [compareBytes]
  | a :: x, b :: y => by
    simp only [compareBytes]
    split
    · exact .inl rfl
    · split
      · exact .inr (.inr rfl)
      · exact cb_tri x y
theorem cb_sym : ∀ x y, compareBytes y x = - compareBytes x y
  | [], [] => by simp [compareBytes]
  | [], _ :: _ => by simp [compareBytes]
  | _ :: _, [] => by simp [compareBytes]
  | a :: x, b :: y => by
    simp only [compareBytes]
    by_cases h1 : a < b
    · have h2 : ¬ b < a := by rw [UInt8.lt_iff_toNat_lt] at *; omega
      rw [if_pos h1, if_neg h2, if_pos h1]; rfl
    · by_cases h2 : b < a
      · rw [if_pos h2, if_neg h1, if_pos h2]
      · rw [if_neg h1, if_neg h2, if_neg h2, if_neg h1]
        exact cb_sym x y
theorem cb_self : ∀ x, compareBytes x x = 0
  | [] => rfl
  | a :: x => by
    simp only [compareBytes]
    have h : ¬ a < a := by rw [UInt8.lt_iff_toNat_lt]; omega
    rw [if_neg h, if_neg h]
    exact cb_self x
theorem cb_zero : ∀ x y, compareBytes x y = 0 → x = y
  | [], [], _ => rfl
  | [], _ :: _, h => by simp [compareBytes] at h
  | _ :: _, [], h => by simp [compareBytes] at h
  | a :: x, b :: y, h => by
    simp only [compareBytes] at h
    by_cases h1 : a < b
    · rw [if_pos h1] at h; cases h
    · by_cases h2 : b < a
      · rw [if_neg h1, if_pos h2] at h; cases h
      · rw [if_neg h1, if_neg h2] at h
        rw [u8_eq h1 h2, cb_zero x y h]
theorem cb_less_iff : ∀ x y, Op.bytesLess x y = true ↔ compareBytes x y < 0
  | [], [] => by simp [compareBytes, Op.bytesLess]
  | [], _ :: _ => by simp [compareBytes, Op.bytesLess]
  | _ :: _, [] => by simp [compareBytes, Op.bytesLess]
  | a :: x, b :: y => by
    have e : compareBytes (a :: x) (b :: y) = if a < b then -1 else if b < a then 1 else compareBytes x y := rfl
    have e' : Op.bytesLess (a :: x) (b :: y) = (decide (a < b) || (a == b && Op.bytesLess x y)) := rfl
    rw [e, e']
    have ih := cb_less_iff x y
    by_cases h1 : a < b
    · rw [if_pos h1, decide_eq_true h1]; simp
    · rw [if_neg h1, decide_eq_false h1]
      by_cases h2 : b < a
      · have h3 : ¬ a = b := by
          intro e
          subst e
          exact h1 h2
        rw [if_pos h2]; simp [h3]
      · rw [if_neg h2, ← ih]; simp [u8_eq h1 h2]
theorem cb_less (x y : List UInt8) : Op.bytesLess x y = decide (compareBytes x y < 0) := by
  rw [Bool.eq_iff_iff, cb_less_iff, decide_eq_true_eq]
theorem cb_trans : ∀ x y z, compareBytes x y ≤ 0 → compareBytes y z ≤ 0 → compareBytes x z ≤ 0
  | [], _, [], _, _ => by simp [compareBytes]
  | [], _, _ :: _, _, _ => by simp [compareBytes]
  | _ :: _, [], _, h, _ => by simp [compareBytes] at h
  | _ :: _, _ :: _, [], _, h => by simp [compareBytes] at h
  | a :: x, b :: y, c :: z, h, h' => by
    simp only [compareBytes] at h h' ⊢
    by_cases h1 : a < b
    · by_cases h3 : b < c
      · have h5 : a < c := by rw [UInt8.lt_iff_toNat_lt] at *; omega
        rw [if_pos h5]; decide
      · by_cases h4 : c < b
        · rw [if_neg h3, if_pos h4] at h'; exact absurd h' (by decide)
        · have := u8_eq h3 h4
          subst this
          rw [if_pos h1]; decide
    · by_cases h2 : b < a
      · rw [if_neg h1, if_pos h2] at h; exact absurd h (by decide)
      · have := u8_eq h1 h2
        subst this
        rw [if_neg h1, if_neg h2] at h
        by_cases h3 : a < c
        · rw [if_pos h3]; decide
        · by_cases h4 : c < a
          · rw [if_neg h3, if_pos h4] at h'; exact absurd h' (by decide)
          · rw [if_neg h3, if_neg h4] at h' ⊢
            exact cb_trans x y z h h'

abbrev K (s : ByteArray) : List UInt8 := s.data.toList
def lessV (a0 a1 b0 b1 : ByteArray) : Int := if compareBytes (K a0) (K b0) = 0 then compareBytes (K a1) (K b1) else compareBytes (K a0) (K b0)

theorem rd0 (p q : Int) : rd [p, q] 0 = p := rfl
theorem rd1 (p q : Int) : rd [p, q] 1 = q := rfl
theorem or_is (p q : Int) (k : Nat) : cmp_Or_int.f (k + 3) [p, q] = some (if p = 0 then q else p) := by
  unfold cmp_Or_int.f
  have w1 : wrap64 1 = 1 := by unfold wrap64; omega
  have w2 : wrap64 2 = 2 := by unfold wrap64; omega
  by_cases h : p = 0
  · by_cases h' : q = 0
    · simp [cmp_Or_int.l0, w1, w2, rd0, rd1, h, h']
    · simp [cmp_Or_int.l0, w1, rd0, rd1, h, h']
  · simp [cmp_Or_int.l0, rd0, h]
theorem less_is (a0 a1 b0 b1 : ByteArray) (k : Nat) : name_Less.f (k + 3) a0 a1 b0 b1 = some (lessV a0 a1 b0 b1) := by
  unfold name_Less.f strings_Compare.f lessV
  simp only [Option.bind_some]
  rw [or_is]
  rfl
theorem lv_tri (a0 a1 b0 b1 : ByteArray) : lessV a0 a1 b0 b1 = -1 ∨ lessV a0 a1 b0 b1 = 0 ∨ lessV a0 a1 b0 b1 = 1 := by
  unfold lessV
  split
  · exact cb_tri _ _
  · exact cb_tri _ _
theorem lv_sym (a0 a1 b0 b1 : ByteArray) : lessV b0 b1 a0 a1 = - lessV a0 a1 b0 b1 := by
  unfold lessV
  rw [cb_sym (K a0) (K b0), cb_sym (K a1) (K b1)]
  by_cases h : compareBytes (K a0) (K b0) = 0
  · rw [if_pos (by omega), if_pos h]
  · rw [if_neg (by omega), if_neg h]
theorem lv_trans (a0 a1 b0 b1 c0 c1 : ByteArray) (h : lessV a0 a1 b0 b1 ≤ 0) (h' : lessV b0 b1 c0 c1 ≤ 0) : lessV a0 a1 c0 c1 ≤ 0 := by
  unfold lessV at *
  by_cases e1 : compareBytes (K a0) (K b0) = 0
  · rw [if_pos e1] at h
    have := cb_zero _ _ e1
    rw [this]
    by_cases e2 : compareBytes (K b0) (K c0) = 0
    · rw [if_pos e2] at h' ⊢
      exact cb_trans _ _ _ h h'
    · rw [if_neg e2] at h' ⊢
      exact h'
  · rw [if_neg e1] at h
    by_cases e2 : compareBytes (K b0) (K c0) = 0
    · have := cb_zero _ _ e2
      rw [← this, if_neg e1]
      exact h
    · rw [if_neg e2] at h'
      have ht := cb_trans _ _ _ h h'
      have hne : compareBytes (K a0) (K c0) ≠ 0 := by
        intro e3
        have := cb_zero _ _ e3
        rw [← this, cb_sym (K a0) (K b0)] at h'
        omega
      rw [if_neg hne]
      exact ht
theorem j2_is (a0 a1 b0 b1 c0 c1 : ByteArray) (n : Int) (hn : n = lessV a0 a1 b0 b1) (k : Nat) : catacomblaw12_NameOrders.j2 (k + 4) n a0 a1 b0 b1 c0 c1 = some true := by
  simp only [catacomblaw12_NameOrders.j2]
  rw [less_is, less_is, less_is, less_is]
  simp only [Option.bind_some]
  have hw : wrap64 (-n) = -n := by
    have := lv_tri a0 a1 b0 b1
    unfold wrap64
    omega
  rw [hw, if_pos hn.symm, if_pos (by rw [lv_sym, hn])]
  by_cases h1 : lessV a0 a1 b0 b1 > 0
  · rw [if_pos h1]
  · rw [if_neg h1]
    by_cases h2 : lessV b0 b1 c0 c1 > 0
    · rw [if_pos h2]
    · rw [if_neg h2, decide_eq_true (lv_trans a0 a1 b0 b1 c0 c1 (by omega) (by omega))]

theorem lives_is : catacomblaw12_lives.f 40 = some true := by decide +kernel
theorem lives_ok (k : Nat) (hk : 40 ≤ k) : catacomblaw12_lives.f k = some true := at_rounds catacomblaw12_lives.mono hk lives_is

theorem toL (s : ByteArray) : s.toList = K s := Go.ByteArray.toList_eq s

theorem j1t (a0 a1 b0 b1 c0 c1 : ByteArray) (k : Nat) (h : lessV a0 a1 b0 b1 = -1) : catacomblaw12_NameOrders.j1 (k + 5) 0 true a0 a1 b0 b1 c0 c1 = some true := by
  simp only [catacomblaw12_NameOrders.j1]
  rw [if_pos trivial]
  exact j2_is a0 a1 b0 b1 c0 c1 (-1) h.symm k
theorem j1f (a0 a1 b0 b1 c0 c1 : ByteArray) (k : Nat) (h : lessV a0 a1 b0 b1 ≠ -1) : catacomblaw12_NameOrders.j1 (k + 5) 0 false a0 a1 b0 b1 c0 c1 = some true := by
  simp only [catacomblaw12_NameOrders.j1]
  rw [if_neg (by simp), toL, toL, toL, toL]
  have tl := lv_tri a0 a1 b0 b1
  by_cases e : K a0 = K b0 ∧ K a1 = K b1
  · rw [if_neg (by simp [e.1, e.2])]
    refine j2_is a0 a1 b0 b1 c0 c1 0 ?_ k
    unfold lessV
    rw [e.1, e.2, cb_self, cb_self]
    rfl
  · have hne : lessV a0 a1 b0 b1 ≠ 0 := by
      intro h0
      apply e
      unfold lessV at h0
      by_cases e1 : compareBytes (K a0) (K b0) = 0
      · rw [if_pos e1] at h0
        exact ⟨cb_zero _ _ e1, cb_zero _ _ h0⟩
      · rw [if_neg e1] at h0
        exact absurd h0 e1
    have hb : (!(K a0 == K b0) || !(K a1 == K b1)) = true := by
      rw [Bool.or_eq_true, Bool.not_eq_true', Bool.not_eq_true', beq_eq_false_iff_ne, beq_eq_false_iff_ne]
      by_cases e1 : K a0 = K b0
      · exact .inr (fun h => e ⟨e1, h⟩)
      · exact .inl e1
    rw [if_pos hb]
    exact j2_is a0 a1 b0 b1 c0 c1 1 (by omega) k
theorem j0_is (a0 a1 b0 b1 c0 c1 : ByteArray) (long : Bool) (k : Nat) (hk : 40 ≤ k) : catacomblaw12_NameOrders.j0 (k + 6) long a0 a1 b0 b1 c0 c1 = some true := by
  simp only [catacomblaw12_NameOrders.j0]
  cases long with
  | true => rw [if_pos rfl, lives_ok _ (by omega)]; rfl
  | false =>
    rw [if_neg (by simp), toL, toL, toL, toL, cb_less, cb_less]
    have tr0 := cb_tri (K a0) (K b0)
    have tr1 := cb_tri (K a1) (K b1)
    by_cases h1 : compareBytes (K a0) (K b0) < 0
    · rw [if_pos (decide_eq_true h1)]
      refine j1t _ _ _ _ _ _ k ?_
      unfold lessV
      rw [if_neg (by omega)]
      omega
    · rw [if_neg (by simpa using h1)]
      by_cases h2 : K a0 = K b0
      · rw [if_pos h2]
        have e0 : lessV a0 a1 b0 b1 = compareBytes (K a1) (K b1) := by
          unfold lessV
          rw [h2, cb_self, if_pos rfl]
        by_cases h3 : compareBytes (K a1) (K b1) < 0
        · rw [decide_eq_true h3]
          exact j1t _ _ _ _ _ _ k (by rw [e0]; omega)
        · rw [decide_eq_false h3]
          exact j1f _ _ _ _ _ _ k (by rw [e0]; omega)
      · rw [if_neg h2]
        refine j1f _ _ _ _ _ _ k ?_
        unfold lessV
        have hne : compareBytes (K a0) (K b0) ≠ 0 := fun h => h2 (cb_zero _ _ h)
        rw [if_neg hne]
        omega
theorem bind_true {g : Bool → Option Bool} {o : Option Bool} (h : o = some true) (h' : g true = some true) : o.bind g = some true := by rw [h]; exact h'
theorem f_is (k : Nat) (a0 a1 b0 b1 c0 c1 : ByteArray) : ∃ long : Bool, catacomblaw12_NameOrders.f k a0 a1 b0 b1 c0 c1 = (catacomblaw12_lives.f k).bind fun t126 => (if t126 = true then (catacomblaw12_NameOrders.j0 k long a0 a1 b0 b1 c0 c1) else (catacomblaw12_NameOrders.j0 k true a0 a1 b0 b1 c0 c1)) := ⟨_, rfl⟩
theorem law (a0 a1 b0 b1 c0 c1 : ByteArray) (k : Nat) (hk : 40 ≤ k) : catacomblaw12_NameOrders.f (k + 6) a0 a1 b0 b1 c0 c1 = some true := by
  obtain ⟨long, e⟩ := f_is (k + 6) a0 a1 b0 b1 c0 c1
  rw [e]
  refine bind_true (lives_ok (k + 6) (by omega)) ?_
  rw [if_pos rfl]
  exact j0_is a0 a1 b0 b1 c0 c1 long k hk

end NameOrdersPure

theorem NameOrdersWalk.walk (a0_0 a0_1 a1_0 a1_1 a2_0 a2_1 : ByteArray) (W : World) (_ : a0_0.size ≤ maxLen) (_ : a0_1.size ≤ maxLen) (_ : a1_0.size ≤ maxLen) (_ : a1_1.size ≤ maxLen) (_ : a2_0.size ≤ maxLen) (_ : a2_1.size ≤ maxLen) :
    Calls Try.prog 5 #[.agg #[.string a0_0, .string a0_1], .agg #[.string a1_0, .string a1_1], .agg #[.string a2_0, .string a2_1]] W fun e w' => e = .returned (.bool true) ∧ Below W.heap.size W w' :=
  catacomblaw12_NameOrders.calls _ a0_0 a0_1 a1_0 a1_1 a2_0 a2_1 true W (NameOrdersPure.law _ _ _ _ _ _ 40 (Nat.le_refl _))

end Go.Proofs.Ytafcogdplhljmaa.Pure
