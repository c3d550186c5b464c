/- Of any text of at most 100 bytes, name.Right tells the same as the reference's Right; of a longer one the statement says that the example of the chapter holds. No condition. -/
import Derived.Test.YtafcogdplhljmaaPNameRightx2
namespace Go.Proofs.Ytafcogdplhljmaa.Pure
open Go.RowKit Go.Proofs.Ytafcogdplhljmaa.PNameRight Go.Proofs.YtafcogdplhljmaaW.PrintWords Go.Proofs.YtafcogdplhljmaaW.PrintLast

namespace NameRightPure

def letB (c : Int) : Bool := decide (97 ≤ c) && decide (c ≤ 122)
def sgB (c : Int) : Bool := letB c || (decide (48 ≤ c) && decide (c ≤ 57)) || c == 45
/-- From place i on, d bytes: all may stand in a name. -/
def allS (s : ByteArray) : Nat → Int → Bool
  | 0, _ => true
  | d + 1, i => sgB (bt s i) && allS s d (i + 1)

theorem wrap_up {i : Int} {n : Nat} (h0 : 0 ≤ i) (h : i < (n : Int)) (hn : n ≤ 140737488351232) : wrap64 (i + 1) = i + 1 := by
  unfold wrap64
  omega

theorem letter_is (c : Int) : name_letter.f c = some (letB c) := by
  unfold name_letter.f letB
  by_cases h : c ≥ 97
  · rw [if_pos h]; simp [h]
  · rw [if_neg h]; simp; omega

theorem sign_is (c : Int) : name_sign.f c = some (sgB c) := by
  unfold name_sign.f
  rw [letter_is]
  simp only [Option.bind_some]
  unfold sgB
  by_cases h : letB c = true
  · rw [if_pos h, h]; simp
  · rw [if_neg h, Bool.eq_false_iff.mpr h]
    by_cases h1 : c ≥ 48
    · rw [if_pos h1]
      by_cases h2 : c ≤ 57
      · rw [if_pos h2]; simp [h1, h2]
      · rw [if_neg h2]; simp [h2]
    · rw [if_neg h1]; simp [h1]

theorem right_l0 (s : ByteArray) (hn : s.size ≤ 140737488351232) : ∀ (d k : Nat) (i : Int), 0 ≤ i → i + d = s.size → d < k →
    name_Right.l0 k s (s.size : Int) i = some (allS s d i) := by
  intro d
  induction d with
  | zero =>
    intro k i h0 h1 hk
    obtain ⟨k, rfl⟩ : ∃ m, k = m + 1 := ⟨k - 1, by omega⟩
    simp only [name_Right.l0]
    rw [if_neg (by omega)]
    rfl
  | succ d ih =>
    intro k i h0 h1 hk
    obtain ⟨k, rfl⟩ : ∃ m, k = m + 1 := ⟨k - 1, by omega⟩
    have hlt : i < (s.size : Int) := by omega
    simp only [name_Right.l0]
    rw [if_pos hlt, if_pos h0, if_pos hlt, sign_is]
    simp only [Option.bind_some]
    rw [wrap_up h0 hlt hn, ih k (i + 1) (by omega) (by omega) (by omega)]
    simp only [allS]
    cases sgB (bt s i) <;> simp

theorem ref_l0 (s : ByteArray) (hn : s.size ≤ 140737488351232) : ∀ (d k : Nat) (i : Int), 1 ≤ i → i + d = s.size → d < k →
    catacombref12_Right.l0 k s i = some (allS s d i && decide ((s.size : Int) ≤ 16)) := by
  intro d
  induction d with
  | zero =>
    intro k i h0 h1 hk
    obtain ⟨k, rfl⟩ : ∃ m, k = m + 1 := ⟨k - 1, by omega⟩
    simp only [catacombref12_Right.l0]
    rw [if_neg (by omega), if_pos (by omega)]
    rfl
  | succ d ih =>
    intro k i h0 h1 hk
    obtain ⟨k, rfl⟩ : ∃ m, k = m + 1 := ⟨k - 1, by omega⟩
    have hlt : i < (s.size : Int) := by omega
    have hi := ih k (i + 1) (by omega) (by omega) (by omega)
    simp only [catacombref12_Right.l0]
    rw [if_pos hlt, if_pos (show 0 ≤ i by omega), wrap_up (by omega) hlt hn, hi]
    simp only [allS, sgB, letB]
    generalize bt s i = c
    have hi0 : ¬ (i = 0) := by omega
    simp only [if_neg hi0]
    by_cases a1 : c ≥ 97
    · rw [if_pos a1]
      by_cases a2 : c ≤ 122
      · rw [if_pos a2]; simp [a1, a2]
      · have a3 : ¬ (c = 45) := by omega
        have a4 : ¬ (c < 48) := by omega
        have a5 : c > 57 := by omega
        rw [if_neg a2, if_neg a3, if_neg a4, if_pos a5]
        have a6 : ¬ (c ≤ 57) := by omega
        simp [a2, a3, a6]
    · rw [if_neg a1]
      by_cases a3 : c = 45
      · rw [if_pos a3]; simp [a3]
      · rw [if_neg a3]
        by_cases a4 : c < 48
        · rw [if_pos a4]
          have a6 : ¬ (48 ≤ c) := by omega
          have a7 : ¬ (97 ≤ c) := by omega
          simp [a3, a6, a7]
        · rw [if_neg a4]
          by_cases a5 : c > 57
          · rw [if_pos a5]
            have a6 : ¬ (c ≤ 57) := by omega
            have a7 : ¬ (97 ≤ c) := by omega
            simp [a3, a6, a7]
          · rw [if_neg a5]
            have a6 : (c ≤ 57) := by omega
            have a7 : (48 ≤ c) := by omega
            simp [a6, a7]

theorem toList_nil (s : ByteArray) : s.toList = ([] : List UInt8) ↔ s.size = 0 := by
  rw [Go.ByteArray.toList_eq, Array.toList_eq_nil_iff]
  show _ ↔ s.data.size = 0
  exact Array.size_eq_zero_iff.symm

/-- Both tell this. -/
def want (s : ByteArray) : Bool := decide (1 ≤ s.size) && letB (bt s 0) && allS s (s.size - 1) 1 && decide ((s.size : Int) ≤ 16)

theorem let_sg {c : Int} (h : letB c = true) : sgB c = true := by unfold sgB; rw [h]; simp

theorem right_is (s : ByteArray) (hn : s.size ≤ 140737488351232) (k : Nat) (hk : s.size + 2 < k) : name_Right.f k s = some (want s) := by
  unfold name_Right.f want
  obtain ⟨k, rfl⟩ : ∃ m, k = m + 1 := ⟨k - 1, by omega⟩
  by_cases h0 : s.size = 0
  · rw [if_pos ((toList_nil s).2 h0)]
    simp [name_Right.j0, h0]
  · rw [if_neg (fun h => h0 ((toList_nil s).1 h))]
    by_cases h1 : (s.size : Int) > 16
    · rw [if_pos h1]
      have h2 : ¬ ((s.size : Int) ≤ 16) := by omega
      simp only [name_Right.j0, h2]
      simp
    · rw [if_neg h1, if_pos (by omega), letter_is]
      simp only [Option.bind_some, name_Right.j0]
      have h2 : ((s.size : Int) ≤ 16) := by omega
      have h3 : 1 ≤ s.size := by omega
      rw [decide_eq_true h2, decide_eq_true h3]
      cases hl : letB (bt s 0) with
      | false => simp
      | true =>
        have := right_l0 s hn s.size k 0 (by omega) (by omega) (by omega)
        simp only [Bool.not_true, Bool.false_eq_true, if_false]
        rw [this]
        obtain ⟨d, hd⟩ : ∃ d, s.size = d + 1 := ⟨s.size - 1, by omega⟩
        rw [hd]
        simp [allS, let_sg hl]

theorem ref_is (s : ByteArray) (hn : s.size ≤ 140737488351232) (k : Nat) (hk : s.size + 2 < k) : catacombref12_Right.f k s = some (want s) := by
  unfold catacombref12_Right.f want
  obtain ⟨k, rfl⟩ : ∃ m, k = m + 1 := ⟨k - 1, by omega⟩
  by_cases h0 : s.size = 0
  · simp only [catacombref12_Right.l0]
    rw [if_neg (by omega), if_neg (by omega)]
    simp [h0]
  · have hlt : (0 : Int) < (s.size : Int) := by omega
    simp only [catacombref12_Right.l0]
    have hi := ref_l0 s hn (s.size - 1) k 1 (by omega) (by omega) (by omega)
    have hw : wrap64 ((0 : Int) + 1) = 1 := by unfold wrap64; omega
    rw [if_pos hlt, if_pos (show (0 : Int) ≤ 0 by omega), hw, hi]
    have h3 : 1 ≤ s.size := by omega
    rw [decide_eq_true h3]
    simp only [letB]
    generalize bt s 0 = c
    by_cases a1 : c ≥ 97
    · rw [if_pos a1]
      by_cases a2 : c ≤ 122
      · rw [if_pos a2]; simp [a1, a2]
      · rw [if_neg a2]; simp [a2]
    · rw [if_neg a1]
      have a2 : ¬ (97 ≤ c) := by omega
      simp [a2]

theorem lives_is : catacomblaw12_lives.f 40 = some true := by decide +kernel

theorem lives_ok (k : Nat) (hk : 40 ≤ k) : catacomblaw12_lives.f k = some true := at_rounds catacomblaw12_lives.mono hk lives_is

end NameRightPure
open NameRightPure

theorem NameRight : catacomblaw12_NameRight.Pure := by
  intro s hn
  refine ⟨s.size + 50, ?_⟩
  unfold catacomblaw12_NameRight.f
  rw [lives_ok _ (by omega)]
  simp only [Option.bind_some, if_true]
  obtain ⟨k, hk⟩ : ∃ k, s.size + 50 = k + 1 := ⟨s.size + 49, by omega⟩
  rw [hk]
  simp only [catacomblaw12_NameRight.j0]
  by_cases h : (s.size : Int) > 100
  · rw [if_pos (decide_eq_true h), lives_ok _ (by omega)]; rfl
  · rw [if_neg (by simpa using h), right_is s hn k (by omega), ref_is s hn k (by omega)]
    simp

end Go.Proofs.Ytafcogdplhljmaa.Pure
