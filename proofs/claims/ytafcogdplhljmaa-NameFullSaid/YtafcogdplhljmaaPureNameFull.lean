/- A full name is parsed to its key if both are names, and any text is parsed just if it is the full name of two. No condition. -/
import Derived.Test.YtafcogdplhljmaaHNameFullx4
import Derived.Lib.IndexBytes
import Derived.Lib.IndexLaws
set_option linter.unusedSimpArgs false
set_option linter.unusedVariables false
namespace Go.Proofs.Ytafcogdplhljmaa.Pure
open Go.RowKit Go.Proofs.Ytafcogdplhljmaa.HNameFull Go.Proofs.YtafcogdplhljmaaW.PrintWords Go.Proofs.YtafcogdplhljmaaW.PrintLast

namespace NameFullPure

def letB (c : Int) : Bool := decide (97 ≤ c) && decide (c ≤ 122)
def sgB (c : Int) : Bool := letB c || (decide (48 ≤ c) && decide (c ≤ 57)) || c == 45
/-- From place i on, d bytes: all may stand in a name. -/
def allS (s : ByteArray) : Nat → Int → Bool
  | 0, _ => true
  | d + 1, i => sgB (bt s i) && allS s d (i + 1)

theorem wrap_up {i : Int} {n : Nat} (h0 : 0 ≤ i) (h : i < (n : Int)) (hn : n ≤ 140737488351232) : wrap64 (i + 1) = i + 1 := by
  unfold wrap64
  omega

theorem letter_is (c : Int) : name_letter.f c = some (letB c) := by
  unfold name_letter.f letB
  by_cases h : c ≥ 97
  · rw [if_pos h]; simp [h]
  · rw [if_neg h]; simp; omega

theorem sign_is (c : Int) : name_sign.f c = some (sgB c) := by
  unfold name_sign.f
  rw [letter_is]
  simp only [Option.bind_some]
  unfold sgB
  by_cases h : letB c = true
  · rw [if_pos h, h]; simp
  · rw [if_neg h, Bool.eq_false_iff.mpr h]
    by_cases h1 : c ≥ 48
    · rw [if_pos h1]
      by_cases h2 : c ≤ 57
      · rw [if_pos h2]; simp [h1, h2]
      · rw [if_neg h2]; simp [h2]
    · rw [if_neg h1]; simp [h1]

theorem right_l0 (s : ByteArray) (hn : s.size ≤ 140737488351232) : ∀ (d k : Nat) (i : Int), 0 ≤ i → i + d = s.size → d < k →
    name_Right.l0 k s (s.size : Int) i = some (allS s d i) := by
  intro d
  induction d with
  | zero =>
    intro k i h0 h1 hk
    obtain ⟨k, rfl⟩ : ∃ m, k = m + 1 := ⟨k - 1, by omega⟩
    simp only [name_Right.l0]
    rw [if_neg (by omega)]
    rfl
  | succ d ih =>
    intro k i h0 h1 hk
    obtain ⟨k, rfl⟩ : ∃ m, k = m + 1 := ⟨k - 1, by omega⟩
    have hlt : i < (s.size : Int) := by omega
    simp only [name_Right.l0]
    rw [if_pos hlt, if_pos h0, if_pos hlt, sign_is]
    simp only [Option.bind_some]
    rw [wrap_up h0 hlt hn, ih k (i + 1) (by omega) (by omega) (by omega)]
    simp only [allS]
    cases sgB (bt s i) <;> simp

theorem ref_l0 (s : ByteArray) (hn : s.size ≤ 140737488351232) : ∀ (d k : Nat) (i : Int), 1 ≤ i → i + d = s.size → d < k →
    catacombref12_Right.l0 k s i = some (allS s d i && decide ((s.size : Int) ≤ 16)) := by
  intro d
  induction d with
  | zero =>
    intro k i h0 h1 hk
    obtain ⟨k, rfl⟩ : ∃ m, k = m + 1 := ⟨k - 1, by omega⟩
    simp only [catacombref12_Right.l0]
    rw [if_neg (by omega), if_pos (by omega)]
    rfl
  | succ d ih =>
    intro k i h0 h1 hk
    obtain ⟨k, rfl⟩ : ∃ m, k = m + 1 := ⟨k - 1, by omega⟩
    have hlt : i < (s.size : Int) := by omega
    have hi := ih k (i + 1) (by omega) (by omega) (by omega)
    simp only [catacombref12_Right.l0]
    rw [if_pos hlt, if_pos (show 0 ≤ i by omega), wrap_up (by omega) hlt hn, hi]
    simp only [allS, sgB, letB]
    generalize bt s i = c
    have hi0 : ¬ (i = 0) := by omega
    simp only [if_neg hi0]
    by_cases a1 : c ≥ 97
    · rw [if_pos a1]
      by_cases a2 : c ≤ 122
      · rw [if_pos a2]; simp [a1, a2]
      · have a3 : ¬ (c = 45) := by omega
        have a4 : ¬ (c < 48) := by omega
        have a5 : c > 57 := by omega
        rw [if_neg a2, if_neg a3, if_neg a4, if_pos a5]
        have a6 : ¬ (c ≤ 57) := by omega
        simp [a2, a3, a6]
    · rw [if_neg a1]
      by_cases a3 : c = 45
      · rw [if_pos a3]; simp [a3]
      · rw [if_neg a3]
        by_cases a4 : c < 48
        · rw [if_pos a4]
          have a6 : ¬ (48 ≤ c) := by omega
          have a7 : ¬ (97 ≤ c) := by omega
          simp [a3, a6, a7]
        · rw [if_neg a4]
          by_cases a5 : c > 57
          · rw [if_pos a5]
            have a6 : ¬ (c ≤ 57) := by omega
            have a7 : ¬ (97 ≤ c) := by omega
            simp [a3, a6, a7]
          · rw [if_neg a5]
            have a6 : (c ≤ 57) := by omega
            have a7 : (48 ≤ c) := by omega
            simp [a6, a7]

theorem toList_nil (s : ByteArray) : s.toList = ([] : List UInt8) ↔ s.size = 0 := by
  rw [Go.ByteArray.toList_eq, Array.toList_eq_nil_iff]
  show _ ↔ s.data.size = 0
  exact Array.size_eq_zero_iff.symm

/-- Both tell this. -/
def want (s : ByteArray) : Bool := decide (1 ≤ s.size) && letB (bt s 0) && allS s (s.size - 1) 1 && decide ((s.size : Int) ≤ 16)

theorem let_sg {c : Int} (h : letB c = true) : sgB c = true := by unfold sgB; rw [h]; simp

theorem right_is (s : ByteArray) (hn : s.size ≤ 140737488351232) (k : Nat) (hk : s.size + 2 < k) : name_Right.f k s = some (want s) := by
  unfold name_Right.f want
  obtain ⟨k, rfl⟩ : ∃ m, k = m + 1 := ⟨k - 1, by omega⟩
  by_cases h0 : s.size = 0
  · rw [if_pos ((toList_nil s).2 h0)]
    simp [name_Right.j0, h0]
  · rw [if_neg (fun h => h0 ((toList_nil s).1 h))]
    by_cases h1 : (s.size : Int) > 16
    · rw [if_pos h1]
      have h2 : ¬ ((s.size : Int) ≤ 16) := by omega
      simp only [name_Right.j0, h2]
      simp
    · rw [if_neg h1, if_pos (by omega), letter_is]
      simp only [Option.bind_some, name_Right.j0]
      have h2 : ((s.size : Int) ≤ 16) := by omega
      have h3 : 1 ≤ s.size := by omega
      rw [decide_eq_true h2, decide_eq_true h3]
      cases hl : letB (bt s 0) with
      | false => simp
      | true =>
        have := right_l0 s hn s.size k 0 (by omega) (by omega) (by omega)
        simp only [Bool.not_true, Bool.false_eq_true, if_false]
        rw [this]
        obtain ⟨d, hd⟩ : ∃ d, s.size = d + 1 := ⟨s.size - 1, by omega⟩
        rw [hd]
        simp [allS, let_sg hl]

theorem ref_is (s : ByteArray) (hn : s.size ≤ 140737488351232) (k : Nat) (hk : s.size + 2 < k) : catacombref12_Right.f k s = some (want s) := by
  unfold catacombref12_Right.f want
  obtain ⟨k, rfl⟩ : ∃ m, k = m + 1 := ⟨k - 1, by omega⟩
  by_cases h0 : s.size = 0
  · simp only [catacombref12_Right.l0]
    rw [if_neg (by omega), if_neg (by omega)]
    simp [h0]
  · have hlt : (0 : Int) < (s.size : Int) := by omega
    simp only [catacombref12_Right.l0]
    have hi := ref_l0 s hn (s.size - 1) k 1 (by omega) (by omega) (by omega)
    have hw : wrap64 ((0 : Int) + 1) = 1 := by unfold wrap64; omega
    rw [if_pos hlt, if_pos (show (0 : Int) ≤ 0 by omega), hw, hi]
    have h3 : 1 ≤ s.size := by omega
    rw [decide_eq_true h3]
    simp only [letB]
    generalize bt s 0 = c
    by_cases a1 : c ≥ 97
    · rw [if_pos a1]
      by_cases a2 : c ≤ 122
      · rw [if_pos a2]; simp [a1, a2]
      · rw [if_neg a2]; simp [a2]
    · rw [if_neg a1]
      have a2 : ¬ (97 ≤ c) := by omega
      simp [a2]

theorem lives_is : catacomblaw12_lives.f 40 = some true := by decide +kernel

theorem lives_ok (k : Nat) (hk : 40 ≤ k) : catacomblaw12_lives.f k = some true := at_rounds catacomblaw12_lives.mono hk lives_is


theorem data_eq {a b : ByteArray} (h : a.data.toList = b.data.toList) : a = b := by
  obtain ⟨a⟩ := a
  obtain ⟨b⟩ := b
  congr 1
  exact Array.toList_inj.1 h
theorem len_size (s : ByteArray) : s.data.toList.length = s.size := by simp
theorem bt_list {s : ByteArray} {j : Nat} {c : UInt8} (h : s.data.toList[j]? = some c) : bt s (j : Int) = c.toNat := by
  obtain ⟨hj, e⟩ := List.getElem?_eq_some_iff.1 h
  have hj' : j < s.size := by rw [← len_size]; exact hj
  unfold bt
  rw [dif_pos (by simpa using hj')]
  have : s[(j : Int).toNat]'(by simpa using hj') = c := by
    rw [← e]; rfl
  rw [this]
theorem list_bt {s : ByteArray} {j : Nat} (hj : j < s.size) (hb : bt s (j : Int) = 47) : s.data.toList[j]? = some 47 := by
  have hl : j < s.data.toList.length := by rw [len_size]; exact hj
  have h := List.getElem?_eq_getElem hl
  have h2 := bt_list h
  rw [hb] at h2
  rw [h]
  congr 1
  apply UInt8.toNat_inj.1
  show _ = 47
  omega
theorem allS_at (s : ByteArray) : ∀ (d : Nat) (i : Int), allS s d i = true → ∀ j : Int, i ≤ j → j < i + d → sgB (bt s j) = true
  | 0, _, _, j, h1, h2 => by omega
  | d + 1, i, h, j, h1, h2 => by
    simp only [allS, Bool.and_eq_true] at h
    by_cases e : j = i
    · rw [e]; exact h.1
    · exact allS_at s d (i + 1) h.2 j (by omega) (by omega)
theorem want_no {s : ByteArray} (h : want s = true) (j : Nat) : s.data.toList[j]? ≠ some 47 := by
  intro hc
  have hb : bt s (j : Int) = 47 := bt_list hc
  have hj : j < s.size := by rw [← len_size]; exact (List.getElem?_eq_some_iff.1 hc).1
  unfold want at h
  simp only [Bool.and_eq_true] at h
  obtain ⟨⟨⟨h1, h2⟩, h3⟩, h4⟩ := h
  by_cases e : j = 0
  · subst e
    rw [show ((0 : Nat) : Int) = 0 from rfl] at hb
    rw [hb] at h2
    exact absurd h2 (by decide)
  · have := allS_at s _ 1 h3 j (by omega) (by omega)
    rw [hb] at this
    exact absurd this (by decide)
theorem head_list (x : ByteArray) (n : Nat) : (x.extract 0 n).data.toList = x.data.toList.take n := by rw [Lib.extract_data]; simp
def parseV (x : ByteArray) : ByteArray × ByteArray × Bool := if ((cutOf x 47).2.2 && want (cutOf x 47).1 && want (cutOf x 47).2.1) = true then ((cutOf x 47).1, (cutOf x 47).2.1, true) else (⟨#[]⟩, ⟨#[]⟩, false)
theorem parse_is (x : ByteArray) (hx : x.size ≤ 300) (k : Nat) (hk : 310 < k) : name_Parse.f k x = some (parseV x) := by
  have hc : strings_Cut.f x (⟨#[47]⟩ : ByteArray) = some (cutOf x 47) := by unfold strings_Cut.f; rw [if_pos (by omega)]
  have s1 : (cutOf x 47).1.size ≤ 300 ∧ (cutOf x 47).2.1.size ≤ 300 := by
    unfold cutOf
    split
    · refine ⟨?_, ?_⟩
      · rw [← len_size, head_list, List.length_take, len_size]; omega
      · rw [← len_size, Lib.extract_to_end, List.length_drop, len_size]; omega
    · exact ⟨hx, show (0 : Nat) ≤ 300 by decide⟩
  unfold name_Parse.f parseV
  rw [hc]
  simp only [Option.bind_some]
  rw [right_is _ (by omega) k (by omega), right_is _ (by omega) k (by omega)]
  generalize want (cutOf x 47).1 = a
  generalize want (cutOf x 47).2.1 = b
  cases hh : (cutOf x 47).2.2 <;> cases a <;> cases b <;> simp [hh]
theorem parse_of {x : ByteArray} {n : Nat} (hn : x.data.toList[n]? = some 47) (h1 : want (x.extract 0 n) = true) (h2 : want (x.extract (n + 1) x.size) = true) : parseV x = (x.extract 0 n, x.extract (n + 1) x.size, true) := by
  have hg := Lib.indexByte_ge x.data.toList 47
  have e : (n : Int) = cutAt x 47 := by
    unfold cutAt
    by_cases h0 : Lib.indexByte x.data.toList 47 = -1
    · exact absurd hn (Lib.indexByte_none h0 n)
    · obtain ⟨o, ho⟩ : ∃ o : Nat, Lib.indexByte x.data.toList 47 = o := ⟨(Lib.indexByte x.data.toList 47).toNat, by omega⟩
      obtain ⟨ha, hb⟩ := Lib.indexByte_some ho
      rw [ho]
      rcases Nat.lt_trichotomy o n with h | h | h
      · have := want_no h1 o
        rw [head_list, List.getElem?_take_of_lt h] at this
        exact absurd ha this
      · omega
      · exact absurd hn (hb n h)
  unfold parseV
  rw [cutOf_yes e]
  simp only
  rw [h1, h2]
  simp
theorem parse_inv {x : ByteArray} (h : (parseV x).2.2 = true) : ∃ n, x.data.toList[n]? = some 47 ∧ parseV x = (x.extract 0 n, x.extract (n + 1) x.size, true) ∧ want (x.extract 0 n) = true ∧ want (x.extract (n + 1) x.size) = true ∧ ∀ k, k < n → x.data.toList[k]? ≠ some 47 := by
  unfold parseV at h
  split at h
  · rename_i hc
    simp only [Bool.and_eq_true] at hc
    by_cases h0 : 0 ≤ cutAt x 47
    · obtain ⟨o, ho⟩ : ∃ o : Nat, cutAt x 47 = o := ⟨(cutAt x 47).toNat, by omega⟩
      have e := cutOf_yes ho.symm
      rw [e] at hc
      simp only at hc
      obtain ⟨ha, hb⟩ := Lib.indexByte_some (l := x.data.toList) (c := 47) (o := o) ho
      exact ⟨o, ha, parse_of ha hc.1.2 hc.2, hc.1.2, hc.2, hb⟩
    · rw [cutOf_no h0] at hc
      simp at hc
  · cases h
def full (t s : ByteArray) : ByteArray := (t ++ (⟨#[47]⟩ : ByteArray)) ++ s
theorem full_list (t s : ByteArray) : (full t s).data.toList = t.data.toList ++ (47 :: s.data.toList) := by
  unfold full
  rw [ByteArray.data_append, ByteArray.data_append]
  simp
theorem full_size (t s : ByteArray) : (full t s).size = t.size + 1 + s.size := by
  rw [← len_size, full_list, List.length_append, List.length_cons, len_size, len_size]; omega
theorem full_at (t s : ByteArray) : (full t s).data.toList[t.size]? = some 47 := by
  rw [full_list, List.getElem?_append_right (by rw [len_size]; exact Nat.le_refl _), len_size]
  simp
theorem full_head (t s : ByteArray) : (full t s).extract 0 t.size = t := data_eq (by
  rw [head_list, full_list, List.take_append_of_le_length (by rw [len_size]; exact Nat.le_refl _), List.take_of_length_le (by rw [len_size]; exact Nat.le_refl _)])
theorem full_tail (t s : ByteArray) : (full t s).extract (t.size + 1) (full t s).size = s := data_eq (by
  rw [Lib.extract_to_end, full_list, List.drop_append, len_size, List.drop_of_length_le (by rw [len_size]; omega), show t.size + 1 - t.size = 1 by omega]
  rfl)
theorem full_parse (t s : ByteArray) : (want t = true ∧ want s = true ∧ parseV (full t s) = (t, s, true)) ∨ ((want t && want s) = false ∧ parseV (full t s) = (⟨#[]⟩, ⟨#[]⟩, false)) := by
  by_cases hw : want t = true ∧ want s = true
  · have h := parse_of (x := full t s) (n := t.size) (full_at t s) (by rw [full_head]; exact hw.1) (by rw [full_tail]; exact hw.2)
    rw [full_head, full_tail] at h
    exact .inl ⟨hw.1, hw.2, h⟩
  · refine .inr ⟨by cases ha : want t <;> cases hb : want s <;> simp_all, ?_⟩
    by_cases h : (parseV (full t s)).2.2 = true
    · obtain ⟨n, h1, h2, h3, h4, h5⟩ := parse_inv h
      have hle : n ≤ t.size := by
        rcases Nat.lt_or_ge t.size n with hc | hc
        · exact absurd (full_at t s) (h5 _ hc)
        · exact hc
      rcases Nat.lt_or_ge n t.size with hc | hc
      · have := want_no h4 (t.size - (n + 1))
        rw [Lib.extract_to_end, List.getElem?_drop, show n + 1 + (t.size - (n + 1)) = t.size by omega] at this
        exact absurd (full_at t s) this
      · have e : n = t.size := by omega
        subst e
        rw [full_head] at h3
        rw [full_tail] at h4
        exact absurd ⟨h3, h4⟩ hw
    · unfold parseV at h ⊢
      split at h
      · exact absurd rfl h
      · rename_i hc
        rw [if_neg hc]
theorem joined {x : ByteArray} {n : Nat} (h : x.data.toList[n]? = some 47) : full (x.extract 0 n) (x.extract (n + 1) x.size) = x := data_eq (by
  rw [full_list, head_list, Lib.extract_to_end]
  obtain ⟨hn, e⟩ := List.getElem?_eq_some_iff.1 h
  rw [← e, ← List.drop_eq_getElem_cons hn, List.take_append_drop])
theorem loop_is (x : ByteArray) (hx : x.size ≤ 100) (hp : (parseV x).2.2 = false) : ∀ (d k : Nat) (i : Int), 0 ≤ i → i + d = x.size → d + 310 < k →
    catacomblaw12_NameFull.l0 k x (x.size : Int) i (⟨#[]⟩ : ByteArray) (⟨#[]⟩ : ByteArray) = some true := by
  intro d
  induction d with
  | zero =>
    intro k i h0 h1 hk
    obtain ⟨k, rfl⟩ : ∃ m, k = m + 1 := ⟨k - 1, by omega⟩
    simp only [catacomblaw12_NameFull.l0]
    rw [if_neg (by omega)]
    have e : (⟨#[]⟩ : ByteArray).toList = [] := (toList_nil _).2 rfl
    rw [e]
    rfl
  | succ d ih =>
    intro k i h0 h1 hk
    obtain ⟨k, rfl⟩ : ∃ m, k = m + 1 := ⟨k - 1, by omega⟩
    have hlt : i < (x.size : Int) := by omega
    have hw : wrap64 (i + 1) = i + 1 := wrap_up h0 hlt (by omega)
    have hi := ih k (i + 1) (by omega) (by omega) (by omega)
    obtain ⟨n, rfl⟩ : ∃ n : Nat, i = n := ⟨i.toNat, by omega⟩
    have hs1 : (x.extract 0 n).size ≤ 100 := by rw [← len_size, head_list, List.length_take, len_size]; omega
    have hs2 : (x.extract (n + 1) x.size).size ≤ 100 := by rw [← len_size, Lib.extract_to_end, List.length_drop, len_size]; omega
    simp only [catacomblaw12_NameFull.l0]
    rw [if_pos hlt, if_pos h0, if_pos hlt, hw, hi]
    by_cases hb : bt x n = 47
    · rw [if_pos hb, if_pos (by omega), Int.toNat_natCast, ref_is _ (by omega) k (by omega)]
      simp only [Option.bind_some]
      by_cases w1 : want (x.extract 0 n) = true
      · rw [if_pos w1, if_pos (by omega), if_pos (by omega), show ((n : Int) + 1).toNat = n + 1 by omega, ref_is _ (by omega) k (by omega)]
        simp only [Option.bind_some]
        by_cases w2 : want (x.extract (n + 1) x.size) = true
        · have := parse_of (list_bt (by omega) hb) w1 w2
          rw [this] at hp
          cases hp
        · rw [if_neg w2]
      · rw [if_neg w1]
    · rw [if_neg hb]
theorem j2_is (x : ByteArray) (hx : x.size ≤ 100) (k : Nat) (hk : 500 < k) : catacomblaw12_NameFull.j2 k x false = some true := by
  obtain ⟨k, rfl⟩ : ∃ m, k = m + 1 := ⟨k - 1, by omega⟩
  simp only [catacomblaw12_NameFull.j2]
  rw [if_neg (by simp), parse_is x (by omega) k (by omega)]
  simp only [Option.bind_some]
  by_cases h : (parseV x).2.2 = true
  · obtain ⟨n, h1, h2, h3, h4, h5⟩ := parse_inv h
    rw [h2]
    simp only
    have hs1 : (x.extract 0 n).size ≤ 100 := by rw [← len_size, head_list, List.length_take, len_size]; omega
    have hs2 : (x.extract (n + 1) x.size).size ≤ 100 := by rw [← len_size, Lib.extract_to_end, List.length_drop, len_size]; omega
    have hj : ((x.extract 0 n) ++ (⟨#[47]⟩ : ByteArray)) ++ (x.extract (n + 1) x.size) = x := joined h1
    rw [if_pos (by simp), ref_is _ (by omega) k (by omega), h3]
    simp only [Option.bind_some]
    rw [if_pos (by simp), ref_is _ (by omega) k (by omega), h4]
    simp only [Option.bind_some]
    rw [if_pos (by simp), if_pos (by omega), if_pos (by rw [ByteArray.size_append]; have : (⟨#[47]⟩ : ByteArray).size = 1 := rfl; omega), hj]
    simp
  · have hp : (parseV x).2.2 = false := by simpa using h
    rw [if_neg h]
    have e : (parseV x).1 = ⟨#[]⟩ ∧ (parseV x).2.1 = ⟨#[]⟩ := by
      unfold parseV at hp ⊢
      split at hp
      · cases hp
      · rename_i hc
        rw [if_neg hc]
        exact ⟨rfl, rfl⟩
    rw [e.1, e.2]
    exact loop_is x hx hp x.size k 0 (by omega) (by omega) (by omega)
theorem law (t s x : ByteArray) : catacomblaw12_NameFull.f 1000 t s x = some true := by
  unfold catacomblaw12_NameFull.f
  rw [lives_ok 1000 (by omega)]
  simp only [Option.bind_some]
  rw [if_pos (by simp)]
  have out : catacomblaw12_NameFull.j0 1000 x true t s = some true := by
    rw [show (1000 : Nat) = 999 + 1 from rfl]
    simp only [catacomblaw12_NameFull.j0]
    rw [if_pos (by simp), lives_ok 999 (by omega)]
    rfl
  by_cases ht : (t.size : Int) > 100
  · rw [if_pos ht]; exact out
  · rw [if_neg ht]
    by_cases hs : (s.size : Int) > 100
    · rw [if_pos hs]; exact out
    · rw [if_neg hs]
      by_cases hx : (x.size : Int) > 100
      · rw [decide_eq_true hx]; exact out
      · rw [decide_eq_false hx]
        have hfs : (full t s).size ≤ 300 := by rw [full_size]; omega
        have hf : name_Full.f t s = some (full t s) := by
          unfold name_Full.f
          rw [if_pos (by omega), if_pos (by rw [ByteArray.size_append]; have : (⟨#[47]⟩ : ByteArray).size = 1 := rfl; omega)]
          rfl
        rw [show (1000 : Nat) = 999 + 1 from rfl]
        simp only [catacomblaw12_NameFull.j0]
        rw [if_neg (by simp), hf]
        simp only [Option.bind_some]
        rw [parse_is _ hfs 999 (by omega)]
        simp only [Option.bind_some]
        rw [ref_is t (by omega) 999 (by omega)]
        simp only [Option.bind_some]
        rw [ref_is s (by omega) 999 (by omega)]
        simp only [Option.bind_some]
        have hz : (t ++ (⟨#[47]⟩ : ByteArray)).size + s.size ≤ 9223372036854775807 := by rw [ByteArray.size_append]; have : (⟨#[47]⟩ : ByteArray).size = 1 := rfl; omega
        have hff : (full t s).toList = ((t ++ (⟨#[47]⟩ : ByteArray)) ++ s).toList := rfl
        have hj := j2_is x (by omega) 998 (by omega)
        have go : ∀ both : Bool, both = (want t && want s) → catacomblaw12_NameFull.j1 999 x (full t s) (parseV (full t s)).2.2 both t s (parseV (full t s)).1 (parseV (full t s)).2.1 = some true := by
          intro both hb
          rw [show (999 : Nat) = 998 + 1 from rfl]
          simp only [catacomblaw12_NameFull.j1]
          rw [if_pos (by omega), if_pos hz, if_pos hff]
          rcases full_parse t s with ⟨h1, h2, h3⟩ | ⟨h1, h3⟩
          · rw [h1, h2] at hb
            subst hb
            rw [h3]
            simp only
            rw [if_neg (by simp), if_pos (by simp), if_neg (by simp)]
            exact hj
          · rw [h1] at hb
            subst hb
            rw [h3]
            simp only
            have e : (⟨#[]⟩ : ByteArray).toList = [] := (toList_nil _).2 rfl
            rw [if_neg (by simp), if_neg (by simp), e]
            exact hj
        by_cases hw : want t = true
        · rw [if_pos hw]
          exact go _ (by rw [hw, Bool.true_and])
        · rw [if_neg hw]
          exact go _ (by rw [Bool.eq_false_iff.2 hw, Bool.false_and])
end NameFullPure

theorem NameFullWalk.walk (a0_0 a0_1 a1 : ByteArray) (W : World) (_ : a0_0.size ≤ maxLen) (_ : a0_1.size ≤ maxLen) (_ : a1.size ≤ 140737488351232) :
    Calls Try.prog 6 #[.agg #[.string a0_0, .string a0_1], .string a1] W fun e w' => e = .returned (.bool true) ∧ Below W.heap.size W w' :=
  catacomblaw12_NameFull.calls _ a0_0 a0_1 a1 true W (NameFullPure.law _ _ _)

end Go.Proofs.Ytafcogdplhljmaa.Pure
