/- What any text of at most 100 bytes is folded to is what the letters one by one come to; it is a name, or nothing; a name is folded to itself. Of a longer text the statement says that the chapter's example holds. No condition. -/
import Derived.Test.YtafcogdplhljmaaPNameFoldsx3
namespace Go.Proofs.Ytafcogdplhljmaa.Pure
open Go.RowKit Go.Proofs.Ytafcogdplhljmaa.PNameFolds Go.Proofs.YtafcogdplhljmaaW.PrintWords Go.Proofs.YtafcogdplhljmaaW.PrintLast

namespace NameFoldsPure

def letB (c : Int) : Bool := decide (97 ≤ c) && decide (c ≤ 122)
def sgB (c : Int) : Bool := letB c || (decide (48 ≤ c) && decide (c ≤ 57)) || c == 45
/-- From place i on, d bytes: all may stand in a name. -/
def allS (s : ByteArray) : Nat → Int → Bool
  | 0, _ => true
  | d + 1, i => sgB (bt s i) && allS s d (i + 1)

theorem wrap_up {i : Int} {n : Nat} (h0 : 0 ≤ i) (h : i < (n : Int)) (hn : n ≤ 140737488351232) : wrap64 (i + 1) = i + 1 := by
  unfold wrap64
  omega

theorem letter_is (c : Int) : name_letter.f c = some (letB c) := by
  unfold name_letter.f letB
  by_cases h : c ≥ 97
  · rw [if_pos h]; simp [h]
  · rw [if_neg h]; simp; omega

theorem sign_is (c : Int) : name_sign.f c = some (sgB c) := by
  unfold name_sign.f
  rw [letter_is]
  simp only [Option.bind_some]
  unfold sgB
  by_cases h : letB c = true
  · rw [if_pos h, h]; simp
  · rw [if_neg h, Bool.eq_false_iff.mpr h]
    by_cases h1 : c ≥ 48
    · rw [if_pos h1]
      by_cases h2 : c ≤ 57
      · rw [if_pos h2]; simp [h1, h2]
      · rw [if_neg h2]; simp [h2]
    · rw [if_neg h1]; simp [h1]

theorem right_l0 (s : ByteArray) (hn : s.size ≤ 140737488351232) : ∀ (d k : Nat) (i : Int), 0 ≤ i → i + d = s.size → d < k →
    name_Right.l0 k s (s.size : Int) i = some (allS s d i) := by
  intro d
  induction d with
  | zero =>
    intro k i h0 h1 hk
    obtain ⟨k, rfl⟩ : ∃ m, k = m + 1 := ⟨k - 1, by omega⟩
    simp only [name_Right.l0]
    rw [if_neg (by omega)]
    rfl
  | succ d ih =>
    intro k i h0 h1 hk
    obtain ⟨k, rfl⟩ : ∃ m, k = m + 1 := ⟨k - 1, by omega⟩
    have hlt : i < (s.size : Int) := by omega
    simp only [name_Right.l0]
    rw [if_pos hlt, if_pos h0, if_pos hlt, sign_is]
    simp only [Option.bind_some]
    rw [wrap_up h0 hlt hn, ih k (i + 1) (by omega) (by omega) (by omega)]
    simp only [allS]
    cases sgB (bt s i) <;> simp

theorem ref_l0 (s : ByteArray) (hn : s.size ≤ 140737488351232) : ∀ (d k : Nat) (i : Int), 1 ≤ i → i + d = s.size → d < k →
    catacombref12_Right.l0 k s i = some (allS s d i && decide ((s.size : Int) ≤ 16)) := by
  intro d
  induction d with
  | zero =>
    intro k i h0 h1 hk
    obtain ⟨k, rfl⟩ : ∃ m, k = m + 1 := ⟨k - 1, by omega⟩
    simp only [catacombref12_Right.l0]
    rw [if_neg (by omega), if_pos (by omega)]
    rfl
  | succ d ih =>
    intro k i h0 h1 hk
    obtain ⟨k, rfl⟩ : ∃ m, k = m + 1 := ⟨k - 1, by omega⟩
    have hlt : i < (s.size : Int) := by omega
    have hi := ih k (i + 1) (by omega) (by omega) (by omega)
    simp only [catacombref12_Right.l0]
    rw [if_pos hlt, if_pos (show 0 ≤ i by omega), wrap_up (by omega) hlt hn, hi]
    simp only [allS, sgB, letB]
    generalize bt s i = c
    have hi0 : ¬ (i = 0) := by omega
    simp only [if_neg hi0]
    by_cases a1 : c ≥ 97
    · rw [if_pos a1]
      by_cases a2 : c ≤ 122
      · rw [if_pos a2]; simp [a1, a2]
      · have a3 : ¬ (c = 45) := by omega
        have a4 : ¬ (c < 48) := by omega
        have a5 : c > 57 := by omega
        rw [if_neg a2, if_neg a3, if_neg a4, if_pos a5]
        have a6 : ¬ (c ≤ 57) := by omega
        simp [a2, a3, a6]
    · rw [if_neg a1]
      by_cases a3 : c = 45
      · rw [if_pos a3]; simp [a3]
      · rw [if_neg a3]
        by_cases a4 : c < 48
        · rw [if_pos a4]
          have a6 : ¬ (48 ≤ c) := by omega
          have a7 : ¬ (97 ≤ c) := by omega
          simp [a3, a6, a7]
        · rw [if_neg a4]
          by_cases a5 : c > 57
          · rw [if_pos a5]
            have a6 : ¬ (c ≤ 57) := by omega
            have a7 : ¬ (97 ≤ c) := by omega
            simp [a3, a6, a7]
          · rw [if_neg a5]
            have a6 : (c ≤ 57) := by omega
            have a7 : (48 ≤ c) := by omega
            simp [a6, a7]

theorem toList_nil (s : ByteArray) : s.toList = ([] : List UInt8) ↔ s.size = 0 := by
  rw [Go.ByteArray.toList_eq, Array.toList_eq_nil_iff]
  show _ ↔ s.data.size = 0
  exact Array.size_eq_zero_iff.symm

/-- Both tell this. -/
def want (s : ByteArray) : Bool := decide (1 ≤ s.size) && letB (bt s 0) && allS s (s.size - 1) 1 && decide ((s.size : Int) ≤ 16)

theorem let_sg {c : Int} (h : letB c = true) : sgB c = true := by unfold sgB; rw [h]; simp

theorem right_is (s : ByteArray) (hn : s.size ≤ 140737488351232) (k : Nat) (hk : s.size + 2 < k) : name_Right.f k s = some (want s) := by
  unfold name_Right.f want
  obtain ⟨k, rfl⟩ : ∃ m, k = m + 1 := ⟨k - 1, by omega⟩
  by_cases h0 : s.size = 0
  · rw [if_pos ((toList_nil s).2 h0)]
    simp [name_Right.j0, h0]
  · rw [if_neg (fun h => h0 ((toList_nil s).1 h))]
    by_cases h1 : (s.size : Int) > 16
    · rw [if_pos h1]
      have h2 : ¬ ((s.size : Int) ≤ 16) := by omega
      simp only [name_Right.j0, h2]
      simp
    · rw [if_neg h1, if_pos (by omega), letter_is]
      simp only [Option.bind_some, name_Right.j0]
      have h2 : ((s.size : Int) ≤ 16) := by omega
      have h3 : 1 ≤ s.size := by omega
      rw [decide_eq_true h2, decide_eq_true h3]
      cases hl : letB (bt s 0) with
      | false => simp
      | true =>
        have := right_l0 s hn s.size k 0 (by omega) (by omega) (by omega)
        simp only [Bool.not_true, Bool.false_eq_true, if_false]
        rw [this]
        obtain ⟨d, hd⟩ : ∃ d, s.size = d + 1 := ⟨s.size - 1, by omega⟩
        rw [hd]
        simp [allS, let_sg hl]

theorem ref_is (s : ByteArray) (hn : s.size ≤ 140737488351232) (k : Nat) (hk : s.size + 2 < k) : catacombref12_Right.f k s = some (want s) := by
  unfold catacombref12_Right.f want
  obtain ⟨k, rfl⟩ : ∃ m, k = m + 1 := ⟨k - 1, by omega⟩
  by_cases h0 : s.size = 0
  · simp only [catacombref12_Right.l0]
    rw [if_neg (by omega), if_neg (by omega)]
    simp [h0]
  · have hlt : (0 : Int) < (s.size : Int) := by omega
    simp only [catacombref12_Right.l0]
    have hi := ref_l0 s hn (s.size - 1) k 1 (by omega) (by omega) (by omega)
    have hw : wrap64 ((0 : Int) + 1) = 1 := by unfold wrap64; omega
    rw [if_pos hlt, if_pos (show (0 : Int) ≤ 0 by omega), hw, hi]
    have h3 : 1 ≤ s.size := by omega
    rw [decide_eq_true h3]
    simp only [letB]
    generalize bt s 0 = c
    by_cases a1 : c ≥ 97
    · rw [if_pos a1]
      by_cases a2 : c ≤ 122
      · rw [if_pos a2]; simp [a1, a2]
      · rw [if_neg a2]; simp [a2]
    · rw [if_neg a1]
      have a2 : ¬ (97 ≤ c) := by omega
      simp [a2]

theorem lives_is : catacomblaw12_lives.f 40 = some true := by decide +kernel

theorem lives_ok (k : Nat) (hk : 40 ≤ k) : catacomblaw12_lives.f k = some true := at_rounds catacomblaw12_lives.mono hk lives_is


theorem str_bytes (s : ByteArray) : strOfNums (bytesOf s) = s := by
  apply ByteArray.ext
  show ((s.data.toList.map fun b => (b.toNat : Int)).map fun n => UInt8.ofNat n.toNat).toArray = s.data
  rw [List.map_map]
  have : (fun n : Int => UInt8.ofNat n.toNat) ∘ (fun b : UInt8 => (b.toNat : Int)) = id := by
    funext b
    simp
  rw [this]
  simp

theorem bytes_str (xs : List Int) (h : ∀ c ∈ xs, 0 ≤ c ∧ c ≤ 255) : bytesOf (strOfNums xs) = xs := by
  show ((xs.map fun n => UInt8.ofNat n.toNat).toArray.toList.map fun b => (b.toNat : Int)) = xs
  simp only [List.map_map]
  conv => rhs; rw [← List.map_id xs]
  apply List.map_congr_left
  intro c hc
  have := h c hc
  simp
  omega

theorem size_str (xs : List Int) : (strOfNums xs).size = xs.length := by
  show (xs.map fun n => UInt8.ofNat n.toNat).toArray.size = xs.length
  simp

theorem str_app (xs ys : List Int) : strOfNums xs ++ strOfNums ys = strOfNums (xs ++ ys) := by
  apply ByteArray.ext
  rw [ByteArray.data_append]
  simp [strOfNums]

theorem bytes_cons (s : ByteArray) (n : Nat) (h : n < s.size) : (bytesOf s).drop n = bt s n :: (bytesOf s).drop (n + 1) := by
  have hl : n < (bytesOf s).length := by rw [bytesOf_length]; exact h
  rw [List.drop_eq_getElem_cons hl]
  congr 1
  have := rd_bytesOf s n
  unfold rd at this
  rw [← this]
  simp [hl]

theorem extract_one (s : ByteArray) (n : Nat) (h : n < s.size) : s.extract n (n + 1) = strOfNums [bt s n] := by
  apply ByteArray.ext
  rw [ByteArray.data_extract]
  have hb : (n : Int).toNat < s.size := by simpa using h
  have hd : n < s.data.size := h
  simp only [strOfNums, bt, hb, dif_pos, List.map_cons, List.map_nil]
  apply Array.ext
  · simp; omega
  · intro i h1 h2
    simp at h2
    subst h2
    simp
    rfl

theorem allS_list (s : ByteArray) : ∀ (d n : Nat), n + d = s.size → allS s d n = ((bytesOf s).drop n).all sgB := by
  intro d
  induction d with
  | zero =>
    intro n h
    rw [List.drop_eq_nil_of_le (by rw [bytesOf_length]; omega)]
    rfl
  | succ d ih =>
    intro n h
    rw [bytes_cons s n (by omega)]
    simp only [allS, List.all_cons]
    rw [← ih (n + 1) (by omega)]
    rfl

def wantL : List Int → Bool
  | [] => false
  | c :: r => letB c && r.all sgB && decide (r.length < 16)

theorem want_list (s : ByteArray) : want s = wantL (bytesOf s) := by
  unfold want
  by_cases h : s.size = 0
  · have : bytesOf s = [] := List.length_eq_zero_iff.1 (by rw [bytesOf_length]; exact h)
    rw [this]
    simp [h, wantL]
  · have e := bytes_cons s 0 (by omega)
    rw [List.drop_zero] at e
    rw [e]
    have ha := allS_list s (s.size - 1) 1 (by omega)
    have hl : ((bytesOf s).drop (0 + 1)).length = s.size - 1 := by rw [List.length_drop, bytesOf_length]
    simp only [wantL]
    rw [hl]
    have ha' : allS s (s.size - 1) 1 = ((bytesOf s).drop (0 + 1)).all sgB := ha
    rw [ha']
    have h1 : decide (1 ≤ s.size) = true := decide_eq_true (by omega)
    have h2 : decide (s.size - 1 < 16) = decide ((s.size : Int) ≤ 16) := by
      by_cases h3 : (s.size : Int) ≤ 16
      · rw [decide_eq_true h3, decide_eq_true (by omega)]
      · rw [decide_eq_false h3, decide_eq_false (by omega)]
    rw [h1, h2]
    simp

def lo (c : Int) : Int := if 65 ≤ c ∧ c ≤ 90 then c + 32 else c
def stepF (out : List Int) (c : Int) : List Int :=
  if sgB (lo c) = true then (if (out = [] → letB (lo c) = true) ∧ out.length < 16 then out ++ [lo c] else out) else out

theorem or32 (c : Int) (h : 65 ≤ c ∧ c ≤ 90) : Go.bits .or .u8 c 32 = c + 32 := by
  have : ∀ n : Fin 26, Go.bits .or .u8 (65 + (n.val : Int)) 32 = 97 + (n.val : Int) := by decide +kernel
  have h' := this ⟨(c - 65).toNat, by omega⟩
  have e : (65 + (((c - 65).toNat : Nat) : Int)) = c := by omega
  have e' : (97 + (((c - 65).toNat : Nat) : Int)) = c + 32 := by omega
  simp only [e, e'] at h'
  exact h'

theorem fold_j2 (s : ByteArray) (out : List Int) (c sz i : Int) (hc : ∃ b, c = lo b) (k : Nat) (ho : out.length ≤ 16) :
    name_Fold.j2 (k + 1) s out c sz i = name_Fold.l0 k s (if sgB c = true then (if (out = [] → letB c = true) ∧ out.length < 16 then out ++ [c] else out) else out) sz (wrap64 (i + 1)) := by
  simp only [name_Fold.j2]
  rw [sign_is, letter_is]
  simp only [Option.bind_some]
  by_cases h : sgB c = true
  · rw [if_pos h, if_pos h]
    cases out with
    | nil =>
      rw [if_neg (by simp)]
      by_cases hl : letB c = true
      · rw [if_pos hl, if_pos (by simp), if_pos (by simp), if_pos ⟨fun _ => hl, by simp⟩]
      · rw [if_neg hl, if_neg (fun h => hl (h.1 rfl))]
    | cons a r =>
      rw [if_pos (by simp)]
      by_cases h16 : (a :: r).length < 16
      · rw [if_pos (by omega), if_pos (by omega), if_pos ⟨(fun h => by cases h), h16⟩]
      · rw [if_neg (by omega), if_neg (fun h => h16 h.2)]
  · rw [if_neg h, if_neg h]

theorem step_len (out : List Int) (c : Int) (h : out.length ≤ 16) : (stepF out c).length ≤ 16 := by
  unfold stepF
  split
  · split
    · rename_i h1
      simp
      omega
    · exact h
  · exact h

theorem fold_l0 (s : ByteArray) (hn : s.size ≤ 140737488351232) : ∀ (d k n : Nat) (out : List Int), n + d = s.size → out.length ≤ 16 → 3 * d < k →
    name_Fold.l0 k s out (s.size : Int) (n : Int) = some (strOfNums (((bytesOf s).drop n).foldl stepF out)) := by
  intro d
  induction d with
  | zero =>
    intro k n out h1 ho hk
    obtain ⟨k, rfl⟩ : ∃ m, k = m + 1 := ⟨k - 1, by omega⟩
    simp only [name_Fold.l0]
    rw [if_neg (by omega), List.drop_eq_nil_of_le (by rw [bytesOf_length]; omega)]
    rfl
  | succ d ih =>
    intro k n out h1 ho hk
    obtain ⟨k, rfl⟩ : ∃ m, k = m + 1 + 1 + 1 := ⟨k - 3, by omega⟩
    have hlt : (n : Int) < (s.size : Int) := by omega
    rw [bytes_cons s n (by omega), List.foldl_cons]
    have hi := ih k (n + 1) (stepF out (bt s n)) (by omega) (step_len _ _ ho) (by omega)
    have hw := wrap_up (show (0 : Int) ≤ (n : Int) by omega) hlt hn
    simp only [name_Fold.l0]
    rw [if_pos hlt, if_pos (by omega), if_pos hlt]
    have key : ∀ b : Bool, (b = true ↔ 65 ≤ bt s n ∧ bt s n ≤ 90) → name_Fold.j1 (k + 1 + 1) s out (bt s n) (s.size : Int) (n : Int) b = some (strOfNums (((bytesOf s).drop (n + 1)).foldl stepF (stepF out (bt s n)))) := by
      intro b hb
      simp only [name_Fold.j1]
      by_cases hbt : b = true
      · have hr := hb.1 hbt
        have hlo : lo (bt s n) = bt s n + 32 := by unfold lo; rw [if_pos hr]
        rw [if_pos hbt, or32 _ hr, ← hlo, fold_j2 s out (lo (bt s n)) _ _ ⟨_, rfl⟩ k ho, hw]
        exact hi
      · have hr : ¬ (65 ≤ bt s n ∧ bt s n ≤ 90) := fun h => hbt (hb.2 h)
        have hlo : lo (bt s n) = bt s n := by unfold lo; rw [if_neg hr]
        have hg := fold_j2 s out (lo (bt s n)) (s.size : Int) (n : Int) ⟨_, rfl⟩ k ho
        rw [if_neg hbt]
        conv => lhs; rw [← hlo]
        rw [hg, hw]
        exact hi
    by_cases h65 : bt s n ≥ 65
    · rw [if_pos h65]
      exact key _ (by simp; omega)
    · rw [if_neg h65]
      exact key _ (by simp; omega)

theorem fold_is (s : ByteArray) (hn : s.size ≤ 140737488351232) (k : Nat) (hk : 3 * s.size < k) : name_Fold.f k s = some (strOfNums ((bytesOf s).foldl stepF [])) := by
  unfold name_Fold.f
  have := fold_l0 s hn s.size k 0 [] (by omega) (by simp) hk
  rw [List.drop_zero] at this
  exact this

theorem sg_range {c : Int} (h : sgB c = true) : 45 ≤ c ∧ c ≤ 122 := by
  unfold sgB letB at h
  simp at h
  omega

theorem sg_lo {c : Int} (h : sgB c = true) : lo c = c := by
  unfold lo
  rw [if_neg]
  unfold sgB letB at h
  simp at h
  omega

/-- What is so far: nothing, or a name. -/
def Fine (out : List Int) : Prop := out = [] ∨ wantL out = true

theorem fine_len {out : List Int} (h : Fine out) : out.length ≤ 16 := by
  rcases h with rfl | h
  · simp
  · cases out with
    | nil => simp
    | cons c r =>
      simp [wantL] at h
      simp
      omega

theorem fine_step (out : List Int) (c : Int) (h : Fine out) : Fine (stepF out c) := by
  unfold stepF
  split
  · rename_i hs
    split
    · rename_i hl
      right
      cases out with
      | nil => simp [wantL, hl.1 rfl]
      | cons a r =>
        rcases h with h | h
        · cases h
        · simp only [wantL, Bool.and_eq_true, decide_eq_true_eq] at h
          have := hl.2
          simp only [List.length_cons] at this
          simp only [List.cons_append, wantL, List.all_append, List.all_cons, List.all_nil, hs, h.1.1, h.1.2, List.length_append, List.length_cons, List.length_nil]
          simp
          omega
    · exact h
  · exact h

theorem fine_fold (l : List Int) : ∀ out, Fine out → Fine (l.foldl stepF out) := by
  induction l with
  | nil => intro out h; exact h
  | cons c r ih => intro out h; exact ih _ (fine_step out c h)

theorem want_all {l : List Int} (h : wantL l = true) : ∀ c ∈ l, sgB c = true := by
  cases l with
  | nil => intro c hc; cases hc
  | cons a r =>
    simp only [wantL, Bool.and_eq_true] at h
    intro c hc
    rcases List.mem_cons.1 hc with rfl | hc
    · exact let_sg h.1.1
    · exact List.all_eq_true.1 h.1.2 c hc

theorem fold_same_rest : ∀ (r pre : List Int), pre ≠ [] → r.all sgB = true → pre.length + r.length ≤ 16 → r.foldl stepF pre = pre ++ r := by
  intro r
  induction r with
  | nil => intro pre _ _ _; simp
  | cons c r ih =>
    intro pre h1 h2 h3
    simp only [List.all_cons, Bool.and_eq_true] at h2
    simp only [List.length_cons] at h3
    have hst : stepF pre c = pre ++ [c] := by
      unfold stepF
      rw [sg_lo h2.1, if_pos h2.1, if_pos ⟨fun h => absurd h h1, by omega⟩]
    rw [List.foldl_cons, hst, ih (pre ++ [c]) (by simp) h2.2 (by simp; omega)]
    simp

theorem fold_same {l : List Int} (h : wantL l = true) : l.foldl stepF [] = l := by
  cases l with
  | nil => rfl
  | cons c r =>
    simp only [wantL, Bool.and_eq_true, decide_eq_true_eq] at h
    have hst : stepF [] c = [c] := by
      unfold stepF
      rw [sg_lo (let_sg h.1.1), if_pos (let_sg h.1.1), if_pos ⟨fun _ => h.1.1, by simp⟩]
      rfl
    rw [List.foldl_cons, hst, fold_same_rest r [c] (by simp) h.1.2 (by simp; omega)]
    rfl

/-- What the law asks of one sign and of a letter 'a' ahead of it. -/
theorem ref_two (c : Int) (hc : 0 ≤ c ∧ c ≤ 255) (k : Nat) (hk : 5 < k) : catacombref12_Right.f k ((⟨#[97]⟩ : ByteArray) ++ strOfNums [c]) = some (sgB c) := by
  have e : (⟨#[97]⟩ : ByteArray) = strOfNums [97] := by rfl
  rw [e, str_app, ref_is _ (by rw [size_str]; simp) k (by rw [size_str]; simp; omega), want_list, bytes_str _ (by simp; omega)]
  simp [wantL]
  intro _
  rfl

theorem ref_one (c : Int) (hc : 0 ≤ c ∧ c ≤ 255) (k : Nat) (hk : 5 < k) : catacombref12_Right.f k (strOfNums [c]) = some (letB c) := by
  rw [ref_is _ (by rw [size_str]; simp) k (by rw [size_str]; simp; omega), want_list, bytes_str _ (by simp; omega)]
  simp [wantL]

theorem lo_range {c : Int} (hc : 0 ≤ c ∧ c ≤ 255) : 0 ≤ lo c ∧ lo c ≤ 255 := by
  unfold lo
  split <;> omega

theorem law_j3 (s : ByteArray) (out : List Int) (c sz i : Int) (hc : 0 ≤ c ∧ c ≤ 255) (ho : out.length ≤ 16) (k : Nat) (hk : 5 < k) :
    catacomblaw12_NameFolds.j3 (k + 1) s (strOfNums out) (strOfNums [c]) sz i = catacomblaw12_NameFolds.l0 k s (strOfNums (if sgB c = true then (if (out = [] → letB c = true) ∧ out.length < 16 then out ++ [c] else out) else out)) sz (wrap64 (i + 1)) := by
  simp only [catacomblaw12_NameFolds.j3]
  rw [ref_two c hc k hk, ref_one c hc k hk, size_str, size_str]
  simp only [Option.bind_some]
  have hs1 : (1 : Nat) + [c].length ≤ 9223372036854775807 := by simp
  have hs2 : out.length + [c].length ≤ 9223372036854775807 := by simp; omega
  rw [if_pos hs1, if_pos hs2, str_app]
  have hnil : (strOfNums out).toList = ([] : List UInt8) ↔ out = [] := by
    rw [toList_nil, size_str]
    exact List.length_eq_zero_iff
  by_cases h16 : out.length < 16
  · rw [if_pos (show (out.length : Int) < 16 by omega)]
    by_cases h : sgB c = true
    · rw [if_pos h, if_pos h]
      by_cases he : out = []
      · rw [if_pos (hnil.2 he)]
        by_cases hl : letB c = true
        · rw [if_pos hl, if_pos ⟨fun _ => hl, h16⟩]
        · rw [if_neg hl, if_neg (fun h => hl (h.1 he))]
      · rw [if_neg (fun h => he (hnil.1 h)), if_pos ⟨fun h => absurd h he, h16⟩]
    · rw [if_neg h, if_neg h]
  · rw [if_neg (show ¬ (out.length : Int) < 16 by omega)]
    congr 2
    split
    · rw [if_neg (fun h => h16 h.2)]
    · rfl

/-- What is asked behind the loop. -/
def tail (k : Nat) (s x : ByteArray) : Option Bool :=
  ((name_Fold.f k s).bind fun t116 => (if t116.toList = x.toList then (if t116.toList = ([] : List UInt8) then ((catacombref12_Right.f k s).bind fun t117 => (if t117 = true then (some (t116.toList == s.toList)) else (some true))) else ((catacombref12_Right.f k t116).bind fun t118 => (if t118 = true then ((catacombref12_Right.f k s).bind fun t119 => (if t119 = true then (some (t116.toList == s.toList)) else (some true))) else (some false)))) else (some false)))

theorem tail_is (s : ByteArray) (hn : s.size ≤ 100) (k : Nat) (hk : 400 < k) : tail k s (strOfNums ((bytesOf s).foldl stepF [])) = some true := by
  unfold tail
  rw [fold_is s (by omega) k (by omega)]
  simp only [Option.bind_some, if_true]
  have hf := fine_fold (bytesOf s) [] (Or.inl rfl)
  generalize hg : (bytesOf s).foldl stepF [] = out at hf ⊢
  have hlen := fine_len hf
  rw [ref_is s (by omega) k (by omega), want_list]
  simp only [Option.bind_some]
  have hsame : wantL (bytesOf s) = true → strOfNums out = s := by
    intro h
    rw [fold_same h] at hg
    rw [← hg, str_bytes]
  have hlast : (if wantL (bytesOf s) = true then some ((strOfNums out).toList == s.toList) else some true) = some true := by
    by_cases h : wantL (bytesOf s) = true
    · rw [if_pos h, hsame h]
      simp
    · rw [if_neg h]
  rw [hlast]
  by_cases h0 : (strOfNums out).toList = ([] : List UInt8)
  · rw [if_pos h0]
  · rw [if_neg h0]
    have hw : wantL out = true := by
      rcases hf with rfl | h
      · exact absurd ((toList_nil _).2 (by rw [size_str]; rfl)) h0
      · exact h
    rw [ref_is _ (by rw [size_str]; omega) k (by rw [size_str]; omega), want_list, bytes_str _ (fun c hc => by have := sg_range (want_all hw c hc); omega), hw]
    simp

theorem law_l0 (s : ByteArray) (hn : s.size ≤ 100) : ∀ (d k n : Nat) (out : List Int), n + d = s.size → out.length ≤ 16 → ((bytesOf s).drop n).foldl stepF out = (bytesOf s).foldl stepF [] → 3 * d + 410 < k →
    catacomblaw12_NameFolds.l0 k s (strOfNums out) (s.size : Int) (n : Int) = some true := by
  intro d
  induction d with
  | zero =>
    intro k n out h1 ho he hk
    obtain ⟨k, rfl⟩ : ∃ m, k = m + 1 := ⟨k - 1, by omega⟩
    simp only [catacomblaw12_NameFolds.l0]
    rw [if_neg (by omega)]
    rw [List.drop_eq_nil_of_le (by rw [bytesOf_length]; omega), List.foldl_nil] at he
    rw [he]
    exact tail_is s hn k (by omega)
  | succ d ih =>
    intro k n out h1 ho he hk
    obtain ⟨k, rfl⟩ : ∃ m, k = m + 1 + 1 + 1 := ⟨k - 3, by omega⟩
    have hlt : (n : Int) < (s.size : Int) := by omega
    rw [bytes_cons s n (by omega), List.foldl_cons] at he
    have hi := ih k (n + 1) (stepF out (bt s n)) (by omega) (step_len _ _ ho) he (by omega)
    have hw := wrap_up (show (0 : Int) ≤ (n : Int) by omega) hlt (by omega)
    have hr := bt_range s n
    simp only [catacomblaw12_NameFolds.l0]
    rw [hw, if_pos hlt, if_pos (by omega), if_pos (by omega), if_pos (by omega), if_pos hlt]
    have hex : s.extract (n : Int).toNat ((n : Int) + 1).toNat = strOfNums [bt s n] := by
      have e1 : (n : Int).toNat = n := by omega
      have e2 : ((n : Int) + 1).toNat = n + 1 := by omega
      rw [e1, e2]
      exact extract_one s n (by omega)
    rw [hex]
    have key : ∀ b : Bool, (b = true ↔ 65 ≤ bt s n ∧ bt s n ≤ 90) → catacomblaw12_NameFolds.j2 (k + 1 + 1) s (strOfNums out) (n : Int) (strOfNums [bt s n]) (s.size : Int) (n : Int) b = some true := by
      intro b hb
      simp only [catacomblaw12_NameFolds.j2]
      by_cases hbt : b = true
      · have hq := hb.1 hbt
        have hlo : lo (bt s n) = bt s n + 32 := by unfold lo; rw [if_pos hq]
        have hm : ((((bt s n) - 65) % 256) + 97) % 256 = lo (bt s n) := by rw [hlo]; omega
        rw [if_pos hbt, if_pos (by omega), if_pos hlt, hm, law_j3 s out (lo (bt s n)) _ _ (lo_range hr) ho k (by omega), hw]
        exact hi
      · have hq : ¬ (65 ≤ bt s n ∧ bt s n ≤ 90) := fun h => hbt (hb.2 h)
        have hlo : lo (bt s n) = bt s n := by unfold lo; rw [if_neg hq]
        have hg := law_j3 s out (lo (bt s n)) (s.size : Int) (n : Int) (lo_range hr) ho k (by omega)
        rw [if_neg hbt]
        conv => lhs; rw [← hlo]
        rw [hg, hw]
        exact hi
    by_cases h65 : bt s n ≥ 65
    · rw [if_pos h65]
      exact key _ (by simp; omega)
    · rw [if_neg h65]
      exact key _ (by simp; omega)

end NameFoldsPure
open NameFoldsPure

theorem NameFolds : catacomblaw12_NameFolds.Pure := by
  intro s hn
  refine ⟨3 * s.size + 450, ?_⟩
  unfold catacomblaw12_NameFolds.f
  rw [lives_ok _ (by omega)]
  simp only [Option.bind_some, if_true]
  obtain ⟨k, hk⟩ : ∃ k, 3 * s.size + 450 = k + 1 := ⟨3 * s.size + 449, by omega⟩
  rw [hk]
  simp only [catacomblaw12_NameFolds.j0]
  by_cases h : (s.size : Int) > 100
  · rw [if_pos (decide_eq_true h), lives_ok _ (by omega)]; rfl
  · rw [if_neg (by simpa using h)]
    have e : (⟨#[]⟩ : ByteArray) = strOfNums [] := rfl
    rw [e]
    exact law_l0 s (by omega) s.size k 0 [] (by omega) (by simp) (by rw [List.drop_zero]) (by omega)

end Go.Proofs.Ytafcogdplhljmaa.Pure
