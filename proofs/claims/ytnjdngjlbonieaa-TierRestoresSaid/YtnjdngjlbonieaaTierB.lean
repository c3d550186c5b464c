/- Windows and aggregates of points, plain. -/
import Derived.Test.YtnjdngjlbonieaaTierA
import Derived.Lib.Hide
import Derived.LoopTactic
import Derived.Outline
import Derived.Laws.Rows
import Derived.Laws.CopyOwn
import Derived.WalkKit
set_option linter.unusedVariables false
set_option linter.unusedSimpArgs false
namespace Go.Proofs.Ytnjdngjlbonieaa
open Go.RowKit Go.Proofs.YtnjdngjlbonieaaW.PrintWords Go.Proofs.YtnjdngjlbonieaaW.PrintLast Go.Proofs.YtnjdngjlbonieaaW.PrintMore
open Go.Proofs.Ytnjdngjlbonieaa.PTierForgets
attribute [local go_sem] max2_int min2_int max_two min_two max_three min_three max_four min_four

theorem u64w (n : Int) : IntKind.u64.wrap n = n % 18446744073709551616 := by simp [IntKind.wrap, IntKind.bits, IntKind.signed]
/-- A sum, as nums.Add tells it. -/
def addN (a b : Int) : Int := (nums_Add.f a b).getD 0
theorem addN_is (a b : Int) : nums_Add.f a b = some (addN a b) := by
  unfold addN nums_Add.f nums_end.f
  split
  · split
    · split <;> rfl
    · rfl
  · rfl
theorem addN_pos {a b : Int} (ha : 1 ≤ a) (ha2 : a ≤ 9223372036854775807) (hb : 1 ≤ b) (hb2 : b ≤ 9223372036854775807) : 1 ≤ addN a b ∧ addN a b ≤ 9223372036854775807 := by
  have hw : wrap64 (IntKind.u64.wrap (IntKind.u64.wrap a + IntKind.u64.wrap b)) = wrap64 (a + b) := by
    rw [u64w, u64w, u64w]
    unfold wrap64
    omega
  unfold addN nums_Add.f nums_end.f
  rw [hw, decide_eq_false (show ¬ a < 0 by omega), decide_eq_false (show ¬ b < 0 by omega), if_pos (by decide)]
  by_cases h : a + b ≤ 9223372036854775807
  · have e : wrap64 (a + b) = a + b := by unfold wrap64; omega
    rw [e, decide_eq_false (show ¬ a + b < 0 by omega), if_neg (by decide)]
    show 1 ≤ a + b ∧ a + b ≤ 9223372036854775807
    omega
  · have e : wrap64 (a + b) < 0 := by unfold wrap64; omega
    rw [decide_eq_true e, if_pos (by decide), if_neg (by decide)]
    show (1 : Int) ≤ 9223372036854775807 ∧ _
    decide
def zero31 : S31 := ⟨0, 0, 0, 0, 0⟩
/-- With a value more. -/
def addO (t : S31) (p : S29) : S31 := if t.f1 < 1 then ⟨t.f0, 1, p.f1, p.f1, p.f1⟩ else ⟨t.f0, addN t.f1 1, addN t.f2 p.f1, mn t.f3 p.f1, mx t.f4 p.f1⟩
theorem radd_isP (t : S31) (p : S29) : roll_Add.f t.f0 t.f1 t.f2 t.f3 t.f4 p.f1 = some ((addO t p).f0, (addO t p).f1, (addO t p).f2, (addO t p).f3, (addO t p).f4) := by
  unfold roll_Add.f addO
  by_cases h : t.f1 < 1
  · rw [if_pos h, if_pos h]
  · rw [if_neg h, if_neg h, addN_is, addN_is]
    rfl
def ofP (at_ : Int) (l : List S29) : S31 × Bool := if l = [] then (zero31, false) else (l.foldl addO ⟨at_, 0, 0, 0, 0⟩, true)
theorem dropP29 (l : List S29) (n : Nat) (h : n < l.length) : l.drop n = rd_T29 l n :: l.drop (n + 1) := by
  rw [List.drop_eq_getElem_cons h]
  congr 1
  unfold rd_T29
  simp [h]
theorem dropP31 (l : List S31) (n : Nat) (h : n < l.length) : l.drop n = rd_T31 l n :: l.drop (n + 1) := by
  rw [List.drop_eq_getElem_cons h]
  congr 1
  unfold rd_T31
  simp [h]
theorem wrap_upP {i : Nat} (h : i < 1000) : wrap64 ((i : Int) + 1) = ((i + 1 : Nat) : Int) := by unfold wrap64; omega
theorem of_l0 (l : List S29) (hl : l.length ≤ 256) : ∀ (k n : Nat) (t : S31), l.length - n < k → n ≤ l.length → roll_Of.l0 k l (l.length : Int) (n : Int) t.f0 t.f1 t.f2 t.f3 t.f4 =
    some (((l.drop n).foldl addO t).f0, ((l.drop n).foldl addO t).f1, ((l.drop n).foldl addO t).f2, ((l.drop n).foldl addO t).f3, ((l.drop n).foldl addO t).f4, true) := by
  intro k
  induction k with
  | zero => intro n t h; omega
  | succ k ih =>
    intro n t h hn
    unfold roll_Of.l0
    by_cases hlt : n < l.length
    · rw [if_pos (by omega), if_pos (by omega), if_pos (by omega), radd_isP, dropP29 l n hlt, List.foldl_cons, wrap_upP (by omega)]
      exact ih (n + 1) (addO t (rd_T29 l n)) (by omega) (by omega)
    · rw [if_neg (by omega), List.drop_of_length_le (by omega)]
      rfl
theorem of_isP (at_ : Int) (l : List S29) (hl : l.length ≤ 256) : roll_Of.f 300 at_ l = some ((ofP at_ l).1.f0, (ofP at_ l).1.f1, (ofP at_ l).1.f2, (ofP at_ l).1.f3, (ofP at_ l).1.f4, (ofP at_ l).2) := by
  unfold roll_Of.f ofP
  by_cases h : l = []
  · subst h; rfl
  · have h0 : l.length ≠ 0 := fun e => h (List.length_eq_zero_iff.1 e)
    rw [if_neg (by omega), if_neg h]
    have := of_l0 l hl 300 0 ⟨at_, 0, 0, 0, 0⟩ (by omega) (by omega)
    rw [List.drop_zero] at this
    exact this
/-- An aggregate that may be. -/
def okA (x : S31) : Prop := 1 ≤ x.f1 ∧ x.f1 ≤ 9223372036854775807 ∧ x.f3 ≤ x.f4
theorem addO_ok {t : S31} (p : S29) (h : okA t) : okA (addO t p) ∧ (addO t p).f0 = t.f0 := by
  obtain ⟨h1, h2, h3⟩ := h
  unfold addO okA
  rw [if_neg (by omega)]
  have := addN_pos h1 h2 (by decide : (1 : Int) ≤ 1) (by decide)
  refine ⟨⟨this.1, this.2, ?_⟩, rfl⟩
  show mn t.f3 p.f1 ≤ mx t.f4 p.f1
  unfold mn mx
  split <;> split <;> omega
theorem accO_ok : ∀ (l : List S29) (t : S31), okA t → okA (l.foldl addO t) ∧ (l.foldl addO t).f0 = t.f0
  | [], t, h => ⟨h, rfl⟩
  | p :: r, t, h => by
    have h1 := addO_ok p h
    have h2 := accO_ok r (addO t p) h1.1
    exact ⟨h2.1, h2.2.trans h1.2⟩
theorem ofP_ok (at_ : Int) {l : List S29} (h : l ≠ []) : okA (ofP at_ l).1 ∧ (ofP at_ l).1.f0 = at_ ∧ (ofP at_ l).2 = true := by
  unfold ofP
  rw [if_neg h]
  cases l with
  | nil => exact absurd rfl h
  | cons p r =>
    have e : addO ⟨at_, 0, 0, 0, 0⟩ p = ⟨at_, 1, p.f1, p.f1, p.f1⟩ := by unfold addO; rw [if_pos (show (0 : Int) < 1 by decide)]
    have h2 := accO_ok r ⟨at_, 1, p.f1, p.f1, p.f1⟩ ⟨show (1 : Int) ≤ 1 by decide, show (1 : Int) ≤ 9223372036854775807 by decide, Int.le_refl _⟩
    rw [List.foldl_cons, e]
    exact ⟨h2.1, h2.2, rfl⟩
/-- With an aggregate more. -/
def addJ (b : Bool × S31) (x : S31) : Bool × S31 := if x.f1 < 1 then b else if b.1 = true then (true, ⟨0, addN b.2.f1 x.f1, addN b.2.f2 x.f2, mn b.2.f3 x.f3, mx b.2.f4 x.f4⟩) else (true, x)
def endJ (at_ : Int) (b : Bool × S31) : S31 × Bool := if b.1 = true then (⟨at_, b.2.f1, b.2.f2, b.2.f3, b.2.f4⟩, true) else (zero31, false)
def joinP (at_ : Int) (l : List S31) : S31 × Bool := endJ at_ (l.foldl addJ (false, zero31))
theorem join_l0 (at_ : Int) (l : List S31) (hl : l.length ≤ 256) : ∀ (k n : Nat) (b : Bool × S31), l.length - n < k → n ≤ l.length → roll_Join.l0 k at_ b.1 l (l.length : Int) (n : Int) b.2.f0 b.2.f1 b.2.f2 b.2.f3 b.2.f4 =
    some ((endJ at_ ((l.drop n).foldl addJ b)).1.f0, (endJ at_ ((l.drop n).foldl addJ b)).1.f1, (endJ at_ ((l.drop n).foldl addJ b)).1.f2, (endJ at_ ((l.drop n).foldl addJ b)).1.f3, (endJ at_ ((l.drop n).foldl addJ b)).1.f4, (endJ at_ ((l.drop n).foldl addJ b)).2) := by
  intro k
  induction k with
  | zero => intro n t h; omega
  | succ k ih =>
    intro n b h hn
    unfold roll_Join.l0
    by_cases hlt : n < l.length
    · rw [if_pos (by omega), if_pos (by omega), if_pos (by omega), dropP31 l n hlt, List.foldl_cons, wrap_upP (by omega)]
      have hh := ih (n + 1) (addJ b (rd_T31 l n)) (by omega) (by omega)
      rw [← hh]
      unfold addJ
      by_cases h1 : (rd_T31 l n).f1 < 1
      · rw [if_pos h1, if_pos h1]
      · rw [if_neg h1, if_neg h1]
        by_cases h2 : b.1 = true
        · rw [if_pos h2, if_pos h2, addN_is, addN_is, h2]
          rfl
        · rw [if_neg h2, if_neg h2]
    · rw [if_neg (by omega), List.drop_of_length_le (by omega)]
      show _ = some ((endJ at_ b).1.f0, _)
      unfold endJ
      by_cases h2 : b.1 = true
      · rw [if_pos h2, List.foldl_nil, if_pos h2]
      · rw [if_neg h2, List.foldl_nil, if_neg h2]
        rfl
theorem join_isP (at_ : Int) (l : List S31) (hl : l.length ≤ 256) : roll_Join.f 300 at_ l = some ((joinP at_ l).1.f0, (joinP at_ l).1.f1, (joinP at_ l).1.f2, (joinP at_ l).1.f3, (joinP at_ l).1.f4, (joinP at_ l).2) := by
  have := join_l0 at_ l hl 300 0 (false, zero31) (by omega) (by omega)
  rw [List.drop_zero] at this
  exact this
theorem accJ_ok : ∀ (l : List S31) (b : Bool × S31), (∀ x ∈ l, okA x) → (b.1 = true → okA b.2) → (b.1 = true ∨ l ≠ []) → (l.foldl addJ b).1 = true ∧ okA (l.foldl addJ b).2
  | [], b, _, h, h0 => by
    rcases h0 with h0 | h0
    · exact ⟨h0, h h0⟩
    · exact absurd rfl h0
  | x :: r, b, hl, h, _ => by
    have hx := hl x List.mem_cons_self
    obtain ⟨x1, x2, x3⟩ := hx
    rw [List.foldl_cons]
    refine accJ_ok r (addJ b x) (fun y hy => hl y (List.mem_cons_of_mem _ hy)) (fun _ => ?_) (.inl ?_)
    · unfold addJ
      rw [if_neg (by omega)]
      by_cases hb : b.1 = true
      · rw [if_pos hb]
        obtain ⟨b1, b2, b3⟩ := h hb
        have h4 := addN_pos b1 b2 x1 x2
        refine ⟨h4.1, h4.2, ?_⟩
        show mn b.2.f3 x.f3 ≤ mx b.2.f4 x.f4
        unfold mn mx
        split <;> split <;> omega
      · rw [if_neg hb]
        exact ⟨x1, x2, x3⟩
    · unfold addJ
      rw [if_neg (by omega)]
      split <;> rfl
theorem joinP_ok (at_ : Int) {l : List S31} (hl : ∀ x ∈ l, okA x) (h : l ≠ []) : okA (joinP at_ l).1 ∧ (joinP at_ l).1.f0 = at_ ∧ (joinP at_ l).2 = true := by
  have := accJ_ok l (false, zero31) hl (fun h => by cases h) (.inr h)
  unfold joinP endJ
  rw [if_pos this.1]
  exact ⟨this.2, rfl, rfl⟩
theorem joinP_nil (at_ : Int) : joinP at_ [] = (zero31, false) := rfl
/-- Where a window of so many ticks begins. -/
def stW (wd x : Int) : Int := x - x % wd
theorem stW_bd {wd x : Int} (hw : 0 < wd) (hx : 0 ≤ x) : 0 ≤ stW wd x ∧ stW wd x ≤ x ∧ x < stW wd x + wd := by
  unfold stW
  have h1 := Int.emod_nonneg x (show wd ≠ 0 by omega)
  have h2 := Int.emod_lt_of_pos x hw
  have h3 : x % wd ≤ x := by
    have := Int.mul_ediv_add_emod x wd
    have h4 : 0 ≤ x / wd := Int.ediv_nonneg hx (by omega)
    have h5 : 0 ≤ wd * (x / wd) := Int.mul_nonneg (by omega) h4
    omega
  omega
theorem width12 {t : Int} (ht : t = 1 ∨ t = 2) : 0 < widthT t ∧ widthT t ≤ 3600 ∧ widthT t ≠ 0 := by
  rcases ht with rfl | rfl <;> decide
theorem wOf_is {t x : Int} (ht : t = 1 ∨ t = 2) (hx : 0 ≤ x) (hx2 : x ≤ 4611686018427380000) : window_Of.f 10 t x = some (stW (widthT t) x, stW (widthT t) x + widthT t) := by
  have hw := width12 ht
  have hs := stW_bd hw.1 hx
  unfold window_Of.f
  rw [width_is]
  show (if widthT t = 0 then _ else _) = _
  rw [if_neg hw.2.2, if_neg (by omega), decide_eq_false (by omega)]
  show (if false = true then (some ((0 : Int), (0 : Int))) else ((window_Start.f t x).bind fun t121 => ((window_end.f t121 (widthT t)).bind fun t122 => some (t121, t122)))) = _
  rw [if_neg (by decide), start_is t x hx (by omega) hw.2.2]
  show (window_end.f (stW (widthT t) x) (widthT t)).bind _ = _
  unfold window_end.f
  rw [if_neg (by omega), show wrap64 (stW (widthT t) x + widthT t) = stW (widthT t) x + widthT t by unfold wrap64; omega]
  rfl
theorem wMeets_is (a b c d : Int) : window_Meets.f a b c d = some (decide (mx a c < mn b d)) := by
  unfold window_Meets.f window_Both.f
  by_cases h : mx a c < mn b d
  · rw [if_neg (by omega), decide_eq_true h]; rfl
  · rw [if_pos (by omega), decide_eq_false h]; rfl
theorem wIn_is (a b x : Int) : window_In.f a b x = some (decide (a ≤ x) && decide (x < b)) := by
  unfold window_In.f
  by_cases h : a ≤ x
  · rw [if_pos (by omega), decide_eq_true h, Bool.true_and]
  · rw [if_neg (by omega), decide_eq_false h, Bool.false_and]
def rightR (a b : Int) : Bool := decide (0 ≤ a) && decide (a < b) && decide (b ≤ 1099511627777)
theorem wRight_is (a b : Int) : window_Right.f a b = some (rightR a b) := by
  unfold window_Right.f rightR
  by_cases h : 0 ≤ a
  · rw [if_pos (by omega), decide_eq_true h, Bool.true_and]
    by_cases h2 : a < b
    · rw [if_pos h2, decide_eq_true h2, Bool.true_and]
    · rw [if_neg h2, decide_eq_false h2, Bool.false_and]
  · rw [if_neg (by omega), decide_eq_false h, Bool.false_and, Bool.false_and]
theorem wCover_is {t a b : Int} (ht : t = 1 ∨ t = 2) (h : rightR a b = true) : window_Cover.f 20 t a b = some (stW (widthT t) a, stW (widthT t) (b - 1) + widthT t) := by
  have hw := width12 ht
  have h2 := h
  unfold rightR at h2
  simp only [Bool.and_eq_true, decide_eq_true_eq] at h2
  unfold window_Cover.f
  rw [wRight_is, h]
  show (if true = true then ((window_Width.f t).bind fun t165 => window_Cover.j0 20 t (t165 == 0) a b) else window_Cover.j0 20 t true a b) = _
  rw [if_pos rfl, width_is]
  show window_Cover.j0 20 t (widthT t == 0) a b = _
  rw [beq_eq_false_iff_ne.2 hw.2.2]
  show (if false = true then (some ((0 : Int), (0 : Int))) else ((window_Start.f t a).bind fun t166 => ((window_Of.f 19 t (wrap64 (b - 1))).bind fun bt167 => some (t166, bt167.2)))) = _
  rw [if_neg (by decide), start_is t a (by omega) (by omega) hw.2.2, show wrap64 (b - 1) = b - 1 by unfold wrap64; omega]
  have hm : window_Of.f 19 t (b - 1) = window_Of.f 10 t (b - 1) := rfl
  show (window_Of.f 19 t (b - 1)).bind _ = _
  rw [hm, wOf_is ht (by omega) (by omega)]
  rfl
end Go.Proofs.Ytnjdngjlbonieaa
