/- Aggregates of points, plain: of one by one, and of the law. -/
import Derived.Test.YtnjdngjlbonieaaPRollWindowsx2
import Derived.Test.YtnjdngjlbonieaaPRollWindowsx3
import Derived.Test.YtnjdngjlbonieaaRollB
import Derived.Lib.Hide
import Derived.LoopTactic
import Derived.Outline
import Derived.Laws.Rows
import Derived.Laws.CopyOwn
import Derived.WalkKit
set_option linter.unusedVariables false
set_option linter.unusedSimpArgs false
namespace Go.Proofs.Ytnjdngjlbonieaa
open Go.RowKit Go.Proofs.YtnjdngjlbonieaaW.PrintWords Go.Proofs.YtnjdngjlbonieaaW.PrintLast Go.Proofs.YtnjdngjlbonieaaW.PrintMore
open Go.Proofs.Ytnjdngjlbonieaa.PRollWindows
attribute [local go_sem] max2_int min2_int max_two min_two max_three min_three max_four min_four

namespace RollOfPure

/-- A number of 64 bits. -/
def In64 (n : Int) : Prop := -9223372036854775808 ≤ n ∧ n ≤ 9223372036854775807
def sat (a b : Int) : Int := if a + b > 9223372036854775807 then 9223372036854775807 else if a + b < -9223372036854775808 then -9223372036854775808 else a + b

theorem sat_in (a b : Int) : In64 (sat a b) := by
  unfold sat In64
  split
  · omega
  · split <;> omega

theorem u64 (n : Int) : IntKind.u64.wrap n = n % 18446744073709551616 := by
  simp [IntKind.wrap, IntKind.bits, IntKind.signed]

theorem add_is (a b : Int) (ha : In64 a) (hb : In64 b) : nums_Add.f a b = some (sat a b) := by
  unfold In64 at ha hb
  have hw : wrap64 (IntKind.u64.wrap (IntKind.u64.wrap a + IntKind.u64.wrap b)) = wrap64 (a + b) := by
    rw [u64, u64, u64]
    unfold wrap64
    omega
  unfold nums_Add.f nums_end.f sat
  rw [hw]
  have h1 : ∀ x y : Int, ((decide (x < 0)) == (decide (y < 0))) = true ↔ (x < 0 ↔ y < 0) := by
    intro x y
    by_cases h : x < 0 <;> by_cases h' : y < 0 <;> simp [h, h']
  have h2 : ∀ x y : Int, ((decide (x < 0)) != (decide (y < 0))) = true ↔ ¬ (x < 0 ↔ y < 0) := by
    intro x y
    by_cases h : x < 0 <;> by_cases h' : y < 0 <;> simp [h, h']
  simp only [h1, h2]
  by_cases c1 : a < 0 ↔ b < 0
  · rw [if_pos c1]
    by_cases c2 : ¬ (wrap64 (a + b) < 0 ↔ a < 0)
    · rw [if_pos c2]
      by_cases c3 : a < 0
      · rw [if_pos (decide_eq_true c3)]
        simp only [Option.bind_some]
        congr 1
        unfold wrap64 at c2
        rw [if_neg (by omega), if_pos (by omega)]
      · rw [if_neg (by simpa using c3)]
        simp only [Option.bind_some]
        congr 1
        unfold wrap64 at c2
        rw [if_pos (by omega)]
    · rw [if_neg c2]
      congr 1
      unfold wrap64 at c2 ⊢
      by_cases c3 : a < 0
      · rw [if_neg (by omega), if_neg (by omega)]; omega
      · rw [if_neg (by omega), if_neg (by omega)]; omega
  · rw [if_neg c1]
    congr 1
    unfold wrap64
    rw [if_neg (by omega), if_neg (by omega)]
    omega

theorem sum_is (a b : Int) (ha : In64 a) (hb : In64 b) (k : Nat) : catacomblaw01_Sum.f (k + 1) a b = some (sat a b) := by
  unfold In64 at ha hb
  unfold catacomblaw01_Sum.f sat
  simp only [catacomblaw01_Sum.j0]
  by_cases h : b > 0
  · rw [if_pos h]
    have hw : wrap64 (9223372036854775807 - b) = 9223372036854775807 - b := by unfold wrap64; omega
    rw [hw]
    by_cases h1 : a > 9223372036854775807 - b
    · rw [if_pos (decide_eq_true h1), if_pos (by omega)]
    · rw [if_neg (by simpa using h1), if_neg (by omega), if_neg (by omega), if_neg (by omega)]
      congr 1
      unfold wrap64
      omega
  · rw [if_neg h, if_neg (by simp)]
    by_cases h0 : b < 0
    · have hw : wrap64 (-9223372036854775808 - b) = -9223372036854775808 - b := by unfold wrap64; omega
      rw [if_pos h0, hw]
      by_cases h1 : a < -9223372036854775808 - b
      · rw [if_pos h1, if_neg (by omega), if_pos (by omega)]
      · rw [if_neg h1, if_neg (by omega), if_neg (by omega)]
        congr 1
        unfold wrap64
        omega
    · rw [if_neg h0, if_neg (by omega), if_neg (by omega)]
      congr 1
      unfold wrap64
      omega

/-- Count, sum, least, greatest; and with a value more. -/
structure St where
  c : Int
  s : Int
  lo : Int
  hi : Int
def addS (t : St) (v : Int) : St := if t.c < 1 then ⟨1, v, v, v⟩ else ⟨t.c + 1, sat t.s v, mn t.lo v, mx t.hi v⟩
def run (l : List S29) (t : St) : St := l.foldl (fun t p => addS t p.f1) t
/-- What holds behind i points. -/
structure Ok (t : St) (i : Nat) : Prop where
  c : t.c = (i : Int)
  s : In64 t.s
  le : 0 < i → t.lo ≤ t.hi
  z : i = 0 → t = ⟨0, 0, 0, 0⟩
def AllIn (l : List S29) : Prop := ∀ p ∈ l, In64 p.f1

theorem ok_step {t : St} {i : Nat} (h : Ok t i) {v : Int} (hv : In64 v) : Ok (addS t v) (i + 1) := by
  unfold addS
  have := h.c
  by_cases hc : t.c < 1
  · rw [if_pos hc]
    exact ⟨by simp; omega, hv, fun _ => Int.le_refl _, fun h => by omega⟩
  · rw [if_neg hc]
    refine ⟨by simp; omega, sat_in _ _, fun _ => ?_, fun h => by omega⟩
    have hle := h.le (by omega)
    show mn t.lo v ≤ mx t.hi v
    unfold mn mx
    split <;> split <;> omega

theorem ok_run (l : List S29) : ∀ (t : St) (i : Nat), Ok t i → AllIn l → Ok (run l t) (i + l.length) := by
  induction l with
  | nil => intro t i h _; exact h
  | cons p r ih =>
    intro t i h hl
    have := ih (addS t p.f1) (i + 1) (ok_step h (hl p List.mem_cons_self)) (fun q hq => hl q (List.mem_cons_of_mem _ hq))
    simp only [List.length_cons]
    rw [show i + (r.length + 1) = i + 1 + r.length from by omega]
    exact this

theorem radd_is (a : Int) (t : St) (i : Nat) (h : Ok t i) (hi : i ≤ 100) (v : Int) (hv : In64 v) : roll_Add.f a t.c t.s t.lo t.hi v = some (a, (addS t v).c, (addS t v).s, (addS t v).lo, (addS t v).hi) := by
  unfold roll_Add.f addS
  have hc := h.c
  by_cases h1 : t.c < 1
  · rw [if_pos h1, if_pos h1]
  · rw [if_neg h1, if_neg h1, add_is t.c 1 (by unfold In64; omega) (by unfold In64; omega), add_is t.s v h.s hv]
    simp only [Option.bind_some]
    have : sat t.c 1 = t.c + 1 := by
      unfold sat
      rw [if_neg (by omega), if_neg (by omega)]
    rw [this]

theorem drop_at (l : List S29) (n : Nat) (h : n < l.length) : l.drop n = rd_T29 l n :: l.drop (n + 1) := by
  rw [List.drop_eq_getElem_cons h]
  congr 1
  unfold rd_T29
  simp [h]

theorem wrap_up {i : Int} (h0 : 0 ≤ i) (h : i < 1000) : wrap64 (i + 1) = i + 1 := by
  unfold wrap64
  omega

theorem of_l0 (l : List S29) (hl : AllIn l) (h61 : l.length ≤ 61) (a : Int) : ∀ (d k n : Nat) (t : St), n + d = l.length → Ok t n → d < k →
    roll_Of.l0 k l (l.length : Int) (n : Int) a t.c t.s t.lo t.hi = some (a, (run (l.drop n) t).c, (run (l.drop n) t).s, (run (l.drop n) t).lo, (run (l.drop n) t).hi, true) := by
  intro d
  induction d with
  | zero =>
    intro k n t h1 ht hk
    obtain ⟨k, rfl⟩ : ∃ m, k = m + 1 := ⟨k - 1, by omega⟩
    simp only [roll_Of.l0]
    rw [if_neg (by omega), List.drop_eq_nil_of_le (by omega)]
    rfl
  | succ d ih =>
    intro k n t h1 ht hk
    obtain ⟨k, rfl⟩ : ∃ m, k = m + 1 := ⟨k - 1, by omega⟩
    have hlt : (n : Int) < (l.length : Int) := by omega
    have hin : In64 (rd_T29 l n).f1 := hl _ (by rw [← List.mem_reverse]; have := drop_at l n (by omega); exact List.mem_reverse.2 (List.mem_of_mem_drop (by rw [this]; exact List.mem_cons_self)))
    simp only [roll_Of.l0]
    rw [if_pos hlt, if_pos (by omega), if_pos hlt, radd_is a t n ht (by omega) _ hin]
    simp only [Option.bind_some]
    rw [wrap_up (by omega) (by omega)]
    have hi := ih k (n + 1) (addS t (rd_T29 l n).f1) (by omega) (ok_step ht hin) (by omega)
    rw [drop_at l n (by omega)]
    exact hi

theorem pts_l0 (l : List S29) (hl : AllIn l) (h61 : l.length ≤ 61) (a : Int) : ∀ (d k n : Nat) (t : St), n + d = l.length → Ok t n → 2 * d + 1 < k →
    catacomblaw15_Points.l0 k l (l.length : Int) (n : Int) a t.c t.s t.lo t.hi = some (a, (run (l.drop n) t).c, (run (l.drop n) t).s, (run (l.drop n) t).lo, (run (l.drop n) t).hi) := by
  intro d
  induction d with
  | zero =>
    intro k n t h1 ht hk
    obtain ⟨k, rfl⟩ : ∃ m, k = m + 1 := ⟨k - 1, by omega⟩
    simp only [catacomblaw15_Points.l0]
    rw [if_neg (by omega), List.drop_eq_nil_of_le (by omega)]
    rfl
  | succ d ih =>
    intro k n t h1 ht hk
    obtain ⟨k, rfl⟩ : ∃ m, k = m + 1 + 1 := ⟨k - 2, by omega⟩
    have hlt : (n : Int) < (l.length : Int) := by omega
    have hin : In64 (rd_T29 l n).f1 := hl _ (List.mem_of_mem_drop (by rw [drop_at l n (by omega)]; exact List.mem_cons_self))
    have hc := ht.c
    simp only [catacomblaw15_Points.l0]
    rw [if_pos hlt, if_pos (by omega), if_pos hlt, sum_is t.s _ ht.s hin k]
    simp only [Option.bind_some, catacomblaw15_Points.j1]
    rw [wrap_up (show (0 : Int) ≤ (n : Int) by omega) (by omega), wrap_up (show (0 : Int) ≤ t.c by omega) (by omega)]
    have hi := ih k (n + 1) (addS t (rd_T29 l n).f1) (by omega) (ok_step ht hin) (by omega)
    rw [drop_at l n (by omega)]
    refine Eq.trans ?_ hi
    generalize (rd_T29 l n).f1 = v at hin
    unfold addS
    by_cases h0 : n = 0
    · have hz := ht.z h0
      subst hz
      subst h0
      have hs0 : sat 0 v = v := by
        unfold sat In64 at *
        rw [if_neg (by omega), if_neg (by omega)]
        omega
      simp [hs0]
    · have hn0 : ¬ ((n : Int) = 0) := by omega
      have hc1 : ¬ (t.c < 1) := by omega
      simp only [if_neg hn0, if_neg hc1]
      unfold mn mx
      by_cases ha : v < t.lo
      · rw [if_pos (decide_eq_true ha), if_pos ha]
        by_cases hb : v > t.hi
        · rw [if_pos hb, if_pos hb]; rfl
        · rw [if_neg hb, if_neg hb]; rfl
      · rw [if_neg (by simpa using ha), if_neg ha]
        by_cases hb : v > t.hi
        · rw [if_pos hb, if_pos hb]; rfl
        · rw [if_neg hb, if_neg hb]; rfl

def zero : St := ⟨0, 0, 0, 0⟩
theorem ok_zero : Ok zero 0 := ⟨rfl, by unfold In64 zero; simp, fun h => by omega, fun _ => rfl⟩

theorem of_is (l : List S29) (hl : AllIn l) (h61 : l.length ≤ 61) (a : Int) (k : Nat) (hk : l.length < k) :
    roll_Of.f k a l = if l = [] then some (0, 0, 0, 0, 0, false) else some (a, (run l zero).c, (run l zero).s, (run l zero).lo, (run l zero).hi, true) := by
  unfold roll_Of.f
  by_cases h : l = []
  · rw [if_pos h, if_pos (by rw [h]; rfl)]
  · have h0 : l.length ≠ 0 := fun e => h (List.length_eq_zero_iff.1 e)
    rw [if_neg h, if_neg (by omega)]
    have := of_l0 l hl h61 a l.length k 0 zero (by omega) ok_zero hk
    rw [List.drop_zero] at this
    exact this

theorem pts_is (l : List S29) (hl : AllIn l) (h61 : l.length ≤ 61) (a : Int) (k : Nat) (hk : 2 * l.length + 1 < k) :
    catacomblaw15_Points.f k a l = some (a, (run l zero).c, (run l zero).s, (run l zero).lo, (run l zero).hi) := by
  unfold catacomblaw15_Points.f
  have := pts_l0 l hl h61 a l.length k 0 zero (by omega) ok_zero hk
  rw [List.drop_zero] at this
  exact this

theorem lives_is : catacomblaw15_lives.f 20 = some true := by decide +kernel
theorem lives_ok (k : Nat) (hk : 20 ≤ k) : catacomblaw15_lives.f k = some true := at_rounds catacomblaw15_lives.mono hk lives_is

theorem in64 {n : Int} (h : (Lit.int .i64 n).wf = true) : In64 n := by
  simp [Lit.wf, IntKind.min, IntKind.max, IntKind.bits, IntKind.signed] at h
  unfold In64
  omega


/-- They rise, from 0 on. -/
def Rises (l : List S29) : Prop := ∀ (j : Nat) (x : S29), l[j]? = some x → 0 ≤ x.f0 ∧ ∀ y, 0 < j → l[j - 1]? = some y → y.f0 < x.f0
theorem rd_is {l : List S29} {n : Nat} {x : S29} (h : l[n]? = some x) : rd_T29 l (n : Int) = x := by
  unfold rd_T29
  rw [Int.toNat_natCast, List.getD_eq_getElem?_getD, h]
  rfl
theorem rises_l0 (l : List S29) (h61 : l.length ≤ 61) : ∀ (d k n : Nat), n + d = l.length → d < k →
    ∃ b : Bool, catacomblaw15_rises.l0 k l l (l.length : Int) (n : Int) = some b ∧ (b = true ↔ ∀ (j : Nat) (x : S29), n ≤ j → l[j]? = some x → 0 ≤ x.f0 ∧ ∀ y, 0 < j → l[j - 1]? = some y → y.f0 < x.f0) := by
  intro d
  induction d with
  | zero =>
    intro k n h1 hk
    obtain ⟨k, rfl⟩ : ∃ m, k = m + 1 := ⟨k - 1, by omega⟩
    refine ⟨true, ?_, by
      refine ⟨fun _ j x hj hx => ?_, fun _ => rfl⟩
      have := (List.getElem?_eq_some_iff.1 hx).1
      omega⟩
    simp only [catacomblaw15_rises.l0]
    rw [if_neg (by omega)]
  | succ d ih =>
    intro k n h1 hk
    obtain ⟨k, rfl⟩ : ∃ m, k = m + 1 := ⟨k - 1, by omega⟩
    have hlt : n < l.length := by omega
    obtain ⟨x, hx⟩ : ∃ x, l[n]? = some x := ⟨_, List.getElem?_eq_getElem hlt⟩
    obtain ⟨b, hb, hbb⟩ := ih k (n + 1) (by omega) (by omega)
    have e : (catacomblaw15_rises.l0 (k + 1) l l (l.length : Int) (n : Int)) = if x.f0 < 0 then some false else if (n : Int) > 0 then (if (rd_T29 l ((n - 1 : Nat) : Int)).f0 ≥ x.f0 then some false else some b) else some b := by
      simp only [catacomblaw15_rises.l0]
      rw [if_pos (by omega), if_pos (by omega), if_pos (by omega), rd_is hx, wrap_up (by omega) (by omega)]
      have hb' : catacomblaw15_rises.l0 k l l (l.length : Int) ((n : Int) + 1) = some b := hb
      rw [hb']
      by_cases h0 : x.f0 < 0
      · rw [if_pos h0, if_pos h0]
      · rw [if_neg h0, if_neg h0]
        by_cases hn : (n : Int) > 0
        · rw [if_pos hn, if_pos hn, show wrap64 ((n : Int) - 1) = ((n - 1 : Nat) : Int) by unfold wrap64; omega, if_pos (by omega), if_pos (by omega)]
        · rw [if_neg hn, if_neg hn]
    rw [e]
    by_cases h0 : x.f0 < 0
    · rw [if_pos h0]
      refine ⟨false, rfl, ⟨fun h => (by cases h), fun h => ?_⟩⟩
      have := (h n x (Nat.le_refl _) hx).1
      omega
    · rw [if_neg h0]
      by_cases hn : n = 0
      · rw [if_neg (by omega)]
        refine ⟨b, rfl, hbb.trans ⟨fun h j y hj hy => ?_, fun h j y hj hy => h j y (by omega) hy⟩⟩
        rcases Nat.lt_or_ge n j with h2 | h2
        · exact h j y h2 hy
        · have : j = n := by omega
          subst this
          rw [hx] at hy
          injection hy with hy
          subst hy
          exact ⟨by omega, fun _ h => by omega⟩
      · rw [if_pos (by omega)]
        obtain ⟨z, hz⟩ : ∃ z, l[n - 1]? = some z := ⟨_, List.getElem?_eq_getElem (by omega)⟩
        rw [rd_is hz]
        by_cases hzx : z.f0 ≥ x.f0
        · rw [if_pos hzx]
          refine ⟨false, rfl, ⟨fun h => (by cases h), fun h => ?_⟩⟩
          have := (h n x (Nat.le_refl _) hx).2 z (by omega) hz
          omega
        · rw [if_neg hzx]
          refine ⟨b, rfl, hbb.trans ⟨fun h j y hj hy => ?_, fun h j y hj hy => h j y (by omega) hy⟩⟩
          rcases Nat.lt_or_ge n j with h2 | h2
          · exact h j y h2 hy
          · have : j = n := by omega
            subst this
            rw [hx] at hy
            injection hy with hy
            subst hy
            refine ⟨by omega, fun u _ hu => ?_⟩
            rw [hz] at hu
            injection hu with hu
            subst hu
            omega
theorem rises_is (l : List S29) (h61 : l.length ≤ 61) : ∃ b : Bool, catacomblaw15_rises.f 200 l = some b ∧ (b = true ↔ Rises l) := by
  obtain ⟨b, h1, h2⟩ := rises_l0 l h61 l.length 200 0 (by omega) (by omega)
  exact ⟨b, h1, h2.trans ⟨fun h j x hx => h j x (by omega) hx, fun h j x _ hx => h j x hx⟩⟩

/-- The windows, from a first one's start and points on. -/
def ws (W : Int) : List S29 → Int → List S29 → List (Int × List S29)
  | [], s, ys => [(s, ys)]
  | x :: r, s, ys => if x.f0 - x.f0 % W = s then ws W r s (ys ++ [x]) else (s, ys) :: ws W r (x.f0 - x.f0 % W) [x]
def wins (W : Int) : List S29 → List (Int × List S29)
  | [] => []
  | x :: r => ws W r (x.f0 - x.f0 % W) [x]
theorem grp_ws {W : Int} {l : List S29} (hl : Rises l) : ∀ (d n : Nat) (s : Int) (ys : List S29) (G0 : List (Int × List S29)), n + d = l.length → 0 < n →
    grpF W S29.f0 (l.drop n) (prevA S29.f0 l n) (G0 ++ [(s, ys)]) = G0 ++ ws W (l.drop n) s ys := by
  intro d
  induction d with
  | zero =>
    intro n s ys G0 h1 h0
    rw [List.drop_eq_nil_of_le (by omega)]
    rfl
  | succ d ih =>
    intro n s ys G0 h1 h0
    obtain ⟨x, hx⟩ : ∃ x, l[n]? = some x := ⟨_, List.getElem?_eq_getElem (by omega)⟩
    have hr := hl n x hx
    rw [grp_step hx, if_neg (by
      rintro (h | ⟨q, h, h'⟩)
      · omega
      · unfold prevA at h
        rw [if_neg (by omega), Option.map_eq_some_iff] at h
        obtain ⟨y, hy, rfl⟩ := h
        have := hr.2 y h0 hy
        omega)]
    obtain ⟨hj, he⟩ := List.getElem?_eq_some_iff.1 hx
    rw [List.drop_eq_getElem_cons hj, he]
    unfold addG
    rw [List.getLast?_concat]
    show grpF W S29.f0 _ _ (lastG (if (some s = some (x.f0 - x.f0 % W)) then _ else _) x) = G0 ++ (if x.f0 - x.f0 % W = s then _ else _)
    by_cases hs : x.f0 - x.f0 % W = s
    · rw [if_pos (by rw [hs]), if_pos hs, lastG_some (g := (s, ys)) (by rw [List.getLast?_concat])]
      have e : (G0 ++ [(s, ys)]).set ((G0 ++ [(s, ys)]).length - 1) (s, ys ++ [x]) = G0 ++ [(s, ys ++ [x])] := by simp
      rw [e]
      exact ih (n + 1) s (ys ++ [x]) G0 (by omega) (by omega)
    · rw [if_neg (fun e => hs (Option.some.inj e).symm), if_neg hs, lastG_push]
      have := ih (n + 1) (x.f0 - x.f0 % W) [x] (G0 ++ [(s, ys)]) (by omega) (by omega)
      rw [this, List.append_assoc]
      rfl
theorem grp_wins {W : Int} {l : List S29} (hl : Rises l) : grpF W S29.f0 l none [] = wins W l := by
  cases l with
  | nil => rfl
  | cons x r =>
    have h0 := grp_step (W := W) (at_ := S29.f0) (l := x :: r) (j := 0) rfl []
    have hx := hl 0 x rfl
    rw [if_neg (by
      rintro (h | ⟨q, h, h'⟩)
      · omega
      · cases h)] at h0
    have e : addG [] (x.f0 - x.f0 % W) x = [(x.f0 - x.f0 % W, [x])] := rfl
    rw [e] at h0
    have h1 := grp_ws hl (W := W) r.length 1 (x.f0 - x.f0 % W) [x] [] (by simp; omega) (by omega)
    have h2 : grpF W S29.f0 (x :: r) none [] = _ := h0
    rw [h2]
    exact h1
theorem grp_bad {W : Int} {l : List S29} : ∀ (d n : Nat) (G : List (Int × List S29)), n + d = l.length → (∃ (j : Nat) (x : S29), n ≤ j ∧ l[j]? = some x ∧ (x.f0 < 0 ∨ ∃ y, 0 < j ∧ l[j - 1]? = some y ∧ x.f0 ≤ y.f0)) →
    grpF W S29.f0 (l.drop n) (prevA S29.f0 l n) G = [] := by
  intro d
  induction d with
  | zero =>
    rintro n G h1 ⟨j, x, hj, hx, _⟩
    have := (List.getElem?_eq_some_iff.1 hx).1
    omega
  | succ d ih =>
    rintro n G h1 ⟨j, x, hj, hx, hb⟩
    obtain ⟨y, hy⟩ : ∃ y, l[n]? = some y := ⟨_, List.getElem?_eq_getElem (by omega)⟩
    rw [grp_step hy]
    by_cases hc : y.f0 < 0 ∨ (∃ q, prevA S29.f0 l n = some q ∧ y.f0 ≤ q)
    · rw [if_pos hc]
    · rw [if_neg hc]
      refine ih (n + 1) _ (by omega) ⟨j, x, ?_, hx, hb⟩
      rcases Nat.lt_or_ge n j with h2 | h2
      · exact h2
      · have : j = n := by omega
        subst this
        rw [hx] at hy
        injection hy with hy
        subst hy
        refine absurd ?_ hc
        rcases hb with hb | ⟨z, h0, hz, hzx⟩
        · exact .inl hb
        · refine .inr ⟨z.f0, ?_, hzx⟩
          unfold prevA
          rw [if_neg (by omega), hz]
          rfl
open Classical in
theorem grp_is (W : Int) (l : List S29) : grpF W S29.f0 l none [] = if Rises l then wins W l else [] := by
  by_cases h : Rises l
  · rw [if_pos h, grp_wins h]
  · rw [if_neg h]
    have h2 : ∃ (j : Nat) (x : S29), 0 ≤ j ∧ l[j]? = some x ∧ (x.f0 < 0 ∨ ∃ y, 0 < j ∧ l[j - 1]? = some y ∧ x.f0 ≤ y.f0) := by
      refine Classical.byContradiction fun hn => h fun j x hx => ⟨?_, fun y h0 hy => ?_⟩
      · exact Classical.byContradiction fun hl => hn ⟨j, x, Nat.zero_le _, hx, .inl (by omega)⟩
      · exact Classical.byContradiction fun hl => hn ⟨j, x, Nat.zero_le _, hx, .inr ⟨y, h0, hy, by omega⟩⟩
    exact grp_bad (W := W) l.length 0 [] (by omega) h2
theorem ws_mem {W : Int} : ∀ (r : List S29) (s : Int) (ys : List S29), ys ≠ [] → (ws W r s ys).length ≤ r.length + 1 ∧ ∀ g ∈ ws W r s ys, g.2 ≠ [] ∧ g.2.length ≤ ys.length + r.length ∧ ∀ x ∈ g.2, x ∈ ys ∨ x ∈ r := by
  intro r
  induction r with
  | nil =>
    intro s ys hy
    refine ⟨by simp [ws], fun g hg => ?_⟩
    simp only [ws, List.mem_singleton] at hg
    subst hg
    exact ⟨hy, by simp, fun x hx => .inl hx⟩
  | cons x r ih =>
    intro s ys hy
    have e : ws W (x :: r) s ys = if x.f0 - x.f0 % W = s then ws W r s (ys ++ [x]) else (s, ys) :: ws W r (x.f0 - x.f0 % W) [x] := rfl
    rw [e]
    by_cases hs : x.f0 - x.f0 % W = s
    · rw [if_pos hs]
      obtain ⟨h1, h2⟩ := ih s (ys ++ [x]) (by simp)
      refine ⟨by simp; omega, fun g hg => ?_⟩
      obtain ⟨a, b, c⟩ := h2 g hg
      refine ⟨a, by simp at b ⊢; omega, fun y hyy => ?_⟩
      rcases c y hyy with h | h
      · rcases List.mem_append.1 h with h | h
        · exact .inl h
        · exact .inr (by rw [List.mem_singleton.1 h]; simp)
      · exact .inr (List.mem_cons_of_mem _ h)
    · rw [if_neg hs]
      obtain ⟨h1, h2⟩ := ih (x.f0 - x.f0 % W) [x] (by simp)
      refine ⟨by simp; omega, fun g hg => ?_⟩
      rcases List.mem_cons.1 hg with rfl | hg
      · exact ⟨hy, by simp, fun y h => .inl h⟩
      · obtain ⟨a, b, c⟩ := h2 g hg
        refine ⟨a, by simp at b ⊢; omega, fun y hyy => ?_⟩
        rcases c y hyy with h | h
        · exact .inr (by rw [List.mem_singleton.1 h]; simp)
        · exact .inr (List.mem_cons_of_mem _ h)
theorem grp_mem (W : Int) (l : List S29) : (grpF W S29.f0 l none []).length ≤ l.length ∧ ∀ g ∈ grpF W S29.f0 l none [], g.2 ≠ [] ∧ g.2.length ≤ l.length ∧ ∀ x ∈ g.2, x ∈ l := by
  rw [grp_is]
  split
  · cases l with
    | nil => exact ⟨Nat.le_refl _, fun g hg => by cases hg⟩
    | cons x r =>
      obtain ⟨h1, h2⟩ := ws_mem (W := W) r (x.f0 - x.f0 % W) [x] (by simp)
      refine ⟨by simpa [wins] using h1, fun g hg => ?_⟩
      obtain ⟨a, b, c⟩ := h2 g hg
      refine ⟨a, by simp at b ⊢; omega, fun y hy => ?_⟩
      rcases c y hy with h | h
      · rw [List.mem_singleton.1 h]; simp
      · exact List.mem_cons_of_mem _ h
  · exact ⟨Nat.zero_le _, fun g hg => by cases hg⟩
/-- What is still to come at window at, with k points of it seen. -/
theorem ws_at {W : Int} {l : List S29} {i : Nat} {x : S29} (hx : l[i]? = some x) : wins W (l.drop i) = ws W (l.drop i) (x.f0 - x.f0 % W) ((l.drop i).take (i - i)) := by
  obtain ⟨hj, he⟩ := List.getElem?_eq_some_iff.1 hx
  rw [List.drop_eq_getElem_cons hj, he, Nat.sub_self]
  show ws W _ _ [x] = (if _ then _ else _)
  rw [if_pos rfl]
  rfl
theorem ws_on {W : Int} {l : List S29} {i k : Nat} {x : S29} {s : Int} (hik : i ≤ k) (hx : l[k]? = some x) (hs : x.f0 - x.f0 % W = s) : ws W (l.drop k) s ((l.drop i).take (k - i)) = ws W (l.drop (k + 1)) s ((l.drop i).take (k + 1 - i)) := by
  obtain ⟨hj, he⟩ := List.getElem?_eq_some_iff.1 hx
  rw [List.drop_eq_getElem_cons hj, he]
  show (if _ then _ else _) = _
  rw [if_pos hs, show k + 1 - i = (k - i) + 1 by omega, List.take_add_one, List.getElem?_drop, show i + (k - i) = k by omega, hx]
  rfl
theorem ws_off {W : Int} {l : List S29} {k : Nat} {x : S29} {s : Int} {ys : List S29} (hx : l[k]? = some x) (hs : x.f0 - x.f0 % W ≠ s) : ws W (l.drop k) s ys = (s, ys) :: wins W (l.drop k) := by
  obtain ⟨hj, he⟩ := List.getElem?_eq_some_iff.1 hx
  rw [List.drop_eq_getElem_cons hj, he]
  show (if _ then _ else _) = _
  rw [if_neg hs]
  rfl
theorem ws_end {W : Int} {l : List S29} {k : Nat} {s : Int} {ys : List S29} (hk : l.length ≤ k) : ws W (l.drop k) s ys = (s, ys) :: wins W (l.drop k) := by
  rw [List.drop_eq_nil_of_le hk]
  rfl
theorem quo_mul {a W : Int} (ha : 0 ≤ a) : (a.tdiv W) * W = a - a % W := by
  rw [Int.tdiv_eq_ediv_of_nonneg ha]
  have h1 := Int.mul_ediv_add_emod a W
  rw [Int.mul_comm] at h1
  omega
/-- An aggregate's cells. -/
abbrev aggC (g : Int × List S29) : List Value := [.int .i64 g.1, .int .i64 (run g.2 zero).c, .int .i64 (run g.2 zero).s, .int .i64 (run g.2 zero).lo, .int .i64 (run g.2 zero).hi]
end RollOfPure
end Go.Proofs.Ytnjdngjlbonieaa
