/- The mean of points (of at most 60, with values of at most 2^50) is the greatest number that the count times isn't above the sum, and lies between the least and the greatest value. No condition. -/
import Derived.Test.YtdkmfkdagikpgaaPRollMeansx3
namespace Go.Proofs.Ytdkmfkdagikpgaa.Pure
open Go.RowKit Go.Proofs.Ytdkmfkdagikpgaa.PRollMeans Go.Proofs.YtdkmfkdagikpgaaW.PrintWords Go.Proofs.YtdkmfkdagikpgaaW.PrintLast Go.Proofs.YtdkmfkdagikpgaaW.PrintMore

namespace RollMeansPure

/-- A number of 64 bits. -/
def In64 (n : Int) : Prop := -9223372036854775808 ≤ n ∧ n ≤ 9223372036854775807
def sat (a b : Int) : Int := if a + b > 9223372036854775807 then 9223372036854775807 else if a + b < -9223372036854775808 then -9223372036854775808 else a + b

theorem sat_in (a b : Int) : In64 (sat a b) := by
  unfold sat In64
  split
  · omega
  · split <;> omega

theorem u64 (n : Int) : IntKind.u64.wrap n = n % 18446744073709551616 := by
  simp [IntKind.wrap, IntKind.bits, IntKind.signed]

theorem add_is (a b : Int) (ha : In64 a) (hb : In64 b) : nums_Add.f a b = some (sat a b) := by
  unfold In64 at ha hb
  have hw : wrap64 (IntKind.u64.wrap (IntKind.u64.wrap a + IntKind.u64.wrap b)) = wrap64 (a + b) := by
    rw [u64, u64, u64]
    unfold wrap64
    omega
  unfold nums_Add.f nums_end.f sat
  rw [hw]
  have h1 : ∀ x y : Int, ((decide (x < 0)) == (decide (y < 0))) = true ↔ (x < 0 ↔ y < 0) := by
    intro x y
    by_cases h : x < 0 <;> by_cases h' : y < 0 <;> simp [h, h']
  have h2 : ∀ x y : Int, ((decide (x < 0)) != (decide (y < 0))) = true ↔ ¬ (x < 0 ↔ y < 0) := by
    intro x y
    by_cases h : x < 0 <;> by_cases h' : y < 0 <;> simp [h, h']
  simp only [h1, h2]
  by_cases c1 : a < 0 ↔ b < 0
  · rw [if_pos c1]
    by_cases c2 : ¬ (wrap64 (a + b) < 0 ↔ a < 0)
    · rw [if_pos c2]
      by_cases c3 : a < 0
      · rw [if_pos (decide_eq_true c3)]
        simp only [Option.bind_some]
        congr 1
        unfold wrap64 at c2
        rw [if_neg (by omega), if_pos (by omega)]
      · rw [if_neg (by simpa using c3)]
        simp only [Option.bind_some]
        congr 1
        unfold wrap64 at c2
        rw [if_pos (by omega)]
    · rw [if_neg c2]
      congr 1
      unfold wrap64 at c2 ⊢
      by_cases c3 : a < 0
      · rw [if_neg (by omega), if_neg (by omega)]; omega
      · rw [if_neg (by omega), if_neg (by omega)]; omega
  · rw [if_neg c1]
    congr 1
    unfold wrap64
    rw [if_neg (by omega), if_neg (by omega)]
    omega

/-- Count, sum, least, greatest; and with a value more. -/
structure St where
  c : Int
  s : Int
  lo : Int
  hi : Int
def addS (t : St) (v : Int) : St := if t.c < 1 then ⟨1, v, v, v⟩ else ⟨t.c + 1, sat t.s v, mn t.lo v, mx t.hi v⟩
def run (l : List S31) (t : St) : St := l.foldl (fun t p => addS t p.f1) t
/-- What holds behind i points. -/
structure Ok (t : St) (i : Nat) : Prop where
  c : t.c = (i : Int)
  s : In64 t.s
  le : 0 < i → t.lo ≤ t.hi
  z : i = 0 → t = ⟨0, 0, 0, 0⟩
def AllIn (l : List S31) : Prop := ∀ p ∈ l, In64 p.f1

theorem ok_step {t : St} {i : Nat} (h : Ok t i) {v : Int} (hv : In64 v) : Ok (addS t v) (i + 1) := by
  unfold addS
  have := h.c
  by_cases hc : t.c < 1
  · rw [if_pos hc]
    exact ⟨by simp; omega, hv, fun _ => Int.le_refl _, fun h => by omega⟩
  · rw [if_neg hc]
    refine ⟨by simp; omega, sat_in _ _, fun _ => ?_, fun h => by omega⟩
    have hle := h.le (by omega)
    show mn t.lo v ≤ mx t.hi v
    unfold mn mx
    split <;> split <;> omega

theorem ok_run (l : List S31) : ∀ (t : St) (i : Nat), Ok t i → AllIn l → Ok (run l t) (i + l.length) := by
  induction l with
  | nil => intro t i h _; exact h
  | cons p r ih =>
    intro t i h hl
    have := ih (addS t p.f1) (i + 1) (ok_step h (hl p List.mem_cons_self)) (fun q hq => hl q (List.mem_cons_of_mem _ hq))
    simp only [List.length_cons]
    rw [show i + (r.length + 1) = i + 1 + r.length from by omega]
    exact this

theorem radd_is (a : Int) (t : St) (i : Nat) (h : Ok t i) (hi : i ≤ 100) (v : Int) (hv : In64 v) : roll_Add.f a t.c t.s t.lo t.hi v = some (a, (addS t v).c, (addS t v).s, (addS t v).lo, (addS t v).hi) := by
  unfold roll_Add.f addS
  have hc := h.c
  by_cases h1 : t.c < 1
  · rw [if_pos h1, if_pos h1]
  · rw [if_neg h1, if_neg h1, add_is t.c 1 (by unfold In64; omega) (by unfold In64; omega), add_is t.s v h.s hv]
    simp only [Option.bind_some]
    have : sat t.c 1 = t.c + 1 := by
      unfold sat
      rw [if_neg (by omega), if_neg (by omega)]
    rw [this]

theorem drop_at (l : List S31) (n : Nat) (h : n < l.length) : l.drop n = rd_T31 l n :: l.drop (n + 1) := by
  rw [List.drop_eq_getElem_cons h]
  congr 1
  unfold rd_T31
  simp [h]

theorem wrap_up {i : Int} (h0 : 0 ≤ i) (h : i < 1000) : wrap64 (i + 1) = i + 1 := by
  unfold wrap64
  omega

theorem of_l0 (l : List S31) (hl : AllIn l) (h61 : l.length ≤ 61) (a : Int) : ∀ (d k n : Nat) (t : St), n + d = l.length → Ok t n → d < k →
    roll_Of.l0 k l (l.length : Int) (n : Int) a t.c t.s t.lo t.hi = some (a, (run (l.drop n) t).c, (run (l.drop n) t).s, (run (l.drop n) t).lo, (run (l.drop n) t).hi, true) := by
  intro d
  induction d with
  | zero =>
    intro k n t h1 ht hk
    obtain ⟨k, rfl⟩ : ∃ m, k = m + 1 := ⟨k - 1, by omega⟩
    simp only [roll_Of.l0]
    rw [if_neg (by omega), List.drop_eq_nil_of_le (by omega)]
    rfl
  | succ d ih =>
    intro k n t h1 ht hk
    obtain ⟨k, rfl⟩ : ∃ m, k = m + 1 := ⟨k - 1, by omega⟩
    have hlt : (n : Int) < (l.length : Int) := by omega
    have hin : In64 (rd_T31 l n).f1 := hl _ (by rw [← List.mem_reverse]; have := drop_at l n (by omega); exact List.mem_reverse.2 (List.mem_of_mem_drop (by rw [this]; exact List.mem_cons_self)))
    simp only [roll_Of.l0]
    rw [if_pos hlt, if_pos (by omega), if_pos hlt, radd_is a t n ht (by omega) _ hin]
    simp only [Option.bind_some]
    rw [wrap_up (by omega) (by omega)]
    have hi := ih k (n + 1) (addS t (rd_T31 l n).f1) (by omega) (ok_step ht hin) (by omega)
    rw [drop_at l n (by omega)]
    exact hi

def zero : St := ⟨0, 0, 0, 0⟩
theorem ok_zero : Ok zero 0 := ⟨rfl, by unfold In64 zero; simp, fun h => by omega, fun _ => rfl⟩

theorem of_is (l : List S31) (hl : AllIn l) (h61 : l.length ≤ 61) (a : Int) (k : Nat) (hk : l.length < k) :
    roll_Of.f k a l = if l = [] then some (0, 0, 0, 0, 0, false) else some (a, (run l zero).c, (run l zero).s, (run l zero).lo, (run l zero).hi, true) := by
  unfold roll_Of.f
  by_cases h : l = []
  · rw [if_pos h, if_pos (by rw [h]; rfl)]
  · have h0 : l.length ≠ 0 := fun e => h (List.length_eq_zero_iff.1 e)
    rw [if_neg h, if_neg (by omega)]
    have := of_l0 l hl h61 a l.length k 0 zero (by omega) ok_zero hk
    rw [List.drop_zero] at this
    exact this

theorem lives_is : catacomblaw15_lives.f 20 = some true := by decide +kernel
theorem lives_ok (k : Nat) (hk : 20 ≤ k) : catacomblaw15_lives.f k = some true := at_rounds catacomblaw15_lives.mono hk lives_is

theorem in64 {n : Int} (h : (Lit.int .i64 n).wf = true) : In64 n := by
  simp [Lit.wf, IntKind.min, IntKind.max, IntKind.bits, IntKind.signed] at h
  unfold In64
  omega

/-- What holds besides where no value is above 2^50. -/
structure Small (t : St) : Prop where
  a : t.c * t.lo ≤ t.s
  b : t.s ≤ t.c * t.hi
  lo : -1125899906842624 ≤ t.lo
  hi : t.hi ≤ 1125899906842624
def AllSmall (l : List S31) : Prop := ∀ p ∈ l, -1125899906842624 ≤ p.f1 ∧ p.f1 ≤ 1125899906842624

theorem small_step {t : St} {i : Nat} (h : Ok t i) (hi : i ≤ 60) (hs : Small t) {v : Int} (hv : -1125899906842624 ≤ v ∧ v ≤ 1125899906842624) : Small (addS t v) := by
  unfold addS
  have hc := h.c
  by_cases h1 : t.c < 1
  · rw [if_pos h1]
    exact ⟨by simp, by simp, hv.1, hv.2⟩
  · rw [if_neg h1]
    have ha := hs.a
    have hb := hs.b
    have b1 : -1125899906842624 * 60 ≤ t.s := by
      have : t.c * -1125899906842624 ≤ t.c * t.lo := Int.mul_le_mul_of_nonneg_left hs.lo (by omega)
      omega
    have b2 : t.s ≤ 1125899906842624 * 60 := by
      have : t.c * t.hi ≤ t.c * 1125899906842624 := Int.mul_le_mul_of_nonneg_left hs.hi (by omega)
      omega
    have hsat : sat t.s v = t.s + v := by
      unfold sat
      rw [if_neg (by omega), if_neg (by omega)]
    have l1 : mn t.lo v ≤ t.lo := by unfold mn; split <;> omega
    have l2 : mn t.lo v ≤ v := by unfold mn; split <;> omega
    have l3 : t.hi ≤ mx t.hi v := by unfold mx; split <;> omega
    have l4 : v ≤ mx t.hi v := by unfold mx; split <;> omega
    have m1 : t.c * mn t.lo v ≤ t.c * t.lo := Int.mul_le_mul_of_nonneg_left l1 (by omega)
    have m2 : t.c * t.hi ≤ t.c * mx t.hi v := Int.mul_le_mul_of_nonneg_left l3 (by omega)
    refine ⟨?_, ?_, ?_, ?_⟩
    · show (t.c + 1) * mn t.lo v ≤ sat t.s v
      rw [hsat, Int.add_mul, Int.one_mul]
      omega
    · show sat t.s v ≤ (t.c + 1) * mx t.hi v
      rw [hsat, Int.add_mul, Int.one_mul]
      omega
    · show _ ≤ mn t.lo v
      have := hs.lo
      unfold mn
      split <;> omega
    · show mx t.hi v ≤ _
      have := hs.hi
      unfold mx
      split <;> omega

theorem small_run (l : List S31) : ∀ (t : St) (i : Nat), Ok t i → i + l.length ≤ 60 → Small t → AllIn l → AllSmall l → Small (run l t) := by
  induction l with
  | nil => intro t i _ _ h _ _; exact h
  | cons p r ih =>
    intro t i h hi hs hl hm
    simp only [List.length_cons] at hi
    exact ih (addS t p.f1) (i + 1) (ok_step h (hl p List.mem_cons_self)) (by omega) (small_step h (by omega) hs (hm p List.mem_cons_self)) (fun q hq => hl q (List.mem_cons_of_mem _ hq)) (fun q hq => hm q (List.mem_cons_of_mem _ hq))

/-- The mean is the floor. -/
theorem mean_is (a c s lo hi : Int) (hc : 1 ≤ c) (hs : -1000000000000000000 ≤ s ∧ s ≤ 1000000000000000000) : roll_Mean.f a c s lo hi = some (s / c) := by
  unfold roll_Mean.f
  rw [if_neg (by omega), if_neg (by omega)]
  have hd : s / c * c ≤ s := Int.ediv_mul_le s (by omega)
  have hd2 : s < (s / c + 1) * c := Int.lt_ediv_add_one_mul_self s (by omega)
  have hb : -1000000000000000000 ≤ s / c ∧ s / c ≤ 1000000000000000000 := by
    constructor
    · rw [Int.le_ediv_iff_mul_le (by omega)]
      have : (-1000000000000000000 : Int) * c ≤ -1000000000000000000 * 1 := Int.mul_le_mul_of_nonpos_left (by omega) hc
      omega
    · by_cases h0 : 0 ≤ s
      · have := Int.ediv_le_self c h0
        omega
      · have : s / c < 0 := Int.ediv_neg_of_neg_of_pos (by omega) (by omega)
        omega
  have hq : Int.tdiv s c = s / c + (if 0 ≤ s ∨ c ∣ s then 0 else 1) := by
    rw [Int.tdiv_eq_ediv, Int.sign_eq_one_of_pos (by omega)]
  have hm := Int.mul_tdiv_add_tmod s c
  have he := Int.mul_ediv_add_emod s c
  have h0m := Int.emod_nonneg s (show c ≠ 0 by omega)
  rw [hq]
  by_cases h : 0 ≤ s ∨ c ∣ s
  · rw [if_pos h, Int.add_zero]
    have hm0 : Int.tmod s c = s % c := by
      rw [hq, if_pos h, Int.add_zero] at hm
      omega
    rw [hm0, if_neg (by omega)]
    congr 1
    unfold wrap64
    omega
  · rw [if_neg h]
    have hm1 : Int.tmod s c = s % c - c := by
      rw [hq, if_neg h, Int.mul_add, Int.mul_one] at hm
      omega
    have hlt := Int.emod_lt_of_pos s (show 0 < c by omega)
    rw [hm1, if_pos (by omega)]
    congr 1
    unfold wrap64
    omega

theorem tail (l : List S31) (hl : AllIn l) (h60 : l.length ≤ 60) (hm : AllSmall l) (k : Nat) (hk : l.length < k) :
    ((roll_Of.f k 0 l).bind fun bt136 => ((roll_Mean.f bt136.1 bt136.2.1 bt136.2.2.1 bt136.2.2.2.1 bt136.2.2.2.2.1).bind fun t143 => (if bt136.2.2.2.2.2 = true then (if (wrap64 (t143 * bt136.2.1)) ≤ bt136.2.2.1 then (if (wrap64 ((wrap64 (t143 + 1)) * bt136.2.1)) > bt136.2.2.1 then (if t143 ≥ bt136.2.2.2.1 then (some (decide (t143 ≤ bt136.2.2.2.2.1))) else (some false)) else (some false)) else (some false)) else (some true)))) = some true := by
  rw [of_is l hl (by omega) 0 k hk]
  by_cases h0 : l = []
  · rw [if_pos h0]
    simp [roll_Mean.f]
  · rw [if_neg h0]
    simp only [Option.bind_some]
    have hlen : l.length ≠ 0 := fun e => h0 (List.length_eq_zero_iff.1 e)
    have hok := ok_run l zero 0 ok_zero hl
    have hsm := small_run l zero 0 ok_zero (by omega) ⟨by simp [zero], by simp [zero], by simp [zero], by simp [zero]⟩ hl hm
    rw [Nat.zero_add] at hok
    generalize run l zero = t at hok hsm
    have hc := hok.c
    have hle := hok.le (by omega)
    obtain ⟨ha, hb, hlo, hhi⟩ := hsm
    have b1 : -1125899906842624 * 60 ≤ t.s := by
      have : t.c * -1125899906842624 ≤ t.c * t.lo := Int.mul_le_mul_of_nonneg_left hlo (by omega)
      omega
    have b2 : t.s ≤ 1125899906842624 * 60 := by
      have : t.c * t.hi ≤ t.c * 1125899906842624 := Int.mul_le_mul_of_nonneg_left hhi (by omega)
      omega
    rw [mean_is _ _ _ _ _ (by omega) (by omega)]
    simp only [Option.bind_some, if_true]
    have q1 : t.lo ≤ t.s / t.c := by
      rw [Int.le_ediv_iff_mul_le (by omega), Int.mul_comm]
      exact ha
    have q2 : t.s / t.c ≤ t.hi := by
      have h1 : t.s / t.c ≤ t.c * t.hi / t.c := Int.ediv_le_ediv (by omega) hb
      rw [Int.mul_ediv_cancel_left _ (show t.c ≠ 0 by omega)] at h1
      exact h1
    have q3 : t.s / t.c * t.c ≤ t.s := Int.ediv_mul_le t.s (by omega)
    have q4 : t.s < (t.s / t.c + 1) * t.c := Int.lt_ediv_add_one_mul_self t.s (by omega)
    generalize t.s / t.c = m at q1 q2 q3 q4
    have q5 : m * t.c + t.c = (m + 1) * t.c := by rw [Int.add_mul, Int.one_mul]
    have w1 : wrap64 (m * t.c) = m * t.c := by unfold wrap64; omega
    have w2 : wrap64 (m + 1) = m + 1 := by unfold wrap64; omega
    have w3 : wrap64 ((m + 1) * t.c) = (m + 1) * t.c := by unfold wrap64; omega
    rw [w1, w2, w3, if_pos q3, if_pos q4, if_pos q1, decide_eq_true q2]

theorem law_l0 (l : List S31) (hl : AllIn l) (h60 : l.length ≤ 60) : ∀ (d k n : Nat), n + d = l.length → l.length + d + 1 < k → (∀ p ∈ l.take n, -1125899906842624 ≤ p.f1 ∧ p.f1 ≤ 1125899906842624) →
    catacomblaw15_RollMeans.l0 k l l (l.length : Int) (n : Int) = some true := by
  intro d
  induction d with
  | zero =>
    intro k n h1 hk hm
    obtain ⟨k, rfl⟩ : ∃ m, k = m + 1 := ⟨k - 1, by omega⟩
    simp only [catacomblaw15_RollMeans.l0]
    rw [if_neg (by omega)]
    rw [List.take_of_length_le (by omega)] at hm
    exact tail l hl h60 hm k (by omega)
  | succ d ih =>
    intro k n h1 hk hm
    obtain ⟨k, rfl⟩ : ∃ m, k = m + 1 := ⟨k - 1, by omega⟩
    have hlt : (n : Int) < (l.length : Int) := by omega
    simp only [catacomblaw15_RollMeans.l0]
    rw [if_pos hlt, if_pos (by omega), if_pos hlt]
    by_cases c1 : (rd_T31 l n).f1 > 1125899906842624
    · rw [if_pos c1]
    · rw [if_neg c1]
      by_cases c2 : (rd_T31 l n).f1 < -1125899906842624
      · rw [if_pos c2]
      · rw [if_neg c2, wrap_up (by omega) (by omega)]
        refine ih k (n + 1) (by omega) (by omega) ?_
        intro p hp
        have hn : n < l.length := by omega
        rw [List.take_succ_eq_append_getElem hn] at hp
        rcases List.mem_append.1 hp with hp | hp
        · exact hm p hp
        · simp at hp
          have e : rd_T31 l n = l[n] := by unfold rd_T31; simp [hn]
          rw [e] at c1 c2
          rw [hp]
          omega

theorem law (l : List S31) (b0 b1 b2 b3 b4 : Int) (hl : AllIn l) : catacomblaw15_RollMeans.f 300 l b0 b1 b2 b3 b4 = some true := by
  unfold catacomblaw15_RollMeans.f
  rw [lives_ok _ (by omega)]
  simp only [Option.bind_some, if_true]
  rw [show (300 : Nat) = 299 + 1 from rfl]
  simp only [catacomblaw15_RollMeans.j0]
  by_cases h : (l.length : Int) > 60
  · rw [if_pos (decide_eq_true h), lives_ok _ (by omega)]; rfl
  · rw [if_neg (by simpa using h)]
    have hle : l.length ≤ 60 := by omega
    have hj : catacomblaw15_RollMeans.j1 299 l false = some true := by
      rw [show (299 : Nat) = 298 + 1 from rfl]
      simp only [catacomblaw15_RollMeans.j1]
      rw [if_neg (by simp)]
      exact law_l0 l hl hle l.length 298 0 (by omega) (by omega) (by simp)
    by_cases h1 : b1 < 1
    · have e1 : roll_Mean.f b0 b1 b2 b3 b4 = some 0 := by unfold roll_Mean.f; rw [if_pos h1]
      have e2 : roll_Right.f b0 b1 b2 b3 b4 = some false := by unfold roll_Right.f; rw [if_neg (by omega)]
      rw [if_pos h1, e1, e2]
      simp only [Option.bind_some, if_true]
      rw [if_neg (by omega)]
      exact hj
    · have e2 : roll_Right.f b0 b1 b2 b3 b4 = some (decide (b3 ≤ b4)) := by unfold roll_Right.f; rw [if_pos (by omega)]
      rw [if_neg h1, e2]
      simp only [Option.bind_some]
      rw [if_pos (by omega), bne_self_eq_false]
      exact hj

end RollMeansPure

theorem RollMeansWalk.walk (A0 : Option Addr) (len0 cap0 : Nat) (l0 : List S31) (a1_0 a1_1 a1_2 a1_3 a1_4 : Int) (W : World)
    (hr1 : ReadsRow (fun (p : S31) c => c = [.int .i64 p.f0, .int .i64 p.f1]) 2 W A0 len0 l0) (hc1 : len0 ≤ cap0) (hq1 : ∀ p ∈ l0, (Lit.int .i64 p.f0).wf = true ∧ (Lit.int .i64 p.f1).wf = true)
    (_ : (Lit.int .i64 a1_0).wf = true) (_ : (Lit.int .i64 a1_1).wf = true) (_ : (Lit.int .i64 a1_2).wf = true) (_ : (Lit.int .i64 a1_3).wf = true) (_ : (Lit.int .i64 a1_4).wf = true) :
    Calls Try.prog 4 #[.slice A0 len0 cap0, .agg #[.int .i64 a1_0, .int .i64 a1_1, .int .i64 a1_2, .int .i64 a1_3, .int .i64 a1_4]] W fun e w' => e = .returned (.bool true) ∧ Below W.heap.size W w' := by
  have hl := hr1.1
  subst hl
  have hr : Kd.C k31 W A0 l0.length l0 := ⟨rfl, hr1.2.1, fun h => by
    obtain ⟨ad, e, hc⟩ := hr1.2.2 h
    refine ⟨ad, e, fun j p hj => ?_⟩
    obtain ⟨c, h1, h2, h3⟩ := hc j p hj
    subst h2
    exact ⟨_, h1, k31_mk W p, h3⟩⟩
  exact catacomblaw15_RollMeans.calls 300 A0 cap0 l0 a1_0 a1_1 a1_2 a1_3 a1_4 true W hr hc1 (RollMeansPure.law l0 _ _ _ _ _ (fun p hp => RollMeansPure.in64 (hq1 p hp).2))

end Go.Proofs.Ytdkmfkdagikpgaa.Pure
