/- The aggregate of any points (of at most 60), and with a value more, is what adding them one by one comes to. Of more points the statement says that the chapter's example holds. No condition. -/
import Derived.Test.YtdkmfkdagikpgaaPRollOfx3
namespace Go.Proofs.Ytdkmfkdagikpgaa.Pure
open Go.RowKit Go.Proofs.Ytdkmfkdagikpgaa.PRollOf Go.Proofs.YtdkmfkdagikpgaaW.PrintWords Go.Proofs.YtdkmfkdagikpgaaW.PrintLast Go.Proofs.YtdkmfkdagikpgaaW.PrintMore

namespace RollOfPure

/-- A number of 64 bits. -/
def In64 (n : Int) : Prop := -9223372036854775808 ≤ n ∧ n ≤ 9223372036854775807
def sat (a b : Int) : Int := if a + b > 9223372036854775807 then 9223372036854775807 else if a + b < -9223372036854775808 then -9223372036854775808 else a + b

theorem sat_in (a b : Int) : In64 (sat a b) := by
  unfold sat In64
  split
  · omega
  · split <;> omega

theorem u64 (n : Int) : IntKind.u64.wrap n = n % 18446744073709551616 := by
  simp [IntKind.wrap, IntKind.bits, IntKind.signed]

theorem add_is (a b : Int) (ha : In64 a) (hb : In64 b) : nums_Add.f a b = some (sat a b) := by
  unfold In64 at ha hb
  have hw : wrap64 (IntKind.u64.wrap (IntKind.u64.wrap a + IntKind.u64.wrap b)) = wrap64 (a + b) := by
    rw [u64, u64, u64]
    unfold wrap64
    omega
  unfold nums_Add.f nums_end.f sat
  rw [hw]
  have h1 : ∀ x y : Int, ((decide (x < 0)) == (decide (y < 0))) = true ↔ (x < 0 ↔ y < 0) := by
    intro x y
    by_cases h : x < 0 <;> by_cases h' : y < 0 <;> simp [h, h']
  have h2 : ∀ x y : Int, ((decide (x < 0)) != (decide (y < 0))) = true ↔ ¬ (x < 0 ↔ y < 0) := by
    intro x y
    by_cases h : x < 0 <;> by_cases h' : y < 0 <;> simp [h, h']
  simp only [h1, h2]
  by_cases c1 : a < 0 ↔ b < 0
  · rw [if_pos c1]
    by_cases c2 : ¬ (wrap64 (a + b) < 0 ↔ a < 0)
    · rw [if_pos c2]
      by_cases c3 : a < 0
      · rw [if_pos (decide_eq_true c3)]
        simp only [Option.bind_some]
        congr 1
        unfold wrap64 at c2
        rw [if_neg (by omega), if_pos (by omega)]
      · rw [if_neg (by simpa using c3)]
        simp only [Option.bind_some]
        congr 1
        unfold wrap64 at c2
        rw [if_pos (by omega)]
    · rw [if_neg c2]
      congr 1
      unfold wrap64 at c2 ⊢
      by_cases c3 : a < 0
      · rw [if_neg (by omega), if_neg (by omega)]; omega
      · rw [if_neg (by omega), if_neg (by omega)]; omega
  · rw [if_neg c1]
    congr 1
    unfold wrap64
    rw [if_neg (by omega), if_neg (by omega)]
    omega

theorem sum_is (a b : Int) (ha : In64 a) (hb : In64 b) (k : Nat) : catacomblaw01_Sum.f (k + 1) a b = some (sat a b) := by
  unfold In64 at ha hb
  unfold catacomblaw01_Sum.f sat
  simp only [catacomblaw01_Sum.j0]
  by_cases h : b > 0
  · rw [if_pos h]
    have hw : wrap64 (9223372036854775807 - b) = 9223372036854775807 - b := by unfold wrap64; omega
    rw [hw]
    by_cases h1 : a > 9223372036854775807 - b
    · rw [if_pos (decide_eq_true h1), if_pos (by omega)]
    · rw [if_neg (by simpa using h1), if_neg (by omega), if_neg (by omega), if_neg (by omega)]
      congr 1
      unfold wrap64
      omega
  · rw [if_neg h, if_neg (by simp)]
    by_cases h0 : b < 0
    · have hw : wrap64 (-9223372036854775808 - b) = -9223372036854775808 - b := by unfold wrap64; omega
      rw [if_pos h0, hw]
      by_cases h1 : a < -9223372036854775808 - b
      · rw [if_pos h1, if_neg (by omega), if_pos (by omega)]
      · rw [if_neg h1, if_neg (by omega), if_neg (by omega)]
        congr 1
        unfold wrap64
        omega
    · rw [if_neg h0, if_neg (by omega), if_neg (by omega)]
      congr 1
      unfold wrap64
      omega

/-- Count, sum, least, greatest; and with a value more. -/
structure St where
  c : Int
  s : Int
  lo : Int
  hi : Int
def addS (t : St) (v : Int) : St := if t.c < 1 then ⟨1, v, v, v⟩ else ⟨t.c + 1, sat t.s v, mn t.lo v, mx t.hi v⟩
def run (l : List S31) (t : St) : St := l.foldl (fun t p => addS t p.f1) t
/-- What holds behind i points. -/
structure Ok (t : St) (i : Nat) : Prop where
  c : t.c = (i : Int)
  s : In64 t.s
  le : 0 < i → t.lo ≤ t.hi
  z : i = 0 → t = ⟨0, 0, 0, 0⟩
def AllIn (l : List S31) : Prop := ∀ p ∈ l, In64 p.f1

theorem ok_step {t : St} {i : Nat} (h : Ok t i) {v : Int} (hv : In64 v) : Ok (addS t v) (i + 1) := by
  unfold addS
  have := h.c
  by_cases hc : t.c < 1
  · rw [if_pos hc]
    exact ⟨by simp; omega, hv, fun _ => Int.le_refl _, fun h => by omega⟩
  · rw [if_neg hc]
    refine ⟨by simp; omega, sat_in _ _, fun _ => ?_, fun h => by omega⟩
    have hle := h.le (by omega)
    show mn t.lo v ≤ mx t.hi v
    unfold mn mx
    split <;> split <;> omega

theorem ok_run (l : List S31) : ∀ (t : St) (i : Nat), Ok t i → AllIn l → Ok (run l t) (i + l.length) := by
  induction l with
  | nil => intro t i h _; exact h
  | cons p r ih =>
    intro t i h hl
    have := ih (addS t p.f1) (i + 1) (ok_step h (hl p List.mem_cons_self)) (fun q hq => hl q (List.mem_cons_of_mem _ hq))
    simp only [List.length_cons]
    rw [show i + (r.length + 1) = i + 1 + r.length from by omega]
    exact this

theorem radd_is (a : Int) (t : St) (i : Nat) (h : Ok t i) (hi : i ≤ 100) (v : Int) (hv : In64 v) : roll_Add.f a t.c t.s t.lo t.hi v = some (a, (addS t v).c, (addS t v).s, (addS t v).lo, (addS t v).hi) := by
  unfold roll_Add.f addS
  have hc := h.c
  by_cases h1 : t.c < 1
  · rw [if_pos h1, if_pos h1]
  · rw [if_neg h1, if_neg h1, add_is t.c 1 (by unfold In64; omega) (by unfold In64; omega), add_is t.s v h.s hv]
    simp only [Option.bind_some]
    have : sat t.c 1 = t.c + 1 := by
      unfold sat
      rw [if_neg (by omega), if_neg (by omega)]
    rw [this]

theorem drop_at (l : List S31) (n : Nat) (h : n < l.length) : l.drop n = rd_T31 l n :: l.drop (n + 1) := by
  rw [List.drop_eq_getElem_cons h]
  congr 1
  unfold rd_T31
  simp [h]

theorem wrap_up {i : Int} (h0 : 0 ≤ i) (h : i < 1000) : wrap64 (i + 1) = i + 1 := by
  unfold wrap64
  omega

theorem of_l0 (l : List S31) (hl : AllIn l) (h61 : l.length ≤ 61) (a : Int) : ∀ (d k n : Nat) (t : St), n + d = l.length → Ok t n → d < k →
    roll_Of.l0 k l (l.length : Int) (n : Int) a t.c t.s t.lo t.hi = some (a, (run (l.drop n) t).c, (run (l.drop n) t).s, (run (l.drop n) t).lo, (run (l.drop n) t).hi, true) := by
  intro d
  induction d with
  | zero =>
    intro k n t h1 ht hk
    obtain ⟨k, rfl⟩ : ∃ m, k = m + 1 := ⟨k - 1, by omega⟩
    simp only [roll_Of.l0]
    rw [if_neg (by omega), List.drop_eq_nil_of_le (by omega)]
    rfl
  | succ d ih =>
    intro k n t h1 ht hk
    obtain ⟨k, rfl⟩ : ∃ m, k = m + 1 := ⟨k - 1, by omega⟩
    have hlt : (n : Int) < (l.length : Int) := by omega
    have hin : In64 (rd_T31 l n).f1 := hl _ (by rw [← List.mem_reverse]; have := drop_at l n (by omega); exact List.mem_reverse.2 (List.mem_of_mem_drop (by rw [this]; exact List.mem_cons_self)))
    simp only [roll_Of.l0]
    rw [if_pos hlt, if_pos (by omega), if_pos hlt, radd_is a t n ht (by omega) _ hin]
    simp only [Option.bind_some]
    rw [wrap_up (by omega) (by omega)]
    have hi := ih k (n + 1) (addS t (rd_T31 l n).f1) (by omega) (ok_step ht hin) (by omega)
    rw [drop_at l n (by omega)]
    exact hi

theorem pts_l0 (l : List S31) (hl : AllIn l) (h61 : l.length ≤ 61) (a : Int) : ∀ (d k n : Nat) (t : St), n + d = l.length → Ok t n → 2 * d + 1 < k →
    catacomblaw15_Points.l0 k l (l.length : Int) (n : Int) a t.c t.s t.lo t.hi = some (a, (run (l.drop n) t).c, (run (l.drop n) t).s, (run (l.drop n) t).lo, (run (l.drop n) t).hi) := by
  intro d
  induction d with
  | zero =>
    intro k n t h1 ht hk
    obtain ⟨k, rfl⟩ : ∃ m, k = m + 1 := ⟨k - 1, by omega⟩
    simp only [catacomblaw15_Points.l0]
    rw [if_neg (by omega), List.drop_eq_nil_of_le (by omega)]
    rfl
  | succ d ih =>
    intro k n t h1 ht hk
    obtain ⟨k, rfl⟩ : ∃ m, k = m + 1 + 1 := ⟨k - 2, by omega⟩
    have hlt : (n : Int) < (l.length : Int) := by omega
    have hin : In64 (rd_T31 l n).f1 := hl _ (List.mem_of_mem_drop (by rw [drop_at l n (by omega)]; exact List.mem_cons_self))
    have hc := ht.c
    simp only [catacomblaw15_Points.l0]
    rw [if_pos hlt, if_pos (by omega), if_pos hlt, sum_is t.s _ ht.s hin k]
    simp only [Option.bind_some, catacomblaw15_Points.j1]
    rw [wrap_up (show (0 : Int) ≤ (n : Int) by omega) (by omega), wrap_up (show (0 : Int) ≤ t.c by omega) (by omega)]
    have hi := ih k (n + 1) (addS t (rd_T31 l n).f1) (by omega) (ok_step ht hin) (by omega)
    rw [drop_at l n (by omega)]
    refine Eq.trans ?_ hi
    generalize (rd_T31 l n).f1 = v at hin
    unfold addS
    by_cases h0 : n = 0
    · have hz := ht.z h0
      subst hz
      subst h0
      have hs0 : sat 0 v = v := by
        unfold sat In64 at *
        rw [if_neg (by omega), if_neg (by omega)]
        omega
      simp [hs0]
    · have hn0 : ¬ ((n : Int) = 0) := by omega
      have hc1 : ¬ (t.c < 1) := by omega
      simp only [if_neg hn0, if_neg hc1]
      unfold mn mx
      by_cases ha : v < t.lo
      · rw [if_pos (decide_eq_true ha), if_pos ha]
        by_cases hb : v > t.hi
        · rw [if_pos hb, if_pos hb]; rfl
        · rw [if_neg hb, if_neg hb]; rfl
      · rw [if_neg (by simpa using ha), if_neg ha]
        by_cases hb : v > t.hi
        · rw [if_pos hb, if_pos hb]; rfl
        · rw [if_neg hb, if_neg hb]; rfl

def zero : St := ⟨0, 0, 0, 0⟩
theorem ok_zero : Ok zero 0 := ⟨rfl, by unfold In64 zero; simp, fun h => by omega, fun _ => rfl⟩

theorem of_is (l : List S31) (hl : AllIn l) (h61 : l.length ≤ 61) (a : Int) (k : Nat) (hk : l.length < k) :
    roll_Of.f k a l = if l = [] then some (0, 0, 0, 0, 0, false) else some (a, (run l zero).c, (run l zero).s, (run l zero).lo, (run l zero).hi, true) := by
  unfold roll_Of.f
  by_cases h : l = []
  · rw [if_pos h, if_pos (by rw [h]; rfl)]
  · have h0 : l.length ≠ 0 := fun e => h (List.length_eq_zero_iff.1 e)
    rw [if_neg h, if_neg (by omega)]
    have := of_l0 l hl h61 a l.length k 0 zero (by omega) ok_zero hk
    rw [List.drop_zero] at this
    exact this

theorem pts_is (l : List S31) (hl : AllIn l) (h61 : l.length ≤ 61) (a : Int) (k : Nat) (hk : 2 * l.length + 1 < k) :
    catacomblaw15_Points.f k a l = some (a, (run l zero).c, (run l zero).s, (run l zero).lo, (run l zero).hi) := by
  unfold catacomblaw15_Points.f
  have := pts_l0 l hl h61 a l.length k 0 zero (by omega) ok_zero hk
  rw [List.drop_zero] at this
  exact this

theorem lives_is : catacomblaw15_lives.f 20 = some true := by decide +kernel
theorem lives_ok (k : Nat) (hk : 20 ≤ k) : catacomblaw15_lives.f k = some true := at_rounds catacomblaw15_lives.mono hk lives_is

theorem law (a : Int) (l : List S31) (v : Int) (hl : AllIn l) (hv : In64 v) : catacomblaw15_RollOf.f 200 a l v = some true := by
  unfold catacomblaw15_RollOf.f
  rw [lives_ok _ (by omega)]
  simp only [Option.bind_some, if_true]
  rw [show (200 : Nat) = 199 + 1 from rfl]
  simp only [catacomblaw15_RollOf.j0]
  by_cases h : (l.length : Int) > 60
  · rw [if_pos (decide_eq_true h), lives_ok _ (by omega)]; rfl
  · rw [if_neg (by simpa using h)]
    have hle : l.length ≤ 60 := by omega
    rw [of_is l hl (by omega) a 199 (by omega), pts_is l hl (by omega) a 199 (by omega)]
    by_cases h0 : l = []
    · subst h0
      have h1 := radd_is a zero 0 ok_zero (by omega) v hv
      have h2 := pts_is [(⟨0, v⟩ : S31)] (by intro p hp; simp at hp; subst hp; exact hv) (by simp) a 199 (by simp)
      have e : run [(⟨0, v⟩ : S31)] zero = addS zero v := rfl
      rw [e] at h2
      have h1' : roll_Add.f a 0 0 0 0 v = _ := h1
      simp [h1', h2]
    · have hpos : ¬ ((l.length : Int) = 0) := fun e => h0 (List.length_eq_zero_iff.1 (by omega))
      have hok := ok_run l zero 0 ok_zero hl
      rw [Nat.zero_add] at hok
      rw [if_neg h0]
      simp only [Option.bind_some]
      rw [if_neg hpos]
      have hR : roll_Right.f a (run l zero).c (run l zero).s (run l zero).lo (run l zero).hi = some true := by
        unfold roll_Right.f
        rw [if_pos (by have := hok.c; omega), decide_eq_true (hok.le (by omega))]
      have h1 := radd_is a (run l zero) _ hok (by omega) v hv
      have h2 := pts_is (l ++ [(⟨0, v⟩ : S31)]) (by intro p hp; rcases List.mem_append.1 hp with hp | hp; exact hl p hp; simp at hp; subst hp; exact hv) (by simp; omega) a 199 (by simp; omega)
      have e : run (l ++ [(⟨0, v⟩ : S31)]) zero = addS (run l zero) v := by unfold run; rw [List.foldl_append]; rfl
      rw [e] at h2
      have hl1 : ([] : List S31).length + l.length < 8796093022208 := by simp; omega
      have hl2 : ([] ++ l : List S31).length < 8796093022208 := by simp; omega
      simp only [if_true, beq_self_eq_true, Bool.and_self, hR, h1, Option.bind_some, if_pos hl1, List.nil_append]
      rw [if_pos (by omega)]
      rw [h2]
      simp

theorem in64 {n : Int} (h : (Lit.int .i64 n).wf = true) : In64 n := by
  simp [Lit.wf, IntKind.min, IntKind.max, IntKind.bits, IntKind.signed] at h
  unfold In64
  omega

end RollOfPure

theorem RollOfWalk.walk (a0 : Int) (A1 : Option Addr) (len1 cap1 : Nat) (l1 : List S31) (a2 : Int) (W : World) (_ : (Lit.int .i64 a0).wf = true)
    (hr1 : ReadsRow (fun (p : S31) c => c = [.int .i64 p.f0, .int .i64 p.f1]) 2 W A1 len1 l1) (hc1 : len1 ≤ cap1) (hq1 : ∀ p ∈ l1, (Lit.int .i64 p.f0).wf = true ∧ (Lit.int .i64 p.f1).wf = true) (w2 : (Lit.int .i64 a2).wf = true) :
    Calls Try.prog 3 #[.int .i64 a0, .slice A1 len1 cap1, .int .i64 a2] W fun e w' => e = .returned (.bool true) ∧ Below W.heap.size W w' := by
  have hl := hr1.1
  subst hl
  have hr : Kd.C k31 W A1 l1.length l1 := ⟨rfl, hr1.2.1, fun h => by
    obtain ⟨ad, e, hc⟩ := hr1.2.2 h
    refine ⟨ad, e, fun j p hj => ?_⟩
    obtain ⟨c, h1, h2, h3⟩ := hc j p hj
    subst h2
    exact ⟨_, h1, k31_mk W p, h3⟩⟩
  exact catacomblaw15_RollOf.calls 200 a0 A1 cap1 l1 a2 true W hr hc1 (RollOfPure.law a0 l1 a2 (fun p hp => RollOfPure.in64 (hq1 p hp).2) (RollOfPure.in64 w2))

end Go.Proofs.Ytdkmfkdagikpgaa.Pure
