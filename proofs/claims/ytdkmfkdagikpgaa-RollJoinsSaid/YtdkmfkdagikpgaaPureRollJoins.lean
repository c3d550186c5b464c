/- Aggregates (of at most 60) together are counted and added one by one, saturated; those without values don't count. No condition. -/
import Derived.Test.YtdkmfkdagikpgaaPRollJoinsx4
namespace Go.Proofs.Ytdkmfkdagikpgaa.Pure
open Go.RowKit Go.Proofs.Ytdkmfkdagikpgaa.PRollJoins Go.Proofs.YtdkmfkdagikpgaaW.PrintWords Go.Proofs.YtdkmfkdagikpgaaW.PrintLast Go.Proofs.YtdkmfkdagikpgaaW.PrintMore

namespace RollJoinsPure

/-- A number of 64 bits. -/
def In64 (n : Int) : Prop := -9223372036854775808 ≤ n ∧ n ≤ 9223372036854775807
def sat (a b : Int) : Int := if a + b > 9223372036854775807 then 9223372036854775807 else if a + b < -9223372036854775808 then -9223372036854775808 else a + b

theorem sat_in (a b : Int) : In64 (sat a b) := by
  unfold sat In64
  split
  · omega
  · split <;> omega

theorem u64 (n : Int) : IntKind.u64.wrap n = n % 18446744073709551616 := by
  simp [IntKind.wrap, IntKind.bits, IntKind.signed]

theorem add_is (a b : Int) (ha : In64 a) (hb : In64 b) : nums_Add.f a b = some (sat a b) := by
  unfold In64 at ha hb
  have hw : wrap64 (IntKind.u64.wrap (IntKind.u64.wrap a + IntKind.u64.wrap b)) = wrap64 (a + b) := by
    rw [u64, u64, u64]
    unfold wrap64
    omega
  unfold nums_Add.f nums_end.f sat
  rw [hw]
  have h1 : ∀ x y : Int, ((decide (x < 0)) == (decide (y < 0))) = true ↔ (x < 0 ↔ y < 0) := by
    intro x y
    by_cases h : x < 0 <;> by_cases h' : y < 0 <;> simp [h, h']
  have h2 : ∀ x y : Int, ((decide (x < 0)) != (decide (y < 0))) = true ↔ ¬ (x < 0 ↔ y < 0) := by
    intro x y
    by_cases h : x < 0 <;> by_cases h' : y < 0 <;> simp [h, h']
  simp only [h1, h2]
  by_cases c1 : a < 0 ↔ b < 0
  · rw [if_pos c1]
    by_cases c2 : ¬ (wrap64 (a + b) < 0 ↔ a < 0)
    · rw [if_pos c2]
      by_cases c3 : a < 0
      · rw [if_pos (decide_eq_true c3)]
        simp only [Option.bind_some]
        congr 1
        unfold wrap64 at c2
        rw [if_neg (by omega), if_pos (by omega)]
      · rw [if_neg (by simpa using c3)]
        simp only [Option.bind_some]
        congr 1
        unfold wrap64 at c2
        rw [if_pos (by omega)]
    · rw [if_neg c2]
      congr 1
      unfold wrap64 at c2 ⊢
      by_cases c3 : a < 0
      · rw [if_neg (by omega), if_neg (by omega)]; omega
      · rw [if_neg (by omega), if_neg (by omega)]; omega
  · rw [if_neg c1]
    congr 1
    unfold wrap64
    rw [if_neg (by omega), if_neg (by omega)]
    omega

theorem sum_is (a b : Int) (ha : In64 a) (hb : In64 b) (k : Nat) : catacomblaw01_Sum.f (k + 1) a b = some (sat a b) := by
  unfold In64 at ha hb
  unfold catacomblaw01_Sum.f sat
  simp only [catacomblaw01_Sum.j0]
  by_cases h : b > 0
  · rw [if_pos h]
    have hw : wrap64 (9223372036854775807 - b) = 9223372036854775807 - b := by unfold wrap64; omega
    rw [hw]
    by_cases h1 : a > 9223372036854775807 - b
    · rw [if_pos (decide_eq_true h1), if_pos (by omega)]
    · rw [if_neg (by simpa using h1), if_neg (by omega), if_neg (by omega), if_neg (by omega)]
      congr 1
      unfold wrap64
      omega
  · rw [if_neg h, if_neg (by simp)]
    by_cases h0 : b < 0
    · have hw : wrap64 (-9223372036854775808 - b) = -9223372036854775808 - b := by unfold wrap64; omega
      rw [if_pos h0, hw]
      by_cases h1 : a < -9223372036854775808 - b
      · rw [if_pos h1, if_neg (by omega), if_pos (by omega)]
      · rw [if_neg h1, if_neg (by omega), if_neg (by omega)]
        congr 1
        unfold wrap64
        omega
    · rw [if_neg h0, if_neg (by omega), if_neg (by omega)]
      congr 1
      unfold wrap64
      omega

theorem in64 {n : Int} (h : (Lit.int .i64 n).wf = true) : In64 n := by
  simp [Lit.wf, IntKind.min, IntKind.max, IntKind.bits, IntKind.signed] at h
  unfold In64
  omega

theorem lives_is : catacomblaw15_lives.f 20 = some true := by decide +kernel
theorem lives_ok (k : Nat) (hk : 20 ≤ k) : catacomblaw15_lives.f k = some true := at_rounds catacomblaw15_lives.mono hk lives_is

/-- What came together so far: some or none; count, sum, least, greatest. -/
structure St where
  some : Bool
  c : Int
  s : Int
  lo : Int
  hi : Int
def joinS (t : St) (a : S25) : St := if a.f1 < 1 then t else if t.some = true then ⟨true, sat t.c a.f1, sat t.s a.f2, mn t.lo a.f3, mx t.hi a.f4⟩ else ⟨true, a.f1, a.f2, a.f3, a.f4⟩
def run (l : List S25) (t : St) : St := l.foldl joinS t
structure Ok (t : St) : Prop where
  c : In64 t.c
  s : In64 t.s
  z : t.some = false → t = ⟨false, 0, 0, 0, 0⟩
def AllIn (l : List S25) : Prop := ∀ p ∈ l, In64 p.f1 ∧ In64 p.f2
theorem ok_step {t : St} (h : Ok t) {a : S25} (ha : In64 a.f1 ∧ In64 a.f2) : Ok (joinS t a) := by
  unfold joinS
  split
  · exact h
  · split
    · exact ⟨sat_in _ _, sat_in _ _, fun h => by cases h⟩
    · exact ⟨ha.1, ha.2, fun h => by cases h⟩
theorem drop_at (l : List S25) (n : Nat) (h : n < l.length) : l.drop n = rd_T25 l n :: l.drop (n + 1) := by
  rw [List.drop_eq_getElem_cons h]
  congr 1
  unfold rd_T25
  simp [h]
theorem wrap_up {i : Int} (h0 : 0 ≤ i) (h : i < 1000) : wrap64 (i + 1) = i + 1 := by
  unfold wrap64
  omega
theorem run_ok (l : List S25) : ∀ t, Ok t → AllIn l → Ok (run l t) := by
  induction l with
  | nil => intro t h _; exact h
  | cons p r ih => intro t h hl; exact ih _ (ok_step h (hl p List.mem_cons_self)) (fun q hq => hl q (List.mem_cons_of_mem _ hq))

def told (a : Int) (t : St) : Int × Int × Int × Int × Int × Bool := if t.some = true then (a, t.c, t.s, t.lo, t.hi, true) else (0, 0, 0, 0, 0, false)

theorem join_l0 (l : List S25) (hl : AllIn l) (h60 : l.length ≤ 60) (a : Int) : ∀ (d k n : Nat) (b : Int) (t : St), n + d = l.length → Ok t → d < k →
    roll_Join.l0 k a t.some l (l.length : Int) (n : Int) b t.c t.s t.lo t.hi = some (told a (run (l.drop n) t)) := by
  intro d
  induction d with
  | zero =>
    intro k n b t h1 ht hk
    obtain ⟨k, rfl⟩ : ∃ m, k = m + 1 := ⟨k - 1, by omega⟩
    simp only [roll_Join.l0]
    rw [if_neg (by omega), List.drop_eq_nil_of_le (by omega)]
    show _ = some (told a t)
    unfold told
    split <;> rfl
  | succ d ih =>
    intro k n b t h1 ht hk
    obtain ⟨k, rfl⟩ : ∃ m, k = m + 1 := ⟨k - 1, by omega⟩
    have hlt : (n : Int) < (l.length : Int) := by omega
    have hin : In64 (rd_T25 l n).f1 ∧ In64 (rd_T25 l n).f2 := hl _ (List.mem_of_mem_drop (by rw [drop_at l n (by omega)]; exact List.mem_cons_self))
    simp only [roll_Join.l0]
    rw [if_pos hlt, if_pos (by omega), if_pos hlt, wrap_up (by omega) (by omega), drop_at l n (by omega)]
    show _ = some (told a (run (l.drop (n + 1)) (joinS t (rd_T25 l n))))
    have hok := ok_step ht hin
    generalize rd_T25 l n = e at hin hok
    unfold joinS at hok ⊢
    by_cases c1 : e.f1 < 1
    · rw [if_pos c1] at hok ⊢
      rw [if_pos c1]
      exact ih k (n + 1) b t (by omega) ht (by omega)
    · rw [if_neg c1] at hok ⊢
      rw [if_neg c1]
      by_cases c2 : t.some = true
      · rw [if_pos c2] at hok ⊢
        rw [if_pos c2, add_is t.c e.f1 ht.c hin.1, add_is t.s e.f2 ht.s hin.2]
        simp only [Option.bind_some]
        rw [c2]
        exact ih k (n + 1) 0 _ (by omega) hok (by omega)
      · rw [if_neg c2] at hok ⊢
        rw [if_neg c2]
        exact ih k (n + 1) e.f0 _ (by omega) hok (by omega)

theorem law_l0 (l : List S25) (hl : AllIn l) (h60 : l.length ≤ 60) (a : Int) (g : St) (hg : Ok g) : ∀ (d k n : Nat) (b : Int) (t : St), n + d = l.length → Ok t → d + 1 < k → (t.some = false → b = 0) → run (l.drop n) t = g →
    catacomblaw15_RollJoins.l0 k a g.some t.some l (l.length : Int) (n : Int) (told a g).1 (told a g).2.1 (told a g).2.2.1 (told a g).2.2.2.1 (told a g).2.2.2.2.1 b t.c t.s t.lo t.hi = some true := by
  intro d
  induction d with
  | zero =>
    intro k n b t h1 ht hk hb he
    obtain ⟨k, rfl⟩ : ∃ m, k = m + 1 := ⟨k - 1, by omega⟩
    rw [List.drop_eq_nil_of_le (by omega)] at he
    have he' : t = g := he
    subst he'
    simp only [catacomblaw15_RollJoins.l0]
    rw [if_neg (by omega)]
    unfold told
    cases hs : t.some with
    | true => simp
    | false =>
      have hz := ht.z hs
      have hb0 := hb hs
      subst hb0
      simp [hz]
  | succ d ih =>
    intro k n b t h1 ht hk hb he
    obtain ⟨k, rfl⟩ : ∃ m, k = m + 1 := ⟨k - 1, by omega⟩
    have hlt : (n : Int) < (l.length : Int) := by omega
    have hin : In64 (rd_T25 l n).f1 ∧ In64 (rd_T25 l n).f2 := hl _ (List.mem_of_mem_drop (by rw [drop_at l n (by omega)]; exact List.mem_cons_self))
    rw [drop_at l n (by omega)] at he
    have he' : run (l.drop (n + 1)) (joinS t (rd_T25 l n)) = g := he
    simp only [catacomblaw15_RollJoins.l0]
    rw [if_pos hlt, if_pos (by omega), if_pos hlt, wrap_up (by omega) (by omega)]
    obtain ⟨k, rfl⟩ : ∃ m, k = m + 1 := ⟨k - 1, by omega⟩
    have hok := ok_step ht hin
    generalize rd_T25 l n = e at hin hok he'
    unfold joinS at hok he'
    by_cases c1 : e.f1 < 1
    · rw [if_pos c1] at hok he'
      rw [if_pos c1]
      exact ih (k + 1) (n + 1) b t (by omega) ht (by omega) hb he'
    · rw [if_neg c1] at hok he'
      rw [if_neg c1]
      by_cases c2 : t.some = true
      · rw [if_pos c2] at hok he'
        rw [if_pos c2, sum_is t.c e.f1 ht.c hin.1, sum_is t.s e.f2 ht.s hin.2]
        simp only [Option.bind_some]
        rw [c2]
        have hi := ih (k + 1) (n + 1) b _ (by omega) hok (by omega) (fun h => by cases h) he'
        refine Eq.trans ?_ hi
        unfold mn mx
        by_cases ha : e.f3 < t.lo
        · rw [if_pos ha, if_pos ha]
          by_cases hb : e.f4 > t.hi
          · rw [if_pos hb, if_pos hb]; rfl
          · rw [if_neg hb, if_neg hb]; rfl
        · rw [if_neg ha, if_neg ha]
          by_cases hb : e.f4 > t.hi
          · rw [if_pos hb, if_pos hb]; rfl
          · rw [if_neg hb, if_neg hb]; rfl
      · rw [if_neg c2] at hok he'
        rw [if_neg c2]
        exact ih (k + 1) (n + 1) e.f0 _ (by omega) hok (by omega) (fun h => by cases h) he'

def zero : St := ⟨false, 0, 0, 0, 0⟩
theorem ok_zero : Ok zero := ⟨by unfold In64 zero; simp, by unfold In64 zero; simp, fun _ => rfl⟩

theorem law (a : Int) (l : List S25) (hl : AllIn l) : catacomblaw15_RollJoins.f 200 a l = some true := by
  unfold catacomblaw15_RollJoins.f
  rw [lives_ok _ (by omega)]
  simp only [Option.bind_some, if_true]
  rw [show (200 : Nat) = 199 + 1 from rfl]
  simp only [catacomblaw15_RollJoins.j0]
  by_cases h : (l.length : Int) > 60
  · rw [if_pos (decide_eq_true h), lives_ok _ (by omega)]; rfl
  · rw [if_neg (by simpa using h)]
    have hle : l.length ≤ 60 := by omega
    have hj : roll_Join.f 199 a l = some (told a (run l zero)) := by
      have := join_l0 l hl hle a l.length 199 0 0 zero (by omega) ok_zero (by omega)
      rw [List.drop_zero] at this
      exact this
    rw [hj]
    simp only [Option.bind_some]
    have hg := run_ok l zero ok_zero hl
    have hs : (told a (run l zero)).2.2.2.2.2 = (run l zero).some := by
      unfold told
      cases (run l zero).some <;> rfl
    rw [hs]
    exact law_l0 l hl hle a (run l zero) hg l.length 199 0 0 zero (by omega) ok_zero (by omega) (fun _ => rfl) (by rw [List.drop_zero])

end RollJoinsPure

theorem RollJoinsWalk.walk (a0 : Int) (A1 : Option Addr) (len1 cap1 : Nat) (l1 : List S25) (W : World) (_ : (Lit.int .i64 a0).wf = true)
    (hr1 : ReadsRow (fun (p : S25) c => c = [.int .i64 p.f0, .int .i64 p.f1, .int .i64 p.f2, .int .i64 p.f3, .int .i64 p.f4]) 5 W A1 len1 l1) (hc1 : len1 ≤ cap1)
    (hq1 : ∀ p ∈ l1, (Lit.int .i64 p.f0).wf = true ∧ (Lit.int .i64 p.f1).wf = true ∧ (Lit.int .i64 p.f2).wf = true ∧ (Lit.int .i64 p.f3).wf = true ∧ (Lit.int .i64 p.f4).wf = true) :
    Calls Try.prog 5 #[.int .i64 a0, .slice A1 len1 cap1] W fun e w' => e = .returned (.bool true) ∧ Below W.heap.size W w' := by
  have hl := hr1.1
  subst hl
  have hr : Kd.C k25 W A1 l1.length l1 := ⟨rfl, hr1.2.1, fun h => by
    obtain ⟨ad, e, hc⟩ := hr1.2.2 h
    refine ⟨ad, e, fun j p hj => ?_⟩
    obtain ⟨c, h1, h2, h3⟩ := hc j p hj
    subst h2
    exact ⟨_, h1, k25_mk W p, h3⟩⟩
  exact catacomblaw15_RollJoins.calls 200 a0 A1 cap1 l1 true W hr hc1 (RollJoinsPure.law a0 l1 (fun p hp => ⟨RollJoinsPure.in64 (hq1 p hp).2.1, RollJoinsPure.in64 (hq1 p hp).2.2.1⟩))

end Go.Proofs.Ytdkmfkdagikpgaa.Pure
