/- Aggregates of aggregates are those of the points, where nothing saturates; plain. -/
import Derived.Test.YtnjdngjlbonieaaRollS
import Derived.Lib.Hide
import Derived.LoopTactic
import Derived.Outline
import Derived.Laws.Rows
import Derived.Laws.CopyOwn
import Derived.WalkKit
set_option linter.unusedVariables false
set_option linter.unusedSimpArgs false
namespace Go.Proofs.Ytnjdngjlbonieaa
open Go.RowKit Go.Proofs.YtnjdngjlbonieaaW.PrintWords Go.Proofs.YtnjdngjlbonieaaW.PrintLast Go.Proofs.YtnjdngjlbonieaaW.PrintMore
open Go.Proofs.Ytnjdngjlbonieaa.PRollWindows
attribute [local go_sem] max2_int min2_int max_two min_two max_three min_three max_four min_four

open RollOfPure
open Go.Proofs.Ytnjdngjlbonieaa.PRollTiers (S31 rd_T31 roll_Join.f roll_Join.l0)
namespace RollTiersPure
theorem nums_same : @Go.Proofs.Ytnjdngjlbonieaa.PRollTiers.nums_Add.f = @Go.Proofs.Ytnjdngjlbonieaa.PRollWindows.nums_Add.f := rfl
theorem add_isJ (a b : Int) (ha : In64 a) (hb : In64 b) : Go.Proofs.Ytnjdngjlbonieaa.PRollTiers.nums_Add.f a b = some (sat a b) := by
  rw [nums_same]
  exact add_is a b ha hb
/-- They rise, from 0 on. -/
def Rises31 (l : List S31) : Prop := ∀ (j : Nat) (x : S31), l[j]? = some x → 0 ≤ x.f0 ∧ ∀ y, 0 < j → l[j - 1]? = some y → y.f0 < x.f0
/-- The windows, from a first one's start and points on. -/
def ws31 (W : Int) : List S31 → Int → List S31 → List (Int × List S31)
  | [], s, ys => [(s, ys)]
  | x :: r, s, ys => if x.f0 - x.f0 % W = s then ws31 W r s (ys ++ [x]) else (s, ys) :: ws31 W r (x.f0 - x.f0 % W) [x]
def wins31 (W : Int) : List S31 → List (Int × List S31)
  | [] => []
  | x :: r => ws31 W r (x.f0 - x.f0 % W) [x]
theorem grp_ws31 {W : Int} {l : List S31} (hl : Rises31 l) : ∀ (d n : Nat) (s : Int) (ys : List S31) (G0 : List (Int × List S31)), n + d = l.length → 0 < n →
    grpF W S31.f0 (l.drop n) (prevA S31.f0 l n) (G0 ++ [(s, ys)]) = G0 ++ ws31 W (l.drop n) s ys := by
  intro d
  induction d with
  | zero =>
    intro n s ys G0 h1 h0
    rw [List.drop_eq_nil_of_le (by omega)]
    rfl
  | succ d ih =>
    intro n s ys G0 h1 h0
    obtain ⟨x, hx⟩ : ∃ x, l[n]? = some x := ⟨_, List.getElem?_eq_getElem (by omega)⟩
    have hr := hl n x hx
    rw [grp_step hx, if_neg (by
      rintro (h | ⟨q, h, h'⟩)
      · omega
      · unfold prevA at h
        rw [if_neg (by omega), Option.map_eq_some_iff] at h
        obtain ⟨y, hy, rfl⟩ := h
        have := hr.2 y h0 hy
        omega)]
    obtain ⟨hj, he⟩ := List.getElem?_eq_some_iff.1 hx
    rw [List.drop_eq_getElem_cons hj, he]
    unfold addG
    rw [List.getLast?_concat]
    show grpF W S31.f0 _ _ (lastG (if (some s = some (x.f0 - x.f0 % W)) then _ else _) x) = G0 ++ (if x.f0 - x.f0 % W = s then _ else _)
    by_cases hs : x.f0 - x.f0 % W = s
    · rw [if_pos (by rw [hs]), if_pos hs, lastG_some (g := (s, ys)) (by rw [List.getLast?_concat])]
      have e : (G0 ++ [(s, ys)]).set ((G0 ++ [(s, ys)]).length - 1) (s, ys ++ [x]) = G0 ++ [(s, ys ++ [x])] := by simp
      rw [e]
      exact ih (n + 1) s (ys ++ [x]) G0 (by omega) (by omega)
    · rw [if_neg (fun e => hs (Option.some.inj e).symm), if_neg hs, lastG_push]
      have := ih (n + 1) (x.f0 - x.f0 % W) [x] (G0 ++ [(s, ys)]) (by omega) (by omega)
      rw [this, List.append_assoc]
      rfl
theorem grp_wins31 {W : Int} {l : List S31} (hl : Rises31 l) : grpF W S31.f0 l none [] = wins31 W l := by
  cases l with
  | nil => rfl
  | cons x r =>
    have h0 := grp_step (W := W) (at_ := S31.f0) (l := x :: r) (j := 0) rfl []
    have hx := hl 0 x rfl
    rw [if_neg (by
      rintro (h | ⟨q, h, h'⟩)
      · omega
      · cases h)] at h0
    have e : addG [] (x.f0 - x.f0 % W) x = [(x.f0 - x.f0 % W, [x])] := rfl
    rw [e] at h0
    have h1 := grp_ws31 hl (W := W) r.length 1 (x.f0 - x.f0 % W) [x] [] (by simp; omega) (by omega)
    have h2 : grpF W S31.f0 (x :: r) none [] = _ := h0
    rw [h2]
    exact h1
theorem grp_bad31 {W : Int} {l : List S31} : ∀ (d n : Nat) (G : List (Int × List S31)), n + d = l.length → (∃ (j : Nat) (x : S31), n ≤ j ∧ l[j]? = some x ∧ (x.f0 < 0 ∨ ∃ y, 0 < j ∧ l[j - 1]? = some y ∧ x.f0 ≤ y.f0)) →
    grpF W S31.f0 (l.drop n) (prevA S31.f0 l n) G = [] := by
  intro d
  induction d with
  | zero =>
    rintro n G h1 ⟨j, x, hj, hx, _⟩
    have := (List.getElem?_eq_some_iff.1 hx).1
    omega
  | succ d ih =>
    rintro n G h1 ⟨j, x, hj, hx, hb⟩
    obtain ⟨y, hy⟩ : ∃ y, l[n]? = some y := ⟨_, List.getElem?_eq_getElem (by omega)⟩
    rw [grp_step hy]
    by_cases hc : y.f0 < 0 ∨ (∃ q, prevA S31.f0 l n = some q ∧ y.f0 ≤ q)
    · rw [if_pos hc]
    · rw [if_neg hc]
      refine ih (n + 1) _ (by omega) ⟨j, x, ?_, hx, hb⟩
      rcases Nat.lt_or_ge n j with h2 | h2
      · exact h2
      · have : j = n := by omega
        subst this
        rw [hx] at hy
        injection hy with hy
        subst hy
        refine absurd ?_ hc
        rcases hb with hb | ⟨z, h0, hz, hzx⟩
        · exact .inl hb
        · refine .inr ⟨z.f0, ?_, hzx⟩
          unfold prevA
          rw [if_neg (by omega), hz]
          rfl
open Classical in
theorem grp_is31 (W : Int) (l : List S31) : grpF W S31.f0 l none [] = if Rises31 l then wins31 W l else [] := by
  by_cases h : Rises31 l
  · rw [if_pos h, grp_wins31 h]
  · rw [if_neg h]
    have h2 : ∃ (j : Nat) (x : S31), 0 ≤ j ∧ l[j]? = some x ∧ (x.f0 < 0 ∨ ∃ y, 0 < j ∧ l[j - 1]? = some y ∧ x.f0 ≤ y.f0) := by
      refine Classical.byContradiction fun hn => h fun j x hx => ⟨?_, fun y h0 hy => ?_⟩
      · exact Classical.byContradiction fun hl => hn ⟨j, x, Nat.zero_le _, hx, .inl (by omega)⟩
      · exact Classical.byContradiction fun hl => hn ⟨j, x, Nat.zero_le _, hx, .inr ⟨y, h0, hy, by omega⟩⟩
    exact grp_bad31 (W := W) l.length 0 [] (by omega) h2
theorem ws_mem31 {W : Int} : ∀ (r : List S31) (s : Int) (ys : List S31), ys ≠ [] → (ws31 W r s ys).length ≤ r.length + 1 ∧ ∀ g ∈ ws31 W r s ys, g.2 ≠ [] ∧ g.2.length ≤ ys.length + r.length ∧ ∀ x ∈ g.2, x ∈ ys ∨ x ∈ r := by
  intro r
  induction r with
  | nil =>
    intro s ys hy
    refine ⟨by simp [ws31], fun g hg => ?_⟩
    simp only [ws31, List.mem_singleton] at hg
    subst hg
    exact ⟨hy, by simp, fun x hx => .inl hx⟩
  | cons x r ih =>
    intro s ys hy
    have e : ws31 W (x :: r) s ys = if x.f0 - x.f0 % W = s then ws31 W r s (ys ++ [x]) else (s, ys) :: ws31 W r (x.f0 - x.f0 % W) [x] := rfl
    rw [e]
    by_cases hs : x.f0 - x.f0 % W = s
    · rw [if_pos hs]
      obtain ⟨h1, h2⟩ := ih s (ys ++ [x]) (by simp)
      refine ⟨by simp; omega, fun g hg => ?_⟩
      obtain ⟨a, b, c⟩ := h2 g hg
      refine ⟨a, by simp at b ⊢; omega, fun y hyy => ?_⟩
      rcases c y hyy with h | h
      · rcases List.mem_append.1 h with h | h
        · exact .inl h
        · exact .inr (by rw [List.mem_singleton.1 h]; simp)
      · exact .inr (List.mem_cons_of_mem _ h)
    · rw [if_neg hs]
      obtain ⟨h1, h2⟩ := ih (x.f0 - x.f0 % W) [x] (by simp)
      refine ⟨by simp; omega, fun g hg => ?_⟩
      rcases List.mem_cons.1 hg with rfl | hg
      · exact ⟨hy, by simp, fun y h => .inl h⟩
      · obtain ⟨a, b, c⟩ := h2 g hg
        refine ⟨a, by simp at b ⊢; omega, fun y hyy => ?_⟩
        rcases c y hyy with h | h
        · exact .inr (by rw [List.mem_singleton.1 h]; simp)
        · exact .inr (List.mem_cons_of_mem _ h)
theorem grp_mem31 (W : Int) (l : List S31) : (grpF W S31.f0 l none []).length ≤ l.length ∧ ∀ g ∈ grpF W S31.f0 l none [], g.2 ≠ [] ∧ g.2.length ≤ l.length ∧ ∀ x ∈ g.2, x ∈ l := by
  rw [grp_is31]
  split
  · cases l with
    | nil => exact ⟨Nat.le_refl _, fun g hg => by cases hg⟩
    | cons x r =>
      obtain ⟨h1, h2⟩ := ws_mem31 (W := W) r (x.f0 - x.f0 % W) [x] (by simp)
      refine ⟨by simpa [wins31] using h1, fun g hg => ?_⟩
      obtain ⟨a, b, c⟩ := h2 g hg
      refine ⟨a, by simp at b ⊢; omega, fun y hy => ?_⟩
      rcases c y hy with h | h
      · rw [List.mem_singleton.1 h]; simp
      · exact List.mem_cons_of_mem _ h
  · exact ⟨Nat.zero_le _, fun g hg => by cases hg⟩
/-- What came together so far: some or none; count, sum, least, greatest. -/
structure SJ where
  some : Bool
  c : Int
  s : Int
  lo : Int
  hi : Int
def joinS (t : SJ) (a : S31) : SJ := if a.f1 < 1 then t else if t.some = true then ⟨true, sat t.c a.f1, sat t.s a.f2, mn t.lo a.f3, mx t.hi a.f4⟩ else ⟨true, a.f1, a.f2, a.f3, a.f4⟩
def runJ (l : List S31) (t : SJ) : SJ := l.foldl joinS t
structure OkJ (t : SJ) : Prop where
  c : In64 t.c
  s : In64 t.s
  z : t.some = false → t = ⟨false, 0, 0, 0, 0⟩
def AllInJ (l : List S31) : Prop := ∀ p ∈ l, In64 p.f1 ∧ In64 p.f2
theorem ok_stepJ {t : SJ} (h : OkJ t) {a : S31} (ha : In64 a.f1 ∧ In64 a.f2) : OkJ (joinS t a) := by
  unfold joinS
  split
  · exact h
  · split
    · exact ⟨sat_in _ _, sat_in _ _, fun h => by cases h⟩
    · exact ⟨ha.1, ha.2, fun h => by cases h⟩
theorem drop_atJ (l : List S31) (n : Nat) (h : n < l.length) : l.drop n = rd_T31 l n :: l.drop (n + 1) := by
  rw [List.drop_eq_getElem_cons h]
  congr 1
  unfold rd_T31
  simp [h]
theorem run_okJ (l : List S31) : ∀ t, OkJ t → AllInJ l → OkJ (runJ l t) := by
  induction l with
  | nil => intro t h _; exact h
  | cons p r ih => intro t h hl; exact ih _ (ok_stepJ h (hl p List.mem_cons_self)) (fun q hq => hl q (List.mem_cons_of_mem _ hq))

def told (a : Int) (t : SJ) : Int × Int × Int × Int × Int × Bool := if t.some = true then (a, t.c, t.s, t.lo, t.hi, true) else (0, 0, 0, 0, 0, false)

theorem join_l0 (l : List S31) (hl : AllInJ l) (h60 : l.length ≤ 60) (a : Int) : ∀ (d k n : Nat) (b : Int) (t : SJ), n + d = l.length → OkJ t → d < k →
    roll_Join.l0 k a t.some l (l.length : Int) (n : Int) b t.c t.s t.lo t.hi = some (told a (runJ (l.drop n) t)) := by
  intro d
  induction d with
  | zero =>
    intro k n b t h1 ht hk
    obtain ⟨k, rfl⟩ : ∃ m, k = m + 1 := ⟨k - 1, by omega⟩
    simp only [roll_Join.l0]
    rw [if_neg (by omega), List.drop_eq_nil_of_le (by omega)]
    show _ = some (told a t)
    unfold told
    split <;> rfl
  | succ d ih =>
    intro k n b t h1 ht hk
    obtain ⟨k, rfl⟩ : ∃ m, k = m + 1 := ⟨k - 1, by omega⟩
    have hlt : (n : Int) < (l.length : Int) := by omega
    have hin : In64 (rd_T31 l n).f1 ∧ In64 (rd_T31 l n).f2 := hl _ (List.mem_of_mem_drop (by rw [drop_atJ l n (by omega)]; exact List.mem_cons_self))
    simp only [roll_Join.l0]
    rw [if_pos hlt, if_pos (by omega), if_pos hlt, wrap_up (by omega) (by omega), drop_atJ l n (by omega)]
    show _ = some (told a (runJ (l.drop (n + 1)) (joinS t (rd_T31 l n))))
    have hok := ok_stepJ ht hin
    generalize rd_T31 l n = e at hin hok
    unfold joinS at hok ⊢
    by_cases c1 : e.f1 < 1
    · rw [if_pos c1] at hok ⊢
      rw [if_pos c1]
      exact ih k (n + 1) b t (by omega) ht (by omega)
    · rw [if_neg c1] at hok ⊢
      rw [if_neg c1]
      by_cases c2 : t.some = true
      · rw [if_pos c2] at hok ⊢
        rw [if_pos c2, add_isJ t.c e.f1 ht.c hin.1, add_isJ t.s e.f2 ht.s hin.2]
        simp only [Option.bind_some]
        rw [c2]
        exact ih k (n + 1) 0 _ (by omega) hok (by omega)
      · rw [if_neg c2] at hok ⊢
        rw [if_neg c2]
        exact ih k (n + 1) e.f0 _ (by omega) hok (by omega)


def aggS (g : Int × List S29) : S31 := ⟨g.1, (run g.2 zero).c, (run g.2 zero).s, (run g.2 zero).lo, (run g.2 zero).hi⟩
theorem ws_app {W : Int} : ∀ (ys r : List S29) (s : Int) (acc : List S29), (∀ x ∈ ys, x.f0 - x.f0 % W = s) → ws W (ys ++ r) s acc = ws W r s (acc ++ ys) := by
  intro ys
  induction ys with
  | nil => intro r s acc _; rw [List.append_nil]; rfl
  | cons y ys ih =>
    intro r s acc h
    show (if _ then _ else _) = _
    rw [if_pos (h y List.mem_cons_self)]
    have := ih r s (acc ++ [y]) (fun x hx => h x (List.mem_cons_of_mem _ hx))
    rw [List.append_assoc] at this
    exact this
def wsM (W : Int) : List (Int × List S29) → Int → List (Int × List S29) → List (Int × List (Int × List S29))
  | [], s, N => [(s, N)]
  | g :: M, s, N => if g.1 - g.1 % W = s then wsM W M s (N ++ [g]) else (s, N) :: wsM W M (g.1 - g.1 % W) [g]
theorem wsM_31 {W : Int} : ∀ (M : List (Int × List S29)) (s : Int) (N : List (Int × List S29)), ws31 W (M.map aggS) s (N.map aggS) = (wsM W M s N).map fun z => (z.1, z.2.map aggS) := by
  intro M
  induction M with
  | nil => intro s N; rfl
  | cons g M ih =>
    intro s N
    have e1 : ws31 W ((g :: M).map aggS) s (N.map aggS) = if g.1 - g.1 % W = s then ws31 W (M.map aggS) s (N.map aggS ++ [aggS g]) else (s, N.map aggS) :: ws31 W (M.map aggS) (g.1 - g.1 % W) [aggS g] := rfl
    have e2 : wsM W (g :: M) s N = if g.1 - g.1 % W = s then wsM W M s (N ++ [g]) else (s, N) :: wsM W M (g.1 - g.1 % W) [g] := rfl
    rw [e1, e2]
    by_cases h : g.1 - g.1 % W = s
    · rw [if_pos h, if_pos h, ← ih s (N ++ [g])]
      simp
    · rw [if_neg h, if_neg h, List.map_cons, ← ih (g.1 - g.1 % W) [g]]
      rfl
def OkM (W : Int) (g : Int × List S29) : Prop := g.2 ≠ [] ∧ ∀ x ∈ g.2, x.f0 - x.f0 % W = g.1 - g.1 % W
theorem wsM_29 {W : Int} : ∀ (M : List (Int × List S29)) (s : Int) (N : List (Int × List S29)), (∀ g ∈ M, OkM W g) → ws W (M.flatMap (·.2)) s (N.flatMap (·.2)) = (wsM W M s N).map fun z => (z.1, z.2.flatMap (·.2)) := by
  intro M
  induction M with
  | nil => intro s N _; rfl
  | cons g M ih =>
    intro s N h
    have e2 : wsM W (g :: M) s N = if g.1 - g.1 % W = s then wsM W M s (N ++ [g]) else (s, N) :: wsM W M (g.1 - g.1 % W) [g] := rfl
    rw [e2, List.flatMap_cons]
    obtain ⟨hn, hs⟩ := h g List.mem_cons_self
    have hr : ∀ g ∈ M, OkM W g := fun y hy => h y (List.mem_cons_of_mem _ hy)
    by_cases hc : g.1 - g.1 % W = s
    · rw [if_pos hc, ← ih s (N ++ [g]) hr, ws_app _ _ _ _ (fun x hx => (hs x hx).trans hc), List.flatMap_append]
      simp
    · rw [if_neg hc, List.map_cons, ← ih (g.1 - g.1 % W) [g] hr]
      obtain ⟨s0, ys⟩ := g
      cases ys with
      | nil => exact absurd rfl hn
      | cons x xs =>
        have hx := hs x List.mem_cons_self
        have e3 : ws W ((x :: xs) ++ M.flatMap (·.2)) s (N.flatMap (·.2)) = if x.f0 - x.f0 % W = s then ws W (xs ++ M.flatMap (·.2)) s (N.flatMap (·.2) ++ [x]) else (s, N.flatMap (·.2)) :: ws W (xs ++ M.flatMap (·.2)) (x.f0 - x.f0 % W) [x] := rfl
        rw [e3, if_neg (by rw [hx]; exact hc), hx, ws_app _ _ _ _ (fun y hy => hs y (List.mem_cons_of_mem _ hy))]
        simp
def winsM (W : Int) : List (Int × List S29) → List (Int × List (Int × List S29))
  | [] => []
  | g :: M => wsM W M (g.1 - g.1 % W) [g]
theorem winsM_31 (W : Int) (M : List (Int × List S29)) : wins31 W (M.map aggS) = (winsM W M).map fun z => (z.1, z.2.map aggS) := by
  cases M with
  | nil => rfl
  | cons g M => exact wsM_31 M (g.1 - g.1 % W) [g]
theorem winsM_29 (W : Int) (M : List (Int × List S29)) (h : ∀ g ∈ M, OkM W g) : wins W (M.flatMap (·.2)) = (winsM W M).map fun z => (z.1, z.2.flatMap (·.2)) := by
  cases M with
  | nil => rfl
  | cons g M =>
    have h2 := wsM_29 M (g.1 - g.1 % W) [g] (fun y hy => h y (List.mem_cons_of_mem _ hy))
    obtain ⟨hn, hs⟩ := h g List.mem_cons_self
    rw [List.flatMap_cons]
    obtain ⟨s0, ys⟩ := g
    cases ys with
    | nil => exact absurd rfl hn
    | cons x xs =>
      have hx := hs x List.mem_cons_self
      show ws W (xs ++ M.flatMap (·.2)) (x.f0 - x.f0 % W) [x] = _
      rw [hx, ws_app _ _ _ _ (fun y hy => hs y (List.mem_cons_of_mem _ hy))]
      refine Eq.trans ?_ h2
      simp
theorem wsM_mem {W : Int} : ∀ (M : List (Int × List S29)) (s : Int) (N : List (Int × List S29)), N ≠ [] → ∀ z ∈ wsM W M s N, z.2 ≠ [] ∧ ∀ g ∈ z.2, g ∈ N ∨ g ∈ M := by
  intro M
  induction M with
  | nil =>
    intro s N hN z hz
    simp only [wsM, List.mem_singleton] at hz
    subst hz
    exact ⟨hN, fun g hg => .inl hg⟩
  | cons g M ih =>
    intro s N hN z hz
    have e2 : wsM W (g :: M) s N = if g.1 - g.1 % W = s then wsM W M s (N ++ [g]) else (s, N) :: wsM W M (g.1 - g.1 % W) [g] := rfl
    rw [e2] at hz
    by_cases h : g.1 - g.1 % W = s
    · rw [if_pos h] at hz
      obtain ⟨a, b⟩ := ih s (N ++ [g]) (by simp) z hz
      refine ⟨a, fun y hy => ?_⟩
      rcases b y hy with h | h
      · rcases List.mem_append.1 h with h | h
        · exact .inl h
        · exact .inr (by rw [List.mem_singleton.1 h]; simp)
      · exact .inr (List.mem_cons_of_mem _ h)
    · rw [if_neg h] at hz
      rcases List.mem_cons.1 hz with rfl | hz
      · exact ⟨hN, fun y hy => .inl hy⟩
      · obtain ⟨a, b⟩ := ih (g.1 - g.1 % W) [g] (by simp) z hz
        refine ⟨a, fun y hy => ?_⟩
        rcases b y hy with h | h
        · exact .inr (by rw [List.mem_singleton.1 h]; simp)
        · exact .inr (List.mem_cons_of_mem _ h)
theorem winsM_mem {W : Int} (M : List (Int × List S29)) : ∀ z ∈ winsM W M, z.2 ≠ [] ∧ ∀ g ∈ z.2, g ∈ M := by
  cases M with
  | nil => intro z hz; cases hz
  | cons g M =>
    intro z hz
    obtain ⟨a, b⟩ := wsM_mem M (g.1 - g.1 % W) [g] (by simp) z hz
    refine ⟨a, fun y hy => ?_⟩
    rcases b y hy with h | h
    · rw [List.mem_singleton.1 h]; simp
    · exact List.mem_cons_of_mem _ h
theorem ws_flat {W : Int} : ∀ (r : List S29) (s : Int) (ys : List S29), (ws W r s ys).flatMap (·.2) = ys ++ r := by
  intro r
  induction r with
  | nil => intro s ys; simp [ws]
  | cons x r ih =>
    intro s ys
    have e : ws W (x :: r) s ys = if x.f0 - x.f0 % W = s then ws W r s (ys ++ [x]) else (s, ys) :: ws W r (x.f0 - x.f0 % W) [x] := rfl
    rw [e]
    split
    · rw [ih]; simp
    · rw [List.flatMap_cons, ih]; simp
theorem wins_flat (W : Int) (l : List S29) : (wins W l).flatMap (·.2) = l := by
  cases l with
  | nil => rfl
  | cons x r => exact ws_flat r _ [x]
/-- Of each window: its points begin in it; the windows rise. -/
theorem ws_in {W : Int} : ∀ (r : List S29) (s : Int) (ys : List S29), (∀ x ∈ ys, x.f0 - x.f0 % W = s) → ∀ g ∈ ws W r s ys, ∀ x ∈ g.2, x.f0 - x.f0 % W = g.1 := by
  intro r
  induction r with
  | nil =>
    intro s ys h g hg
    simp only [ws, List.mem_singleton] at hg
    subst hg
    exact h
  | cons x r ih =>
    intro s ys h g hg
    have e : ws W (x :: r) s ys = if x.f0 - x.f0 % W = s then ws W r s (ys ++ [x]) else (s, ys) :: ws W r (x.f0 - x.f0 % W) [x] := rfl
    rw [e] at hg
    by_cases hs : x.f0 - x.f0 % W = s
    · rw [if_pos hs] at hg
      exact ih s (ys ++ [x]) (fun y hy => by
        rcases List.mem_append.1 hy with h1 | h1
        · exact h y h1
        · rw [List.mem_singleton.1 h1]; exact hs) g hg
    · rw [if_neg hs] at hg
      rcases List.mem_cons.1 hg with rfl | hg
      · exact h
      · exact ih _ [x] (fun y hy => by rw [List.mem_singleton.1 hy]) g hg
theorem wins_in (W : Int) (l : List S29) : ∀ g ∈ wins W l, ∀ x ∈ g.2, x.f0 - x.f0 % W = g.1 := by
  cases l with
  | nil => intro g hg; cases hg
  | cons x r => exact ws_in r _ [x] (fun y hy => by rw [List.mem_singleton.1 hy])
theorem start_le {W a b : Int} (hW : 0 < W) (h : a ≤ b) : a - a % W ≤ b - b % W := by
  have h1 := Int.mul_ediv_add_emod a W
  have h2 := Int.mul_ediv_add_emod b W
  have h3 : a / W ≤ b / W := Int.ediv_le_ediv hW h
  have h4 : W * (a / W) ≤ W * (b / W) := Int.mul_le_mul_of_nonneg_left h3 (by omega)
  omega
theorem ws_rise {W : Int} (hW : 0 < W) : ∀ (r : List S29) (s : Int) (ys : List S29), r.Pairwise (fun x y => x.f0 < y.f0) → (∀ x ∈ r, s ≤ x.f0 - x.f0 % W) → (ws W r s ys).Pairwise (fun g h => g.1 < h.1) ∧ ∀ g ∈ ws W r s ys, s ≤ g.1 := by
  intro r
  induction r with
  | nil =>
    intro s ys _ _
    refine ⟨by simp [ws], fun g hg => ?_⟩
    simp only [ws, List.mem_singleton] at hg
    subst hg
    exact Int.le_refl _
  | cons x r ih =>
    intro s ys hp hs
    have e : ws W (x :: r) s ys = if x.f0 - x.f0 % W = s then ws W r s (ys ++ [x]) else (s, ys) :: ws W r (x.f0 - x.f0 % W) [x] := rfl
    rw [e]
    obtain ⟨hx, hp2⟩ := List.pairwise_cons.1 hp
    by_cases hc : x.f0 - x.f0 % W = s
    · rw [if_pos hc]
      exact ih s _ hp2 (fun y hy => hs y (List.mem_cons_of_mem _ hy))
    · rw [if_neg hc]
      have hs1 := hs x List.mem_cons_self
      obtain ⟨h1, h2⟩ := ih (x.f0 - x.f0 % W) [x] hp2 (fun y hy => start_le hW (Int.le_of_lt (hx y hy)))
      refine ⟨List.pairwise_cons.2 ⟨fun g hg => by have := h2 g hg; show s < g.1; omega, h1⟩, fun g hg => ?_⟩
      rcases List.mem_cons.1 hg with rfl | hg
      · exact Int.le_refl _
      · have := h2 g hg; omega
theorem rises_pair {l : List S29} (h : Rises l) : l.Pairwise (fun x y => x.f0 < y.f0) := by
  have key : ∀ (d i : Nat) (x y : S29), l[i]? = some x → l[i + 1 + d]? = some y → x.f0 < y.f0 := by
    intro d
    induction d with
    | zero => intro i x y hx hy; exact (h (i + 1) y hy).2 x (by omega) hx
    | succ d ih =>
      intro i x y hx hy
      have hl := (List.getElem?_eq_some_iff.1 hy).1
      obtain ⟨z, hz⟩ : ∃ z, l[i + 1 + d]? = some z := ⟨_, List.getElem?_eq_getElem (by omega)⟩
      have h1 := ih i x z hx hz
      have h2 := (h (i + 1 + (d + 1)) y hy).2 z (by omega) hz
      omega
  rw [List.pairwise_iff_getElem]
  intro i j hi hj hij
  exact key (j - i - 1) i _ _ (List.getElem?_eq_getElem hi) (by rw [show i + 1 + (j - i - 1) = j by omega]; exact List.getElem?_eq_getElem hj)
theorem wins_rise {W : Int} (hW : 0 < W) {l : List S29} (h : Rises l) : Rises31 ((wins W l).map aggS) := by
  have hp := rises_pair h
  have h0 : ∀ x ∈ l, 0 ≤ x.f0 := fun x hx => by
    obtain ⟨i, hi, rfl⟩ := List.getElem_of_mem hx
    exact (h i _ (List.getElem?_eq_getElem hi)).1
  have key : (wins W l).Pairwise (fun g h => g.1 < h.1) ∧ ∀ g ∈ wins W l, 0 ≤ g.1 := by
    cases l with
    | nil => exact ⟨List.Pairwise.nil, fun g hg => by cases hg⟩
    | cons x r =>
      obtain ⟨hx, hp2⟩ := List.pairwise_cons.1 hp
      obtain ⟨h1, h2⟩ := ws_rise hW r (x.f0 - x.f0 % W) [x] hp2 (fun y hy => start_le hW (Int.le_of_lt (hx y hy)))
      refine ⟨h1, fun g hg => ?_⟩
      have h3 := h2 g hg
      have h4 := start_le hW (h0 x List.mem_cons_self)
      simp only [Int.zero_emod, Int.sub_zero] at h4
      omega
  intro j a ha
  rw [List.getElem?_map, Option.map_eq_some_iff] at ha
  obtain ⟨g, hg, rfl⟩ := ha
  refine ⟨key.2 g (List.mem_of_getElem? hg), fun b hj hb => ?_⟩
  rw [List.getElem?_map, Option.map_eq_some_iff] at hb
  obtain ⟨g2, hg2, rfl⟩ := hb
  obtain ⟨i1, e1⟩ := List.getElem?_eq_some_iff.1 hg
  obtain ⟨i2, e2⟩ := List.getElem?_eq_some_iff.1 hg2
  have := List.pairwise_iff_getElem.1 key.1 (j - 1) j i2 i1 (by omega)
  rw [e1, e2] at this
  exact this
/-- Small enough that nothing saturates. -/
structure Sm (t : St) : Prop where
  c : 1 ≤ t.c
  a : -(t.c * 1125899906842624) ≤ t.s
  b : t.s ≤ t.c * 1125899906842624
def SmV (l : List S29) : Prop := ∀ p ∈ l, -1125899906842624 ≤ p.f1 ∧ p.f1 ≤ 1125899906842624
def mg (t u : St) : St := ⟨t.c + u.c, t.s + u.s, mn t.lo u.lo, mx t.hi u.hi⟩
theorem sat_small {a b : Int} (h : -9223372036854775808 ≤ a + b ∧ a + b ≤ 9223372036854775807) : sat a b = a + b := by
  unfold sat
  rw [if_neg (by omega), if_neg (by omega)]
theorem addS_small {t : St} (h : Sm t) (hc : t.c ≤ 200) {v : Int} (hv : -1125899906842624 ≤ v ∧ v ≤ 1125899906842624) : addS t v = ⟨t.c + 1, t.s + v, mn t.lo v, mx t.hi v⟩ := by
  have h1 := h.c
  have h2 := h.a
  have h3 := h.b
  unfold addS
  rw [if_neg (by omega), sat_small (by omega)]
theorem addS_sm {t : St} (h : Sm t) (hc : t.c ≤ 200) {v : Int} (hv : -1125899906842624 ≤ v ∧ v ≤ 1125899906842624) : Sm (addS t v) := by
  have h1 := h.c
  have h2 := h.a
  have h3 := h.b
  rw [addS_small h hc hv]
  exact ⟨by show 1 ≤ t.c + 1; omega, by show -((t.c + 1) * 1125899906842624) ≤ t.s + v; omega, by show t.s + v ≤ (t.c + 1) * 1125899906842624; omega⟩
theorem run_sm : ∀ (r : List S29) (u : St), Sm u → u.c + r.length ≤ 150 → SmV r → Sm (run r u) ∧ (run r u).c = u.c + r.length := by
  intro r
  induction r with
  | nil => intro u h _ _; exact ⟨h, by simp [run]⟩
  | cons x r ih =>
    intro u h hl hv
    have hl2 : u.c + (r.length + 1 : Nat) ≤ 150 := hl
    have hx := hv x List.mem_cons_self
    have e : (addS u x.f1).c = u.c + 1 := by rw [addS_small h (by omega) hx]
    obtain ⟨h1, h2⟩ := ih (addS u x.f1) (addS_sm h (by omega) hx) (by rw [e]; omega) (fun p hp => hv p (List.mem_cons_of_mem _ hp))
    refine ⟨h1, ?_⟩
    show (run r (addS u x.f1)).c = _
    rw [h2, e]
    simp
    omega
theorem mn_assoc (a b c : Int) : mn (mn a b) c = mn a (mn b c) := by
  unfold mn
  repeat' split
  all_goals omega
theorem mx_assoc (a b c : Int) : mx (mx a b) c = mx a (mx b c) := by
  unfold mx
  repeat' split
  all_goals omega
theorem mg_sm {t u : St} (h : Sm t) (k : Sm u) : Sm (mg t u) := by
  have h1 := h.c
  have h2 := h.a
  have h3 := h.b
  have k1 := k.c
  have k2 := k.a
  have k3 := k.b
  exact ⟨by show 1 ≤ t.c + u.c; omega, by show -((t.c + u.c) * 1125899906842624) ≤ t.s + u.s; omega, by show t.s + u.s ≤ (t.c + u.c) * 1125899906842624; omega⟩
theorem run_mg : ∀ (r : List S29) (t u : St), Sm t → Sm u → t.c + u.c + r.length ≤ 150 → SmV r → run r (mg t u) = mg t (run r u) := by
  intro r
  induction r with
  | nil => intro t u _ _ _ _; rfl
  | cons x r ih =>
    intro t u h k hl hv
    have hl2 : t.c + u.c + (r.length + 1 : Nat) ≤ 150 := hl
    have h1 := h.c
    have k1 := k.c
    have hx := hv x List.mem_cons_self
    have e : addS (mg t u) x.f1 = mg t (addS u x.f1) := by
      rw [addS_small (mg_sm h k) (by show t.c + u.c ≤ 200; omega) hx, addS_small k (by omega) hx]
      unfold mg
      simp only [mn_assoc, mx_assoc, Int.add_assoc]
    have e2 : (addS u x.f1).c = u.c + 1 := by rw [addS_small k (by omega) hx]
    have := ih t (addS u x.f1) h (addS_sm k (by omega) hx) (by rw [e2]; omega) (fun p hp => hv p (List.mem_cons_of_mem _ hp))
    show run r (addS (mg t u) x.f1) = _
    rw [e, this]
    rfl
theorem one_sm {v : Int} (hv : -1125899906842624 ≤ v ∧ v ≤ 1125899906842624) : Sm ⟨1, v, v, v⟩ :=
  ⟨by show (1 : Int) ≤ 1; omega, by show -((1 : Int) * 1125899906842624) ≤ v; omega, by show v ≤ (1 : Int) * 1125899906842624; omega⟩
theorem run_first (x : S29) (r : List S29) : run (x :: r) zero = run r ⟨1, x.f1, x.f1, x.f1⟩ := rfl
theorem run_new {ys : List S29} (hy : ys ≠ []) (hl : ys.length ≤ 60) (hv : SmV ys) : Sm (run ys zero) ∧ (run ys zero).c = ys.length := by
  cases ys with
  | nil => exact absurd rfl hy
  | cons x r =>
    rw [run_first]
    have hl2 : r.length + 1 ≤ 60 := hl
    obtain ⟨h1, h2⟩ := run_sm r ⟨1, x.f1, x.f1, x.f1⟩ (one_sm (hv x List.mem_cons_self)) (by show (1 : Int) + r.length ≤ 150; omega) (fun p hp => hv p (List.mem_cons_of_mem _ hp))
    refine ⟨h1, ?_⟩
    rw [h2]
    simp
    omega
theorem run_more {acc ys : List S29} (ha : acc ≠ []) (hy : ys ≠ []) (hl : acc.length + ys.length ≤ 60) (hva : SmV acc) (hv : SmV ys) : run (acc ++ ys) zero = mg (run acc zero) (run ys zero) := by
  obtain ⟨h1, h2⟩ := run_new ha (by omega) hva
  have e : run (acc ++ ys) zero = run ys (run acc zero) := by unfold run; rw [List.foldl_append]
  rw [e]
  cases ys with
  | nil => exact absurd rfl hy
  | cons x r =>
    have hl2 : acc.length + (r.length + 1) ≤ 60 := hl
    have hx := hv x List.mem_cons_self
    rw [run_first]
    have e2 : addS (run acc zero) x.f1 = mg (run acc zero) ⟨1, x.f1, x.f1, x.f1⟩ := addS_small h1 (by omega) hx
    show run r (addS (run acc zero) x.f1) = _
    rw [e2]
    exact run_mg r _ _ h1 (one_sm hx) (by rw [h2]; show (acc.length : Int) + 1 + r.length ≤ 150; omega) (fun p hp => hv p (List.mem_cons_of_mem _ hp))
def toJ (t : St) : SJ := ⟨true, t.c, t.s, t.lo, t.hi⟩
theorem runJ_on : ∀ (N : List (Int × List S29)) (acc : List S29), acc ≠ [] → (∀ g ∈ N, g.2 ≠ []) → acc.length + (N.flatMap (·.2)).length ≤ 60 → SmV acc → SmV (N.flatMap (·.2)) → runJ (N.map aggS) (toJ (run acc zero)) = toJ (run (acc ++ N.flatMap (·.2)) zero) := by
  intro N
  induction N with
  | nil => intro acc _ _ _ _ _; simp [runJ]
  | cons g N ih =>
    intro acc ha hg hl hva hv
    rw [List.flatMap_cons] at hl hv ⊢
    rw [List.length_append] at hl
    have hgn := hg g List.mem_cons_self
    have hvg : SmV g.2 := fun p hp => hv p (List.mem_append_left _ hp)
    obtain ⟨a1, a2⟩ := run_new ha (by omega) hva
    obtain ⟨b1, b2⟩ := run_new hgn (by omega) hvg
    have c1 := a1.c
    have c2 := a1.a
    have c3 := a1.b
    have d1 := b1.c
    have d2 := b1.a
    have d3 := b1.b
    have e : joinS (toJ (run acc zero)) (aggS g) = toJ (run (acc ++ g.2) zero) := by
      rw [run_more ha hgn (by omega) hva hvg]
      have f1 : sat (run acc zero).c (run g.2 zero).c = (run acc zero).c + (run g.2 zero).c := sat_small (by omega)
      have f2 : sat (run acc zero).s (run g.2 zero).s = (run acc zero).s + (run g.2 zero).s := sat_small (by omega)
      have h0 : joinS (toJ (run acc zero)) (aggS g) = if (run g.2 zero).c < 1 then toJ (run acc zero) else ⟨true, sat (run acc zero).c (run g.2 zero).c, sat (run acc zero).s (run g.2 zero).s, mn (run acc zero).lo (run g.2 zero).lo, mx (run acc zero).hi (run g.2 zero).hi⟩ := rfl
      rw [h0, if_neg (by omega), f1, f2]
      rfl
    have := ih (acc ++ g.2) (by simp [ha]) (fun y hy => hg y (List.mem_cons_of_mem _ hy)) (by rw [List.length_append]; omega) (fun p hp => by
      rcases List.mem_append.1 hp with h | h
      · exact hva p h
      · exact hvg p h) (fun p hp => hv p (List.mem_append_right _ hp))
    show runJ (N.map aggS) (joinS (toJ (run acc zero)) (aggS g)) = _
    rw [e, this, List.append_assoc]
theorem runJ_all {N : List (Int × List S29)} (hN : N ≠ []) (hg : ∀ g ∈ N, g.2 ≠ []) (hl : (N.flatMap (·.2)).length ≤ 60) (hv : SmV (N.flatMap (·.2))) : runJ (N.map aggS) ⟨false, 0, 0, 0, 0⟩ = toJ (run (N.flatMap (·.2)) zero) := by
  cases N with
  | nil => exact absurd rfl hN
  | cons g N =>
    rw [List.flatMap_cons] at hl hv ⊢
    rw [List.length_append] at hl
    have hgn := hg g List.mem_cons_self
    have hvg : SmV g.2 := fun p hp => hv p (List.mem_append_left _ hp)
    obtain ⟨b1, b2⟩ := run_new hgn (by omega) hvg
    have d1 := b1.c
    have h0 : joinS ⟨false, 0, 0, 0, 0⟩ (aggS g) = if (run g.2 zero).c < 1 then ⟨false, 0, 0, 0, 0⟩ else toJ (run g.2 zero) := rfl
    rw [if_neg (by omega)] at h0
    show runJ (N.map aggS) (joinS ⟨false, 0, 0, 0, 0⟩ (aggS g)) = _
    rw [h0]
    exact runJ_on N g.2 hgn (fun y hy => hg y (List.mem_cons_of_mem _ hy)) (by omega) hvg (fun p hp => hv p (List.mem_append_right _ hp))
def jnT (g : Int × List S31) : St := ⟨(runJ g.2 ⟨false, 0, 0, 0, 0⟩).c, (runJ g.2 ⟨false, 0, 0, 0, 0⟩).s, (runJ g.2 ⟨false, 0, 0, 0, 0⟩).lo, (runJ g.2 ⟨false, 0, 0, 0, 0⟩).hi⟩
/-- By the points, and by the narrow windows: the same. -/
theorem tiers {l : List S29} (hl : l.length ≤ 60) (hr : Rises l) (hv : SmV l) : ((RR 1 l).map aggS).length ≤ 60 ∧ (RQ 2 ((RR 1 l).map aggS)).length = (RR 2 l).length ∧ (RQ 2 ((RR 1 l).map aggS)).flatMap (aggD jnT) = (RR 2 l).flatMap aggC ∧
    ∀ g ∈ RQ 2 ((RR 1 l).map aggS), g.2.length ≤ 60 ∧ roll_Join.f 200 g.1 g.2 = some (g.1, (jnT g).c, (jnT g).s, (jnT g).lo, (jnT g).hi, true) := by
  have e1 : RR 1 l = wins 300 l := by
    unfold RR
    rw [show widthT 1 = 300 from rfl, if_neg (by decide), grp_is, if_pos hr]
  have e2 : RR 2 l = wins 3600 l := by
    unfold RR
    rw [show widthT 2 = 3600 from rfl, if_neg (by decide), grp_is, if_pos hr]
  have e3 : RQ 2 ((RR 1 l).map aggS) = wins31 3600 ((wins 300 l).map aggS) := by
    unfold RQ
    rw [show widthT 2 = 3600 from rfl, if_neg (by decide), grp_is31, e1, if_pos (wins_rise (by decide) hr)]
  have hm1 := RR_mem 1 l
  have hm2 := RR_mem 2 l
  have hm3 := grp_mem31 3600 ((wins 300 l).map aggS)
  rw [grp_is31, if_pos (wins_rise (by decide) hr)] at hm3
  rw [e1] at hm1
  rw [e2] at hm2
  rw [e3, e1, e2]
  have hz31 := winsM_31 3600 (wins 300 l)
  have hok : ∀ g ∈ wins 300 l, OkM 3600 g := fun g hg => ⟨(hm1.2 g hg).1, fun x hx => by
    have := wins_in 300 l g hg x hx
    omega⟩
  have hz29 := winsM_29 3600 (wins 300 l) hok
  rw [wins_flat] at hz29
  have hlen : ((wins 300 l).map aggS).length ≤ 60 := by rw [List.length_map]; have := hm1.1; omega
  refine ⟨hlen, by rw [hz31, hz29]; simp, ?_, ?_⟩
  · rw [hz31, hz29, List.flatMap_map, List.flatMap_map]
    have hkey : ∀ z ∈ winsM 3600 (wins 300 l), aggD jnT (z.1, z.2.map aggS) = aggC (z.1, z.2.flatMap (·.2)) := fun z hz => by
      have hz2 := winsM_mem _ z hz
      have hzm := hm2.2 (z.1, z.2.flatMap (·.2)) (by rw [hz29]; exact List.mem_map_of_mem hz)
      have := runJ_all hz2.1 (fun g hg => (hm1.2 g (hz2.2 g hg)).1) (Nat.le_trans hzm.2.1 hl) (fun p hp => hv p (hzm.2.2 p hp))
      unfold aggD jnT aggC
      simp only [this]
      rfl
    have hfl : ∀ (Z : List (Int × List (Int × List S29))), (∀ z ∈ Z, aggD jnT (z.1, z.2.map aggS) = aggC (z.1, z.2.flatMap (·.2))) → Z.flatMap (fun z => aggD jnT (z.1, z.2.map aggS)) = Z.flatMap (fun z => aggC (z.1, z.2.flatMap (·.2))) := by
      intro Z
      induction Z with
      | nil => intro _; rfl
      | cons z Z ih =>
        intro h
        rw [List.flatMap_cons, List.flatMap_cons, h z List.mem_cons_self, ih (fun y hy => h y (List.mem_cons_of_mem _ hy))]
    exact hfl _ hkey
  · intro g hg
    have hgl := (hm3.2 g hg).2.1
    rw [hz31] at hg
    obtain ⟨z, hz, rfl⟩ := List.mem_map.1 hg
    have hz2 := winsM_mem _ z hz
    have hzm := hm2.2 (z.1, z.2.flatMap (·.2)) (by rw [hz29]; exact List.mem_map_of_mem hz)
    have hrun := runJ_all hz2.1 (fun g hg => (hm1.2 g (hz2.2 g hg)).1) (Nat.le_trans hzm.2.1 hl) (fun p hp => hv p (hzm.2.2 p hp))
    have hgl2 : (z.2.map aggS).length ≤ 60 := by have h : (z.2.map aggS).length ≤ ((wins 300 l).map aggS).length := hgl; omega
    refine ⟨hgl2, ?_⟩
    have hall : AllInJ (z.2.map aggS) := fun p hp => by
      obtain ⟨g, hg, rfl⟩ := List.mem_map.1 hp
      have h1 := hm1.2 g (hz2.2 g hg)
      obtain ⟨b1, b2⟩ := run_new h1.1 (by omega) (fun p hp => hv p (h1.2.2 p hp))
      have d1 := b1.c
      have d2 := b1.a
      have d3 := b1.b
      have hgl3 := h1.2.1
      exact ⟨by show In64 (run g.2 zero).c; unfold In64; omega, by show In64 (run g.2 zero).s; unfold In64; omega⟩
    have hj := join_l0 (z.2.map aggS) hall hgl2 z.1 (z.2.map aggS).length 200 0 0 ⟨false, 0, 0, 0, 0⟩ (by omega) ⟨by unfold In64; simp, by unfold In64; simp, fun _ => rfl⟩ (by omega)
    rw [List.drop_zero, hrun] at hj
    have hjn : jnT (z.1, z.2.map aggS) = run (z.2.flatMap (·.2)) zero := by
      unfold jnT
      simp only [hrun]
      rfl
    rw [hjn]
    exact hj
end RollTiersPure
end Go.Proofs.Ytnjdngjlbonieaa
