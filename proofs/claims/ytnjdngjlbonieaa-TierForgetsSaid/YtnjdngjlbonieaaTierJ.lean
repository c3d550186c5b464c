/- To roll in two steps is to roll in one, plain. -/
import Derived.Test.YtnjdngjlbonieaaTierI
import Derived.Lib.Hide
import Derived.LoopTactic
import Derived.Outline
import Derived.Laws.Rows
import Derived.Laws.CopyOwn
import Derived.WalkKit
set_option linter.unusedVariables false
set_option linter.unusedSimpArgs false
namespace Go.Proofs.Ytnjdngjlbonieaa
open Go.RowKit Go.Proofs.YtnjdngjlbonieaaW.PrintWords Go.Proofs.YtnjdngjlbonieaaW.PrintLast Go.Proofs.YtnjdngjlbonieaaW.PrintMore
open Go.Proofs.Ytnjdngjlbonieaa.PTierForgets
attribute [local go_sem] max2_int min2_int max_two min_two max_three min_three max_four min_four

theorem countP_more {α : Type} (P Q : α → Bool) : ∀ (l : List α), (∀ x ∈ l, P x = true → Q x = true) → (∃ x ∈ l, Q x = true ∧ P x = false) → l.countP P + 1 ≤ l.countP Q
  | [], _, ⟨x, hx, _⟩ => by cases hx
  | a :: r, h, ⟨x, hx, h1, h2⟩ => by
    have hm : r.countP P ≤ r.countP Q := List.countP_mono_left fun y hy => h y (List.mem_cons_of_mem _ hy)
    rw [List.countP_cons, List.countP_cons]
    rcases List.mem_cons.1 hx with rfl | hx
    · rw [if_neg (by rw [h2]; simp), if_pos h1]
      omega
    · have ih := countP_more P Q r (fun y hy => h y (List.mem_cons_of_mem _ hy)) ⟨x, hx, h1, h2⟩
      by_cases hp : P a = true
      · rw [if_pos hp, if_pos (h a List.mem_cons_self hp)]
        omega
      · rw [if_neg hp]
        split <;> omega
theorem cntR_step {l : List S29} (hk : TickOk l) : ∀ m nx, soonR m l = some nx → l.countP (fun x => decide (x.f0 < m)) + 1 ≤ l.countP (fun x => decide (x.f0 < stW 300 nx + 300)) := by
  intro m nx h
  obtain ⟨h1, x, hx, rfl⟩ := soonR_mem h
  have h2 := stW_bd (wd := 300) (by decide) (hk x hx).1
  exact countP_more _ _ l (fun y hy hh => by simp at hh ⊢; omega) ⟨x, hx, by simp; omega, by simp; omega⟩
theorem cntA_step {l : List S31} (hk : Tk l) : ∀ m nx, soonA m l = some nx → l.countP (fun x => decide (x.f0 < m)) + 1 ≤ l.countP (fun x => decide (x.f0 < stW 3600 nx + 3600)) := by
  intro m nx h
  obtain ⟨h1, x, hx, rfl⟩ := soonA_mem h
  have h2 := stW_bd (wd := 3600) (by decide) (hk x hx).1
  exact countP_more _ _ l (fun y hy hh => by simp at hh ⊢; omega) ⟨x, hx, by simp; omega, by simp; omega⟩
theorem soonA_append {A B : List S31} {tt : Int} (hB : ∀ x ∈ B, tt ≤ x.f0) (m nx : Int) (hn : nx < tt) : soonA m A = some nx ↔ soonA m (A ++ B) = some nx := by
  unfold soonA
  rw [List.find?_append]
  cases h : A.find? (fun x => decide (m ≤ x.f0)) with
  | some x => simp
  | none =>
    rw [Option.none_or]
    constructor
    · intro h2; cases h2
    · intro h2
      obtain ⟨x, hx, rfl⟩ := Option.map_eq_some_iff.1 h2
      have := hB x (List.mem_of_find?_eq_some hx)
      omega
theorem of2_append {A B : List S31} {tt nx : Int} (hB : ∀ x ∈ B, tt ≤ x.f0 ∧ x.f0 % 300 = 0) (ht : tt % 3600 = 0) (hn : nx < tt) : of2 A nx = of2 (A ++ B) nx := by
  have h0 : B.filter (fun x => decide (mx (stW 300 x.f0) (stW 3600 nx) < mn (stW 300 x.f0 + 300) (stW 3600 nx + 3600))) = [] := by
    rw [List.filter_eq_nil_iff]
    intro x hx
    obtain ⟨h1, h2⟩ := hB x hx
    have h3 := stW_le (wd := 3600) (.inr rfl) ht hn
    have e : stW 300 x.f0 = x.f0 := by unfold stW; omega
    rw [e, decide_eq_true_eq]
    unfold mx mn
    split <;> split <;> omega
  unfold of2 aggR
  rw [List.filter_append, h0, List.append_nil]
/-- A stock of few points, and no more. -/
def rawS (R : List S29) : Stk := ⟨R, [], [], 0, 0⟩
theorem rawS_good {R : List S29} (h1 : Ris R) (h2 : TickOk R) (h3 : R.length ≤ 256) : GoodT (rawS R) :=
  ⟨h1, h2, h3, ⟨fun x hx => (by cases hx), List.Pairwise.nil, by show 0 ≤ 256; decide⟩, ⟨fun x hx => (by cases hx), List.Pairwise.nil, by show 0 ≤ 256; decide⟩, by show (0 : Int) % 300 = 0; decide, by show (0 : Int) % 3600 = 0; decide, by show (0 : Int) ≤ 0; decide, by show (0 : Int) ≤ 0; decide, by show (0 : Int) ≤ _; decide⟩
theorem rolls_law {R : List S29} (h1 : Ris R) (h2 : TickOk R) (h3 : R.length ≤ 40) {x y : Int} (hx : 0 ≤ x) (hxy : x ≤ y) :
    (rollT (rawS R) x).2.2 = 0 ∧ (rollT (rollT (rawS R) x).1 y).2.2 = 0 ∧ (rollT (rawS R) y).2.2 = 0 ∧ (rollT (rawS R) x).2.1 + (rollT (rollT (rawS R) x).1 y).2.1 = (rollT (rawS R) y).2.1 ∧ (rollT (rollT (rawS R) x).1 y).1 = (rollT (rawS R) y).1 ∧
    (rollT (rollT (rawS R) y).1 y) = ((rollT (rawS R) y).1, 0, 0) := by
  have hG := rawS_good h1 h2 (by omega)
  have bx := stW_bd (wd := 300) (by decide) hx
  have by_ := stW_bd (wd := 300) (by decide) (show 0 ≤ y by omega)
  have mx1 : stW 300 x % 300 = 0 := stW_mod (.inl rfl)
  have my1 : stW 300 y % 300 = 0 := stW_mod (.inl rfl)
  have hle1 : stW 300 x ≤ stW 300 y := by
    rcases ltge y (stW 300 x) with h | h
    · omega
    · exact (stW_ge (.inl rfl) mx1 h).1
  -- the narrow tier
  have g1 := of1_ok h2
  have L0 : ([] : List S31).length ≤ 256 := by decide
  have cx := rollF_free (soon := fun m => soonR m R) (ofw := of1 R) (wd := 300) (tt := stW 300 x) (A := []) (m := 0) (made := 0) (fun m => R.countP (fun x => decide (x.f0 < m))) 40 (fun m => Nat.le_trans List.countP_le_length h3) (by decide) (cntR_step h2) (Nat.zero_le _)
  have cy := rollF_free (soon := fun m => soonR m R) (ofw := of1 R) (wd := 300) (tt := stW 300 y) (A := []) (m := 0) (made := 0) (fun m => R.countP (fun x => decide (x.f0 < m))) 40 (fun m => Nat.le_trans List.countP_le_length h3) (by decide) (cntR_step h2) (Nat.zero_le _)
  obtain ⟨px1, px2, px3, px4, _, px6⟩ := rollF_good (soon := fun m => soonR m R) (ofw := of1 R) (wd := 300) (tt := stW 300 x) (A := []) (m := 0) (made := 0) (.inl rfl) g1 mx1 hG.g1 (by decide) (by decide)
  obtain ⟨py1, py2, py3, py4, _, py6⟩ := rollF_good (soon := fun m => soonR m R) (ofw := of1 R) (wd := 300) (tt := stW 300 y) (A := []) (m := 0) (made := 0) (.inl rfl) g1 my1 hG.g1 (by decide) (by decide)
  have ex := px6 cx.1 bx.1
  have ey := py6 cy.1 by_.1
  have two := rollF_two (soon := fun m => soonR m R) (ofw := of1 R) (wd := 300) hle1 (soonR_far R) (A := []) (m := 0) (made := 0) L0 cx.1 (by omega)
  obtain ⟨r, hr⟩ : ∃ r, r = rollF (fun m => soonR m R) (of1 R) 300 (stW 300 x) [] 0 0 := ⟨_, rfl⟩
  obtain ⟨q, hq⟩ : ∃ q, q = rollF (fun m => soonR m R) (of1 R) 300 (stW 300 y) [] 0 0 := ⟨_, rfl⟩
  have e1 : roll1 (rawS R) x = r := hr.symm
  have e2 : roll1 (rawS R) y = q := hq.symm
  rw [← hr] at cx px1 ex two
  rw [← hq] at cy py1 ey two
  rw [ex] at px1 two
  rw [ey] at py1
  -- from the first step on
  have hrl : r.1.length ≤ 256 := by omega
  have hql : q.1.length ≤ 256 := by omega
  have made1 := rollF_made (soon := fun m => soonR m R) (ofw := of1 R) (wd := 300) (tt := stW 300 y) (A := r.1) (m := stW 300 x) (made := 0) hrl r.2.2.1
  rw [Int.zero_add, ← two] at made1
  obtain ⟨_, _, _, _, ⟨B, hB1, hB2⟩, _⟩ := rollF_good (soon := fun m => soonR m R) (ofw := of1 R) (wd := 300) (tt := stW 300 y) (A := r.1) (m := stW 300 x) (made := 0) (.inl rfl) g1 my1 px1 mx1 bx.1
  obtain ⟨k, hk⟩ : ∃ k, k = rollF (fun m => soonR m R) (of1 R) 300 (stW 300 y) r.1 (stW 300 x) 0 := ⟨_, rfl⟩
  rw [← hk] at made1 hB1
  have k1 : k.1 = q.1 := by rw [made1]
  have k2 : k.2.1 = stW 300 y := by rw [← ey, made1]
  have k3 : k.2.2.1 + r.2.2.1 = q.2.2.1 := by rw [made1]
  have k4 : k.2.2.2 = 0 := by rw [← cy.1, made1]
  rw [k1] at hB1
  -- the wide tier
  have X2 := stW_bd (wd := 3600) (by decide) bx.1
  have Y2 := stW_bd (wd := 3600) (by decide) by_.1
  have mx2 : stW 3600 (stW 300 x) % 3600 = 0 := stW_mod (.inr rfl)
  have my2 : stW 3600 (stW 300 y) % 3600 = 0 := stW_mod (.inr rfl)
  have hle2 : stW 3600 (stW 300 x) ≤ stW 3600 (stW 300 y) := (stW_ge (.inr rfl) mx2 (by omega)).1
  have hBk : ∀ b ∈ B, stW 3600 (stW 300 x) ≤ b.f0 ∧ b.f0 % 300 = 0 := fun b hb => by
    have h4 := hB2 b hb
    have h5 := py1.ok b (by rw [hB1]; exact List.mem_append_right _ hb)
    exact ⟨by omega, h5.2.2.1⟩
  have cg := rollF_congr (soon := fun m => soonA m r.1) (soon' := fun m => soonA m q.1) (ofw := of2 r.1) (ofw' := of2 q.1) (wd := 3600) (tt := stW 3600 (stW 300 x)) (A := []) (m := 0) (made := 0) L0 (fun m nx hn => by rw [hB1]; exact soonA_append (fun b hb => (hBk b hb).1) m nx hn) (fun m nx _ hn => by rw [hB1]; exact of2_append hBk mx2 hn)
  have dx := rollF_free (soon := fun m => soonA m q.1) (ofw := of2 q.1) (wd := 3600) (tt := stW 3600 (stW 300 x)) (A := []) (m := 0) (made := 0) (fun m => q.1.countP (fun x => decide (x.f0 < m))) 40 (fun m => Nat.le_trans List.countP_le_length cy.2) (by decide) (cntA_step py1.tk) (Nat.zero_le _)
  have dy := rollF_free (soon := fun m => soonA m q.1) (ofw := of2 q.1) (wd := 3600) (tt := stW 3600 (stW 300 y)) (A := []) (m := 0) (made := 0) (fun m => q.1.countP (fun x => decide (x.f0 < m))) 40 (fun m => Nat.le_trans List.countP_le_length cy.2) (by decide) (cntA_step py1.tk) (Nat.zero_le _)
  have two2 := rollF_two (soon := fun m => soonA m q.1) (ofw := of2 q.1) (wd := 3600) hle2 (soonA_far q.1) (A := []) (m := 0) (made := 0) L0 dx.1 (by omega)
  obtain ⟨_, _, _, _, _, sy6⟩ := rollF_good (soon := fun m => soonA m q.1) (ofw := of2 q.1) (wd := 3600) (tt := stW 3600 (stW 300 y)) (A := []) (m := 0) (made := 0) (.inr rfl) (of2_ok py1) my2 hG.g2 (by decide) (by decide)
  have fy := sy6 dy.1 Y2.1
  obtain ⟨u, hu⟩ : ∃ u, u = rollF (fun m => soonA m q.1) (of2 q.1) 3600 (stW 3600 (stW 300 x)) [] 0 0 := ⟨_, rfl⟩
  obtain ⟨v, hv⟩ : ∃ v, v = rollF (fun m => soonA m q.1) (of2 q.1) 3600 (stW 3600 (stW 300 y)) [] 0 0 := ⟨_, rfl⟩
  rw [← hu] at dx two2 cg
  rw [← hv] at dy two2 fy
  have made2 := rollF_made (soon := fun m => soonA m q.1) (ofw := of2 q.1) (wd := 3600) (tt := stW 3600 (stW 300 y)) (A := u.1) (m := u.2.1) (made := 0) (by omega) u.2.2.1
  rw [Int.zero_add, ← two2] at made2
  obtain ⟨j, hj⟩ : ∃ j, j = rollF (fun m => soonA m q.1) (of2 q.1) 3600 (stW 3600 (stW 300 y)) u.1 u.2.1 0 := ⟨_, rfl⟩
  rw [← hj] at made2
  have j1 : j.1 = v.1 := by rw [made2]
  have j2 : j.2.1 = v.2.1 := by rw [made2]
  have j3 : j.2.2.1 + u.2.2.1 = v.2.2.1 := by rw [made2]
  have j4 : j.2.2.2 = 0 := by rw [← dy.1, made2]
  -- put together
  have f1 : roll2 (rawS R) r.1 r.2.1 = u := by rw [ex]; exact cg.symm
  have f2 : roll2 (rawS R) q.1 q.2.1 = v := by rw [ey]; exact hv.symm
  have T1 : rollT (rawS R) x = (⟨R, r.1, u.1, stW 300 x, u.2.1⟩, r.2.2.1 + u.2.2.1, 0) := by
    unfold rollT
    rw [e1, f1, ex, cx.1, dx.1]
    rfl
  have T2 : rollT (rawS R) y = (⟨R, q.1, v.1, stW 300 y, v.2.1⟩, q.2.2.1 + v.2.2.1, 0) := by
    unfold rollT
    rw [e2, f2, ey, cy.1, dy.1]
    rfl
  have e3 : roll1 ⟨R, r.1, u.1, stW 300 x, u.2.1⟩ y = k := hk.symm
  have f3 : roll2 ⟨R, r.1, u.1, stW 300 x, u.2.1⟩ q.1 (stW 300 y) = j := hj.symm
  have T3 : rollT ⟨R, r.1, u.1, stW 300 x, u.2.1⟩ y = (⟨R, q.1, v.1, stW 300 y, v.2.1⟩, k.2.2.1 + j.2.2.1, 0) := by
    unfold rollT
    rw [e3, k1, k2, f3, k4, j4, j1, j2]
    rfl
  have e4 : roll1 ⟨R, q.1, v.1, stW 300 y, v.2.1⟩ y = (q.1, stW 300 y, 0, 0) := rollF_there hql (Int.le_refl _)
  have f4 : roll2 ⟨R, q.1, v.1, stW 300 y, v.2.1⟩ q.1 (stW 300 y) = (v.1, v.2.1, 0, 0) := rollF_there (by show v.1.length ≤ 256; omega) (by rw [fy]; exact Int.le_refl _)
  have T4 : rollT ⟨R, q.1, v.1, stW 300 y, v.2.1⟩ y = (⟨R, q.1, v.1, stW 300 y, v.2.1⟩, 0, 0) := by
    unfold rollT
    rw [e4]
    show (_, _, _) = _
    rw [f4]
    rfl
  rw [T1, T2]
  show (0 : Int) = 0 ∧ (rollT ⟨R, r.1, u.1, stW 300 x, u.2.1⟩ y).2.2 = 0 ∧ (0 : Int) = 0 ∧ r.2.2.1 + u.2.2.1 + (rollT ⟨R, r.1, u.1, stW 300 x, u.2.1⟩ y).2.1 = q.2.2.1 + v.2.2.1 ∧ (rollT ⟨R, r.1, u.1, stW 300 x, u.2.1⟩ y).1 = _ ∧ rollT ⟨R, q.1, v.1, stW 300 y, v.2.1⟩ y = _
  rw [T3, T4]
  exact ⟨rfl, rfl, rfl, by show r.2.2.1 + u.2.2.1 + (k.2.2.1 + j.2.2.1) = _; omega, rfl, rfl⟩
end Go.Proofs.Ytnjdngjlbonieaa
