/- Points, rising: one more; plain. -/
import Derived.Test.YtnjdngjlbonieaaSerI
import Derived.Lib.Hide
import Derived.LoopTactic
import Derived.Outline
import Derived.Laws.Rows
import Derived.Laws.CopyOwn
import Derived.WalkKit
set_option linter.unusedVariables false
set_option linter.unusedSimpArgs false
namespace Go.Proofs.Ytnjdngjlbonieaa
open Go.RowKit Go.Proofs.YtnjdngjlbonieaaW.PrintWords Go.Proofs.YtnjdngjlbonieaaW.PrintLast Go.Proofs.YtnjdngjlbonieaaW.PrintMore
open Go.Proofs.Ytnjdngjlbonieaa.PRollWindows
attribute [local go_sem] max2_int min2_int max_two min_two max_three min_three max_four min_four

open RollOfPure
/-- Rising ticks. -/
def Ris (l : List S29) : Prop := l.Pairwise (fun x y => x.f0 < y.f0)
/-- One more, or another value. -/
def putL (l : List S29) (p : S29) : List S29 := l.filter (fun x => decide (x.f0 < p.f0)) ++ p :: l.filter (fun x => decide (p.f0 < x.f0))
def putA (l ps : List S29) : List S29 := ps.foldl putL l
/-- Those in a range. -/
def inR (a b : Int) (l : List S29) : List S29 := l.filter (fun x => decide (a ≤ x.f0) && decide (x.f0 < b))
theorem mem_putL {l : List S29} {p x : S29} : x ∈ putL l p ↔ x = p ∨ (x ∈ l ∧ x.f0 ≠ p.f0) := by
  unfold putL
  simp only [List.mem_append, List.mem_cons, List.mem_filter, decide_eq_true_eq]
  constructor
  · rintro (⟨h, h1⟩ | h | ⟨h, h1⟩)
    · exact .inr ⟨h, by omega⟩
    · exact .inl h
    · exact .inr ⟨h, by omega⟩
  · rintro (h | ⟨h, h1⟩)
    · exact .inr (.inl h)
    · rcases Int.lt_or_gt_of_ne h1 with h2 | h2
      · exact .inl ⟨h, h2⟩
      · exact .inr (.inr ⟨h, h2⟩)
theorem ris_putL {l : List S29} {p : S29} (h : Ris l) : Ris (putL l p) := by
  unfold putL Ris
  rw [List.pairwise_append]
  refine ⟨h.filter _, ?_, ?_⟩
  · rw [List.pairwise_cons]
    exact ⟨fun x hx => by simpa using (List.mem_filter.1 hx).2, h.filter _⟩
  · intro x hx y hy
    have hx2 : x.f0 < p.f0 := by simpa using (List.mem_filter.1 hx).2
    rcases List.mem_cons.1 hy with rfl | hy
    · exact hx2
    · have : p.f0 < y.f0 := by simpa using (List.mem_filter.1 hy).2
      omega
theorem ris_putA {ps l : List S29} (h : Ris l) : Ris (putA l ps) := by
  induction ps generalizing l with
  | nil => exact h
  | cons p r ih => exact ih (ris_putL h)
/-- Rows that rise are the same, if they have the same. -/
theorem ris_ext {l k : List S29} (hl : Ris l) (hk : Ris k) (h : ∀ x, x ∈ l ↔ x ∈ k) : l = k := by
  induction l generalizing k with
  | nil =>
    cases k with
    | nil => rfl
    | cons a r => exact absurd ((h a).2 List.mem_cons_self) (by simp)
  | cons a r ih =>
    cases k with
    | nil => exact absurd ((h a).1 List.mem_cons_self) (by simp)
    | cons b s =>
      have ha := List.pairwise_cons.1 hl
      have hb := List.pairwise_cons.1 hk
      have hab : a = b := by
        rcases List.mem_cons.1 ((h a).1 List.mem_cons_self) with e | e
        · exact e
        · rcases List.mem_cons.1 ((h b).2 List.mem_cons_self) with e2 | e2
          · exact e2.symm
          · have h1 := hb.1 a e
            have h2 := ha.1 b e2
            omega
      subst hab
      rw [ih ha.2 hb.2 fun x => ⟨fun hx => ?_, fun hx => ?_⟩]
      · rcases List.mem_cons.1 ((h x).1 (List.mem_cons_of_mem _ hx)) with e | e
        · subst e; have := ha.1 x hx; omega
        · exact e
      · rcases List.mem_cons.1 ((h x).2 (List.mem_cons_of_mem _ hx)) with e | e
        · subst e; have := hb.1 x hx; omega
        · exact e
theorem filter_split {α : Type} (l : List α) (P : α → Bool) (i : Nat) (h1 : ∀ (j : Nat) (x : α), j < i → l[j]? = some x → P x = true) (h2 : ∀ (j : Nat) (x : α), i ≤ j → l[j]? = some x → P x = false) : l.filter P = l.take i := by
  conv => lhs; rw [← List.take_append_drop i l]
  rw [List.filter_append, List.filter_eq_self.2 fun x hx => ?_, List.filter_eq_nil_iff.2 fun x hx => ?_, List.append_nil]
  · obtain ⟨j, hj⟩ := List.mem_iff_getElem?.1 hx
    rw [List.getElem?_drop] at hj
    rw [h2 _ x (by omega) hj]
    simp
  · obtain ⟨j, hj⟩ := List.mem_iff_getElem?.1 hx
    rw [List.getElem?_take] at hj
    split at hj
    · exact h1 j x ‹_› hj
    · cases hj
theorem filter_split2 {α : Type} (l : List α) (P : α → Bool) (i : Nat) (h1 : ∀ (j : Nat) (x : α), j < i → l[j]? = some x → P x = false) (h2 : ∀ (j : Nat) (x : α), i ≤ j → l[j]? = some x → P x = true) : l.filter P = l.drop i := by
  conv => lhs; rw [← List.take_append_drop i l]
  rw [List.filter_append, List.filter_eq_nil_iff.2 fun x hx => ?_, List.filter_eq_self.2 fun x hx => ?_, List.nil_append]
  · obtain ⟨j, hj⟩ := List.mem_iff_getElem?.1 hx
    rw [List.getElem?_drop] at hj
    exact h2 _ x (by omega) hj
  · obtain ⟨j, hj⟩ := List.mem_iff_getElem?.1 hx
    rw [List.getElem?_take] at hj
    split at hj
    · rw [h1 j x ‹_› hj]; simp
    · cases hj
theorem ris_get {l : List S29} (hp : Ris l) : ∀ (i j : Nat) (x y : S29), i < j → l[i]? = some x → l[j]? = some y → x.f0 < y.f0 := fun i j x y hij hx hy => by
  obtain ⟨hi, e1⟩ := List.getElem?_eq_some_iff.1 hx
  obtain ⟨hj, e2⟩ := List.getElem?_eq_some_iff.1 hy
  have := List.pairwise_iff_getElem.1 hp i j hi hj hij
  rw [e1, e2] at this
  exact this
theorem putL_new {l : List S29} {p : S29} {i : Nat} (h : IsPos l p.f0 i) (hn : (l[i]?).map S29.f0 ≠ some p.f0) (hr : Ris l) : putL l p = l.take i ++ p :: l.drop i := by
  unfold putL
  rw [filter_split l _ i (fun j x hj hx => by have := h.2.1 j x hj hx; simpa using this) (fun j x hj hx => by have := h.2.2 j x hj hx; simpa using this),
    filter_split2 l _ i (fun j x hj hx => by have := h.2.1 j x hj hx; simp; omega) (fun j x hj hx => by
      have h1 := h.2.2 j x hj hx
      rcases Nat.lt_or_ge i j with h2 | h2
      · obtain ⟨y, hy⟩ : ∃ y, l[i]? = some y := ⟨_, List.getElem?_eq_getElem (by have := (List.getElem?_eq_some_iff.1 hx).1; omega)⟩
        have h3 := ris_get hr i j y x h2 hy hx
        have h4 := h.2.2 i y (Nat.le_refl _) hy
        simp; omega
      · have e : j = i := by omega
        subst e
        rw [hx] at hn
        simp at hn ⊢
        omega)]
theorem putL_old {l : List S29} {p : S29} {i : Nat} (h : IsPos l p.f0 i) (hn : (l[i]?).map S29.f0 = some p.f0) (hr : Ris l) : putL l p = l.set i p := by
  obtain ⟨y, hy, hy0⟩ := Option.map_eq_some_iff.1 hn
  have hi := (List.getElem?_eq_some_iff.1 hy).1
  unfold putL
  rw [filter_split l _ i (fun j x hj hx => by have := h.2.1 j x hj hx; simpa using this) (fun j x hj hx => by have := h.2.2 j x hj hx; simpa using this),
    filter_split2 l _ (i + 1) (fun j x hj hx => by
      rcases Nat.lt_or_ge j i with h2 | h2
      · have := h.2.1 j x h2 hx; simp; omega
      · have e : j = i := by omega
        subst e
        rw [hy] at hx
        injection hx with hx
        subst hx
        simp; omega) (fun j x hj hx => by
        have h3 := ris_get hr i j y x (by omega) hy hx
        simp; omega)]
  rw [List.set_eq_take_append_cons_drop, if_pos hi]
theorem putL_len {l : List S29} {p : S29} {i : Nat} (h : IsPos l p.f0 i) (hr : Ris l) : (putL l p).length = l.length + (if (l[i]?).map S29.f0 = some p.f0 then 0 else 1) := by
  have hi := h.1
  split
  · rw [putL_old h ‹_› hr, List.length_set, Nat.add_zero]
  · rw [putL_new h ‹_› hr]
    simp only [List.length_append, List.length_take, List.length_cons, List.length_drop]
    omega
theorem inR_split {l : List S29} {a b : Int} {i k : Nat} (hi : IsPos l a i) (hk : IsPos l b k) (hab : a < b) : inR a b l = (l.drop i).take (k - i) := by
  have hik := pos_le hab hi hk
  unfold inR
  rw [show (fun x : S29 => decide (a ≤ x.f0) && decide (x.f0 < b)) = fun x => (fun x : S29 => decide (x.f0 < b)) x && (fun x : S29 => decide (a ≤ x.f0)) x from by funext x; exact Bool.and_comm _ _, ← List.filter_filter,
    filter_split2 l (fun x => decide (a ≤ x.f0)) i (fun j x hj hx => by have := hi.2.1 j x hj hx; simp; omega) (fun j x hj hx => by have := hi.2.2 j x hj hx; simp; omega)]
  exact filter_split (l.drop i) _ (k - i) (fun j x hj hx => by
    rw [List.getElem?_drop] at hx
    have := hk.2.1 _ x (by omega) hx
    simp; omega) (fun j x hj hx => by
    rw [List.getElem?_drop] at hx
    have := hk.2.2 _ x (by omega) hx
    simp; omega)
theorem ris_pos {l : List S29} {v : Int} {i k : Nat} (hi : IsPos l v i) (hk : IsPos l v k) : i = k := by
  refine Classical.byContradiction fun hc => ?_
  have key : ∀ {i k : Nat}, IsPos l v i → IsPos l v k → i < k → False := fun {i k} hi hk hlt => by
    obtain ⟨x, hx⟩ : ∃ x, l[i]? = some x := ⟨_, List.getElem?_eq_getElem (by have := hk.1; omega)⟩
    have h1 := hi.2.2 i x (Nat.le_refl _) hx
    have h2 := hk.2.1 i x hlt hx
    omega
  rcases Nat.lt_or_gt_of_ne hc with h | h
  · exact key hi hk h
  · exact key hk hi h
end Go.Proofs.Ytnjdngjlbonieaa
