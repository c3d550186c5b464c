/- A tier rolled, plain: in two steps as in one; what stays true. -/
import Derived.Test.YtnjdngjlbonieaaTierG
import Derived.Lib.Hide
import Derived.LoopTactic
import Derived.Outline
import Derived.Laws.Rows
import Derived.Laws.CopyOwn
import Derived.WalkKit
set_option linter.unusedVariables false
set_option linter.unusedSimpArgs false
namespace Go.Proofs.Ytnjdngjlbonieaa
open Go.RowKit Go.Proofs.YtnjdngjlbonieaaW.PrintWords Go.Proofs.YtnjdngjlbonieaaW.PrintLast Go.Proofs.YtnjdngjlbonieaaW.PrintMore
open Go.Proofs.Ytnjdngjlbonieaa.PTierForgets
attribute [local go_sem] max2_int min2_int max_two min_two max_three min_three max_four min_four

theorem ltge (a b : Int) : a < b ∨ b ≤ a := by omega
section
variable {soon soon' : Int → Option Int} {ofw ofw' : Int → S31} {wd tt : Int}
/-- A tier rolled, in as many rounds as it takes. -/
def rollF (soon : Int → Option Int) (ofw : Int → S31) (wd tt : Int) (A : List S31) (m made : Int) : List S31 × Int × Int × Int := rollP soon ofw wd tt (257 - A.length) A m made
theorem rollF_un {A : List S31} (h : A.length ≤ 256) (m made : Int) : rollF soon ofw wd tt A m made = if tt ≤ m then (A, m, made, 0) else match soon m with
    | none => (A, tt, made, 0)
    | some nx => if tt ≤ nx then (A, tt, made, 0) else if 256 ≤ A.length then (A, mx m (stW wd nx), made, 6) else rollF soon ofw wd tt (A ++ [ofw nx]) (stW wd nx + wd) (made + 1) := by
  unfold rollF
  rw [show 257 - A.length = (256 - A.length) + 1 by omega]
  conv => lhs; unfold rollP
  by_cases h1 : tt ≤ m
  · rw [if_pos h1, if_pos h1]
  · rw [if_neg h1, if_neg h1]
    cases soon m with
    | none => rfl
    | some nx =>
      show (if tt ≤ nx then _ else _) = (if tt ≤ nx then _ else _)
      by_cases h2 : tt ≤ nx
      · rw [if_pos h2, if_pos h2]
      · rw [if_neg h2, if_neg h2]
        by_cases h3 : 256 ≤ A.length
        · rw [if_pos h3, if_pos h3]
        · rw [if_neg h3, if_neg h3, List.length_append, List.length_singleton, show 257 - (A.length + 1) = 256 - A.length by omega]
/-- From round to round. -/
theorem rollF_ind (C : List S31 → Int → Int → List S31 × Int × Int × Int → Prop)
    (h0 : ∀ A m made, A.length ≤ 256 → tt ≤ m → C A m made (A, m, made, 0))
    (h1 : ∀ A m made, A.length ≤ 256 → m < tt → (∀ nx, soon m = some nx → tt ≤ nx) → C A m made (A, tt, made, 0))
    (h2 : ∀ A m made nx, A.length = 256 → m < tt → soon m = some nx → nx < tt → C A m made (A, mx m (stW wd nx), made, 6))
    (h3 : ∀ A m made nx, A.length < 256 → m < tt → soon m = some nx → nx < tt → C (A ++ [ofw nx]) (stW wd nx + wd) (made + 1) (rollF soon ofw wd tt (A ++ [ofw nx]) (stW wd nx + wd) (made + 1)) → C A m made (rollF soon ofw wd tt (A ++ [ofw nx]) (stW wd nx + wd) (made + 1))) :
    ∀ (n : Nat) (A : List S31) (m made : Int), 256 - A.length = n → A.length ≤ 256 → C A m made (rollF soon ofw wd tt A m made) := by
  intro n
  induction n with
  | zero =>
    intro A m made hn hA
    rw [rollF_un hA]
    by_cases c1 : tt ≤ m
    · rw [if_pos c1]; exact h0 A m made hA c1
    · rw [if_neg c1]
      cases hs : soon m with
      | none => exact h1 A m made hA (by omega) (fun nx h => by rw [hs] at h; cases h)
      | some nx =>
        show C A m made (if tt ≤ nx then _ else _)
        by_cases c2 : tt ≤ nx
        · rw [if_pos c2]; exact h1 A m made hA (by omega) (fun n2 h => by rw [hs] at h; injection h with h; omega)
        · rw [if_neg c2, if_pos (by omega)]
          exact h2 A m made nx (by omega) (by omega) hs (by omega)
  | succ n ih =>
    intro A m made hn hA
    rw [rollF_un hA]
    by_cases c1 : tt ≤ m
    · rw [if_pos c1]; exact h0 A m made hA c1
    · rw [if_neg c1]
      cases hs : soon m with
      | none => exact h1 A m made hA (by omega) (fun nx h => by rw [hs] at h; cases h)
      | some nx =>
        show C A m made (if tt ≤ nx then _ else _)
        by_cases c2 : tt ≤ nx
        · rw [if_pos c2]; exact h1 A m made hA (by omega) (fun n2 h => by rw [hs] at h; injection h with h; omega)
        · rw [if_neg c2, if_neg (by omega)]
          exact h3 A m made nx (by omega) (by omega) hs (by omega) (ih (A ++ [ofw nx]) (stW wd nx + wd) (made + 1) (by rw [List.length_append, List.length_singleton]; omega) (by rw [List.length_append, List.length_singleton]; omega))
theorem rollF_all {C : List S31 → Int → Int → List S31 × Int × Int × Int → Prop} {A : List S31} {m made : Int} (hA : A.length ≤ 256)
    (h0 : ∀ A m made, A.length ≤ 256 → tt ≤ m → C A m made (A, m, made, 0))
    (h1 : ∀ A m made, A.length ≤ 256 → m < tt → (∀ nx, soon m = some nx → tt ≤ nx) → C A m made (A, tt, made, 0))
    (h2 : ∀ A m made nx, A.length = 256 → m < tt → soon m = some nx → nx < tt → C A m made (A, mx m (stW wd nx), made, 6))
    (h3 : ∀ A m made nx, A.length < 256 → m < tt → soon m = some nx → nx < tt → C (A ++ [ofw nx]) (stW wd nx + wd) (made + 1) (rollF soon ofw wd tt (A ++ [ofw nx]) (stW wd nx + wd) (made + 1)) → C A m made (rollF soon ofw wd tt (A ++ [ofw nx]) (stW wd nx + wd) (made + 1))) : C A m made (rollF soon ofw wd tt A m made) :=
  rollF_ind C h0 h1 h2 h3 _ A m made rfl hA
/-- One round more, written out. -/
theorem rollF_next {A : List S31} {m made nx : Int} (hA : A.length < 256) (hm : m < tt) (hs : soon m = some nx) (hn : nx < tt) : rollF soon ofw wd tt A m made = rollF soon ofw wd tt (A ++ [ofw nx]) (stW wd nx + wd) (made + 1) := by
  rw [rollF_un (by omega), if_neg (by omega), hs]
  show (if tt ≤ nx then _ else _) = _
  rw [if_neg (by omega), if_neg (by omega)]
theorem rollF_end {A : List S31} {m made : Int} (hA : A.length ≤ 256) (hm : m < tt) (hs : ∀ nx, soon m = some nx → tt ≤ nx) : rollF soon ofw wd tt A m made = (A, tt, made, 0) := by
  rw [rollF_un hA, if_neg (by omega)]
  cases h : soon m with
  | none => rfl
  | some nx =>
    show (if tt ≤ nx then _ else _) = _
    rw [if_pos (hs nx h)]
theorem rollF_there {A : List S31} {m made : Int} (hA : A.length ≤ 256) (hm : tt ≤ m) : rollF soon ofw wd tt A m made = (A, m, made, 0) := by
  rw [rollF_un hA, if_pos hm]
/-- The first that isn't below. -/
def Asc (soon : Int → Option Int) : Prop := ∀ m nx, soon m = some nx → m ≤ nx
def Far (soon : Int → Option Int) : Prop := ∀ m m', m ≤ m' → (soon m = none → soon m' = none) ∧ ∀ nx, soon m = some nx → m' ≤ nx → soon m' = some nx
theorem rollF_two {x y : Int} (hxy : x ≤ y) (hF : Far soon) {A : List S31} {m made : Int} (hA : A.length ≤ 256) : (rollF soon ofw wd x A m made).2.2.2 = 0 → (rollF soon ofw wd x A m made).1.length < 256 →
    rollF soon ofw wd y A m made = rollF soon ofw wd y (rollF soon ofw wd x A m made).1 (rollF soon ofw wd x A m made).2.1 (rollF soon ofw wd x A m made).2.2.1 := by
  refine rollF_all (soon := soon) (ofw := ofw) (wd := wd) (tt := x) (C := fun A m made r => r.2.2.2 = 0 → r.1.length < 256 → rollF soon ofw wd y A m made = rollF soon ofw wd y r.1 r.2.1 r.2.2.1) hA ?_ ?_ ?_ ?_
  · intro A m made _ _ _ _; rfl
  · intro A m made hA hm hs _ hl
    show _ = rollF soon ofw wd y A x made
    by_cases c : y ≤ x
    · have : y = x := by omega
      subst this
      rw [rollF_end hA hm hs, rollF_there hA (Int.le_refl _)]
    · cases h : soon m with
      | none =>
        have h2 := (hF m x (by omega)).1 h
        rw [rollF_end hA (by omega) (fun nx e => by rw [h] at e; cases e), rollF_end hA (by omega) (fun nx e => by rw [h2] at e; cases e)]
      | some nx =>
        have h2 := (hF m x (by omega)).2 nx h (hs nx h)
        rw [rollF_un hA, rollF_un hA, if_neg (by omega), if_neg (by omega), h, h2]
        have hl' : A.length < 256 := hl
        show (if y ≤ nx then _ else _) = (if y ≤ nx then _ else _)
        by_cases c2 : y ≤ nx
        · rw [if_pos c2, if_pos c2]
        · rw [if_neg c2, if_neg c2, if_neg (by omega), if_neg (by omega)]
  · intro A m made nx _ _ _ _ h; cases h
  · intro A m made nx hA hm hs hn ih h1 h2
    rw [rollF_next hA (by omega) hs (by omega)]
    exact ih h1 h2
/-- The count only goes along. -/
theorem rollF_made {A : List S31} {m made : Int} (hA : A.length ≤ 256) (k : Int) : rollF soon ofw wd tt A m (made + k) = ((rollF soon ofw wd tt A m made).1, (rollF soon ofw wd tt A m made).2.1, (rollF soon ofw wd tt A m made).2.2.1 + k, (rollF soon ofw wd tt A m made).2.2.2) := by
  refine rollF_all (soon := soon) (ofw := ofw) (wd := wd) (tt := tt) (C := fun A m made r => rollF soon ofw wd tt A m (made + k) = (r.1, r.2.1, r.2.2.1 + k, r.2.2.2)) hA ?_ ?_ ?_ ?_
  · intro A m made hA hm; rw [rollF_there hA hm]
  · intro A m made hA hm hs; rw [rollF_end hA hm hs]
  · intro A m made nx hA hm hs hn
    rw [rollF_un (by omega), if_neg (by omega), hs]
    show (if tt ≤ nx then _ else _) = _
    rw [if_neg (by omega), if_pos (by omega)]
  · intro A m made nx hA hm hs hn ih
    rw [rollF_next hA hm hs hn, show made + k + 1 = made + 1 + k by omega]
    exact ih
theorem rollF_cnt {A : List S31} {m made : Int} (hA : A.length ≤ 256) : (rollF soon ofw wd tt A m made).2.2.1 - made = ((rollF soon ofw wd tt A m made).1.length : Int) - A.length ∧ A.length ≤ (rollF soon ofw wd tt A m made).1.length ∧ (rollF soon ofw wd tt A m made).1.length ≤ 256 := by
  refine rollF_all (soon := soon) (ofw := ofw) (wd := wd) (tt := tt) (C := fun A m made r => r.2.2.1 - made = (r.1.length : Int) - A.length ∧ A.length ≤ r.1.length ∧ r.1.length ≤ 256) hA ?_ ?_ ?_ ?_
  · intro A m made hA hm; exact ⟨by show made - made = (A.length : Int) - A.length; omega, Nat.le_refl _, hA⟩
  · intro A m made hA hm hs; exact ⟨by show made - made = (A.length : Int) - A.length; omega, Nat.le_refl _, hA⟩
  · intro A m made nx hA hm hs hn; exact ⟨by show made - made = (A.length : Int) - A.length; omega, Nat.le_refl _, by show A.length ≤ 256; omega⟩
  · rintro A m made nx hA hm hs hn ⟨h1, h2, h3⟩
    rw [List.length_append, List.length_singleton] at h1 h2
    exact ⟨by omega, by omega, h3⟩
/-- Where less than all is known, the same is made. -/
theorem rollF_congr {A : List S31} {m made : Int} (hA : A.length ≤ 256) (h1 : ∀ m nx, nx < tt → (soon m = some nx ↔ soon' m = some nx)) (h2 : ∀ m nx, soon m = some nx → nx < tt → ofw nx = ofw' nx) : rollF soon' ofw' wd tt A m made = rollF soon ofw wd tt A m made := by
  refine rollF_all (soon := soon) (ofw := ofw) (wd := wd) (tt := tt) (C := fun A m made r => rollF soon' ofw' wd tt A m made = r) hA ?_ ?_ ?_ ?_
  · intro A m made hA hm; exact rollF_there hA hm
  · intro A m made hA hm hs
    refine rollF_end hA hm fun nx h => ?_
    rcases ltge nx tt with c | c
    · exact hs nx ((h1 m nx c).2 h)
    · exact c
  · intro A m made nx hA hm hs hn
    rw [rollF_un (by omega), if_neg (by omega), (h1 m nx hn).1 hs]
    show (if tt ≤ nx then _ else _) = _
    rw [if_neg (by omega), if_pos (by omega)]
  · intro A m made nx hA hm hs hn ih
    rw [rollF_next hA hm ((h1 m nx hn).1 hs) hn, ← h2 m nx hs hn]
    exact ih
end
theorem stW_ge {wd m x : Int} (hw : wd = 300 ∨ wd = 3600) (hm : m % wd = 0) (h : m ≤ x) : m ≤ stW wd x ∧ stW wd x % wd = 0 ∧ (stW wd x + wd) % wd = 0 ∧ stW wd x ≤ x ∧ x < stW wd x + wd := by
  rcases hw with rfl | rfl <;> unfold stW <;> omega
theorem stW_le {wd tt x : Int} (hw : wd = 300 ∨ wd = 3600) (hm : tt % wd = 0) (h : x < tt) : stW wd x + wd ≤ tt := by
  rcases hw with rfl | rfl <;> unfold stW <;> omega
/-- Aggregates that may stand in a tier below a mark. -/
structure GA (wd m : Int) (A : List S31) : Prop where
  ok : ∀ x ∈ A, okA x ∧ 0 ≤ x.f0 ∧ x.f0 % wd = 0 ∧ x.f0 < m ∧ x.f0 ≤ 1099511627776
  ris : A.Pairwise (fun x y => x.f0 < y.f0)
  len : A.length ≤ 256
theorem GA.tk {wd m : Int} {A : List S31} (h : GA wd m A) : Tk A := fun x hx => by have := h.ok x hx; omega
section
variable {soon soon' : Int → Option Int} {ofw ofw' : Int → S31} {wd tt : Int}
theorem rollF_good {A : List S31} {m made : Int} (hw : wd = 300 ∨ wd = 3600) (hs : ∀ m nx, soon m = some nx → m ≤ nx ∧ 0 ≤ nx ∧ nx ≤ 1099511627776 ∧ okA (ofw nx) ∧ (ofw nx).f0 = stW wd nx) (ht : tt % wd = 0) (hA : GA wd m A) (hm : m % wd = 0) (h0 : 0 ≤ m) :
    GA wd (rollF soon ofw wd tt A m made).2.1 (rollF soon ofw wd tt A m made).1 ∧ (rollF soon ofw wd tt A m made).2.1 % wd = 0 ∧ m ≤ (rollF soon ofw wd tt A m made).2.1 ∧ ((rollF soon ofw wd tt A m made).2.1 ≤ tt ∨ (rollF soon ofw wd tt A m made).2.1 = m) ∧
    (∃ B, (rollF soon ofw wd tt A m made).1 = A ++ B ∧ ∀ x ∈ B, m ≤ x.f0) ∧ ((rollF soon ofw wd tt A m made).2.2.2 = 0 → m ≤ tt → (rollF soon ofw wd tt A m made).2.1 = tt) := by
  refine rollF_all (soon := soon) (ofw := ofw) (wd := wd) (tt := tt) (C := fun A m made r => GA wd m A → m % wd = 0 → 0 ≤ m → GA wd r.2.1 r.1 ∧ r.2.1 % wd = 0 ∧ m ≤ r.2.1 ∧ (r.2.1 ≤ tt ∨ r.2.1 = m) ∧ (∃ B, r.1 = A ++ B ∧ ∀ x ∈ B, m ≤ x.f0) ∧ (r.2.2.2 = 0 → m ≤ tt → r.2.1 = tt)) hA.len ?_ ?_ ?_ ?_ hA hm h0
  · intro A m made _ hm hA h1 h2
    exact ⟨hA, h1, Int.le_refl _, .inr rfl, ⟨[], by simp, fun x hx => (by cases hx)⟩, fun _ h => by show m = tt; omega⟩
  · intro A m made _ hm _ hA h1 h2
    exact ⟨⟨fun x hx => by have := hA.ok x hx; exact ⟨this.1, this.2.1, this.2.2.1, by show x.f0 < tt; omega, this.2.2.2.2⟩, hA.ris, hA.len⟩, ht, by show m ≤ tt; omega, .inl (Int.le_refl _), ⟨[], by simp, fun x hx => (by cases hx)⟩, fun _ _ => rfl⟩
  · intro A m made nx _ hm hsm hn hA h1 h2
    obtain ⟨g1, g2, g3, g4, g5⟩ := hs m nx hsm
    obtain ⟨s1, s2, s3, s4, s5⟩ := stW_ge hw h1 g1
    have e : mx m (stW wd nx) = stW wd nx := by unfold mx; split <;> omega
    show GA wd (mx m (stW wd nx)) A ∧ mx m (stW wd nx) % wd = 0 ∧ m ≤ mx m (stW wd nx) ∧ (mx m (stW wd nx) ≤ tt ∨ mx m (stW wd nx) = m) ∧ (∃ B, A = A ++ B ∧ ∀ x ∈ B, m ≤ x.f0) ∧ ((6 : Int) = 0 → m ≤ tt → mx m (stW wd nx) = tt)
    rw [e]
    exact ⟨⟨fun x hx => by have := hA.ok x hx; exact ⟨this.1, this.2.1, this.2.2.1, by omega, this.2.2.2.2⟩, hA.ris, hA.len⟩, s2, s1, .inl (by omega), ⟨[], by simp, fun x hx => (by cases hx)⟩, fun h => by omega⟩
  · intro A m made nx hl hm hsm hn ih hA h1 h2
    obtain ⟨g1, g2, g3, g4, g5⟩ := hs m nx hsm
    obtain ⟨s1, s2, s3, s4, s5⟩ := stW_ge hw h1 g1
    have hle := stW_le hw ht hn
    obtain ⟨r1, r2, r3, r4, ⟨B, r5, r6⟩, r7⟩ := ih ⟨fun x hx => by
      rcases List.mem_append.1 hx with hx | hx
      · have := hA.ok x hx; exact ⟨this.1, this.2.1, this.2.2.1, by omega, this.2.2.2.2⟩
      · rw [List.mem_singleton.1 hx, g5]
        exact ⟨g4, by omega, s2, by omega, by omega⟩, by
      rw [List.pairwise_append]
      refine ⟨hA.ris, List.pairwise_singleton _ _, fun x hx y hy => ?_⟩
      rw [List.mem_singleton.1 hy, g5]
      have := hA.ok x hx
      omega, by rw [List.length_append, List.length_singleton]; omega⟩ s3 (by omega)
    refine ⟨r1, r2, by omega, .inl (by rcases r4 with r4 | r4 <;> omega), ⟨ofw nx :: B, by rw [r5, List.append_assoc]; rfl, fun x hx => ?_⟩, fun he _ => r7 he (by omega)⟩
    rcases List.mem_cons.1 hx with rfl | hx
    · omega
    · have := r6 x hx; omega
/-- Nothing stops where there is little. -/
theorem rollF_free {A : List S31} {m made : Int} (cnt : Int → Nat) (N : Nat) (hN : ∀ m, cnt m ≤ N) (hN2 : N < 256) (hc : ∀ m nx, soon m = some nx → cnt m + 1 ≤ cnt (stW wd nx + wd)) (hA : A.length ≤ cnt m) :
    (rollF soon ofw wd tt A m made).2.2.2 = 0 ∧ (rollF soon ofw wd tt A m made).1.length ≤ N := by
  have hA2 : A.length ≤ 256 := by have := hN m; omega
  refine rollF_all (soon := soon) (ofw := ofw) (wd := wd) (tt := tt) (C := fun A m made r => A.length ≤ cnt m → r.2.2.2 = 0 ∧ r.1.length ≤ N) hA2 ?_ ?_ ?_ ?_ hA
  · intro A m made _ _ h; exact ⟨rfl, Nat.le_trans h (hN m)⟩
  · intro A m made _ _ _ h; exact ⟨rfl, Nat.le_trans h (hN m)⟩
  · intro A m made nx h1 _ _ _ h; have := hN m; omega
  · intro A m made nx _ _ hs _ ih h
    exact ih (by rw [List.length_append, List.length_singleton]; have := hc m nx hs; omega)
end
theorem soonR_far (l : List S29) : Far (fun m => soonR m l) := by
  intro m m' h
  unfold soonR
  constructor
  · intro h1
    have h1 : (l.find? fun x => decide (m ≤ x.f0)).map S29.f0 = none := h1
    rw [Option.map_eq_none_iff, List.find?_eq_none] at h1
    show (l.find? fun x => decide (m' ≤ x.f0)).map S29.f0 = none
    rw [Option.map_eq_none_iff, List.find?_eq_none]
    intro x hx
    have := h1 x hx
    simp at this ⊢
    omega
  · intro nx h1 h2
    obtain ⟨x, hx, he⟩ := Option.map_eq_some_iff.1 h1
    show (l.find? fun x => decide (m' ≤ x.f0)).map S29.f0 = some nx
    obtain ⟨ha, pre, post, hb, hc⟩ := List.find?_eq_some_iff_append.1 hx
    rw [Option.map_eq_some_iff]
    refine ⟨x, List.find?_eq_some_iff_append.2 ⟨by simp; omega, pre, post, hb, fun a ha => ?_⟩, he⟩
    have := hc a ha
    simp at this ⊢
    omega
theorem soonA_far (l : List S31) : Far (fun m => soonA m l) := by
  intro m m' h
  unfold soonA
  constructor
  · intro h1
    have h1 : (l.find? fun x => decide (m ≤ x.f0)).map S31.f0 = none := h1
    rw [Option.map_eq_none_iff, List.find?_eq_none] at h1
    show (l.find? fun x => decide (m' ≤ x.f0)).map S31.f0 = none
    rw [Option.map_eq_none_iff, List.find?_eq_none]
    intro x hx
    have := h1 x hx
    simp at this ⊢
    omega
  · intro nx h1 h2
    obtain ⟨x, hx, he⟩ := Option.map_eq_some_iff.1 h1
    show (l.find? fun x => decide (m' ≤ x.f0)).map S31.f0 = some nx
    obtain ⟨ha, pre, post, hb, hc⟩ := List.find?_eq_some_iff_append.1 hx
    rw [Option.map_eq_some_iff]
    refine ⟨x, List.find?_eq_some_iff_append.2 ⟨by simp; omega, pre, post, hb, fun a ha => ?_⟩, he⟩
    have := hc a ha
    simp at this ⊢
    omega
/-- A stock that may be. -/
structure GoodT (s : Stk) : Prop where
  ris : Ris s.raw
  tick : TickOk s.raw
  len : s.raw.length ≤ 256
  g1 : GA 300 s.m1 s.a1
  g2 : GA 3600 s.m2 s.a2
  d1 : s.m1 % 300 = 0
  d2 : s.m2 % 3600 = 0
  low : 0 ≤ s.m2
  le : s.m2 ≤ s.m1
  up : s.m1 ≤ 1099511627776
theorem goodT_new : GoodT newS := ⟨List.Pairwise.nil, fun x hx => (by cases hx), by decide, ⟨fun x hx => (by cases hx), List.Pairwise.nil, by decide⟩, ⟨fun x hx => (by cases hx), List.Pairwise.nil, by decide⟩, by decide, by decide, by decide, by decide, by decide⟩
theorem of1_ok {raw : List S29} (h : TickOk raw) : ∀ m nx, soonR m raw = some nx → m ≤ nx ∧ 0 ≤ nx ∧ nx ≤ 1099511627776 ∧ okA (of1 raw nx) ∧ (of1 raw nx).f0 = stW 300 nx := by
  intro m nx hs
  obtain ⟨h1, x, hx, rfl⟩ := soonR_mem hs
  have h2 := h x hx
  have h3 := stW_bd (wd := 300) (by decide) h2.1
  have hne : inR (stW 300 x.f0) (stW 300 x.f0 + 300) raw ≠ [] := fun e => by
    have : x ∈ inR (stW 300 x.f0) (stW 300 x.f0 + 300) raw := by
      unfold inR
      rw [List.mem_filter]
      exact ⟨hx, by simp; omega⟩
    rw [e] at this
    cases this
  have h4 := ofP_ok (stW 300 x.f0) hne
  exact ⟨h1, h2.1, h2.2, h4.1, h4.2.1⟩
theorem of2_ok {m1 : Int} {a1 : List S31} (h : GA 300 m1 a1) : ∀ m nx, soonA m a1 = some nx → m ≤ nx ∧ 0 ≤ nx ∧ nx ≤ 1099511627776 ∧ okA (of2 a1 nx) ∧ (of2 a1 nx).f0 = stW 3600 nx := by
  intro m nx hs
  obtain ⟨h1, x, hx, rfl⟩ := soonA_mem hs
  obtain ⟨h2, h3, h4, h5, h6⟩ := h.ok x hx
  have h7 := stW_bd (wd := 3600) (by decide) h3
  have hne : aggR 300 (stW 3600 x.f0) (stW 3600 x.f0 + 3600) a1 ≠ [] := fun e => by
    have : x ∈ aggR 300 (stW 3600 x.f0) (stW 3600 x.f0 + 3600) a1 := by
      unfold aggR
      rw [List.mem_filter]
      refine ⟨hx, ?_⟩
      have e : stW 300 x.f0 = x.f0 := by unfold stW; omega
      rw [e, decide_eq_true_eq]
      unfold mx mn
      split <;> split <;> omega
    rw [e] at this
    cases this
  have h8 := joinP_ok (stW 3600 x.f0) (l := aggR 300 (stW 3600 x.f0) (stW 3600 x.f0 + 3600) a1) (fun y hy => (h.ok y (List.mem_filter.1 hy).1).1) hne
  exact ⟨h1, h3, h6, h8.1, h8.2.1⟩
/-- A stock rolled up to a tick. -/
def roll1 (s : Stk) (now : Int) : List S31 × Int × Int × Int := rollF (fun m => soonR m s.raw) (of1 s.raw) 300 (stW 300 now) s.a1 s.m1 0
def roll2 (s : Stk) (A : List S31) (m : Int) : List S31 × Int × Int × Int := rollF (fun m => soonA m A) (of2 A) 3600 (stW 3600 m) s.a2 s.m2 0
def rollT (s : Stk) (now : Int) : Stk × Int × Int :=
  (⟨s.raw, (roll1 s now).1, (roll2 s (roll1 s now).1 (roll1 s now).2.1).1, (roll1 s now).2.1, (roll2 s (roll1 s now).1 (roll1 s now).2.1).2.1⟩,
    (roll1 s now).2.2.1 + (roll2 s (roll1 s now).1 (roll1 s now).2.1).2.2.1, mx (roll1 s now).2.2.2 (roll2 s (roll1 s now).1 (roll1 s now).2.1).2.2.2)
theorem stW_mod {wd x : Int} (hw : wd = 300 ∨ wd = 3600) : stW wd x % wd = 0 := by rcases hw with rfl | rfl <;> unfold stW <;> omega
theorem rollT_good {s : Stk} {now : Int} (h : GoodT s) (hn : 0 ≤ now) (hn2 : now ≤ 1099511627776) : GoodT (rollT s now).1 := by
  have hl := h.low
  have hle := h.le
  have hup := h.up
  obtain ⟨a1, a2, a3, a4, _, _⟩ := rollF_good (soon := fun m => soonR m s.raw) (ofw := of1 s.raw) (wd := 300) (tt := stW 300 now) (made := 0) (.inl rfl) (of1_ok h.tick) (stW_mod (.inl rfl)) h.g1 h.d1 (by omega)
  have b0 := stW_bd (wd := 300) (by decide) hn
  have hm1 : 0 ≤ (roll1 s now).2.1 := by show 0 ≤ (rollF _ _ _ _ _ _ _).2.1; omega
  obtain ⟨b1, b2, b3, b4, _, _⟩ := rollF_good (soon := fun m => soonA m (roll1 s now).1) (ofw := of2 (roll1 s now).1) (wd := 3600) (tt := stW 3600 (roll1 s now).2.1) (made := 0) (.inr rfl) (of2_ok a1) (stW_mod (.inr rfl)) h.g2 h.d2 hl
  have c0 := stW_bd (wd := 3600) (by decide) hm1
  have hr1 : s.m1 ≤ (roll1 s now).2.1 := a3
  refine ⟨h.ris, h.tick, h.len, a1, b1, a2, b2, ?_, ?_, ?_⟩
  · show 0 ≤ (rollF _ _ _ _ _ _ _).2.1; omega
  · show (rollF _ _ _ _ _ _ _).2.1 ≤ (roll1 s now).2.1
    rcases b4 with b4 | b4
    · omega
    · omega
  · show (rollF _ _ _ _ _ _ _).2.1 ≤ _
    rcases a4 with a4 | a4 <;> omega
theorem rollT_made {s : Stk} {now : Int} (h : GoodT s) : 0 ≤ (roll1 s now).2.2.1 ∧ (roll1 s now).2.2.1 ≤ 256 ∧ 0 ≤ (roll2 s (roll1 s now).1 (roll1 s now).2.1).2.2.1 ∧ (roll2 s (roll1 s now).1 (roll1 s now).2.1).2.2.1 ≤ 256 := by
  have h1 := rollF_cnt (soon := fun m => soonR m s.raw) (ofw := of1 s.raw) (wd := 300) (tt := stW 300 now) (m := s.m1) (made := 0) h.g1.len
  have h2 := rollF_cnt (soon := fun m => soonA m (roll1 s now).1) (ofw := of2 (roll1 s now).1) (wd := 3600) (tt := stW 3600 (roll1 s now).2.1) (m := s.m2) (made := 0) h.g2.len
  refine ⟨?_, ?_, ?_, ?_⟩
  · show 0 ≤ (rollF _ _ _ _ _ _ _).2.2.1; omega
  · show (rollF _ _ _ _ _ _ _).2.2.1 ≤ _; omega
  · show 0 ≤ (rollF _ _ _ _ _ _ _).2.2.1; omega
  · show (rollF _ _ _ _ _ _ _).2.2.1 ≤ _; omega
end Go.Proofs.Ytnjdngjlbonieaa
