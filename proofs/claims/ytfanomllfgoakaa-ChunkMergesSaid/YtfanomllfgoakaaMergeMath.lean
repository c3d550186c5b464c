/- Two rising rows of points are merged: what the program does is what the law's insertion does. Plain Lean. -/
import Derived.Test.YtfanomllfgoakaaChunkMath
namespace Go.Proofs.Ytfanomllfgoakaa.MergeMath
open Go.Proofs.Ytfanomllfgoakaa.ChunkMath

def Rise : List Pt → Prop := List.Pairwise (fun p q => p.at_ < q.at_)
theorem rise_of : ∀ l, rises l → Rise l
  | [], _ => List.Pairwise.nil
  | [p], _ => List.pairwise_singleton _ _
  | p :: q :: r, h => by
    have ih := rise_of (q :: r) h.2
    refine List.pairwise_cons.2 ⟨?_, ih⟩
    intro x hx
    rcases List.mem_cons.1 hx with rfl | hx
    · exact h.1
    · have := (List.pairwise_cons.1 ih).1 x hx
      have := h.1
      omega
theorem rises_of : ∀ l, Rise l → rises l
  | [], _ => trivial
  | [p], _ => trivial
  | p :: q :: r, h => by
    obtain ⟨h1, h2⟩ := List.pairwise_cons.1 h
    exact ⟨h1 q List.mem_cons_self, rises_of (q :: r) h2⟩
/-- Two rising rows with the same members are the same. -/
theorem rise_ext : ∀ (a b : List Pt), Rise a → Rise b → (∀ x, x ∈ a ↔ x ∈ b) → a = b
  | [], [], _, _, _ => rfl
  | [], y :: b, _, _, h => by have := (h y).2 List.mem_cons_self; cases this
  | x :: a, [], _, _, h => by have := (h x).1 List.mem_cons_self; cases this
  | x :: a, y :: b, ha, hb, h => by
    obtain ⟨ha1, ha2⟩ := List.pairwise_cons.1 ha
    obtain ⟨hb1, hb2⟩ := List.pairwise_cons.1 hb
    have e : x = y := by
      rcases List.mem_cons.1 ((h x).1 List.mem_cons_self) with e | hx
      · exact e
      · rcases List.mem_cons.1 ((h y).2 List.mem_cons_self) with e | hy
        · exact e.symm
        · have := ha1 y hy; have := hb1 x hx; omega
    subst e
    congr 1
    refine rise_ext a b ha2 hb2 fun z => ⟨fun hz => ?_, fun hz => ?_⟩
    · rcases List.mem_cons.1 ((h z).1 (List.mem_cons_of_mem _ hz)) with e | h'
      · subst e; have := ha1 z hz; omega
      · exact h'
    · rcases List.mem_cons.1 ((h z).2 (List.mem_cons_of_mem _ hz)) with e | h'
      · subst e; have := hb1 z hz; omega
      · exact h'
/-- The points of both, of one tick the second one's. -/
def merge : List Pt → List Pt → List Pt
  | [], y => y
  | x, [] => x
  | p :: x, q :: y => if p.at_ < q.at_ then p :: merge x (q :: y) else if p.at_ = q.at_ then q :: merge x y else q :: merge (p :: x) y
termination_by x y => x.length + y.length
theorem merge_nil (y : List Pt) : merge [] y = y := by unfold merge; rfl
theorem merge_nil2 (x : List Pt) : merge x [] = x := by cases x <;> simp [merge]
theorem merge_cons (p q : Pt) (x y : List Pt) : merge (p :: x) (q :: y) = if p.at_ < q.at_ then p :: merge x (q :: y) else if p.at_ = q.at_ then q :: merge x y else q :: merge (p :: x) y := by
  conv => lhs; unfold merge
theorem merge_mem : ∀ (n : Nat) (x y : List Pt), x.length + y.length ≤ n → Rise x → Rise y → ∀ z, z ∈ merge x y ↔ (z ∈ x ∧ ∀ q ∈ y, z.at_ ≠ q.at_) ∨ z ∈ y
  | 0, x, y, hn, _, _, z => by
    have e1 : x = [] := List.eq_nil_of_length_eq_zero (by omega)
    have e2 : y = [] := List.eq_nil_of_length_eq_zero (by omega)
    subst e1 e2
    simp [merge_nil]
  | n + 1, [], y, _, _, _, z => by simp [merge_nil]
  | n + 1, p :: x, [], _, _, _, z => by simp [merge_nil2]
  | n + 1, p :: x, q :: y, hn, hx, hy, z => by
    obtain ⟨hx1, hx2⟩ := List.pairwise_cons.1 hx
    obtain ⟨hy1, hy2⟩ := List.pairwise_cons.1 hy
    simp only [List.length_cons] at hn
    rw [merge_cons]
    by_cases h1 : p.at_ < q.at_
    · rw [if_pos h1]
      have ih := merge_mem n x (q :: y) (by simp; omega) hx2 hy z
      rw [List.mem_cons, ih, List.mem_cons (a := z) (b := p)]
      constructor
      · rintro (rfl | ⟨h2, h3⟩ | h2)
        · left
          refine ⟨.inl rfl, fun r hr => ?_⟩
          rcases List.mem_cons.1 hr with rfl | hr
          · omega
          · have := hy1 r hr; omega
        · exact .inl ⟨.inr h2, h3⟩
        · exact .inr h2
      · rintro (⟨rfl | h2, h3⟩ | h2)
        · exact .inl rfl
        · exact .inr (.inl ⟨h2, h3⟩)
        · exact .inr (.inr h2)
    · rw [if_neg h1]
      by_cases h2 : p.at_ = q.at_
      · rw [if_pos h2]
        have ih := merge_mem n x y (by omega) hx2 hy2 z
        rw [List.mem_cons, ih, List.mem_cons (a := z) (b := p), List.mem_cons (a := z) (b := q)]
        constructor
        · rintro (rfl | ⟨h3, h4⟩ | h3)
          · exact .inr (.inl rfl)
          · left
            refine ⟨.inr h3, fun r hr => ?_⟩
            rcases List.mem_cons.1 hr with rfl | hr
            · have := hx1 z h3; omega
            · exact h4 r hr
          · exact .inr (.inr h3)
        · rintro (⟨rfl | h3, h4⟩ | h3 | h3)
          · exact absurd h2 (h4 q List.mem_cons_self)
          · exact .inr (.inl ⟨h3, fun r hr => h4 r (List.mem_cons_of_mem _ hr)⟩)
          · exact .inl h3
          · exact .inr (.inr h3)
      · rw [if_neg h2]
        have ih := merge_mem n (p :: x) y (by simp; omega) hx hy2 z
        rw [List.mem_cons, ih, List.mem_cons (a := z) (b := q)]
        constructor
        · rintro (rfl | ⟨h3, h4⟩ | h3)
          · exact .inr (.inl rfl)
          · left
            refine ⟨h3, fun r hr => ?_⟩
            rcases List.mem_cons.1 hr with rfl | hr
            · rcases List.mem_cons.1 h3 with rfl | h3
              · exact h2
              · have := hx1 z h3; omega
            · exact h4 r hr
          · exact .inr (.inr h3)
        · rintro (⟨h3, h4⟩ | h3 | h3)
          · exact .inr (.inl ⟨h3, fun r hr => h4 r (List.mem_cons_of_mem _ hr)⟩)
          · exact .inl h3
          · exact .inr (.inr h3)
theorem merge_rise : ∀ (n : Nat) (x y : List Pt), x.length + y.length ≤ n → Rise x → Rise y → Rise (merge x y)
  | 0, x, y, hn, _, _ => by
    have e1 : x = [] := List.eq_nil_of_length_eq_zero (by omega)
    have e2 : y = [] := List.eq_nil_of_length_eq_zero (by omega)
    subst e1 e2
    rw [merge_nil]; exact List.Pairwise.nil
  | n + 1, [], y, _, _, hy => by rw [merge_nil]; exact hy
  | n + 1, p :: x, [], _, hx, _ => by rw [merge_nil2]; exact hx
  | n + 1, p :: x, q :: y, hn, hx, hy => by
    obtain ⟨hx1, hx2⟩ := List.pairwise_cons.1 hx
    obtain ⟨hy1, hy2⟩ := List.pairwise_cons.1 hy
    simp only [List.length_cons] at hn
    rw [merge_cons]
    by_cases h1 : p.at_ < q.at_
    · rw [if_pos h1]
      refine List.pairwise_cons.2 ⟨?_, merge_rise n x (q :: y) (by simp; omega) hx2 hy⟩
      intro z hz
      rcases (merge_mem n x (q :: y) (by simp; omega) hx2 hy z).1 hz with ⟨h, _⟩ | h
      · exact hx1 z h
      · rcases List.mem_cons.1 h with rfl | h
        · exact h1
        · have := hy1 z h; omega
    · rw [if_neg h1]
      by_cases h2 : p.at_ = q.at_
      · rw [if_pos h2]
        refine List.pairwise_cons.2 ⟨?_, merge_rise n x y (by omega) hx2 hy2⟩
        intro z hz
        rcases (merge_mem n x y (by omega) hx2 hy2 z).1 hz with ⟨h, _⟩ | h
        · have := hx1 z h; omega
        · exact hy1 z h
      · rw [if_neg h2]
        refine List.pairwise_cons.2 ⟨?_, merge_rise n (p :: x) y (by simp; omega) hx hy2⟩
        intro z hz
        rcases (merge_mem n (p :: x) y (by simp; omega) hx hy2 z).1 hz with ⟨h, _⟩ | h
        · rcases List.mem_cons.1 h with rfl | h
          · omega
          · have := hx1 z h; omega
        · exact hy1 z h
/-- How many are below a tick, from the first one on. -/
def below (q : Pt) : List Pt → Nat
  | [] => 0
  | p :: r => if p.at_ < q.at_ then below q r + 1 else 0
def ins (l : List Pt) (q : Pt) : List Pt := l.take (below q l) ++ q :: l.drop (below q l)
theorem ins_cons (p q : Pt) (l : List Pt) : ins (p :: l) q = if p.at_ < q.at_ then p :: ins l q else q :: p :: l := by
  have e : below q (p :: l) = if p.at_ < q.at_ then below q l + 1 else 0 := rfl
  unfold ins
  rw [e]
  split <;> simp
theorem ins_mem (q : Pt) : ∀ (l : List Pt) (z : Pt), z ∈ ins l q ↔ z = q ∨ z ∈ l
  | [], z => by simp [ins, below]
  | p :: l, z => by
    rw [ins_cons]
    split
    · rw [List.mem_cons, ins_mem q l z, List.mem_cons]
      constructor
      · rintro (h | h | h) <;> simp [h]
      · rintro (h | h | h) <;> simp [h]
    · simp
theorem ins_rise (q : Pt) : ∀ (l : List Pt), Rise l → (∀ p ∈ l, p.at_ ≠ q.at_) → Rise (ins l q)
  | [], _, _ => by simp [ins, below, Rise]
  | p :: l, h, hne => by
    obtain ⟨h1, h2⟩ := List.pairwise_cons.1 h
    rw [ins_cons]
    by_cases c : p.at_ < q.at_
    · rw [if_pos c]
      refine List.pairwise_cons.2 ⟨?_, ins_rise q l h2 fun x hx => hne x (List.mem_cons_of_mem _ hx)⟩
      intro z hz
      rcases (ins_mem q l z).1 hz with rfl | hz
      · exact c
      · exact h1 z hz
    · rw [if_neg c]
      have := hne p List.mem_cons_self
      refine List.pairwise_cons.2 ⟨?_, h⟩
      intro z hz
      rcases List.mem_cons.1 hz with rfl | hz
      · omega
      · have := h1 z hz; omega
theorem fold_ins : ∀ (b f : List Pt), Rise b → Rise f → (∀ p ∈ f, ∀ q ∈ b, p.at_ ≠ q.at_) → Rise (b.foldl ins f) ∧ ∀ z, z ∈ b.foldl ins f ↔ z ∈ f ∨ z ∈ b
  | [], f, _, hf, _ => ⟨hf, by simp⟩
  | q :: b, f, hb, hf, hne => by
    obtain ⟨hb1, hb2⟩ := List.pairwise_cons.1 hb
    have h1 := ins_rise q f hf fun p hp => hne p hp q List.mem_cons_self
    obtain ⟨h2, h3⟩ := fold_ins b (ins f q) hb2 h1 (by
      intro p hp r hr
      rcases (ins_mem q f p).1 hp with rfl | hp
      · have := hb1 r hr; omega
      · exact hne p hp r (List.mem_cons_of_mem _ hr))
    refine ⟨h2, fun z => ?_⟩
    simp only [List.foldl_cons]
    rw [h3, ins_mem, List.mem_cons]
    constructor
    · rintro ((h | h) | h) <;> simp [h]
    · rintro (h | h | h) <;> simp [h]
def outside (b : List Pt) (p : Pt) : Bool := b.all fun q => decide (p.at_ ≠ q.at_)
theorem outside_iff (b : List Pt) (p : Pt) : outside b p = true ↔ ∀ q ∈ b, p.at_ ≠ q.at_ := by simp [outside]
theorem merge_is (a b : List Pt) (ha : rises a) (hb : rises b) : b.foldl ins (a.filter (outside b)) = merge a b := by
  have hA := rise_of a ha
  have hB := rise_of b hb
  have hF : Rise (a.filter (outside b)) := List.Pairwise.filter _ hA
  obtain ⟨h1, h2⟩ := fold_ins b (a.filter (outside b)) hB hF (by
    intro p hp
    exact (outside_iff b p).1 (List.mem_filter.1 hp).2)
  refine rise_ext _ _ h1 (merge_rise _ a b (Nat.le_refl _) hA hB) fun z => ?_
  rw [h2, merge_mem _ a b (Nat.le_refl _) hA hB, List.mem_filter, outside_iff]
theorem merge_ok (a b : List Pt) (ha : rises a) (hb : rises b) (oa : ∀ p ∈ a, okPt p) (ob : ∀ p ∈ b, okPt p) : rises (merge a b) ∧ (∀ p ∈ merge a b, okPt p) := by
  have hA := rise_of a ha
  have hB := rise_of b hb
  refine ⟨rises_of _ (merge_rise _ a b (Nat.le_refl _) hA hB), fun p hp => ?_⟩
  rcases (merge_mem _ a b (Nat.le_refl _) hA hB p).1 hp with ⟨h, _⟩ | h
  · exact oa p h
  · exact ob p h
theorem merge_length : ∀ (n : Nat) (x y : List Pt), x.length + y.length ≤ n → (merge x y).length ≤ x.length + y.length
  | 0, x, y, hn => by
    have e1 : x = [] := List.eq_nil_of_length_eq_zero (by omega)
    have e2 : y = [] := List.eq_nil_of_length_eq_zero (by omega)
    subst e1 e2
    simp [merge_nil]
  | n + 1, [], y, _ => by simp [merge_nil]
  | n + 1, p :: x, [], _ => by simp [merge_nil2]
  | n + 1, p :: x, q :: y, hn => by
    simp only [List.length_cons] at hn
    rw [merge_cons]
    have h1 := merge_length n x (q :: y) (by simp; omega)
    have h2 := merge_length n x y (by omega)
    have h3 := merge_length n (p :: x) y (by simp; omega)
    simp only [List.length_cons] at h1 h3 ⊢
    split
    · simp; omega
    · split <;> simp <;> omega
end Go.Proofs.Ytfanomllfgoakaa.MergeMath
