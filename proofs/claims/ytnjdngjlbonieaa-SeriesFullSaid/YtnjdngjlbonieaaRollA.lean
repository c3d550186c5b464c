/- Rows of rows of the call's own: the groups that roll.group makes. -/
import Derived.Test.YtnjdngjlbonieaaPRollWindowsx3
import Derived.Test.YtnjdngjlbonieaaFrame
import Derived.Maps.AppendAt
import Derived.OneCell
import Derived.Lib.Hide
import Derived.LoopTactic
import Derived.Outline
import Derived.Laws.Rows
import Derived.Laws.CopyOwn
import Derived.WalkKit
set_option linter.unusedVariables false
set_option linter.unusedSimpArgs false
namespace Go.Proofs.Ytnjdngjlbonieaa
open Go.RowKit Go.Proofs.YtnjdngjlbonieaaW.PrintWords Go.Proofs.YtnjdngjlbonieaaW.PrintLast Go.Proofs.YtnjdngjlbonieaaW.PrintMore
open Go.Proofs.Ytnjdngjlbonieaa.PRollWindows
attribute [local go_sem] max2_int min2_int max_two min_two max_three min_three max_four min_four

/-- Rows (each of elements of type e, k cells each) that lie behind these values; each in a block of its own. -/
structure RowsOf {α : Type} (B e k : Nat) (cells : α → List Value) (L : List Value) (R : List (List α)) (w : World) : Prop where
  len : L.length = R.length
  row : ∀ (i : Nat) (v : Value) (r : List α), L[i]? = some v → R[i]? = some r → w.ownsRow B e k v r.length (r.flatMap cells)
  apart : ∀ (i j : Nat) (v u : Value) (b : Nat), i ≠ j → L[i]? = some v → L[j]? = some u → v.ownBlock = some b → u.ownBlock ≠ some b
section
variable {α : Type} {B e k : Nat} {cells : α → List Value} {L : List Value} {R : List (List α)} {w w' : World}
theorem RowsOf.at_ (h : RowsOf B e k cells L R w) {i : Nat} {v : Value} (hv : L[i]? = some v) : ∃ r, R[i]? = some r ∧ w.ownsRow B e k v r.length (r.flatMap cells) := by
  have hi : i < R.length := by rw [← h.len]; exact (List.getElem?_eq_some_iff.1 hv).1
  exact ⟨R[i], List.getElem?_eq_getElem hi, h.row i v _ hv (List.getElem?_eq_getElem hi)⟩
theorem own_kept {B e k n : Nat} {v : Value} {xs : List Value} (h : w.ownsRow B e k v n xs) (hm : ∀ b, v.ownBlock = some b → w'.heap[b]? = w.heap[b]?) : w'.ownsRow B e k v n xs := by
  obtain ⟨h1, h2⟩ := h
  refine ⟨h1, ?_⟩
  rcases h2 with h2 | ⟨g, cap, cur, rfl, hg, hh, r⟩
  · exact .inl h2
  · exact .inr ⟨g, cap, cur, rfl, hg, (hm g (by simp [Value.ownBlock])).trans hh, r⟩
theorem RowsOf.kept (h : RowsOf B e k cells L R w) (hm : ∀ (i : Nat) (v : Value) (b : Nat), L[i]? = some v → v.ownBlock = some b → b < w.heap.size → w'.heap[b]? = w.heap[b]?) : RowsOf B e k cells L R w' :=
  ⟨h.len, fun i v r hv hr => own_kept (h.row i v r hv hr) (fun b hb => hm i v b hv hb ((h.row i v r hv hr).lt b hb).2), h.apart⟩
theorem RowsOf.nil (w : World) : RowsOf B e k cells [] [] w := ⟨rfl, fun i v r hv _ => (by cases hv), fun i j v u b _ hv _ _ => (by cases hv)⟩
theorem RowsOf.push (h : RowsOf B e k cells L R w) : RowsOf B e k cells (L ++ [.slice none 0 0]) (R ++ [[]]) w := by
  have hl := h.len
  refine ⟨by simp [hl], fun i v r hv hr => ?_, fun i j v u b hij hv hu hb => ?_⟩
  · rcases Nat.lt_or_ge i L.length with hi | hi
    · rw [List.getElem?_append_left hi] at hv
      rw [List.getElem?_append_left (by omega)] at hr
      exact h.row i v r hv hr
    · rw [List.getElem?_append_right hi] at hv
      rw [List.getElem?_append_right (by omega)] at hr
      have hz : i - L.length = 0 := by
        have := (List.getElem?_eq_some_iff.1 hv).1
        simp at this
        omega
      rw [hz] at hv
      rw [show i - R.length = 0 by omega] at hr
      injection hv with hv
      injection hr with hr
      subst hv
      subst hr
      exact World.ownsRow_nil w B e k
  · rcases Nat.lt_or_ge i L.length with hi | hi
    · rw [List.getElem?_append_left hi] at hv
      rcases Nat.lt_or_ge j L.length with hj | hj
      · rw [List.getElem?_append_left hj] at hu
        exact h.apart i j v u b hij hv hu hb
      · rw [List.getElem?_append_right hj] at hu
        have hz : j - L.length = 0 := by
          have := (List.getElem?_eq_some_iff.1 hu).1
          simp at this
          omega
        rw [hz] at hu
        injection hu with hu
        subst hu
        simp [Value.ownBlock]
    · rw [List.getElem?_append_right hi] at hv
      have hz : i - L.length = 0 := by
        have := (List.getElem?_eq_some_iff.1 hv).1
        simp at this
        omega
      rw [hz] at hv
      injection hv with hv
      subst hv
      simp [Value.ownBlock] at hb
/-- One row has grown, into its own block, or a new one. -/
theorem RowsOf.grow (h : RowsOf B e k cells L R w) {i : Nat} {v v1 : Value} {r1 : List α} (hv : L[i]? = some v) (hg : w.grownBy w' v.ownBlock) (hw : w'.ownsRow B e k v1 r1.length (r1.flatMap cells)) (ho : v1.ownBlock = v.ownBlock ∨ ∃ b, v1.ownBlock = some b ∧ w.heap.size ≤ b) : RowsOf B e k cells (L.set i v1) (R.set i r1) w' := by
  have hi : i < L.length := (List.getElem?_eq_some_iff.1 hv).1
  have hk : ∀ (j : Nat) (u : Value) (r : List α), j ≠ i → L[j]? = some u → R[j]? = some r → w'.ownsRow B e k u r.length (r.flatMap cells) := fun j u r hj hu hr =>
    own_kept (h.row j u r hu hr) fun b hb => hg.block b ((h.row j u r hu hr).lt b hb).2 fun e => h.apart j i u v b hj hu hv hb e.symm
  have hlt : ∀ (j : Nat) (u : Value) (b : Nat), L[j]? = some u → u.ownBlock = some b → b < w.heap.size := fun j u b hu hb => by
    obtain ⟨r, _, hr⟩ := h.at_ hu
    exact (hr.lt b hb).2
  refine ⟨by simp [h.len], fun j u r hu hr => ?_, fun a c u y b hac hu hy hb => ?_⟩
  · rw [List.getElem?_set] at hu hr
    by_cases hij : i = j
    · subst hij
      rw [if_pos rfl, if_pos (by omega)] at hu
      rw [if_pos rfl, if_pos (by rw [← h.len]; omega)] at hr
      injection hu with hu
      injection hr with hr
      rw [← hu, ← hr]
      exact hw
    · rw [if_neg hij] at hu hr
      exact hk j u r (Ne.symm hij) hu hr
  · rw [List.getElem?_set] at hu hy
    by_cases h1 : i = a
    · subst h1
      rw [if_pos rfl, if_pos hi] at hu
      rw [if_neg hac] at hy
      injection hu with hu
      subst hu
      rcases ho with ho | ⟨b', hb', hs⟩
      · exact h.apart i c v y b hac hv hy (by rw [← ho]; exact hb)
      · rw [hb'] at hb
        injection hb with hb
        subst hb
        intro e
        have := hlt c y b' hy e
        omega
    · rw [if_neg h1] at hu
      by_cases h2 : i = c
      · subst h2
        rw [if_pos rfl, if_pos hi] at hy
        injection hy with hy
        subst hy
        rcases ho with ho | ⟨b', hb', hs⟩
        · rw [ho]; exact h.apart a i u v b hac hu hv hb
        · rw [hb']
          intro e
          injection e with e
          have := hlt a u b hu hb
          omega
      · rw [if_neg h2] at hy
        exact h.apart a c u y b hac hu hy hb
end
/-- The groups: where each begins, and its row. -/
structure IsG {α : Type} (B e k tR : Nat) (cells : α → List Value) (vs vo : Value) (G : List (Int × List α)) (w : World) : Prop where
  starts : w.ownsRow B 2 1 vs G.length (G.map fun g => Value.int .i64 g.1)
  out : ∃ L : List Value, w.ownsRow B tR 1 vo G.length L ∧ RowsOf B e k cells L (G.map (·.2)) w
section
variable {α : Type} {B e k tR : Nat} {cells : α → List Value} {vs vo : Value} {G : List (Int × List α)} {w w' : World}
theorem IsG.below (h : IsG B e k tR cells vs vo G w) (hb : Below w.heap.size w w') : IsG B e k tR cells vs vo G w' := by
  obtain ⟨L, ho, hr⟩ := h.out
  exact ⟨own_kept h.starts (fun b hbb => hb.block b (h.starts.lt b hbb).2), L, own_kept ho (fun b hbb => hb.block b (ho.lt b hbb).2), hr.kept (fun i v b _ _ hl => hb.block b hl)⟩
theorem IsG.start (w : World) : IsG B e k tR cells (.slice none 0 0) (.slice none 0 0) ([] : List (Int × List α)) w := ⟨World.ownsRow_nil w B 2 1, [], World.ownsRow_nil w B tR 1, RowsOf.nil w⟩
end
/-- A group more, empty. -/
def pushG {α : Type} (G : List (Int × List α)) (s : Int) : List (Int × List α) := G ++ [(s, [])]
/-- An element more in the last one. -/
def lastG {α : Type} (G : List (Int × List α)) (x : α) : List (Int × List α) := match G.getLast? with
  | none => G
  | some g => G.set (G.length - 1) (g.1, g.2 ++ [x])
def addG {α : Type} (G : List (Int × List α)) (s : Int) (x : α) : List (Int × List α) :=
  lastG (if (G.getLast?.map (·.1)) = some s then G else pushG G s) x
end Go.Proofs.Ytnjdngjlbonieaa
