/- roll.group of points: what it makes, plain; how its rows grow. -/
import Derived.Test.YtnjdngjlbonieaaRollA
import Derived.Lib.Hide
import Derived.LoopTactic
import Derived.Outline
import Derived.Laws.Rows
import Derived.Laws.CopyOwn
import Derived.WalkKit
set_option linter.unusedVariables false
set_option linter.unusedSimpArgs false
namespace Go.Proofs.Ytnjdngjlbonieaa
open Go.RowKit Go.Proofs.YtnjdngjlbonieaaW.PrintWords Go.Proofs.YtnjdngjlbonieaaW.PrintLast Go.Proofs.YtnjdngjlbonieaaW.PrintMore
open Go.Proofs.Ytnjdngjlbonieaa.PRollWindows
attribute [local go_sem] max2_int min2_int max_two min_two max_three min_three max_four min_four

theorem own_grown {B e k n B' e2 k2 m : Nat} {u v : Value} {xs ys : List Value} {w w' : World} (h : w.ownsRow B e k u n xs) (hv : w.ownsRow B' e2 k2 v m ys) (hne : e2 ≠ e) (hg : w.grownBy w' v.ownBlock) : w'.ownsRow B e k u n xs :=
  own_kept h fun b hb => hg.block b (h.lt b hb).2 fun hc => by
    obtain ⟨c1, h1⟩ := own_typed h b hb
    obtain ⟨c2, h2⟩ := own_typed hv b hc.symm
    rw [h1] at h2
    injection h2 with h2
    injection h2 with _ h2
    exact hne h2.symm
theorem RowsOf.grown {α : Type} {B e k B' e2 k2 m : Nat} {cells : α → List Value} {L : List Value} {R : List (List α)} {v : Value} {ys : List Value} {w w' : World} (h : RowsOf B e k cells L R w) (hv : w.ownsRow B' e2 k2 v m ys) (hne : e2 ≠ e) (hg : w.grownBy w' v.ownBlock) : RowsOf B e k cells L R w' :=
  h.kept fun i u b hu hb hl => hg.block b hl fun hc => by
    obtain ⟨r, _, hr⟩ := h.at_ hu
    obtain ⟨c1, h1⟩ := own_typed hr b hb
    obtain ⟨c2, h2⟩ := own_typed hv b hc.symm
    rw [h1] at h2
    injection h2 with h2
    injection h2 with _ h2
    exact hne h2.symm
theorem own_cell {B e k n g : Nat} {u : Value} {xs : List Value} {w : World} {cs : Array Value} {t : TypeId} (h : w.ownsRow B e k u n xs) (hg : w.heap[g]? = some (.cells cs t (0, 0))) (hne : e ≠ t) (i : Nat) (y : Value) : (w.setCell ⟨g, i, none⟩ y).ownsRow B e k u n xs :=
  own_kept h fun b hb => Below.heap_setCell w _ y b fun hc => by
    have hc : b = g := hc
    subst hc
    exact row_ne h hg hne hb
theorem RowsOf.cell {α : Type} {B e k g : Nat} {cells : α → List Value} {L : List Value} {R : List (List α)} {w : World} {cs : Array Value} {t : TypeId} (h : RowsOf B e k cells L R w) (hg : w.heap[g]? = some (.cells cs t (0, 0))) (hne : e ≠ t) (i : Nat) (y : Value) : RowsOf B e k cells L R (w.setCell ⟨g, i, none⟩ y) :=
  h.kept fun j u b hu hb _ => Below.heap_setCell w _ y b fun hc => by
    have hc : b = g := hc
    subst hc
    obtain ⟨r, _, hr⟩ := h.at_ hu
    exact row_ne hr hg hne hb
theorem grown_of_below {W w1 : World} (hb : Below W.heap.size W w1) (row : Option Nat) : W.grownBy w1 row := ⟨hb.os, hb.tape, hb.output, hb.size, fun i hi _ => hb.block i hi⟩
/-- The rows: a group of its own for each window in which something begins; of what does not rise: nothing. -/
def grpF {α : Type} (W : Int) (at_ : α → Int) : List α → Option Int → List (Int × List α) → List (Int × List α)
  | [], _, G => G
  | x :: r, p, G => if at_ x < 0 ∨ (∃ q, p = some q ∧ at_ x ≤ q) then [] else grpF W at_ r (some (at_ x)) (addG G (at_ x - at_ x % W) x)
def prevA {α : Type} (at_ : α → Int) (l : List α) (j : Nat) : Option Int := if j = 0 then none else (l[j - 1]?).map at_
theorem grp_step {α : Type} {W : Int} {at_ : α → Int} {l : List α} {j : Nat} {x : α} (hx : l[j]? = some x) (G : List (Int × List α)) :
    grpF W at_ (l.drop j) (prevA at_ l j) G = if at_ x < 0 ∨ (∃ q, prevA at_ l j = some q ∧ at_ x ≤ q) then [] else grpF W at_ (l.drop (j + 1)) (prevA at_ l (j + 1)) (addG G (at_ x - at_ x % W) x) := by
  obtain ⟨hj, he⟩ := List.getElem?_eq_some_iff.1 hx
  rw [List.drop_eq_getElem_cons hj, he]
  have hp : prevA at_ l (j + 1) = some (at_ x) := by
    unfold prevA
    rw [if_neg (by omega), show j + 1 - 1 = j by omega, hx]
    rfl
  rw [hp]
  rfl
theorem lastG_push {α : Type} (G : List (Int × List α)) (s : Int) (x : α) : lastG (pushG G s) x = G ++ [(s, [x])] := by
  unfold lastG pushG
  rw [List.getLast?_concat]
  simp
theorem lastG_some {α : Type} {G : List (Int × List α)} {g : Int × List α} (h : G.getLast? = some g) (x : α) : lastG G x = G.set (G.length - 1) (g.1, g.2 ++ [x]) := by unfold lastG; rw [h]
theorem lastG_length {α : Type} (G : List (Int × List α)) (x : α) : (lastG G x).length = G.length := by
  unfold lastG
  split
  · rfl
  · simp
theorem addG_length {α : Type} (G : List (Int × List α)) (s : Int) (x : α) : (addG G s x).length ≤ G.length + 1 := by
  unfold addG
  rw [lastG_length]
  split
  · omega
  · simp [pushG]
abbrev cellsP (p : S29) : List Value := [.int .i64 p.f0, .int .i64 p.f1]
abbrev GP (B : Nat) := @IsG S29 B 29 2 22 cellsP
/-- A group more has been begun. -/
theorem IsG.pushed {B : Nat} {vs vo v1 v2 : Value} {G : List (Int × List S29)} {L : List Value} {W w1 w2 w2' w3 : World} {s : Int} (hs : W.ownsRow B 2 1 vs G.length (G.map fun g => Value.int .i64 g.1)) (ho : W.ownsRow B 22 1 vo G.length L) (hr : RowsOf B 29 2 cellsP L (G.map (·.2)) W)
    (hb1 : Below W.heap.size W w1) (hg1 : w1.grownBy w2 vs.ownBlock) (h1 : w2.ownsRow B 2 1 v1 (G.length + 1) ((G.map fun g => Value.int .i64 g.1) ++ [.int .i64 s])) (hb2 : Below w2.heap.size w2 w2') (hg2 : w2'.grownBy w3 vo.ownBlock)
    (h2 : w3.ownsRow B 22 1 v2 (G.length + 1) (L ++ [.slice none 0 0])) : GP B v1 v2 (pushG G s) w3 := by
  have ho1 : w1.ownsRow B 22 1 vo G.length L := own_kept ho fun b hb => hb1.block b (ho.lt b hb).2
  have hr1 := hr.kept (w' := w1) fun i v b _ _ hl => hb1.block b hl
  have hs1 : w1.ownsRow B 2 1 vs G.length (G.map fun g => Value.int .i64 g.1) := own_kept hs fun b hb => hb1.block b (hs.lt b hb).2
  have ho2 := own_grown ho1 hs1 (by decide) hg1
  have hr2 := hr1.grown hs1 (by decide) hg1
  have ho2' : w2'.ownsRow B 22 1 vo G.length L := own_kept ho2 fun b hb => hb2.block b (ho2.lt b hb).2
  have hr2' := hr2.kept (w' := w2') fun i v b _ _ hl => hb2.block b hl
  have h1' : w2'.ownsRow B 2 1 v1 (G.length + 1) ((G.map fun g => Value.int .i64 g.1) ++ [.int .i64 s]) := own_kept h1 fun b hb => hb2.block b (h1.lt b hb).2
  have h1'' := own_grown h1' ho2' (by decide) hg2
  have hr3 := hr2'.grown ho2' (by decide) hg2
  refine ⟨by simpa [pushG] using h1'', L ++ [.slice none 0 0], by simpa [pushG] using h2, ?_⟩
  have := hr3.push
  simpa [pushG] using this
theorem addG_sizes {α : Type} {G : List (Int × List α)} {s : Int} {x : α} {j : Nat} (h : ∀ g ∈ G, g.2.length ≤ j) : ∀ g ∈ addG G s x, g.2.length ≤ j + 1 := by
  have hl : ∀ (H : List (Int × List α)), (∀ g ∈ H, g.2.length ≤ j) → ∀ g ∈ lastG H x, g.2.length ≤ j + 1 := fun H hH g hg => by
    unfold lastG at hg
    split at hg
    · have := hH g hg; omega
    · rename_i g0 hg0
      rcases List.mem_or_eq_of_mem_set hg with h1 | rfl
      · have := hH g h1; omega
      · have := hH g0 (List.mem_of_getLast? hg0)
        simp
        omega
  unfold addG
  split
  · exact hl G h
  · refine hl (pushG G s) fun g hg => ?_
    rcases List.mem_append.1 hg with h1 | h1
    · exact h g h1
    · rw [List.mem_singleton.1 h1]; simp
/-- The last row has grown. -/
theorem IsG.lasted {B go cap : Nat} {vs v v1 : Value} {G : List (Int × List S29)} {g : Int × List S29} {L : List Value} {W w1 : World} {x : S29} (hs : W.ownsRow B 2 1 vs G.length (G.map fun g => Value.int .i64 g.1))
    (ho : W.ownsRow B 22 1 (.slice (some ⟨go, 0, none⟩) G.length cap) G.length L) (hr : RowsOf B 29 2 cellsP L (G.map (·.2)) W) (hgl : G.getLast? = some g) (hv : L[G.length - 1]? = some v) (hg : W.grownBy w1 v.ownBlock)
    (h1 : w1.ownsRow B 29 2 v1 (g.2.length + 1) (g.2.flatMap cellsP ++ cellsP x)) (hblk : v1.ownBlock = v.ownBlock ∨ v1.ownBlock = some W.heap.size) :
    GP B vs (.slice (some ⟨go, 0, none⟩) G.length cap) (lastG G x) (w1.setCell ⟨go, G.length - 1, none⟩ v1) := by
  have hG : 0 < G.length := by
    cases G with
    | nil => cases hgl
    | cons a r => simp
  have hgi : G[G.length - 1]? = some g := by rw [← List.getLast?_eq_getElem?]; exact hgl
  have hrow := hr.row _ v g.2 hv (by rw [List.getElem?_map, hgi]; rfl)
  have hs1 := own_grown hs hrow (by decide) hg
  have ho1 := own_grown ho hrow (by decide) hg
  have hr1 := hr.grow (r1 := g.2 ++ [x]) hv hg (by simpa using h1) (hblk.imp id fun h => ⟨_, h, Nat.le_refl _⟩)
  obtain ⟨cs, hcs⟩ := own_typed ho1 go (by simp [Value.ownBlock])
  rw [lastG_some hgl]
  refine ⟨?_, L.set (G.length - 1) v1, ?_, ?_⟩
  · have := own_cell hs1 hcs (by decide) (G.length - 1) v1
    rw [List.length_set, List.map_set]
    rw [show (G.map fun g => Value.int .i64 g.1).set (G.length - 1) (Value.int .i64 g.1) = G.map fun g => Value.int .i64 g.1 by
      apply List.ext_getElem?
      intro i
      rw [List.getElem?_set]
      by_cases hi : G.length - 1 = i
      · subst hi
        rw [if_pos rfl, if_pos (by rw [List.length_map]; omega), List.getElem?_map, hgi]
        rfl
      · rw [if_neg hi]]
    exact this
  · rw [List.length_set]
    exact (ho1.stored (G.length - 1) v1).1
  · have := hr1.cell hcs (by decide) (G.length - 1) v1
    rw [List.map_set]
    exact this
end Go.Proofs.Ytnjdngjlbonieaa
