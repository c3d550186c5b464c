/- Two stocks apart; a law's rows beside them; what is told of a stock. -/
import Derived.Test.YtnjdngjlbonieaaTierX
import Derived.Lib.Hide
import Derived.LoopTactic
import Derived.Outline
import Derived.Laws.Rows
import Derived.Laws.CopyOwn
import Derived.WalkKit
set_option linter.unusedVariables false
set_option linter.unusedSimpArgs false
namespace Go.Proofs.Ytnjdngjlbonieaa
open Go.RowKit Go.Proofs.YtnjdngjlbonieaaW.PrintWords Go.Proofs.YtnjdngjlbonieaaW.PrintLast Go.Proofs.YtnjdngjlbonieaaW.PrintMore
open Go.Proofs.Ytnjdngjlbonieaa.PTierForgets
attribute [local go_sem] max2_int min2_int max_two min_two max_three min_three max_four min_four

theorem sameP_rows (B B2 : Nat) (v v' : Value) (l : List S29) (w : World) (h : w.ownsRow B 29 2 v l.length (l.flatMap cellsP)) (h2 : w.ownsRow B2 29 2 v' l.length (l.flatMap cellsP)) (hl : l.length ≤ 1000) :
    Calls Try.prog 44 #[v, v'] w fun e w' => e = .returned (.bool true) ∧ Below w.heap.size w w' := by
  obtain ⟨A, ca, rfl⟩ := row_form h
  obtain ⟨A2, ca2, rfl⟩ := row_form h2
  exact samePoints_true A A2 ca ca2 l w (kdC_of h hl).1 (kdC_of h2 hl).1 hl
theorem OwnS.mono {B B' p : Nat} {s : Stk} {w : World} (h : OwnS B p s w) (hB : B' ≤ B) : OwnS B' p s w := by
  obtain ⟨F, h1, h2⟩ := h
  exact ⟨F, h1, fun b hb => by have := h2 b hb; omega⟩
/-- Two stocks of the call's own, apart, and apart from the blocks X. -/
def TwoX (B p q : Nat) (X : Nat → Prop) (s t : Stk) (w : World) : Prop := ∃ F G, IsStk F p s w ∧ IsStk G q t w ∧ (∀ b, F b → B ≤ b ∧ b < w.heap.size ∧ ¬ X b) ∧ (∀ b, G b → B ≤ b ∧ b < w.heap.size ∧ ¬ X b) ∧ (∀ b, F b → ¬ G b) ∧ ∀ b, X b → b < w.heap.size
section
variable {B p q : Nat} {X Y : Nat → Prop} {s t : Stk} {w w' : World}
theorem TwoX.new (h : TwoX B p q X s t w) (o : Obj) : TwoX B p q (fun b => X b ∨ b = w.heap.size) s t (w.alloc o) := by
  obtain ⟨F, G, h1, h2, h3, h4, h5, h6⟩ := h
  have hk : Below w.heap.size w (w.alloc o) := (Below.refl _ _).alloc (Nat.le_refl _) _
  refine ⟨F, G, h1.below hk, h2.below hk, fun b hb => ?_, fun b hb => ?_, h5, fun b hb => ?_⟩
  · have := h3 b hb; refine ⟨this.1, by simp; omega, fun hx => ?_⟩
    rcases hx with hx | hx
    · exact this.2.2 hx
    · omega
  · have := h4 b hb; refine ⟨this.1, by simp; omega, fun hx => ?_⟩
    rcases hx with hx | hx
    · exact this.2.2 hx
    · omega
  · rcases hb with hb | hb
    · have := h6 b hb; simp; omega
    · simp; omega
theorem TwoX.less (h : TwoX B p q X s t w) (hY : ∀ b, Y b → X b) : TwoX B p q Y s t w := by
  obtain ⟨F, G, h1, h2, h3, h4, h5, h6⟩ := h
  exact ⟨F, G, h1, h2, fun b hb => ⟨(h3 b hb).1, (h3 b hb).2.1, fun hy => (h3 b hb).2.2 (hY b hy)⟩, fun b hb => ⟨(h4 b hb).1, (h4 b hb).2.1, fun hy => (h4 b hb).2.2 (hY b hy)⟩, h5, fun b hb => h6 b (hY b hb)⟩
theorem TwoX.swap (h : TwoX B p q X s t w) : TwoX B q p X t s w := by
  obtain ⟨F, G, h1, h2, h3, h4, h5, h6⟩ := h
  exact ⟨G, F, h2, h1, h4, h3, fun b hG hF => h5 b hF hG, h6⟩
theorem TwoX.fst (h : TwoX B p q X s t w) : ∃ F, IsStk F p s w := by
  obtain ⟨F, G, h1, _⟩ := h
  exact ⟨F, h1⟩
theorem TwoX.below (h : TwoX B p q X s t w) (hk : Below w.heap.size w w') : TwoX B p q X s t w' := by
  obtain ⟨F, G, h1, h2, h3, h4, h5, h6⟩ := h
  have := hk.size
  exact ⟨F, G, h1.below hk, h2.below hk, fun b hb => ⟨(h3 b hb).1, by have := h3 b hb; omega, (h3 b hb).2.2⟩, fun b hb => ⟨(h4 b hb).1, by have := h4 b hb; omega, (h4 b hb).2.2⟩, h5, fun b hb => by have := h6 b hb; omega⟩
theorem TwoX.step (h : TwoX B p q X s t w) : ∃ F, IsStk F p s w ∧ (∀ b, F b → b < w.heap.size) ∧ ∀ s' w', B ≤ w.heap.size → IsStk (More F w w') p s' w' → Keep F w w' → TwoX B p q X s' t w' ∧ (∀ b, X b → w'.heap[b]? = w.heap[b]?) ∧ ∀ w0, Below B w0 w → B ≤ w0.heap.size → Below B w0 w' := by
  obtain ⟨F, G, h1, h2, h3, h4, h5, hX⟩ := h
  refine ⟨F, h1, fun b hb => (h3 b hb).2.1, fun s' w' hB h6 h7 => ⟨⟨_, G, h6, h2.keep h7 (fun b hg hf => h5 b hf hg), fun b hb => ?_, fun b hb => ?_, fun b hb hg => ?_, fun b hb => Nat.lt_of_lt_of_le (hX b hb) h7.size⟩, fun b hb => h7.block b (hX b hb) (fun hf => (h3 b hf).2.2 hb), fun w0 hb hB0 => Keep.below_trans hb h7 (fun b _ hF => (h3 b hF).1) hB0⟩⟩
  · have := h7.size
    rcases hb with hb | hb
    · have h8 := h3 b hb; exact ⟨h8.1, by omega, h8.2.2⟩
    · exact ⟨by omega, hb.2, fun hx => by have := hX b hx; omega⟩
  · have := h7.size
    have h8 := h4 b hb
    exact ⟨h8.1, by omega, h8.2.2⟩
  · rcases hb with hb | hb
    · exact h5 b hb hg
    · have := h4 b hg; omega
end
theorem TwoX.of2 {B p q : Nat} {s t : Stk} {w4 w11 w12 : World} (h1 : OwnS B p s w4) (hk : Below w4.heap.size w4 w11) (h2 : OwnS w11.heap.size q t w12) (hk2 : Below w11.heap.size w11 w12) (hB : B ≤ w4.heap.size) : TwoX B p q (fun b => w4.heap.size ≤ b ∧ b < w11.heap.size) s t w12 := by
  obtain ⟨F, h3, h4⟩ := h1
  obtain ⟨G, h5, h6⟩ := h2
  have e1 := hk.size
  have e2 := hk2.size
  exact ⟨F, G, (h3.below hk).below hk2, h5, fun b hb => ⟨(h4 b hb).1, by have := h4 b hb; omega, fun hx => by have := h4 b hb; omega⟩, fun b hb => ⟨by have := h6 b hb; omega, (h6 b hb).2, fun hx => by have := h6 b hb; omega⟩, fun b hb hg => by have := h4 b hb; have := h6 b hg; omega, fun b hb => by omega⟩
theorem aggR_all {wd m : Int} {A : List S31} (hw : wd = 300 ∨ wd = 3600) (h : GA wd m A) : aggR wd 0 1099511627777 A = A := by
  unfold aggR
  rw [List.filter_eq_self]
  intro x hx
  obtain ⟨_, h1, h2, _, h3⟩ := h.ok x hx
  have e : stW wd x.f0 = x.f0 := by unfold stW; rcases hw with rfl | rfl <;> omega
  rw [e, decide_eq_true_eq]
  unfold mx mn
  rcases hw with rfl | rfl <;> (split <;> split <;> omega)
theorem fine_self {s : Stk} (h : GoodT s) : fineB s s.m1 = true := by
  have h1 := h.low
  have h2 := h.le
  have h3 := h.up
  unfold fineB markB belowB
  rw [decide_eq_true (show 0 ≤ s.m1 by omega), decide_eq_true (show s.m1 ≤ 1099511631376 by omega), decide_eq_true h.d1, decide_eq_true h2, List.all_eq_true.2 fun x hx => decide_eq_true (h.g1.ok x hx).2.2.2.1]
  rfl
theorem rest_err {s : Stk} {m : Int} {w w' : World} {e : Ending} (h : RestPost s m w e w') : ∃ v err, e = .returned (.tuple #[v, .int .i64 err]) ∧ (err == 0) = fineB s m ∧ Below w.heap.size w w' := by
  rcases h with ⟨h1, p, h2, _, h3⟩ | ⟨h1, h2, h3⟩
  · exact ⟨_, 0, h2, by rw [h1]; rfl, h3⟩
  · exact ⟨_, 2, h2, by rw [h1]; rfl, h3⟩
theorem belowB_snoc (A : List S31) (x : S31) (m : Int) : belowB (A ++ [x]) m = (belowB A m && decide (x.f0 < m)) := by unfold belowB; rw [List.all_append]; simp
end Go.Proofs.Ytnjdngjlbonieaa
