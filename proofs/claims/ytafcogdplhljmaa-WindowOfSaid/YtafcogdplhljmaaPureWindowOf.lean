/- The window of any tick below 2^62 (or below 0), where it begins, and whether it is closed, are what the chapter says; of a greater tick the statement says that the chapter's example holds. No condition. -/
import Derived.Test.YtafcogdplhljmaaPWindowOfx3
namespace Go.Proofs.Ytafcogdplhljmaa.Pure
open Go.RowKit Go.Proofs.Ytafcogdplhljmaa.PWindowOf Go.Proofs.YtafcogdplhljmaaW.PrintWords Go.Proofs.YtafcogdplhljmaaW.PrintLast

namespace WindowOfPure

theorem width_is (a0 : Int) : ∃ w, window_Width.f a0 = some w ∧ catacomblaw13_Width.f a0 = some w ∧ (w = 0 ∨ w = 1 ∨ w = 300 ∨ w = 3600) := by
  unfold window_Width.f catacomblaw13_Width.f
  by_cases h0 : a0 = 0
  · exact ⟨1, by rw [if_pos h0], by rw [if_pos h0], by omega⟩
  · by_cases h1 : a0 = 1
    · exact ⟨300, by rw [if_neg h0, if_pos h1], by rw [if_neg h0, if_pos h1], by omega⟩
    · by_cases h2 : a0 = 2
      · exact ⟨3600, by rw [if_neg h0, if_neg h1, if_pos h2], by rw [if_neg h0, if_neg h1, if_pos h2], by omega⟩
      · exact ⟨0, by rw [if_neg h0, if_neg h1, if_neg h2], by rw [if_neg h0, if_neg h1, if_neg h2], by omega⟩

theorem cut_at {x w : Int} (hw : w = 1 ∨ w = 300 ∨ w = 3600) (h0 : 0 ≤ x) (h1 : x < 4611686018427387904) :
    wrap64 (x - Int.tmod x w) = x / w * w ∧ 0 ≤ x / w * w ∧ x / w * w ≤ x ∧ wrap64 (x / w * w + w) = x / w * w + w ∧ x < x / w * w + w ∧ wrap64 (wrap64 (Int.tdiv x w) * w) = x / w * w := by
  rw [Int.tmod_eq_emod_of_nonneg h0, Int.tdiv_eq_ediv_of_nonneg h0]
  unfold wrap64
  rcases hw with rfl | rfl | rfl <;> omega

theorem start_zero {a0 w x : Int} (hf : window_Width.f a0 = some w) (h : w = 0 ∨ x < 0) : window_Start.f a0 x = some 0 := by
  unfold window_Start.f
  rw [hf]
  simp only [Option.bind_some]
  by_cases h0 : w = 0
  · rw [if_pos h0]
  · rw [if_neg h0, if_pos (by omega)]

theorem start_pos {a0 w x : Int} (hf : window_Width.f a0 = some w) (hw : w = 1 ∨ w = 300 ∨ w = 3600) (h0 : 0 ≤ x) (h1 : x < 4611686018427387904) : window_Start.f a0 x = some (x / w * w) := by
  unfold window_Start.f
  rw [hf]
  simp only [Option.bind_some]
  rw [if_neg (by omega), if_neg (by omega), (cut_at hw h0 h1).1]

theorem of_zero {a0 w x : Int} (hf : window_Width.f a0 = some w) (h : w = 0 ∨ x < 0) (k : Nat) : window_Of.f (k + 1) a0 x = some (0, 0) := by
  unfold window_Of.f
  rw [hf]
  simp only [Option.bind_some, window_Of.j0]
  by_cases h0 : w = 0
  · rw [if_pos h0]; simp
  · rw [if_neg h0, if_pos (show x < 0 by omega)]; simp

theorem of_pos {a0 w x : Int} (hf : window_Width.f a0 = some w) (hw : w = 1 ∨ w = 300 ∨ w = 3600) (h0 : 0 ≤ x) (h1 : x < 4611686018427387904) (k : Nat) :
    window_Of.f (k + 1) a0 x = some (x / w * w, x / w * w + w) := by
  have hc := cut_at hw h0 h1
  unfold window_Of.f
  rw [hf]
  simp only [Option.bind_some, window_Of.j0]
  rw [if_neg (by omega), if_neg (by omega), if_neg (by simp; omega), start_pos hf hw h0 h1]
  simp only [Option.bind_some]
  unfold window_end.f
  rw [if_neg (by omega), hc.2.2.2.1]
  rfl

theorem lives_is : catacomblaw13_lives.f 20 = some true := by decide +kernel

theorem lives_ok (k : Nat) (hk : 20 ≤ k) : catacomblaw13_lives.f k = some true := at_rounds catacomblaw13_lives.mono hk lives_is

end WindowOfPure
open WindowOfPure

theorem WindowOf : catacomblaw13_WindowOf.Pure := by
  intro a0 x now _ _ _
  refine ⟨32, ?_⟩
  unfold catacomblaw13_WindowOf.f
  rw [lives_ok _ (by omega)]
  simp only [Option.bind_some, if_true]
  rw [show (32 : Nat) = 31 + 1 from rfl]
  simp only [catacomblaw13_WindowOf.j0]
  by_cases hx : x ≥ 4611686018427387904
  · rw [if_pos (decide_eq_true hx), lives_ok _ (by omega)]; rfl
  · rw [if_neg (by simpa using hx)]
    obtain ⟨w, hf, hg, hw⟩ := width_is a0
    rw [hf, hg]
    simp only [Option.bind_some]
    rw [show (31 : Nat) = 30 + 1 from rfl]
    by_cases hz : w = 0 ∨ x < 0
    · rw [of_zero hf hz, start_zero hf hz]
      simp only [Option.bind_some]
      rw [if_pos trivial]
      have hcl : window_Closed.f 30 a0 x now = some false := by
        unfold window_Closed.f
        rw [show (30 : Nat) = 29 + 1 from rfl, of_zero hf hz]
        rfl
      by_cases h0 : w = 0
      · rw [if_pos h0]
        simp only [catacomblaw13_WindowOf.j1, hcl]
        simp
      · have h1 : x < 0 := by omega
        rw [if_neg h0, decide_eq_true h1]
        simp only [catacomblaw13_WindowOf.j1, hcl]
        simp
    · have hw' : w = 1 ∨ w = 300 ∨ w = 3600 := by omega
      have h0 : 0 ≤ x := by omega
      have h1 : x < 4611686018427387904 := by omega
      have hc := cut_at hw' h0 h1
      rw [of_pos hf hw' h0 h1, start_pos hf hw' h0 h1]
      simp only [Option.bind_some]
      rw [if_pos trivial, if_neg (by omega), decide_eq_false (show ¬ x < 0 by omega)]
      have hcl : window_Closed.f 30 a0 x now = some (decide (x / w * w + w ≤ now)) := by
        unfold window_Closed.f
        rw [show (30 : Nat) = 29 + 1 from rfl, of_pos hf hw' h0 h1]
        simp only [Option.bind_some]
        rw [if_pos (by omega)]
      simp only [catacomblaw13_WindowOf.j1, hcl]
      rw [hc.2.2.2.2.2, hc.2.2.2.1]
      have hne : ¬ (w = 0) := by omega
      simp [hne]

end Go.Proofs.Ytafcogdplhljmaa.Pure
