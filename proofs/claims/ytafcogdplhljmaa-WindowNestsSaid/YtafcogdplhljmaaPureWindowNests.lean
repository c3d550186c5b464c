/- A tick's Mid window lies in its Long one, whatever tick below 2^62. No condition. -/
import Derived.Test.YtafcogdplhljmaaNests
namespace Go.Proofs.Ytafcogdplhljmaa.Pure
open Go.RowKit Go.Proofs.Ytafcogdplhljmaa.PWindowNests Go.Proofs.YtafcogdplhljmaaW.PrintWords Go.Proofs.YtafcogdplhljmaaW.PrintLast

namespace WindowNestsPure

theorem width_is (a0 : Int) : ∃ w, window_Width.f a0 = some w ∧ (w = 0 ∨ w = 1 ∨ w = 300 ∨ w = 3600) := by
  unfold window_Width.f
  by_cases h0 : a0 = 0
  · exact ⟨1, by rw [if_pos h0], by omega⟩
  · by_cases h1 : a0 = 1
    · exact ⟨300, by rw [if_neg h0, if_pos h1], by omega⟩
    · by_cases h2 : a0 = 2
      · exact ⟨3600, by rw [if_neg h0, if_neg h1, if_pos h2], by omega⟩
      · exact ⟨0, by rw [if_neg h0, if_neg h1, if_neg h2], by omega⟩

theorem cut_at {x w : Int} (hw : w = 1 ∨ w = 300 ∨ w = 3600) (h0 : 0 ≤ x) (h1 : x < 4611686018427387904) :
    wrap64 (x - Int.tmod x w) = x / w * w ∧ 0 ≤ x / w * w ∧ x / w * w ≤ x ∧ wrap64 (x / w * w + w) = x / w * w + w ∧ x < x / w * w + w ∧ wrap64 (wrap64 (Int.tdiv x w) * w) = x / w * w := by
  rw [Int.tmod_eq_emod_of_nonneg h0, Int.tdiv_eq_ediv_of_nonneg h0]
  unfold wrap64
  rcases hw with rfl | rfl | rfl <;> omega

theorem start_zero {a0 w x : Int} (hf : window_Width.f a0 = some w) (h : w = 0 ∨ x < 0) : window_Start.f a0 x = some 0 := by
  unfold window_Start.f
  rw [hf]
  simp only [Option.bind_some]
  by_cases h0 : w = 0
  · rw [if_pos h0]
  · rw [if_neg h0, if_pos (by omega)]

theorem start_pos {a0 w x : Int} (hf : window_Width.f a0 = some w) (hw : w = 1 ∨ w = 300 ∨ w = 3600) (h0 : 0 ≤ x) (h1 : x < 4611686018427387904) : window_Start.f a0 x = some (x / w * w) := by
  unfold window_Start.f
  rw [hf]
  simp only [Option.bind_some]
  rw [if_neg (by omega), if_neg (by omega), (cut_at hw h0 h1).1]

theorem of_zero {a0 w x : Int} (hf : window_Width.f a0 = some w) (h : w = 0 ∨ x < 0) (k : Nat) : window_Of.f (k + 1) a0 x = some (0, 0) := by
  unfold window_Of.f
  rw [hf]
  simp only [Option.bind_some, window_Of.j0]
  by_cases h0 : w = 0
  · rw [if_pos h0]; simp
  · rw [if_neg h0, if_pos (show x < 0 by omega)]; simp

theorem of_pos {a0 w x : Int} (hf : window_Width.f a0 = some w) (hw : w = 1 ∨ w = 300 ∨ w = 3600) (h0 : 0 ≤ x) (h1 : x < 4611686018427387904) (k : Nat) :
    window_Of.f (k + 1) a0 x = some (x / w * w, x / w * w + w) := by
  have hc := cut_at hw h0 h1
  unfold window_Of.f
  rw [hf]
  simp only [Option.bind_some, window_Of.j0]
  rw [if_neg (by omega), if_neg (by omega), if_neg (by simp; omega), start_pos hf hw h0 h1]
  simp only [Option.bind_some]
  unfold window_end.f
  rw [if_neg (by omega), hc.2.2.2.1]
  rfl

theorem lives_is : catacomblaw13_lives.f 20 = some true := by decide +kernel

theorem w0 : window_Width.f 0 = some 1 := rfl
theorem w1 : window_Width.f 1 = some 300 := rfl
theorem w2 : window_Width.f 2 = some 3600 := rfl
theorem both_is {m l : Int} (h : l ≤ m ∧ m + 300 ≤ l + 3600) : window_Both.f m (m + 300) l (l + 3600) = some (m, m + 300, true) := by
  unfold window_Both.f
  have e1 : mx m l = m := by unfold mx; split <;> omega
  have e2 : mn (m + 300) (l + 3600) = m + 300 := by unfold mn; split <;> omega
  rw [e1, e2, if_neg (by omega)]
theorem cut_is {m l : Int} (h : l ≤ m ∧ m + 300 ≤ l + 3600) : window_Cut.f m (m + 300) l (l + 3600) = some [] := by
  unfold window_Cut.f
  rw [both_is h, if_neg (by omega)]
  simp only [Option.bind_some]
  rw [if_pos trivial, if_neg (by omega), if_neg (by omega)]

end WindowNestsPure
open WindowNestsPure

theorem WindowNestsWalk.walk (t : Int) (W : World) (_ : (Lit.int .i64 t).wf = true) :
    Calls Try.prog 11 #[.int .i64 t] W fun e w' => e = .returned (.bool true) ∧ Below W.heap.size W w' := by
  by_cases h : t < 0 ∨ 4611686018427387904 ≤ t
  · exact out_calls 20 t W h lives_is
  · refine law_calls 20 t (t / 300 * 300) (t / 3600 * 3600) W (by omega) (by omega) lives_is ?_ ?_ ?_ (by omega) (both_is (by omega)) (cut_is (by omega))
    · have := of_pos w0 (Or.inl rfl) (show 0 ≤ t by omega) (show t < 4611686018427387904 by omega) 19
      simpa using this
    · exact of_pos w1 (Or.inr (Or.inl rfl)) (show 0 ≤ t by omega) (show t < 4611686018427387904 by omega) 19
    · exact of_pos w2 (Or.inr (Or.inr rfl)) (show 0 ≤ t by omega) (show t < 4611686018427387904 by omega) 19

end Go.Proofs.Ytafcogdplhljmaa.Pure
