/- Whether a range is right, has a tick, and meets another one, and what both have in common, is what the law says. No condition. -/
import Derived.Test.YtafcogdplhljmaaRangesC
namespace Go.Proofs.Ytafcogdplhljmaa
open Go.RowKit Go.Proofs.YtafcogdplhljmaaW.PrintWords Go.Proofs.YtafcogdplhljmaaW.PrintLast Go.Proofs.YtafcogdplhljmaaW.PrintMore
open Go.Proofs.Ytafcogdplhljmaa.PWindowRanges
namespace Ranges
theorem lives_is : catacomblaw13_lives.f 20 = some true := by decide +kernel
theorem both_is (a0 a1 b0 b1 m n : Int) (hM : (if a0 < b0 then b0 else a0) = m) (hN : (if b1 < a1 then b1 else a1) = n) : window_Both.f a0 a1 b0 b1 = if m < n then some (m, n, true) else some (0, 0, false) := by
  have e1 : mx a0 b0 = m := by rw [← hM]; unfold mx; split <;> omega
  have e2 : mn a1 b1 = n := by rw [← hN]; unfold mn; split <;> omega
  unfold window_Both.f
  rw [e1, e2]
  by_cases h : m < n
  · rw [if_neg (by omega), if_pos h]
  · rw [if_pos (by omega), if_neg h]
theorem has_both (a0 a1 b0 b1 t m n : Int) (hM : (if a0 < b0 then b0 else a0) = m) (hN : (if b1 < a1 then b1 else a1) = n) : hasB m n t = (hasB a0 a1 t && hasB b0 b1 t) := by
  unfold hasB
  rw [Bool.eq_iff_iff]
  simp only [Bool.and_eq_true, decide_eq_true_eq]
  rw [← hM, ← hN]
  split <;> split <;> omega
theorem ranges_walk (a0 a1 b0 b1 t : Int) (W : World) (_ : (Lit.int .i64 a0).wf = true) (_ : (Lit.int .i64 a1).wf = true) (_ : (Lit.int .i64 b0).wf = true) (_ : (Lit.int .i64 b1).wf = true) (_ : (Lit.int .i64 t).wf = true) :
    Calls Try.prog 13 #[.agg #[.int .i64 a0, .int .i64 a1], .agg #[.int .i64 b0, .int .i64 b1], .int .i64 t] W fun e w' => e = .returned (.bool true) ∧ Below W.heap.size W w' := by
  obtain ⟨m, hM⟩ : ∃ m, (if a0 < b0 then b0 else a0) = m := ⟨_, rfl⟩
  obtain ⟨n, hN⟩ : ∃ n, (if b1 < a1 then b1 else a1) = n := ⟨_, rfl⟩
  have hbo := both_is a0 a1 b0 b1 m n hM hN
  have hhc := has_both a0 a1 b0 b1 t m n hM hN
  obtain ⟨ra, hra⟩ : ∃ r, rightB a0 a1 = r := ⟨_, rfl⟩
  obtain ⟨hb, hhb⟩ : ∃ r, hasB b0 b1 t = r := ⟨_, rfl⟩
  have hmn : m < n ↔ m < a1 ∧ m < b1 ∧ a0 < n ∧ b0 < n := by rw [← hM, ← hN]; split <;> split <;> omega
  by_cases p1 : 0 ≤ a0
  · have c1 : decide (0 ≤ a0) = true := decide_eq_true p1
    by_cases p2 : a0 < a1
    · have c2 : decide (a0 < a1) = true := decide_eq_true p2
      have c3 : decide (a1 ≤ 1099511627777) = ra := by rw [← hra]; unfold rightB; simp [p1, p2]
      by_cases hmn2 : m < n
      · rw [if_pos hmn2] at hbo
        have s1 : decide (m < a1) = true := decide_eq_true (hmn.1 hmn2).1
        have s2 : decide (m < b1) = true := decide_eq_true (hmn.1 hmn2).2.1
        have s3 : decide (m < n) = true := decide_eq_true hmn2
        cases hha : hasB a0 a1 t with
        | true =>
          rw [hha, hhb, Bool.true_and] at hhc
          have ha := true
          exact way_C_t 20 a0 a1 b0 b1 t m n ra ha hb W lives_is (c1 := c1) (c2 := c2) (c3 := c3) (hra := hra) (hha := hha) (hhb := hhb) (hM := hM) (s1 := s1) (s2 := s2) (s3 := s3) (hbo := hbo) (hhc := hhc)
        | false =>
          rw [hha, Bool.false_and] at hhc
          have ha := false
          exact way_C_f 20 a0 a1 b0 b1 t m n ra ha hb W lives_is (c1 := c1) (c2 := c2) (c3 := c3) (hra := hra) (hha := hha) (hhb := hhb) (hM := hM) (s1 := s1) (s2 := s2) (s3 := s3) (hbo := hbo) (hhc := hhc)
      · rw [if_neg hmn2] at hbo
        obtain ⟨ha, hha⟩ : ∃ r, hasB a0 a1 t = r := ⟨_, rfl⟩
        by_cases q1 : m < a1
        · have s1 : decide (m < a1) = true := decide_eq_true q1
          have s2 : decide (m < b1) = false := decide_eq_false (fun q2 => hmn2 (by rw [← hN]; split <;> omega))
          exact way_C_y 20 a0 a1 b0 b1 t m n ra ha hb W lives_is (c1 := c1) (c2 := c2) (c3 := c3) (hra := hra) (hha := hha) (hhb := hhb) (hM := hM) (s1 := s1) (s2 := s2) (hbo := hbo)
        · have s1 : decide (m < a1) = false := decide_eq_false q1
          exact way_C_x 20 a0 a1 b0 b1 t m n ra ha hb W lives_is (c1 := c1) (c2 := c2) (c3 := c3) (hra := hra) (hha := hha) (hhb := hhb) (hM := hM) (s1 := s1) (hbo := hbo)
    · have c2 : decide (a0 < a1) = false := decide_eq_false p2
      have hrf : rightB a0 a1 = false := by unfold rightB; simp [p2]
      rw [hra] at hrf
      subst hrf
      have ra := false
      by_cases hmn2 : m < n
      · rw [if_pos hmn2] at hbo
        have s1 : decide (m < a1) = true := decide_eq_true (hmn.1 hmn2).1
        have s2 : decide (m < b1) = true := decide_eq_true (hmn.1 hmn2).2.1
        have s3 : decide (m < n) = true := decide_eq_true hmn2
        cases hha : hasB a0 a1 t with
        | true =>
          rw [hha, hhb, Bool.true_and] at hhc
          have ha := true
          exact way_B_t 20 a0 a1 b0 b1 t m n ra ha hb W lives_is (c1 := c1) (c2 := c2) (hra := hra) (hha := hha) (hhb := hhb) (hM := hM) (s1 := s1) (s2 := s2) (s3 := s3) (hbo := hbo) (hhc := hhc)
        | false =>
          rw [hha, Bool.false_and] at hhc
          have ha := false
          exact way_B_f 20 a0 a1 b0 b1 t m n ra ha hb W lives_is (c1 := c1) (c2 := c2) (hra := hra) (hha := hha) (hhb := hhb) (hM := hM) (s1 := s1) (s2 := s2) (s3 := s3) (hbo := hbo) (hhc := hhc)
      · rw [if_neg hmn2] at hbo
        obtain ⟨ha, hha⟩ : ∃ r, hasB a0 a1 t = r := ⟨_, rfl⟩
        by_cases q1 : m < a1
        · have s1 : decide (m < a1) = true := decide_eq_true q1
          have s2 : decide (m < b1) = false := decide_eq_false (fun q2 => hmn2 (by rw [← hN]; split <;> omega))
          exact way_B_y 20 a0 a1 b0 b1 t m n ra ha hb W lives_is (c1 := c1) (c2 := c2) (hra := hra) (hha := hha) (hhb := hhb) (hM := hM) (s1 := s1) (s2 := s2) (hbo := hbo)
        · have s1 : decide (m < a1) = false := decide_eq_false q1
          exact way_B_x 20 a0 a1 b0 b1 t m n ra ha hb W lives_is (c1 := c1) (c2 := c2) (hra := hra) (hha := hha) (hhb := hhb) (hM := hM) (s1 := s1) (hbo := hbo)
  · have c1 : decide (0 ≤ a0) = false := decide_eq_false p1
    have hrf : rightB a0 a1 = false := by unfold rightB; simp [p1]
    rw [hra] at hrf
    subst hrf
    have ra := false
    by_cases hmn2 : m < n
    · rw [if_pos hmn2] at hbo
      have s1 : decide (m < a1) = true := decide_eq_true (hmn.1 hmn2).1
      have s2 : decide (m < b1) = true := decide_eq_true (hmn.1 hmn2).2.1
      have s3 : decide (m < n) = true := decide_eq_true hmn2
      cases hha : hasB a0 a1 t with
      | true =>
        rw [hha, hhb, Bool.true_and] at hhc
        have ha := true
        exact way_A_t 20 a0 a1 b0 b1 t m n ra ha hb W lives_is (c1 := c1) (hra := hra) (hha := hha) (hhb := hhb) (hM := hM) (s1 := s1) (s2 := s2) (s3 := s3) (hbo := hbo) (hhc := hhc)
      | false =>
        rw [hha, Bool.false_and] at hhc
        have ha := false
        exact way_A_f 20 a0 a1 b0 b1 t m n ra ha hb W lives_is (c1 := c1) (hra := hra) (hha := hha) (hhb := hhb) (hM := hM) (s1 := s1) (s2 := s2) (s3 := s3) (hbo := hbo) (hhc := hhc)
    · rw [if_neg hmn2] at hbo
      obtain ⟨ha, hha⟩ : ∃ r, hasB a0 a1 t = r := ⟨_, rfl⟩
      by_cases q1 : m < a1
      · have s1 : decide (m < a1) = true := decide_eq_true q1
        have s2 : decide (m < b1) = false := decide_eq_false (fun q2 => hmn2 (by rw [← hN]; split <;> omega))
        exact way_A_y 20 a0 a1 b0 b1 t m n ra ha hb W lives_is (c1 := c1) (hra := hra) (hha := hha) (hhb := hhb) (hM := hM) (s1 := s1) (s2 := s2) (hbo := hbo)
      · have s1 : decide (m < a1) = false := decide_eq_false q1
        exact way_A_x 20 a0 a1 b0 b1 t m n ra ha hb W lives_is (c1 := c1) (hra := hra) (hha := hha) (hhb := hhb) (hM := hM) (s1 := s1) (hbo := hbo)
end Ranges
end Go.Proofs.Ytafcogdplhljmaa
