/- What is cut of a range has each tick that the one has, and the other one hasn't, once, in order; what is told is new memory. No condition. -/
import Derived.Test.YtafcogdplhljmaaCuts
namespace Go.Proofs.Ytafcogdplhljmaa.Pure
open Go.RowKit Go.Proofs.Ytafcogdplhljmaa.PWindowCuts Go.Proofs.YtafcogdplhljmaaW.PrintWords Go.Proofs.YtafcogdplhljmaaW.PrintLast Go.Proofs.YtafcogdplhljmaaW.PrintMore

namespace WindowCutsPure

theorem lives_is : catacomblaw13_lives.f 20 = some true := by decide +kernel
theorem lives_ok (k : Nat) (hk : 20 ≤ k) : catacomblaw13_lives.f k = some true := at_rounds catacomblaw13_lives.mono hk lives_is

theorem w01 : wrap64 (0 + 1) = 1 := by unfold wrap64; omega
theorem w11 : wrap64 (1 + 1) = 2 := by unfold wrap64; omega
theorem w10 : wrap64 (1 - 1) = 0 := by unfold wrap64; omega
theorem w01' : wrap64 1 = 1 := by unfold wrap64; omega
theorem w22 : wrap64 2 = 2 := by unfold wrap64; omega
theorem w00 : wrap64 0 = 0 := by unfold wrap64; omega

/-- What the last loop and the second cut come to. -/
theorem tail (A0 A1 B0 B1 : Int) (L : List S44) (hcut : window_Cut.f A0 A1 B0 B1 = some L) (hL : L = [] ∨ (∃ p, L = [p] ∧ p.f0 < p.f1) ∨ ∃ p q, L = [p, q] ∧ p.f0 < p.f1) (n : Int) (k : Nat) :
    catacomblaw13_WindowCuts.l1 (k + 3) L n n (L.length : Int) 0 A0 A1 B0 B1 = some true := by
  rcases hL with rfl | ⟨p, rfl, hp⟩ | ⟨p, q, rfl, hp⟩
  · simp [catacomblaw13_WindowCuts.l1, hcut]
  · simp [catacomblaw13_WindowCuts.l1, hcut, w01', rd_T44, hp]
  · simp [catacomblaw13_WindowCuts.l1, hcut, w01', w22, rd_T44, hp]

theorem j2_is (A0 A1 B0 B1 : Int) (L : List S44) (hcut : window_Cut.f A0 A1 B0 B1 = some L) (hL : L = [] ∨ (∃ p, L = [p] ∧ p.f0 < p.f1) ∨ ∃ p q, L = [p, q] ∧ p.f0 < p.f1) (n : Int) (b : Bool) (hb : n = if b = true then 1 else 0) (k : Nat) :
    catacomblaw13_WindowCuts.j2 (k + 5) L n 0 b A0 A1 B0 B1 = some true := by
  simp only [catacomblaw13_WindowCuts.j2, catacomblaw13_WindowCuts.j3]
  by_cases h : b = true
  · rw [if_pos h] at hb ⊢
    subst hb
    exact tail A0 A1 B0 B1 L hcut hL 1 k
  · rw [if_neg h] at hb ⊢
    subst hb
    exact tail A0 A1 B0 B1 L hcut hL 0 k

/-- Behind the first loop. -/
theorem ends (A0 A1 B0 B1 x : Int) (L : List S44) (hcut : window_Cut.f A0 A1 B0 B1 = some L) (hL : L = [] ∨ (∃ p, L = [p] ∧ p.f0 < p.f1) ∨ ∃ p q, L = [p, q] ∧ p.f0 < p.f1) (n i : Int) (hi : ¬ i < (L.length : Int))
    (hn : n = if A0 ≤ x ∧ x < A1 ∧ ¬ (B0 ≤ x ∧ x < B1) then 1 else 0) (k : Nat) :
    catacomblaw13_WindowCuts.l0 (k + 6) x L n L (L.length : Int) i A0 A1 B0 B1 = some true := by
  simp only [catacomblaw13_WindowCuts.l0]
  rw [if_neg hi]
  by_cases h1 : A0 ≤ x
  · rw [if_pos h1]
    by_cases h2 : x < A1
    · rw [if_pos h2]
      by_cases h3 : B0 ≤ x
      · rw [if_pos h3]
        refine j2_is A0 A1 B0 B1 L hcut hL n _ ?_ k
        rw [hn]
        by_cases h4 : x < B1 <;> simp [h1, h2, h3, h4]
      · rw [if_neg h3]
        refine j2_is A0 A1 B0 B1 L hcut hL n _ ?_ k
        rw [hn]
        simp [h1, h2, h3]
    · rw [if_neg h2]
      refine j2_is A0 A1 B0 B1 L hcut hL n _ ?_ k
      rw [hn]
      simp [h2]
  · rw [if_neg h1]
    refine j2_is A0 A1 B0 B1 L hcut hL n _ ?_ k
    rw [hn]
    simp [h1]

/-- One round. -/
theorem round (A0 A1 B0 B1 x : Int) (L : List S44) (n i : Int) (hi0 : 0 ≤ i) (hi : i < (L.length : Int)) (hi2 : i < 10) (hr : (rd_T44 L i).f0 < (rd_T44 L i).f1) (hs : 0 < i → (rd_T44 L (i - 1)).f1 ≤ (rd_T44 L i).f0) (k : Nat) :
    catacomblaw13_WindowCuts.l0 (k + 2) x L n L (L.length : Int) i A0 A1 B0 B1 = catacomblaw13_WindowCuts.l0 k x L (if (rd_T44 L i).f0 ≤ x ∧ x < (rd_T44 L i).f1 then wrap64 (n + 1) else n) L (L.length : Int) (i + 1) A0 A1 B0 B1 := by
  have hw : wrap64 (i + 1) = i + 1 := by unfold wrap64; omega
  have hw' : wrap64 (i - 1) = i - 1 := by unfold wrap64; omega
  have key : catacomblaw13_WindowCuts.j1 (k + 1) x L n L (L.length : Int) i false A0 A1 B0 B1 (rd_T44 L i).f0 (rd_T44 L i).f1 = catacomblaw13_WindowCuts.l0 k x L (if (rd_T44 L i).f0 ≤ x ∧ x < (rd_T44 L i).f1 then wrap64 (n + 1) else n) L (L.length : Int) (i + 1) A0 A1 B0 B1 := by
    simp only [catacomblaw13_WindowCuts.j1]
    rw [if_neg (by simp), hw]
    by_cases h1 : (rd_T44 L i).f0 ≤ x
    · rw [if_pos h1]
      by_cases h2 : x < (rd_T44 L i).f1
      · rw [if_pos h2, if_pos ⟨h1, h2⟩]
      · rw [if_neg h2, if_neg (fun h => h2 h.2)]
    · rw [if_neg h1, if_neg (fun h => h1 h.1)]
  rw [← key]
  conv => lhs; unfold catacomblaw13_WindowCuts.l0
  rw [if_pos hi, if_pos hi0, if_pos hi, if_neg (by omega)]
  by_cases hp : i > 0
  · rw [if_pos hp, hw', if_pos (by omega), if_pos (by omega)]
    have : decide ((rd_T44 L (i - 1)).f1 > (rd_T44 L i).f0) = false := decide_eq_false (by have := hs (by omega); omega)
    rw [this]
  · rw [if_neg hp]

theorem law (A0 A1 B0 B1 x : Int) : catacomblaw13_WindowCuts.f 40 A0 A1 B0 B1 x = some true := by
  unfold catacomblaw13_WindowCuts.f
  rw [lives_ok _ (by omega)]
  simp only [Option.bind_some, if_true]
  have go0 : ∀ hc : window_Cut.f A0 A1 B0 B1 = some [], ¬ (A0 ≤ x ∧ x < A1 ∧ ¬ (B0 ≤ x ∧ x < B1)) → ((window_Cut.f A0 A1 B0 B1).bind fun t138 => (catacomblaw13_WindowCuts.l0 40 x t138 0 t138 (t138.length : Int) 0 A0 A1 B0 B1)) = some true := by
    intro hc hn
    rw [hc]
    simp only [Option.bind_some]
    exact ends A0 A1 B0 B1 x [] hc (.inl rfl) 0 0 (by simp) (by rw [if_neg hn]) 34
  have go1 : ∀ a b : Int, a < b → ∀ hc : window_Cut.f A0 A1 B0 B1 = some [⟨a, b⟩], (a ≤ x ∧ x < b ↔ (A0 ≤ x ∧ x < A1 ∧ ¬ (B0 ≤ x ∧ x < B1))) → ((window_Cut.f A0 A1 B0 B1).bind fun t138 => (catacomblaw13_WindowCuts.l0 40 x t138 0 t138 (t138.length : Int) 0 A0 A1 B0 B1)) = some true := by
    intro a b hab hc hn
    rw [hc]
    simp only [Option.bind_some]
    rw [round A0 A1 B0 B1 x [⟨a, b⟩] 0 0 (by omega) (by simp) (by omega) (by simpa [rd_T44] using hab) (by omega) 38]
    refine ends A0 A1 B0 B1 x [⟨a, b⟩] hc (.inr (.inl ⟨_, rfl, hab⟩)) _ _ (by simp) ?_ 32
    have e : rd_T44 [(⟨a, b⟩ : S44)] 0 = ⟨a, b⟩ := rfl
    rw [e]
    simp only [hn, w01]
  have go2 : ∀ a b c d : Int, a < b → b ≤ c → c < d → ∀ hc : window_Cut.f A0 A1 B0 B1 = some [⟨a, b⟩, ⟨c, d⟩], ((a ≤ x ∧ x < b) ∨ (c ≤ x ∧ x < d) ↔ (A0 ≤ x ∧ x < A1 ∧ ¬ (B0 ≤ x ∧ x < B1))) → ((window_Cut.f A0 A1 B0 B1).bind fun t138 => (catacomblaw13_WindowCuts.l0 40 x t138 0 t138 (t138.length : Int) 0 A0 A1 B0 B1)) = some true := by
    intro a b c d hab hbc hcd hc hn
    rw [hc]
    simp only [Option.bind_some]
    rw [round A0 A1 B0 B1 x [⟨a, b⟩, ⟨c, d⟩] 0 0 (by omega) (by simp) (by omega) (by simpa [rd_T44] using hab) (by omega) 38]
    rw [show (0 : Int) + 1 = 1 from rfl, round A0 A1 B0 B1 x [⟨a, b⟩, ⟨c, d⟩] _ 1 (by omega) (by simp) (by omega) (by simpa [rd_T44] using hcd) (fun _ => by simpa [rd_T44] using hbc) 36]
    refine ends A0 A1 B0 B1 x [⟨a, b⟩, ⟨c, d⟩] hc (.inr (.inr ⟨_, _, rfl, hab⟩)) _ _ (by simp) ?_ 30
    have e : rd_T44 [(⟨a, b⟩ : S44), ⟨c, d⟩] 0 = ⟨a, b⟩ := rfl
    have e' : rd_T44 [(⟨a, b⟩ : S44), ⟨c, d⟩] 1 = ⟨c, d⟩ := rfl
    rw [e, e']
    by_cases h1 : a ≤ x ∧ x < b
    · have h2 : ¬ (c ≤ x ∧ x < d) := by omega
      rw [if_pos h1, if_neg h2, if_pos (hn.1 (.inl h1)), w01']
    · rw [if_neg h1]
      by_cases h2 : c ≤ x ∧ x < d
      · rw [if_pos h2, if_pos (hn.1 (.inr h2)), w01]
      · rw [if_neg h2, if_neg (fun h => by rcases hn.2 h with h | h; exact h1 h; exact h2 h)]
  have hn0 : ([] : List S44).length < 8796093022208 := by simp
  by_cases h0 : A0 ≥ A1
  · exact go0 (by unfold window_Cut.f; rw [if_pos h0]) (by omega)
  · by_cases hb : mx A0 B0 ≥ mn A1 B1
    · have hB : window_Both.f A0 A1 B0 B1 = some (0, 0, false) := by unfold window_Both.f; rw [if_pos hb]
      refine go1 A0 A1 (by omega) (by unfold window_Cut.f; rw [if_neg h0, hB]; simp) ?_
      unfold mx mn at hb
      split at hb <;> split at hb <;> omega
    · have hB : window_Both.f A0 A1 B0 B1 = some (mx A0 B0, mn A1 B1, true) := by unfold window_Both.f; rw [if_neg hb]
      have m1 : mx A0 B0 = A0 ∧ B0 ≤ A0 ∨ mx A0 B0 = B0 ∧ A0 < B0 := by unfold mx; split <;> omega
      have m2 : mn A1 B1 = A1 ∧ A1 ≤ B1 ∨ mn A1 B1 = B1 ∧ B1 < A1 := by unfold mn; split <;> omega
      generalize mx A0 B0 = f at hB hb m1
      generalize mn A1 B1 = t at hB hb m2
      by_cases c1 : A0 < f
      · by_cases c2 : t < A1
        · refine go2 A0 f t A1 c1 (by omega) c2 (by unfold window_Cut.f; rw [if_neg h0, hB]; simp [c1, c2]) (by omega)
        · refine go1 A0 f c1 (by unfold window_Cut.f; rw [if_neg h0, hB]; simp [c1, c2]) (by omega)
      · by_cases c2 : t < A1
        · refine go1 t A1 c2 (by unfold window_Cut.f; rw [if_neg h0, hB]; simp [c1, c2]) (by omega)
        · refine go0 (by unfold window_Cut.f; rw [if_neg h0, hB]; simp [c1, c2]) (by omega)

end WindowCutsPure

theorem WindowCutsWalk.walk (a0_0 a0_1 a1_0 a1_1 a2 : Int) (W : World) (_ : (Lit.int .i64 a0_0).wf = true) (_ : (Lit.int .i64 a0_1).wf = true) (_ : (Lit.int .i64 a1_0).wf = true) (_ : (Lit.int .i64 a1_1).wf = true) (_ : (Lit.int .i64 a2).wf = true) :
    Calls Try.prog 10 #[.agg #[.int .i64 a0_0, .int .i64 a0_1], .agg #[.int .i64 a1_0, .int .i64 a1_1], .int .i64 a2] W fun e w' => e = .returned (.bool true) ∧ Below W.heap.size W w' :=
  catacomblaw13_WindowCuts.calls 40 a0_0 a0_1 a1_0 a1_1 a2 true W (WindowCutsPure.law _ _ _ _ _)

end Go.Proofs.Ytafcogdplhljmaa.Pure
