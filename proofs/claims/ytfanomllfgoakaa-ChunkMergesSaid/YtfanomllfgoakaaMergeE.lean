/- The law ChunkMerges, whole. -/
import Derived.Test.YtfanomllfgoakaaMergeD
set_option linter.unusedVariables false
set_option linter.unusedSimpArgs false
namespace Go.Proofs.Ytfanomllfgoakaa
open Go.RowKit Go.Proofs.YtfanomllfgoakaaW.PrintWords Go.Proofs.YtfanomllfgoakaaW.PrintLast Go.Proofs.YtfanomllfgoakaaW.PrintMore
open Go.Proofs.Ytfanomllfgoakaa.BitsMath Go.Proofs.Ytfanomllfgoakaa.ChunkMath Go.Proofs.Ytfanomllfgoakaa.MergeMath

set_option maxRecDepth 100000 in
set_option maxHeartbeats 4000000 in
theorem merges_calls (A : Option Addr) (ca : Nat) (C : Option Addr) (cb : Nat) (a b : List Pt) (w : World) (ha : SrcP w (.slice A a.length ca) a) (hb : SrcP w (.slice C b.length cb) b) (hma : a.length ≤ 9223372036854775807) (hmb : b.length ≤ 9223372036854775807)
    (ia : ∀ x ∈ a, I64 x.v) (ib : ∀ x ∈ b, I64 x.v) :
    Calls Try.prog 10 #[.slice A a.length ca, .slice C b.length cb] w fun e w' => e = .returned (.bool true) ∧ Below w.heap.size w w' := by
  by_cases hla : a.length ≤ 40
  · by_cases hlb : b.length ≤ 40
    · by_cases ta : tell a = 0
      · by_cases tb : tell b = 0
        · have za := tell_zero ta
          have zb := tell_zero tb
          exact merges_main A ca C cb a b w ha hb hla hlb (fun x hx => ⟨(za.1 x hx).1, (za.1 x hx).2, ia x hx⟩) (fun x hx => ⟨(zb.1 x hx).1, (zb.1 x hx).2, ib x hx⟩) za.2 zb.2
        · have HA := Aside0.mk ha
          have HB := Aside0.mk hb
          have TA := Aside0.mk ta
          obtain ⟨t, hT⟩ : ∃ t, t = tell b := ⟨_, rfl⟩
          have HT := Aside0.mk hT
          rw [← hT] at tb
          have dn : ((t : Int) != 0) = true := by simp; exact tb
          have d40a : decide (40 < (a.length : Int)) = false := decide_eq_false (by omega)
          have d40b : decide (40 < (b.length : Int)) = false := decide_eq_false (by omega)
          clear ha hb ia ib ta hT tb
          go_enter Try.func10, Try.ntmps10
          go_wp2_with fail
          refine (lives4_calls _).mono ?_
          rintro e w1 ⟨rfl, h1⟩
          have H1 := Aside0.mk h1
          have hc2 := rightL_calls _ a w1 (HA.out.below h1) (by omega)
          rw [TA.out, show ((0 : Nat) : Int) = 0 from rfl] at hc2
          have HC2 := Lib.hid hc2
          clear h1 hc2
          go_wp2_with fail
          refine HC2.out.mono ?_
          rintro e w2 ⟨rfl, h2⟩
          have H2 := Aside0.mk (H1.out.trans (h2.mono H1.out.size))
          have hc3 := rightL_calls _ b w2 (HB.out.below H2.out) (by omega)
          rw [← HT.out] at hc3
          have HC3 := Lib.hid hc3
          clear h2 hc3
          go_wp2_with fail
          refine HC3.out.mono ?_
          rintro e w3 ⟨rfl, h3⟩
          have H3 := Aside0.mk (H2.out.trans (h3.mono H2.out.size))
          clear h3 HC3 HC2
          go_wp2_with fail
          refine (lives4_calls _).mono ?_
          rintro e w4 ⟨rfl, h4⟩
          have H4 := Aside0.mk (H3.out.trans (h4.mono H3.out.size))
          clear h4
          go_wp2
          go_ret
          exact ⟨rfl, H4.out⟩
      · have HA := Aside0.mk ha
        obtain ⟨t, hT⟩ : ∃ t, t = tell a := ⟨_, rfl⟩
        have HT := Aside0.mk hT
        rw [← hT] at ta
        have dn : ((t : Int) != 0) = true := by simp; exact ta
        have d40a : decide (40 < (a.length : Int)) = false := decide_eq_false (by omega)
        have d40b : decide (40 < (b.length : Int)) = false := decide_eq_false (by omega)
        clear ha hb ia ib ta hT
        go_enter Try.func10, Try.ntmps10
        go_wp2_with fail
        refine (lives4_calls _).mono ?_
        rintro e w1 ⟨rfl, h1⟩
        have H1 := Aside0.mk h1
        have hc2 := rightL_calls _ a w1 (HA.out.below h1) (by omega)
        rw [← HT.out] at hc2
        have HC2 := Lib.hid hc2
        clear h1 hc2
        go_wp2_with fail
        refine HC2.out.mono ?_
        rintro e w2 ⟨rfl, h2⟩
        have H2 := Aside0.mk (H1.out.trans (h2.mono H1.out.size))
        clear h2 HC2
        go_wp2_with fail
        refine (lives4_calls _).mono ?_
        rintro e w4 ⟨rfl, h4⟩
        have H4 := Aside0.mk (H2.out.trans (h4.mono H2.out.size))
        clear h4
        go_wp2
        go_ret
        exact ⟨rfl, H4.out⟩
    · have d40a : decide (40 < (a.length : Int)) = false := decide_eq_false (by omega)
      have d40b : decide (40 < (b.length : Int)) = true := decide_eq_true (by omega)
      clear ha hb ia ib
      go_enter Try.func10, Try.ntmps10
      go_wp2_with fail
      refine (lives4_calls _).mono ?_
      rintro e w1 ⟨rfl, h1⟩
      have H1 := Aside0.mk h1
      clear h1
      go_wp2_with fail
      refine (lives4_calls _).mono ?_
      rintro e w4 ⟨rfl, h4⟩
      have H4 := Aside0.mk (H1.out.trans (h4.mono H1.out.size))
      clear h4
      go_wp2
      go_ret
      exact ⟨rfl, H4.out⟩
  · have d40a : decide (40 < (a.length : Int)) = true := decide_eq_true (by omega)
    clear ha hb ia ib
    go_enter Try.func10, Try.ntmps10
    go_wp2_with fail
    refine (lives4_calls _).mono ?_
    rintro e w1 ⟨rfl, h1⟩
    have H1 := Aside0.mk h1
    clear h1
    go_wp2_with fail
    refine (lives4_calls _).mono ?_
    rintro e w4 ⟨rfl, h4⟩
    have H4 := Aside0.mk (H1.out.trans (h4.mono H1.out.size))
    clear h4
    go_wp2
    go_ret
    exact ⟨rfl, H4.out⟩
theorem chunkMerges_walk (A0 : Option Addr) (len0 cap0 : Nat) (l0 : List ChunkMath.Pt) (A1 : Option Addr) (len1 cap1 : Nat) (l1 : List ChunkMath.Pt) (W : World)
    (hr0 : ReadsRow (fun (p : ChunkMath.Pt) c => c = [.int .i64 p.f0, .int .i64 p.f1]) 2 W A0 len0 l0) (_ : len0 ≤ cap0) (hq0 : ∀ p ∈ l0, (Lit.int .i64 p.f0).wf = true ∧ (Lit.int .i64 p.f1).wf = true)
    (hr1 : ReadsRow (fun (p : ChunkMath.Pt) c => c = [.int .i64 p.f0, .int .i64 p.f1]) 2 W A1 len1 l1) (_ : len1 ≤ cap1) (hq1 : ∀ p ∈ l1, (Lit.int .i64 p.f0).wf = true ∧ (Lit.int .i64 p.f1).wf = true) :
    Calls Try.prog 10 #[.slice A0 len0 cap0, .slice A1 len1 cap1] W fun e w' => e = .returned (.bool true) ∧ Below W.heap.size W w' := by
  have e0 := hr0.1
  have e1 := hr1.1
  subst e0
  subst e1
  exact merges_calls A0 cap0 A1 cap1 l0 l1 W (SrcP.of_reads hr0) (SrcP.of_reads hr1) hr0.2.1 hr1.2.1 (fun x hx => wf_i64 (hq0 x hx).2) (fun x hx => wf_i64 (hq1 x hx).2)
end Go.Proofs.Ytfanomllfgoakaa
