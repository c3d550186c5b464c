/- The law QuotaApart, whole. -/
import Derived.Test.YtdbhejckpkifoaaQuotK
import Derived.Lib.Hide
import Derived.LoopTactic
import Derived.Outline
import Derived.Laws.Rows
import Derived.Laws.CopyOwn
import Derived.WalkKit
set_option linter.unusedVariables false
set_option linter.unusedSimpArgs false
namespace Go.Proofs.Ytdbhejckpkifoaa
open Go.RowKit Go.Proofs.YtdbhejckpkifoaaW.PrintWords Go.Proofs.YtdbhejckpkifoaaW.PrintLast Go.Proofs.YtdbhejckpkifoaaW.PrintMore
open Go.Proofs.Ytdbhejckpkifoaa.PSlotsBack
attribute [local go_sem] max2_int min2_int max_two min_two max_three min_three max_four min_four

set_option maxRecDepth 100000 in
set_option maxHeartbeats 8000000 in
theorem apart_wide (A : Option Addr) (ca n : Nat) (C : Option Addr) (cc m : Nat) (x y : Int) (w : World) (hl : 60 < n ∨ 60 < m) :
    Calls Try.prog 9 #[.int .i64 x, .int .i64 y, .slice A n ca, .slice C m cc] w fun e w' => e = .returned (.bool true) ∧ Below w.heap.size w w' := by
  by_cases h1 : 60 < n
  · have d1 : decide (60 < (n : Int)) = true := decide_eq_true (by omega)
    go_enter Try.func9, Try.ntmps9
    go_wp2_with fail
    refine (qlives_calls _).mono ?_
    rintro e w1 ⟨rfl, h1⟩
    have H1 := Aside0.mk h1
    clear h1
    go_wp2_with fail
    refine (qlives_calls _).mono ?_
    rintro e w2 ⟨rfl, h2⟩
    have H2 := Aside0.mk (H1.out.trans (h2.mono H1.out.size))
    clear h2
    go_wp2
    go_ret
    exact ⟨rfl, H2.out⟩
  · have d1 : decide (60 < (n : Int)) = false := decide_eq_false (by omega)
    have d2 : decide (60 < (m : Int)) = true := decide_eq_true (by omega)
    go_enter Try.func9, Try.ntmps9
    go_wp2_with fail
    refine (qlives_calls _).mono ?_
    rintro e w1 ⟨rfl, h1⟩
    have H1 := Aside0.mk h1
    clear h1
    go_wp2_with fail
    refine (qlives_calls _).mono ?_
    rintro e w2 ⟨rfl, h2⟩
    have H2 := Aside0.mk (H1.out.trans (h2.mono H1.out.size))
    clear h2
    go_wp2
    go_ret
    exact ⟨rfl, H2.out⟩
theorem quotaApart_walk (a0 a1 : Int) (A2 : Option Addr) (len2 cap2 : Nat) (l2 : List ActQ) (A3 : Option Addr) (len3 cap3 : Nat) (l3 : List ActQ) (W : World) (w0 : (Lit.int .i64 a0).wf = true) (w1 : (Lit.int .i64 a1).wf = true)
    (hr2 : ReadsRow (fun (p : ActQ) c => c = [.int .i64 p.f0, .string p.f1, .int .i64 p.f2, .int .i64 p.f3]) 4 W A2 len2 l2) (hc2 : len2 ≤ cap2)
    (hq2 : ∀ p ∈ l2, (Lit.int .i64 p.f0).wf = true ∧ p.f1.size ≤ maxLen ∧ (Lit.int .i64 p.f2).wf = true ∧ (Lit.int .i64 p.f3).wf = true)
    (hr3 : ReadsRow (fun (p : ActQ) c => c = [.int .i64 p.f0, .string p.f1, .int .i64 p.f2, .int .i64 p.f3]) 4 W A3 len3 l3) (hc3 : len3 ≤ cap3)
    (hq3 : ∀ p ∈ l3, (Lit.int .i64 p.f0).wf = true ∧ p.f1.size ≤ maxLen ∧ (Lit.int .i64 p.f2).wf = true ∧ (Lit.int .i64 p.f3).wf = true) :
    Calls Try.prog 9 #[.int .i64 a0, .int .i64 a1, .slice A2 len2 cap2, .slice A3 len3 cap3] W fun e w' => e = .returned (.bool true) ∧ Below W.heap.size W w' := by
  have e2 := hr2.1
  have e3 := hr3.1
  subst e2
  subst e3
  by_cases hl : 60 < l2.length ∨ 60 < l3.length
  · exact apart_wide A2 cap2 l2.length A3 cap3 l3.length a0 a1 W hl
  · exact apart_main A2 cap2 A3 cap3 l2 l3 a0 a1 W (SrcA.of_reads hr2) (SrcA.of_reads hr3) (by omega) (by omega) (wf_i64 w0) (wf_i64 w1) (fun x hx => ⟨wf_i64 (hq2 x hx).2.2.1, wf_i64 (hq2 x hx).2.2.2⟩) (fun x hx => ⟨wf_i64 (hq3 x hx).2.2.1, wf_i64 (hq3 x hx).2.2.2⟩)
end Go.Proofs.Ytdbhejckpkifoaa
