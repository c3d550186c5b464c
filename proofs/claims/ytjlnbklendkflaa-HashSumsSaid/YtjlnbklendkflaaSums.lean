/- The laws HashSums and HashLengths, walked. -/
import Derived.Test.YtjlnbklendkflaaRefB
import Derived.Lib.Hide
import Derived.LoopTactic
import Derived.Outline
import Derived.Laws.Rows
import Derived.Laws.CopyOwn
import Derived.WalkKit
set_option linter.unusedVariables false
set_option linter.unusedSimpArgs false
namespace Go.Proofs.Ytjlnbklendkflaa
open Go.RowKit Go.Proofs.YtjlnbklendkflaaW.PrintWords Go.Proofs.YtjlnbklendkflaaW.PrintLast Go.Proofs.YtjlnbklendkflaaW.PrintMore
open Go.Proofs.Ytjlnbklendkflaa.PHashSums


set_option maxRecDepth 100000 in
set_option maxHeartbeats 8000000 in
theorem hashsums_calls (A : Option Addr) (c : Nat) (b : List Int) (w : World) (h : SrcB w (.slice A b.length c) b) (hm : b.length ≤ 9223372036854775807) (hr : ∀ x ∈ b, 0 ≤ x ∧ x ≤ 255) :
    Calls Try.prog 3 #[.slice A b.length c] w fun e w' => e = .returned (.bool true) ∧ Below w.heap.size w w' := by
  by_cases hl : b.length ≤ 400
  · have HS := Aside0.mk h
    have hc1 := fun W (hs : SrcB W (.slice A b.length c) b) => hsum_calls (.slice A b.length c) b W hs (by omega)
    have hc2 := fun W (hs : SrcB W (.slice A b.length c) b) => ref_calls A c b W hs (by omega) hr
    obtain ⟨ds, hds⟩ : ∃ ds, ds = digest b := ⟨_, rfl⟩
    have heq := fun W => eql25 ds (by rw [hds]; exact digest_length _) W
    rw [← hds] at hc1 hc2
    have HC1 := Lib.hid hc1
    have HC2 := Lib.hid hc2
    have d1 : decide (400 < (b.length : Int)) = false := decide_eq_false (by omega)
    clear h hr hc1 hc2 hds
    go_enter Try.func3, Try.ntmps3
    go_wp2_with fail
    refine (lives5_calls _).mono ?_
    rintro e w1 ⟨rfl, h1⟩
    have H1 := Aside0.mk h1
    clear h1
    go_wp2_with fail
    refine (HC1.out _ (HS.out.below H1.out)).mono ?_
    rintro e w2 ⟨rfl, h2⟩
    have H2 := Aside0.mk (H1.out.trans (h2.mono H1.out.size))
    clear h2
    go_wp2_with fail
    refine (HC2.out _ (HS.out.below H2.out)).mono ?_
    rintro e w3 ⟨rfl, h3⟩
    have H3 := Aside0.mk (H2.out.trans (h3.mono H2.out.size))
    clear h3
    go_wp2
    go_ret
    exact ⟨rfl, H3.out⟩
  · have d1 : decide (400 < (b.length : Int)) = true := decide_eq_true (by omega)
    clear h hr
    go_enter Try.func3, Try.ntmps3
    go_wp2_with fail
    refine (lives5_calls _).mono ?_
    rintro e w1 ⟨rfl, h1⟩
    have H1 := Aside0.mk h1
    clear h1
    go_wp2_with fail
    refine (lives5_calls _).mono ?_
    rintro e w2 ⟨rfl, h2⟩
    have H2 := Aside0.mk (H1.out.trans (h2.mono H1.out.size))
    clear h2
    go_wp2
    go_ret
    exact ⟨rfl, H2.out⟩
theorem hashSums_walk (A0 : Option Addr) (len0 cap0 : Nat) (l0 : List Int) (W : World)
    (hr0 : ReadsRow (fun (p : Int) c => c = [.int .u8 p]) 1 W A0 len0 l0) (hc0 : len0 ≤ cap0) (hq0 : ∀ x ∈ l0, (Lit.int .u8 x).wf = true) :
    Calls Try.prog 3 #[.slice A0 len0 cap0] W fun e w' => e = .returned (.bool true) ∧ Below W.heap.size W w' := by
  have e0 := hr0.1
  subst e0
  exact hashsums_calls A0 cap0 l0 W (src_of (ints_of_row hr0)) hr0.2.1 (fun x hx => wf_u8 (hq0 x hx))
end Go.Proofs.Ytjlnbklendkflaa
