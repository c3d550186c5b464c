/- The law HashParts, whole. -/
import Derived.Test.YtjlnbklendkflaaHashH
import Derived.Lib.Hide
import Derived.LoopTactic
import Derived.Outline
import Derived.Laws.Rows
import Derived.Laws.CopyOwn
import Derived.WalkKit
set_option linter.unusedVariables false
set_option linter.unusedSimpArgs false
namespace Go.Proofs.Ytjlnbklendkflaa
open Go.RowKit Go.Proofs.YtjlnbklendkflaaW.PrintWords Go.Proofs.YtjlnbklendkflaaW.PrintLast Go.Proofs.YtjlnbklendkflaaW.PrintMore
open Go.Proofs.Ytjlnbklendkflaa.PHashSums


theorem src_of {w : World} {A : Option Addr} {cap : Nat} {l : List Int} (h : ReadsInt w .u8 A l.length l) : SrcB w (.slice A l.length cap) l := by
  rcases A with _ | ad
  · have h0 : l.length = 0 := by
      rcases Nat.eq_zero_or_pos l.length with h0 | h0
      · exact h0
      · obtain ⟨ad, h, _⟩ := h.2.2 h0
        cases h
    exact .inl ⟨cap, by rw [h0], List.eq_nil_of_length_eq_zero h0⟩
  · refine .inr ⟨ad, cap, rfl, fun j x hx => ?_⟩
    have hj := (List.getElem?_eq_some_iff.1 hx).1
    obtain ⟨ad', h', hc⟩ := h.2.2 (by omega)
    injection h' with h'
    subst h'
    have := hc j hj
    rw [this, List.getD_eq_getElem?_getD, hx]
    rfl
set_option maxRecDepth 100000 in
set_option maxHeartbeats 4000000 in
theorem parts_calls (A : Option Addr) (ca : Nat) (b : List Int) (C : Option Addr) (cc : Nat) (cuts : List Int) (w : World) (hb : SrcB w (.slice A b.length ca) b) (hc : SrcB w (.slice C cuts.length cc) cuts)
    (hmb : b.length ≤ 9223372036854775807) (hmc : cuts.length ≤ 9223372036854775807) (hbc : b.length ≤ ca) (hcr : ∀ x ∈ cuts, 0 ≤ x ∧ x ≤ 255) :
    Calls Try.prog 4 #[.slice A b.length ca, .slice C cuts.length cc] w fun e w' => e = .returned (.bool true) ∧ Below w.heap.size w w' := by
  by_cases hlb : b.length ≤ 1000
  · by_cases hlc : cuts.length ≤ 200
    · exact parts_main A ca b C cc cuts w hb hc hlb hlc hbc hcr
    · have d1 : decide (1000 < (b.length : Int)) = false := decide_eq_false (by omega)
      have d2 : decide (200 < (cuts.length : Int)) = true := decide_eq_true (by omega)
      clear hb hc hcr
      go_enter Try.func4, Try.ntmps4
      go_wp2_with fail
      refine (lives5_calls _).mono ?_
      rintro e w1 ⟨rfl, h1⟩
      have H1 := Aside0.mk h1
      clear h1
      go_wp2_with fail
      refine (lives5_calls _).mono ?_
      rintro e w2 ⟨rfl, h2⟩
      have H2 := Aside0.mk (H1.out.trans (h2.mono H1.out.size))
      clear h2
      go_wp2
      go_ret
      exact ⟨rfl, H2.out⟩
  · have d1 : decide (1000 < (b.length : Int)) = true := decide_eq_true (by omega)
    clear hb hc hcr
    go_enter Try.func4, Try.ntmps4
    go_wp2_with fail
    refine (lives5_calls _).mono ?_
    rintro e w1 ⟨rfl, h1⟩
    have H1 := Aside0.mk h1
    clear h1
    go_wp2_with fail
    refine (lives5_calls _).mono ?_
    rintro e w2 ⟨rfl, h2⟩
    have H2 := Aside0.mk (H1.out.trans (h2.mono H1.out.size))
    clear h2
    go_wp2
    go_ret
    exact ⟨rfl, H2.out⟩
theorem wf_u8 {x : Int} (h : (Lit.int .u8 x).wf = true) : 0 ≤ x ∧ x ≤ 255 := by
  simp [Lit.wf, IntKind.min, IntKind.max, IntKind.bits, IntKind.signed] at h
  omega
theorem ints_of_row {k : IntKind} {w : World} {A : Option Addr} {n : Nat} {xs : List Int} (h : ReadsRow (fun (p : Int) c => c = [.int k p]) 1 w A n xs) : ReadsInt w k A n xs := by
  refine ⟨h.1, h.2.1, fun hn => ?_⟩
  obtain ⟨ad, e, hc⟩ := h.2.2 hn
  refine ⟨ad, e, fun j hj => ?_⟩
  have hj' : j < xs.length := by rw [h.1]; exact hj
  obtain ⟨c, _, rfl, hcell⟩ := hc j _ (List.getElem?_eq_getElem hj')
  have := hcell 0 _ rfl
  rw [Nat.mul_one, Nat.add_zero] at this
  rw [this, List.getD_eq_getElem?_getD, List.getElem?_eq_getElem hj']
  rfl
theorem hashParts_walk (A0 : Option Addr) (len0 cap0 : Nat) (l0 : List Int) (A1 : Option Addr) (len1 cap1 : Nat) (l1 : List Int) (W : World)
    (hr0 : ReadsRow (fun (p : Int) c => c = [.int .u8 p]) 1 W A0 len0 l0) (hc0 : len0 ≤ cap0) (hq0 : ∀ x ∈ l0, (Lit.int .u8 x).wf = true) (hr1 : ReadsRow (fun (p : Int) c => c = [.int .u8 p]) 1 W A1 len1 l1) (hc1 : len1 ≤ cap1) (hq1 : ∀ x ∈ l1, (Lit.int .u8 x).wf = true) :
    Calls Try.prog 4 #[.slice A0 len0 cap0, .slice A1 len1 cap1] W fun e w' => e = .returned (.bool true) ∧ Below W.heap.size W w' := by
  have e0 := hr0.1
  have e1 := hr1.1
  subst e0
  subst e1
  exact parts_calls A0 cap0 l0 A1 cap1 l1 W (src_of (ints_of_row hr0)) (src_of (ints_of_row hr1)) hr0.2.1 hr1.2.1 hc0 (fun x hx => wf_u8 (hq1 x hx))
end Go.Proofs.Ytjlnbklendkflaa
