/- nums.Width by hand, in the form in which the print states its functions. -/
import Derived.Test.YtbfjfplhgdnipaaWidth
namespace Go.Proofs.Ytbfjfplhgdnipaa
open Go.RowKit Go.Proofs.YtbfjfplhgdnipaaW.PrintWords Go.Proofs.YtbfjfplhgdnipaaW.PrintLast Go.Proofs.YtbfjfplhgdnipaaW.PrintMore
def nums_Width.f (a0 : Int) : Option Int := if 0 ≤ a0 ∧ a0 < 18446744073709551616 then some ((wst a0 6).2 + (wst a0 6).1) else none
theorem nums_Width.calls (a0 : Int) (r : Int) (w : World) (h : nums_Width.f a0 = some r) :
    Calls Try.prog 12 #[.int .u64 a0] w fun e w' => e = .returned (.int .i64 r) ∧ Drawn0 w w' := by
  unfold nums_Width.f at h
  by_cases hb : 0 ≤ a0 ∧ a0 < 18446744073709551616
  · rw [if_pos hb] at h
    obtain rfl := Option.some.inj h
    refine (width_calls a0 hb.1 hb.2 w).mono ?_
    rintro e w' ⟨rfl, rfl⟩
    exact ⟨rfl, Drawn0.refl _⟩
  · rw [if_neg hb] at h
    cases h
end Go.Proofs.Ytbfjfplhgdnipaa
