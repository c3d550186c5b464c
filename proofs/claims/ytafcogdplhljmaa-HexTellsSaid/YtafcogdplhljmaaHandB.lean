/- The statements' own Signs by hand, in the form in which the print states its functions. -/
import Derived.Test.YtafcogdplhljmaaHand
import Derived.Test.YtafcogdplhljmaaSigns
namespace Go.Proofs.Ytafcogdplhljmaa
open Go.RowKit Go.Proofs.YtafcogdplhljmaaW.PrintWords Go.Proofs.YtafcogdplhljmaaW.PrintLast Go.Proofs.YtafcogdplhljmaaW.PrintMore
def catacomblaw07_Signs.f (l0 : List Int) : Option ByteArray := if byteList l0 = true ∧ l0.length ≤ 100000 then some (strOfNums (hexL l0)) else none
theorem catacomblaw07_Signs.calls (A0 : Option Addr) (c0 : Nat) (l0 : List Int) (r : ByteArray) (w : World) (hr0 : Kd.C (Kd.int .u8) w A0 l0.length l0) (hc0 : l0.length ≤ c0) (h : catacomblaw07_Signs.f l0 = some r) :
    Calls Try.prog 24 #[.slice A0 l0.length c0] w fun e w' => e = .returned (.string r) ∧ Below w.heap.size w w' := by
  unfold catacomblaw07_Signs.f at h
  by_cases hb : byteList l0 = true ∧ l0.length ≤ 100000
  · rw [if_pos hb] at h
    obtain rfl := Option.some.inj h
    exact (signs_calls l0 A0 c0 w hr0 hc0 (byteList_is hb.1) hb.2).mono fun _ _ h => ⟨h.1, h.2.below⟩
  · rw [if_neg hb] at h
    cases h
end Go.Proofs.Ytafcogdplhljmaa
