/- hex.Text by hand, in the form in which the print states its functions. -/
import Derived.Test.YtafcogdplhljmaaText
namespace Go.Proofs.Ytafcogdplhljmaa
open Go.RowKit Go.Proofs.YtafcogdplhljmaaW.PrintWords Go.Proofs.YtafcogdplhljmaaW.PrintLast Go.Proofs.YtafcogdplhljmaaW.PrintMore
def byteList (l : List Int) : Bool := l.all fun x => decide (0 ≤ x) && decide (x ≤ 255)
theorem byteList_is {l : List Int} (h : byteList l = true) : ∀ x ∈ l, 0 ≤ x ∧ x ≤ 255 := by
  intro x hx
  have := List.all_eq_true.1 h x hx
  simpa using this
def hex_Text.f (l0 : List Int) : Option ByteArray := if byteList l0 = true ∧ l0.length ≤ 100000 then some (strOfNums (hexL l0)) else none
theorem hex_Text.calls (A0 : Option Addr) (c0 : Nat) (l0 : List Int) (r : ByteArray) (w : World) (hr0 : Kd.C (Kd.int .u8) w A0 l0.length l0) (hc0 : l0.length ≤ c0) (h : hex_Text.f l0 = some r) :
    Calls Try.prog 22 #[.slice A0 l0.length c0] w fun e w' => e = .returned (.string r) ∧ Below w.heap.size w w' := by
  unfold hex_Text.f at h
  by_cases hb : byteList l0 = true ∧ l0.length ≤ 100000
  · rw [if_pos hb] at h
    obtain rfl := Option.some.inj h
    exact text_calls l0 A0 c0 w hr0 hc0 (byteList_is hb.1) hb.2
  · rw [if_neg hb] at h
    cases h
end Go.Proofs.Ytafcogdplhljmaa
