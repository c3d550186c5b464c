/- chunk.Merge and slices.Clip of points, walked. -/
import Derived.Test.YtfanomllfgoakaaPacks
set_option linter.unusedVariables false
set_option linter.unusedSimpArgs false
namespace Go.Proofs.Ytfanomllfgoakaa
open Go.RowKit Go.Proofs.YtfanomllfgoakaaW.PrintWords Go.Proofs.YtfanomllfgoakaaW.PrintLast Go.Proofs.YtfanomllfgoakaaW.PrintMore
open Go.Proofs.Ytfanomllfgoakaa.BitsMath Go.Proofs.Ytfanomllfgoakaa.ChunkMath

set_option maxHeartbeats 1000000 in
theorem clip_calls (base : Nat) (v : Value) (l : List Pt) (w : World) (h : w.ownsRow base 68 2 v l.length (rowP l)) :
    Calls Try.prog 45 #[v] w fun e w' => ∃ u, e = .returned u ∧ SrcP w u l ∧ w = w' := by
  have HS := Aside0.mk (SrcP.of_row h)
  rcases h.2 with ⟨rfl, h0⟩ | ⟨g, cap, cur, rfl, _, _, hn, hc, _⟩
  · clear h
    go_enter Try.func45, Try.ntmps45
    go_wp2
    go_ret
    exact ⟨_, rfl, .inl ⟨0, rfl, List.eq_nil_of_length_eq_zero h0⟩, rfl⟩
  · clear h
    go_enter Try.func45, Try.ntmps45
    go_wp2
    go_ret
    refine ⟨_, rfl, ?_, rfl⟩
    rcases HS.out with ⟨c, e, _⟩ | ⟨ad, c, e, hcell⟩
    · cases e
    · injection e with e1 e2 e3
      injection e1 with e1
      subst e1
      exact .inr ⟨_, _, rfl, hcell⟩
end Go.Proofs.Ytfanomllfgoakaa
