/- The chunk's example, and what its laws share. -/
import Derived.Test.YtfanomllfgoakaaChunkF
import Derived.Test.YtfanomllfgoakaaLaws1
set_option linter.unusedVariables false
set_option linter.unusedSimpArgs false
namespace Go.Proofs.Ytfanomllfgoakaa
open Go.RowKit Go.Proofs.YtfanomllfgoakaaW.PrintWords Go.Proofs.YtfanomllfgoakaaW.PrintLast Go.Proofs.YtfanomllfgoakaaW.PrintMore
open Go.Proofs.Ytfanomllfgoakaa.BitsMath Go.Proofs.Ytfanomllfgoakaa.ChunkMath

def three : List Pt := [⟨5, 3⟩, ⟨6, 3⟩, ⟨7, 3⟩]
theorem own_zero : (ChunkMath.own 0).length = 7 := by
  unfold ChunkMath.own
  rw [List.length_append, bitsOf_length, bitsOf_length, blen_zero]
theorem three_length : (ChunkMath.bytes three).length = 19 := by
  have e1 : (6 - 5 - 1 : Int).toNat = 0 := by decide
  have e2 : (7 - 6 - 1 : Int).toNat = 0 := by decide
  have e3 : zig (w64 (3 - 3)) = 0 := by decide
  have h : (enc three).length = 149 := by
    unfold enc three
    simp only [encAll, encTail, List.length_append, bitsOf_length, e1, e2, e3, own_zero, List.length_nil]
  unfold ChunkMath.bytes
  rw [pack_length, h]
theorem three_ok : ∀ x ∈ three, okPt x := by
  intro x hx
  simp only [three, List.mem_cons, List.not_mem_nil, or_false] at hx
  rcases hx with rfl | rfl | rfl <;> exact ⟨by decide, by decide, by decide, by decide⟩
theorem three_rises : rises three := ⟨by decide, by decide, trivial⟩
theorem three_src {w : World} {h c : Nat} (hb : w.heap[h]? = some (.cells #[.int .i64 5, .int .i64 3, .int .i64 6, .int .i64 3, .int .i64 7, .int .i64 3] 68 (0, 0))) : SrcP w (.slice (some ⟨h, 0, none⟩) 3 c) three := by
  refine .inr ⟨⟨h, 0, none⟩, c, rfl, fun j x hx => ?_⟩
  match j, hx with
  | 0, hx => cases hx; exact ⟨blk_cell hb 0, blk_cell hb 1⟩
  | 1, hx => cases hx; exact ⟨blk_cell hb 2, blk_cell hb 3⟩
  | 2, hx => cases hx; exact ⟨blk_cell hb 4, blk_cell hb 5⟩
  | n + 3, hx => simp [three] at hx
set_option maxHeartbeats 2000000 in
theorem lives4_calls (w : World) : Calls Try.prog 23 #[] w fun e w' => e = .returned (.bool true) ∧ Below w.heap.size w w' := by
  go_enter Try.func23, Try.ntmps23
  go_wp2_with fail
  refine (cpack_ok (.slice none 0 0) [] w (.inl ⟨0, rfl, rfl⟩) (by simp) (fun x hx => by cases hx) trivial).mono ?_
  rintro e w1 ⟨u, rfl, hr, h1⟩
  have hc : (convert 25 9 u).run Try.prog w1 = .ok (.string ⟨#[0, 0]⟩) w1 := conv_own hr
  have H1 := Aside0.mk h1
  clear hr h1
  go_wp2_with fail
  refine (csize_ok _ three _ (three_src (by first | exact blk_new w1 _ | (trace_state; exact blk_new w1 _))) (by decide) three_ok three_rises).mono ?_
  rw [three_length]
  rintro e w2 ⟨rfl, h2⟩
  have H2 := Aside0.mk h2
  clear h2
  go_wp2
  go_ret
  exact ⟨rfl, (H1.out.alloc H1.out.size _).trans (H2.out.mono (by have := H1.out.size; simp; omega))⟩
end Go.Proofs.Ytfanomllfgoakaa
