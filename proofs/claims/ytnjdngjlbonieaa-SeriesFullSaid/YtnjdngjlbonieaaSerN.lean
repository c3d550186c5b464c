/- catacomblaw14.lives, walked. -/
import Derived.Test.YtnjdngjlbonieaaSerM
import Derived.Lib.Hide
import Derived.LoopTactic
import Derived.Outline
import Derived.Laws.Rows
import Derived.Laws.CopyOwn
import Derived.WalkKit
set_option linter.unusedVariables false
set_option linter.unusedSimpArgs false
namespace Go.Proofs.Ytnjdngjlbonieaa
open Go.RowKit Go.Proofs.YtnjdngjlbonieaaW.PrintWords Go.Proofs.YtnjdngjlbonieaaW.PrintLast Go.Proofs.YtnjdngjlbonieaaW.PrintMore
open Go.Proofs.Ytnjdngjlbonieaa.PRollWindows
attribute [local go_sem] max2_int min2_int max_two min_two max_three min_three max_four min_four

open RollOfPure
theorem putS_lives : putS [] [⟨5, 1⟩, ⟨3, 0⟩, ⟨5, 2⟩] = ([⟨3, 0⟩, ⟨5, 2⟩], 2, 0) := rfl
theorem inR_lives : inR 0 9 [⟨3, 0⟩, ⟨5, 2⟩] = [⟨3, 0⟩, ⟨5, 2⟩] := rfl
theorem lit_C (w : World) (l : List S29) (hl : l.length ≤ 1000) : Kd.C k29 (w.alloc (.cells (l.flatMap cellsP).toArray 29)) (some ⟨w.heap.size, 0, none⟩) l.length l := by
  have h := World.ownsRow_lit (base := 0) (size := 2) (e := 29) w (l.flatMap cellsP).toArray l.length (Nat.zero_le _) (by unfold maxLen; omega) (by rw [List.size_toArray]; exact flat_len l)
  exact (kdC_of (by simpa using h) hl).1
set_option maxRecDepth 100000 in
set_option maxHeartbeats 8000000 in
theorem lives14_calls (w : World) : Calls Try.prog 17 #[] w fun e w' => e = .returned (.bool true) ∧ Below w.heap.size w w' := by
  have hu29 := Try.underlying29
  have hu22 := Try.underlying22
  have hu42 := Try.underlying42
  go_enter Try.func17, Try.ntmps17
  go_wp2_with fail
  refine (new_calls _).mono ?_
  rintro e w1 ⟨rfl, hs, hb, hz⟩
  have HS := Aside0.mk hs
  have HB1 := Aside0.mk hb
  have HZ1 := Aside0.mk hz
  clear hs hb hz
  have HPUT : Aside0 (Calls Try.prog 19 #[.pointer (some ⟨w.heap.size, 0, none⟩), .slice (some ⟨w1.heap.size, 0, none⟩) 3 3] (w1.alloc (.cells #[.int .i64 5, .int .i64 1, .int .i64 3, .int .i64 0, .int .i64 5, .int .i64 2] 29)) (PutPost (fun b => b = w.heap.size) w.heap.size [] [⟨5, 1⟩, ⟨3, 0⟩, ⟨5, 2⟩] (w1.alloc (.cells #[.int .i64 5, .int .i64 1, .int .i64 3, .int .i64 0, .int .i64 5, .int .i64 2] 29)))) :=
    ⟨put_calls (fun b => b = w.heap.size) w.heap.size [] [⟨5, 1⟩, ⟨3, 0⟩, ⟨5, 2⟩] (some ⟨w1.heap.size, 0, none⟩) 3 _ (HS.out.below ((Below.refl _ _).alloc (Nat.le_refl _) _)) (lit_C w1 [⟨5, 1⟩, ⟨3, 0⟩, ⟨5, 2⟩] (by decide)) (by decide)⟩
  have HBW := Aside0.mk (HB1.out.alloc HB1.out.size (.cells #[.int .i64 5, .int .i64 1, .int .i64 3, .int .i64 0, .int .i64 5, .int .i64 2] 29))
  clear HS HB1
  go_wp2_with fail
  refine HPUT.out.mono ?_
  rintro e w2 ⟨rfl, hs, hk⟩
  rw [putS_lives] at hs ⊢
  have HG := Aside0.mk (get_ser _ _ _ 0 9 w2 hs)
  rw [inR_lives] at HG
  have HB2 := Aside0.mk (Keep.below_trans HBW.out hk (fun b _ hb => by rw [hb]; exact Nat.le_refl _) (Nat.le_refl _))
  clear hs hk HPUT HBW
  go_wp2_with fail
  refine HG.out.mono ?_
  rintro e w3 ⟨v, rfl, ho, h3⟩
  obtain ⟨g, ca, cur, hv, _⟩ := row_pos ho (by decide)
  subst hv
  have u0 : w3.cell? ⟨g, 0, none⟩ = some (.int .i64 3) := ho.cellAt 0 (by decide)
  have u1 : w3.cell? ⟨g, 2, none⟩ = some (.int .i64 5) := ho.cellAt 2 (by decide)
  have u2 : w3.cell? ⟨g, 3, none⟩ = some (.int .i64 2) := ho.cellAt 3 (by decide)
  have HB3 := Aside0.mk (HB2.out.trans (h3.mono HB2.out.size))
  clear ho h3 HG HB2
  go_wp2
  go_ret
  exact ⟨rfl, HB3.out⟩
end Go.Proofs.Ytnjdngjlbonieaa
