/- mac's lives, walked. -/
import Derived.Test.YtjlnbklendkflaaMacE
import Derived.Lib.SmallJoins
import Derived.Lib.Hide
import Derived.LoopTactic
import Derived.Outline
import Derived.Laws.Rows
import Derived.Laws.CopyOwn
import Derived.WalkKit
set_option linter.unusedVariables false
set_option linter.unusedSimpArgs false
namespace Go.Proofs.Ytjlnbklendkflaa
open Go.RowKit Go.Proofs.YtjlnbklendkflaaW.PrintWords Go.Proofs.YtjlnbklendkflaaW.PrintLast Go.Proofs.YtjlnbklendkflaaW.PrintMore
open Go.Proofs.Ytjlnbklendkflaa.PHashSums


theorem tok_a : tokenOf [107, 101, 121] [97] = [97, 46, 55, 56, 48, 99, 51, 100, 98, 52, 99, 101, 51, 100, 101, 53, 98, 57, 101, 53, 53, 56, 49, 54, 102, 98, 97, 57, 56, 102, 53, 57, 48, 54] := by decide +kernel
theorem code_jefe : codeOf [74, 101, 102, 101] [119, 104, 97, 116, 32, 100, 111, 32, 121, 97, 32, 119, 97, 110, 116, 32, 102, 111, 114, 32, 110, 111, 116, 104, 105, 110, 103, 63] = [91, 220, 193, 70, 191, 96, 117, 78, 106, 4, 36, 38, 8, 149, 117, 199, 90, 0, 63, 8, 157, 39, 57, 131, 157, 236, 88, 185, 100, 236, 56, 67] := by decide +kernel
theorem codeOf_length (k b : List Int) : (codeOf k b).length = 32 := by unfold codeOf; exact digest_length _
set_option maxRecDepth 100000 in
set_option maxHeartbeats 8000000 in
theorem lives6_calls (w : World) : Calls Try.prog 17 #[] w fun e w' => e = .returned (.bool true) ∧ Below w.heap.size w w' := by
  have kc := fun (C : Array Value) (n c : Nat) (W : World) => Lib.run_convert_bytes_const (P := Try.prog) W 22 5 C n c Try.underlying22 Try.underlying5
  have kd := fun (C0 C : Array Value) (fr : Nat × Nat) (n c : Nat) (W : World) => Go.Joins.run_convert_bytes_const_at (P := Try.prog) (W.alloc (Obj.cells C0 5 fr)) 22 5 C n c (W.heap.size + 1) (by simp) Try.underlying22 Try.underlying5
  obtain ⟨v0, hv0⟩ : ∃ v, v = w.alloc (Obj.cells #[.int .u8 107, .int .u8 101, .int .u8 121] 5 (3, 4)) := ⟨_, rfl⟩
  obtain ⟨v1, hv1⟩ : ∃ v, v = v0.alloc (Obj.cells #[.int .u8 107, .int .u8 101, .int .u8 121] 5 (3, 4)) := ⟨_, rfl⟩
  obtain ⟨s, hs⟩ : ∃ s, s = strOfNums [97, 46, 55, 56, 48, 99, 51, 100, 98, 52, 99, 101, 51, 100, 101, 53, 98, 57, 101, 53, 53, 56, 49, 54, 102, 98, 97, 57, 56, 102, 53, 57, 48, 54] := ⟨_, rfl⟩
  have HB0 := Aside0.mk (show Below w.heap.size w v0 from hv0 ▸ (Below.refl w.heap.size w).alloc (Nat.le_refl _) _)
  have HB1 := Aside0.mk (show Below w.heap.size w v1 from hv1 ▸ HB0.out.alloc HB0.out.size _)
  have HS0 := Aside0.mk (show SrcB v0 (.slice (some ⟨w.heap.size, 0, none⟩) 3 3) [107, 101, 121] from hv0 ▸ src_const w [107, 101, 121] (3, 4))
  have HS1 := Aside0.mk (show SrcB v1 (.slice (some ⟨v0.heap.size, 0, none⟩) 3 3) [107, 101, 121] from hv1 ▸ src_const v0 [107, 101, 121] (3, 4))
  have hcell := token_calls (some ⟨v0.heap.size, 0, none⟩) 3 [107, 101, 121] ⟨#[97]⟩ v1 HS1.out (by decide) (by decide)
  rw [show bytesOf ⟨#[97]⟩ = [97] from by decide +kernel, tok_a, ← hs] at hcell
  have HC := Lib.hid hcell
  have HX := Aside0.mk (show s.size ≤ 80000 ∧ Lib.lastIndexByte s 46 = ((1 : Nat) : Int) ∧ 1 < s.size ∧ bytesOf s = tokenOf [107, 101, 121] (bytesOf (s.extract 0 1)) ∧ s.extract 0 1 = ⟨#[97]⟩ by subst hs; decide +kernel)
  clear hcell
  have HVS := Aside0.mk (show v0.heap.size = w.heap.size + 1 by rw [hv0]; simp)
  have HW := Aside0.mk (And.intro hv0 hv1)
  have HV01 := Aside0.mk (show Below v0.heap.size v0 v1 from hv1 ▸ (Below.refl v0.heap.size v0).alloc (Nat.le_refl _) _)
  have HVS1 := Aside0.mk (show v1.heap.size = w.heap.size + 2 by rw [hv1, hv0]; simp)
  rw [HVS.out] at HC
  have hinfo : (Try.prog.info? 25).map (·.size) = some 32 := by kernel_rfl
  have HIN := Aside0.mk hinfo
  have hcode := fun (W : World) => code_calls (some ⟨W.heap.size, 0, none⟩) 4 [74, 101, 102, 101] (.slice (some ⟨W.heap.size + 1, 0, none⟩) 28 28) [119, 104, 97, 116, 32, 100, 111, 32, 121, 97, 32, 119, 97, 110, 116, 32, 102, 111, 114, 32, 110, 111, 116, 104, 105, 110, 103, 63] ((W.alloc (Obj.cells #[.int .u8 74, .int .u8 101, .int .u8 102, .int .u8 101] 5 (4, 5))).alloc (Obj.cells #[.int .u8 119, .int .u8 104, .int .u8 97, .int .u8 116, .int .u8 32, .int .u8 100, .int .u8 111, .int .u8 32, .int .u8 121, .int .u8 97, .int .u8 32, .int .u8 119, .int .u8 97, .int .u8 110, .int .u8 116, .int .u8 32, .int .u8 102, .int .u8 111, .int .u8 114, .int .u8 32, .int .u8 110, .int .u8 111, .int .u8 116, .int .u8 104, .int .u8 105, .int .u8 110, .int .u8 103, .int .u8 63] 5 (28, 29))) (SrcB.below (src_const W [74, 101, 102, 101] (4, 5)) ((Below.refl _ _).alloc (Nat.le_refl _) _)) (by have := src_const (W.alloc (Obj.cells #[.int .u8 74, .int .u8 101, .int .u8 102, .int .u8 101] 5 (4, 5))) [119, 104, 97, 116, 32, 100, 111, 32, 121, 97, 32, 119, 97, 110, 116, 32, 102, 111, 114, 32, 110, 111, 116, 104, 105, 110, 103, 63] (28, 29); rw [World.size_alloc] at this; exact this) (by decide) (by decide)
  rw [code_jefe] at hcode
  have HCODE := Lib.hid hcode
  clear hv0 hv1 hs hinfo hcode
  go_enter Try.func17, Try.ntmps17
  go_wp2_with fail
  rw [← HW.out.1, ← HW.out.2]
  refine HC.out.mono ?_
  rintro e w1 ⟨rfl, hb1⟩
  have HB2 := Aside0.mk (HB1.out.trans (hb1.mono HB1.out.size))
  have hck := check_hit (some ⟨w.heap.size, 0, none⟩) 3 [107, 101, 121] s 1 w1 (SrcB.below HS0.out (HV01.out.trans (hb1.mono HV01.out.size))) (by decide) HX.out.1 HX.out.2.1 HX.out.2.2.1 HX.out.2.2.2.1
  rw [HX.out.2.2.2.2] at hck
  have HHK := Lib.hid hck
  clear hck hb1
  go_wp2_with fail
  refine HHK.out.mono ?_
  rintro e w2 ⟨rfl, hb2⟩
  have HB3 := Aside0.mk (HB2.out.trans (hb2.mono HB2.out.size))
  clear hb2
  go_wp2_with fail
  refine (HCODE.out w2).mono ?_
  rintro e w3 ⟨rfl, hb3⟩
  have HB4 := Aside0.mk (HB3.out.trans ((((Below.refl w2.heap.size w2).alloc (Nat.le_refl _) _).alloc (by simp) _).trans (hb3.mono (by simp; omega)) |>.mono HB3.out.size))
  clear hb3
  go_wp2_with (refine store_new rfl 25 (.tmp 3) (.tmp 17) rfl w3 _ (bytesA [91, 220, 193, 70, 191, 96, 117, 78, 106, 4, 36, 38, 8, 149, 117, 199, 90, 0, 63, 8, 157, 39, 57, 131, 157, 236, 88, 185, 100, 236, 56, 67]) 25 rfl rfl (by exact HIN.out) rfl (bytesA_one _) ?_; intro w4 hb4 hg4 hz4; have k0 := bytes_cell hg4 (i := 0) rfl; have k1 := bytes_cell hg4 (i := 1) rfl; have k31 := bytes_cell hg4 (i := 31) rfl; have HB5 := Aside0.mk (HB4.out.trans (hb4.mono HB4.out.size)); clear hb4 hg4 hz4)
  go_ret
  exact ⟨rfl, HB5.out⟩
end Go.Proofs.Ytjlnbklendkflaa
