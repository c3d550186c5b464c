/- The laws of layer 5: digests are compared; the chapter's example. -/
import Derived.Test.YtjlnbklendkflaaHashF
import Derived.Laws.StructEq
import Derived.Lib.SlBytesConst
import Derived.Lib.Hide
import Derived.LoopTactic
import Derived.Outline
import Derived.Laws.Rows
import Derived.Laws.CopyOwn
import Derived.WalkKit
set_option linter.unusedVariables false
set_option linter.unusedSimpArgs false
namespace Go.Proofs.Ytjlnbklendkflaa
open Go.RowKit Go.Proofs.YtjlnbklendkflaaW.PrintWords Go.Proofs.YtjlnbklendkflaaW.PrintLast Go.Proofs.YtjlnbklendkflaaW.PrintMore
open Go.Proofs.Ytjlnbklendkflaa.PHashSums


theorem run_int_eq (d : Nat) (x y : Int) (w : World) : (Op.equalIn (d + 1) 5 (.int .u8 x) (.int .u8 y)).run Try.prog w = .ok (x == y) w := by
  simp [Op.equalIn, run_underlying Try.underlying5]
theorem part_at (l : List Int) (i : Nat) (x : Int) (h : l[i]? = some x) (w : World) : (part 5 (bytesA l) (i * 1)).run Try.prog w = .ok (.int .u8 x) w := by
  obtain ⟨i0, hi, hz0, hz1, hz2⟩ := info_parts infoByte
  simp [part, isAgg, run_underlying Try.underlying5, sizeOf, typeInfo, hi, bytesA_get h]
theorem eq_loop (x : List Int) (w : World) : ∀ (L : List Nat), (∀ i ∈ L, i < x.length) → (forIn (m := Sem) L ((none, ()) : Option Bool × Unit) (fun i __s => do
              let __do_lift ← part 5 (bytesA x) (i * 1)
              let __do_lift_1 ← part 5 (bytesA x) (i * 1)
              let __do_lift ← Op.equalIn 9999 5 __do_lift __do_lift_1
              if (!__do_lift) = true then pure (ForInStep.done (some false, ())) else pure (ForInStep.yield (none, ())))).run Try.prog w = .ok (none, ()) w
  | [], _ => by simp
  | i :: L, h => by
    have hi := h i List.mem_cons_self
    obtain ⟨y, hy⟩ : ∃ y, x[i]? = some y := ⟨_, List.getElem?_eq_getElem hi⟩
    have hp := part_at x i y hy w
    have ih := eq_loop x w L (fun j hj => h j (List.mem_cons_of_mem _ hj))
    rw [List.forIn_cons]
    simp only [Sem.run_bind, hp, Result.andThen_ok, run_int_eq, beq_self_eq_true, Bool.not_true, Bool.false_eq_true, if_false, Sem.run_pure]
    exact ih
theorem equal25 (x : List Int) (hx : x.length = 32) (w : World) : (Op.equalIn 10000 25 (.agg (bytesA x)) (.agg (bytesA x))).run Try.prog w = .ok true w := by
  obtain ⟨i0, hi, hz0, hz1, hz2⟩ := info_parts infoByte
  have hs : (sizeOf 5).run Try.prog w = .ok 1 w := by simp [sizeOf, typeInfo, hi, hz1]
  have hl := eq_loop x w (List.range' 0 32 1) (fun i hi => by simp at hi; omega)
  unfold Op.equalIn
  simp only [Sem.run_bind, run_underlying Try.underlying25, Result.andThen_ok, hs]
  rw [Std.Legacy.Range.forIn_eq_forIn_range']
  simp only [Std.Legacy.Range.size]
  have e : (32 - 0 + 1 - 1) / 1 = 32 := by decide
  rw [e, hl]
  rfl
theorem eql25 (x : List Int) (hx : x.length = 32) (w : World) : (binOp .eql 25 (.agg (bytesA x)) (.agg (bytesA x))).run Try.prog w = .ok (.bool true) w := by
  simp only [binOp]
  simp [Op.equal, Op.maxDepth, equal25 x hx w]
theorem neql25 (x : List Int) (hx : x.length = 32) (w : World) : (binOp .neq 25 (.agg (bytesA x)) (.agg (bytesA x))).run Try.prog w = .ok (.bool false) w := by
  simp only [binOp]
  simp [Op.equal, Op.maxDepth, equal25 x hx w]
/-- Bytes that are laid for []byte of a constant. -/
theorem src_const (w : World) (l : List Int) (fr : Nat × Nat) : SrcB (w.alloc (Obj.cells (bytesA l) 5 fr)) (.slice (some ⟨w.heap.size, 0, none⟩) l.length l.length) l := by
  refine .inr ⟨⟨w.heap.size, 0, none⟩, _, rfl, fun j x hx => ?_⟩
  have e : Addr.add ⟨w.heap.size, 0, none⟩ j = ⟨w.heap.size, j, none⟩ := by unfold Addr.add; split <;> simp_all
  rw [e, cell_of_row _ _ _ _ _ _ (blk_new w _)]
  exact bytesA_get hx
theorem digest_length (m : List Int) : (digest m).length = 32 := by simp [digest]
theorem abc : digest [97, 98, 99] = [0xba, 0x78, 0x16, 0xbf, 0x8f, 0x01, 0xcf, 0xea, 0x41, 0x41, 0x40, 0xde, 0x5d, 0xae, 0x22, 0x23, 0xb0, 0x03, 0x61, 0xa3, 0x96, 0x17, 0x7a, 0x9c, 0xb4, 0x10, 0xff, 0x61, 0xf2, 0x00, 0x15, 0xad] := by decide +kernel
set_option maxRecDepth 100000 in
set_option maxHeartbeats 4000000 in
theorem lives5_calls (w : World) : Calls Try.prog 10 #[] w fun e w' => e = .returned (.bool true) ∧ Below w.heap.size w w' := by
  have kc := fun (C : Array Value) (n c : Nat) => Lib.run_convert_bytes_const (P := Try.prog) w 22 5 C n c Try.underlying22 Try.underlying5
  have HC := Lib.hid (hsum_calls (.slice (some ⟨w.heap.size, 0, none⟩) 3 3) [97, 98, 99] (w.alloc (Obj.cells #[.int .u8 97, .int .u8 98, .int .u8 99] 5 (3, 4))) (src_const w [97, 98, 99] (3, 4)) (by decide))
  have HA := Aside0.mk ((Below.refl w.heap.size w).alloc (Nat.le_refl _) (Obj.cells #[.int .u8 97, .int .u8 98, .int .u8 99] 5 (3, 4)))
  have hinfo : (Try.prog.info? 25).map (·.size) = some 32 := by kernel_rfl
  have HIN := Aside0.mk hinfo
  have HZ := Aside0.mk (show (bytesA (digest [97, 98, 99])).size = 32 by rw [bytesA_size, digest_length])
  obtain ⟨ds, hds⟩ : ∃ ds, ds = digest [97, 98, 99] := ⟨_, rfl⟩
  rw [← hds] at HC HZ
  have HDS := Aside0.mk (hds.trans abc)
  clear hinfo hds
  go_enter Try.func10, Try.ntmps10
  go_wp2_with fail
  refine HC.out.mono ?_
  rintro e w1 ⟨rfl, hb⟩
  have HB1 := Aside0.mk (HA.out.trans (hb.mono (by simp)))
  clear hb
  go_wp2_with (refine store_new rfl 25 (.tmp 1) (.tmp 4) rfl w1 _ (bytesA ds) 25 rfl rfl (by rw [HZ.out]; exact HIN.out) (by rw [HZ.out]; rfl) (bytesA_one ds) ?_; intro w2 hb2 hg2 hz2; rw [HDS.out] at hg2; have k0 := bytes_cell hg2 (i := 0) rfl; have k1 := bytes_cell hg2 (i := 1) rfl; have k2 := bytes_cell hg2 (i := 2) rfl; have k3 := bytes_cell hg2 (i := 3) rfl; have k4 := bytes_cell hg2 (i := 4) rfl; have k28 := bytes_cell hg2 (i := 28) rfl; have k31 := bytes_cell hg2 (i := 31) rfl; have HB2 := Aside0.mk (HB1.out.trans (hb2.mono HB1.out.size)); clear hb2 hg2 hz2)
  go_ret
  exact ⟨rfl, HB2.out⟩
end Go.Proofs.Ytjlnbklendkflaa
