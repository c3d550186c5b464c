/- The law HashLengths, walked. -/
import Derived.Test.YtjlnbklendkflaaRefB
import Derived.Lib.Hide
import Derived.LoopTactic
import Derived.Outline
import Derived.Laws.Rows
import Derived.Laws.CopyOwn
import Derived.WalkKit
set_option linter.unusedVariables false
set_option linter.unusedSimpArgs false
namespace Go.Proofs.Ytjlnbklendkflaa
open Go.RowKit Go.Proofs.YtjlnbklendkflaaW.PrintWords Go.Proofs.YtjlnbklendkflaaW.PrintLast Go.Proofs.YtjlnbklendkflaaW.PrintMore
open Go.Proofs.Ytjlnbklendkflaa.PHashSums


theorem fill_set2 (x : Int) (k i : Nat) (h : i < k) : (List.replicate i x ++ List.replicate (k - i) (0 : Int)).set i x = List.replicate (i + 1) x ++ List.replicate (k - (i + 1)) 0 := by
  rw [List.set_append_right _ _ (by rw [List.length_replicate]; omega), List.length_replicate, Nat.sub_self, show k - i = (k - (i + 1)) + 1 by omega, List.replicate_succ, List.set_cons_zero, List.replicate_succ', List.append_assoc]
  rfl
/-- Between two bytes that are laid. -/
structure LnInv (w1 wr : World) (xs : List Int) : Prop where
  bel : Below w1.heap.size w1 wr
  blk : wr.heap[w1.heap.size]? = some (.cells (bytesA xs) 5 (0, 0))
theorem LnInv.set {w1 wr : World} {xs : List Int} (h : LnInv w1 wr xs) (i : Nat) (x : Int) : LnInv w1 (wr.setCell ⟨w1.heap.size, i, none⟩ (.int .u8 x)) (xs.set i x) := ⟨h.bel.setCell (Nat.le_refl _) _, by rw [← bytesA_set]; exact blk_set h.blk i _⟩
set_option maxRecDepth 100000 in
set_option maxHeartbeats 8000000 in
theorem hashlens_calls (n x : Int) (hn : 0 ≤ n ∧ n ≤ 65535) (hx : 0 ≤ x ∧ x ≤ 255) (w : World) :
    Calls Try.prog 5 #[.int .u16 n, .int .u8 x] w fun e w' => e = .returned (.bool true) ∧ Below w.heap.size w w' := by
  obtain ⟨k, hk⟩ : ∃ k : Nat, k = (n % 301).toNat := ⟨_, rfl⟩
  have hn0 : (0 : Int) ≤ n := hn.1
  have hm : Int.tmod n 301 = (k : Int) := by rw [Int.tmod_eq_emod_of_nonneg hn.1]; omega
  have hm2 : n % 301 = (k : Int) := by omega
  have hk300 : k ≤ 300 := by omega
  have HX := Aside0.mk hx
  have hw : IntKind.i64.wrap n = n := by rw [IntKind.wrap_i64]; omega
  clear hk hx hn
  have km := fun W => make_bytes k (by omega) W
  go_enter Try.func5, Try.ntmps5
  go_wp2_with fail
  refine (lives5_calls _).mono ?_
  rintro e w1 ⟨rfl, h1⟩
  have H1 := Aside0.mk h1
  clear h1
  go_wp2_with fail
  have HL0 := Aside0.mk (show LnInv w1 (w1.alloc (Obj.cells (bytesA (List.replicate k 0)) 5)) (List.replicate 0 x ++ List.replicate (k - 0) 0) from ⟨(Below.refl _ _).alloc (Nat.le_refl _) _, by simpa using blk_new w1 (Obj.cells (bytesA (List.replicate k 0)) 5)⟩)
  clear km
  go_loopw [15] (fun v15 wr => ∃ i : Nat, i ≤ k ∧ v15 = .int .i64 (i : Int) ∧ Aside0 (LnInv w1 wr (List.replicate i x ++ List.replicate (k - i) 0))) (fun v _ => k - (intOf v).toNat)
  case atStart => exact ⟨0, by omega, rfl, HL0⟩
  case round =>
    obtain ⟨i, hi, rfl, HI⟩ := hrel
    by_cases hlt : i < k
    · have cy := bytes_cell HI.out.blk (i := i) (x := 0) (by rw [List.getElem?_append_right (by rw [List.length_replicate]; exact Nat.le_refl _), List.length_replicate, List.getElem?_replicate, if_pos (by omega)])
      have fz := blk_frozen HI.out.blk i
      have hik : (i : Int) < (k : Int) := by omega
      have HN := Aside0.mk (HI.out.set i x)
      rw [fill_set2 x k i hlt] at HN
      go_wp2
      go_roundw
      case rel => exact ⟨i + 1, by omega, by simp, HN⟩
      case measure => simp [intOf]; omega
    · have hik : i = k := by omega
      subst hik
      have hblk := HI.out.blk
      rw [Nat.sub_self, List.replicate_zero, List.append_nil] at hblk
      have hsrc := arr_src hblk i
      rw [List.length_replicate] at hsrc
      have HB := Aside0.mk (H1.out.trans (HI.out.bel.mono H1.out.size))
      obtain ⟨b, hb⟩ : ∃ b, b = List.replicate i x := ⟨_, rfl⟩
      have hbl : b.length = i := by rw [hb, List.length_replicate]
      have hbr : ∀ y ∈ b, 0 ≤ y ∧ y ≤ 255 := fun y hy => by rw [hb] at hy; rw [(List.mem_replicate.1 hy).2]; exact HX.out
      rw [← hb] at hsrc
      have HS := Aside0.mk hsrc
      have hc1 := fun W (hs : SrcB W (.slice (some ⟨w1.heap.size, 0, none⟩) i i) b) => hsum_calls (.slice (some ⟨w1.heap.size, 0, none⟩) i i) b W hs (by omega)
      have hc2 := fun W (hs : SrcB W (.slice (some ⟨w1.heap.size, 0, none⟩) i i) b) => ref_calls (some ⟨w1.heap.size, 0, none⟩) i b W (by rw [hbl]; exact hs) (by omega) hbr
      rw [hbl] at hc2
      obtain ⟨ds, hds⟩ : ∃ ds, ds = digest b := ⟨_, rfl⟩
      have heq := fun W => eql25 ds (by rw [hds]; exact digest_length _) W
      rw [← hds] at hc1 hc2
      have HC1 := Lib.hid hc1
      have HC2 := Lib.hid hc2
      clear hblk hsrc hb hbl hbr hc1 hc2 hds hlt hi
      go_wp2_with fail
      refine (HC1.out _ HS.out).mono ?_
      rintro e w2 ⟨rfl, h2⟩
      have H2 := Aside0.mk (HB.out.trans (h2.mono HB.out.size))
      have HS2 := Aside0.mk (HS.out.below h2)
      clear h2
      go_wp2_with fail
      refine (HC2.out _ HS2.out).mono ?_
      rintro e w3 ⟨rfl, h3⟩
      have H3 := Aside0.mk (H2.out.trans (h3.mono H2.out.size))
      clear h3
      go_wp2
      go_ret
      exact ⟨rfl, H3.out⟩
theorem wf_u16 {x : Int} (h : (Lit.int .u16 x).wf = true) : 0 ≤ x ∧ x ≤ 65535 := by
  simp [Lit.wf, IntKind.min, IntKind.max, IntKind.bits, IntKind.signed] at h
  omega
theorem hashLengths_walk (n x : Int) (W : World) (hn : (Lit.int .u16 n).wf = true) (hx : (Lit.int .u8 x).wf = true) :
    Calls Try.prog 5 #[.int .u16 n, .int .u8 x] W fun e w' => e = .returned (.bool true) ∧ Below W.heap.size W w' := hashlens_calls n x (wf_u16 hn) (wf_u8 hx) W
end Go.Proofs.Ytjlnbklendkflaa
