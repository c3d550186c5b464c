/- The law's own packing of a text of 0 and 1 into bytes, walked. -/
import Derived.Test.YtfanomllfgoakaaReads
set_option linter.unusedVariables false
set_option linter.unusedSimpArgs false
namespace Go.Proofs.Ytfanomllfgoakaa
open Go.RowKit Go.Proofs.YtfanomllfgoakaaW.PrintWords Go.Proofs.YtfanomllfgoakaaW.PrintLast Go.Proofs.YtfanomllfgoakaaW.PrintMore
open Go.Proofs.Ytfanomllfgoakaa.BitsMath Go.Proofs.Ytfanomllfgoakaa.ChunkMath

theorem bdrew {B : Nat} {w w1 : World} (h : Below B w w1) : Below B w w1.drew := ⟨h.os, h.tape, h.output, h.size, h.block⟩
theorem take_snoc_bit (B : List Bool) (i : Nat) (h : i < B.length) : B.take (i + 1) = B.take i ++ [B.getD i false] := by
  rw [List.take_succ_eq_append_getElem h, List.getD_eq_getElem?_getD, List.getElem?_eq_getElem h]; rfl
theorem shr_wt (i : Nat) : (128 : Int) / 2 ^ ((i : Int) % 8).toNat = wt i := by
  have e : ((i : Int) % 8).toNat = i % 8 := by omega
  rw [e]
  unfold wt
  have h : i % 8 < 8 := Nat.mod_lt _ (by decide)
  generalize i % 8 = m at h
  match m, h with
  | 0, _ => decide
  | 1, _ => decide
  | 2, _ => decide
  | 3, _ => decide
  | 4, _ => decide
  | 5, _ => decide
  | 6, _ => decide
  | 7, _ => decide

set_option maxHeartbeats 4000000 in
theorem packT_calls (B : List Bool) (s : ByteArray) (w : World) (hs : s = strB B) (hn : B.length ≤ 1000000) :
    Calls Try.prog 22 #[.string s] w fun e w' => e = .returned (.string (strOfNums (pack B))) ∧ Below w.heap.size w w' := by
  obtain ⟨i0, hi, hz0, hz1, hz2⟩ := info_parts infoByte
  obtain ⟨n, hn2⟩ : ∃ n, n = B.length := ⟨_, rfl⟩
  have hsz : s.size = n := by rw [hs, strB_size, hn2]
  have hnn : n ≤ 1000000 := by omega
  have HS := Aside0.mk hs
  have HN := Aside0.mk hn2
  clear hs hn2 hn
  go_enter Try.func22, Try.ntmps22
  go_wp2_with fail
  go_loopw [3, 7] (fun v3 v7 wr => ∃ (i : Nat) (v : Value), i ≤ n ∧ v7 = .int .i64 (i : Int) ∧ v = v3 ∧ Aside0 (wr.ownsRow w.heap.size 5 1 v (pack (B.take i)).length (nums .u8 (pack (B.take i)))) ∧ Aside0 (Below w.heap.size w wr)) (fun _ v _ => n - (intOf v).toNat)
  case atStart => exact ⟨0, .slice none 0 0, by omega, rfl, rfl, ⟨by rw [List.take_zero]; exact World.ownsRow_nil _ _ _ _⟩, ⟨Below.refl _ _⟩⟩
  case round =>
    obtain ⟨i, v, hin, rfl, rfl, HO, HW⟩ := hrel
    by_cases hlt : i < n
    · have hlt' : i < s.size := by omega
      have hil : (B.take i).length = i := by rw [List.length_take, ← HN.out]; omega
      have HT := Aside0.mk (take_snoc_bit B i (by rw [← HN.out]; exact hlt))
      have hlen := pack_length (B.take i)
      rw [hil] at hlen
      obtain ⟨L, hL⟩ : ∃ L, L = (pack (B.take i)).length := ⟨_, rfl⟩
      have HL := Aside0.mk hL
      rw [← hL] at hlen
      have HO2 := Aside0.mk (show wr.ownsRow w.heap.size 5 1 v L (nums .u8 (pack (B.take i))) by rw [hL]; exact HO.out)
      have HIL := Aside0.mk hil
      have HLEN := Aside0.mk hlen
      have hL2 : L ≤ 200000 := by omega
      clear hL hlen HO hil
      by_cases hm : i % 8 = 0
      · have dm : ((i : Int) % 8 == 0) = true := by simp; omega
        have HI8 := Aside0.mk (show i / 8 = L by have := HLEN.out; omega)
        have HP0 := Aside0.mk (pack_snoc0 (B.take i) (B.getD i false) (by rw [HIL.out]; exact hm))
        go_wp2_with (at_builtin; refine wpList_append_lies _ rfl _ _ 25 rfl w.heap.size 5 i0 (.int .u8 0) 1 1 Try.underlying25 hi hz0 hz1 hz2 rfl (by decide) _ _ _ rfl (HO2.out.alloc _) ⟨wr.heap.size, 0, none⟩ 1 1 [.int .u8 0] rfl rfl ?c1 ?c2 (by decide) ?c3 ?c4 ?c6 (wr.heap.size + 1) ?c5 ?_)
        case c1 => exact World.news_of_block (blk_new wr _)
        case c2 => intro u hu; simp at hu; subst hu; rfl
        case c3 => unfold maxLen; omega
        case c4 => omega
        case c5 => simp
        case c6 => have := HW.out.size; simp; omega
        intro g cap w2 hown' hgrow hlies _
        have HO3 := Aside0.mk hown'
        have HW3 := Aside0.mk ((HW.out.alloc HW.out.size _).grown hgrow (by have := HW.out.size; simp; omega) (fun k hk => (HO2.out.lt k hk).1))
        have hxl : (nums .u8 (pack (B.take i))).length = L := by rw [nums_length, HL.out]
        have e2 : w2.cell? ⟨g, i / 8, none⟩ = some (.int .u8 0) := by
          have h8 := HI8.out
          rw [World.ownsRow.cellAt hown' (i / 8) (by omega), List.getElem?_append_right (by omega), hxl, show i / 8 - L = 0 by omega]
          rfl
        have f2 : w2.frozen? ⟨g, i / 8, none⟩ = false := World.ownsRow.frozenAt hown' _
        have hgw := (hown'.lt g rfl).1
        clear hown' hgrow hlies hxl
        have hbb : (i : Int) / 8 < (L : Int) + 1 := by have := HI8.out; omega
        cases hbit : B.getD i false with
        | false =>
          have hb1 : (((s[i]'hlt').toNat : Int) == 49) = false := strB_zero HS.out (by rw [List.getElem?_eq_getElem (by rw [← HN.out]; exact hlt)]; rw [List.getD_eq_getElem?_getD, List.getElem?_eq_getElem (by rw [← HN.out]; exact hlt)] at hbit; simpa using hbit) hlt'
          have HBT := Aside0.mk hbit
          clear hbit
          go_wp2
          go_roundw
          case rel =>
            refine ⟨i + 1, _, by omega, by simp, rfl, ⟨?_⟩, HW3⟩
            rw [HT.out, HP0.out, HBT.out, nums_append, List.length_append, ← HL.out]
            exact HO3.out
          case measure => simp [intOf]; omega
        | true =>
          have hb1 : (((s[i]'hlt').toNat : Int) == 49) = true := strB_one HS.out (by rw [List.getElem?_eq_getElem (by rw [← HN.out]; exact hlt)]; rw [List.getD_eq_getElem?_getD, List.getElem?_eq_getElem (by rw [← HN.out]; exact hlt)] at hbit; simpa using hbit) hlt'
          have HBT := Aside0.mk hbit
          clear hbit
          go_wp2
          go_region
          all_goals go_wp2
          go_roundw
          case rel =>
            refine ⟨i + 1, _, by omega, by simp, rfl, ⟨?_⟩, ⟨bdrew (HW3.out.setCell (p := ⟨g, i / 8, none⟩) hgw _)⟩⟩
            rw [HT.out, HP0.out, HBT.out, nums_append, List.length_append, ← HL.out]
            have h := (HO3.out.stored (i / 8) (.int .u8 128)).1
            rw [List.set_append_right _ _ (by rw [nums_length, ← HL.out, HI8.out]; exact Nat.le_refl _), nums_length, ← HL.out, HI8.out, Nat.sub_self] at h
            rw [HI8.out]
            exact h
          case measure => simp [intOf]; omega
      · have dm : ((i : Int) % 8 == 0) = false := by simp; omega
        obtain ⟨g, cap, _, rfl, _⟩ := row_pos HO2.out (by have := HLEN.out; omega)
        have HP := Aside0.mk (pack_snoc (B.take i) (B.getD i false) (by rw [HIL.out]; exact hm))
        have HY := Aside0.mk (pack_getD (B.take i) (i / 8) (by rw [HIL.out]; omega))
        have hgw := (HO2.out.lt g rfl).1
        have HIX := Aside0.mk (show i / 8 < L by have := HLEN.out; omega)
        cases hbit : B.getD i false with
        | false =>
          have hb1 : (((s[i]'hlt').toNat : Int) == 49) = false := strB_zero HS.out (by rw [List.getElem?_eq_getElem (by rw [← HN.out]; exact hlt)]; rw [List.getD_eq_getElem?_getD, List.getElem?_eq_getElem (by rw [← HN.out]; exact hlt)] at hbit; simpa using hbit) hlt'
          have HBT := Aside0.mk hbit
          clear hbit
          go_wp2
          go_roundw
          case rel =>
            refine ⟨i + 1, _, by omega, by simp, rfl, ⟨?_⟩, HW⟩
            have e : pack (B.take (i + 1)) = pack (B.take i) := by
              rw [HT.out, HP.out, HBT.out, HIL.out, show byteAt (B.take i) (i / 8) + bv false * wt i = (pack (B.take i)).getD (i / 8) 0 by rw [HY.out]; simp [bv]]
              apply List.ext_getElem?
              intro k
              rw [List.getElem?_set]
              by_cases hk : i / 8 = k
              · subst hk
                have hk2 : i / 8 < (pack (B.take i)).length := by rw [← HL.out]; exact HIX.out
                rw [if_pos rfl, if_pos hk2, List.getD_eq_getElem?_getD, List.getElem?_eq_getElem hk2]
                rfl
              · rw [if_neg hk]
            rw [e, ← HL.out]
            exact HO2.out
          case measure => simp [intOf]; omega
        | true =>
          have hb1 : (((s[i]'hlt').toNat : Int) == 49) = true := strB_one HS.out (by rw [List.getElem?_eq_getElem (by rw [← HN.out]; exact hlt)]; rw [List.getD_eq_getElem?_getD, List.getElem?_eq_getElem (by rw [← HN.out]; exact hlt)] at hbit; simpa using hbit) hlt'
          have HBT := Aside0.mk hbit
          clear hbit
          have e2 : wr.cell? ⟨g, i / 8, none⟩ = some (.int .u8 (byteAt (B.take i) (i / 8))) := by
            rw [World.ownsRow.cellAt HO2.out (i / 8) (by have := HIX.out; omega)]
            unfold nums
            rw [List.getElem?_map, pack_get? _ _ (by rw [HIL.out]; omega)]
            rfl
          have f2 : wr.frozen? ⟨g, i / 8, none⟩ = false := World.ownsRow.frozenAt HO2.out _
          have hbb : (i : Int) / 8 < (L : Int) := by have := HIX.out; omega
          have hsum : 0 ≤ byteAt (B.take i) (i / 8) + wt i ∧ byteAt (B.take i) (i / 8) + wt i ≤ 255 := by
            have h1 := byteAt_snoc (B.take i) true (i / 8)
            rw [HIL.out, if_pos rfl] at h1
            have h2 := byteAt_range (B.take i ++ [true]) (i / 8)
            rw [h1] at h2
            simpa [bv] using h2
          have hy := byteAt_range (B.take i) (i / 8)
          have hwp := wt_pos i
          have hsh := shr_wt i
          obtain ⟨y, hyd⟩ : ∃ y, y = byteAt (B.take i) (i / 8) := ⟨_, rfl⟩
          obtain ⟨W, hWd⟩ : ∃ W, W = wt i := ⟨_, rfl⟩
          rw [← hyd] at e2 hsum hy
          rw [← hWd] at hsum hwp hsh
          have HYD := Aside0.mk hyd
          have HWD := Aside0.mk hWd
          have hs1 := hsum.1
          have hs2 := hsum.2
          have hy1 := hy.1
          have hw1 := hwp.1
          clear hyd hWd hsum hy hwp
          go_wp2
          go_region
          all_goals go_wp2
          go_roundw
          case rel =>
            refine ⟨i + 1, _, by omega, by simp, rfl, ⟨?_⟩, ⟨bdrew (HW.out.setCell (p := ⟨g, i / 8, none⟩) hgw _)⟩⟩
            have h := (HO2.out.stored (i / 8) (.int .u8 (y + W))).1
            have e : pack (B.take (i + 1)) = (pack (B.take i)).set (i / 8) (y + W) := by
              rw [HT.out, HP.out, HBT.out, HIL.out, HYD.out, HWD.out]; simp [bv]
            rw [e, ← nums_set, List.length_set, ← HL.out]
            first | exact h | (trace_state; exact h)
          case measure => simp [intOf]; omega
    · have hcv : (convert 25 9 v).run Try.prog wr = .ok (.string (strOfNums (pack (B.take i)))) wr := conv_own HO.out
      have HE := Aside0.mk (show B.take i = B by rw [show i = B.length by rw [← HN.out]; omega]; exact List.take_length)
      go_wp2
      go_ret
      exact ⟨by rw [HE.out]; rfl, HW.out⟩
end Go.Proofs.Ytfanomllfgoakaa
