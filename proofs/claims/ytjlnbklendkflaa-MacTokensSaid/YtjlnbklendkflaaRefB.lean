/- The document's answer for layer 5, walked. -/
import Derived.Test.YtjlnbklendkflaaRefC
import Derived.Lib.Hide
import Derived.LoopTactic
import Derived.Outline
import Derived.Laws.Rows
import Derived.Laws.CopyOwn
import Derived.WalkKit
set_option linter.unusedVariables false
set_option linter.unusedSimpArgs false
namespace Go.Proofs.Ytjlnbklendkflaa
open Go.RowKit Go.Proofs.YtjlnbklendkflaaW.PrintWords Go.Proofs.YtjlnbklendkflaaW.PrintLast Go.Proofs.YtjlnbklendkflaaW.PrintMore
open Go.Proofs.Ytjlnbklendkflaa.PHashSums


set_option maxRecDepth 100000 in
set_option maxHeartbeats 16000000 in
theorem ref_calls (A : Option Addr) (c : Nat) (m : List Int) (w : World) (h : SrcB w (.slice A m.length c) m) (hl : m.length ≤ 90000) (hr : ∀ x ∈ m, 0 ≤ x ∧ x ≤ 255) :
    Calls Try.prog 12 #[.slice A m.length c] w fun e w' => e = .returned (.agg (bytesA (digest m))) ∧ Below w.heap.size w w' := by
  have HS := Aside0.mk h
  have HR := Aside0.mk hr
  have HL := Aside0.mk hl
  clear h hr hl
  go_enter Try.func12, Try.ntmps12
  go_wp2_with fail
  refine (catacombref05_Primes.calls 400 64 PL _ primes_is).mono ?_
  rintro e w1 ⟨v0, rfl, hp, hb⟩
  obtain ⟨ad, pc, rfl, hpc⟩ := prim_reads hp
  have HPC := Aside0.mk hpc
  have HB1 := Aside0.mk (show Below w.heap.size w w1 from ((Below.refl w.heap.size w).alloc (Nat.le_refl _) _).trans (hb.mono (by simp)))
  have HR0 := Aside0.mk (show ∃ cs : Array Value, w1.heap[w.heap.size]? = some (.cells cs 24 (0, 0)) ∧ cs.size = 32 from ⟨_, (hb.block w.heap.size (by simp)).trans (blk_new w _), rfl⟩)
  clear hp hb hpc
  go_wp2_with fail
  have HA0 := Aside0.mk (RfA.start w1)
  go_loopw [33] (fun v33 wr => ∃ k : Nat, k ≤ 64 ∧ v33 = .int .i64 (k : Int) ∧ Aside0 (RfA w1 wr k)) (fun v _ => 64 - (intOf v).toNat)
  case atStart => exact ⟨0, by omega, rfl, HA0⟩
  case round =>
    obtain ⟨k, hk, rfl, HI⟩ := hrel
    by_cases hlt : k < 64
    · as_aux_lemma =>
        have cp := bread HI.out.bel (HPC.out k hlt)
        obtain ⟨p, hpp⟩ : ∃ p, p = PL.getD k 0 := ⟨_, rfl⟩
        rw [← hpp] at cp
        have HCU := Aside0.mk (show ∀ W, Calls Try.prog 24 #[.int .u64 p] W fun e w' => e = .returned (.int .u32 (KS.getD k 0)) ∧ Drawn0 W w' from fun W => catacombref05_Cube.calls 60 p _ W (by rw [hpp]; exact cube_is k hlt))
        obtain ⟨kv, hkv⟩ : ∃ x, x = KS.getD k 0 := ⟨_, rfl⟩
        have fz := blk_frozen HI.out.kv k
        have ck := words_cell HI.out.kv (i := k) (x := 0) (by rw [List.getElem?_append_right (by rw [List.length_take]; exact Nat.min_le_left _ _), List.length_take, List.getElem?_replicate, show min k KS.length = k from Nat.min_eq_left (by show k ≤ 64; omega), if_pos (by omega)])
        have hi64 : (k : Int) ≤ 9223372036854775806 := by omega
        by_cases h8 : k < 8
        · have hn := fun (n2 n3 : Nat) => (HI.out.drewN n2).near h8 n3
          have hsq := fun W => catacombref05_Square.calls 60 p (H0.getD k 0) W (by rw [hpp]; exact square_is k h8)
          obtain ⟨hv, hhv⟩ : ∃ x, x = H0.getD k 0 := ⟨_, rfl⟩
          have fh := blk_frozen HI.out.hv k
          have ch := words_cell HI.out.hv (i := k) (x := 0) (by rw [List.getElem?_append_right (by rw [List.length_take]; exact Nat.min_le_left _ _), List.length_take, List.getElem?_replicate, show min k H0.length = k from Nat.min_eq_left (by show k ≤ 8; omega), if_pos (by omega)])
          rw [← hkv] at HCU hn
          rw [← hhv] at hn hsq
          have HCU := Lib.hid HCU.out
          have HSQ := Lib.hid hsq
          have HN := Aside0.mk hn
          clear hpp hkv hhv hn hsq
          have hk64 : (k : Int) < 64 := by omega
          have hk8 : (k : Int) < 8 := by omega
          go_wp2_with fail
          refine (HCU.out _).mono ?_
          rintro e w2 ⟨rfl, n2, rfl⟩
          go_wp2_with fail
          refine (HSQ.out _).mono ?_
          rintro e w3 ⟨rfl, n3, rfl⟩
          go_wp2
          go_roundw
          case rel => exact ⟨k + 1, by omega, by simp, ⟨HN.out n2 n3⟩⟩
          case measure => simp [intOf]; omega
        · have hn := fun (n2 : Nat) => (HI.out.drewN n2).far hlt (by omega)
          rw [← hkv] at HCU hn
          have HCU := Lib.hid HCU.out
          have HN := Aside0.mk hn
          clear hpp hkv hn
          have hk64 : (k : Int) < 64 := by omega
          have hk8 : ¬ (k : Int) < 8 := by omega
          go_wp2_with fail
          refine (HCU.out _).mono ?_
          rintro e w2 ⟨rfl, n2, rfl⟩
          go_wp2
          go_roundw
          case rel => exact ⟨k + 1, by omega, by simp, ⟨HN.out n2⟩⟩
          case measure => simp [intOf]; omega
    · have hk64 : k = 64 := by omega
      subst hk64
      have HHV := Aside0.mk (show wr.heap[w1.heap.size]? = some (.cells (words H0) 46 (0, 0)) by have := HI.out.hv; simpa [H0] using this)
      have HKV := Aside0.mk (show wr.heap[w1.heap.size + 1]? = some (.cells (words KS) 47 (0, 0)) from by have := HI.out.kv; rw [List.take_of_length_le (show KS.length ≤ 64 from Nat.le_refl _)] at this; simpa using this)
      have HBL := Aside0.mk HI.out.bel
      clear hlt hk HI HPC
      obtain ⟨w2, hw2⟩ : ∃ w2 : World, w2 = wr := ⟨_, rfl⟩
      subst hw2
      have HRG := Aside0.mk (show (w2.alloc (Obj.cells #[] 5)).ownsRow w2.heap.size 5 1 (.slice (some ⟨w2.heap.size, 0, none⟩) 0 0) ([] : List Int).length (nums .u8 []) from ⟨by simp [nums], .inr ⟨w2.heap.size, 0, #[], rfl, Nat.le_refl _, blk_new _ _, Nat.le_refl _, by decide, rfl, rfl⟩⟩)
      have HSM := Aside0.mk (HS.out.below (HB1.out.trans ((HBL.out.mono HB1.out.size).trans ((Below.refl w2.heap.size w2).alloc (Nat.le_refl _) (Obj.cells #[] 5) |>.mono (Nat.le_trans HB1.out.size HBL.out.size)))))
      have HPL0 := Aside0.mk (show ([] : List Int).length + m.length ≤ 1000000000 by have := HL.out; simp; omega)
      have HPB0 := Aside0.mk (show w2.heap.size ≤ (w2.alloc (Obj.cells #[] 5)).heap.size by simp)
      go_wp2_with (at_builtin; refine append_src w2.heap.size rfl (.tmp 49) (.tmp 50) rfl _ [] m A m.length c rfl rfl HRG.out HSM.out rfl HPB0.out HPL0.out ?_)
      intro v4 w4 hown hgr
      have HB4 := Aside0.mk (show Below w2.heap.size w2 w4 from ((Below.refl w2.heap.size w2).alloc (Nat.le_refl _) (Obj.cells #[] 5)).grown hgr (by simp) (fun k hk => by cases hk; exact Nat.le_refl _))
      have HW4 := Aside0.mk hown
      have HP4 := Aside0.mk (show (m.length + 1) * 1 ≤ 140737488355328 by have := HL.out; omega)
      have hb4 := HB4.out.size
      clear hown hgr
      go_wp2_with (at_builtin; refine print_append_num w2.heap.size rfl (.tmp 51) (.tmp 52) 22 5 .u8 1 rfl Try.underlying22 infoByte (by decide) _ m _ rfl rfl HW4.out HB4.out hb4 HP4.out ?_)
      intro v5 w5 hown hB5 _ _
      obtain ⟨Z, hZ⟩ : ∃ Z, Z = zerosOf (m.length % 64) := ⟨_, rfl⟩
      have HZ := Aside0.mk hZ
      have hZr : Z ≤ 63 ∧ (m.length + 1 + Z) % 64 = 56 := by rw [hZ]; unfold zerosOf; omega
      have HF0 := Aside0.mk (show FInv w2 (m ++ 128 :: List.replicate 0 0) v5 w5 from ⟨by simpa using hown, hB5⟩)
      clear hown hB5 hZ HB4 HW4 HP4 hb4
      go_wp2_with fail
      go_loopw [8] (fun v8 wr => ∃ (z : Nat), z ≤ Z ∧ Aside0 (FInv w2 (m ++ 128 :: List.replicate z 0) v8 wr)) (fun v _ => m.length + Z + 2 - lenV v)
      case atStart => exact ⟨0, by omega, HF0⟩
      case round =>
        obtain ⟨z, hz, HF⟩ := hrel
        obtain ⟨A4, c4, e4⟩ := row_form HF.out.row
        rw [List.length_append, List.length_cons, List.length_replicate] at e4
        subst e4
        have hn1 : (0 : Int) ≤ (m.length : Int) + ((z : Int) + 1) := by omega
        have hz63 : z ≤ 63 := by omega
        by_cases hlt : z < Z
        · as_aux_lemma =>
            have d1 : ((((m.length : Int) + ((z : Int) + 1)) % 64) != 56) = true := by simp; omega
            have hb1 := HF.out.bel.size
            have HRW := Aside0.mk (show wr.ownsRow w2.heap.size 5 1 (.slice A4 (m.length + (z + 1)) c4) (m ++ 128 :: List.replicate z (0 : Int)).length (nums .u8 (m ++ 128 :: List.replicate z 0)) from HF.out.row)
            have HPL := Aside0.mk (show ((m ++ 128 :: List.replicate z (0 : Int)).length + 1) * 1 ≤ 140737488355328 by have := HL.out; simp; omega)
            have HB0 := Aside0.mk HF.out.bel
            go_wp2_with (at_builtin; refine print_append_num w2.heap.size rfl (.tmp 58) (.tmp 59) 22 5 .u8 1 rfl Try.underlying22 infoByte (by decide) _ (m ++ 128 :: List.replicate z 0) _ rfl rfl HRW.out HB0.out hb1 HPL.out ?_)
            intro v1 w4 hown hB4 _ _
            have HNEW := Aside0.mk (show FInv w2 (m ++ 128 :: List.replicate (z + 1) 0) v1 w4 from ⟨by rw [rep_snoc, ← List.append_assoc]; simpa using hown, hB4⟩)
            obtain ⟨A5, c5, e5⟩ := row_form HNEW.out.row
            rw [List.length_append, List.length_cons, List.length_replicate] at e5
            subst e5
            clear hown hB4
            go_wp2
            go_roundw
            case rel => exact ⟨z + 1, by omega, HNEW⟩
            case measure => simp [lenV]; omega
        · have hze : z = Z := by omega
          subst hze
          have d1 : ((((m.length : Int) + ((z : Int) + 1)) % 64) != 56) = false := by simp; omega
          have kw1 : IntKind.u64.wrap (m.length : Int) = (m.length : Int) := by rw [IntKind.wrap_u64]; have := HL.out; omega
          have kw2 : IntKind.u64.wrap ((m.length : Int) * 8) = (m.length : Int) * 8 := by rw [IntKind.wrap_u64]; have := HL.out; omega
          have HZR := Aside0.mk hZr
          clear hlt hz hZr
          go_wp2_with fail
          obtain ⟨FZ, hFZ⟩ : ∃ l : List Int, l = m ++ 128 :: List.replicate z 0 := ⟨_, rfl⟩
          rw [← hFZ] at HF
          have HFZ := Aside0.mk hFZ
          have hfl : FZ.length = m.length + (z + 1) := by rw [hFZ, List.length_append, List.length_cons, List.length_replicate]
          have HFL := Aside0.mk hfl
          have HF2 := Aside0.mk (show FInv w2 (FZ ++ (List.range 0).map (lenB m.length)) (.slice A4 (m.length + (z + 1)) c4) wr by simpa using HF.out)
          clear hFZ hfl kw1 kw2 d1
          go_loopw [8, 10] (fun v8 v10 wr => ∃ (j : Nat), j ≤ 8 ∧ v10 = .int .i64 (7 - (j : Int)) ∧ Aside0 (FInv w2 (FZ ++ (List.range j).map (lenB m.length)) v8 wr)) (fun _ v _ => (intOf v + 1).toNat)
          case atStart => exact ⟨0, by omega, rfl, HF2⟩
          case round =>
            obtain ⟨j, hj, rfl, HG⟩ := hrel
            obtain ⟨A4, c4, e4⟩ := row_form HG.out.row
            rw [List.length_append, List.length_map, List.length_range, HFL.out] at e4
            subst e4
            by_cases hlt : j < 8
            · as_aux_lemma =>
                have d2 : (0 : Int) ≤ 7 - (j : Int) := by omega
                have d3 : (j : Int) ≤ 7 := by omega
                have hb1 := HG.out.bel.size
                have HRW := Aside0.mk (show wr.ownsRow w2.heap.size 5 1 (.slice A4 (m.length + (z + 1) + j) c4) (FZ ++ (List.range j).map (lenB m.length)).length (nums .u8 (FZ ++ (List.range j).map (lenB m.length))) from HG.out.row)
                have HBL := Aside0.mk (show ((FZ ++ (List.range j).map (lenB m.length)).length + 1) * 1 ≤ 140737488355328 by rw [List.length_append, List.length_map, List.length_range, HFL.out]; have := HL.out; omega)
                have HB0 := Aside0.mk HG.out.bel
                go_wp2_with (at_builtin; refine print_append_num w2.heap.size rfl (.tmp 69) (.tmp 76) 22 5 .u8 1 rfl Try.underlying22 infoByte (by decide) _ (FZ ++ (List.range j).map (lenB m.length)) _ rfl rfl HRW.out HB0.out hb1 HBL.out ?_)
                intro v1 w4 hown hB4 _ _
                have HNEW := Aside0.mk (show FInv w2 (FZ ++ (List.range (j + 1)).map (lenB m.length)) v1 w4 from ⟨by
                  rw [List.length_append, List.length_map, List.length_range, List.range_succ, List.map_append]
                  exact hown, hB4⟩)
                clear hown hB4
                go_wp2
                go_roundw
                case rel => exact ⟨j + 1, by omega, by congr 1; omega, HNEW⟩
                case measure => simp [intOf]; omega
            · have hj8 : j = 8 := by omega
              subst hj8
              have HFILL := Aside0.mk (show FZ ++ (List.range 8).map (lenB m.length) = pad m by rw [HFZ.out, HZ.out]; unfold pad fillOf; rw [List.append_assoc])
              obtain ⟨P, hP⟩ : ∃ P, P = pad m := ⟨_, rfl⟩
              obtain ⟨w3, hw3⟩ : ∃ w3 : World, w3 = wr := ⟨_, rfl⟩
              subst hw3
              have hrow := HG.out.row
              rw [HFILL.out, ← hP] at hrow
              have hPl : P.length = m.length + (z + 1) + 8 := by rw [hP, ← HFILL.out, List.length_append, HFL.out, List.length_map, List.length_range]
              obtain ⟨n0, hn0⟩ : ∃ n0, n0 = P.length / 64 := ⟨_, rfl⟩
              have hn64 : P.length = 64 * n0 := by have := HZR.out; omega
              have hP0 : 0 < n0 := by omega
              have HPR := Aside0.mk (show ∀ x ∈ P, 0 ≤ x ∧ x ≤ 255 by rw [hP]; exact pad_range m HR.out)
              have HPP := Aside0.mk hP
              have HN64 := Aside0.mk hn64
              have hrow' : w3.ownsRow w2.heap.size 5 1 (.slice A4 P.length c4) P.length (nums .u8 P) := by rw [hPl]; rw [hPl] at hrow; exact hrow
              have hcap := own_cap hrow' (by omega)
              have HBW := Aside0.mk HG.out.bel
              have HZ2 := Aside0.mk (show w1.heap.size + 2 ≤ w2.heap.size from by have := blk_lt HKV.out; omega)
              have HV0 := Aside0.mk (show RfB w1 w3 w3 (blocks P 0) from ⟨Keep.refl _ _, (HBW.out.block _ (by have := HZ2.out; omega)).trans HHV.out⟩)
              have HK3 := Aside0.mk (show w3.heap[w1.heap.size + 1]? = some (.cells (words KS) 47 (0, 0)) from (HBW.out.block _ (by have := HZ2.out; omega)).trans HKV.out)
              have HR3 := Aside0.mk (show ∃ cs : Array Value, w3.heap[w.heap.size]? = some (.cells cs 24 (0, 0)) ∧ cs.size = 32 from by
                obtain ⟨cs, h1, h2⟩ := HR0.out
                exact ⟨cs, (HBW.out.block _ (by have := HZ2.out; have := blk_lt h1; omega)).trans ((HBL.out.block _ (blk_lt h1)).trans h1), h2⟩)
              have HW3 := Aside0.mk (show Below w.heap.size w w3 from HB1.out.trans ((HBL.out.mono HB1.out.size).trans (HBW.out.mono (Nat.le_trans HB1.out.size HBL.out.size))))
              have HQ0 := Aside0.mk (show SrcB w3 (.slice A4 P.length c4) (P.drop (64 * 0)) ∧ P.length ≤ c4 ∧ ∀ g, (Value.slice A4 P.length c4).ownBlock = some g → w2.heap.size ≤ g from ⟨by rw [Nat.mul_zero, List.drop_zero]; exact SrcB.of_row hrow', hcap⟩)
              have hPL2 : m.length + (z + 1) + 8 = P.length := hPl.symm
              clear hrow hrow' hcap hP hlt hj HG HF2 hn0 hPl
              go_wp2_with fail
              go_loopw [8] (fun v8 wr => ∃ (k n : Nat) (A' : Option Addr) (c' : Nat), k ≤ n0 ∧ n = 64 * (n0 - k) ∧ v8 = .slice A' n c' ∧ Aside0 (SrcB w3 (.slice A' n c') (P.drop (64 * k)) ∧ n ≤ c' ∧ ∀ g, (Value.slice A' n c').ownBlock = some g → w2.heap.size ≤ g) ∧ Aside0 (RfB w1 w3 wr (blocks P k))) (fun v _ => lenV v)
              case atStart => exact ⟨0, P.length, A4, c4, by omega, by omega, by rw [hPL2], HQ0, HV0⟩
              case round =>
                obtain ⟨k, n, A', c', hk, hn, rfl, HQ, HB⟩ := hrel
                by_cases hlt : k < n0
                · have hn1 : 64 ≤ n := by omega
                  have hnp : 0 < n := by omega
                  obtain ⟨hsq, hcq, hoq⟩ := HQ.out
                  have hdl : (P.drop (64 * k)).length = n := by rw [List.length_drop, hn64]; omega
                  have hsw := src_keep hsq HB.out.keep (fun g hg => by have := hoq g hg; have := HZ2.out; omega)
                  have hsw' : SrcB wr (.slice A' (P.drop (64 * k)).length c') (P.drop (64 * k)) := by rw [hdl]; exact hsw
                  obtain ⟨ad, ca, e, hcells⟩ := src_at hsw' (by omega)
                  injection e with e1 e2 e3
                  subst e1 e3
                  obtain ⟨b, hb⟩ : ∃ b, b = (P.drop (64 * k)).take 64 := ⟨_, rfl⟩
                  obtain ⟨hs, hhs⟩ : ∃ hs, hs = blocks P k := ⟨_, rfl⟩
                  have hbl : b.length = 64 := by rw [hb, List.length_take, hdl]; omega
                  have HBLN := Aside0.mk hbl
                  have HBC := Aside0.mk (show ∀ j x, b[j]? = some x → wr.cell? (ad.add j) = some (.int .u8 x) from fun j x hx => hcells j x (by
                    rw [hb] at hx
                    have hj := (List.getElem?_eq_some_iff.1 hx).1
                    rw [List.length_take] at hj
                    rwa [List.getElem?_take_of_lt (by omega)] at hx))
                  have HBR := Aside0.mk (show ∀ x ∈ b, 0 ≤ x ∧ x ≤ 255 from fun x hx => HPR.out x (List.mem_of_mem_drop (List.mem_of_mem_take (hb ▸ hx))))
                  have hh := HB.out.hv
                  rw [← hhs] at hh
                  have HH := Aside0.mk hh
                  have HHS := Aside0.mk hhs
                  have HHL := Aside0.mk (show hs.length = 8 by rw [hhs]; exact blocks_length _ _)
                  have HBB := Aside0.mk hb
                  have hKeq : wr.heap[w1.heap.size + 1]? = some (.cells (words KS) 47 (0, 0)) := HB.out.keep.blk HK3.out (by omega)
                  have HKK := Aside0.mk hKeq
                  have HDL := Aside0.mk hdl
                  have HNN := Aside0.mk hn
                  obtain ⟨wo, hwo⟩ : ∃ wo : World, wo = wr := ⟨_, rfl⟩
                  subst hwo
                  clear hsq hcq hoq hdl hsw hsw' hcells hb hhs hbl hh hKeq hn hlt hk
                  go_wp2_with fail
                  have HW0 := Aside0.mk (RfW.start wo b)
                  go_loopw [83] (fun v83 wr => ∃ (t : Nat) (ws : List Int), t ≤ 64 ∧ v83 = .int .i64 (t : Int) ∧ Aside0 (RfW wo wr b ws t)) (fun v _ => 64 - (intOf v).toNat)
                  case atStart => exact ⟨0, _, by omega, rfl, HW0⟩
                  case round =>
                    obtain ⟨t, ws, ht, rfl, HW⟩ := hrel
                    by_cases hlt : t < 64
                    · have fz := blk_frozen HW.out.arr t
                      obtain ⟨xi, hxi⟩ : ∃ x, x = ws.getD t 0 := ⟨_, rfl⟩
                      have ci := HW.out.cell t hlt
                      rw [← hxi] at ci
                      clear hxi
                      have ht64 : (t : Int) < 64 := by omega
                      by_cases h16 : t < 16
                      · as_aux_lemma =>
                          have ht16 : (t : Int) < 16 := by omega
                          obtain ⟨y0, hy0⟩ : ∃ y, b[4 * t]? = some y := ⟨_, List.getElem?_eq_getElem (by have := HBLN.out; omega)⟩
                          have cy0 := bread HW.out.bel (HBC.out _ _ hy0)
                          have q0 : wrap64 (4 * (t : Int)) = 4 * (t : Int) := by unfold wrap64; omega
                          have z0 : (4 * (t : Int)).toNat = 4 * t := by omega
                          have l0 : 4 * (t : Int) < (n : Int) := by omega
                          have g0 : (0 : Int) ≤ 4 * (t : Int) := by omega
                          obtain ⟨y1, hy1⟩ : ∃ y, b[4 * t + 1]? = some y := ⟨_, List.getElem?_eq_getElem (by have := HBLN.out; omega)⟩
                          have cy1 := bread HW.out.bel (HBC.out _ _ hy1)
                          rw [show ad.add (4 * t + 1) = ⟨ad.block, ad.off + (4 * t + 1), none⟩ by simp [Addr.add]] at cy1
                          have q1 : wrap64 (4 * (t : Int) + 1) = 4 * (t : Int) + 1 := by unfold wrap64; omega
                          have z1 : (4 * (t : Int) + 1).toNat = 4 * t + 1 := by omega
                          have l1 : 4 * (t : Int) + 1 < (n : Int) := by omega
                          have g1 : (0 : Int) ≤ 4 * (t : Int) + 1 := by omega
                          obtain ⟨y2, hy2⟩ : ∃ y, b[4 * t + 2]? = some y := ⟨_, List.getElem?_eq_getElem (by have := HBLN.out; omega)⟩
                          have cy2 := bread HW.out.bel (HBC.out _ _ hy2)
                          rw [show ad.add (4 * t + 2) = ⟨ad.block, ad.off + (4 * t + 2), none⟩ by simp [Addr.add]] at cy2
                          have q2 : wrap64 (4 * (t : Int) + 2) = 4 * (t : Int) + 2 := by unfold wrap64; omega
                          have z2 : (4 * (t : Int) + 2).toNat = 4 * t + 2 := by omega
                          have l2 : 4 * (t : Int) + 2 < (n : Int) := by omega
                          have g2 : (0 : Int) ≤ 4 * (t : Int) + 2 := by omega
                          obtain ⟨y3, hy3⟩ : ∃ y, b[4 * t + 3]? = some y := ⟨_, List.getElem?_eq_getElem (by have := HBLN.out; omega)⟩
                          have cy3 := bread HW.out.bel (HBC.out _ _ hy3)
                          rw [show ad.add (4 * t + 3) = ⟨ad.block, ad.off + (4 * t + 3), none⟩ by simp [Addr.add]] at cy3
                          have q3 : wrap64 (4 * (t : Int) + 3) = 4 * (t : Int) + 3 := by unfold wrap64; omega
                          have z3 : (4 * (t : Int) + 3).toNat = 4 * t + 3 := by omega
                          have l3 : 4 * (t : Int) + 3 < (n : Int) := by omega
                          have g3 : (0 : Int) ≤ 4 * (t : Int) + 3 := by omega
                          have hn4 : (64 : Int) ≤ (n : Int) := by omega
                          have hv := word_is b t y0 y1 y2 y3 (by rw [List.getD_eq_getElem?_getD, hy0]; rfl) (by rw [List.getD_eq_getElem?_getD, hy1]; rfl) (by rw [List.getD_eq_getElem?_getD, hy2]; rfl) (by rw [List.getD_eq_getElem?_getD, hy3]; rfl) (HBR.out _ (List.mem_of_getElem? hy0)) (HBR.out _ (List.mem_of_getElem? hy1)) (HBR.out _ (List.mem_of_getElem? hy2)) (HBR.out _ (List.mem_of_getElem? hy3))
                          have hsl := sched_low b t h16
                          rw [← hv] at hsl
                          have HN := Aside0.mk (HW.out.set hlt hsl).drew
                          clear hv hsl hy0 hy1 hy2 hy3
                          go_wp2_with fail
                          refine start_ (n := 36) (S := fun w' => (w'.cell? ⟨wo.heap.size, t, none⟩ = some (.int .u32 xi)) ∧ (w'.cell? (ad.add (4 * t)) = some (.int .u8 y0)) ∧ (w'.cell? ⟨ad.block, ad.off + (4 * t + 1), none⟩ = some (.int .u8 y1)) ∧ (w'.cell? ⟨ad.block, ad.off + (4 * t + 2), none⟩ = some (.int .u8 y2)) ∧ (w'.cell? ⟨ad.block, ad.off + (4 * t + 3), none⟩ = some (.int .u8 y3))) (ds := [35]) #[false, false, false, false, false, false, false, false, false, false, false, false, false, false, false, false, false, false, false, false, false, false, false, false, false, false, false, false, false, false, false, false, false, false, false, false] (by kernel_rfl) rfl rfl ⟨ci, cy0, cy1, cy2, cy3⟩ (fun hHeld => ?_)
                          refine pure_ (i := 0) (N := some 88) (v := ?_) (a' := ?_) #[true, false, false, false, false, false, false, false, false, false, false, false, false, false, false, false, false, false, false, false, false, false, false, false, false, false, false, false, false, false, false, false, false, false, false, false] rfl rfl (by kernel_rfl) (fun _ _ _ h => h) (Or.inl ⟨by rfl, ?_⟩) ?_ ?_
                          rotate_left
                          · intro w'
                            go_simp
                            with_reducible rfl
                          rotate_left
                          · simp only [Act.put, List.setIfInBounds_toArray, List.set_cons_zero, List.set_cons_succ, i64_w, i32_w]
                            rfl
                          refine pure_ (i := 1) (N := some 89) (v := ?_) (a' := ?_) #[true, true, false, false, false, false, false, false, false, false, false, false, false, false, false, false, false, false, false, false, false, false, false, false, false, false, false, false, false, false, false, false, false, false, false, false] rfl rfl (by kernel_rfl) (fun _ _ _ h => h) (Or.inl ⟨by rfl, ?_⟩) ?_ ?_
                          rotate_left
                          · intro w'
                            go_simp
                            with_reducible rfl
                          rotate_left
                          · simp only [Act.put, List.setIfInBounds_toArray, List.set_cons_zero, List.set_cons_succ, i64_w, i32_w]
                            rfl
                          refine pure_ (i := 2) (N := some 90) (v := ?_) (a' := ?_) #[true, true, true, false, false, false, false, false, false, false, false, false, false, false, false, false, false, false, false, false, false, false, false, false, false, false, false, false, false, false, false, false, false, false, false, false] rfl rfl (by kernel_rfl) (fun _ _ _ h => h) (Or.inl ⟨by rfl, ?_⟩) ?_ ?_
                          rotate_left
                          · intro w'
                            go_simp
                            with_reducible rfl
                          rotate_left
                          · simp only [Act.put, List.setIfInBounds_toArray, List.set_cons_zero, List.set_cons_succ, i64_w, i32_w]
                            rfl
                          refine pure_ (i := 3) (N := some 91) (v := ?_) (a' := ?_) #[true, true, true, true, false, false, false, false, false, false, false, false, false, false, false, false, false, false, false, false, false, false, false, false, false, false, false, false, false, false, false, false, false, false, false, false] rfl rfl (by kernel_rfl) (fun _ _ _ h => h) (Or.inl ⟨by rfl, ?_⟩) ?_ ?_
                          rotate_left
                          · intro w'
                            go_simp
                            with_reducible rfl
                          rotate_left
                          · simp only [Act.put, List.setIfInBounds_toArray, List.set_cons_zero, List.set_cons_succ, i64_w, i32_w]
                            rfl
                          refine pure_ (i := 4) (N := some 92) (v := ?_) (a' := ?_) #[true, true, true, true, true, false, false, false, false, false, false, false, false, false, false, false, false, false, false, false, false, false, false, false, false, false, false, false, false, false, false, false, false, false, false, false] rfl rfl (by kernel_rfl) (fun _ _ _ h => h) (Or.inl ⟨by rfl, ?_⟩) ?_ ?_
                          rotate_left
                          · intro w'
                            go_simp
                            with_reducible rfl
                          rotate_left
                          · simp only [Act.put, List.setIfInBounds_toArray, List.set_cons_zero, List.set_cons_succ, i64_w, i32_w]
                            rfl
                          refine pure_ (i := 8) (N := some 96) (v := ?_) (a' := ?_) #[true, true, true, true, true, false, false, false, true, false, false, false, false, false, false, false, false, false, false, false, false, false, false, false, false, false, false, false, false, false, false, false, false, false, false, false] rfl rfl (by kernel_rfl) (fun _ _ _ h => h) (Or.inl ⟨by rfl, ?_⟩) ?_ ?_
                          rotate_left
                          · intro w'
                            go_simp
                            with_reducible rfl
                          rotate_left
                          · simp only [Act.put, List.setIfInBounds_toArray, List.set_cons_zero, List.set_cons_succ, i64_w, i32_w]
                            rfl
                          refine pure_ (i := 9) (N := some 97) (v := ?_) (a' := ?_) #[true, true, true, true, true, false, false, false, true, true, false, false, false, false, false, false, false, false, false, false, false, false, false, false, false, false, false, false, false, false, false, false, false, false, false, false] rfl rfl (by kernel_rfl) (fun _ _ _ h => h) (Or.inl ⟨by rfl, ?_⟩) ?_ ?_
                          rotate_left
                          · intro w'
                            go_simp
                            with_reducible rfl
                          rotate_left
                          · simp only [Act.put, List.setIfInBounds_toArray, List.set_cons_zero, List.set_cons_succ, i64_w, i32_w]
                            rfl
                          refine pure_ (i := 10) (N := some 98) (v := ?_) (a' := ?_) #[true, true, true, true, true, false, false, false, true, true, true, false, false, false, false, false, false, false, false, false, false, false, false, false, false, false, false, false, false, false, false, false, false, false, false, false] rfl rfl (by kernel_rfl) (fun _ _ _ h => h) (Or.inl ⟨by rfl, ?_⟩) ?_ ?_
                          rotate_left
                          · intro w'
                            go_simp
                            with_reducible rfl
                          rotate_left
                          · simp only [Act.put, List.setIfInBounds_toArray, List.set_cons_zero, List.set_cons_succ, i64_w, i32_w]
                            rfl
                          refine pure_ (i := 11) (N := some 99) (v := ?_) (a' := ?_) #[true, true, true, true, true, false, false, false, true, true, true, true, false, false, false, false, false, false, false, false, false, false, false, false, false, false, false, false, false, false, false, false, false, false, false, false] rfl rfl (by kernel_rfl) (fun _ _ _ h => h) (Or.inl ⟨by rfl, ?_⟩) ?_ ?_
                          rotate_left
                          · intro w'
                            go_simp
                            with_reducible rfl
                          rotate_left
                          · simp only [Act.put, List.setIfInBounds_toArray, List.set_cons_zero, List.set_cons_succ, i64_w, i32_w]
                            rfl
                          refine pure_ (i := 12) (N := some 100) (v := ?_) (a' := ?_) #[true, true, true, true, true, false, false, false, true, true, true, true, true, false, false, false, false, false, false, false, false, false, false, false, false, false, false, false, false, false, false, false, false, false, false, false] rfl rfl (by kernel_rfl) (fun _ _ _ h => h) (Or.inl ⟨by rfl, ?_⟩) ?_ ?_
                          rotate_left
                          · intro w'
                            go_simp
                            with_reducible rfl
                          rotate_left
                          · simp only [Act.put, List.setIfInBounds_toArray, List.set_cons_zero, List.set_cons_succ, i64_w, i32_w]
                            rfl
                          refine pure_ (i := 17) (N := some 105) (v := ?_) (a' := ?_) #[true, true, true, true, true, false, false, false, true, true, true, true, true, false, false, false, false, true, false, false, false, false, false, false, false, false, false, false, false, false, false, false, false, false, false, false] rfl rfl (by kernel_rfl) (fun _ _ _ h => h) (Or.inl ⟨by rfl, ?_⟩) ?_ ?_
                          rotate_left
                          · intro w'
                            go_simp
                            with_reducible rfl
                          rotate_left
                          · simp only [Act.put, List.setIfInBounds_toArray, List.set_cons_zero, List.set_cons_succ, i64_w, i32_w]
                            rfl
                          refine pure_ (i := 18) (N := some 106) (v := ?_) (a' := ?_) #[true, true, true, true, true, false, false, false, true, true, true, true, true, false, false, false, false, true, true, false, false, false, false, false, false, false, false, false, false, false, false, false, false, false, false, false] rfl rfl (by kernel_rfl) (fun _ _ _ h => h) (Or.inl ⟨by rfl, ?_⟩) ?_ ?_
                          rotate_left
                          · intro w'
                            go_simp
                            with_reducible rfl
                          rotate_left
                          · simp only [Act.put, List.setIfInBounds_toArray, List.set_cons_zero, List.set_cons_succ, i64_w, i32_w]
                            rfl
                          refine pure_ (i := 19) (N := some 107) (v := ?_) (a' := ?_) #[true, true, true, true, true, false, false, false, true, true, true, true, true, false, false, false, false, true, true, true, false, false, false, false, false, false, false, false, false, false, false, false, false, false, false, false] rfl rfl (by kernel_rfl) (fun _ _ _ h => h) (Or.inl ⟨by rfl, ?_⟩) ?_ ?_
                          rotate_left
                          · intro w'
                            go_simp
                            with_reducible rfl
                          rotate_left
                          · simp only [Act.put, List.setIfInBounds_toArray, List.set_cons_zero, List.set_cons_succ, i64_w, i32_w]
                            rfl
                          refine pure_ (i := 20) (N := some 108) (v := ?_) (a' := ?_) #[true, true, true, true, true, false, false, false, true, true, true, true, true, false, false, false, false, true, true, true, true, false, false, false, false, false, false, false, false, false, false, false, false, false, false, false] rfl rfl (by kernel_rfl) (fun _ _ _ h => h) (Or.inl ⟨by rfl, ?_⟩) ?_ ?_
                          rotate_left
                          · intro w'
                            go_simp
                            with_reducible rfl
                          rotate_left
                          · simp only [Act.put, List.setIfInBounds_toArray, List.set_cons_zero, List.set_cons_succ, i64_w, i32_w]
                            rfl
                          refine pure_ (i := 21) (N := some 109) (v := ?_) (a' := ?_) #[true, true, true, true, true, false, false, false, true, true, true, true, true, false, false, false, false, true, true, true, true, true, false, false, false, false, false, false, false, false, false, false, false, false, false, false] rfl rfl (by kernel_rfl) (fun _ _ _ h => h) (Or.inl ⟨by rfl, ?_⟩) ?_ ?_
                          rotate_left
                          · intro w'
                            go_simp
                            with_reducible rfl
                          rotate_left
                          · simp only [Act.put, List.setIfInBounds_toArray, List.set_cons_zero, List.set_cons_succ, i64_w, i32_w]
                            rfl
                          refine pure_ (i := 26) (N := some 114) (v := ?_) (a' := ?_) #[true, true, true, true, true, false, false, false, true, true, true, true, true, false, false, false, false, true, true, true, true, true, false, false, false, false, true, false, false, false, false, false, false, false, false, false] rfl rfl (by kernel_rfl) (fun _ _ _ h => h) (Or.inl ⟨by rfl, ?_⟩) ?_ ?_
                          rotate_left
                          · intro w'
                            go_simp
                            with_reducible rfl
                          rotate_left
                          · simp only [Act.put, List.setIfInBounds_toArray, List.set_cons_zero, List.set_cons_succ, i64_w, i32_w]
                            rfl
                          refine pure_ (i := 27) (N := some 115) (v := ?_) (a' := ?_) #[true, true, true, true, true, false, false, false, true, true, true, true, true, false, false, false, false, true, true, true, true, true, false, false, false, false, true, true, false, false, false, false, false, false, false, false] rfl rfl (by kernel_rfl) (fun _ _ _ h => h) (Or.inl ⟨by rfl, ?_⟩) ?_ ?_
                          rotate_left
                          · intro w'
                            go_simp
                            with_reducible rfl
                          rotate_left
                          · simp only [Act.put, List.setIfInBounds_toArray, List.set_cons_zero, List.set_cons_succ, i64_w, i32_w]
                            rfl
                          refine pure_ (i := 28) (N := some 116) (v := ?_) (a' := ?_) #[true, true, true, true, true, false, false, false, true, true, true, true, true, false, false, false, false, true, true, true, true, true, false, false, false, false, true, true, true, false, false, false, false, false, false, false] rfl rfl (by kernel_rfl) (fun _ _ _ h => h) (Or.inl ⟨by rfl, ?_⟩) ?_ ?_
                          rotate_left
                          · intro w'
                            go_simp
                            with_reducible rfl
                          rotate_left
                          · simp only [Act.put, List.setIfInBounds_toArray, List.set_cons_zero, List.set_cons_succ, i64_w, i32_w]
                            rfl
                          refine pure_ (i := 29) (N := some 117) (v := ?_) (a' := ?_) #[true, true, true, true, true, false, false, false, true, true, true, true, true, false, false, false, false, true, true, true, true, true, false, false, false, false, true, true, true, true, false, false, false, false, false, false] rfl rfl (by kernel_rfl) (fun _ _ _ h => h) (Or.inl ⟨by rfl, ?_⟩) ?_ ?_
                          rotate_left
                          · intro w'
                            go_simp
                            with_reducible rfl
                          rotate_left
                          · simp only [Act.put, List.setIfInBounds_toArray, List.set_cons_zero, List.set_cons_succ, i64_w, i32_w]
                            rfl
                          refine pure_ (i := 30) (N := some 118) (v := ?_) (a' := ?_) #[true, true, true, true, true, false, false, false, true, true, true, true, true, false, false, false, false, true, true, true, true, true, false, false, false, false, true, true, true, true, true, false, false, false, false, false] rfl rfl (by kernel_rfl) (fun _ _ _ h => h) (Or.inl ⟨by rfl, ?_⟩) ?_ ?_
                          rotate_left
                          · intro w'
                            go_simp
                            with_reducible rfl
                          rotate_left
                          · simp only [Act.put, List.setIfInBounds_toArray, List.set_cons_zero, List.set_cons_succ, i64_w, i32_w]
                            rfl
                          refine take_ (i := 5) (N := some 93) (v := ?_) (a' := ?_) #[true, true, true, true, true, true, false, false, true, true, true, true, true, false, false, false, false, true, true, true, true, true, false, false, false, false, true, true, true, true, true, false, false, false, false, false] rfl rfl (by kernel_rfl) (fun _ _ _ h => h) (Or.inl ⟨by rfl, ?_⟩) hHeld ?_ ?_
                          rotate_left
                          · rintro w' ⟨s0, s1, s2, s3, s4⟩
                            go_simp
                            with_reducible rfl
                          rotate_left
                          · simp only [Act.put, List.setIfInBounds_toArray, List.set_cons_zero, List.set_cons_succ, i64_w, i32_w]
                            rfl
                          refine pure_ (i := 6) (N := some 94) (v := ?_) (a' := ?_) #[true, true, true, true, true, true, true, false, true, true, true, true, true, false, false, false, false, true, true, true, true, true, false, false, false, false, true, true, true, true, true, false, false, false, false, false] rfl rfl (by kernel_rfl) (fun _ _ _ h => h) (Or.inl ⟨by rfl, ?_⟩) ?_ ?_
                          rotate_left
                          · intro w'
                            go_simp
                            with_reducible rfl
                          rotate_left
                          · simp only [Act.put, List.setIfInBounds_toArray, List.set_cons_zero, List.set_cons_succ, i64_w, i32_w]
                            rfl
                          refine pure_ (i := 7) (N := some 95) (v := ?_) (a' := ?_) #[true, true, true, true, true, true, true, true, true, true, true, true, true, false, false, false, false, true, true, true, true, true, false, false, false, false, true, true, true, true, true, false, false, false, false, false] rfl rfl (by kernel_rfl) (fun _ _ _ h => h) (Or.inl ⟨by rfl, ?_⟩) ?_ ?_
                          rotate_left
                          · intro w'
                            go_simp
                            with_reducible rfl
                          rotate_left
                          · simp only [Act.put, List.setIfInBounds_toArray, List.set_cons_zero, List.set_cons_succ, i64_w, i32_w]
                            rfl
                          refine take_ (i := 13) (N := some 101) (v := ?_) (a' := ?_) #[true, true, true, true, true, true, true, true, true, true, true, true, true, true, false, false, false, true, true, true, true, true, false, false, false, false, true, true, true, true, true, false, false, false, false, false] rfl rfl (by kernel_rfl) (fun _ _ _ h => h) (Or.inl ⟨by rfl, ?_⟩) hHeld ?_ ?_
                          rotate_left
                          · rintro w' ⟨s0, s1, s2, s3, s4⟩
                            go_simp
                            with_reducible rfl
                          rotate_left
                          · simp only [Act.put, List.setIfInBounds_toArray, List.set_cons_zero, List.set_cons_succ, i64_w, i32_w]
                            rfl
                          refine pure_ (i := 14) (N := some 102) (v := ?_) (a' := ?_) #[true, true, true, true, true, true, true, true, true, true, true, true, true, true, true, false, false, true, true, true, true, true, false, false, false, false, true, true, true, true, true, false, false, false, false, false] rfl rfl (by kernel_rfl) (fun _ _ _ h => h) (Or.inl ⟨by rfl, ?_⟩) ?_ ?_
                          rotate_left
                          · intro w'
                            go_simp
                            with_reducible rfl
                          rotate_left
                          · simp only [Act.put, List.setIfInBounds_toArray, List.set_cons_zero, List.set_cons_succ, i64_w, i32_w]
                            rfl
                          refine pure_ (i := 15) (N := some 103) (v := ?_) (a' := ?_) #[true, true, true, true, true, true, true, true, true, true, true, true, true, true, true, true, false, true, true, true, true, true, false, false, false, false, true, true, true, true, true, false, false, false, false, false] rfl rfl (by kernel_rfl) (fun _ _ _ h => h) (Or.inl ⟨by rfl, ?_⟩) ?_ ?_
                          rotate_left
                          · intro w'
                            go_simp
                            with_reducible rfl
                          rotate_left
                          · simp only [Act.put, List.setIfInBounds_toArray, List.set_cons_zero, List.set_cons_succ, i64_w, i32_w]
                            rfl
                          refine pure_ (i := 16) (N := some 104) (v := ?_) (a' := ?_) #[true, true, true, true, true, true, true, true, true, true, true, true, true, true, true, true, true, true, true, true, true, true, false, false, false, false, true, true, true, true, true, false, false, false, false, false] rfl rfl (by kernel_rfl) (fun _ _ _ h => h) (Or.inl ⟨by rfl, ?_⟩) ?_ ?_
                          rotate_left
                          · intro w'
                            go_simp
                            with_reducible rfl
                          rotate_left
                          · simp only [Act.put, List.setIfInBounds_toArray, List.set_cons_zero, List.set_cons_succ, i64_w, i32_w]
                            rfl
                          refine take_ (i := 22) (N := some 110) (v := ?_) (a' := ?_) #[true, true, true, true, true, true, true, true, true, true, true, true, true, true, true, true, true, true, true, true, true, true, true, false, false, false, true, true, true, true, true, false, false, false, false, false] rfl rfl (by kernel_rfl) (fun _ _ _ h => h) (Or.inl ⟨by rfl, ?_⟩) hHeld ?_ ?_
                          rotate_left
                          · rintro w' ⟨s0, s1, s2, s3, s4⟩
                            go_simp
                            with_reducible rfl
                          rotate_left
                          · simp only [Act.put, List.setIfInBounds_toArray, List.set_cons_zero, List.set_cons_succ, i64_w, i32_w]
                            rfl
                          refine pure_ (i := 23) (N := some 111) (v := ?_) (a' := ?_) #[true, true, true, true, true, true, true, true, true, true, true, true, true, true, true, true, true, true, true, true, true, true, true, true, false, false, true, true, true, true, true, false, false, false, false, false] rfl rfl (by kernel_rfl) (fun _ _ _ h => h) (Or.inl ⟨by rfl, ?_⟩) ?_ ?_
                          rotate_left
                          · intro w'
                            go_simp
                            with_reducible rfl
                          rotate_left
                          · simp only [Act.put, List.setIfInBounds_toArray, List.set_cons_zero, List.set_cons_succ, i64_w, i32_w]
                            rfl
                          refine pure_ (i := 24) (N := some 112) (v := ?_) (a' := ?_) #[true, true, true, true, true, true, true, true, true, true, true, true, true, true, true, true, true, true, true, true, true, true, true, true, true, false, true, true, true, true, true, false, false, false, false, false] rfl rfl (by kernel_rfl) (fun _ _ _ h => h) (Or.inl ⟨by rfl, ?_⟩) ?_ ?_
                          rotate_left
                          · intro w'
                            go_simp
                            with_reducible rfl
                          rotate_left
                          · simp only [Act.put, List.setIfInBounds_toArray, List.set_cons_zero, List.set_cons_succ, i64_w, i32_w]
                            rfl
                          refine pure_ (i := 25) (N := some 113) (v := ?_) (a' := ?_) #[true, true, true, true, true, true, true, true, true, true, true, true, true, true, true, true, true, true, true, true, true, true, true, true, true, true, true, true, true, true, true, false, false, false, false, false] rfl rfl (by kernel_rfl) (fun _ _ _ h => h) (Or.inl ⟨by rfl, ?_⟩) ?_ ?_
                          rotate_left
                          · intro w'
                            go_simp
                            with_reducible rfl
                          rotate_left
                          · simp only [Act.put, List.setIfInBounds_toArray, List.set_cons_zero, List.set_cons_succ, i64_w, i32_w]
                            rfl
                          refine take_ (i := 31) (N := some 119) (v := ?_) (a' := ?_) #[true, true, true, true, true, true, true, true, true, true, true, true, true, true, true, true, true, true, true, true, true, true, true, true, true, true, true, true, true, true, true, true, false, false, false, false] rfl rfl (by kernel_rfl) (fun _ _ _ h => h) (Or.inl ⟨by rfl, ?_⟩) hHeld ?_ ?_
                          rotate_left
                          · rintro w' ⟨s0, s1, s2, s3, s4⟩
                            go_simp
                            with_reducible rfl
                          rotate_left
                          · simp only [Act.put, List.setIfInBounds_toArray, List.set_cons_zero, List.set_cons_succ, i64_w, i32_w]
                            rfl
                          refine pure_ (i := 32) (N := some 120) (v := ?_) (a' := ?_) #[true, true, true, true, true, true, true, true, true, true, true, true, true, true, true, true, true, true, true, true, true, true, true, true, true, true, true, true, true, true, true, true, true, false, false, false] rfl rfl (by kernel_rfl) (fun _ _ _ h => h) (Or.inl ⟨by rfl, ?_⟩) ?_ ?_
                          rotate_left
                          · intro w'
                            go_simp
                            with_reducible rfl
                          rotate_left
                          · simp only [Act.put, List.setIfInBounds_toArray, List.set_cons_zero, List.set_cons_succ, i64_w, i32_w]
                            rfl
                          refine pure_ (i := 33) (N := some 121) (v := ?_) (a' := ?_) #[true, true, true, true, true, true, true, true, true, true, true, true, true, true, true, true, true, true, true, true, true, true, true, true, true, true, true, true, true, true, true, true, true, true, false, false] rfl rfl (by kernel_rfl) (fun _ _ _ h => h) (Or.inl ⟨by rfl, ?_⟩) ?_ ?_
                          rotate_left
                          · intro w'
                            go_simp
                            with_reducible rfl
                          rotate_left
                          · simp only [Act.put, List.setIfInBounds_toArray, List.set_cons_zero, List.set_cons_succ, i64_w, i32_w]
                            rfl
                          refine pure_ (i := 34) (N := some 122) (v := ?_) (a' := ?_) #[true, true, true, true, true, true, true, true, true, true, true, true, true, true, true, true, true, true, true, true, true, true, true, true, true, true, true, true, true, true, true, true, true, true, true, false] rfl rfl (by kernel_rfl) (fun _ _ _ h => h) (Or.inl ⟨by rfl, ?_⟩) ?_ ?_
                          rotate_left
                          · intro w'
                            go_simp
                            with_reducible rfl
                          rotate_left
                          · simp only [Act.put, List.setIfInBounds_toArray, List.set_cons_zero, List.set_cons_succ, i64_w, i32_w]
                            rfl
                          refine last_ (i := 35) (N := none) #[true, true, true, true, true, true, true, true, true, true, true, true, true, true, true, true, true, true, true, true, true, true, true, true, true, true, true, true, true, true, true, true, true, true, true, true] rfl rfl (by kernel_rfl) (by decide) (fun K hK => ?_)
                          refine skip_ (w1 := ?_) (by rfl) rfl ?_ ?_
                          rotate_left
                          · go_simp
                            rfl
                          refine hK.out _ _ ?_
                          clear hK K
                          refine done_ (by kernel_rfl) ?_
                          go_wp2
                          go_roundw
                          case rel => exact ⟨t + 1, _, by omega, by simp, HN⟩
                          case measure => simp [intOf]; omega
                      · as_aux_lemma =>
                          have ht16 : ¬ (t : Int) < 16 := by omega
                          obtain ⟨x15, hx15⟩ : ∃ x, x = ws.getD (t - 15) 0 := ⟨_, rfl⟩
                          have c15 := HW.out.cell (t - 15) (by omega)
                          rw [← hx15] at c15
                          have a15 : wrap64 ((t : Int) - 15) = (t : Int) - 15 := by unfold wrap64; omega
                          have b15 : (0 : Int) ≤ (t : Int) - 15 := by omega
                          have d15 : (t : Int) - 15 < 64 := by omega
                          have e15 : ((t : Int) - 15).toNat = t - 15 := by omega
                          have f15 : (15 : Int) ≤ (t : Int) := by omega
                          obtain ⟨x2, hx2⟩ : ∃ x, x = ws.getD (t - 2) 0 := ⟨_, rfl⟩
                          have c2 := HW.out.cell (t - 2) (by omega)
                          rw [← hx2] at c2
                          have a2 : wrap64 ((t : Int) - 2) = (t : Int) - 2 := by unfold wrap64; omega
                          have b2 : (0 : Int) ≤ (t : Int) - 2 := by omega
                          have d2 : (t : Int) - 2 < 64 := by omega
                          have e2 : ((t : Int) - 2).toNat = t - 2 := by omega
                          have f2 : (2 : Int) ≤ (t : Int) := by omega
                          obtain ⟨x16, hx16⟩ : ∃ x, x = ws.getD (t - 16) 0 := ⟨_, rfl⟩
                          have c16 := HW.out.cell (t - 16) (by omega)
                          rw [← hx16] at c16
                          have a16 : wrap64 ((t : Int) - 16) = (t : Int) - 16 := by unfold wrap64; omega
                          have b16 : (0 : Int) ≤ (t : Int) - 16 := by omega
                          have d16 : (t : Int) - 16 < 64 := by omega
                          have e16 : ((t : Int) - 16).toNat = t - 16 := by omega
                          have f16 : (16 : Int) ≤ (t : Int) := by omega
                          obtain ⟨x7, hx7⟩ : ∃ x, x = ws.getD (t - 7) 0 := ⟨_, rfl⟩
                          have c7 := HW.out.cell (t - 7) (by omega)
                          rw [← hx7] at c7
                          have a7 : wrap64 ((t : Int) - 7) = (t : Int) - 7 := by unfold wrap64; omega
                          have b7 : (0 : Int) ≤ (t : Int) - 7 := by omega
                          have d7 : (t : Int) - 7 < 64 := by omega
                          have e7 : ((t : Int) - 7).toNat = t - 7 := by omega
                          have f7 : (7 : Int) ≤ (t : Int) := by omega
                          have hsl := sched_high b t (by omega) hlt
                          rw [← HW.out.at_ (t - 2) (by omega), ← HW.out.at_ (t - 7) (by omega), ← HW.out.at_ (t - 15) (by omega), ← HW.out.at_ (t - 16) (by omega), ← hx2, ← hx7, ← hx15, ← hx16] at hsl
                          have HN := Aside0.mk (fun n => (HW.out.drewN n).set hlt hsl)
                          clear hsl hx2 hx7 hx15 hx16
                          go_wp2_with fail
                          refine start_ (n := 18) (S := fun w' => (w'.cell? ⟨wo.heap.size, t - 15, none⟩ = some (.int .u32 x15))) (ds := []) #[false, false, false, false, false, false, false, false, false, false, false, false, false, false, false, false, false, false] (by kernel_rfl) rfl rfl (c15) (fun hHeld => ?_)
                          refine pure_ (i := 0) (N := some 123) (v := ?_) (a' := ?_) #[true, false, false, false, false, false, false, false, false, false, false, false, false, false, false, false, false, false] rfl rfl (by kernel_rfl) (fun _ _ _ h => h) (Or.inl ⟨by rfl, ?_⟩) ?_ ?_
                          rotate_left
                          · intro w'
                            go_simp
                            with_reducible rfl
                          rotate_left
                          · simp only [Act.put, List.setIfInBounds_toArray, List.set_cons_zero, List.set_cons_succ, i64_w, i32_w]
                            rfl
                          refine pure_ (i := 1) (N := some 124) (v := ?_) (a' := ?_) #[true, true, false, false, false, false, false, false, false, false, false, false, false, false, false, false, false, false] rfl rfl (by kernel_rfl) (fun _ _ _ h => h) (Or.inl ⟨by rfl, ?_⟩) ?_ ?_
                          rotate_left
                          · intro w'
                            go_simp
                            with_reducible rfl
                          rotate_left
                          · simp only [Act.put, List.setIfInBounds_toArray, List.set_cons_zero, List.set_cons_succ, i64_w, i32_w]
                            rfl
                          refine pure_ (i := 2) (N := some 125) (v := ?_) (a' := ?_) #[true, true, true, false, false, false, false, false, false, false, false, false, false, false, false, false, false, false] rfl rfl (by kernel_rfl) (fun _ _ _ h => h) (Or.inl ⟨by rfl, ?_⟩) ?_ ?_
                          rotate_left
                          · intro w'
                            go_simp
                            with_reducible rfl
                          rotate_left
                          · simp only [Act.put, List.setIfInBounds_toArray, List.set_cons_zero, List.set_cons_succ, i64_w, i32_w]
                            rfl
                          refine pure_ (i := 5) (N := some 128) (v := ?_) (a' := ?_) #[true, true, true, false, false, true, false, false, false, false, false, false, false, false, false, false, false, false] rfl rfl (by kernel_rfl) (fun _ _ _ h => h) (Or.inl ⟨by rfl, ?_⟩) ?_ ?_
                          rotate_left
                          · intro w'
                            go_simp
                            with_reducible rfl
                          rotate_left
                          · simp only [Act.put, List.setIfInBounds_toArray, List.set_cons_zero, List.set_cons_succ, i64_w, i32_w]
                            rfl
                          refine pure_ (i := 6) (N := some 129) (v := ?_) (a' := ?_) #[true, true, true, false, false, true, true, false, false, false, false, false, false, false, false, false, false, false] rfl rfl (by kernel_rfl) (fun _ _ _ h => h) (Or.inl ⟨by rfl, ?_⟩) ?_ ?_
                          rotate_left
                          · intro w'
                            go_simp
                            with_reducible rfl
                          rotate_left
                          · simp only [Act.put, List.setIfInBounds_toArray, List.set_cons_zero, List.set_cons_succ, i64_w, i32_w]
                            rfl
                          refine pure_ (i := 7) (N := some 130) (v := ?_) (a' := ?_) #[true, true, true, false, false, true, true, true, false, false, false, false, false, false, false, false, false, false] rfl rfl (by kernel_rfl) (fun _ _ _ h => h) (Or.inl ⟨by rfl, ?_⟩) ?_ ?_
                          rotate_left
                          · intro w'
                            go_simp
                            with_reducible rfl
                          rotate_left
                          · simp only [Act.put, List.setIfInBounds_toArray, List.set_cons_zero, List.set_cons_succ, i64_w, i32_w]
                            rfl
                          refine pure_ (i := 11) (N := some 134) (v := ?_) (a' := ?_) #[true, true, true, false, false, true, true, true, false, false, false, true, false, false, false, false, false, false] rfl rfl (by kernel_rfl) (fun _ _ _ h => h) (Or.inl ⟨by rfl, ?_⟩) ?_ ?_
                          rotate_left
                          · intro w'
                            go_simp
                            with_reducible rfl
                          rotate_left
                          · simp only [Act.put, List.setIfInBounds_toArray, List.set_cons_zero, List.set_cons_succ, i64_w, i32_w]
                            rfl
                          refine pure_ (i := 12) (N := some 135) (v := ?_) (a' := ?_) #[true, true, true, false, false, true, true, true, false, false, false, true, true, false, false, false, false, false] rfl rfl (by kernel_rfl) (fun _ _ _ h => h) (Or.inl ⟨by rfl, ?_⟩) ?_ ?_
                          rotate_left
                          · intro w'
                            go_simp
                            with_reducible rfl
                          rotate_left
                          · simp only [Act.put, List.setIfInBounds_toArray, List.set_cons_zero, List.set_cons_succ, i64_w, i32_w]
                            rfl
                          refine pure_ (i := 13) (N := some 136) (v := ?_) (a' := ?_) #[true, true, true, false, false, true, true, true, false, false, false, true, true, true, false, false, false, false] rfl rfl (by kernel_rfl) (fun _ _ _ h => h) (Or.inl ⟨by rfl, ?_⟩) ?_ ?_
                          rotate_left
                          · intro w'
                            go_simp
                            with_reducible rfl
                          rotate_left
                          · simp only [Act.put, List.setIfInBounds_toArray, List.set_cons_zero, List.set_cons_succ, i64_w, i32_w]
                            rfl
                          refine take_ (i := 3) (N := some 126) (v := ?_) (a' := ?_) #[true, true, true, true, false, true, true, true, false, false, false, true, true, true, false, false, false, false] rfl rfl (by kernel_rfl) (fun _ _ _ h => h) (Or.inl ⟨by rfl, ?_⟩) hHeld ?_ ?_
                          rotate_left
                          · rintro w' s0
                            go_simp
                            with_reducible rfl
                          rotate_left
                          · simp only [Act.put, List.setIfInBounds_toArray, List.set_cons_zero, List.set_cons_succ, i64_w, i32_w]
                            rfl
                          refine take_ (i := 8) (N := some 131) (v := ?_) (a' := ?_) #[true, true, true, true, false, true, true, true, true, false, false, true, true, true, false, false, false, false] rfl rfl (by kernel_rfl) (fun _ _ _ h => h) (Or.inl ⟨by rfl, ?_⟩) hHeld ?_ ?_
                          rotate_left
                          · rintro w' s0
                            go_simp
                            with_reducible rfl
                          rotate_left
                          · simp only [Act.put, List.setIfInBounds_toArray, List.set_cons_zero, List.set_cons_succ, i64_w, i32_w]
                            rfl
                          refine take_ (i := 14) (N := some 137) (v := ?_) (a' := ?_) #[true, true, true, true, false, true, true, true, true, false, false, true, true, true, true, false, false, false] rfl rfl (by kernel_rfl) (fun _ _ _ h => h) (Or.inl ⟨by rfl, ?_⟩) hHeld ?_ ?_
                          rotate_left
                          · rintro w' s0
                            go_simp
                            with_reducible rfl
                          rotate_left
                          · simp only [Act.put, List.setIfInBounds_toArray, List.set_cons_zero, List.set_cons_succ, i64_w, i32_w]
                            rfl
                          refine pure_ (i := 15) (N := some 138) (v := ?_) (a' := ?_) #[true, true, true, true, false, true, true, true, true, false, false, true, true, true, true, true, false, false] rfl rfl (by kernel_rfl) (fun _ _ _ h => h) (Or.inl ⟨by rfl, ?_⟩) ?_ ?_
                          rotate_left
                          · intro w'
                            go_simp
                            with_reducible rfl
                          rotate_left
                          · simp only [Act.put, List.setIfInBounds_toArray, List.set_cons_zero, List.set_cons_succ, i64_w, i32_w]
                            rfl
                          refine one_ (i := 4) (N := some 127) #[true, true, true, true, true, true, true, true, true, false, false, true, true, true, true, true, false, false] rfl rfl (by kernel_rfl) (by decide) (fun K hK => ?_)
                          refine goes_ Try.func26 (by kernel_rfl) rfl #[.int .u32 x15, .int .u64 7] (by rfl) rfl rfl (by simp only [List.map_toArray, List.map_cons, List.map_nil]; rfl) ?_
                          with_reducible refine (turn7 x15 _).mono ?_
                          rintro e w24 ⟨rfl, n24, rfl⟩
                          refine ⟨_, rfl, ?_⟩
                          refine hK.out _ _ (c15) (fun hHeld => ?_)
                          clear hK K
                          refine norm_ (a' := ?_) ?_ ?_
                          rotate_left
                          · show Act.put _ (some 127) _ = _
                            simp only [Act.put, List.setIfInBounds_toArray, List.set_cons_zero, List.set_cons_succ, i64_w, i32_w]
                            rfl
                          refine one_ (i := 9) (N := some 132) #[true, true, true, true, true, true, true, true, true, true, false, true, true, true, true, true, false, false] rfl rfl (by kernel_rfl) (by decide) (fun K hK => ?_)
                          refine goes_ Try.func26 (by kernel_rfl) rfl #[.int .u32 x15, .int .u64 18] (by rfl) rfl rfl (by simp only [List.map_toArray, List.map_cons, List.map_nil]; rfl) ?_
                          with_reducible refine (turn18 x15 _).mono ?_
                          rintro e w25 ⟨rfl, n25, rfl⟩
                          refine ⟨_, rfl, ?_⟩
                          refine hK.out _ _ (c15) (fun hHeld => ?_)
                          clear hK K
                          refine norm_ (a' := ?_) ?_ ?_
                          rotate_left
                          · show Act.put _ (some 132) _ = _
                            simp only [Act.put, List.setIfInBounds_toArray, List.set_cons_zero, List.set_cons_succ, i64_w, i32_w]
                            rfl
                          refine pure_ (i := 10) (N := some 133) (v := ?_) (a' := ?_) #[true, true, true, true, true, true, true, true, true, true, true, true, true, true, true, true, false, false] rfl rfl (by kernel_rfl) (fun _ _ _ h => h) (Or.inl ⟨by rfl, ?_⟩) ?_ ?_
                          rotate_left
                          · intro w'
                            go_simp
                            with_reducible rfl
                          rotate_left
                          · simp only [Act.put, List.setIfInBounds_toArray, List.set_cons_zero, List.set_cons_succ, i64_w, i32_w]
                            rfl
                          refine pure_ (i := 16) (N := some 139) (v := ?_) (a' := ?_) #[true, true, true, true, true, true, true, true, true, true, true, true, true, true, true, true, true, false] rfl rfl (by kernel_rfl) (fun _ _ _ h => h) (Or.inl ⟨by rfl, ?_⟩) ?_ ?_
                          rotate_left
                          · intro w'
                            go_simp
                            with_reducible rfl
                          rotate_left
                          · simp only [Act.put, List.setIfInBounds_toArray, List.set_cons_zero, List.set_cons_succ, i64_w, i32_w]
                            rfl
                          refine pure_ (i := 17) (N := some 13) (v := ?_) (a' := ?_) #[true, true, true, true, true, true, true, true, true, true, true, true, true, true, true, true, true, true] rfl rfl (by kernel_rfl) (fun _ _ _ h => h) (Or.inl ⟨by rfl, ?_⟩) ?_ ?_
                          rotate_left
                          · intro w'
                            go_simp
                            with_reducible rfl
                          rotate_left
                          · simp only [Act.put, List.setIfInBounds_toArray, List.set_cons_zero, List.set_cons_succ, i64_w, i32_w]
                            rfl
                          refine done_ (by kernel_rfl) ?_
                          go_wp2_with fail
                          refine start_ (n := 18) (S := fun w' => (w'.cell? ⟨wo.heap.size, t - 2, none⟩ = some (.int .u32 x2))) (ds := []) #[false, false, false, false, false, false, false, false, false, false, false, false, false, false, false, false, false, false] (by kernel_rfl) rfl rfl (c2) (fun hHeld => ?_)
                          refine pure_ (i := 0) (N := some 140) (v := ?_) (a' := ?_) #[true, false, false, false, false, false, false, false, false, false, false, false, false, false, false, false, false, false] rfl rfl (by kernel_rfl) (fun _ _ _ h => h) (Or.inl ⟨by rfl, ?_⟩) ?_ ?_
                          rotate_left
                          · intro w'
                            go_simp
                            with_reducible rfl
                          rotate_left
                          · simp only [Act.put, List.setIfInBounds_toArray, List.set_cons_zero, List.set_cons_succ, i64_w, i32_w]
                            rfl
                          refine pure_ (i := 1) (N := some 141) (v := ?_) (a' := ?_) #[true, true, false, false, false, false, false, false, false, false, false, false, false, false, false, false, false, false] rfl rfl (by kernel_rfl) (fun _ _ _ h => h) (Or.inl ⟨by rfl, ?_⟩) ?_ ?_
                          rotate_left
                          · intro w'
                            go_simp
                            with_reducible rfl
                          rotate_left
                          · simp only [Act.put, List.setIfInBounds_toArray, List.set_cons_zero, List.set_cons_succ, i64_w, i32_w]
                            rfl
                          refine pure_ (i := 2) (N := some 142) (v := ?_) (a' := ?_) #[true, true, true, false, false, false, false, false, false, false, false, false, false, false, false, false, false, false] rfl rfl (by kernel_rfl) (fun _ _ _ h => h) (Or.inl ⟨by rfl, ?_⟩) ?_ ?_
                          rotate_left
                          · intro w'
                            go_simp
                            with_reducible rfl
                          rotate_left
                          · simp only [Act.put, List.setIfInBounds_toArray, List.set_cons_zero, List.set_cons_succ, i64_w, i32_w]
                            rfl
                          refine pure_ (i := 5) (N := some 145) (v := ?_) (a' := ?_) #[true, true, true, false, false, true, false, false, false, false, false, false, false, false, false, false, false, false] rfl rfl (by kernel_rfl) (fun _ _ _ h => h) (Or.inl ⟨by rfl, ?_⟩) ?_ ?_
                          rotate_left
                          · intro w'
                            go_simp
                            with_reducible rfl
                          rotate_left
                          · simp only [Act.put, List.setIfInBounds_toArray, List.set_cons_zero, List.set_cons_succ, i64_w, i32_w]
                            rfl
                          refine pure_ (i := 6) (N := some 146) (v := ?_) (a' := ?_) #[true, true, true, false, false, true, true, false, false, false, false, false, false, false, false, false, false, false] rfl rfl (by kernel_rfl) (fun _ _ _ h => h) (Or.inl ⟨by rfl, ?_⟩) ?_ ?_
                          rotate_left
                          · intro w'
                            go_simp
                            with_reducible rfl
                          rotate_left
                          · simp only [Act.put, List.setIfInBounds_toArray, List.set_cons_zero, List.set_cons_succ, i64_w, i32_w]
                            rfl
                          refine pure_ (i := 7) (N := some 147) (v := ?_) (a' := ?_) #[true, true, true, false, false, true, true, true, false, false, false, false, false, false, false, false, false, false] rfl rfl (by kernel_rfl) (fun _ _ _ h => h) (Or.inl ⟨by rfl, ?_⟩) ?_ ?_
                          rotate_left
                          · intro w'
                            go_simp
                            with_reducible rfl
                          rotate_left
                          · simp only [Act.put, List.setIfInBounds_toArray, List.set_cons_zero, List.set_cons_succ, i64_w, i32_w]
                            rfl
                          refine pure_ (i := 11) (N := some 151) (v := ?_) (a' := ?_) #[true, true, true, false, false, true, true, true, false, false, false, true, false, false, false, false, false, false] rfl rfl (by kernel_rfl) (fun _ _ _ h => h) (Or.inl ⟨by rfl, ?_⟩) ?_ ?_
                          rotate_left
                          · intro w'
                            go_simp
                            with_reducible rfl
                          rotate_left
                          · simp only [Act.put, List.setIfInBounds_toArray, List.set_cons_zero, List.set_cons_succ, i64_w, i32_w]
                            rfl
                          refine pure_ (i := 12) (N := some 152) (v := ?_) (a' := ?_) #[true, true, true, false, false, true, true, true, false, false, false, true, true, false, false, false, false, false] rfl rfl (by kernel_rfl) (fun _ _ _ h => h) (Or.inl ⟨by rfl, ?_⟩) ?_ ?_
                          rotate_left
                          · intro w'
                            go_simp
                            with_reducible rfl
                          rotate_left
                          · simp only [Act.put, List.setIfInBounds_toArray, List.set_cons_zero, List.set_cons_succ, i64_w, i32_w]
                            rfl
                          refine pure_ (i := 13) (N := some 153) (v := ?_) (a' := ?_) #[true, true, true, false, false, true, true, true, false, false, false, true, true, true, false, false, false, false] rfl rfl (by kernel_rfl) (fun _ _ _ h => h) (Or.inl ⟨by rfl, ?_⟩) ?_ ?_
                          rotate_left
                          · intro w'
                            go_simp
                            with_reducible rfl
                          rotate_left
                          · simp only [Act.put, List.setIfInBounds_toArray, List.set_cons_zero, List.set_cons_succ, i64_w, i32_w]
                            rfl
                          refine take_ (i := 3) (N := some 143) (v := ?_) (a' := ?_) #[true, true, true, true, false, true, true, true, false, false, false, true, true, true, false, false, false, false] rfl rfl (by kernel_rfl) (fun _ _ _ h => h) (Or.inl ⟨by rfl, ?_⟩) hHeld ?_ ?_
                          rotate_left
                          · rintro w' s0
                            go_simp
                            with_reducible rfl
                          rotate_left
                          · simp only [Act.put, List.setIfInBounds_toArray, List.set_cons_zero, List.set_cons_succ, i64_w, i32_w]
                            rfl
                          refine take_ (i := 8) (N := some 148) (v := ?_) (a' := ?_) #[true, true, true, true, false, true, true, true, true, false, false, true, true, true, false, false, false, false] rfl rfl (by kernel_rfl) (fun _ _ _ h => h) (Or.inl ⟨by rfl, ?_⟩) hHeld ?_ ?_
                          rotate_left
                          · rintro w' s0
                            go_simp
                            with_reducible rfl
                          rotate_left
                          · simp only [Act.put, List.setIfInBounds_toArray, List.set_cons_zero, List.set_cons_succ, i64_w, i32_w]
                            rfl
                          refine take_ (i := 14) (N := some 154) (v := ?_) (a' := ?_) #[true, true, true, true, false, true, true, true, true, false, false, true, true, true, true, false, false, false] rfl rfl (by kernel_rfl) (fun _ _ _ h => h) (Or.inl ⟨by rfl, ?_⟩) hHeld ?_ ?_
                          rotate_left
                          · rintro w' s0
                            go_simp
                            with_reducible rfl
                          rotate_left
                          · simp only [Act.put, List.setIfInBounds_toArray, List.set_cons_zero, List.set_cons_succ, i64_w, i32_w]
                            rfl
                          refine pure_ (i := 15) (N := some 155) (v := ?_) (a' := ?_) #[true, true, true, true, false, true, true, true, true, false, false, true, true, true, true, true, false, false] rfl rfl (by kernel_rfl) (fun _ _ _ h => h) (Or.inl ⟨by rfl, ?_⟩) ?_ ?_
                          rotate_left
                          · intro w'
                            go_simp
                            with_reducible rfl
                          rotate_left
                          · simp only [Act.put, List.setIfInBounds_toArray, List.set_cons_zero, List.set_cons_succ, i64_w, i32_w]
                            rfl
                          refine one_ (i := 4) (N := some 144) #[true, true, true, true, true, true, true, true, true, false, false, true, true, true, true, true, false, false] rfl rfl (by kernel_rfl) (by decide) (fun K hK => ?_)
                          refine goes_ Try.func26 (by kernel_rfl) rfl #[.int .u32 x2, .int .u64 17] (by rfl) rfl rfl (by simp only [List.map_toArray, List.map_cons, List.map_nil]; rfl) ?_
                          with_reducible refine (turn17 x2 _).mono ?_
                          rintro e w26 ⟨rfl, n26, rfl⟩
                          refine ⟨_, rfl, ?_⟩
                          refine hK.out _ _ (c2) (fun hHeld => ?_)
                          clear hK K
                          refine norm_ (a' := ?_) ?_ ?_
                          rotate_left
                          · show Act.put _ (some 144) _ = _
                            simp only [Act.put, List.setIfInBounds_toArray, List.set_cons_zero, List.set_cons_succ, i64_w, i32_w]
                            rfl
                          refine one_ (i := 9) (N := some 149) #[true, true, true, true, true, true, true, true, true, true, false, true, true, true, true, true, false, false] rfl rfl (by kernel_rfl) (by decide) (fun K hK => ?_)
                          refine goes_ Try.func26 (by kernel_rfl) rfl #[.int .u32 x2, .int .u64 19] (by rfl) rfl rfl (by simp only [List.map_toArray, List.map_cons, List.map_nil]; rfl) ?_
                          with_reducible refine (turn19 x2 _).mono ?_
                          rintro e w27 ⟨rfl, n27, rfl⟩
                          refine ⟨_, rfl, ?_⟩
                          refine hK.out _ _ (c2) (fun hHeld => ?_)
                          clear hK K
                          refine norm_ (a' := ?_) ?_ ?_
                          rotate_left
                          · show Act.put _ (some 149) _ = _
                            simp only [Act.put, List.setIfInBounds_toArray, List.set_cons_zero, List.set_cons_succ, i64_w, i32_w]
                            rfl
                          refine pure_ (i := 10) (N := some 150) (v := ?_) (a' := ?_) #[true, true, true, true, true, true, true, true, true, true, true, true, true, true, true, true, false, false] rfl rfl (by kernel_rfl) (fun _ _ _ h => h) (Or.inl ⟨by rfl, ?_⟩) ?_ ?_
                          rotate_left
                          · intro w'
                            go_simp
                            with_reducible rfl
                          rotate_left
                          · simp only [Act.put, List.setIfInBounds_toArray, List.set_cons_zero, List.set_cons_succ, i64_w, i32_w]
                            rfl
                          refine pure_ (i := 16) (N := some 156) (v := ?_) (a' := ?_) #[true, true, true, true, true, true, true, true, true, true, true, true, true, true, true, true, true, false] rfl rfl (by kernel_rfl) (fun _ _ _ h => h) (Or.inl ⟨by rfl, ?_⟩) ?_ ?_
                          rotate_left
                          · intro w'
                            go_simp
                            with_reducible rfl
                          rotate_left
                          · simp only [Act.put, List.setIfInBounds_toArray, List.set_cons_zero, List.set_cons_succ, i64_w, i32_w]
                            rfl
                          refine pure_ (i := 17) (N := some 14) (v := ?_) (a' := ?_) #[true, true, true, true, true, true, true, true, true, true, true, true, true, true, true, true, true, true] rfl rfl (by kernel_rfl) (fun _ _ _ h => h) (Or.inl ⟨by rfl, ?_⟩) ?_ ?_
                          rotate_left
                          · intro w'
                            go_simp
                            with_reducible rfl
                          rotate_left
                          · simp only [Act.put, List.setIfInBounds_toArray, List.set_cons_zero, List.set_cons_succ, i64_w, i32_w]
                            rfl
                          refine done_ (by kernel_rfl) ?_
                          go_wp2_with fail
                          refine start_ (n := 16) (S := fun w' => (w'.cell? ⟨wo.heap.size, t, none⟩ = some (.int .u32 xi)) ∧ (w'.cell? ⟨wo.heap.size, t - 7, none⟩ = some (.int .u32 x7)) ∧ (w'.cell? ⟨wo.heap.size, t - 16, none⟩ = some (.int .u32 x16))) (ds := [15]) #[false, false, false, false, false, false, false, false, false, false, false, false, false, false, false, false] (by kernel_rfl) rfl rfl ⟨ci, c7, c16⟩ (fun hHeld => ?_)
                          refine pure_ (i := 0) (N := some 157) (v := ?_) (a' := ?_) #[true, false, false, false, false, false, false, false, false, false, false, false, false, false, false, false] rfl rfl (by kernel_rfl) (fun _ _ _ h => h) (Or.inl ⟨by rfl, ?_⟩) ?_ ?_
                          rotate_left
                          · intro w'
                            go_simp
                            with_reducible rfl
                          rotate_left
                          · simp only [Act.put, List.setIfInBounds_toArray, List.set_cons_zero, List.set_cons_succ, i64_w, i32_w]
                            rfl
                          refine pure_ (i := 1) (N := some 158) (v := ?_) (a' := ?_) #[true, true, false, false, false, false, false, false, false, false, false, false, false, false, false, false] rfl rfl (by kernel_rfl) (fun _ _ _ h => h) (Or.inl ⟨by rfl, ?_⟩) ?_ ?_
                          rotate_left
                          · intro w'
                            go_simp
                            with_reducible rfl
                          rotate_left
                          · simp only [Act.put, List.setIfInBounds_toArray, List.set_cons_zero, List.set_cons_succ, i64_w, i32_w]
                            rfl
                          refine pure_ (i := 2) (N := some 159) (v := ?_) (a' := ?_) #[true, true, true, false, false, false, false, false, false, false, false, false, false, false, false, false] rfl rfl (by kernel_rfl) (fun _ _ _ h => h) (Or.inl ⟨by rfl, ?_⟩) ?_ ?_
                          rotate_left
                          · intro w'
                            go_simp
                            with_reducible rfl
                          rotate_left
                          · simp only [Act.put, List.setIfInBounds_toArray, List.set_cons_zero, List.set_cons_succ, i64_w, i32_w]
                            rfl
                          refine pure_ (i := 3) (N := some 160) (v := ?_) (a' := ?_) #[true, true, true, true, false, false, false, false, false, false, false, false, false, false, false, false] rfl rfl (by kernel_rfl) (fun _ _ _ h => h) (Or.inl ⟨by rfl, ?_⟩) ?_ ?_
                          rotate_left
                          · intro w'
                            go_simp
                            with_reducible rfl
                          rotate_left
                          · simp only [Act.put, List.setIfInBounds_toArray, List.set_cons_zero, List.set_cons_succ, i64_w, i32_w]
                            rfl
                          refine pure_ (i := 4) (N := some 161) (v := ?_) (a' := ?_) #[true, true, true, true, true, false, false, false, false, false, false, false, false, false, false, false] rfl rfl (by kernel_rfl) (fun _ _ _ h => h) (Or.inl ⟨by rfl, ?_⟩) ?_ ?_
                          rotate_left
                          · intro w'
                            go_simp
                            with_reducible rfl
                          rotate_left
                          · simp only [Act.put, List.setIfInBounds_toArray, List.set_cons_zero, List.set_cons_succ, i64_w, i32_w]
                            rfl
                          refine pure_ (i := 7) (N := some 164) (v := ?_) (a' := ?_) #[true, true, true, true, true, false, false, true, false, false, false, false, false, false, false, false] rfl rfl (by kernel_rfl) (fun _ _ _ h => h) (Or.inl ⟨by rfl, ?_⟩) ?_ ?_
                          rotate_left
                          · intro w'
                            go_simp
                            with_reducible rfl
                          rotate_left
                          · simp only [Act.put, List.setIfInBounds_toArray, List.set_cons_zero, List.set_cons_succ, i64_w, i32_w]
                            rfl
                          refine pure_ (i := 9) (N := some 166) (v := ?_) (a' := ?_) #[true, true, true, true, true, false, false, true, false, true, false, false, false, false, false, false] rfl rfl (by kernel_rfl) (fun _ _ _ h => h) (Or.inl ⟨by rfl, ?_⟩) ?_ ?_
                          rotate_left
                          · intro w'
                            go_simp
                            with_reducible rfl
                          rotate_left
                          · simp only [Act.put, List.setIfInBounds_toArray, List.set_cons_zero, List.set_cons_succ, i64_w, i32_w]
                            rfl
                          refine pure_ (i := 10) (N := some 167) (v := ?_) (a' := ?_) #[true, true, true, true, true, false, false, true, false, true, true, false, false, false, false, false] rfl rfl (by kernel_rfl) (fun _ _ _ h => h) (Or.inl ⟨by rfl, ?_⟩) ?_ ?_
                          rotate_left
                          · intro w'
                            go_simp
                            with_reducible rfl
                          rotate_left
                          · simp only [Act.put, List.setIfInBounds_toArray, List.set_cons_zero, List.set_cons_succ, i64_w, i32_w]
                            rfl
                          refine pure_ (i := 11) (N := some 168) (v := ?_) (a' := ?_) #[true, true, true, true, true, false, false, true, false, true, true, true, false, false, false, false] rfl rfl (by kernel_rfl) (fun _ _ _ h => h) (Or.inl ⟨by rfl, ?_⟩) ?_ ?_
                          rotate_left
                          · intro w'
                            go_simp
                            with_reducible rfl
                          rotate_left
                          · simp only [Act.put, List.setIfInBounds_toArray, List.set_cons_zero, List.set_cons_succ, i64_w, i32_w]
                            rfl
                          refine take_ (i := 5) (N := some 162) (v := ?_) (a' := ?_) #[true, true, true, true, true, true, false, true, false, true, true, true, false, false, false, false] rfl rfl (by kernel_rfl) (fun _ _ _ h => h) (Or.inl ⟨by rfl, ?_⟩) hHeld ?_ ?_
                          rotate_left
                          · rintro w' ⟨s0, s1, s2⟩
                            go_simp
                            with_reducible rfl
                          rotate_left
                          · simp only [Act.put, List.setIfInBounds_toArray, List.set_cons_zero, List.set_cons_succ, i64_w, i32_w]
                            rfl
                          refine pure_ (i := 6) (N := some 163) (v := ?_) (a' := ?_) #[true, true, true, true, true, true, true, true, false, true, true, true, false, false, false, false] rfl rfl (by kernel_rfl) (fun _ _ _ h => h) (Or.inl ⟨by rfl, ?_⟩) ?_ ?_
                          rotate_left
                          · intro w'
                            go_simp
                            with_reducible rfl
                          rotate_left
                          · simp only [Act.put, List.setIfInBounds_toArray, List.set_cons_zero, List.set_cons_succ, i64_w, i32_w]
                            rfl
                          refine pure_ (i := 8) (N := some 165) (v := ?_) (a' := ?_) #[true, true, true, true, true, true, true, true, true, true, true, true, false, false, false, false] rfl rfl (by kernel_rfl) (fun _ _ _ h => h) (Or.inl ⟨by rfl, ?_⟩) ?_ ?_
                          rotate_left
                          · intro w'
                            go_simp
                            with_reducible rfl
                          rotate_left
                          · simp only [Act.put, List.setIfInBounds_toArray, List.set_cons_zero, List.set_cons_succ, i64_w, i32_w]
                            rfl
                          refine take_ (i := 12) (N := some 169) (v := ?_) (a' := ?_) #[true, true, true, true, true, true, true, true, true, true, true, true, true, false, false, false] rfl rfl (by kernel_rfl) (fun _ _ _ h => h) (Or.inl ⟨by rfl, ?_⟩) hHeld ?_ ?_
                          rotate_left
                          · rintro w' ⟨s0, s1, s2⟩
                            go_simp
                            with_reducible rfl
                          rotate_left
                          · simp only [Act.put, List.setIfInBounds_toArray, List.set_cons_zero, List.set_cons_succ, i64_w, i32_w]
                            rfl
                          refine pure_ (i := 13) (N := some 170) (v := ?_) (a' := ?_) #[true, true, true, true, true, true, true, true, true, true, true, true, true, true, false, false] rfl rfl (by kernel_rfl) (fun _ _ _ h => h) (Or.inl ⟨by rfl, ?_⟩) ?_ ?_
                          rotate_left
                          · intro w'
                            go_simp
                            with_reducible rfl
                          rotate_left
                          · simp only [Act.put, List.setIfInBounds_toArray, List.set_cons_zero, List.set_cons_succ, i64_w, i32_w]
                            rfl
                          refine pure_ (i := 14) (N := some 171) (v := ?_) (a' := ?_) #[true, true, true, true, true, true, true, true, true, true, true, true, true, true, true, false] rfl rfl (by kernel_rfl) (fun _ _ _ h => h) (Or.inl ⟨by rfl, ?_⟩) ?_ ?_
                          rotate_left
                          · intro w'
                            go_simp
                            with_reducible rfl
                          rotate_left
                          · simp only [Act.put, List.setIfInBounds_toArray, List.set_cons_zero, List.set_cons_succ, i64_w, i32_w]
                            rfl
                          refine last_ (i := 15) (N := none) #[true, true, true, true, true, true, true, true, true, true, true, true, true, true, true, true] rfl rfl (by kernel_rfl) (by decide) (fun K hK => ?_)
                          refine skip_ (w1 := ?_) (by rfl) rfl ?_ ?_
                          rotate_left
                          · go_simp
                            rfl
                          refine hK.out _ _ ?_
                          clear hK K
                          refine done_ (by kernel_rfl) ?_
                          go_wp2
                          go_roundw
                          case rel => exact ⟨t + 1, _, by omega, by simp, ⟨(HN.out _)⟩⟩
                          case measure => simp [intOf]; omega
                    · have ht64 : t = 64 := by omega
                      subst ht64
                      have hws : ws = sched b := by
                        have := HW.out.eq
                        rwa [List.take_of_length_le (by rw [HW.out.len]; exact Nat.le_refl _), List.take_of_length_le (by rw [sched_length]; exact Nat.le_refl _)] at this
                      have HWS := Aside0.mk hws
                      obtain ⟨h0, h1, h2, h3, h4, h5, h6, h7, hhe⟩ := eight HHL.out
                      subst hhe
                      have hhr : wr.heap[w1.heap.size]? = some (.cells (words [h0, h1, h2, h3, h4, h5, h6, h7]) 46 (0, 0)) := (HW.out.bel.block _ (blk_lt HH.out)).trans HH.out
                      have HHR := Aside0.mk hhr
                      have ch0 := words_cell hhr (i := 0) (x := h0) rfl
                      have ch1 := words_cell hhr (i := 1) (x := h1) rfl
                      have ch2 := words_cell hhr (i := 2) (x := h2) rfl
                      have ch3 := words_cell hhr (i := 3) (x := h3) rfl
                      have ch4 := words_cell hhr (i := 4) (x := h4) rfl
                      have ch5 := words_cell hhr (i := 5) (x := h5) rfl
                      have ch6 := words_cell hhr (i := 6) (x := h6) rfl
                      have ch7 := words_cell hhr (i := 7) (x := h7) rfl
                      clear hws hhr hlt ht
                      go_wp2_with fail
                      refine start_ (n := 24) (S := fun w' => (w'.cell? ⟨w1.heap.size, 0, none⟩ = some (.int .u32 h0)) ∧ (w'.cell? ⟨w1.heap.size, 1, none⟩ = some (.int .u32 h1)) ∧ (w'.cell? ⟨w1.heap.size, 2, none⟩ = some (.int .u32 h2)) ∧ (w'.cell? ⟨w1.heap.size, 3, none⟩ = some (.int .u32 h3)) ∧ (w'.cell? ⟨w1.heap.size, 4, none⟩ = some (.int .u32 h4)) ∧ (w'.cell? ⟨w1.heap.size, 5, none⟩ = some (.int .u32 h5)) ∧ (w'.cell? ⟨w1.heap.size, 6, none⟩ = some (.int .u32 h6)) ∧ (w'.cell? ⟨w1.heap.size, 7, none⟩ = some (.int .u32 h7))) (ds := []) #[false, false, false, false, false, false, false, false, false, false, false, false, false, false, false, false, false, false, false, false, false, false, false, false] (by kernel_rfl) rfl rfl ⟨ch0, ch1, ch2, ch3, ch4, ch5, ch6, ch7⟩ (fun hHeld => ?_)
                      refine pure_ (i := 0) (N := some 173) (v := ?_) (a' := ?_) #[true, false, false, false, false, false, false, false, false, false, false, false, false, false, false, false, false, false, false, false, false, false, false, false] rfl rfl (by kernel_rfl) (fun _ _ _ h => h) (Or.inl ⟨by rfl, ?_⟩) ?_ ?_
                      rotate_left
                      · intro w'
                        go_simp
                        with_reducible rfl
                      rotate_left
                      · simp only [Act.put, List.setIfInBounds_toArray, List.set_cons_zero, List.set_cons_succ, i64_w, i32_w]
                        rfl
                      refine pure_ (i := 2) (N := some 175) (v := ?_) (a' := ?_) #[true, false, true, false, false, false, false, false, false, false, false, false, false, false, false, false, false, false, false, false, false, false, false, false] rfl rfl (by kernel_rfl) (fun _ _ _ h => h) (Or.inl ⟨by rfl, ?_⟩) ?_ ?_
                      rotate_left
                      · intro w'
                        go_simp
                        with_reducible rfl
                      rotate_left
                      · simp only [Act.put, List.setIfInBounds_toArray, List.set_cons_zero, List.set_cons_succ, i64_w, i32_w]
                        rfl
                      refine pure_ (i := 4) (N := some 177) (v := ?_) (a' := ?_) #[true, false, true, false, true, false, false, false, false, false, false, false, false, false, false, false, false, false, false, false, false, false, false, false] rfl rfl (by kernel_rfl) (fun _ _ _ h => h) (Or.inl ⟨by rfl, ?_⟩) ?_ ?_
                      rotate_left
                      · intro w'
                        go_simp
                        with_reducible rfl
                      rotate_left
                      · simp only [Act.put, List.setIfInBounds_toArray, List.set_cons_zero, List.set_cons_succ, i64_w, i32_w]
                        rfl
                      refine pure_ (i := 6) (N := some 179) (v := ?_) (a' := ?_) #[true, false, true, false, true, false, true, false, false, false, false, false, false, false, false, false, false, false, false, false, false, false, false, false] rfl rfl (by kernel_rfl) (fun _ _ _ h => h) (Or.inl ⟨by rfl, ?_⟩) ?_ ?_
                      rotate_left
                      · intro w'
                        go_simp
                        with_reducible rfl
                      rotate_left
                      · simp only [Act.put, List.setIfInBounds_toArray, List.set_cons_zero, List.set_cons_succ, i64_w, i32_w]
                        rfl
                      refine pure_ (i := 8) (N := some 181) (v := ?_) (a' := ?_) #[true, false, true, false, true, false, true, false, true, false, false, false, false, false, false, false, false, false, false, false, false, false, false, false] rfl rfl (by kernel_rfl) (fun _ _ _ h => h) (Or.inl ⟨by rfl, ?_⟩) ?_ ?_
                      rotate_left
                      · intro w'
                        go_simp
                        with_reducible rfl
                      rotate_left
                      · simp only [Act.put, List.setIfInBounds_toArray, List.set_cons_zero, List.set_cons_succ, i64_w, i32_w]
                        rfl
                      refine pure_ (i := 10) (N := some 183) (v := ?_) (a' := ?_) #[true, false, true, false, true, false, true, false, true, false, true, false, false, false, false, false, false, false, false, false, false, false, false, false] rfl rfl (by kernel_rfl) (fun _ _ _ h => h) (Or.inl ⟨by rfl, ?_⟩) ?_ ?_
                      rotate_left
                      · intro w'
                        go_simp
                        with_reducible rfl
                      rotate_left
                      · simp only [Act.put, List.setIfInBounds_toArray, List.set_cons_zero, List.set_cons_succ, i64_w, i32_w]
                        rfl
                      refine pure_ (i := 12) (N := some 185) (v := ?_) (a' := ?_) #[true, false, true, false, true, false, true, false, true, false, true, false, true, false, false, false, false, false, false, false, false, false, false, false] rfl rfl (by kernel_rfl) (fun _ _ _ h => h) (Or.inl ⟨by rfl, ?_⟩) ?_ ?_
                      rotate_left
                      · intro w'
                        go_simp
                        with_reducible rfl
                      rotate_left
                      · simp only [Act.put, List.setIfInBounds_toArray, List.set_cons_zero, List.set_cons_succ, i64_w, i32_w]
                        rfl
                      refine pure_ (i := 14) (N := some 187) (v := ?_) (a' := ?_) #[true, false, true, false, true, false, true, false, true, false, true, false, true, false, true, false, false, false, false, false, false, false, false, false] rfl rfl (by kernel_rfl) (fun _ _ _ h => h) (Or.inl ⟨by rfl, ?_⟩) ?_ ?_
                      rotate_left
                      · intro w'
                        go_simp
                        with_reducible rfl
                      rotate_left
                      · simp only [Act.put, List.setIfInBounds_toArray, List.set_cons_zero, List.set_cons_succ, i64_w, i32_w]
                        rfl
                      refine take_ (i := 1) (N := some 174) (v := ?_) (a' := ?_) #[true, true, true, false, true, false, true, false, true, false, true, false, true, false, true, false, false, false, false, false, false, false, false, false] rfl rfl (by kernel_rfl) (fun _ _ _ h => h) (Or.inl ⟨by rfl, ?_⟩) hHeld ?_ ?_
                      rotate_left
                      · rintro w' ⟨s0, s1, s2, s3, s4, s5, s6, s7⟩
                        go_simp
                        with_reducible rfl
                      rotate_left
                      · simp only [Act.put, List.setIfInBounds_toArray, List.set_cons_zero, List.set_cons_succ, i64_w, i32_w]
                        rfl
                      refine pure_ (i := 16) (N := some 15) (v := ?_) (a' := ?_) #[true, true, true, false, true, false, true, false, true, false, true, false, true, false, true, false, true, false, false, false, false, false, false, false] rfl rfl (by kernel_rfl) (fun _ _ _ h => h) (Or.inl ⟨by rfl, ?_⟩) ?_ ?_
                      rotate_left
                      · intro w'
                        go_simp
                        with_reducible rfl
                      rotate_left
                      · simp only [Act.put, List.setIfInBounds_toArray, List.set_cons_zero, List.set_cons_succ, i64_w, i32_w]
                        rfl
                      refine take_ (i := 3) (N := some 176) (v := ?_) (a' := ?_) #[true, true, true, true, true, false, true, false, true, false, true, false, true, false, true, false, true, false, false, false, false, false, false, false] rfl rfl (by kernel_rfl) (fun _ _ _ h => h) (Or.inl ⟨by rfl, ?_⟩) hHeld ?_ ?_
                      rotate_left
                      · rintro w' ⟨s0, s1, s2, s3, s4, s5, s6, s7⟩
                        go_simp
                        with_reducible rfl
                      rotate_left
                      · simp only [Act.put, List.setIfInBounds_toArray, List.set_cons_zero, List.set_cons_succ, i64_w, i32_w]
                        rfl
                      refine pure_ (i := 17) (N := some 16) (v := ?_) (a' := ?_) #[true, true, true, true, true, false, true, false, true, false, true, false, true, false, true, false, true, true, false, false, false, false, false, false] rfl rfl (by kernel_rfl) (fun _ _ _ h => h) (Or.inl ⟨by rfl, ?_⟩) ?_ ?_
                      rotate_left
                      · intro w'
                        go_simp
                        with_reducible rfl
                      rotate_left
                      · simp only [Act.put, List.setIfInBounds_toArray, List.set_cons_zero, List.set_cons_succ, i64_w, i32_w]
                        rfl
                      refine take_ (i := 5) (N := some 178) (v := ?_) (a' := ?_) #[true, true, true, true, true, true, true, false, true, false, true, false, true, false, true, false, true, true, false, false, false, false, false, false] rfl rfl (by kernel_rfl) (fun _ _ _ h => h) (Or.inl ⟨by rfl, ?_⟩) hHeld ?_ ?_
                      rotate_left
                      · rintro w' ⟨s0, s1, s2, s3, s4, s5, s6, s7⟩
                        go_simp
                        with_reducible rfl
                      rotate_left
                      · simp only [Act.put, List.setIfInBounds_toArray, List.set_cons_zero, List.set_cons_succ, i64_w, i32_w]
                        rfl
                      refine pure_ (i := 18) (N := some 17) (v := ?_) (a' := ?_) #[true, true, true, true, true, true, true, false, true, false, true, false, true, false, true, false, true, true, true, false, false, false, false, false] rfl rfl (by kernel_rfl) (fun _ _ _ h => h) (Or.inl ⟨by rfl, ?_⟩) ?_ ?_
                      rotate_left
                      · intro w'
                        go_simp
                        with_reducible rfl
                      rotate_left
                      · simp only [Act.put, List.setIfInBounds_toArray, List.set_cons_zero, List.set_cons_succ, i64_w, i32_w]
                        rfl
                      refine take_ (i := 7) (N := some 180) (v := ?_) (a' := ?_) #[true, true, true, true, true, true, true, true, true, false, true, false, true, false, true, false, true, true, true, false, false, false, false, false] rfl rfl (by kernel_rfl) (fun _ _ _ h => h) (Or.inl ⟨by rfl, ?_⟩) hHeld ?_ ?_
                      rotate_left
                      · rintro w' ⟨s0, s1, s2, s3, s4, s5, s6, s7⟩
                        go_simp
                        with_reducible rfl
                      rotate_left
                      · simp only [Act.put, List.setIfInBounds_toArray, List.set_cons_zero, List.set_cons_succ, i64_w, i32_w]
                        rfl
                      refine pure_ (i := 19) (N := some 18) (v := ?_) (a' := ?_) #[true, true, true, true, true, true, true, true, true, false, true, false, true, false, true, false, true, true, true, true, false, false, false, false] rfl rfl (by kernel_rfl) (fun _ _ _ h => h) (Or.inl ⟨by rfl, ?_⟩) ?_ ?_
                      rotate_left
                      · intro w'
                        go_simp
                        with_reducible rfl
                      rotate_left
                      · simp only [Act.put, List.setIfInBounds_toArray, List.set_cons_zero, List.set_cons_succ, i64_w, i32_w]
                        rfl
                      refine take_ (i := 9) (N := some 182) (v := ?_) (a' := ?_) #[true, true, true, true, true, true, true, true, true, true, true, false, true, false, true, false, true, true, true, true, false, false, false, false] rfl rfl (by kernel_rfl) (fun _ _ _ h => h) (Or.inl ⟨by rfl, ?_⟩) hHeld ?_ ?_
                      rotate_left
                      · rintro w' ⟨s0, s1, s2, s3, s4, s5, s6, s7⟩
                        go_simp
                        with_reducible rfl
                      rotate_left
                      · simp only [Act.put, List.setIfInBounds_toArray, List.set_cons_zero, List.set_cons_succ, i64_w, i32_w]
                        rfl
                      refine pure_ (i := 20) (N := some 19) (v := ?_) (a' := ?_) #[true, true, true, true, true, true, true, true, true, true, true, false, true, false, true, false, true, true, true, true, true, false, false, false] rfl rfl (by kernel_rfl) (fun _ _ _ h => h) (Or.inl ⟨by rfl, ?_⟩) ?_ ?_
                      rotate_left
                      · intro w'
                        go_simp
                        with_reducible rfl
                      rotate_left
                      · simp only [Act.put, List.setIfInBounds_toArray, List.set_cons_zero, List.set_cons_succ, i64_w, i32_w]
                        rfl
                      refine take_ (i := 11) (N := some 184) (v := ?_) (a' := ?_) #[true, true, true, true, true, true, true, true, true, true, true, true, true, false, true, false, true, true, true, true, true, false, false, false] rfl rfl (by kernel_rfl) (fun _ _ _ h => h) (Or.inl ⟨by rfl, ?_⟩) hHeld ?_ ?_
                      rotate_left
                      · rintro w' ⟨s0, s1, s2, s3, s4, s5, s6, s7⟩
                        go_simp
                        with_reducible rfl
                      rotate_left
                      · simp only [Act.put, List.setIfInBounds_toArray, List.set_cons_zero, List.set_cons_succ, i64_w, i32_w]
                        rfl
                      refine pure_ (i := 21) (N := some 20) (v := ?_) (a' := ?_) #[true, true, true, true, true, true, true, true, true, true, true, true, true, false, true, false, true, true, true, true, true, true, false, false] rfl rfl (by kernel_rfl) (fun _ _ _ h => h) (Or.inl ⟨by rfl, ?_⟩) ?_ ?_
                      rotate_left
                      · intro w'
                        go_simp
                        with_reducible rfl
                      rotate_left
                      · simp only [Act.put, List.setIfInBounds_toArray, List.set_cons_zero, List.set_cons_succ, i64_w, i32_w]
                        rfl
                      refine take_ (i := 13) (N := some 186) (v := ?_) (a' := ?_) #[true, true, true, true, true, true, true, true, true, true, true, true, true, true, true, false, true, true, true, true, true, true, false, false] rfl rfl (by kernel_rfl) (fun _ _ _ h => h) (Or.inl ⟨by rfl, ?_⟩) hHeld ?_ ?_
                      rotate_left
                      · rintro w' ⟨s0, s1, s2, s3, s4, s5, s6, s7⟩
                        go_simp
                        with_reducible rfl
                      rotate_left
                      · simp only [Act.put, List.setIfInBounds_toArray, List.set_cons_zero, List.set_cons_succ, i64_w, i32_w]
                        rfl
                      refine pure_ (i := 22) (N := some 21) (v := ?_) (a' := ?_) #[true, true, true, true, true, true, true, true, true, true, true, true, true, true, true, false, true, true, true, true, true, true, true, false] rfl rfl (by kernel_rfl) (fun _ _ _ h => h) (Or.inl ⟨by rfl, ?_⟩) ?_ ?_
                      rotate_left
                      · intro w'
                        go_simp
                        with_reducible rfl
                      rotate_left
                      · simp only [Act.put, List.setIfInBounds_toArray, List.set_cons_zero, List.set_cons_succ, i64_w, i32_w]
                        rfl
                      refine take_ (i := 15) (N := some 188) (v := ?_) (a' := ?_) #[true, true, true, true, true, true, true, true, true, true, true, true, true, true, true, true, true, true, true, true, true, true, true, false] rfl rfl (by kernel_rfl) (fun _ _ _ h => h) (Or.inl ⟨by rfl, ?_⟩) hHeld ?_ ?_
                      rotate_left
                      · rintro w' ⟨s0, s1, s2, s3, s4, s5, s6, s7⟩
                        go_simp
                        with_reducible rfl
                      rotate_left
                      · simp only [Act.put, List.setIfInBounds_toArray, List.set_cons_zero, List.set_cons_succ, i64_w, i32_w]
                        rfl
                      refine pure_ (i := 23) (N := some 22) (v := ?_) (a' := ?_) #[true, true, true, true, true, true, true, true, true, true, true, true, true, true, true, true, true, true, true, true, true, true, true, true] rfl rfl (by kernel_rfl) (fun _ _ _ h => h) (Or.inl ⟨by rfl, ?_⟩) ?_ ?_
                      rotate_left
                      · intro w'
                        go_simp
                        with_reducible rfl
                      rotate_left
                      · simp only [Act.put, List.setIfInBounds_toArray, List.set_cons_zero, List.set_cons_succ, i64_w, i32_w]
                        rfl
                      refine done_ (by kernel_rfl) ?_
                      have HD0 := Aside0.mk HW.out.drew
                      have HR0' := Aside0.mk (show rounds ws 0 [h0, h1, h2, h3, h4, h5, h6, h7] = [h0, h1, h2, h3, h4, h5, h6, h7] from rfl)
                      clear HW ch0 ch1 ch2 ch3 ch4 ch5 ch6 ch7
                      go_wp2_with fail
                      go_loopw [189, 15, 16, 17, 18, 19, 20, 21, 22] (fun v189 v15 v16 v17 v18 v19 v20 v21 v22 wr => ∃ (t : Nat) (x0 x1 x2 x3 x4 x5 x6 x7 : Int), t ≤ 64 ∧ v189 = .int .i64 (t : Int) ∧ v15 = .int .u32 x0 ∧ v16 = .int .u32 x1 ∧ v17 = .int .u32 x2 ∧ v18 = .int .u32 x3 ∧ v19 = .int .u32 x4 ∧ v20 = .int .u32 x5 ∧ v21 = .int .u32 x6 ∧ v22 = .int .u32 x7 ∧ Aside0 (rounds ws t [h0, h1, h2, h3, h4, h5, h6, h7] = [x0, x1, x2, x3, x4, x5, x6, x7]) ∧ Aside0 (RfW wo wr b ws 64)) (fun v _ _ _ _ _ _ _ _ _ => 64 - (intOf v).toNat)
                      case atStart => exact ⟨0, _, _, _, _, _, _, _, _, by omega, rfl, rfl, rfl, rfl, rfl, rfl, rfl, rfl, rfl, HR0', HD0⟩
                      case round =>
                        obtain ⟨t, x0, x1, x2, x3, x4, x5, x6, x7, ht, rfl, rfl, rfl, rfl, rfl, rfl, rfl, rfl, rfl, HRR, HW⟩ := hrel
                        by_cases hlt : t < 64
                        · as_aux_lemma =>
                            obtain ⟨kv, hkv⟩ : ∃ x, x = KS.getD t 0 := ⟨_, rfl⟩
                            obtain ⟨wt, hwt⟩ : ∃ x, x = ws.getD t 0 := ⟨_, rfl⟩
                            have hks : KS[t]? = some kv := by rw [hkv, List.getD_eq_getElem?_getD, List.getElem?_eq_getElem (show t < KS.length from hlt)]; rfl
                            have ck : wr.cell? ⟨w1.heap.size + 1, t, none⟩ = some (.int .u32 kv) := words_cell ((HW.out.bel.block _ (blk_lt HKK.out)).trans HKK.out) hks
                            have cw := HW.out.cell t hlt
                            rw [← hwt] at cw
                            have ht64 : (t : Int) < 64 := by omega
                            have HN := Aside0.mk (show rounds ws (t + 1) [h0, h1, h2, h3, h4, h5, h6, h7] = rnd kv wt [x0, x1, x2, x3, x4, x5, x6, x7] by
                              rw [← HRR.out, hkv, hwt]
                              rfl)
                            clear hkv hwt hks
                            go_wp2_with fail
                            refine start_ (n := 28) (S := fun w' => (w'.cell? ⟨w1.heap.size + 1, t, none⟩ = some (.int .u32 kv)) ∧ (w'.cell? ⟨wo.heap.size, t, none⟩ = some (.int .u32 wt))) (ds := []) #[false, false, false, false, false, false, false, false, false, false, false, false, false, false, false, false, false, false, false, false, false, false, false, false, false, false, false, false] (by kernel_rfl) rfl rfl ⟨ck, cw⟩ (fun hHeld => ?_)
                            refine pure_ (i := 0) (N := some 192) (v := ?_) (a' := ?_) #[true, false, false, false, false, false, false, false, false, false, false, false, false, false, false, false, false, false, false, false, false, false, false, false, false, false, false, false] rfl rfl (by kernel_rfl) (fun _ _ _ h => h) (Or.inl ⟨by rfl, ?_⟩) ?_ ?_
                            rotate_left
                            · intro w'
                              go_simp
                              with_reducible rfl
                            rotate_left
                            · simp only [Act.put, List.setIfInBounds_toArray, List.set_cons_zero, List.set_cons_succ, i64_w, i32_w]
                              rfl
                            refine pure_ (i := 1) (N := some 193) (v := ?_) (a' := ?_) #[true, true, false, false, false, false, false, false, false, false, false, false, false, false, false, false, false, false, false, false, false, false, false, false, false, false, false, false] rfl rfl (by kernel_rfl) (fun _ _ _ h => h) (Or.inl ⟨by rfl, ?_⟩) ?_ ?_
                            rotate_left
                            · intro w'
                              go_simp
                              with_reducible rfl
                            rotate_left
                            · simp only [Act.put, List.setIfInBounds_toArray, List.set_cons_zero, List.set_cons_succ, i64_w, i32_w]
                              rfl
                            refine pure_ (i := 3) (N := some 195) (v := ?_) (a' := ?_) #[true, true, false, true, false, false, false, false, false, false, false, false, false, false, false, false, false, false, false, false, false, false, false, false, false, false, false, false] rfl rfl (by kernel_rfl) (fun _ _ _ h => h) (Or.inl ⟨by rfl, ?_⟩) ?_ ?_
                            rotate_left
                            · intro w'
                              go_simp
                              with_reducible rfl
                            rotate_left
                            · simp only [Act.put, List.setIfInBounds_toArray, List.set_cons_zero, List.set_cons_succ, i64_w, i32_w]
                              rfl
                            refine pure_ (i := 6) (N := some 198) (v := ?_) (a' := ?_) #[true, true, false, true, false, false, true, false, false, false, false, false, false, false, false, false, false, false, false, false, false, false, false, false, false, false, false, false] rfl rfl (by kernel_rfl) (fun _ _ _ h => h) (Or.inl ⟨by rfl, ?_⟩) ?_ ?_
                            rotate_left
                            · intro w'
                              go_simp
                              with_reducible rfl
                            rotate_left
                            · simp only [Act.put, List.setIfInBounds_toArray, List.set_cons_zero, List.set_cons_succ, i64_w, i32_w]
                              rfl
                            refine pure_ (i := 10) (N := some 202) (v := ?_) (a' := ?_) #[true, true, false, true, false, false, true, false, false, false, true, false, false, false, false, false, false, false, false, false, false, false, false, false, false, false, false, false] rfl rfl (by kernel_rfl) (fun _ _ _ h => h) (Or.inl ⟨by rfl, ?_⟩) ?_ ?_
                            rotate_left
                            · intro w'
                              go_simp
                              with_reducible rfl
                            rotate_left
                            · simp only [Act.put, List.setIfInBounds_toArray, List.set_cons_zero, List.set_cons_succ, i64_w, i32_w]
                              rfl
                            refine pure_ (i := 11) (N := some 203) (v := ?_) (a' := ?_) #[true, true, false, true, false, false, true, false, false, false, true, true, false, false, false, false, false, false, false, false, false, false, false, false, false, false, false, false] rfl rfl (by kernel_rfl) (fun _ _ _ h => h) (Or.inl ⟨by rfl, ?_⟩) ?_ ?_
                            rotate_left
                            · intro w'
                              go_simp
                              with_reducible rfl
                            rotate_left
                            · simp only [Act.put, List.setIfInBounds_toArray, List.set_cons_zero, List.set_cons_succ, i64_w, i32_w]
                              rfl
                            refine pure_ (i := 12) (N := some 204) (v := ?_) (a' := ?_) #[true, true, false, true, false, false, true, false, false, false, true, true, true, false, false, false, false, false, false, false, false, false, false, false, false, false, false, false] rfl rfl (by kernel_rfl) (fun _ _ _ h => h) (Or.inl ⟨by rfl, ?_⟩) ?_ ?_
                            rotate_left
                            · intro w'
                              go_simp
                              with_reducible rfl
                            rotate_left
                            · simp only [Act.put, List.setIfInBounds_toArray, List.set_cons_zero, List.set_cons_succ, i64_w, i32_w]
                              rfl
                            refine pure_ (i := 13) (N := some 205) (v := ?_) (a' := ?_) #[true, true, false, true, false, false, true, false, false, false, true, true, true, true, false, false, false, false, false, false, false, false, false, false, false, false, false, false] rfl rfl (by kernel_rfl) (fun _ _ _ h => h) (Or.inl ⟨by rfl, ?_⟩) ?_ ?_
                            rotate_left
                            · intro w'
                              go_simp
                              with_reducible rfl
                            rotate_left
                            · simp only [Act.put, List.setIfInBounds_toArray, List.set_cons_zero, List.set_cons_succ, i64_w, i32_w]
                              rfl
                            refine pure_ (i := 14) (N := some 206) (v := ?_) (a' := ?_) #[true, true, false, true, false, false, true, false, false, false, true, true, true, true, true, false, false, false, false, false, false, false, false, false, false, false, false, false] rfl rfl (by kernel_rfl) (fun _ _ _ h => h) (Or.inl ⟨by rfl, ?_⟩) ?_ ?_
                            rotate_left
                            · intro w'
                              go_simp
                              with_reducible rfl
                            rotate_left
                            · simp only [Act.put, List.setIfInBounds_toArray, List.set_cons_zero, List.set_cons_succ, i64_w, i32_w]
                              rfl
                            refine pure_ (i := 15) (N := some 207) (v := ?_) (a' := ?_) #[true, true, false, true, false, false, true, false, false, false, true, true, true, true, true, true, false, false, false, false, false, false, false, false, false, false, false, false] rfl rfl (by kernel_rfl) (fun _ _ _ h => h) (Or.inl ⟨by rfl, ?_⟩) ?_ ?_
                            rotate_left
                            · intro w'
                              go_simp
                              with_reducible rfl
                            rotate_left
                            · simp only [Act.put, List.setIfInBounds_toArray, List.set_cons_zero, List.set_cons_succ, i64_w, i32_w]
                              rfl
                            refine pure_ (i := 16) (N := some 208) (v := ?_) (a' := ?_) #[true, true, false, true, false, false, true, false, false, false, true, true, true, true, true, true, true, false, false, false, false, false, false, false, false, false, false, false] rfl rfl (by kernel_rfl) (fun _ _ _ h => h) (Or.inl ⟨by rfl, ?_⟩) ?_ ?_
                            rotate_left
                            · intro w'
                              go_simp
                              with_reducible rfl
                            rotate_left
                            · simp only [Act.put, List.setIfInBounds_toArray, List.set_cons_zero, List.set_cons_succ, i64_w, i32_w]
                              rfl
                            refine pure_ (i := 17) (N := some 209) (v := ?_) (a' := ?_) #[true, true, false, true, false, false, true, false, false, false, true, true, true, true, true, true, true, true, false, false, false, false, false, false, false, false, false, false] rfl rfl (by kernel_rfl) (fun _ _ _ h => h) (Or.inl ⟨by rfl, ?_⟩) ?_ ?_
                            rotate_left
                            · intro w'
                              go_simp
                              with_reducible rfl
                            rotate_left
                            · simp only [Act.put, List.setIfInBounds_toArray, List.set_cons_zero, List.set_cons_succ, i64_w, i32_w]
                              rfl
                            refine pure_ (i := 19) (N := some 211) (v := ?_) (a' := ?_) #[true, true, false, true, false, false, true, false, false, false, true, true, true, true, true, true, true, true, false, true, false, false, false, false, false, false, false, false] rfl rfl (by kernel_rfl) (fun _ _ _ h => h) (Or.inl ⟨by rfl, ?_⟩) ?_ ?_
                            rotate_left
                            · intro w'
                              go_simp
                              with_reducible rfl
                            rotate_left
                            · simp only [Act.put, List.setIfInBounds_toArray, List.set_cons_zero, List.set_cons_succ, i64_w, i32_w]
                              rfl
                            refine pure_ (i := 20) (N := some 212) (v := ?_) (a' := ?_) #[true, true, false, true, false, false, true, false, false, false, true, true, true, true, true, true, true, true, false, true, true, false, false, false, false, false, false, false] rfl rfl (by kernel_rfl) (fun _ _ _ h => h) (Or.inl ⟨by rfl, ?_⟩) ?_ ?_
                            rotate_left
                            · intro w'
                              go_simp
                              with_reducible rfl
                            rotate_left
                            · simp only [Act.put, List.setIfInBounds_toArray, List.set_cons_zero, List.set_cons_succ, i64_w, i32_w]
                              rfl
                            refine pure_ (i := 23) (N := some 215) (v := ?_) (a' := ?_) #[true, true, false, true, false, false, true, false, false, false, true, true, true, true, true, true, true, true, false, true, true, false, false, true, false, false, false, false] rfl rfl (by kernel_rfl) (fun _ _ _ h => h) (Or.inl ⟨by rfl, ?_⟩) ?_ ?_
                            rotate_left
                            · intro w'
                              go_simp
                              with_reducible rfl
                            rotate_left
                            · simp only [Act.put, List.setIfInBounds_toArray, List.set_cons_zero, List.set_cons_succ, i64_w, i32_w]
                              rfl
                            refine pure_ (i := 24) (N := some 216) (v := ?_) (a' := ?_) #[true, true, false, true, false, false, true, false, false, false, true, true, true, true, true, true, true, true, false, true, true, false, false, true, true, false, false, false] rfl rfl (by kernel_rfl) (fun _ _ _ h => h) (Or.inl ⟨by rfl, ?_⟩) ?_ ?_
                            rotate_left
                            · intro w'
                              go_simp
                              with_reducible rfl
                            rotate_left
                            · simp only [Act.put, List.setIfInBounds_toArray, List.set_cons_zero, List.set_cons_succ, i64_w, i32_w]
                              rfl
                            refine take_ (i := 21) (N := some 213) (v := ?_) (a' := ?_) #[true, true, false, true, false, false, true, false, false, false, true, true, true, true, true, true, true, true, false, true, true, true, false, true, true, false, false, false] rfl rfl (by kernel_rfl) (fun _ _ _ h => h) (Or.inl ⟨by rfl, ?_⟩) hHeld ?_ ?_
                            rotate_left
                            · rintro w' ⟨s0, s1⟩
                              go_simp
                              with_reducible rfl
                            rotate_left
                            · simp only [Act.put, List.setIfInBounds_toArray, List.set_cons_zero, List.set_cons_succ, i64_w, i32_w]
                              rfl
                            refine take_ (i := 25) (N := some 217) (v := ?_) (a' := ?_) #[true, true, false, true, false, false, true, false, false, false, true, true, true, true, true, true, true, true, false, true, true, true, false, true, true, true, false, false] rfl rfl (by kernel_rfl) (fun _ _ _ h => h) (Or.inl ⟨by rfl, ?_⟩) hHeld ?_ ?_
                            rotate_left
                            · rintro w' ⟨s0, s1⟩
                              go_simp
                              with_reducible rfl
                            rotate_left
                            · simp only [Act.put, List.setIfInBounds_toArray, List.set_cons_zero, List.set_cons_succ, i64_w, i32_w]
                              rfl
                            refine one_ (i := 2) (N := some 194) #[true, true, true, true, false, false, true, false, false, false, true, true, true, true, true, true, true, true, false, true, true, true, false, true, true, true, false, false] rfl rfl (by kernel_rfl) (by decide) (fun K hK => ?_)
                            refine goes_ Try.func26 (by kernel_rfl) rfl #[.int .u32 x4, .int .u64 6] (by rfl) rfl rfl (by simp only [List.map_toArray, List.map_cons, List.map_nil]; rfl) ?_
                            with_reducible refine (turn6 x4 _).mono ?_
                            rintro e w21 ⟨rfl, n21, rfl⟩
                            refine ⟨_, rfl, ?_⟩
                            refine hK.out _ _ ⟨ck, cw⟩ (fun hHeld => ?_)
                            clear hK K
                            refine norm_ (a' := ?_) ?_ ?_
                            rotate_left
                            · show Act.put _ (some 194) _ = _
                              simp only [Act.put, List.setIfInBounds_toArray, List.set_cons_zero, List.set_cons_succ, i64_w, i32_w]
                              rfl
                            refine one_ (i := 4) (N := some 196) #[true, true, true, true, true, false, true, false, false, false, true, true, true, true, true, true, true, true, false, true, true, true, false, true, true, true, false, false] rfl rfl (by kernel_rfl) (by decide) (fun K hK => ?_)
                            refine goes_ Try.func26 (by kernel_rfl) rfl #[.int .u32 x4, .int .u64 11] (by rfl) rfl rfl (by simp only [List.map_toArray, List.map_cons, List.map_nil]; rfl) ?_
                            with_reducible refine (turn11 x4 _).mono ?_
                            rintro e w22 ⟨rfl, n22, rfl⟩
                            refine ⟨_, rfl, ?_⟩
                            refine hK.out _ _ ⟨ck, cw⟩ (fun hHeld => ?_)
                            clear hK K
                            refine norm_ (a' := ?_) ?_ ?_
                            rotate_left
                            · show Act.put _ (some 196) _ = _
                              simp only [Act.put, List.setIfInBounds_toArray, List.set_cons_zero, List.set_cons_succ, i64_w, i32_w]
                              rfl
                            refine pure_ (i := 5) (N := some 197) (v := ?_) (a' := ?_) #[true, true, true, true, true, true, true, false, false, false, true, true, true, true, true, true, true, true, false, true, true, true, false, true, true, true, false, false] rfl rfl (by kernel_rfl) (fun _ _ _ h => h) (Or.inl ⟨by rfl, ?_⟩) ?_ ?_
                            rotate_left
                            · intro w'
                              go_simp
                              with_reducible rfl
                            rotate_left
                            · simp only [Act.put, List.setIfInBounds_toArray, List.set_cons_zero, List.set_cons_succ, i64_w, i32_w]
                              rfl
                            refine one_ (i := 7) (N := some 199) #[true, true, true, true, true, true, true, true, false, false, true, true, true, true, true, true, true, true, false, true, true, true, false, true, true, true, false, false] rfl rfl (by kernel_rfl) (by decide) (fun K hK => ?_)
                            refine goes_ Try.func26 (by kernel_rfl) rfl #[.int .u32 x4, .int .u64 25] (by rfl) rfl rfl (by simp only [List.map_toArray, List.map_cons, List.map_nil]; rfl) ?_
                            with_reducible refine (turn25 x4 _).mono ?_
                            rintro e w23 ⟨rfl, n23, rfl⟩
                            refine ⟨_, rfl, ?_⟩
                            refine hK.out _ _ ⟨ck, cw⟩ (fun hHeld => ?_)
                            clear hK K
                            refine norm_ (a' := ?_) ?_ ?_
                            rotate_left
                            · show Act.put _ (some 199) _ = _
                              simp only [Act.put, List.setIfInBounds_toArray, List.set_cons_zero, List.set_cons_succ, i64_w, i32_w]
                              rfl
                            refine pure_ (i := 8) (N := some 200) (v := ?_) (a' := ?_) #[true, true, true, true, true, true, true, true, true, false, true, true, true, true, true, true, true, true, false, true, true, true, false, true, true, true, false, false] rfl rfl (by kernel_rfl) (fun _ _ _ h => h) (Or.inl ⟨by rfl, ?_⟩) ?_ ?_
                            rotate_left
                            · intro w'
                              go_simp
                              with_reducible rfl
                            rotate_left
                            · simp only [Act.put, List.setIfInBounds_toArray, List.set_cons_zero, List.set_cons_succ, i64_w, i32_w]
                              rfl
                            refine pure_ (i := 9) (N := some 201) (v := ?_) (a' := ?_) #[true, true, true, true, true, true, true, true, true, true, true, true, true, true, true, true, true, true, false, true, true, true, false, true, true, true, false, false] rfl rfl (by kernel_rfl) (fun _ _ _ h => h) (Or.inl ⟨by rfl, ?_⟩) ?_ ?_
                            rotate_left
                            · intro w'
                              go_simp
                              with_reducible rfl
                            rotate_left
                            · simp only [Act.put, List.setIfInBounds_toArray, List.set_cons_zero, List.set_cons_succ, i64_w, i32_w]
                              rfl
                            refine pure_ (i := 18) (N := some 210) (v := ?_) (a' := ?_) #[true, true, true, true, true, true, true, true, true, true, true, true, true, true, true, true, true, true, true, true, true, true, false, true, true, true, false, false] rfl rfl (by kernel_rfl) (fun _ _ _ h => h) (Or.inl ⟨by rfl, ?_⟩) ?_ ?_
                            rotate_left
                            · intro w'
                              go_simp
                              with_reducible rfl
                            rotate_left
                            · simp only [Act.put, List.setIfInBounds_toArray, List.set_cons_zero, List.set_cons_succ, i64_w, i32_w]
                              rfl
                            refine pure_ (i := 22) (N := some 214) (v := ?_) (a' := ?_) #[true, true, true, true, true, true, true, true, true, true, true, true, true, true, true, true, true, true, true, true, true, true, true, true, true, true, false, false] rfl rfl (by kernel_rfl) (fun _ _ _ h => h) (Or.inl ⟨by rfl, ?_⟩) ?_ ?_
                            rotate_left
                            · intro w'
                              go_simp
                              with_reducible rfl
                            rotate_left
                            · simp only [Act.put, List.setIfInBounds_toArray, List.set_cons_zero, List.set_cons_succ, i64_w, i32_w]
                              rfl
                            refine pure_ (i := 26) (N := some 218) (v := ?_) (a' := ?_) #[true, true, true, true, true, true, true, true, true, true, true, true, true, true, true, true, true, true, true, true, true, true, true, true, true, true, true, false] rfl rfl (by kernel_rfl) (fun _ _ _ h => h) (Or.inl ⟨by rfl, ?_⟩) ?_ ?_
                            rotate_left
                            · intro w'
                              go_simp
                              with_reducible rfl
                            rotate_left
                            · simp only [Act.put, List.setIfInBounds_toArray, List.set_cons_zero, List.set_cons_succ, i64_w, i32_w]
                              rfl
                            refine pure_ (i := 27) (N := some 24) (v := ?_) (a' := ?_) #[true, true, true, true, true, true, true, true, true, true, true, true, true, true, true, true, true, true, true, true, true, true, true, true, true, true, true, true] rfl rfl (by kernel_rfl) (fun _ _ _ h => h) (Or.inl ⟨by rfl, ?_⟩) ?_ ?_
                            rotate_left
                            · intro w'
                              go_simp
                              with_reducible rfl
                            rotate_left
                            · simp only [Act.put, List.setIfInBounds_toArray, List.set_cons_zero, List.set_cons_succ, i64_w, i32_w]
                              rfl
                            refine done_ (by kernel_rfl) ?_
                            go_wp2_with fail
                            refine (turn2 x0 _).mono ?_
                            rintro e w24 ⟨rfl, n24, rfl⟩
                            go_wp2_with fail
                            refine (turn13 x0 _).mono ?_
                            rintro e w25 ⟨rfl, n25, rfl⟩
                            go_wp2_with fail
                            refine (turn22 x0 _).mono ?_
                            rintro e w26 ⟨rfl, n26, rfl⟩
                            go_wp2
                            refine ⟨?_, ?measure⟩
                            iterate 74 apply Exists.intro
                            refine ⟨?rel, rfl⟩
                            case rel =>
                              refine ⟨t + 1, _, _, _, _, _, _, _, _, by omega, by simp, rfl, rfl, rfl, rfl, rfl, rfl, rfl, rfl, ?_, ⟨HW.out.drewN _⟩⟩
                              refine ⟨HN.out.trans ?_⟩
                              simp only [rnd, M32, IntKind.wrap_u32, xo, an, nt]
                            case measure => simp [intOf]; omega
                        · have ht64 : t = 64 := by omega
                          subst ht64
                          obtain ⟨v, hv⟩ : ∃ v, v = rounds ws 64 [h0, h1, h2, h3, h4, h5, h6, h7] := ⟨_, rfl⟩
                          have hvx : v = [x0, x1, x2, x3, x4, x5, x6, x7] := hv.trans HRR.out
                          have HV := Aside0.mk hv
                          have HVX := Aside0.mk hvx
                          have HVL := Aside0.mk (show v.length = 8 by rw [hvx]; rfl)
                          obtain ⟨wq, hwq⟩ : ∃ wq : World, wq = wr := ⟨_, rfl⟩
                          subst hwq
                          have HBQ := Aside0.mk HW.out.bel
                          have HGE := Aside0.mk (show w1.heap.size < wo.heap.size from blk_lt HH.out)
                          have HHQ := Aside0.mk (show wq.heap[w1.heap.size]? = some (.cells (words [h0, h1, h2, h3, h4, h5, h6, h7]) 46 (0, 0)) from (HBQ.out.block _ HGE.out).trans HH.out)
                          have HC0 := Aside0.mk (show RfC w1 wo wq.heap.size (wq.alloc (Obj.cells (words v) 45)) [h0, h1, h2, h3, h4, h5, h6, h7] v from ⟨((Keep.of_below HBQ.out).mono (fun i h1 h2 => by omega)).alloc _, blk_alloc HHQ.out _, blk_new wq _, by have := HBQ.out.size; have := HGE.out; omega⟩)
                          rw [HVX.out] at HC0
                          have HJ0 := Aside0.mk (show ∀ j, j < 8 → List.getD [h0, h1, h2, h3, h4, h5, h6, h7] j 0 = if j < 0 then M32 (List.getD [h0, h1, h2, h3, h4, h5, h6, h7] j 0 + v.getD j 0) else List.getD [h0, h1, h2, h3, h4, h5, h6, h7] j 0 from fun j _ => by rw [if_neg (by omega)])
                          clear hv hvx hlt ht HW HRR
                          go_wp2_with fail
                          go_loopw [262] (fun v262 wr => ∃ (i : Nat) (hp : List Int), i ≤ 8 ∧ v262 = .int .i64 (i : Int) ∧ hp.length = 8 ∧ Aside0 (∀ j, j < 8 → hp.getD j 0 = if j < i then M32 (List.getD [h0, h1, h2, h3, h4, h5, h6, h7] j 0 + v.getD j 0) else List.getD [h0, h1, h2, h3, h4, h5, h6, h7] j 0) ∧ Aside0 (RfC w1 wo wq.heap.size wr hp [x0, x1, x2, x3, x4, x5, x6, x7])) (fun v _ => 8 - (intOf v).toNat)
                          case atStart => exact ⟨0, [h0, h1, h2, h3, h4, h5, h6, h7], by omega, rfl, rfl, HJ0, HC0⟩
                          case round =>
                            obtain ⟨i, hp, hi8, rfl, hpl8, HJ, HA⟩ := hrel
                            rw [← HVX.out] at HA
                            have HPL8 := Aside0.mk hpl8
                            by_cases hlt : i < 8
                            · as_aux_lemma =>
                                obtain ⟨a, ha⟩ : ∃ x, hp[i]? = some x := ⟨_, List.getElem?_eq_getElem (by omega)⟩
                                obtain ⟨y, hy⟩ : ∃ x, v[i]? = some x := ⟨_, List.getElem?_eq_getElem (by rw [HVL.out]; omega)⟩
                                have ca : wr.cell? ⟨w1.heap.size, i, none⟩ = some (.int .u32 a) := words_cell HA.out.hv ha
                                have cy : wr.cell? ⟨wq.heap.size, i, none⟩ = some (.int .u32 y) := words_cell HA.out.sv hy
                                have fz := blk_frozen HA.out.hv i
                                have hi64 : (i : Int) < 8 := by omega
                                have hay : M32 (List.getD [h0, h1, h2, h3, h4, h5, h6, h7] i 0 + v.getD i 0) = M32 (a + y) := by
                                  have := HJ.out i hlt
                                  rw [if_neg (by omega), List.getD_eq_getElem?_getD, ha] at this
                                  rw [← this, List.getD_eq_getElem?_getD (l := v), hy]
                                  rfl
                                have HN := Aside0.mk (HA.out.set i (M32 (a + y)))
                                have HNJ := Aside0.mk (show ∀ j, j < 8 → (hp.set i (M32 (a + y))).getD j 0 = if j < i + 1 then M32 (List.getD [h0, h1, h2, h3, h4, h5, h6, h7] j 0 + v.getD j 0) else List.getD [h0, h1, h2, h3, h4, h5, h6, h7] j 0 from fun j hj => by
                                  rw [getD_set _ _ _ _ (by rw [HPL8.out]; exact hlt)]
                                  by_cases hji : j = i
                                  · subst hji; rw [if_pos rfl, if_pos (by omega), hay]
                                  · rw [if_neg hji, HJ.out j hj]
                                    by_cases h2 : j < i
                                    · rw [if_pos h2, if_pos (by omega)]
                                    · rw [if_neg h2, if_neg (by omega)])
                                have HNL := Aside0.mk (show (hp.set i (M32 (a + y))).length = 8 by rw [List.length_set]; exact HPL8.out)
                                rw [HVX.out] at HN
                                clear ha hy hay hpl8
                                go_wp2
                                go_roundw
                                case rel => exact ⟨i + 1, _, by omega, by simp, HNL.out, HNJ, HN⟩
                                case measure => simp [intOf]; omega
                            · as_aux_lemma =>
                                have hi88 : i = 8 := by omega
                                subst hi88
                                have HF := Aside0.mk (show hp = blocks P (k + 1) by
                                  show hp = oneF (blocks P k) ((P.drop (64 * k)).take 64)
                                  rw [← HHS.out, ← HBB.out]
                                  unfold oneF
                                  rw [← HWS.out, ← HV.out]
                                  exact addv_of HPL8.out HVL.out rfl HJ.out)
                                have HBN := Aside0.mk (show RfB w1 w3 wr (blocks P (k + 1)) from ⟨HB.out.keep.trans HA.out.keep (fun i _ h => h), by rw [← HF.out]; exact HA.out.hv⟩)
                                clear hlt hi8 HA HJ
                                have hnc : n ≤ c' := HQ.out.2.1
                                have h64c : 64 ≤ c' := by omega
                                have hcut := SrcB.cut HQ.out.1 HDL.out.symm 64 n hn1 (Nat.le_refl _) HQ.out.2.1 (if c' = 64 then some ad else some ⟨ad.block, ad.off + 64, none⟩) (by split <;> simp [Addr.add]) (c' - 64)
                                rw [List.take_of_length_le (by rw [HDL.out]; exact Nat.le_refl _), List.drop_drop, show 64 * k + 64 = 64 * (k + 1) by omega] at hcut
                                have HQN := Aside0.mk (show SrcB w3 (.slice (if c' = 64 then some ad else some ⟨ad.block, ad.off + 64, none⟩) (n - 64) (c' - 64)) (P.drop (64 * (k + 1))) ∧ n - 64 ≤ c' - 64 ∧ ∀ g, (Value.slice (if c' = 64 then some ad else some ⟨ad.block, ad.off + 64, none⟩) (n - 64) (c' - 64)).ownBlock = some g → w2.heap.size ≤ g from ⟨hcut, by omega, fun g hg => HQ.out.2.2 g (by split at hg <;> exact hg)⟩)
                                have HK1 := Aside0.mk (show k + 1 ≤ n0 ∧ n - 64 = 64 * (n0 - (k + 1)) by have := HNN.out; omega)
                                have hn0 : n - 64 < n := by omega
                                clear hPL2 hn64 hP0 hnp hcut
                                iterate 27 (first | go_values | go_skip | go_guarded | go_step | go_upon)
                                refine ⟨?_, ?measure⟩
                                iterate 215 apply Exists.intro
                                refine ⟨?rel, rfl⟩
                                case rel => exact ⟨k + 1, n - 64, _, c' - 64, HK1.out.1, HK1.out.2, rfl, HQN, HBN⟩
                                case measure => exact hn0
                · have hke : k = n0 := by omega
                  subst hke
                  have hnz : n = 0 := by omega
                  subst hnz
                  obtain ⟨w5, hw5⟩ : ∃ w5 : World, w5 = wr := ⟨_, rfl⟩
                  subst hw5
                  obtain ⟨hs, hhs⟩ : ∃ hs, hs = blocks P k := ⟨_, rfl⟩
                  have hh := HB.out.hv
                  rw [← hhs] at hh
                  have HH := Aside0.mk hh
                  have HHS := Aside0.mk (show hs = blocks (pad m) ((pad m).length / 64) by rw [← HPP.out, hn64, Nat.mul_div_cancel_left _ (by omega)]; exact hhs)
                  have HHL := Aside0.mk (show hs.length = 8 by rw [hhs]; exact blocks_length _ _)
                  have hwlt : w.heap.size < w1.heap.size := by obtain ⟨cs, h1, _⟩ := HR0.out; exact blk_lt h1
                  have HR5 := Aside0.mk (show ∃ cs : Array Value, w5.heap[w.heap.size]? = some (.cells cs 24 (0, 0)) ∧ cs.size = 32 by
                    obtain ⟨cs, h1, h2⟩ := HR3.out
                    exact ⟨cs, HB.out.keep.blk h1 (by omega), h2⟩)
                  have HB5 := Aside0.mk (show Below w.heap.size w w5 from HW3.out.trans (HB.out.keep.to_below (fun i hi => by omega) HW3.out.size))
                  have HD0 := Aside0.mk (show RfD w5 (w5.alloc (Obj.cells (bytesA (List.replicate 32 0)) 24)) (List.replicate 32 0) from ⟨(Below.refl _ _).alloc (Nat.le_refl _) _, blk_new w5 _⟩)
                  have HJ0 := Aside0.mk (show ∀ j, j < 0 → (List.replicate 32 (0 : Int)).getD j 0 = outB hs j from fun j hj => absurd hj (by omega))
                  have hinfo : (Try.prog.info? 24).map (·.size) = some 32 := by kernel_rfl
                  have HIN := Aside0.mk hinfo
                  clear hhs hh hwlt hinfo hPL2 hn64 hP0 hlt hk hn
                  go_wp2_with fail
                  go_loopw [275] (fun v275 wr => ∃ (t : Nat) (ds : List Int), t ≤ 32 ∧ v275 = .int .i64 (t : Int) ∧ ds.length = 32 ∧ Aside0 (∀ j, j < t → ds.getD j 0 = outB hs j) ∧ Aside0 (RfD w5 wr ds)) (fun v _ => 32 - (intOf v).toNat)
                  case atStart => exact ⟨0, List.replicate 32 0, by omega, rfl, List.length_replicate .., HJ0, HD0⟩
                  case round =>
                    obtain ⟨t, ds, ht, rfl, hdl, HJ, HD⟩ := hrel
                    have HDL := Aside0.mk hdl
                    by_cases hlt : t < 32
                    · as_aux_lemma =>
                        obtain ⟨x, hx⟩ : ∃ x, hs[t / 4]? = some x := ⟨_, List.getElem?_eq_getElem (by rw [HHL.out]; omega)⟩
                        obtain ⟨y, hy⟩ : ∃ y, ds[t]? = some y := ⟨_, List.getElem?_eq_getElem (by omega)⟩
                        have cx : wr.cell? ⟨w1.heap.size, t / 4, none⟩ = some (.int .u32 x) := bread HD.out.bel (words_cell HH.out hx)
                        have cy : wr.cell? ⟨w5.heap.size, t, none⟩ = some (.int .u8 y) := bytes_cell HD.out.dv hy
                        have fz := blk_frozen HD.out.dv t
                        have ht32 : (t : Int) < 32 := by omega
                        have q1 : (t : Int) / 4 < 8 := by omega
                        have hob : outB hs t = x / 2 ^ (24 - 8 * (t % 4)) % 256 := by unfold outB; rw [List.getD_eq_getElem?_getD, hx, Nat.mul_comm (t % 4) 8]; rfl
                        have HN := Aside0.mk (HD.out.set t (x / 2 ^ (24 - 8 * (t % 4)) % 256))
                        have HNJ := Aside0.mk (show ∀ j, j < t + 1 → (ds.set t (x / 2 ^ (24 - 8 * (t % 4)) % 256)).getD j 0 = outB hs j from fun j hj => by
                          rw [getD_set _ _ _ _ (by rw [HDL.out]; exact hlt)]
                          by_cases hjt : j = t
                          · subst hjt; rw [if_pos rfl, hob]
                          · rw [if_neg hjt]; exact HJ.out j (by omega))
                        have HNL := Aside0.mk (show (ds.set t (x / 2 ^ (24 - 8 * (t % 4)) % 256)).length = 32 by rw [List.length_set]; exact HDL.out)
                        clear hx hy hdl hob
                        go_wp2
                        go_roundw
                        case rel => exact ⟨t + 1, _, by omega, by simp, HNL.out, HNJ, HN⟩
                        case measure => simp [intOf]; omega
                    · have ht32 : t = 32 := by omega
                      subst ht32
                      have hds : ds = digest m := by
                        unfold digest
                        rw [← HHS.out]
                        apply List.ext_getElem?
                        intro j
                        by_cases hj : j < 32
                        · have := HJ.out j hj
                          rw [List.getD_eq_getElem?_getD, List.getElem?_eq_getElem (by omega)] at this
                          rw [List.getElem?_eq_getElem (by omega), List.getElem?_map, List.getElem?_range hj]
                          simp only [Option.getD_some] at this
                          rw [this]
                          rfl
                        · rw [List.getElem?_eq_none (by omega), List.getElem?_eq_none (by simp; omega)]
                      have HDS := Aside0.mk hds
                      have hwz : (bytesA ds).size = 32 := by rw [bytesA_size, hdl]
                      have HWZ := Aside0.mk hwz
                      obtain ⟨cs, hcs, hcz⟩ := HR5.out
                      have HCS := Aside0.mk (show wr.heap[w.heap.size]? = some (.cells cs 24 (0, 0)) from (HD.out.bel.block _ (blk_lt hcs)).trans hcs)
                      have HCZ := Aside0.mk hcz
                      have HBF := Aside0.mk (show Below w.heap.size w wr from HB5.out.trans (HD.out.bel.mono HB5.out.size))
                      clear hcs hcz hds hwz hlt ht hdl
                      go_wp2_with (first | (refine wpList_load_row rfl 24 (.tmp 28) rfl w5.heap.size rfl 24 (bytesA ds) (0, 0) _ HD.out.dv Try.underlying24 rfl (by rw [HWZ.out]; exact HIN.out) ?_) | (refine wpList_store_row rfl 24 (.tmp 2) (.tmp 292) rfl w.heap.size (bytesA ds) rfl rfl 24 cs HCS.out (by rw [HWZ.out]; exact HIN.out) (by rw [HWZ.out]; exact HCZ.out) (bytesA_one ds) ?_))
                      refine bodyPost_ret (v := .agg (bytesA ds)) (results_cell_row (p := 2) (ty := 24) rfl _ _ w.heap.size 24 (bytesA ds) (0, 0) _ rfl (setRow_heap _ _ _ _ _ _ HCS.out) Try.underlying24 rfl (by rw [HWZ.out]; exact HIN.out)) rfl ⟨by rw [HDS.out], below_setRow HBF.out (Nat.le_refl _) _⟩
end Go.Proofs.Ytjlnbklendkflaa
