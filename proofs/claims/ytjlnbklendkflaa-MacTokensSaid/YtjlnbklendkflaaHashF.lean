/- SHA-256's state: Sum, walked; hash.Sum. -/
import Derived.Test.YtjlnbklendkflaaHashE
import Derived.Lib.Hide
import Derived.LoopTactic
import Derived.Outline
import Derived.Laws.Rows
import Derived.Laws.CopyOwn
import Derived.WalkKit
set_option linter.unusedVariables false
set_option linter.unusedSimpArgs false
namespace Go.Proofs.Ytjlnbklendkflaa
open Go.RowKit Go.Proofs.YtjlnbklendkflaaW.PrintWords Go.Proofs.YtjlnbklendkflaaW.PrintLast Go.Proofs.YtjlnbklendkflaaW.PrintMore
open Go.Proofs.Ytjlnbklendkflaa.PHashSums


/-- How many zeros fill a block of which r bytes are there. -/
def zerosOf (r : Nat) : Nat := (119 - r) % 64
/-- A length's byte. -/
def lenB (n j : Nat) : Int := ((n : Int) * 8 / 2 ^ (8 * (7 - j))) % 256
def fillOf (m : List Int) : List Int := (128 :: List.replicate (zerosOf (m.length % 64)) 0) ++ (List.range 8).map (lenB m.length)
def pad (m : List Int) : List Int := m ++ fillOf m
def outB (hs : List Int) (j : Nat) : Int := (hs.getD (j / 4) 0 / 2 ^ (24 - j % 4 * 8)) % 256
/-- The digest of a message. -/
def digest (m : List Int) : List Int := (List.range 32).map (outB (blocks (pad m) ((pad m).length / 64)))
def bytesA (l : List Int) : Array Value := (nums .u8 l).toArray
theorem drop_rest (m : List Int) : (m.drop (64 * (m.length / 64))).length = m.length % 64 := by rw [List.length_drop]; omega
/-- What is to be filled in, so far. -/
structure FInv (w1 : World) (l : List Int) (v : Value) (wr : World) : Prop where
  row : wr.ownsRow w1.heap.size 5 1 v l.length (nums .u8 l)
  bel : Below w1.heap.size w1 wr
theorem rep_snoc (z : Nat) : (128 :: List.replicate (z + 1) 0 : List Int) = (128 :: List.replicate z 0) ++ [0] := by
  rw [List.replicate_succ']
  rfl
structure DInv (w5 : World) (ds : List Int) (wr : World) : Prop where
  bel : Below w5.heap.size w5 wr
  dv : wr.heap[w5.heap.size]? = some (.cells (bytesA ds) 25 (0, 0))
theorem bytesA_get {l : List Int} {i : Nat} {x : Int} (h : l[i]? = some x) : (bytesA l)[i]? = some (.int .u8 x) := by
  unfold bytesA nums
  simp [h]
theorem bytesA_set (l : List Int) (i : Nat) (x : Int) : (bytesA l).setIfInBounds i (.int .u8 x) = bytesA (l.set i x) := by
  unfold bytesA nums
  apply Array.toList_inj.1
  simp [List.map_set]
theorem bytesA_size (l : List Int) : (bytesA l).size = l.length := by simp [bytesA, nums]
theorem bytesA_one (l : List Int) : (bytesA l).all (·.oneCell') = true := by
  rw [Array.all_eq_true_iff_forall_mem]
  intro v hv
  unfold bytesA nums at hv
  simp only [List.mem_toArray, List.mem_map] at hv
  obtain ⟨x, _, rfl⟩ := hv
  rfl
theorem bytes_cell {w : World} {g : Nat} {t : TypeId} {l : List Int} (h : w.heap[g]? = some (.cells (bytesA l) t (0, 0))) {i : Nat} {x : Int} (hx : l[i]? = some x) : w.cell? ⟨g, i, none⟩ = some (.int .u8 x) := by
  rw [blk_cell h]; exact bytesA_get hx
theorem DInv.set {w5 wr : World} {ds : List Int} (h : DInv w5 ds wr) (i : Nat) (x : Int) : DInv w5 (ds.set i x) (wr.setCell ⟨w5.heap.size, i, none⟩ (.int .u8 x)) := ⟨h.bel.setCell (Nat.le_refl _) _, by rw [← bytesA_set]; exact blk_set h.dv i _⟩
def lenV : Value → Nat
  | .slice _ n _ => n
  | _ => 0
theorem new_any (w : World) : Calls Try.prog 13 #[] w fun e w' => ∃ q, e = .returned (.pointer (some ⟨q, 0, none⟩)) ∧ w.heap.size ≤ q ∧ IsH q [] w' ∧ Below w.heap.size w w' :=
  (new_calls w).mono fun _ _ ⟨h1, h2, h3⟩ => ⟨_, h1, Nat.le_refl _, h2, h3⟩
set_option maxRecDepth 100000 in
set_option maxHeartbeats 8000000 in
theorem sum_calls (p : Nat) (m : List Int) (w : World) (h : IsH p m w) (hl : m.length ≤ 100000) :
    Calls Try.prog 15 #[.pointer (some ⟨p, 0, none⟩)] w fun e w' => e = .returned (.agg (bytesA (digest m))) ∧ Below w.heap.size w w' := by
  have H0 := Aside0.mk h
  clear h
  go_enter Try.func15, Try.ntmps15
  go_wp2_with fail
  have HA := Aside0.mk ((Below.refl w.heap.size w).alloc (Nat.le_refl _) (Obj.cells #[.int .u8 0, .int .u8 0, .int .u8 0, .int .u8 0, .int .u8 0, .int .u8 0, .int .u8 0, .int .u8 0, .int .u8 0, .int .u8 0, .int .u8 0, .int .u8 0, .int .u8 0, .int .u8 0, .int .u8 0, .int .u8 0, .int .u8 0, .int .u8 0, .int .u8 0, .int .u8 0, .int .u8 0, .int .u8 0, .int .u8 0, .int .u8 0, .int .u8 0, .int .u8 0, .int .u8 0, .int .u8 0, .int .u8 0, .int .u8 0, .int .u8 0, .int .u8 0] 25))
  refine (copy_calls p m _ (H0.out.below ((Below.refl w.heap.size w).alloc (Nat.le_refl _) (Obj.cells #[.int .u8 0, .int .u8 0, .int .u8 0, .int .u8 0, .int .u8 0, .int .u8 0, .int .u8 0, .int .u8 0, .int .u8 0, .int .u8 0, .int .u8 0, .int .u8 0, .int .u8 0, .int .u8 0, .int .u8 0, .int .u8 0, .int .u8 0, .int .u8 0, .int .u8 0, .int .u8 0, .int .u8 0, .int .u8 0, .int .u8 0, .int .u8 0, .int .u8 0, .int .u8 0, .int .u8 0, .int .u8 0, .int .u8 0, .int .u8 0, .int .u8 0, .int .u8 0] 25)))).mono ?_
  rintro e w1 ⟨q, rfl, hq, hI, hb⟩
  have HQ := Aside0.mk hI
  have HB1 := Aside0.mk (HA.out.trans (hb.mono (by simp)))
  have HHP := Aside0.mk (H0.out.below HB1.out)
  have hqz : w.heap.size + 1 ≤ q := by simpa using hq
  have hr0 : ∃ cs : Array Value, w1.heap[w.heap.size]? = some (.cells cs 25 (0, 0)) ∧ cs.size = 32 := ⟨_, (hb.block w.heap.size (by simp)).trans (blk_new w _), rfl⟩
  have HR0 := Aside0.mk hr0
  clear hq hI hb hr0
  go_wp2_with fail
  obtain ⟨r, hr⟩ : ∃ r, r = m.length % 64 := ⟨_, rfl⟩
  have HR := Aside0.mk hr
  have hr64 : r < 64 := by omega
  obtain ⟨Z, hZ⟩ : ∃ Z, Z = zerosOf r := ⟨_, rfl⟩
  have HZ := Aside0.mk hZ
  have hZr : Z ≤ 63 ∧ (r + 1 + Z) % 64 = 56 := by rw [hZ]; unfold zerosOf; omega
  have HF0 := Aside0.mk (show FInv w1 [128] (.slice (some ⟨w1.heap.size, 0, none⟩) 1 1) (w1.alloc (Obj.cells #[.int .u8 128] 5)) from ⟨⟨by simp [nums], .inr ⟨w1.heap.size, 1, #[.int .u8 128], rfl, Nat.le_refl _, blk_new _ _, Nat.le_refl _, by decide, rfl, rfl⟩⟩, (Below.refl _ _).alloc (Nat.le_refl _) _⟩)
  clear hr hZ
  go_loopw [4] (fun v4 wr => ∃ (z : Nat), z ≤ Z ∧ Aside0 (FInv w1 (128 :: List.replicate z 0) v4 wr)) (fun v _ => Z + 1 - lenV v)
  case atStart => exact ⟨0, by omega, HF0⟩
  case round =>
    obtain ⟨z, hz, HF⟩ := hrel
    have hQ := HQ.out.below HF.out.bel
    obtain ⟨vr, hst, A, n, c, e, hn, _⟩ := hQ
    rw [drop_rest, ← HR.out] at hn
    rw [hn] at e
    subst e
    have g8 := st_rest hst (blocks_length m _)
    obtain ⟨A4, c4, e4⟩ := row_form HF.out.row
    rw [List.length_cons, List.length_replicate] at e4
    subst e4
    have hn1 : (0 : Int) ≤ (r : Int) + ((z : Int) + 1) := by omega
    have hz63 : z ≤ 63 := by omega
    have HF' := Aside0.mk (show FInv w1 (128 :: List.replicate z 0) (.slice A4 (z + 1) c4) wr from HF.out)
    clear hst
    by_cases hlt : z < Z
    · have d1 : ((((r : Int) + ((z : Int) + 1)) % 64) != 56) = true := by simp; omega
      have hb1 := HF.out.bel.size
      have HRW := Aside0.mk (show wr.ownsRow w1.heap.size 5 1 (.slice A4 (z + 1) c4) (128 :: List.replicate z (0 : Int)).length (nums .u8 (128 :: List.replicate z 0)) from HF.out.row)
      have hbl : ((128 :: List.replicate z (0 : Int)).length + 1) * 1 ≤ 140737488355328 := by simp; omega
      have HB0 := Aside0.mk HF.out.bel
      go_wp2_with (at_builtin; refine print_append_num w1.heap.size rfl (.tmp 24) (.tmp 25) 22 5 .u8 1 rfl Try.underlying22 infoByte (by decide) _ (128 :: List.replicate z 0) _ rfl rfl HRW.out HB0.out hb1 hbl ?_)
      intro v1 w4 hown hB4 _ _
      have HNEW := Aside0.mk (show FInv w1 (128 :: List.replicate (z + 1) 0) v1 w4 from ⟨by rw [rep_snoc]; simpa using hown, hB4⟩)
      obtain ⟨A5, c5, e5⟩ := row_form HNEW.out.row
      rw [List.length_cons, List.length_replicate] at e5
      subst e5
      clear hown hB4
      go_wp2
      go_roundw
      case rel => exact ⟨z + 1, by omega, HNEW⟩
      case measure => simp [lenV]; omega
    · have hze : z = Z := by omega
      subst hze
      have d1 : ((((r : Int) + ((z : Int) + 1)) % 64) != 56) = false := by simp; omega
      clear hlt hz hZr
      go_wp2_with fail
      obtain ⟨FZ, hFZ⟩ : ∃ l : List Int, l = 128 :: List.replicate z 0 := ⟨_, rfl⟩
      rw [← hFZ] at HF'
      have HFZ := Aside0.mk hFZ
      have hfl : FZ.length = z + 1 := by rw [hFZ, List.length_cons, List.length_replicate]
      have HFL := Aside0.mk hfl
      have HF2 := Aside0.mk (show FInv w1 (FZ ++ (List.range 0).map (lenB m.length)) (.slice A4 (z + 1) c4) wr by simpa using HF'.out)
      clear hFZ hfl g8
      go_loopw [4, 5] (fun v4 v5 wr => ∃ (j : Nat), j ≤ 8 ∧ v5 = .int .i64 (7 - (j : Int)) ∧ Aside0 (FInv w1 (FZ ++ (List.range j).map (lenB m.length)) v4 wr)) (fun _ v _ => (intOf v + 1).toNat)
      case atStart => exact ⟨0, by omega, rfl, HF2⟩
      case round =>
        obtain ⟨j, hj, rfl, HG⟩ := hrel
        obtain ⟨vr2, hst2, hrd2⟩ := HHP.out.below HG.out.bel
        have g9 := st_n hst2 (blocks_length m _)
        obtain ⟨A4, c4, e4⟩ := row_form HG.out.row
        rw [List.length_append, List.length_map, List.length_range, HFL.out] at e4
        subst e4
        clear hst2 hrd2
        by_cases hlt : j < 8
        · have d2 : (0 : Int) ≤ 7 - (j : Int) := by omega
          have d3 : (j : Int) ≤ 7 := by omega
          have hb1 := HG.out.bel.size
          have HRW := Aside0.mk (show wr.ownsRow w1.heap.size 5 1 (.slice A4 (z + 1 + j) c4) (FZ ++ (List.range j).map (lenB m.length)).length (nums .u8 (FZ ++ (List.range j).map (lenB m.length))) from HG.out.row)
          have HBL := Aside0.mk (show ((FZ ++ (List.range j).map (lenB m.length)).length + 1) * 1 ≤ 140737488355328 by rw [List.length_append, List.length_map, List.length_range, HFL.out]; omega)
          have HB0 := Aside0.mk HG.out.bel
          go_wp2_with (at_builtin; refine print_append_num w1.heap.size rfl (.tmp 31) (.tmp 42) 22 5 .u8 1 rfl Try.underlying22 infoByte (by decide) _ (FZ ++ (List.range j).map (lenB m.length)) _ rfl rfl HRW.out HB0.out hb1 HBL.out ?_)
          intro v1 w4 hown hB4 _ _
          have HNEW := Aside0.mk (show FInv w1 (FZ ++ (List.range (j + 1)).map (lenB m.length)) v1 w4 from ⟨by
            rw [List.length_append, List.length_map, List.length_range, List.range_succ, List.map_append]
            exact hown, hB4⟩)
          clear hown hB4
          go_wp2
          go_roundw
          case rel => exact ⟨j + 1, by omega, by congr 1; omega, HNEW⟩
          case measure => simp [intOf]; omega
        · have hj8 : j = 8 := by omega
          subst hj8
          have HFILL := Aside0.mk (show FZ ++ (List.range 8).map (lenB m.length) = fillOf m by rw [HFZ.out, HZ.out, HR.out]; rfl)
          have HBG := Aside0.mk HG.out.bel
          have hrow := HG.out.row
          rw [HFILL.out] at hrow
          have hfl : (fillOf m).length ≤ 100 := by rw [← HFILL.out, List.length_append, HFL.out]; simp; omega
          have hd7 : (7 : Int) - ((8 : Nat) : Int) = -1 := by omega
          have hob : (Value.slice A4 (z + 1 + 8) c4).ownBlock ≠ some q := fun e => by have h1 := hrow.lt q e; have h2 := HQ.out.lt; omega
          have HC := Lib.hid (write_calls q m (fillOf m) _ wr (HQ.out.below HG.out.bel) (SrcB.of_row hrow) (fun _ => hob) (by omega))
          have HHPR := Aside0.mk (HHP.out.below HG.out.bel)
          have HQZ := Aside0.mk HQ.out.lt
          clear hrow hob hfl g9 hlt hj
          go_wp2_with fail
          refine HC.out.mono ?_
          rintro e w5 ⟨rfl, hi5, hk5, _⟩
          have HI5 := Aside0.mk (show IsH q (pad m) w5 from hi5)
          have HB5 := Aside0.mk (show Below w.heap.size w w5 from (HB1.out.trans (HBG.out.mono HB1.out.size)).trans (hk5.to_below (fun i hi => by omega) (by have := HB1.out.size; have := HBG.out.size; omega)))
          have HR5 := Aside0.mk (show ∃ cs : Array Value, w5.heap[w.heap.size]? = some (.cells cs 25 (0, 0)) ∧ cs.size = 32 by
            obtain ⟨cs, h1, h2⟩ := HR0.out
            exact ⟨cs, (hk5.block _ (by have := HBG.out.size; have := blk_lt h1; omega) (by omega)).trans ((HBG.out.block _ (blk_lt h1)).trans h1), h2⟩)
          clear hi5 hk5
          go_wp2_with fail
          obtain ⟨vr5, hst5, _⟩ := HI5.out
          obtain ⟨hs, hhs⟩ : ∃ hs, hs = blocks (pad m) ((pad m).length / 64) := ⟨_, rfl⟩
          have hhl : hs.length = 8 := by rw [hhs]; exact blocks_length _ _
          rw [← hhs] at hst5
          have HHS := Aside0.mk hhs
          have HST5 := Aside0.mk hst5
          have HHL := Aside0.mk hhl
          have HD0 := Aside0.mk (show DInv w5 (List.replicate 32 0) (w5.alloc (Obj.cells (bytesA (List.replicate 32 0)) 25)) from ⟨(Below.refl _ _).alloc (Nat.le_refl _) _, blk_new w5 _⟩)
          have HJ0 := Aside0.mk (show ∀ j, j < 0 → (List.replicate 32 (0 : Int)).getD j 0 = outB hs j from fun j hj => absurd hj (by omega))
          clear hhs hhl hst5 d1 hn1
          go_loopw [47] (fun v47 wr => ∃ (t : Nat) (ds : List Int), t ≤ 32 ∧ v47 = .int .i64 (t : Int) ∧ ds.length = 32 ∧ Aside0 (∀ j, j < t → ds.getD j 0 = outB hs j) ∧ Aside0 (DInv w5 ds wr)) (fun v _ => 32 - (intOf v).toNat)
          case atStart => exact ⟨0, List.replicate 32 0, by omega, rfl, List.length_replicate .., HJ0, HD0⟩
          case round =>
            obtain ⟨t, ds, ht, rfl, hdl, HJ, HD⟩ := hrel
            have HDL := Aside0.mk hdl
            by_cases hlt : t < 32
            · obtain ⟨x, hx⟩ : ∃ x, hs[t / 4]? = some x := ⟨_, List.getElem?_eq_getElem (by rw [HHL.out]; omega)⟩
              obtain ⟨y, hy⟩ : ∃ y, ds[t]? = some y := ⟨_, List.getElem?_eq_getElem (by omega)⟩
              have cx : wr.cell? ⟨q, t / 4, none⟩ = some (.int .u32 x) := bread HD.out.bel (by rw [blk_cell HST5.out]; exact stC_get hx)
              have cy : wr.cell? ⟨w5.heap.size, t, none⟩ = some (.int .u8 y) := bytes_cell HD.out.dv hy
              have fz := blk_frozen HD.out.dv t
              have ht32 : (t : Int) < 32 := by omega
              have q1 : (t : Int) / 4 < 8 := by omega
              have hob : outB hs t = x / 2 ^ (24 - t % 4 * 8) % 256 := by unfold outB; rw [List.getD_eq_getElem?_getD, hx]; rfl
              have HN := Aside0.mk (HD.out.set t (x / 2 ^ (24 - t % 4 * 8) % 256))
              have HNJ := Aside0.mk (show ∀ j, j < t + 1 → (ds.set t (x / 2 ^ (24 - t % 4 * 8) % 256)).getD j 0 = outB hs j from fun j hj => by
                rw [getD_set _ _ _ _ (by rw [HDL.out]; exact hlt)]
                by_cases hjt : j = t
                · subst hjt; rw [if_pos rfl, hob]
                · rw [if_neg hjt]; exact HJ.out j (by omega))
              have HNL := Aside0.mk (show (ds.set t (x / 2 ^ (24 - t % 4 * 8) % 256)).length = 32 by rw [List.length_set]; exact HDL.out)
              clear hx hy hdl hob
              go_wp2
              go_roundw
              case rel => exact ⟨t + 1, _, by omega, by simp, HNL.out, HNJ, HN⟩
              case measure => simp [intOf]; omega
            · have ht32 : t = 32 := by omega
              subst ht32
              have hds : ds = digest m := by
                unfold digest
                rw [← HHS.out]
                apply List.ext_getElem?
                intro j
                by_cases hj : j < 32
                · have := HJ.out j hj
                  rw [List.getD_eq_getElem?_getD, List.getElem?_eq_getElem (by omega)] at this
                  rw [List.getElem?_eq_getElem (by omega), List.getElem?_map, List.getElem?_range hj]
                  simp only [Option.getD_some] at this
                  rw [this]
                  rfl
                · rw [List.getElem?_eq_none (by omega), List.getElem?_eq_none (by simp; omega)]
              have HDS := Aside0.mk hds
              obtain ⟨cs, hcs, hcz⟩ := HR5.out
              have HCS := Aside0.mk ((HD.out.bel.block _ (blk_lt hcs)).trans hcs)
              have hinfo : (Try.prog.info? 25).map (·.size) = some 32 := by kernel_rfl
              have hwz : (bytesA ds).size = 32 := by rw [bytesA_size, HDL.out]
              have HWZ := Aside0.mk hwz
              have HCZ := Aside0.mk hcz
              have HIN := Aside0.mk hinfo
              clear hcs hcz hds hwz hinfo hdl
              go_wp2_with (first | (refine wpList_load_row rfl 25 (.tmp 6) rfl w5.heap.size rfl 25 (bytesA ds) (0, 0) _ HD.out.dv Try.underlying25 rfl (by rw [HWZ.out]; exact HIN.out) ?_) | (refine wpList_store_row rfl 25 (.tmp 2) (.tmp 67) rfl w.heap.size (bytesA ds) rfl rfl 25 cs HCS.out (by rw [HWZ.out]; exact HIN.out) (by rw [HWZ.out]; exact HCZ.out) (bytesA_one ds) ?_))
              refine bodyPost_ret (v := .agg (bytesA ds)) (results_cell_row (p := 2) (ty := 25) rfl _ _ w.heap.size 25 (bytesA ds) (0, 0) _ rfl (setRow_heap _ _ _ _ _ _ HCS.out) Try.underlying25 rfl (by rw [HWZ.out]; exact HIN.out)) rfl ⟨by rw [HDS.out], below_setRow (HB5.out.trans (HD.out.bel.mono HB5.out.size)) (Nat.le_refl _) _⟩
set_option maxRecDepth 100000 in
set_option maxHeartbeats 8000000 in
theorem sum_nil (m : List Int) (w : World) (hm0 : m = []) :
    Calls Try.prog 15 #[.pointer none] w fun e w' => e = .returned (.agg (bytesA (digest m))) ∧ Below w.heap.size w w' := by
  have hl : m.length ≤ 100000 := by rw [hm0]; simp
  have HM0 := Aside0.mk hm0
  clear hm0
  go_enter Try.func15, Try.ntmps15
  go_wp2_with fail
  have HA := Aside0.mk ((Below.refl w.heap.size w).alloc (Nat.le_refl _) (Obj.cells #[.int .u8 0, .int .u8 0, .int .u8 0, .int .u8 0, .int .u8 0, .int .u8 0, .int .u8 0, .int .u8 0, .int .u8 0, .int .u8 0, .int .u8 0, .int .u8 0, .int .u8 0, .int .u8 0, .int .u8 0, .int .u8 0, .int .u8 0, .int .u8 0, .int .u8 0, .int .u8 0, .int .u8 0, .int .u8 0, .int .u8 0, .int .u8 0, .int .u8 0, .int .u8 0, .int .u8 0, .int .u8 0, .int .u8 0, .int .u8 0, .int .u8 0, .int .u8 0] 25))
  refine (new_any (w.alloc (Obj.cells #[.int .u8 0, .int .u8 0, .int .u8 0, .int .u8 0, .int .u8 0, .int .u8 0, .int .u8 0, .int .u8 0, .int .u8 0, .int .u8 0, .int .u8 0, .int .u8 0, .int .u8 0, .int .u8 0, .int .u8 0, .int .u8 0, .int .u8 0, .int .u8 0, .int .u8 0, .int .u8 0, .int .u8 0, .int .u8 0, .int .u8 0, .int .u8 0, .int .u8 0, .int .u8 0, .int .u8 0, .int .u8 0, .int .u8 0, .int .u8 0, .int .u8 0, .int .u8 0] 25))).mono ?_
  rintro e w0 ⟨p, rfl, hp, hN, hb0⟩
  have H0 := Aside0.mk (show IsH p m w0 by rw [HM0.out]; exact hN)
  have HA0 := Aside0.mk (HA.out.trans (hb0.mono (by simp)))
  have hr00 : ∃ cs : Array Value, w0.heap[w.heap.size]? = some (.cells cs 25 (0, 0)) ∧ cs.size = 32 := ⟨_, (hb0.block w.heap.size (by simp)).trans (blk_new w _), rfl⟩
  have HR00 := Aside0.mk hr00
  have hz0 : w.heap.size + 1 ≤ w0.heap.size := by have := hb0.size; simpa using this
  clear hN hb0 hr00 hp
  go_wp2_with fail
  refine (copy_calls p m _ H0.out).mono ?_
  rintro e w1 ⟨q, rfl, hq, hI, hb⟩
  have HQ := Aside0.mk hI
  have HB1 := Aside0.mk (HA0.out.trans (hb.mono (by omega)))
  have HHP := Aside0.mk (H0.out.below hb)
  have hqz : w.heap.size + 1 ≤ q := by omega
  have HR0 := Aside0.mk (show ∃ cs : Array Value, w1.heap[w.heap.size]? = some (.cells cs 25 (0, 0)) ∧ cs.size = 32 by
    obtain ⟨cs, h1, h2⟩ := HR00.out
    exact ⟨cs, (hb.block _ (blk_lt h1)).trans h1, h2⟩)
  clear hq hI hb
  go_wp2_with fail
  obtain ⟨r, hr⟩ : ∃ r, r = m.length % 64 := ⟨_, rfl⟩
  have HR := Aside0.mk hr
  have hr64 : r < 64 := by omega
  obtain ⟨Z, hZ⟩ : ∃ Z, Z = zerosOf r := ⟨_, rfl⟩
  have HZ := Aside0.mk hZ
  have hZr : Z ≤ 63 ∧ (r + 1 + Z) % 64 = 56 := by rw [hZ]; unfold zerosOf; omega
  have HF0 := Aside0.mk (show FInv w1 [128] (.slice (some ⟨w1.heap.size, 0, none⟩) 1 1) (w1.alloc (Obj.cells #[.int .u8 128] 5)) from ⟨⟨by simp [nums], .inr ⟨w1.heap.size, 1, #[.int .u8 128], rfl, Nat.le_refl _, blk_new _ _, Nat.le_refl _, by decide, rfl, rfl⟩⟩, (Below.refl _ _).alloc (Nat.le_refl _) _⟩)
  clear hr hZ
  go_loopw [4] (fun v4 wr => ∃ (z : Nat), z ≤ Z ∧ Aside0 (FInv w1 (128 :: List.replicate z 0) v4 wr)) (fun v _ => Z + 1 - lenV v)
  case atStart => exact ⟨0, by omega, HF0⟩
  case round =>
    obtain ⟨z, hz, HF⟩ := hrel
    have hQ := HQ.out.below HF.out.bel
    obtain ⟨vr, hst, A, n, c, e, hn, _⟩ := hQ
    rw [drop_rest, ← HR.out] at hn
    rw [hn] at e
    subst e
    have g8 := st_rest hst (blocks_length m _)
    obtain ⟨A4, c4, e4⟩ := row_form HF.out.row
    rw [List.length_cons, List.length_replicate] at e4
    subst e4
    have hn1 : (0 : Int) ≤ (r : Int) + ((z : Int) + 1) := by omega
    have hz63 : z ≤ 63 := by omega
    have HF' := Aside0.mk (show FInv w1 (128 :: List.replicate z 0) (.slice A4 (z + 1) c4) wr from HF.out)
    clear hst
    by_cases hlt : z < Z
    · have d1 : ((((r : Int) + ((z : Int) + 1)) % 64) != 56) = true := by simp; omega
      have hb1 := HF.out.bel.size
      have HRW := Aside0.mk (show wr.ownsRow w1.heap.size 5 1 (.slice A4 (z + 1) c4) (128 :: List.replicate z (0 : Int)).length (nums .u8 (128 :: List.replicate z 0)) from HF.out.row)
      have hbl : ((128 :: List.replicate z (0 : Int)).length + 1) * 1 ≤ 140737488355328 := by simp; omega
      have HB0 := Aside0.mk HF.out.bel
      go_wp2_with (at_builtin; refine print_append_num w1.heap.size rfl (.tmp 24) (.tmp 25) 22 5 .u8 1 rfl Try.underlying22 infoByte (by decide) _ (128 :: List.replicate z 0) _ rfl rfl HRW.out HB0.out hb1 hbl ?_)
      intro v1 w4 hown hB4 _ _
      have HNEW := Aside0.mk (show FInv w1 (128 :: List.replicate (z + 1) 0) v1 w4 from ⟨by rw [rep_snoc]; simpa using hown, hB4⟩)
      obtain ⟨A5, c5, e5⟩ := row_form HNEW.out.row
      rw [List.length_cons, List.length_replicate] at e5
      subst e5
      clear hown hB4
      go_wp2
      go_roundw
      case rel => exact ⟨z + 1, by omega, HNEW⟩
      case measure => simp [lenV]; omega
    · have hze : z = Z := by omega
      subst hze
      have d1 : ((((r : Int) + ((z : Int) + 1)) % 64) != 56) = false := by simp; omega
      clear hlt hz hZr
      go_wp2_with fail
      obtain ⟨FZ, hFZ⟩ : ∃ l : List Int, l = 128 :: List.replicate z 0 := ⟨_, rfl⟩
      rw [← hFZ] at HF'
      have HFZ := Aside0.mk hFZ
      have hfl : FZ.length = z + 1 := by rw [hFZ, List.length_cons, List.length_replicate]
      have HFL := Aside0.mk hfl
      have HF2 := Aside0.mk (show FInv w1 (FZ ++ (List.range 0).map (lenB m.length)) (.slice A4 (z + 1) c4) wr by simpa using HF'.out)
      clear hFZ hfl g8
      go_loopw [4, 5] (fun v4 v5 wr => ∃ (j : Nat), j ≤ 8 ∧ v5 = .int .i64 (7 - (j : Int)) ∧ Aside0 (FInv w1 (FZ ++ (List.range j).map (lenB m.length)) v4 wr)) (fun _ v _ => (intOf v + 1).toNat)
      case atStart => exact ⟨0, by omega, rfl, HF2⟩
      case round =>
        obtain ⟨j, hj, rfl, HG⟩ := hrel
        obtain ⟨vr2, hst2, hrd2⟩ := HHP.out.below HG.out.bel
        have g9 := st_n hst2 (blocks_length m _)
        obtain ⟨A4, c4, e4⟩ := row_form HG.out.row
        rw [List.length_append, List.length_map, List.length_range, HFL.out] at e4
        subst e4
        clear hst2 hrd2
        by_cases hlt : j < 8
        · have d2 : (0 : Int) ≤ 7 - (j : Int) := by omega
          have d3 : (j : Int) ≤ 7 := by omega
          have hb1 := HG.out.bel.size
          have HRW := Aside0.mk (show wr.ownsRow w1.heap.size 5 1 (.slice A4 (z + 1 + j) c4) (FZ ++ (List.range j).map (lenB m.length)).length (nums .u8 (FZ ++ (List.range j).map (lenB m.length))) from HG.out.row)
          have HBL := Aside0.mk (show ((FZ ++ (List.range j).map (lenB m.length)).length + 1) * 1 ≤ 140737488355328 by rw [List.length_append, List.length_map, List.length_range, HFL.out]; omega)
          have HB0 := Aside0.mk HG.out.bel
          go_wp2_with (at_builtin; refine print_append_num w1.heap.size rfl (.tmp 31) (.tmp 42) 22 5 .u8 1 rfl Try.underlying22 infoByte (by decide) _ (FZ ++ (List.range j).map (lenB m.length)) _ rfl rfl HRW.out HB0.out hb1 HBL.out ?_)
          intro v1 w4 hown hB4 _ _
          have HNEW := Aside0.mk (show FInv w1 (FZ ++ (List.range (j + 1)).map (lenB m.length)) v1 w4 from ⟨by
            rw [List.length_append, List.length_map, List.length_range, List.range_succ, List.map_append]
            exact hown, hB4⟩)
          clear hown hB4
          go_wp2
          go_roundw
          case rel => exact ⟨j + 1, by omega, by congr 1; omega, HNEW⟩
          case measure => simp [intOf]; omega
        · have hj8 : j = 8 := by omega
          subst hj8
          have HFILL := Aside0.mk (show FZ ++ (List.range 8).map (lenB m.length) = fillOf m by rw [HFZ.out, HZ.out, HR.out]; rfl)
          have HBG := Aside0.mk HG.out.bel
          have hrow := HG.out.row
          rw [HFILL.out] at hrow
          have hfl : (fillOf m).length ≤ 100 := by rw [← HFILL.out, List.length_append, HFL.out]; simp; omega
          have hd7 : (7 : Int) - ((8 : Nat) : Int) = -1 := by omega
          have hob : (Value.slice A4 (z + 1 + 8) c4).ownBlock ≠ some q := fun e => by have h1 := hrow.lt q e; have h2 := HQ.out.lt; omega
          have HC := Lib.hid (write_calls q m (fillOf m) _ wr (HQ.out.below HG.out.bel) (SrcB.of_row hrow) (fun _ => hob) (by omega))
          have HHPR := Aside0.mk (HHP.out.below HG.out.bel)
          have HQZ := Aside0.mk HQ.out.lt
          clear hrow hob hfl g9 hlt hj
          go_wp2_with fail
          refine HC.out.mono ?_
          rintro e w5 ⟨rfl, hi5, hk5, _⟩
          have HI5 := Aside0.mk (show IsH q (pad m) w5 from hi5)
          have HB5 := Aside0.mk (show Below w.heap.size w w5 from (HB1.out.trans (HBG.out.mono HB1.out.size)).trans (hk5.to_below (fun i hi => by omega) (by have := HB1.out.size; have := HBG.out.size; omega)))
          have HR5 := Aside0.mk (show ∃ cs : Array Value, w5.heap[w.heap.size]? = some (.cells cs 25 (0, 0)) ∧ cs.size = 32 by
            obtain ⟨cs, h1, h2⟩ := HR0.out
            exact ⟨cs, (hk5.block _ (by have := HBG.out.size; have := blk_lt h1; omega) (by omega)).trans ((HBG.out.block _ (blk_lt h1)).trans h1), h2⟩)
          clear hi5 hk5
          go_wp2_with fail
          obtain ⟨vr5, hst5, _⟩ := HI5.out
          obtain ⟨hs, hhs⟩ : ∃ hs, hs = blocks (pad m) ((pad m).length / 64) := ⟨_, rfl⟩
          have hhl : hs.length = 8 := by rw [hhs]; exact blocks_length _ _
          rw [← hhs] at hst5
          have HHS := Aside0.mk hhs
          have HST5 := Aside0.mk hst5
          have HHL := Aside0.mk hhl
          have HD0 := Aside0.mk (show DInv w5 (List.replicate 32 0) (w5.alloc (Obj.cells (bytesA (List.replicate 32 0)) 25)) from ⟨(Below.refl _ _).alloc (Nat.le_refl _) _, blk_new w5 _⟩)
          have HJ0 := Aside0.mk (show ∀ j, j < 0 → (List.replicate 32 (0 : Int)).getD j 0 = outB hs j from fun j hj => absurd hj (by omega))
          clear hhs hhl hst5 d1 hn1
          go_loopw [47] (fun v47 wr => ∃ (t : Nat) (ds : List Int), t ≤ 32 ∧ v47 = .int .i64 (t : Int) ∧ ds.length = 32 ∧ Aside0 (∀ j, j < t → ds.getD j 0 = outB hs j) ∧ Aside0 (DInv w5 ds wr)) (fun v _ => 32 - (intOf v).toNat)
          case atStart => exact ⟨0, List.replicate 32 0, by omega, rfl, List.length_replicate .., HJ0, HD0⟩
          case round =>
            obtain ⟨t, ds, ht, rfl, hdl, HJ, HD⟩ := hrel
            have HDL := Aside0.mk hdl
            by_cases hlt : t < 32
            · obtain ⟨x, hx⟩ : ∃ x, hs[t / 4]? = some x := ⟨_, List.getElem?_eq_getElem (by rw [HHL.out]; omega)⟩
              obtain ⟨y, hy⟩ : ∃ y, ds[t]? = some y := ⟨_, List.getElem?_eq_getElem (by omega)⟩
              have cx : wr.cell? ⟨q, t / 4, none⟩ = some (.int .u32 x) := bread HD.out.bel (by rw [blk_cell HST5.out]; exact stC_get hx)
              have cy : wr.cell? ⟨w5.heap.size, t, none⟩ = some (.int .u8 y) := bytes_cell HD.out.dv hy
              have fz := blk_frozen HD.out.dv t
              have ht32 : (t : Int) < 32 := by omega
              have q1 : (t : Int) / 4 < 8 := by omega
              have hob : outB hs t = x / 2 ^ (24 - t % 4 * 8) % 256 := by unfold outB; rw [List.getD_eq_getElem?_getD, hx]; rfl
              have HN := Aside0.mk (HD.out.set t (x / 2 ^ (24 - t % 4 * 8) % 256))
              have HNJ := Aside0.mk (show ∀ j, j < t + 1 → (ds.set t (x / 2 ^ (24 - t % 4 * 8) % 256)).getD j 0 = outB hs j from fun j hj => by
                rw [getD_set _ _ _ _ (by rw [HDL.out]; exact hlt)]
                by_cases hjt : j = t
                · subst hjt; rw [if_pos rfl, hob]
                · rw [if_neg hjt]; exact HJ.out j (by omega))
              have HNL := Aside0.mk (show (ds.set t (x / 2 ^ (24 - t % 4 * 8) % 256)).length = 32 by rw [List.length_set]; exact HDL.out)
              clear hx hy hdl hob
              go_wp2
              go_roundw
              case rel => exact ⟨t + 1, _, by omega, by simp, HNL.out, HNJ, HN⟩
              case measure => simp [intOf]; omega
            · have ht32 : t = 32 := by omega
              subst ht32
              have hds : ds = digest m := by
                unfold digest
                rw [← HHS.out]
                apply List.ext_getElem?
                intro j
                by_cases hj : j < 32
                · have := HJ.out j hj
                  rw [List.getD_eq_getElem?_getD, List.getElem?_eq_getElem (by omega)] at this
                  rw [List.getElem?_eq_getElem (by omega), List.getElem?_map, List.getElem?_range hj]
                  simp only [Option.getD_some] at this
                  rw [this]
                  rfl
                · rw [List.getElem?_eq_none (by omega), List.getElem?_eq_none (by simp; omega)]
              have HDS := Aside0.mk hds
              obtain ⟨cs, hcs, hcz⟩ := HR5.out
              have HCS := Aside0.mk ((HD.out.bel.block _ (blk_lt hcs)).trans hcs)
              have hinfo : (Try.prog.info? 25).map (·.size) = some 32 := by kernel_rfl
              have hwz : (bytesA ds).size = 32 := by rw [bytesA_size, HDL.out]
              have HWZ := Aside0.mk hwz
              have HCZ := Aside0.mk hcz
              have HIN := Aside0.mk hinfo
              clear hcs hcz hds hwz hinfo hdl
              go_wp2_with (first | (refine wpList_load_row rfl 25 (.tmp 6) rfl w5.heap.size rfl 25 (bytesA ds) (0, 0) _ HD.out.dv Try.underlying25 rfl (by rw [HWZ.out]; exact HIN.out) ?_) | (refine wpList_store_row rfl 25 (.tmp 2) (.tmp 67) rfl w.heap.size (bytesA ds) rfl rfl 25 cs HCS.out (by rw [HWZ.out]; exact HIN.out) (by rw [HWZ.out]; exact HCZ.out) (bytesA_one ds) ?_))
              refine bodyPost_ret (v := .agg (bytesA ds)) (results_cell_row (p := 2) (ty := 25) rfl _ _ w.heap.size 25 (bytesA ds) (0, 0) _ rfl (setRow_heap _ _ _ _ _ _ HCS.out) Try.underlying25 rfl (by rw [HWZ.out]; exact HIN.out)) rfl ⟨by rw [HDS.out], below_setRow (HB5.out.trans (HD.out.bel.mono HB5.out.size)) (Nat.le_refl _) _⟩
set_option maxRecDepth 100000 in
set_option maxHeartbeats 8000000 in
/-- hash.Sum of bytes. -/
theorem hsum_calls (v : Value) (b : List Int) (w : World) (hv : SrcB w v b) (hl : b.length ≤ 100000) :
    Calls Try.prog 11 #[v] w fun e w' => e = .returned (.agg (bytesA (digest b))) ∧ Below w.heap.size w w' := by
  have HV := Aside0.mk hv
  clear hv
  go_enter Try.func11, Try.ntmps11
  go_wp2_with fail
  have HA := Aside0.mk ((Below.refl w.heap.size w).alloc (Nat.le_refl _) (Obj.cells #[.int .u8 0, .int .u8 0, .int .u8 0, .int .u8 0, .int .u8 0, .int .u8 0, .int .u8 0, .int .u8 0, .int .u8 0, .int .u8 0, .int .u8 0, .int .u8 0, .int .u8 0, .int .u8 0, .int .u8 0, .int .u8 0, .int .u8 0, .int .u8 0, .int .u8 0, .int .u8 0, .int .u8 0, .int .u8 0, .int .u8 0, .int .u8 0, .int .u8 0, .int .u8 0, .int .u8 0, .int .u8 0, .int .u8 0, .int .u8 0, .int .u8 0, .int .u8 0] 25))
  refine (new_any (w.alloc (Obj.cells #[.int .u8 0, .int .u8 0, .int .u8 0, .int .u8 0, .int .u8 0, .int .u8 0, .int .u8 0, .int .u8 0, .int .u8 0, .int .u8 0, .int .u8 0, .int .u8 0, .int .u8 0, .int .u8 0, .int .u8 0, .int .u8 0, .int .u8 0, .int .u8 0, .int .u8 0, .int .u8 0, .int .u8 0, .int .u8 0, .int .u8 0, .int .u8 0, .int .u8 0, .int .u8 0, .int .u8 0, .int .u8 0, .int .u8 0, .int .u8 0, .int .u8 0, .int .u8 0] 25))).mono ?_
  rintro e w0 ⟨p, rfl, hp, hN, hb0⟩
  have hpz : w.heap.size + 1 ≤ p := by simpa using hp
  have HA0 := Aside0.mk (HA.out.trans (hb0.mono (by simp)))
  have HC := Lib.hid (write_calls p [] b v w0 hN (HV.out.below HA0.out) (fun h0 e => by have := SrcB.lt HV.out h0 p e; omega) (by simp; omega))
  have HR00 := Aside0.mk (show ∃ cs : Array Value, w0.heap[w.heap.size]? = some (.cells cs 25 (0, 0)) ∧ cs.size = 32 from ⟨_, (hb0.block w.heap.size (by simp)).trans (blk_new w _), rfl⟩)
  have HZ0 := Aside0.mk (show w.heap.size + 1 ≤ w0.heap.size by have := hb0.size; simpa using this)
  clear hN hb0 hp
  go_wp2_with fail
  refine HC.out.mono ?_
  rintro e w1 ⟨rfl, hi, hk, _⟩
  rw [List.nil_append] at hi
  have HB1 := Aside0.mk (HA0.out.trans (hk.to_below (fun i h => by omega) HA0.out.size))
  have HR1 := Aside0.mk (show ∃ cs : Array Value, w1.heap[w.heap.size]? = some (.cells cs 25 (0, 0)) ∧ cs.size = 32 by
    obtain ⟨cs, h1, h2⟩ := HR00.out
    exact ⟨cs, (hk.block _ (blk_lt h1) (by omega)).trans h1, h2⟩)
  have HZ1 := Aside0.mk (show w.heap.size + 1 ≤ w1.heap.size by have := hk.size; have := HZ0.out; omega)
  have HC2 := Lib.hid (sum_calls p b w1 hi hl)
  clear hi hk
  go_wp2_with fail
  refine HC2.out.mono ?_
  rintro e w2 ⟨rfl, hb2⟩
  have HB2 := Aside0.mk (HB1.out.trans (hb2.mono HB1.out.size))
  obtain ⟨cs, hcs, hcz⟩ := HR1.out
  have HCS := Aside0.mk ((hb2.block _ (by have := HZ1.out; omega)).trans hcs)
  have hinfo : (Try.prog.info? 25).map (·.size) = some 32 := by kernel_rfl
  obtain ⟨ds, hds⟩ : ∃ ds, ds = digest b := ⟨_, rfl⟩
  have hwz : (bytesA ds).size = 32 := by rw [bytesA_size, hds]; simp [digest]
  rw [← hds]
  have HDS := Aside0.mk hds
  have HWZ := Aside0.mk hwz
  have HCZ := Aside0.mk hcz
  have HIN := Aside0.mk hinfo
  clear hb2 hcs hcz hds hwz hinfo
  go_wp2_with (refine wpList_store_row rfl 25 (.tmp 2) (.tmp 9) rfl w.heap.size (bytesA ds) rfl rfl 25 cs HCS.out (by rw [HWZ.out]; exact HIN.out) (by rw [HWZ.out]; exact HCZ.out) (bytesA_one ds) ?_)
  refine bodyPost_ret (v := .agg (bytesA ds)) (results_cell_row (p := 2) (ty := 25) rfl _ _ w.heap.size 25 (bytesA ds) (0, 0) _ rfl (setRow_heap _ _ _ _ _ _ HCS.out) Try.underlying25 rfl (by rw [HWZ.out]; exact HIN.out)) rfl ⟨by rw [HDS.out], below_setRow HB2.out (Nat.le_refl _) _⟩
end Go.Proofs.Ytjlnbklendkflaa
