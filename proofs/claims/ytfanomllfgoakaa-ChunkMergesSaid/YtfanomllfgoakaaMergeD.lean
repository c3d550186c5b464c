/- The law ChunkMerges, walked. -/
import Derived.Test.YtfanomllfgoakaaMergeC
set_option linter.unusedVariables false
set_option linter.unusedSimpArgs false
namespace Go.Proofs.Ytfanomllfgoakaa
open Go.RowKit Go.Proofs.YtfanomllfgoakaaW.PrintWords Go.Proofs.YtfanomllfgoakaaW.PrintLast Go.Proofs.YtfanomllfgoakaaW.PrintMore
open Go.Proofs.Ytfanomllfgoakaa.BitsMath Go.Proofs.Ytfanomllfgoakaa.ChunkMath Go.Proofs.Ytfanomllfgoakaa.MergeMath

/-- The law's own row of points. -/
structure WInv (wb : World) (L : List Pt) (v : Value) (wr : World) : Prop where
  row : wr.ownsRow wb.heap.size 68 2 v L.length (rowP L)
  bel : Below wb.heap.size wb wr
theorem WInv.later {wb wr w1 : World} {L : List Pt} {v : Value} (h : WInv wb L v wr) (k : Below wr.heap.size wr w1) : WInv wb L v w1 := ⟨row_below k h.row, h.bel.trans (k.mono h.bel.size)⟩
theorem WInv.push {wb : World} {L : List Pt} {v v' : Value} {wr w4 : World} {q : Pt} {o' : Obj} (h : WInv wb L v wr)
    (hown : w4.ownsRow wb.heap.size 68 2 v' (L.length + 1) (rowP L ++ ptCells q)) (hg : (wr.alloc o').grownBy w4 v.ownBlock) : WInv wb (L ++ [q]) v' w4 := by
  refine ⟨?_, ?_⟩
  · rw [List.length_append, rowP_append]
    simpa [rowP] using hown
  · exact (h.bel.alloc h.bel.size o').grown hg (by have := h.bel.size; simp; omega) fun k hk => (h.row.lt k hk).1
theorem WInv.inserted {wb : World} {L : List Pt} {v v' : Value} {wr x9 x10 : World} {q : Pt} {j m : Nat} (h : WInv wb L v wr) (hj : j = below q L) (hm : m = ([q] ++ L.drop j).length) (h9 : Below wr.heap.size wr x9) (h10 : Below wr.heap.size wr x10)
    (hown : x10.ownsRow x9.heap.size 68 2 v' (j + m) (rowP (L.take j) ++ rowP ([q] ++ L.drop j))) : WInv wb (ins L q) v' x10 := by
  have hjl := below_le q L
  have e : ins L q = L.take j ++ ([q] ++ L.drop j) := by unfold ins; rw [hj]; rfl
  refine ⟨?_, h.bel.trans (h10.mono h.bel.size)⟩
  rw [e, rowP_append, List.length_append, ← hm, List.length_take, Nat.min_eq_left (by omega)]
  exact row_mono hown (Nat.le_trans h.bel.size h9.size)
theorem new_row (W : World) (B : Nat) (q : Pt) (hB : B ≤ W.heap.size) : (W.alloc (Obj.cells #[.int .i64 q.at_, .int .i64 q.v] 68)).ownsRow B 68 2 (.slice (some ⟨W.heap.size, 0, none⟩) 1 1) [q].length (rowP [q]) :=
  ⟨by simp [rowP, ptCells], .inr ⟨W.heap.size, 1, #[.int .i64 q.at_, .int .i64 q.v], rfl, hB, blk_new _ _, Nat.le_refl _, by decide, rfl, by simp [rowP, ptCells]⟩⟩
theorem row_drop {w : World} {B g cap j : Nat} {L : List Pt} (h : w.ownsRow B 68 2 (.slice (some ⟨g, 0, none⟩) L.length cap) L.length (rowP L)) (hj : j ≤ L.length) (hc : L.length ≤ cap) : SrcP w (.slice (if cap = j then some ⟨g, 0, none⟩ else some ⟨g, j * 2, none⟩) (L.length - j) (cap - j)) (L.drop j) := by
  have hs := SrcP.of_row h
  rcases hs with ⟨c', e, _⟩ | ⟨ad, c', e, hcell⟩
  · cases e
  · injection e with e1 e2 e3
    injection e1 with e1
    subst e1
    by_cases hcj : cap = j
    · rw [if_pos hcj]
      refine .inr ⟨_, _, by rw [List.length_drop], fun i x hx => ?_⟩
      have := (List.getElem?_eq_some_iff.1 hx).1
      rw [List.length_drop] at this
      omega
    · rw [if_neg hcj]
      refine .inr ⟨_, _, by rw [List.length_drop], fun i x hx => ?_⟩
      rw [List.getElem?_drop] at hx
      have h0 := hcell (j + i) x hx
      have e : Addr.add ⟨g, j * 2, none⟩ (i * 2) = Addr.add ⟨g, 0, none⟩ ((j + i) * 2) := by
        have e0 : ∀ o m, Addr.add ⟨g, o, none⟩ m = ⟨g, o + m, none⟩ := fun o m => by unfold Addr.add; split <;> simp_all
        rw [e0, e0]; congr 1; omega
      rw [e]
      exact h0
theorem row_take {w : World} {B g cap j : Nat} {L : List Pt} (h : w.ownsRow B 68 2 (.slice (some ⟨g, 0, none⟩) L.length cap) L.length (rowP L)) (i : Nat) (u : Value) (hu : (rowP (L.take j))[i]? = some u) : w.cell? (Addr.add ⟨g, 0, none⟩ i) = some u := by
  have hs := SrcP.of_row h
  rcases hs with ⟨c', e, _⟩ | ⟨ad, c', e, hcell⟩
  · cases e
  · injection e with e1 e2 e3
    injection e1 with e1
    subst e1
    exact SrcP.flat (l := L.take j) (fun k x hx => hcell k x (by
      have hk := (List.getElem?_eq_some_iff.1 hx).1
      rw [List.length_take] at hk
      rw [List.getElem?_take_of_lt (by omega)] at hx
      exact hx)) i u hu
theorem row_cells {w : World} {B g cap n : Nat} {L : List Pt} (h : w.ownsRow B 68 2 (.slice (some ⟨g, 0, none⟩) n cap) n (rowP L)) (i : Nat) (u : Value) (hu : (rowP L)[i]? = some u) : w.cell? (Addr.add ⟨g, 0, none⟩ i) = some u := World.ownsRow.cells h rfl i _ hu
set_option maxRecDepth 100000 in
set_option maxHeartbeats 16000000 in
theorem merges_main (A : Option Addr) (ca : Nat) (C : Option Addr) (cb : Nat) (a b : List Pt) (w : World) (ha : SrcP w (.slice A a.length ca) a) (hb : SrcP w (.slice C b.length cb) b) (hla : a.length ≤ 40) (hlb : b.length ≤ 40)
    (oa : ∀ x ∈ a, okPt x) (ob : ∀ x ∈ b, okPt x) (ra : rises a) (rb : rises b) :
    Calls Try.prog 10 #[.slice A a.length ca, .slice C b.length cb] w fun e w' => e = .returned (.bool true) ∧ Below w.heap.size w w' := by
  obtain ⟨i0, hi, hz0, hz1, hz2⟩ := info_parts infoPt
  have HA := Aside0.mk ha
  have HB := Aside0.mk hb
  have OA := Aside0.mk oa
  have OB := Aside0.mk ob
  have RA := Aside0.mk ra
  have RB := Aside0.mk rb
  obtain ⟨sa, hsa⟩ : ∃ s, s = strOfNums (ChunkMath.bytes a) := ⟨_, rfl⟩
  obtain ⟨sb, hsb⟩ : ∃ s, s = strOfNums (ChunkMath.bytes b) := ⟨_, rfl⟩
  obtain ⟨sm, hsm⟩ : ∃ s, s = strOfNums (ChunkMath.bytes (merge a b)) := ⟨_, rfl⟩
  have KA := Aside0.mk (conv_bytes a sa hsa oa ra (by omega))
  have KB := Aside0.mk (conv_bytes b sb hsb ob rb (by omega))
  have LA := Aside0.mk (fun W (h : SrcP W (.slice A a.length ca) a) => lb_calls _ a W sa hsa h (by omega) oa ra)
  have LB := Aside0.mk (fun W (h : SrcP W (.slice C b.length cb) b) => lb_calls _ b W sb hsb h (by omega) ob rb)
  have HSM := Aside0.mk hsm
  have TA := Aside0.mk (show tell a = 0 from tell_ok (fun x hx => ⟨(oa x hx).1, (oa x hx).2.1⟩) ra)
  have TB := Aside0.mk (show tell b = 0 from tell_ok (fun x hx => ⟨(ob x hx).1, (ob x hx).2.1⟩) rb)
  have DA := Aside0.mk (dec_bytes a oa ra (by omega))
  have DB := Aside0.mk (dec_bytes b ob rb (by omega))
  have BA := Aside0.mk (bytes_src a oa ra (by omega))
  have BB := Aside0.mk (bytes_src b ob rb (by omega))
  have d40a : decide (40 < (a.length : Int)) = false := decide_eq_false (by omega)
  have d40b : decide (40 < (b.length : Int)) = false := decide_eq_false (by omega)
  clear ha hb oa ob ra rb hsa hsb hsm
  go_enter Try.func10, Try.ntmps10
  go_wp2_with fail
  refine (lives4_calls _).mono ?_
  rintro e w1 ⟨rfl, h1⟩
  have H1 := Aside0.mk h1
  have hc2 := rightL_calls _ a w1 (HA.out.below h1) (by omega)
  rw [TA.out, show ((0 : Nat) : Int) = 0 from rfl] at hc2
  have HC2 := Lib.hid hc2
  clear h1 hc2
  go_wp2_with fail
  refine HC2.out.mono ?_
  rintro e w2 ⟨rfl, h2⟩
  have H2 := Aside0.mk (H1.out.trans (h2.mono H1.out.size))
  have hc3 := rightL_calls _ b w2 (HB.out.below H2.out) (by omega)
  rw [TB.out, show ((0 : Nat) : Int) = 0 from rfl] at hc3
  have HC3 := Lib.hid hc3
  clear h2 hc3
  go_wp2_with fail
  refine HC3.out.mono ?_
  rintro e w3 ⟨rfl, h3⟩
  have H3 := Aside0.mk (H2.out.trans (h3.mono H2.out.size))
  have HC4 := Lib.hid (LA.out w3 (HA.out.below H3.out))
  clear h3 HC3 HC2
  go_wp2_with fail
  refine HC4.out.mono ?_
  rintro e w4 ⟨rfl, h4⟩
  have H4 := Aside0.mk (H3.out.trans (h4.mono H3.out.size))
  obtain ⟨V4, X4, hcv, hsrc, hbx⟩ := KA.out w4
  have HX4 := Aside0.mk (H4.out.trans (hbx.mono H4.out.size))
  have HS4 := Aside0.mk hsrc
  have HC5 := Lib.hid (LB.out X4 (HB.out.below HX4.out))
  clear h4 hsrc hbx HC4
  go_wp2_with fail
  refine HC5.out.mono ?_
  rintro e w5 ⟨rfl, h5⟩
  have H5 := Aside0.mk (HX4.out.trans (h5.mono HX4.out.size))
  obtain ⟨V5, X5, hcv5, hsrc5, hbx5⟩ := KB.out w5
  have HX5 := Aside0.mk (H5.out.trans (hbx5.mono H5.out.size))
  have HC6 := Lib.hid (merge_calls V4 V5 _ _ a b X5 (SrcB.later (SrcB.later HS4.out h5) hbx5) hsrc5 BA.out.2.1 BB.out.2.1 (pack_range (enc a)) (pack_range (enc b)) DA.out DB.out (by omega))
  clear h5 hsrc5 hbx5 HC5 hcv
  go_wp2_with fail
  refine HC6.out.mono ?_
  rintro e w6 ⟨vc, rfl, hrc, h6⟩
  have H6 := Aside0.mk (HX5.out.trans (h6.mono HX5.out.size))
  have HRC := Aside0.mk hrc
  have hz6 := H6.out.size
  clear h6 hrc hcv5 HC6 HS4 HX4 HX5
  go_wp2_with fail
  go_loopw [7, 55] (fun v7 v55 wr => ∃ (k : Nat), k ≤ a.length ∧ v55 = .int .i64 (k : Int) ∧ Aside0 (WInv w6 ((a.take k).filter (outside b)) v7 wr)) (fun _ v _ => a.length - (intOf v).toNat)
  case atStart => exact ⟨0, by omega, rfl, ⟨⟨World.ownsRow_nil _ _ _ _, Below.refl _ _⟩⟩⟩
  case round =>
    obtain ⟨k, hk, rfl, HI⟩ := hrel
    obtain ⟨wo, hwo⟩ : ∃ wo : World, wo = wr := ⟨_, rfl⟩
    subst hwo
    by_cases hlt : k < a.length
    · obtain ⟨ad, rfl, hca⟩ := HA.out.cells (by omega)
      obtain ⟨p, hp⟩ : ∃ x, a[k]? = some x := ⟨_, List.getElem?_eq_getElem hlt⟩
      have HP := Aside0.mk hp
      have HBO := Aside0.mk (H6.out.trans (HI.out.bel.mono H6.out.size))
      have ce0 := bread HBO.out (hca k p hp).1
      have ce1 := bread HBO.out (hca k p hp).2
      have hln := List.length_filter_le (outside b) (a.take k)
      have hln2 : (a.take k).length ≤ k := List.length_take_le _ _
      have HLN := Aside0.mk (show ((a.take k).filter (outside b)).length ≤ 40 by omega)
      clear hca hp hln hln2
      go_wp2_with fail
      go_loopw [10, 61] (fun v10 v61 wi => ∃ m : Nat, m ≤ b.length ∧ v61 = .int .i64 (m : Int) ∧ v10 = .bool (ovr b m p) ∧ Aside0 (Below (wo.heap.size + 1) (wo.alloc (Obj.cells #[.int .i64 p.at_, .int .i64 p.v] 68)) wi)) (fun _ v _ => b.length - (intOf v).toNat)
      case atStart => exact ⟨0, by omega, rfl, rfl, ⟨Below.refl _ _⟩⟩
      case round =>
        obtain ⟨m, hm, rfl, rfl, HW⟩ := hrel
        have HBI := Aside0.mk (HBO.out.trans (((Below.refl wo.heap.size wo).alloc (Nat.le_refl _) (Obj.cells #[.int .i64 p.at_, .int .i64 p.v] 68)).trans (HW.out.mono (by simp))|>.mono HBO.out.size))
        have hnew : (wo.alloc (Obj.cells #[.int .i64 p.at_, .int .i64 p.v] 68)).heap[wo.heap.size]? = some (.cells #[.int .i64 p.at_, .int .i64 p.v] 68 (0, 0)) := blk_new wo _
        have hnb : wr.heap[wo.heap.size]? = some (.cells #[.int .i64 p.at_, .int .i64 p.v] 68 (0, 0)) := (HW.out.block _ (by omega)).trans hnew
        have cn0 : wr.cell? ⟨wo.heap.size, 0, none⟩ = some (.int .i64 p.at_) := blk_cell hnb 0
        have cn1 : wr.cell? ⟨wo.heap.size, 1, none⟩ = some (.int .i64 p.v) := blk_cell hnb 1
        have hwz : wo.heap.size + 1 ≤ wr.heap.size := by have := HW.out.size; simp at this; omega
        clear hnew hnb ce0 ce1
        by_cases hlt2 : m < b.length
        · obtain ⟨bd, rfl, hcb⟩ := HB.out.cells (by omega)
          obtain ⟨q, hq⟩ : ∃ x, b[m]? = some x := ⟨_, List.getElem?_eq_getElem hlt2⟩
          have HQ := Aside0.mk hq
          have de0 := bread HBI.out (hcb m q hq).1
          have de1 := bread HBI.out (hcb m q hq).2
          have HNX := Aside0.mk (HW.out.alloc hwz (Obj.cells #[.int .i64 q.at_, .int .i64 q.v] 68))
          have cna := bread_alloc cn0 (Obj.cells #[.int .i64 q.at_, .int .i64 q.v] 68)
          clear hcb hq
          cases ho : ovr b m p with
          | true =>
            go_wp2
            go_roundw
            case rel => exact ⟨m + 1, by omega, by simp, by rw [ovr_succ HQ.out, ho]; simp, HNX⟩
            case measure => simp [intOf]; omega
          | false =>
            cases he : (p.at_ == q.at_) with
            | true =>
              go_wp2
              go_roundw
              case rel => exact ⟨m + 1, by omega, by simp, by rw [ovr_succ HQ.out, ho, he]; simp, HNX⟩
              case measure => simp [intOf]; omega
            | false =>
              go_wp2
              go_roundw
              case rel => exact ⟨m + 1, by omega, by simp, by rw [ovr_succ HQ.out, ho, he]; simp, HNX⟩
              case measure => simp [intOf]; omega
        · have hme : m = b.length := by omega
          subst hme
          have HIW := Aside0.mk (HI.out.later (((Below.refl wo.heap.size wo).alloc (Nat.le_refl _) (Obj.cells #[.int .i64 p.at_, .int .i64 p.v] 68)).trans (HW.out.mono (by simp))))
          have HFS := Aside0.mk (filt_succ (b := b) HP.out)
          rw [ovr_all]
          cases ho : outside b p with
          | true =>
            rw [ho] at HFS
            have HRW := Aside0.mk HIW.out.row
            have hq6 := HIW.out.bel.size
            have hpl : ((a.take k).filter (outside b)).length ≤ 1000000 := by have := HLN.out; omega
            obtain ⟨F, hF⟩ : ∃ F, F = (a.take k).filter (outside b) := ⟨_, rfl⟩
            rw [← hF] at HRW hpl HIW HFS
            clear hF
            go_wp2_with (at_builtin; refine append_pt w6.heap.size rfl (.tmp 76) (.tmp 78) rfl _ F p rfl rfl HRW.out hq6 hpl ?_)
            intro v1 w4 hown hgrow
            have HNEW := Aside0.mk (HIW.out.push hown hgrow)
            clear hown hgrow
            go_wp2
            go_roundw
            case rel => exact ⟨k + 1, by omega, by simp, by rw [HFS.out]; exact HNEW⟩
            case measure => simp [intOf]; omega
          | false =>
            rw [ho] at HFS
            obtain ⟨F, hF⟩ : ∃ F, F = (a.take k).filter (outside b) := ⟨_, rfl⟩
            rw [← hF] at HIW HFS
            clear hF
            go_wp2
            go_roundw
            case rel => exact ⟨k + 1, by omega, by simp, by rw [HFS.out, if_neg (by simp), List.append_nil]; exact HIW⟩
            case measure => simp [intOf]; omega
    · have hke : k = a.length := by omega
      subst hke
      have HI0 := HI
      rw [List.take_length] at HI0
      have hF0 : (a.filter (outside b)).length ≤ 40 := by have := List.length_filter_le (outside b) a; omega
      have HMI := Aside0.mk (merge_is a b RA.out RB.out)
      obtain ⟨F, hF⟩ : ∃ F, F = a.filter (outside b) := ⟨_, rfl⟩
      rw [← hF] at HI0 hF0 HMI
      clear hF HI hlt hk
      go_wp2_with fail
      go_loopw [7, 83] (fun v7 v83 wr => ∃ (k : Nat), k ≤ b.length ∧ v83 = .int .i64 (k : Int) ∧ Aside0 (WInv w6 ((b.take k).foldl ins F) v7 wr)) (fun _ v _ => b.length - (intOf v).toNat)
      case atStart => exact ⟨0, by omega, rfl, HI0⟩
      case round =>
        obtain ⟨k, hk, rfl, HI⟩ := hrel
        obtain ⟨w8, hw8⟩ : ∃ wo : World, wo = wr := ⟨_, rfl⟩
        subst hw8
        have hLl := fold_length (b.take k) F
        have hLk : (b.take k).length ≤ k := List.length_take_le _ _
        by_cases hlt : k < b.length
        · obtain ⟨bd, rfl, hcb⟩ := HB.out.cells (by omega)
          obtain ⟨q, hq⟩ : ∃ x, b[k]? = some x := ⟨_, List.getElem?_eq_getElem hlt⟩
          have HFS := Aside0.mk (fold_succ (f := F) hq)
          have HBO := Aside0.mk (H6.out.trans (HI.out.bel.mono H6.out.size))
          have de0 := bread HBO.out (hcb k q hq).1
          have de1 := bread HBO.out (hcb k q hq).2
          obtain ⟨L, hL⟩ : ∃ L, L = (b.take k).foldl ins F := ⟨_, rfl⟩
          rw [← hL] at HI HFS hLl
          have hLn : L.length ≤ 80 := by omega
          have hbl := below_le q L
          have HN8 := Aside0.mk (HI.out.later ((Below.refl w8.heap.size w8).alloc (Nat.le_refl _) (Obj.cells #[.int .i64 q.at_, .int .i64 q.v] 68)))
          obtain ⟨J, hJ⟩ : ∃ J, J = below q L := ⟨_, rfl⟩
          have HJ := Aside0.mk hJ
          rw [← hJ] at hbl
          clear hcb hq hL hLl hLk hJ
          rcases HI.out.row.2 with ⟨rfl, hn0⟩ | ⟨g, cap, cur, rfl, hgb, hgc, hnc, hcm, _⟩
          · obtain rfl : L = [] := List.eq_nil_of_length_eq_zero hn0
            have hJ0 : J = 0 := HJ.out
            subst hJ0
            go_wp2_with fail
            go_loopw [15] (fun v15 wi => v15 = .int .i64 0 ∧ Aside0 (Below (w8.heap.size + 1) (w8.alloc (Obj.cells #[.int .i64 q.at_, .int .i64 q.v] 68)) wi)) (fun _ _ => 0)
            case atStart => exact ⟨rfl, ⟨Below.refl _ _⟩⟩
            case round =>
              obtain ⟨rfl, HW⟩ := hrel
              have hnb : wr.heap[w8.heap.size]? = some (.cells #[.int .i64 q.at_, .int .i64 q.v] 68 (0, 0)) := (HW.out.block _ (by omega)).trans (blk_new w8 _)
              have cn0 : wr.cell? ⟨w8.heap.size, 0, none⟩ = some (.int .i64 q.at_) := blk_cell hnb 0
              have cn1 : wr.cell? ⟨w8.heap.size, 1, none⟩ = some (.int .i64 q.v) := blk_cell hnb 1
              have HIW := Aside0.mk (HN8.out.later (HW.out.mono (by simp)))
              have hwz : w8.heap.size + 1 ≤ wr.heap.size := by have := HW.out.size; simp at this; omega
              have HDR := Aside0.mk (show SrcP (wr.alloc (Obj.cells #[.int .i64 q.at_, .int .i64 q.v] 68)) (.slice none 0 0) ([].drop 0) from .inl ⟨0, rfl, rfl⟩)
              have hb9 := HIW.out.bel.size
              clear hnb de0 de1
              go_wp2_with fail
              refine start_ (n := 14) (S := fun w' => True) (ds := []) #[false, false, false, false, false, false, false, false, false, false, false, false, false, false] (by kernel_rfl) rfl rfl trivial (fun hHeld => ?_)
              refine pure_ (i := 0) (N := some 87) (v := ?_) (a' := ?_) #[true, false, false, false, false, false, false, false, false, false, false, false, false, false] rfl rfl (by kernel_rfl) (fun _ _ _ h => h) (Or.inl ⟨by rfl, ?_⟩) ?_ ?_
              rotate_left
              · intro w'
                go_simp
                with_reducible rfl
              rotate_left
              · simp only [Act.put, List.setIfInBounds_toArray, List.set_cons_zero, List.set_cons_succ, i64_w, i32_w]
                rfl
              refine pure_ (i := 1) (N := some 88) (v := ?_) (a' := ?_) #[true, true, false, false, false, false, false, false, false, false, false, false, false, false] rfl rfl (by kernel_rfl) (fun _ _ _ h => h) (Or.inl ⟨by rfl, ?_⟩) ?_ ?_
              rotate_left
              · intro w'
                go_simp
                with_reducible rfl
              rotate_left
              · simp only [Act.put, List.setIfInBounds_toArray, List.set_cons_zero, List.set_cons_succ, i64_w, i32_w]
                rfl
              refine pure_ (i := 2) (N := some 89) (v := ?_) (a' := ?_) #[true, true, true, false, false, false, false, false, false, false, false, false, false, false] rfl rfl (by kernel_rfl) (fun _ _ _ h => h) (Or.inl ⟨by rfl, ?_⟩) ?_ ?_
              rotate_left
              · intro w'
                go_simp
                with_reducible rfl
              rotate_left
              · simp only [Act.put, List.setIfInBounds_toArray, List.set_cons_zero, List.set_cons_succ, i64_w, i32_w]
                rfl
              refine pure_ (i := 3) (N := some 90) (v := ?_) (a' := ?_) #[true, true, true, true, false, false, false, false, false, false, false, false, false, false] rfl rfl (by kernel_rfl) (fun _ _ _ h => h) (Or.inl ⟨by rfl, ?_⟩) ?_ ?_
              rotate_left
              · intro w'
                go_simp
                with_reducible rfl
              rotate_left
              · simp only [Act.put, List.setIfInBounds_toArray, List.set_cons_zero, List.set_cons_succ, i64_w, i32_w]
                rfl
              refine pure_ (i := 4) (N := some 91) (v := ?_) (a' := ?_) #[true, true, true, true, true, false, false, false, false, false, false, false, false, false] rfl rfl (by kernel_rfl) (fun _ _ _ h => h) (Or.inl ⟨by rfl, ?_⟩) ?_ ?_
              rotate_left
              · intro w'
                go_simp
                with_reducible rfl
              rotate_left
              · simp only [Act.put, List.setIfInBounds_toArray, List.set_cons_zero, List.set_cons_succ, i64_w, i32_w]
                rfl
              refine pure_ (i := 5) (N := some 92) (v := undef) (a' := ?_) #[true, true, true, true, true, true, false, false, false, false, false, false, false, false] rfl rfl (by kernel_rfl) (fun _ _ _ h => h) (Or.inr ⟨by rfl, rfl⟩) ?_ ?_
              rotate_left
              · simp only [Act.put, List.setIfInBounds_toArray, List.set_cons_zero, List.set_cons_succ, i64_w, i32_w]
                rfl
              refine pure_ (i := 6) (N := some 93) (v := undef) (a' := ?_) #[true, true, true, true, true, true, true, false, false, false, false, false, false, false] rfl rfl (by kernel_rfl) (fun _ _ _ h => h) (Or.inr ⟨by rfl, rfl⟩) ?_ ?_
              rotate_left
              · simp only [Act.put, List.setIfInBounds_toArray, List.set_cons_zero, List.set_cons_succ, i64_w, i32_w]
                rfl
              refine pure_ (i := 7) (N := some 94) (v := undef) (a' := ?_) #[true, true, true, true, true, true, true, true, false, false, false, false, false, false] rfl rfl (by kernel_rfl) (fun _ _ _ h => h) (Or.inr ⟨by rfl, rfl⟩) ?_ ?_
              rotate_left
              · simp only [Act.put, List.setIfInBounds_toArray, List.set_cons_zero, List.set_cons_succ, i64_w, i32_w]
                rfl
              refine pure_ (i := 8) (N := some 95) (v := undef) (a' := ?_) #[true, true, true, true, true, true, true, true, true, false, false, false, false, false] rfl rfl (by kernel_rfl) (fun _ _ _ h => h) (Or.inr ⟨by rfl, rfl⟩) ?_ ?_
              rotate_left
              · simp only [Act.put, List.setIfInBounds_toArray, List.set_cons_zero, List.set_cons_succ, i64_w, i32_w]
                rfl
              refine pure_ (i := 9) (N := some 96) (v := undef) (a' := ?_) #[true, true, true, true, true, true, true, true, true, true, false, false, false, false] rfl rfl (by kernel_rfl) (fun _ _ _ h => h) (Or.inr ⟨by rfl, rfl⟩) ?_ ?_
              rotate_left
              · simp only [Act.put, List.setIfInBounds_toArray, List.set_cons_zero, List.set_cons_succ, i64_w, i32_w]
                rfl
              refine pure_ (i := 10) (N := some 97) (v := undef) (a' := ?_) #[true, true, true, true, true, true, true, true, true, true, true, false, false, false] rfl rfl (by kernel_rfl) (fun _ _ _ h => h) (Or.inr ⟨by rfl, rfl⟩) ?_ ?_
              rotate_left
              · simp only [Act.put, List.setIfInBounds_toArray, List.set_cons_zero, List.set_cons_succ, i64_w, i32_w]
                rfl
              refine pure_ (i := 11) (N := some 98) (v := undef) (a' := ?_) #[true, true, true, true, true, true, true, true, true, true, true, true, false, false] rfl rfl (by kernel_rfl) (fun _ _ _ h => h) (Or.inr ⟨by rfl, rfl⟩) ?_ ?_
              rotate_left
              · simp only [Act.put, List.setIfInBounds_toArray, List.set_cons_zero, List.set_cons_succ, i64_w, i32_w]
                rfl
              refine pure_ (i := 12) (N := some 99) (v := undef) (a' := ?_) #[true, true, true, true, true, true, true, true, true, true, true, true, true, false] rfl rfl (by kernel_rfl) (fun _ _ _ h => h) (Or.inr ⟨by rfl, rfl⟩) ?_ ?_
              rotate_left
              · simp only [Act.put, List.setIfInBounds_toArray, List.set_cons_zero, List.set_cons_succ, i64_w, i32_w]
                rfl
              refine pure_ (i := 13) (N := some 100) (v := ?_) (a' := ?_) #[true, true, true, true, true, true, true, true, true, true, true, true, true, true] rfl rfl (by kernel_rfl) (fun _ _ _ h => h) (Or.inl ⟨by rfl, ?_⟩) ?_ ?_
              rotate_left
              · intro w'
                go_simp
                with_reducible rfl
              rotate_left
              · simp only [Act.put, List.setIfInBounds_toArray, List.set_cons_zero, List.set_cons_succ, i64_w, i32_w]
                rfl
              refine done_ (by kernel_rfl) ?_
              go_wp2_with fail
              refine start_ (n := 12) (S := fun w' => (w'.cell? ⟨w8.heap.size, 0, none⟩ = some (.int .i64 q.at_)) ∧ (w'.cell? ⟨w8.heap.size, 1, none⟩ = some (.int .i64 q.v))) (ds := []) #[false, false, false, false, false, false, false, false, false, false, false, false] (by kernel_rfl) rfl rfl ⟨cn0, cn1⟩ (fun hHeld => ?_)
              refine pure_ (i := 0) (N := some 103) (v := ?_) (a' := ?_) #[true, false, false, false, false, false, false, false, false, false, false, false] rfl rfl (by kernel_rfl) (fun _ _ _ h => h) (Or.inl ⟨by rfl, ?_⟩) ?_ ?_
              rotate_left
              · intro w'
                go_simp
                with_reducible rfl
              rotate_left
              · simp only [Act.put, List.setIfInBounds_toArray, List.set_cons_zero, List.set_cons_succ, i64_w, i32_w]
                rfl
              refine pure_ (i := 1) (N := some 104) (v := ?_) (a' := ?_) #[true, true, false, false, false, false, false, false, false, false, false, false] rfl rfl (by kernel_rfl) (fun _ _ _ h => h) (Or.inl ⟨by rfl, ?_⟩) ?_ ?_
              rotate_left
              · intro w'
                go_simp
                with_reducible rfl
              rotate_left
              · simp only [Act.put, List.setIfInBounds_toArray, List.set_cons_zero, List.set_cons_succ, i64_w, i32_w]
                rfl
              refine pure_ (i := 2) (N := some 105) (v := ?_) (a' := ?_) #[true, true, true, false, false, false, false, false, false, false, false, false] rfl rfl (by kernel_rfl) (fun _ _ _ h => h) (Or.inl ⟨by rfl, ?_⟩) ?_ ?_
              rotate_left
              · intro w'
                go_simp
                with_reducible rfl
              rotate_left
              · simp only [Act.put, List.setIfInBounds_toArray, List.set_cons_zero, List.set_cons_succ, i64_w, i32_w]
                rfl
              refine pure_ (i := 3) (N := some 106) (v := ?_) (a' := ?_) #[true, true, true, true, false, false, false, false, false, false, false, false] rfl rfl (by kernel_rfl) (fun _ _ _ h => h) (Or.inl ⟨by rfl, ?_⟩) ?_ ?_
              rotate_left
              · intro w'
                go_simp
                with_reducible rfl
              rotate_left
              · simp only [Act.put, List.setIfInBounds_toArray, List.set_cons_zero, List.set_cons_succ, i64_w, i32_w]
                rfl
              refine pure_ (i := 6) (N := some 109) (v := ?_) (a' := ?_) #[true, true, true, true, false, false, true, false, false, false, false, false] rfl rfl (by kernel_rfl) (fun _ _ _ h => h) (Or.inl ⟨by rfl, ?_⟩) ?_ ?_
              rotate_left
              · intro w'
                go_simp
                with_reducible rfl
              rotate_left
              · simp only [Act.put, List.setIfInBounds_toArray, List.set_cons_zero, List.set_cons_succ, i64_w, i32_w]
                rfl
              refine pure_ (i := 7) (N := some 110) (v := ?_) (a' := ?_) #[true, true, true, true, false, false, true, true, false, false, false, false] rfl rfl (by kernel_rfl) (fun _ _ _ h => h) (Or.inl ⟨by rfl, ?_⟩) ?_ ?_
              rotate_left
              · intro w'
                go_simp
                with_reducible rfl
              rotate_left
              · simp only [Act.put, List.setIfInBounds_toArray, List.set_cons_zero, List.set_cons_succ, i64_w, i32_w]
                rfl
              refine pure_ (i := 8) (N := some 111) (v := ?_) (a' := ?_) #[true, true, true, true, false, false, true, true, true, false, false, false] rfl rfl (by kernel_rfl) (fun _ _ _ h => h) (Or.inl ⟨by rfl, ?_⟩) ?_ ?_
              rotate_left
              · intro w'
                go_simp
                with_reducible rfl
              rotate_left
              · simp only [Act.put, List.setIfInBounds_toArray, List.set_cons_zero, List.set_cons_succ, i64_w, i32_w]
                rfl
              refine take_ (i := 4) (N := some 107) (v := ?_) (a' := ?_) #[true, true, true, true, true, false, true, true, true, false, false, false] rfl rfl (by kernel_rfl) (fun _ _ _ h => h) (Or.inl ⟨by rfl, ?_⟩) hHeld ?_ ?_
              rotate_left
              · rintro w' ⟨s0, s1⟩
                go_simp
                with_reducible rfl
              rotate_left
              · simp only [Act.put, List.setIfInBounds_toArray, List.set_cons_zero, List.set_cons_succ, i64_w, i32_w]
                rfl
              refine one_ (i := 5) (N := some 108) #[true, true, true, true, true, true, true, true, true, false, false, false] rfl rfl (by kernel_rfl) (by decide) (fun K hK => ?_)
              refine value_ (w1 := ?_) (v := ?_) (by rfl) rfl ?_ ?_
              rotate_left 2
              · go_simp
                constructor
                · rfl
                · rfl
              refine hK.out _ _ ⟨bread_alloc cn0 _, bread_alloc cn1 _⟩ (fun hHeld => ?_)
              clear hK K
              refine norm_ (a' := ?_) ?_ ?_
              rotate_left
              · show Act.put _ (some 108) _ = _
                simp only [Act.put, List.setIfInBounds_toArray, List.set_cons_zero, List.set_cons_succ, i64_w, i32_w]
                rfl
              refine one_ (i := 9) (N := some 112) #[true, true, true, true, true, true, true, true, true, true, false, false] rfl rfl (by kernel_rfl) (by decide) (fun K hK => ?_)
              refine step_append_src w6.heap.size rfl (.tmp 108) (.tmp 111) rfl _ [q] ([].drop 0) _ _ _ rfl rfl (new_row _ w6.heap.size q hb9) HDR.out (by simp) (by have := hb9; simp <;> omega) (by simp) ?_
              intro v9 x9 hown9 hg9
              have B9 := Aside0.mk (show Below wr.heap.size wr x9 from ((Below.refl wr.heap.size wr).alloc (Nat.le_refl _) (Obj.cells #[.int .i64 q.at_, .int .i64 q.v] 68)).drew.drew.grown (show World.grownBy _ x9 (some wr.heap.size) from hg9) (by simp) (fun k hk => by cases hk; exact Nat.le_refl _))
              have HOWN9 := Aside0.mk hown9
              clear hown9 hg9
              refine hK.out _ _ ⟨bread B9.out cn0, bread B9.out cn1⟩ (fun hHeld => ?_)
              clear hK K
              refine norm_ (a' := ?_) ?_ ?_
              rotate_left
              · show Act.put _ (some 112) _ = _
                simp only [Act.put, List.setIfInBounds_toArray, List.set_cons_zero, List.set_cons_succ, i64_w, i32_w]
                rfl
              refine one_ (i := 10) (N := some 113) #[true, true, true, true, true, true, true, true, true, true, true, false] rfl rfl (by kernel_rfl) (by decide) (fun K hK => ?_)
              obtain ⟨g9, c9, cur9, rfl, _⟩ := row_pos HOWN9.out (by simp)
              refine step_append_grows rfl (.tmp 106) (.tmp 112) 52 rfl 68 i0 _ 2 16 Try.underlying52 hi hz0 hz1 hz2 rfl (by decide) none 0 0 (rowP ([].take 0)) rfl (fun _ => ⟨by omega, by omega⟩) (by rw [rowP_length, List.length_take]; omega) (fun b hb => by cases hb) ⟨g9, 0, none⟩ _ c9 (rowP ([q] ++ [].drop 0)) rfl (by rw [rowP_length]) (row_cells HOWN9.out) (rowP_cells1 _) (by simp) (by unfold maxLen; simp) (by simp) ?_
              intro v10 x10 hown10 hg10
              have B10 := Aside0.mk (show Below wr.heap.size wr x10 from B9.out.grown hg10 B9.out.size (fun k hk => by cases hk))
              have HNEW := Aside0.mk (HIW.out.inserted HJ.out rfl B9.out B10.out hown10)
              clear hown10 hg10
              refine hK.out _ _ ⟨bread B10.out cn0, bread B10.out cn1⟩ (fun hHeld => ?_)
              clear hK K
              refine norm_ (a' := ?_) ?_ ?_
              rotate_left
              · show Act.put _ (some 113) _ = _
                simp only [Act.put, List.setIfInBounds_toArray, List.set_cons_zero, List.set_cons_succ, i64_w, i32_w]
                rfl
              refine pure_ (i := 11) (N := some 7) (v := ?_) (a' := ?_) #[true, true, true, true, true, true, true, true, true, true, true, true] rfl rfl (by kernel_rfl) (fun _ _ _ h => h) (Or.inl ⟨by rfl, ?_⟩) ?_ ?_
              rotate_left
              · intro w'
                go_simp
                with_reducible rfl
              rotate_left
              · simp only [Act.put, List.setIfInBounds_toArray, List.set_cons_zero, List.set_cons_succ, i64_w, i32_w]
                rfl
              refine done_ (by kernel_rfl) ?_
              go_wp2
              go_roundw
              case rel => exact ⟨k + 1, by omega, by simp, by rw [HFS.out]; exact HNEW⟩
              case measure => simp [intOf]; omega
          · go_wp2_with fail
            go_loopw [15] (fun v15 wi => ∃ j : Nat, j ≤ J ∧ v15 = .int .i64 (j : Int) ∧ Aside0 (Below (w8.heap.size + 1) (w8.alloc (Obj.cells #[.int .i64 q.at_, .int .i64 q.v] 68)) wi)) (fun v _ => J - (intOf v).toNat)
            case atStart => exact ⟨0, by omega, rfl, ⟨Below.refl _ _⟩⟩
            case round =>
              obtain ⟨j, hj, rfl, HW⟩ := hrel
              have hnb : wr.heap[w8.heap.size]? = some (.cells #[.int .i64 q.at_, .int .i64 q.v] 68 (0, 0)) := (HW.out.block _ (by omega)).trans (blk_new w8 _)
              have cn0 : wr.cell? ⟨w8.heap.size, 0, none⟩ = some (.int .i64 q.at_) := blk_cell hnb 0
              have cn1 : wr.cell? ⟨w8.heap.size, 1, none⟩ = some (.int .i64 q.v) := blk_cell hnb 1
              have HIW := Aside0.mk (HN8.out.later (HW.out.mono (by simp)))
              have hwz : w8.heap.size + 1 ≤ wr.heap.size := by have := HW.out.size; simp at this; omega
              have hjc : j ≤ cap := by omega
              have hjL : j ≤ L.length := by omega
              obtain ⟨D, hD⟩ : ∃ D, (if cap = j then some ⟨g, 0, none⟩ else some ⟨g, j * 2, none⟩ : Option Addr) = D := ⟨_, rfl⟩
              have hds := row_drop (HIW.out.row.alloc (Obj.cells #[.int .i64 q.at_, .int .i64 q.v] 68)) hjL hnc
              rw [hD] at hds
              have HDR := Aside0.mk hds
              have hb9 := HIW.out.bel.size
              clear hnb de0 de1 hds
              by_cases hjl : j < L.length
              · obtain ⟨p, hp⟩ : ∃ x, L[j]? = some x := ⟨_, List.getElem?_eq_getElem hjl⟩
                have HP := Aside0.mk hp
                have cp0 : wr.cell? ⟨g, j * 2, none⟩ = some (.int .i64 p.at_) := by
                  have h := World.ownsRow.cellAt HIW.out.row (j * 2 + 0) (by omega)
                  rw [rowP_get L j 0 _ hp (by omega)] at h
                  exact h
                have dj : decide (j < L.length) = true := decide_eq_true hjl
                clear hp
                by_cases hpq : p.at_ < q.at_
                · have d1 : decide (p.at_ < q.at_) = true := decide_eq_true hpq
                  have hj1 := below_lt q L j p (by rw [← HJ.out]; exact hj) HP.out hpq
                  rw [← HJ.out] at hj1
                  go_wp2_with fail
                  refine start_ (n := 14) (S := fun w' => (w'.cell? ⟨w8.heap.size, 0, none⟩ = some (.int .i64 q.at_)) ∧ (w'.cell? ⟨g, j * 2, none⟩ = some (.int .i64 p.at_))) (ds := []) #[false, false, false, false, false, false, false, false, false, false, false, false, false, false] (by kernel_rfl) rfl rfl ⟨cn0, cp0⟩ (fun hHeld => ?_)
                  refine pure_ (i := 0) (N := some 87) (v := ?_) (a' := ?_) #[true, false, false, false, false, false, false, false, false, false, false, false, false, false] rfl rfl (by kernel_rfl) (fun _ _ _ h => h) (Or.inl ⟨by rfl, ?_⟩) ?_ ?_
                  rotate_left
                  · intro w'
                    go_simp
                    with_reducible rfl
                  rotate_left
                  · simp only [Act.put, List.setIfInBounds_toArray, List.set_cons_zero, List.set_cons_succ, i64_w, i32_w]
                    rfl
                  refine pure_ (i := 1) (N := some 88) (v := ?_) (a' := ?_) #[true, true, false, false, false, false, false, false, false, false, false, false, false, false] rfl rfl (by kernel_rfl) (fun _ _ _ h => h) (Or.inl ⟨by rfl, ?_⟩) ?_ ?_
                  rotate_left
                  · intro w'
                    go_simp
                    with_reducible rfl
                  rotate_left
                  · simp only [Act.put, List.setIfInBounds_toArray, List.set_cons_zero, List.set_cons_succ, i64_w, i32_w]
                    rfl
                  refine pure_ (i := 2) (N := some 89) (v := ?_) (a' := ?_) #[true, true, true, false, false, false, false, false, false, false, false, false, false, false] rfl rfl (by kernel_rfl) (fun _ _ _ h => h) (Or.inl ⟨by rfl, ?_⟩) ?_ ?_
                  rotate_left
                  · intro w'
                    go_simp
                    with_reducible rfl
                  rotate_left
                  · simp only [Act.put, List.setIfInBounds_toArray, List.set_cons_zero, List.set_cons_succ, i64_w, i32_w]
                    rfl
                  refine pure_ (i := 3) (N := some 90) (v := ?_) (a' := ?_) #[true, true, true, true, false, false, false, false, false, false, false, false, false, false] rfl rfl (by kernel_rfl) (fun _ _ _ h => h) (Or.inl ⟨by rfl, ?_⟩) ?_ ?_
                  rotate_left
                  · intro w'
                    go_simp
                    with_reducible rfl
                  rotate_left
                  · simp only [Act.put, List.setIfInBounds_toArray, List.set_cons_zero, List.set_cons_succ, i64_w, i32_w]
                    rfl
                  refine pure_ (i := 4) (N := some 91) (v := ?_) (a' := ?_) #[true, true, true, true, true, false, false, false, false, false, false, false, false, false] rfl rfl (by kernel_rfl) (fun _ _ _ h => h) (Or.inl ⟨by rfl, ?_⟩) ?_ ?_
                  rotate_left
                  · intro w'
                    go_simp
                    with_reducible rfl
                  rotate_left
                  · simp only [Act.put, List.setIfInBounds_toArray, List.set_cons_zero, List.set_cons_succ, i64_w, i32_w]
                    rfl
                  refine pure_ (i := 5) (N := some 92) (v := ?_) (a' := ?_) #[true, true, true, true, true, true, false, false, false, false, false, false, false, false] rfl rfl (by kernel_rfl) (fun _ _ _ h => h) (Or.inl ⟨by rfl, ?_⟩) ?_ ?_
                  rotate_left
                  · intro w'
                    go_simp
                    with_reducible rfl
                  rotate_left
                  · simp only [Act.put, List.setIfInBounds_toArray, List.set_cons_zero, List.set_cons_succ, i64_w, i32_w]
                    rfl
                  refine pure_ (i := 6) (N := some 93) (v := ?_) (a' := ?_) #[true, true, true, true, true, true, true, false, false, false, false, false, false, false] rfl rfl (by kernel_rfl) (fun _ _ _ h => h) (Or.inl ⟨by rfl, ?_⟩) ?_ ?_
                  rotate_left
                  · intro w'
                    go_simp
                    with_reducible rfl
                  rotate_left
                  · simp only [Act.put, List.setIfInBounds_toArray, List.set_cons_zero, List.set_cons_succ, i64_w, i32_w]
                    rfl
                  refine pure_ (i := 7) (N := some 94) (v := ?_) (a' := ?_) #[true, true, true, true, true, true, true, true, false, false, false, false, false, false] rfl rfl (by kernel_rfl) (fun _ _ _ h => h) (Or.inl ⟨by rfl, ?_⟩) ?_ ?_
                  rotate_left
                  · intro w'
                    go_simp
                    with_reducible rfl
                  rotate_left
                  · simp only [Act.put, List.setIfInBounds_toArray, List.set_cons_zero, List.set_cons_succ, i64_w, i32_w]
                    rfl
                  refine pure_ (i := 8) (N := some 95) (v := ?_) (a' := ?_) #[true, true, true, true, true, true, true, true, true, false, false, false, false, false] rfl rfl (by kernel_rfl) (fun _ _ _ h => h) (Or.inl ⟨by rfl, ?_⟩) ?_ ?_
                  rotate_left
                  · intro w'
                    go_simp
                    with_reducible rfl
                  rotate_left
                  · simp only [Act.put, List.setIfInBounds_toArray, List.set_cons_zero, List.set_cons_succ, i64_w, i32_w]
                    rfl
                  refine pure_ (i := 10) (N := some 97) (v := ?_) (a' := ?_) #[true, true, true, true, true, true, true, true, true, false, true, false, false, false] rfl rfl (by kernel_rfl) (fun _ _ _ h => h) (Or.inl ⟨by rfl, ?_⟩) ?_ ?_
                  rotate_left
                  · intro w'
                    go_simp
                    with_reducible rfl
                  rotate_left
                  · simp only [Act.put, List.setIfInBounds_toArray, List.set_cons_zero, List.set_cons_succ, i64_w, i32_w]
                    rfl
                  refine take_ (i := 9) (N := some 96) (v := ?_) (a' := ?_) #[true, true, true, true, true, true, true, true, true, true, true, false, false, false] rfl rfl (by kernel_rfl) (fun _ _ _ h => h) (Or.inl ⟨by rfl, ?_⟩) hHeld ?_ ?_
                  rotate_left
                  · rintro w' ⟨s0, s1⟩
                    go_simp
                    with_reducible rfl
                  rotate_left
                  · simp only [Act.put, List.setIfInBounds_toArray, List.set_cons_zero, List.set_cons_succ, i64_w, i32_w]
                    rfl
                  refine take_ (i := 11) (N := some 98) (v := ?_) (a' := ?_) #[true, true, true, true, true, true, true, true, true, true, true, true, false, false] rfl rfl (by kernel_rfl) (fun _ _ _ h => h) (Or.inl ⟨by rfl, ?_⟩) hHeld ?_ ?_
                  rotate_left
                  · rintro w' ⟨s0, s1⟩
                    go_simp
                    with_reducible rfl
                  rotate_left
                  · simp only [Act.put, List.setIfInBounds_toArray, List.set_cons_zero, List.set_cons_succ, i64_w, i32_w]
                    rfl
                  refine pure_ (i := 12) (N := some 99) (v := ?_) (a' := ?_) #[true, true, true, true, true, true, true, true, true, true, true, true, true, false] rfl rfl (by kernel_rfl) (fun _ _ _ h => h) (Or.inl ⟨by rfl, ?_⟩) ?_ ?_
                  rotate_left
                  · intro w'
                    go_simp
                    with_reducible rfl
                  rotate_left
                  · simp only [Act.put, List.setIfInBounds_toArray, List.set_cons_zero, List.set_cons_succ, i64_w, i32_w]
                    rfl
                  refine pure_ (i := 13) (N := some 100) (v := ?_) (a' := ?_) #[true, true, true, true, true, true, true, true, true, true, true, true, true, true] rfl rfl (by kernel_rfl) (fun _ _ _ h => h) (Or.inl ⟨by rfl, ?_⟩) ?_ ?_
                  rotate_left
                  · intro w'
                    go_simp
                    with_reducible rfl
                  rotate_left
                  · simp only [Act.put, List.setIfInBounds_toArray, List.set_cons_zero, List.set_cons_succ, i64_w, i32_w]
                    rfl
                  refine done_ (by kernel_rfl) ?_
                  go_wp2
                  go_roundw
                  case rel => exact ⟨j + 1, by omega, by simp, ⟨HW.out.drew⟩⟩
                  case measure => simp [intOf]; omega
                · have d1 : decide (p.at_ < q.at_) = false := decide_eq_false hpq
                  have hje := below_stop q L j (by rw [← HJ.out]; exact hj) (fun p' hp' => by rw [HP.out] at hp'; cases hp'; exact hpq)
                  rw [← HJ.out] at hje
                  subst hje
                  go_wp2_with fail
                  refine start_ (n := 14) (S := fun w' => (w'.cell? ⟨w8.heap.size, 0, none⟩ = some (.int .i64 q.at_)) ∧ (w'.cell? ⟨g, j * 2, none⟩ = some (.int .i64 p.at_))) (ds := []) #[false, false, false, false, false, false, false, false, false, false, false, false, false, false] (by kernel_rfl) rfl rfl ⟨cn0, cp0⟩ (fun hHeld => ?_)
                  refine pure_ (i := 0) (N := some 87) (v := ?_) (a' := ?_) #[true, false, false, false, false, false, false, false, false, false, false, false, false, false] rfl rfl (by kernel_rfl) (fun _ _ _ h => h) (Or.inl ⟨by rfl, ?_⟩) ?_ ?_
                  rotate_left
                  · intro w'
                    go_simp
                    with_reducible rfl
                  rotate_left
                  · simp only [Act.put, List.setIfInBounds_toArray, List.set_cons_zero, List.set_cons_succ, i64_w, i32_w]
                    rfl
                  refine pure_ (i := 1) (N := some 88) (v := ?_) (a' := ?_) #[true, true, false, false, false, false, false, false, false, false, false, false, false, false] rfl rfl (by kernel_rfl) (fun _ _ _ h => h) (Or.inl ⟨by rfl, ?_⟩) ?_ ?_
                  rotate_left
                  · intro w'
                    go_simp
                    with_reducible rfl
                  rotate_left
                  · simp only [Act.put, List.setIfInBounds_toArray, List.set_cons_zero, List.set_cons_succ, i64_w, i32_w]
                    rfl
                  refine pure_ (i := 2) (N := some 89) (v := ?_) (a' := ?_) #[true, true, true, false, false, false, false, false, false, false, false, false, false, false] rfl rfl (by kernel_rfl) (fun _ _ _ h => h) (Or.inl ⟨by rfl, ?_⟩) ?_ ?_
                  rotate_left
                  · intro w'
                    go_simp
                    with_reducible rfl
                  rotate_left
                  · simp only [Act.put, List.setIfInBounds_toArray, List.set_cons_zero, List.set_cons_succ, i64_w, i32_w]
                    rfl
                  refine pure_ (i := 3) (N := some 90) (v := ?_) (a' := ?_) #[true, true, true, true, false, false, false, false, false, false, false, false, false, false] rfl rfl (by kernel_rfl) (fun _ _ _ h => h) (Or.inl ⟨by rfl, ?_⟩) ?_ ?_
                  rotate_left
                  · intro w'
                    go_simp
                    with_reducible rfl
                  rotate_left
                  · simp only [Act.put, List.setIfInBounds_toArray, List.set_cons_zero, List.set_cons_succ, i64_w, i32_w]
                    rfl
                  refine pure_ (i := 4) (N := some 91) (v := ?_) (a' := ?_) #[true, true, true, true, true, false, false, false, false, false, false, false, false, false] rfl rfl (by kernel_rfl) (fun _ _ _ h => h) (Or.inl ⟨by rfl, ?_⟩) ?_ ?_
                  rotate_left
                  · intro w'
                    go_simp
                    with_reducible rfl
                  rotate_left
                  · simp only [Act.put, List.setIfInBounds_toArray, List.set_cons_zero, List.set_cons_succ, i64_w, i32_w]
                    rfl
                  refine pure_ (i := 5) (N := some 92) (v := ?_) (a' := ?_) #[true, true, true, true, true, true, false, false, false, false, false, false, false, false] rfl rfl (by kernel_rfl) (fun _ _ _ h => h) (Or.inl ⟨by rfl, ?_⟩) ?_ ?_
                  rotate_left
                  · intro w'
                    go_simp
                    with_reducible rfl
                  rotate_left
                  · simp only [Act.put, List.setIfInBounds_toArray, List.set_cons_zero, List.set_cons_succ, i64_w, i32_w]
                    rfl
                  refine pure_ (i := 6) (N := some 93) (v := ?_) (a' := ?_) #[true, true, true, true, true, true, true, false, false, false, false, false, false, false] rfl rfl (by kernel_rfl) (fun _ _ _ h => h) (Or.inl ⟨by rfl, ?_⟩) ?_ ?_
                  rotate_left
                  · intro w'
                    go_simp
                    with_reducible rfl
                  rotate_left
                  · simp only [Act.put, List.setIfInBounds_toArray, List.set_cons_zero, List.set_cons_succ, i64_w, i32_w]
                    rfl
                  refine pure_ (i := 7) (N := some 94) (v := ?_) (a' := ?_) #[true, true, true, true, true, true, true, true, false, false, false, false, false, false] rfl rfl (by kernel_rfl) (fun _ _ _ h => h) (Or.inl ⟨by rfl, ?_⟩) ?_ ?_
                  rotate_left
                  · intro w'
                    go_simp
                    with_reducible rfl
                  rotate_left
                  · simp only [Act.put, List.setIfInBounds_toArray, List.set_cons_zero, List.set_cons_succ, i64_w, i32_w]
                    rfl
                  refine pure_ (i := 8) (N := some 95) (v := ?_) (a' := ?_) #[true, true, true, true, true, true, true, true, true, false, false, false, false, false] rfl rfl (by kernel_rfl) (fun _ _ _ h => h) (Or.inl ⟨by rfl, ?_⟩) ?_ ?_
                  rotate_left
                  · intro w'
                    go_simp
                    with_reducible rfl
                  rotate_left
                  · simp only [Act.put, List.setIfInBounds_toArray, List.set_cons_zero, List.set_cons_succ, i64_w, i32_w]
                    rfl
                  refine pure_ (i := 10) (N := some 97) (v := ?_) (a' := ?_) #[true, true, true, true, true, true, true, true, true, false, true, false, false, false] rfl rfl (by kernel_rfl) (fun _ _ _ h => h) (Or.inl ⟨by rfl, ?_⟩) ?_ ?_
                  rotate_left
                  · intro w'
                    go_simp
                    with_reducible rfl
                  rotate_left
                  · simp only [Act.put, List.setIfInBounds_toArray, List.set_cons_zero, List.set_cons_succ, i64_w, i32_w]
                    rfl
                  refine take_ (i := 9) (N := some 96) (v := ?_) (a' := ?_) #[true, true, true, true, true, true, true, true, true, true, true, false, false, false] rfl rfl (by kernel_rfl) (fun _ _ _ h => h) (Or.inl ⟨by rfl, ?_⟩) hHeld ?_ ?_
                  rotate_left
                  · rintro w' ⟨s0, s1⟩
                    go_simp
                    with_reducible rfl
                  rotate_left
                  · simp only [Act.put, List.setIfInBounds_toArray, List.set_cons_zero, List.set_cons_succ, i64_w, i32_w]
                    rfl
                  refine take_ (i := 11) (N := some 98) (v := ?_) (a' := ?_) #[true, true, true, true, true, true, true, true, true, true, true, true, false, false] rfl rfl (by kernel_rfl) (fun _ _ _ h => h) (Or.inl ⟨by rfl, ?_⟩) hHeld ?_ ?_
                  rotate_left
                  · rintro w' ⟨s0, s1⟩
                    go_simp
                    with_reducible rfl
                  rotate_left
                  · simp only [Act.put, List.setIfInBounds_toArray, List.set_cons_zero, List.set_cons_succ, i64_w, i32_w]
                    rfl
                  refine pure_ (i := 12) (N := some 99) (v := ?_) (a' := ?_) #[true, true, true, true, true, true, true, true, true, true, true, true, true, false] rfl rfl (by kernel_rfl) (fun _ _ _ h => h) (Or.inl ⟨by rfl, ?_⟩) ?_ ?_
                  rotate_left
                  · intro w'
                    go_simp
                    with_reducible rfl
                  rotate_left
                  · simp only [Act.put, List.setIfInBounds_toArray, List.set_cons_zero, List.set_cons_succ, i64_w, i32_w]
                    rfl
                  refine pure_ (i := 13) (N := some 100) (v := ?_) (a' := ?_) #[true, true, true, true, true, true, true, true, true, true, true, true, true, true] rfl rfl (by kernel_rfl) (fun _ _ _ h => h) (Or.inl ⟨by rfl, ?_⟩) ?_ ?_
                  rotate_left
                  · intro w'
                    go_simp
                    with_reducible rfl
                  rotate_left
                  · simp only [Act.put, List.setIfInBounds_toArray, List.set_cons_zero, List.set_cons_succ, i64_w, i32_w]
                    rfl
                  refine done_ (by kernel_rfl) ?_
                  go_wp2_with fail
                  refine start_ (n := 12) (S := fun w' => (w'.cell? ⟨w8.heap.size, 0, none⟩ = some (.int .i64 q.at_)) ∧ (w'.cell? ⟨w8.heap.size, 1, none⟩ = some (.int .i64 q.v))) (ds := []) #[false, false, false, false, false, false, false, false, false, false, false, false] (by kernel_rfl) rfl rfl ⟨cn0, cn1⟩ (fun hHeld => ?_)
                  refine pure_ (i := 0) (N := some 103) (v := ?_) (a' := ?_) #[true, false, false, false, false, false, false, false, false, false, false, false] rfl rfl (by kernel_rfl) (fun _ _ _ h => h) (Or.inl ⟨by rfl, ?_⟩) ?_ ?_
                  rotate_left
                  · intro w'
                    go_simp
                    with_reducible rfl
                  rotate_left
                  · simp only [Act.put, List.setIfInBounds_toArray, List.set_cons_zero, List.set_cons_succ, i64_w, i32_w]
                    rfl
                  refine pure_ (i := 1) (N := some 104) (v := ?_) (a' := ?_) #[true, true, false, false, false, false, false, false, false, false, false, false] rfl rfl (by kernel_rfl) (fun _ _ _ h => h) (Or.inl ⟨by rfl, ?_⟩) ?_ ?_
                  rotate_left
                  · intro w'
                    go_simp
                    with_reducible rfl
                  rotate_left
                  · simp only [Act.put, List.setIfInBounds_toArray, List.set_cons_zero, List.set_cons_succ, i64_w, i32_w]
                    rfl
                  refine pure_ (i := 2) (N := some 105) (v := ?_) (a' := ?_) #[true, true, true, false, false, false, false, false, false, false, false, false] rfl rfl (by kernel_rfl) (fun _ _ _ h => h) (Or.inl ⟨by rfl, ?_⟩) ?_ ?_
                  rotate_left
                  · intro w'
                    go_simp
                    with_reducible rfl
                  rotate_left
                  · simp only [Act.put, List.setIfInBounds_toArray, List.set_cons_zero, List.set_cons_succ, i64_w, i32_w]
                    rfl
                  refine pure_ (i := 3) (N := some 106) (v := ?_) (a' := ?_) #[true, true, true, true, false, false, false, false, false, false, false, false] rfl rfl (by kernel_rfl) (fun _ _ _ h => h) (Or.inl ⟨by rfl, ?_⟩) ?_ ?_
                  rotate_left
                  · intro w'
                    go_simp
                    with_reducible rfl
                  rotate_left
                  · simp only [Act.put, List.setIfInBounds_toArray, List.set_cons_zero, List.set_cons_succ, i64_w, i32_w]
                    rfl
                  refine pure_ (i := 6) (N := some 109) (v := ?_) (a' := ?_) #[true, true, true, true, false, false, true, false, false, false, false, false] rfl rfl (by kernel_rfl) (fun _ _ _ h => h) (Or.inl ⟨by rfl, ?_⟩) ?_ ?_
                  rotate_left
                  · intro w'
                    go_simp
                    with_reducible rfl
                  rotate_left
                  · simp only [Act.put, List.setIfInBounds_toArray, List.set_cons_zero, List.set_cons_succ, i64_w, i32_w]
                    rfl
                  refine pure_ (i := 7) (N := some 110) (v := ?_) (a' := ?_) #[true, true, true, true, false, false, true, true, false, false, false, false] rfl rfl (by kernel_rfl) (fun _ _ _ h => h) (Or.inl ⟨by rfl, ?_⟩) ?_ ?_
                  rotate_left
                  · intro w'
                    go_simp
                    with_reducible rfl
                  rotate_left
                  · simp only [Act.put, List.setIfInBounds_toArray, List.set_cons_zero, List.set_cons_succ, i64_w, i32_w]
                    rfl
                  refine pure_ (i := 8) (N := some 111) (v := ?_) (a' := ?_) #[true, true, true, true, false, false, true, true, true, false, false, false] rfl rfl (by kernel_rfl) (fun _ _ _ h => h) (Or.inl ⟨by rfl, ?_⟩) ?_ ?_
                  rotate_left
                  · intro w'
                    go_simp
                    with_reducible rfl
                  rotate_left
                  · simp only [Act.put, List.setIfInBounds_toArray, List.set_cons_zero, List.set_cons_succ, i64_w, i32_w]
                    rfl
                  refine take_ (i := 4) (N := some 107) (v := ?_) (a' := ?_) #[true, true, true, true, true, false, true, true, true, false, false, false] rfl rfl (by kernel_rfl) (fun _ _ _ h => h) (Or.inl ⟨by rfl, ?_⟩) hHeld ?_ ?_
                  rotate_left
                  · rintro w' ⟨s0, s1⟩
                    go_simp
                    with_reducible rfl
                  rotate_left
                  · simp only [Act.put, List.setIfInBounds_toArray, List.set_cons_zero, List.set_cons_succ, i64_w, i32_w]
                    rfl
                  refine one_ (i := 5) (N := some 108) #[true, true, true, true, true, true, true, true, true, false, false, false] rfl rfl (by kernel_rfl) (by decide) (fun K hK => ?_)
                  refine value_ (w1 := ?_) (v := ?_) (by rfl) rfl ?_ ?_
                  rotate_left 2
                  · go_simp
                    constructor
                    · rfl
                    · rfl
                  refine hK.out _ _ ⟨bread_alloc cn0 _, bread_alloc cn1 _⟩ (fun hHeld => ?_)
                  clear hK K
                  refine norm_ (a' := ?_) ?_ ?_
                  rotate_left
                  · show Act.put _ (some 108) _ = _
                    simp only [Act.put, List.setIfInBounds_toArray, List.set_cons_zero, List.set_cons_succ, i64_w, i32_w]
                    rfl
                  refine one_ (i := 9) (N := some 112) #[true, true, true, true, true, true, true, true, true, true, false, false] rfl rfl (by kernel_rfl) (by decide) (fun K hK => ?_)
                  refine step_append_src w6.heap.size rfl (.tmp 108) (.tmp 111) rfl _ [q] (L.drop j) _ _ _ rfl rfl (new_row _ w6.heap.size q hb9) HDR.out (by rw [List.length_drop]) (by have := hb9; simp; omega) (by rw [List.length_drop]; simp; omega) ?_
                  intro v9 x9 hown9 hg9
                  have B9 := Aside0.mk (show Below wr.heap.size wr x9 from ((Below.refl wr.heap.size wr).alloc (Nat.le_refl _) (Obj.cells #[.int .i64 q.at_, .int .i64 q.v] 68)).drew.drew.grown (show World.grownBy _ x9 (some wr.heap.size) from hg9) (by simp) (fun k hk => by cases hk; exact Nat.le_refl _))
                  have HOWN9 := Aside0.mk hown9
                  clear hown9 hg9
                  refine hK.out _ _ ⟨bread B9.out cn0, bread B9.out cn1⟩ (fun hHeld => ?_)
                  clear hK K
                  refine norm_ (a' := ?_) ?_ ?_
                  rotate_left
                  · show Act.put _ (some 112) _ = _
                    simp only [Act.put, List.setIfInBounds_toArray, List.set_cons_zero, List.set_cons_succ, i64_w, i32_w]
                    rfl
                  refine one_ (i := 10) (N := some 113) #[true, true, true, true, true, true, true, true, true, true, true, false] rfl rfl (by kernel_rfl) (by decide) (fun K hK => ?_)
                  obtain ⟨g9, c9, cur9, rfl, _⟩ := row_pos HOWN9.out (by simp)
                  refine step_append_grows rfl (.tmp 106) (.tmp 112) 52 rfl 68 i0 _ 2 16 Try.underlying52 hi hz0 hz1 hz2 rfl (by decide) (some ⟨g, 0, none⟩) j j (rowP (L.take j)) rfl (fun h => by cases h) (by rw [rowP_length, List.length_take]; omega) (fun b hb => by cases hb; exact row_take (row_below B9.out HIW.out.row)) ⟨g9, 0, none⟩ _ c9 (rowP ([q] ++ L.drop j)) rfl (by rw [rowP_length]) (row_cells HOWN9.out) (rowP_cells1 _) (by simp) (by unfold maxLen; simp; omega) (by simp; omega) ?_
                  intro v10 x10 hown10 hg10
                  have B10 := Aside0.mk (show Below wr.heap.size wr x10 from B9.out.grown hg10 B9.out.size (fun k hk => by cases hk))
                  have HNEW := Aside0.mk (HIW.out.inserted HJ.out rfl B9.out B10.out hown10)
                  clear hown10 hg10
                  refine hK.out _ _ ⟨bread B10.out cn0, bread B10.out cn1⟩ (fun hHeld => ?_)
                  clear hK K
                  refine norm_ (a' := ?_) ?_ ?_
                  rotate_left
                  · show Act.put _ (some 113) _ = _
                    simp only [Act.put, List.setIfInBounds_toArray, List.set_cons_zero, List.set_cons_succ, i64_w, i32_w]
                    rfl
                  refine pure_ (i := 11) (N := some 7) (v := ?_) (a' := ?_) #[true, true, true, true, true, true, true, true, true, true, true, true] rfl rfl (by kernel_rfl) (fun _ _ _ h => h) (Or.inl ⟨by rfl, ?_⟩) ?_ ?_
                  rotate_left
                  · intro w'
                    go_simp
                    with_reducible rfl
                  rotate_left
                  · simp only [Act.put, List.setIfInBounds_toArray, List.set_cons_zero, List.set_cons_succ, i64_w, i32_w]
                    rfl
                  refine done_ (by kernel_rfl) ?_
                  go_wp2
                  go_roundw
                  case rel => exact ⟨k + 1, by omega, by simp, by rw [HFS.out]; exact HNEW⟩
                  case measure => simp [intOf]; omega
              · have dj : decide (j < L.length) = false := decide_eq_false hjl
                have hje := below_stop q L j (by rw [← HJ.out]; exact hj) (fun p' hp' => absurd (List.getElem?_eq_some_iff.1 hp').1 hjl)
                rw [← HJ.out] at hje
                subst hje
                go_wp2_with fail
                refine start_ (n := 14) (S := fun w' => True) (ds := []) #[false, false, false, false, false, false, false, false, false, false, false, false, false, false] (by kernel_rfl) rfl rfl trivial (fun hHeld => ?_)
                refine pure_ (i := 0) (N := some 87) (v := ?_) (a' := ?_) #[true, false, false, false, false, false, false, false, false, false, false, false, false, false] rfl rfl (by kernel_rfl) (fun _ _ _ h => h) (Or.inl ⟨by rfl, ?_⟩) ?_ ?_
                rotate_left
                · intro w'
                  go_simp
                  with_reducible rfl
                rotate_left
                · simp only [Act.put, List.setIfInBounds_toArray, List.set_cons_zero, List.set_cons_succ, i64_w, i32_w]
                  rfl
                refine pure_ (i := 1) (N := some 88) (v := ?_) (a' := ?_) #[true, true, false, false, false, false, false, false, false, false, false, false, false, false] rfl rfl (by kernel_rfl) (fun _ _ _ h => h) (Or.inl ⟨by rfl, ?_⟩) ?_ ?_
                rotate_left
                · intro w'
                  go_simp
                  with_reducible rfl
                rotate_left
                · simp only [Act.put, List.setIfInBounds_toArray, List.set_cons_zero, List.set_cons_succ, i64_w, i32_w]
                  rfl
                refine pure_ (i := 2) (N := some 89) (v := ?_) (a' := ?_) #[true, true, true, false, false, false, false, false, false, false, false, false, false, false] rfl rfl (by kernel_rfl) (fun _ _ _ h => h) (Or.inl ⟨by rfl, ?_⟩) ?_ ?_
                rotate_left
                · intro w'
                  go_simp
                  with_reducible rfl
                rotate_left
                · simp only [Act.put, List.setIfInBounds_toArray, List.set_cons_zero, List.set_cons_succ, i64_w, i32_w]
                  rfl
                refine pure_ (i := 3) (N := some 90) (v := ?_) (a' := ?_) #[true, true, true, true, false, false, false, false, false, false, false, false, false, false] rfl rfl (by kernel_rfl) (fun _ _ _ h => h) (Or.inl ⟨by rfl, ?_⟩) ?_ ?_
                rotate_left
                · intro w'
                  go_simp
                  with_reducible rfl
                rotate_left
                · simp only [Act.put, List.setIfInBounds_toArray, List.set_cons_zero, List.set_cons_succ, i64_w, i32_w]
                  rfl
                refine pure_ (i := 4) (N := some 91) (v := ?_) (a' := ?_) #[true, true, true, true, true, false, false, false, false, false, false, false, false, false] rfl rfl (by kernel_rfl) (fun _ _ _ h => h) (Or.inl ⟨by rfl, ?_⟩) ?_ ?_
                rotate_left
                · intro w'
                  go_simp
                  with_reducible rfl
                rotate_left
                · simp only [Act.put, List.setIfInBounds_toArray, List.set_cons_zero, List.set_cons_succ, i64_w, i32_w]
                  rfl
                refine pure_ (i := 5) (N := some 92) (v := undef) (a' := ?_) #[true, true, true, true, true, true, false, false, false, false, false, false, false, false] rfl rfl (by kernel_rfl) (fun _ _ _ h => h) (Or.inr ⟨by rfl, rfl⟩) ?_ ?_
                rotate_left
                · simp only [Act.put, List.setIfInBounds_toArray, List.set_cons_zero, List.set_cons_succ, i64_w, i32_w]
                  rfl
                refine pure_ (i := 6) (N := some 93) (v := undef) (a' := ?_) #[true, true, true, true, true, true, true, false, false, false, false, false, false, false] rfl rfl (by kernel_rfl) (fun _ _ _ h => h) (Or.inr ⟨by rfl, rfl⟩) ?_ ?_
                rotate_left
                · simp only [Act.put, List.setIfInBounds_toArray, List.set_cons_zero, List.set_cons_succ, i64_w, i32_w]
                  rfl
                refine pure_ (i := 7) (N := some 94) (v := undef) (a' := ?_) #[true, true, true, true, true, true, true, true, false, false, false, false, false, false] rfl rfl (by kernel_rfl) (fun _ _ _ h => h) (Or.inr ⟨by rfl, rfl⟩) ?_ ?_
                rotate_left
                · simp only [Act.put, List.setIfInBounds_toArray, List.set_cons_zero, List.set_cons_succ, i64_w, i32_w]
                  rfl
                refine pure_ (i := 8) (N := some 95) (v := undef) (a' := ?_) #[true, true, true, true, true, true, true, true, true, false, false, false, false, false] rfl rfl (by kernel_rfl) (fun _ _ _ h => h) (Or.inr ⟨by rfl, rfl⟩) ?_ ?_
                rotate_left
                · simp only [Act.put, List.setIfInBounds_toArray, List.set_cons_zero, List.set_cons_succ, i64_w, i32_w]
                  rfl
                refine pure_ (i := 9) (N := some 96) (v := undef) (a' := ?_) #[true, true, true, true, true, true, true, true, true, true, false, false, false, false] rfl rfl (by kernel_rfl) (fun _ _ _ h => h) (Or.inr ⟨by rfl, rfl⟩) ?_ ?_
                rotate_left
                · simp only [Act.put, List.setIfInBounds_toArray, List.set_cons_zero, List.set_cons_succ, i64_w, i32_w]
                  rfl
                refine pure_ (i := 10) (N := some 97) (v := undef) (a' := ?_) #[true, true, true, true, true, true, true, true, true, true, true, false, false, false] rfl rfl (by kernel_rfl) (fun _ _ _ h => h) (Or.inr ⟨by rfl, rfl⟩) ?_ ?_
                rotate_left
                · simp only [Act.put, List.setIfInBounds_toArray, List.set_cons_zero, List.set_cons_succ, i64_w, i32_w]
                  rfl
                refine pure_ (i := 11) (N := some 98) (v := undef) (a' := ?_) #[true, true, true, true, true, true, true, true, true, true, true, true, false, false] rfl rfl (by kernel_rfl) (fun _ _ _ h => h) (Or.inr ⟨by rfl, rfl⟩) ?_ ?_
                rotate_left
                · simp only [Act.put, List.setIfInBounds_toArray, List.set_cons_zero, List.set_cons_succ, i64_w, i32_w]
                  rfl
                refine pure_ (i := 12) (N := some 99) (v := undef) (a' := ?_) #[true, true, true, true, true, true, true, true, true, true, true, true, true, false] rfl rfl (by kernel_rfl) (fun _ _ _ h => h) (Or.inr ⟨by rfl, rfl⟩) ?_ ?_
                rotate_left
                · simp only [Act.put, List.setIfInBounds_toArray, List.set_cons_zero, List.set_cons_succ, i64_w, i32_w]
                  rfl
                refine pure_ (i := 13) (N := some 100) (v := ?_) (a' := ?_) #[true, true, true, true, true, true, true, true, true, true, true, true, true, true] rfl rfl (by kernel_rfl) (fun _ _ _ h => h) (Or.inl ⟨by rfl, ?_⟩) ?_ ?_
                rotate_left
                · intro w'
                  go_simp
                  with_reducible rfl
                rotate_left
                · simp only [Act.put, List.setIfInBounds_toArray, List.set_cons_zero, List.set_cons_succ, i64_w, i32_w]
                  rfl
                refine done_ (by kernel_rfl) ?_
                go_wp2_with fail
                refine start_ (n := 12) (S := fun w' => (w'.cell? ⟨w8.heap.size, 0, none⟩ = some (.int .i64 q.at_)) ∧ (w'.cell? ⟨w8.heap.size, 1, none⟩ = some (.int .i64 q.v))) (ds := []) #[false, false, false, false, false, false, false, false, false, false, false, false] (by kernel_rfl) rfl rfl ⟨cn0, cn1⟩ (fun hHeld => ?_)
                refine pure_ (i := 0) (N := some 103) (v := ?_) (a' := ?_) #[true, false, false, false, false, false, false, false, false, false, false, false] rfl rfl (by kernel_rfl) (fun _ _ _ h => h) (Or.inl ⟨by rfl, ?_⟩) ?_ ?_
                rotate_left
                · intro w'
                  go_simp
                  with_reducible rfl
                rotate_left
                · simp only [Act.put, List.setIfInBounds_toArray, List.set_cons_zero, List.set_cons_succ, i64_w, i32_w]
                  rfl
                refine pure_ (i := 1) (N := some 104) (v := ?_) (a' := ?_) #[true, true, false, false, false, false, false, false, false, false, false, false] rfl rfl (by kernel_rfl) (fun _ _ _ h => h) (Or.inl ⟨by rfl, ?_⟩) ?_ ?_
                rotate_left
                · intro w'
                  go_simp
                  with_reducible rfl
                rotate_left
                · simp only [Act.put, List.setIfInBounds_toArray, List.set_cons_zero, List.set_cons_succ, i64_w, i32_w]
                  rfl
                refine pure_ (i := 2) (N := some 105) (v := ?_) (a' := ?_) #[true, true, true, false, false, false, false, false, false, false, false, false] rfl rfl (by kernel_rfl) (fun _ _ _ h => h) (Or.inl ⟨by rfl, ?_⟩) ?_ ?_
                rotate_left
                · intro w'
                  go_simp
                  with_reducible rfl
                rotate_left
                · simp only [Act.put, List.setIfInBounds_toArray, List.set_cons_zero, List.set_cons_succ, i64_w, i32_w]
                  rfl
                refine pure_ (i := 3) (N := some 106) (v := ?_) (a' := ?_) #[true, true, true, true, false, false, false, false, false, false, false, false] rfl rfl (by kernel_rfl) (fun _ _ _ h => h) (Or.inl ⟨by rfl, ?_⟩) ?_ ?_
                rotate_left
                · intro w'
                  go_simp
                  with_reducible rfl
                rotate_left
                · simp only [Act.put, List.setIfInBounds_toArray, List.set_cons_zero, List.set_cons_succ, i64_w, i32_w]
                  rfl
                refine pure_ (i := 6) (N := some 109) (v := ?_) (a' := ?_) #[true, true, true, true, false, false, true, false, false, false, false, false] rfl rfl (by kernel_rfl) (fun _ _ _ h => h) (Or.inl ⟨by rfl, ?_⟩) ?_ ?_
                rotate_left
                · intro w'
                  go_simp
                  with_reducible rfl
                rotate_left
                · simp only [Act.put, List.setIfInBounds_toArray, List.set_cons_zero, List.set_cons_succ, i64_w, i32_w]
                  rfl
                refine pure_ (i := 7) (N := some 110) (v := ?_) (a' := ?_) #[true, true, true, true, false, false, true, true, false, false, false, false] rfl rfl (by kernel_rfl) (fun _ _ _ h => h) (Or.inl ⟨by rfl, ?_⟩) ?_ ?_
                rotate_left
                · intro w'
                  go_simp
                  with_reducible rfl
                rotate_left
                · simp only [Act.put, List.setIfInBounds_toArray, List.set_cons_zero, List.set_cons_succ, i64_w, i32_w]
                  rfl
                refine pure_ (i := 8) (N := some 111) (v := ?_) (a' := ?_) #[true, true, true, true, false, false, true, true, true, false, false, false] rfl rfl (by kernel_rfl) (fun _ _ _ h => h) (Or.inl ⟨by rfl, ?_⟩) ?_ ?_
                rotate_left
                · intro w'
                  go_simp
                  with_reducible rfl
                rotate_left
                · simp only [Act.put, List.setIfInBounds_toArray, List.set_cons_zero, List.set_cons_succ, i64_w, i32_w]
                  rfl
                refine take_ (i := 4) (N := some 107) (v := ?_) (a' := ?_) #[true, true, true, true, true, false, true, true, true, false, false, false] rfl rfl (by kernel_rfl) (fun _ _ _ h => h) (Or.inl ⟨by rfl, ?_⟩) hHeld ?_ ?_
                rotate_left
                · rintro w' ⟨s0, s1⟩
                  go_simp
                  with_reducible rfl
                rotate_left
                · simp only [Act.put, List.setIfInBounds_toArray, List.set_cons_zero, List.set_cons_succ, i64_w, i32_w]
                  rfl
                refine one_ (i := 5) (N := some 108) #[true, true, true, true, true, true, true, true, true, false, false, false] rfl rfl (by kernel_rfl) (by decide) (fun K hK => ?_)
                refine value_ (w1 := ?_) (v := ?_) (by rfl) rfl ?_ ?_
                rotate_left 2
                · go_simp
                  constructor
                  · rfl
                  · rfl
                refine hK.out _ _ ⟨bread_alloc cn0 _, bread_alloc cn1 _⟩ (fun hHeld => ?_)
                clear hK K
                refine norm_ (a' := ?_) ?_ ?_
                rotate_left
                · show Act.put _ (some 108) _ = _
                  simp only [Act.put, List.setIfInBounds_toArray, List.set_cons_zero, List.set_cons_succ, i64_w, i32_w]
                  rfl
                refine one_ (i := 9) (N := some 112) #[true, true, true, true, true, true, true, true, true, true, false, false] rfl rfl (by kernel_rfl) (by decide) (fun K hK => ?_)
                refine step_append_src w6.heap.size rfl (.tmp 108) (.tmp 111) rfl _ [q] (L.drop j) _ _ _ rfl rfl (new_row _ w6.heap.size q hb9) HDR.out (by rw [List.length_drop]) (by have := hb9; simp; omega) (by rw [List.length_drop]; simp; omega) ?_
                intro v9 x9 hown9 hg9
                have B9 := Aside0.mk (show Below wr.heap.size wr x9 from ((Below.refl wr.heap.size wr).alloc (Nat.le_refl _) (Obj.cells #[.int .i64 q.at_, .int .i64 q.v] 68)).drew.drew.grown (show World.grownBy _ x9 (some wr.heap.size) from hg9) (by simp) (fun k hk => by cases hk; exact Nat.le_refl _))
                have HOWN9 := Aside0.mk hown9
                clear hown9 hg9
                refine hK.out _ _ ⟨bread B9.out cn0, bread B9.out cn1⟩ (fun hHeld => ?_)
                clear hK K
                refine norm_ (a' := ?_) ?_ ?_
                rotate_left
                · show Act.put _ (some 112) _ = _
                  simp only [Act.put, List.setIfInBounds_toArray, List.set_cons_zero, List.set_cons_succ, i64_w, i32_w]
                  rfl
                refine one_ (i := 10) (N := some 113) #[true, true, true, true, true, true, true, true, true, true, true, false] rfl rfl (by kernel_rfl) (by decide) (fun K hK => ?_)
                obtain ⟨g9, c9, cur9, rfl, _⟩ := row_pos HOWN9.out (by simp)
                refine step_append_grows rfl (.tmp 106) (.tmp 112) 52 rfl 68 i0 _ 2 16 Try.underlying52 hi hz0 hz1 hz2 rfl (by decide) (some ⟨g, 0, none⟩) j j (rowP (L.take j)) rfl (fun h => by cases h) (by rw [rowP_length, List.length_take]; omega) (fun b hb => by cases hb; exact row_take (row_below B9.out HIW.out.row)) ⟨g9, 0, none⟩ _ c9 (rowP ([q] ++ L.drop j)) rfl (by rw [rowP_length]) (row_cells HOWN9.out) (rowP_cells1 _) (by simp) (by unfold maxLen; simp; omega) (by simp; omega) ?_
                intro v10 x10 hown10 hg10
                have B10 := Aside0.mk (show Below wr.heap.size wr x10 from B9.out.grown hg10 B9.out.size (fun k hk => by cases hk))
                have HNEW := Aside0.mk (HIW.out.inserted HJ.out rfl B9.out B10.out hown10)
                clear hown10 hg10
                refine hK.out _ _ ⟨bread B10.out cn0, bread B10.out cn1⟩ (fun hHeld => ?_)
                clear hK K
                refine norm_ (a' := ?_) ?_ ?_
                rotate_left
                · show Act.put _ (some 113) _ = _
                  simp only [Act.put, List.setIfInBounds_toArray, List.set_cons_zero, List.set_cons_succ, i64_w, i32_w]
                  rfl
                refine pure_ (i := 11) (N := some 7) (v := ?_) (a' := ?_) #[true, true, true, true, true, true, true, true, true, true, true, true] rfl rfl (by kernel_rfl) (fun _ _ _ h => h) (Or.inl ⟨by rfl, ?_⟩) ?_ ?_
                rotate_left
                · intro w'
                  go_simp
                  with_reducible rfl
                rotate_left
                · simp only [Act.put, List.setIfInBounds_toArray, List.set_cons_zero, List.set_cons_succ, i64_w, i32_w]
                  rfl
                refine done_ (by kernel_rfl) ?_
                go_wp2
                go_roundw
                case rel => exact ⟨k + 1, by omega, by simp, by rw [HFS.out]; exact HNEW⟩
                case measure => simp [intOf]; omega
            
        · have hke : k = b.length := by omega
          subst hke
          have hL0 : ((b.take b.length).foldl ins F) = merge a b := by rw [List.take_length]; exact HMI.out
          rw [hL0] at HI hLl
          have hmo := merge_ok a b RA.out RB.out OA.out OB.out
          have hml := merge_length _ a b (Nat.le_refl _)
          have HPW := Aside0.mk (SrcP.of_row HI.out.row)
          obtain ⟨An, cn, rfl⟩ := HPW.out.form
          have LM := Aside0.mk (fun W (h : SrcP W (.slice An (merge a b).length cn) (merge a b)) => lb_calls _ (merge a b) W sm HSM.out h (by omega) hmo.2 hmo.1)
          have HBO := Aside0.mk (H6.out.trans (HI.out.bel.mono H6.out.size))
          have HVC := Aside0.mk (row_below HI.out.bel HRC.out)
          have HC9 := Lib.hid (LB.out w8 (HB.out.below HBO.out))
          clear hL0 hLl hLk hmo hml hlt hk
          go_wp2_with fail
          refine HC9.out.mono ?_
          rintro e w9 ⟨rfl, h9⟩
          have G9 := Aside0.mk h9
          obtain ⟨V9, X9, hcv9, hsrc9, hbx9⟩ := KB.out w9
          have GX9 := Aside0.mk (h9.trans (hbx9.mono h9.size))
          have HC10 := Lib.hid (merge_first (.slice none 0 0) V9 [] 4 X9 (.inl ⟨0, rfl, rfl⟩) (by simp) (by simp) dec_none (by decide))
          clear h9 hsrc9 hbx9
          go_wp2_with fail
          refine HC10.out.mono ?_
          rintro e w10 ⟨rfl, h10⟩
          have G10 := Aside0.mk (GX9.out.trans (h10.mono GX9.out.size))
          have HC11 := Lib.hid (LA.out w10 (HA.out.below (HBO.out.trans (G10.out.mono HBO.out.size))))
          clear h10 hcv9
          go_wp2_with fail
          refine HC11.out.mono ?_
          rintro e w11 ⟨rfl, h11⟩
          have G11 := Aside0.mk (G10.out.trans (h11.mono G10.out.size))
          obtain ⟨V11, X11, hcv11, hsrc11, hbx11⟩ := KA.out w11
          have GX11 := Aside0.mk (G11.out.trans (hbx11.mono G11.out.size))
          have hnew : (X11.alloc (Obj.cells #[.int .u8 0] 5)).heap[X11.heap.size]? = some (.cells #[.int .u8 0] 5 (0, 0)) := blk_new X11 _
          have HC12 := Lib.hid (merge_second V11 (.slice (some ⟨X11.heap.size, 0, none⟩) 1 1) _ [0] a 4 (X11.alloc (Obj.cells #[.int .u8 0] 5)) (SrcB.later hsrc11 ((Below.refl _ _).alloc (Nat.le_refl _) _)) (.inr ⟨⟨X11.heap.size, 0, none⟩, 1, rfl, fun j x hx => by
            have hj := (List.getElem?_eq_some_iff.1 hx).1
            simp at hj
            subst hj
            simp at hx
            subst hx
            exact blk_cell hnew 0⟩) BA.out.2.1 (by simp) (pack_range (enc a)) (by simp) DA.out dec_one0 (by decide))
          clear h11 hsrc11 hbx11 hnew
          go_wp2_with fail
          refine HC12.out.mono ?_
          rintro e w12 ⟨rfl, h12⟩
          have G12 := Aside0.mk (GX11.out.trans (((Below.refl X11.heap.size X11).alloc (Nat.le_refl _) (Obj.cells #[.int .u8 0] 5)).trans (h12.mono (by simp))|>.mono GX11.out.size))
          have HV12 := Aside0.mk (show w12.drew.ownsRow X5.heap.size 5 1 vc (ChunkMath.bytes (merge a b)).length (nums .u8 (ChunkMath.bytes (merge a b))) from row_below G12.out.drew HVC.out)
          have hcv12 : (convert 25 9 vc).run Try.prog w12.drew = .ok (.string sm) w12.drew := by rw [HSM.out]; exact conv_own HV12.out
          have HCV := Aside0.mk hcv12
          have HC13 := Lib.hid (LM.out w12.drew (HPW.out.below G12.out.drew))
          clear h12 hcv11 hcv12
          go_wp2_with fail
          refine start_ (n := 18) (S := fun w' => ((convert 25 9 vc).run Try.prog w' = .ok (.string sm) w')) (ds := []) #[false, false, false, false, false, false, false, false, false, false, false, false, false, false, false, false, false, false] (by kernel_rfl) rfl rfl (HCV.out) (fun hHeld => ?_)
          refine pure_ (i := 0) (N := some 130) (v := ?_) (a' := ?_) #[true, false, false, false, false, false, false, false, false, false, false, false, false, false, false, false, false, false] rfl rfl (by kernel_rfl) (fun _ _ _ h => h) (Or.inl ⟨by rfl, ?_⟩) ?_ ?_
          rotate_left
          · intro w'
            go_simp
            with_reducible rfl
          rotate_left
          · simp only [Act.put, List.setIfInBounds_toArray, List.set_cons_zero, List.set_cons_succ, i64_w, i32_w]
            rfl
          refine pure_ (i := 1) (N := some 131) (v := ?_) (a' := ?_) #[true, true, false, false, false, false, false, false, false, false, false, false, false, false, false, false, false, false] rfl rfl (by kernel_rfl) (fun _ _ _ h => h) (Or.inl ⟨by rfl, ?_⟩) ?_ ?_
          rotate_left
          · intro w'
            go_simp
            with_reducible rfl
          rotate_left
          · simp only [Act.put, List.setIfInBounds_toArray, List.set_cons_zero, List.set_cons_succ, i64_w, i32_w]
            rfl
          refine pure_ (i := 2) (N := some 132) (v := ?_) (a' := ?_) #[true, true, true, false, false, false, false, false, false, false, false, false, false, false, false, false, false, false] rfl rfl (by kernel_rfl) (fun _ _ _ h => h) (Or.inl ⟨by rfl, ?_⟩) ?_ ?_
          rotate_left
          · intro w'
            go_simp
            with_reducible rfl
          rotate_left
          · simp only [Act.put, List.setIfInBounds_toArray, List.set_cons_zero, List.set_cons_succ, i64_w, i32_w]
            rfl
          refine pure_ (i := 3) (N := some 133) (v := ?_) (a' := ?_) #[true, true, true, true, false, false, false, false, false, false, false, false, false, false, false, false, false, false] rfl rfl (by kernel_rfl) (fun _ _ _ h => h) (Or.inl ⟨by rfl, ?_⟩) ?_ ?_
          rotate_left
          · intro w'
            go_simp
            with_reducible rfl
          rotate_left
          · simp only [Act.put, List.setIfInBounds_toArray, List.set_cons_zero, List.set_cons_succ, i64_w, i32_w]
            rfl
          refine pure_ (i := 5) (N := some 135) (v := ?_) (a' := ?_) #[true, true, true, true, false, true, false, false, false, false, false, false, false, false, false, false, false, false] rfl rfl (by kernel_rfl) (fun _ _ _ h => h) (Or.inl ⟨by rfl, ?_⟩) ?_ ?_
          rotate_left
          · intro w'
            go_simp
            with_reducible rfl
          rotate_left
          · simp only [Act.put, List.setIfInBounds_toArray, List.set_cons_zero, List.set_cons_succ, i64_w, i32_w]
            rfl
          refine take_ (i := 4) (N := some 134) (v := ?_) (a' := ?_) #[true, true, true, true, true, true, false, false, false, false, false, false, false, false, false, false, false, false] rfl rfl (by kernel_rfl) (fun _ _ _ h => h) (Or.inl ⟨by rfl, ?_⟩) hHeld ?_ ?_
          rotate_left
          · rintro w' s0
            go_simp
            with_reducible rfl
          rotate_left
          · simp only [Act.put, List.setIfInBounds_toArray, List.set_cons_zero, List.set_cons_succ, i64_w, i32_w]
            rfl
          refine one_ (i := 6) (N := some 136) #[true, true, true, true, true, true, true, false, false, false, false, false, false, false, false, false, false, false] rfl rfl (by kernel_rfl) (by decide) (fun K hK => ?_)
          refine goes_ Try.func26 (by kernel_rfl) rfl #[.slice An (merge a b).length cn] (by rfl) rfl rfl (by simp only [List.map_toArray, List.map_cons, List.map_nil]; rfl) ?_
          with_reducible refine (HC13.out).mono ?_
          rintro e w13 ⟨rfl, h13⟩
          have G13 := Aside0.mk (G12.out.drew.trans (h13.mono G12.out.size))
          have HV13 := Aside0.mk (row_below h13 HV12.out)
          have HCV13 := Aside0.mk (show (convert 25 9 vc).run Try.prog w13 = .ok (.string sm) w13 by rw [HSM.out]; exact conv_own HV13.out)
          clear h13
          refine ⟨_, rfl, ?_⟩
          refine hK.out _ _ (HCV13.out) (fun hHeld => ?_)
          clear hK K
          refine norm_ (a' := ?_) ?_ ?_
          rotate_left
          · show Act.put _ (some 136) _ = _
            simp only [Act.put, List.setIfInBounds_toArray, List.set_cons_zero, List.set_cons_succ, i64_w, i32_w]
            rfl
          refine pure_ (i := 7) (N := some 137) (v := ?_) (a' := ?_) #[true, true, true, true, true, true, true, true, false, false, false, false, false, false, false, false, false, false] rfl rfl (by kernel_rfl) (fun _ _ _ h => h) (Or.inl ⟨by rfl, ?_⟩) ?_ ?_
          rotate_left
          · intro w'
            go_simp
            with_reducible rfl
          rotate_left
          · simp only [Act.put, List.setIfInBounds_toArray, List.set_cons_zero, List.set_cons_succ, i64_w, i32_w]
            rfl
          refine pure_ (i := 8) (N := some 138) (v := ?_) (a' := ?_) #[true, true, true, true, true, true, true, true, true, false, false, false, false, false, false, false, false, false] rfl rfl (by kernel_rfl) (fun _ _ _ h => h) (Or.inl ⟨by rfl, ?_⟩) ?_ ?_
          rotate_left
          · intro w'
            go_simp
            with_reducible rfl
          rotate_left
          · simp only [Act.put, List.setIfInBounds_toArray, List.set_cons_zero, List.set_cons_succ, i64_w, i32_w]
            rfl
          refine pure_ (i := 9) (N := some 139) (v := ?_) (a' := ?_) #[true, true, true, true, true, true, true, true, true, true, false, false, false, false, false, false, false, false] rfl rfl (by kernel_rfl) (fun _ _ _ h => h) (Or.inl ⟨by rfl, ?_⟩) ?_ ?_
          rotate_left
          · intro w'
            go_simp
            with_reducible rfl
          rotate_left
          · simp only [Act.put, List.setIfInBounds_toArray, List.set_cons_zero, List.set_cons_succ, i64_w, i32_w]
            rfl
          refine pure_ (i := 10) (N := some 140) (v := ?_) (a' := ?_) #[true, true, true, true, true, true, true, true, true, true, true, false, false, false, false, false, false, false] rfl rfl (by kernel_rfl) (fun _ _ _ h => h) (Or.inl ⟨by rfl, ?_⟩) ?_ ?_
          rotate_left
          · intro w'
            go_simp
            with_reducible rfl
          rotate_left
          · simp only [Act.put, List.setIfInBounds_toArray, List.set_cons_zero, List.set_cons_succ, i64_w, i32_w]
            rfl
          refine pure_ (i := 11) (N := some 141) (v := ?_) (a' := ?_) #[true, true, true, true, true, true, true, true, true, true, true, true, false, false, false, false, false, false] rfl rfl (by kernel_rfl) (fun _ _ _ h => h) (Or.inl ⟨by rfl, ?_⟩) ?_ ?_
          rotate_left
          · intro w'
            go_simp
            with_reducible rfl
          rotate_left
          · simp only [Act.put, List.setIfInBounds_toArray, List.set_cons_zero, List.set_cons_succ, i64_w, i32_w]
            rfl
          refine pure_ (i := 12) (N := some 142) (v := ?_) (a' := ?_) #[true, true, true, true, true, true, true, true, true, true, true, true, true, false, false, false, false, false] rfl rfl (by kernel_rfl) (fun _ _ _ h => h) (Or.inl ⟨by rfl, ?_⟩) ?_ ?_
          rotate_left
          · intro w'
            go_simp
            with_reducible rfl
          rotate_left
          · simp only [Act.put, List.setIfInBounds_toArray, List.set_cons_zero, List.set_cons_succ, i64_w, i32_w]
            rfl
          refine pure_ (i := 13) (N := some 143) (v := ?_) (a' := ?_) #[true, true, true, true, true, true, true, true, true, true, true, true, true, true, false, false, false, false] rfl rfl (by kernel_rfl) (fun _ _ _ h => h) (Or.inl ⟨by rfl, ?_⟩) ?_ ?_
          rotate_left
          · intro w'
            go_simp
            with_reducible rfl
          rotate_left
          · simp only [Act.put, List.setIfInBounds_toArray, List.set_cons_zero, List.set_cons_succ, i64_w, i32_w]
            rfl
          refine pure_ (i := 14) (N := some 144) (v := ?_) (a' := ?_) #[true, true, true, true, true, true, true, true, true, true, true, true, true, true, true, false, false, false] rfl rfl (by kernel_rfl) (fun _ _ _ h => h) (Or.inl ⟨by rfl, ?_⟩) ?_ ?_
          rotate_left
          · intro w'
            go_simp
            with_reducible rfl
          rotate_left
          · simp only [Act.put, List.setIfInBounds_toArray, List.set_cons_zero, List.set_cons_succ, i64_w, i32_w]
            rfl
          refine pure_ (i := 15) (N := some 145) (v := ?_) (a' := ?_) #[true, true, true, true, true, true, true, true, true, true, true, true, true, true, true, true, false, false] rfl rfl (by kernel_rfl) (fun _ _ _ h => h) (Or.inl ⟨by rfl, ?_⟩) ?_ ?_
          rotate_left
          · intro w'
            go_simp
            with_reducible rfl
          rotate_left
          · simp only [Act.put, List.setIfInBounds_toArray, List.set_cons_zero, List.set_cons_succ, i64_w, i32_w]
            rfl
          refine pure_ (i := 16) (N := some 146) (v := ?_) (a' := ?_) #[true, true, true, true, true, true, true, true, true, true, true, true, true, true, true, true, true, false] rfl rfl (by kernel_rfl) (fun _ _ _ h => h) (Or.inl ⟨by rfl, ?_⟩) ?_ ?_
          rotate_left
          · intro w'
            go_simp
            with_reducible rfl
          rotate_left
          · simp only [Act.put, List.setIfInBounds_toArray, List.set_cons_zero, List.set_cons_succ, i64_w, i32_w]
            rfl
          refine pure_ (i := 17) (N := some 4) (v := ?_) (a' := ?_) #[true, true, true, true, true, true, true, true, true, true, true, true, true, true, true, true, true, true] rfl rfl (by kernel_rfl) (fun _ _ _ h => h) (Or.inl ⟨by rfl, ?_⟩) ?_ ?_
          rotate_left
          · intro w'
            go_simp
            with_reducible rfl
          rotate_left
          · simp only [Act.put, List.setIfInBounds_toArray, List.set_cons_zero, List.set_cons_succ, i64_w, i32_w]
            rfl
          refine done_ (by kernel_rfl) ?_
          go_wp2
          go_ret
          exact ⟨rfl, HBO.out.trans (G13.out.mono HBO.out.size)⟩
end Go.Proofs.Ytfanomllfgoakaa
