/- The law SlotsBack, walked. -/
import Derived.Test.YtdbhejckpkifoaaSlotD
import Derived.Lib.Hide
import Derived.LoopTactic
import Derived.Outline
import Derived.Laws.Rows
import Derived.Laws.CopyOwn
import Derived.WalkKit
set_option linter.unusedVariables false
set_option linter.unusedSimpArgs false
namespace Go.Proofs.Ytdbhejckpkifoaa
open Go.RowKit Go.Proofs.YtdbhejckpkifoaaW.PrintWords Go.Proofs.YtdbhejckpkifoaaW.PrintLast Go.Proofs.YtdbhejckpkifoaaW.PrintMore
open Go.Proofs.Ytdbhejckpkifoaa.PSlotsBack
attribute [local go_sem] max2_int min2_int max_two min_two max_three min_three max_four min_four


theorem IsRow.below {p : Nat} {l : List ByteArray} {w w' : World} (h : IsRow p l w) (hb : Below w.heap.size w w') : IsRow p l w' := ⟨(hb.block p (blk_lt h.blk)).trans h.blk, h.len⟩
theorem run_mk30 (W : World) : Sem.run Try.prog (Instr.makeMap 30 none) W = .ok (.map (some W.heap.size)) (W.alloc (.map #[] 0)) := by
  simp [Instr.makeMap, run_underlying Try.underlying30]
theorem keep_below' {B p : Nat} {w0 w1 w2 : World} (h : Below B w0 w1) (k : Keep (fun g => g = p) w1 w2) (hp : B ≤ p) (hB : B ≤ w1.heap.size) : Below B w0 w2 :=
  h.trans (k.to_below (fun i hi => by omega) hB)
set_option maxRecDepth 100000 in
set_option maxHeartbeats 16000000 in
theorem back_main (A : Option Addr) (ca : Nat) (l : List Int) (w : World) (h : ReadsInt w .u8 A l.length l) (hl : l.length ≤ 60) (hr : ∀ x ∈ l, 0 ≤ x ∧ x ≤ 255) :
    Calls Try.prog 3 #[.slice A l.length ca] w fun e w' => e = .returned (.bool true) ∧ Below w.heap.size w w' := by
  have HL := Aside0.mk h
  have HR := Aside0.mk hr
  have d1 : decide (60 < (l.length : Int)) = false := decide_eq_false (by omega)
  clear h hr
  go_enter Try.func3, Try.ntmps3
  go_wp2_with fail
  refine (lives24_calls _).mono ?_
  rintro e w1 ⟨rfl, h1⟩
  have H1 := Aside0.mk h1
  clear h1
  go_wp2_with fail
  refine (rnew_calls w1).mono ?_
  rintro e w2 ⟨rfl, hrow, hb2⟩
  obtain ⟨p, hp⟩ : ∃ p, p = w1.heap.size := ⟨_, rfl⟩
  have HPW := Aside0.mk (show w.heap.size ≤ p by rw [hp]; exact H1.out.size)
  rw [← hp] at hrow ⊢
  have HR0 := Aside0.mk (show IsRow p (rowA 0) w2 from hrow)
  have HB0 := Aside0.mk (show Below w.heap.size w w2 from H1.out.trans (hb2.mono H1.out.size))
  clear hrow hb2 hp
  go_wp2_with fail
  go_loopw [29] (fun v29 wr => ∃ i : Nat, i ≤ 8 ∧ v29 = .int .i64 (i : Int) ∧ Aside0 (IsRow p (rowA i) wr) ∧ Aside0 (Below w.heap.size w wr)) (fun v _ => 8 - (intOf v).toNat)
  case atStart => exact ⟨0, by omega, rfl, HR0, HB0⟩
  case round =>
    obtain ⟨i, hi, rfl, HI, HB⟩ := hrel
    by_cases hlt : i < 8
    · have hst := rowA_step i hlt
      have HT := Lib.hid (fun W (h : IsRow p (rowA i) W) => take_ok p (rowA i) (nmS i) 40 W i h (nm_right i hlt) hst.1 hst.2.1)
      have HE := Aside0.mk hst.2.2
      have hi8 : (i : Int) < 8 := by omega
      clear hst
      go_wp2_with fail
      refine (nm_calls i hlt _).mono ?_
      rintro e w3 ⟨rfl, h3⟩
      have H3 := Aside0.mk (HI.out.below h3)
      have B3 := Aside0.mk (HB.out.trans (h3.mono HB.out.size))
      clear h3
      go_wp2_with fail
      refine (HT.out _ H3.out).mono ?_
      rintro e w4 ⟨rfl, h4, k4⟩
      have H4 := Aside0.mk (HE.out ▸ h4)
      have B4 := Aside0.mk (keep_below' B3.out k4 HPW.out B3.out.size)
      clear h4 k4
      go_wp2
      go_roundw
      case rel => exact ⟨i + 1, by omega, by simp, H4, B4⟩
      case measure => simp [intOf]; omega
    · have hie : i = 8 := by omega
      subst hie
      have HTM := Lib.hid (fun W (h : IsRow p (rowA 8) W) => take_full p (rowA 8) moreS 40 W h more_right rowA_full.1 rowA_full.2.1)
      clear hlt hi
      go_wp2_with fail
      refine (HTM.out _ HI.out).mono ?_
      rintro e w3 ⟨rfl, n3, rfl⟩
      have km := fun W => run_mk30 W
      go_wp2_with fail
      clear km
      obtain ⟨b, hb⟩ : ∃ b, b = wr.heap.size := ⟨_, rfl⟩
      have hpb : p < b := by rw [hb]; exact blk_lt HI.out.blk
      have HBW := Aside0.mk (show w.heap.size ≤ b by rw [hb]; exact HB.out.size)
      have HR1 := Aside0.mk (show IsRow p (rowC 0 0) ((wr.drewN n3).alloc (.map #[] 0)) from ⟨blk_alloc (w := wr.drewN n3) (by rw [← rowA_full.2.2]; exact HI.out.blk) _, rfl⟩)
      have HG1 := Aside0.mk (show GMap b 0 0 ((wr.drewN n3).alloc (.map #[] 0)) from ⟨_, by rw [hb]; exact World.ownsMap_made (H := Unit) (wr.drewN n3) Try.prog 3 (plainElem Try.prog 4), Maps.isMap_empty, fun j _ => by rw [Nat.zero_testBit]; rfl⟩)
      have HB1 := Aside0.mk (show Below w.heap.size w ((wr.drewN n3).alloc (.map #[] 0)) from Below.alloc (pw_below_drewN HB.out n3) HB.out.size _)
      have hbe : wr.heap.size = b := hb.symm
      have HPB := Aside0.mk hpb
      clear hb hpb HI HB
      go_wp2_with fail
      rw [hbe]
      clear hbe
      go_loopw [58] (fun v58 wr => ∃ (j g : Nat), j ≤ l.length ∧ g < 256 ∧ v58 = .int .i64 (j : Int) ∧ Aside0 (IsRow p (rowC g 0) wr) ∧ Aside0 (GMap b g j wr) ∧ Aside0 (Below w.heap.size w wr)) (fun v _ => l.length - (intOf v).toNat)
      case atStart => exact ⟨0, 0, by omega, by omega, rfl, HR1, HG1, HB1⟩
      case round =>
        obtain ⟨j, g, hj, hg, rfl, HI, HG, HB⟩ := hrel
        by_cases hlt : j < l.length
        · obtain ⟨ad, rfl, hc⟩ := HL.out.2.2 (by omega)
          have hcj := hc j hlt
          obtain ⟨x, hx⟩ : ∃ x, x = l.getD j 0 := ⟨_, rfl⟩
          rw [← hx] at hcj
          have cx : wr.cell? (ad.add j) = some (.int .u8 x) := by rw [HB.out.cell (World.block_lt_of_cell? w _ hcj)]; exact hcj
          have hxr := HR.out x (by rw [hx, List.getD_eq_getElem?_getD, List.getElem?_eq_getElem hlt]; exact List.getElem_mem hlt)
          obtain ⟨i, hi⟩ : ∃ i : Nat, x % 8 = (i : Int) := ⟨(x % 8).toNat, by omega⟩
          have hi8 : i < 8 := by omega
          have hm : Int.tmod x 8 = (i : Int) := by rw [Int.tmod_eq_emod_of_nonneg hxr.1]; exact hi
          have hw : IntKind.i64.wrap (i : Int) = (i : Int) := by rw [IntKind.wrap_i64]; omega
          have hx0 : (0 : Int) ≤ x := hxr.1
          have hjl : (j : Int) < (l.length : Int) := by omega
          have HGV := Aside0.mk (rowC_give g hg i hi8)
          have HIL := Aside0.mk hlt
          clear hc hcj hx hxr
          go_wp2_with fail
          refine (nm_calls i hi8 _).mono ?_
          rintro e w3 ⟨rfl, h3⟩
          have H3 := Aside0.mk (HI.out.below h3)
          have B3 := Aside0.mk (HB.out.trans (h3.mono HB.out.size))
          have G3 := Aside0.mk (HG.out.kept (grown_of_below h3 none) (by simp))
          clear h3
          by_cases hb : g.testBit i = true
          · have HC := Lib.hid (give_none p (rowC g 0) (nmS i) w3 H3.out (HGV.out.1 hb))
            have hor : g ||| 2 ^ i = g := Nat.eq_of_testBit_eq fun k => by
              rw [(set_bit g i hg hi8).2 k]
              by_cases hk : i = k
              · subst hk; rw [hb]; rfl
              · simp [hk]
            go_wp2_with fail
            refine HC.out.mono ?_
            rintro e w4 ⟨rfl, n4, rfl⟩
            have H4 := Aside0.mk (show IsRow p (rowC (g ||| 2 ^ i) 0) (w3.drewN n4) by rw [hor]; exact H3.out.drewN n4)
            have B4 := Aside0.mk (pw_below_drewN B3.out n4)
            have G4 := Aside0.mk (show GMap b g j (w3.drewN n4) from ⟨G3.out.own⟩)
            have kl := G4.out.look i hi8
            rw [hb] at kl
            obtain ⟨D4, ho4, hm4, hd4⟩ := G4.out.own
            have HO4 := Aside0.mk (And.intro ho4 (And.intro hm4 hd4))
            clear ho4 hm4 hd4 hb
            go_wp2_with (first | (at_mapUpdate; refine wpList_mapUpdate_own _ rfl _ _ _ 30 rfl 3 4 (Maps.int_keyed Try.underlying3) Try.underlying30 _ b j D4 rfl HO4.out.1 (by unfold maxLen; omega) _ _ (.int .i64 (i : Int)) rfl rfl (key3 i hi8) (.lit (.bool true)) [] (plainElem_bool Try.underlying4 true) ?_) | go_in)
            intro w5 hown5 hgr5
            have G5 := Aside0.mk (GMap.put_of hg hi8 HO4.out.2.1 HO4.out.2.2 hown5)
            have I5 := Aside0.mk (show IsRow p (rowC (g ||| 2 ^ i) 0) w5 from ⟨(hgr5.block p (blk_lt H4.out.blk) (by intro e; injection e with e; have := HPB.out; omega)).trans H4.out.blk, H4.out.len⟩)
            have B5 := Aside0.mk (B4.out.grown hgr5 B4.out.size (fun k hk => by injection hk with hk; have := HBW.out; omega))
            clear hown5 hgr5
            go_wp2
            go_roundw
            case rel => exact ⟨j + 1, g ||| 2 ^ i, by omega, (set_bit g i hg hi8).1, by simp, I5, G5, B5⟩
            case measure => simp [intOf]; omega
          · have hb' : g.testBit i = false := by simpa using hb
            have HC := Lib.hid (give_ok p (rowC g 0) (nmS i) w3 i H3.out (HGV.out.2 hb').1)
            have HGS := Aside0.mk (HGV.out.2 hb').2
            go_wp2_with fail
            refine HC.out.mono ?_
            rintro e w4 ⟨rfl, h4, k4⟩
            have H4 := Aside0.mk (show IsRow p (rowC (g ||| 2 ^ i) 0) w4 from HGS.out ▸ h4)
            have B4 := Aside0.mk (keep_below' B3.out k4 HPW.out B3.out.size)
            have G4 := Aside0.mk (G3.out.kept (row := some p) ⟨k4.os, k4.tape, k4.output, k4.size, fun i hi hn => k4.block i hi (fun e => hn (by rw [e]))⟩ (by intro e; injection e with e; have := HPB.out; omega))
            have kl := G4.out.look i hi8
            rw [hb'] at kl
            obtain ⟨D4, ho4, hm4, hd4⟩ := G4.out.own
            have HO4 := Aside0.mk (And.intro ho4 (And.intro hm4 hd4))
            clear ho4 hm4 hd4 hb hb' h4 k4
            go_wp2_with (first | (at_mapUpdate; refine wpList_mapUpdate_own _ rfl _ _ _ 30 rfl 3 4 (Maps.int_keyed Try.underlying3) Try.underlying30 _ b j D4 rfl HO4.out.1 (by unfold maxLen; omega) _ _ (.int .i64 (i : Int)) rfl rfl (key3 i hi8) (.lit (.bool true)) [] (plainElem_bool Try.underlying4 true) ?_) | go_in)
            intro w5 hown5 hgr5
            have G5 := Aside0.mk (GMap.put_of hg hi8 HO4.out.2.1 HO4.out.2.2 hown5)
            have I5 := Aside0.mk (show IsRow p (rowC (g ||| 2 ^ i) 0) w5 from ⟨(hgr5.block p (blk_lt H4.out.blk) (by intro e; injection e with e; have := HPB.out; omega)).trans H4.out.blk, H4.out.len⟩)
            have B5 := Aside0.mk (B4.out.grown hgr5 B4.out.size (fun k hk => by injection hk with hk; have := HBW.out; omega))
            clear hown5 hgr5
            go_wp2
            go_roundw
            case rel => exact ⟨j + 1, g ||| 2 ^ i, by omega, (set_bit g i hg hi8).1, by simp, I5, G5, B5⟩
            case measure => simp [intOf]; omega
        · have hje : j = l.length := by omega
          subst hje
          go_wp2_with fail
          go_loopw [79] (fun v79 wr => ∃ i : Nat, i ≤ 8 ∧ v79 = .int .i64 (i : Int) ∧ Aside0 (IsRow p (rowC g i) wr) ∧ Aside0 (GMap b g l.length wr) ∧ Aside0 (Below w.heap.size w wr)) (fun v _ => 8 - (intOf v).toNat)
          case atStart => exact ⟨0, by omega, rfl, HI, HG, HB⟩
          case round =>
            obtain ⟨i, hi, rfl, HI, HG, HB⟩ := hrel
            by_cases hlt : i < 8
            · have HTK := Aside0.mk (rowC_take g hg i hlt)
              have kl := HG.out.look i hlt
              have hi8 : (i : Int) < 8 := by omega
              by_cases hb : g.testBit i = true
              · rw [hb] at kl
                obtain ⟨q1, q2, q3⟩ := HTK.out.1 hb
                have HC := Lib.hid (fun W (h : IsRow p (rowC g i) W) => take_ok p (rowC g i) (zS i) 40 W i h (z_right i hlt) q1 q2)
                have HE := Aside0.mk q3
                have hz1 : (nmS i).size = 1 := by unfold nmS; rw [strOfNums_size]; rfl
                obtain ⟨s, hs⟩ : ∃ s, s = nmS i := ⟨_, rfl⟩
                have hnm := nm_calls i hlt
                rw [← hs] at hz1 hnm
                have hA1 : ¬ 9223372036854775807 < 1 + s.size := by omega
                have HZS := Aside0.mk (show (⟨#[122]⟩ : ByteArray) ++ s = zS i by rw [hs]; rfl)
                have HNM := Lib.hid hnm
                clear q1 q2 q3 hs hnm hb
                go_wp2_with fail
                refine (HNM.out _).mono ?_
                rintro e w3 ⟨rfl, h3⟩
                have H3 := Aside0.mk (HI.out.below h3)
                have B3 := Aside0.mk (HB.out.trans (h3.mono HB.out.size))
                have G3 := Aside0.mk (HG.out.kept (grown_of_below h3 none) (by simp))
                clear h3
                go_wp2_with (rw [HZS.out])
                refine (HC.out _ H3.out).mono ?_
                rintro e w4 ⟨rfl, h4, k4⟩
                have H4 := Aside0.mk (HE.out ▸ h4)
                have B4 := Aside0.mk (keep_below' B3.out k4 HPW.out B3.out.size)
                have G4 := Aside0.mk (G3.out.kept (row := some p) ⟨k4.os, k4.tape, k4.output, k4.size, fun i hi hn => k4.block i hi (fun e => hn (by rw [e]))⟩ (by intro e; injection e with e; have := HPB.out; omega))
                clear h4 k4
                go_wp2
                go_roundw
                case rel => exact ⟨i + 1, by omega, by simp, H4, G4, B4⟩
                case measure => simp [intOf]; omega
              · have hb' : g.testBit i = false := by simpa using hb
                rw [hb'] at kl
                have H4 := Aside0.mk (show IsRow p (rowC g (i + 1)) wr from (HTK.out.2 hb') ▸ HI.out)
                clear hb hb'
                go_wp2
                go_roundw
                case rel => exact ⟨i + 1, by omega, by simp, H4, HG, HB⟩
                case measure => simp [intOf]; omega
            · have hie : i = 8 := by omega
              subst hie
              have HTM := Lib.hid (fun W (h : IsRow p (rowC g 8) W) => take_full p (rowC g 8) moreS 40 W h more_right (rowC_full g hg).1 (rowC_full g hg).2)
              clear hlt hi
              go_wp2_with fail
              refine (HTM.out _ HI.out).mono ?_
              rintro e w3 ⟨rfl, n3, rfl⟩
              have B3 := Aside0.mk (pw_below_drewN HB.out n3)
              go_wp2
              go_ret
              exact ⟨rfl, B3.out⟩
end Go.Proofs.Ytdbhejckpkifoaa
