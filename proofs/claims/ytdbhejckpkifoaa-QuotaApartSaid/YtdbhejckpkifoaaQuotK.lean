/- The law QuotaApart, walked. -/
import Derived.Test.YtdbhejckpkifoaaQuotJ
import Derived.Lib.Hide
import Derived.LoopTactic
import Derived.Outline
import Derived.Laws.Rows
import Derived.Laws.CopyOwn
import Derived.WalkKit
set_option linter.unusedVariables false
set_option linter.unusedSimpArgs false
namespace Go.Proofs.Ytdbhejckpkifoaa
open Go.RowKit Go.Proofs.YtdbhejckpkifoaaW.PrintWords Go.Proofs.YtdbhejckpkifoaaW.PrintLast Go.Proofs.YtdbhejckpkifoaaW.PrintMore
open Go.Proofs.Ytdbhejckpkifoaa.PSlotsBack
attribute [local go_sem] max2_int min2_int max_two min_two max_three min_three max_four min_four

attribute [local go_sem high] eqA65
def meS : ByteArray := ⟨#[109, 101]⟩
theorem right_me : name_Right.f 1100 meS = some true := by decide +kernel
theorem right_abc : name_Right.f 1100 ⟨#[97]⟩ = some true ∧ name_Right.f 1100 ⟨#[98]⟩ = some true ∧ name_Right.f 1100 ⟨#[99]⟩ = some true := by decide +kernel
theorem SrcA.cells {w : World} {A : Option Addr} {n c : Nat} {l : List ActQ} (h : SrcA w (.slice A n c) l) (h0 : 0 < l.length) : ∃ ad, A = some ad ∧ ∀ (j : Nat) (x : ActQ), l[j]? = some x → w.cell? (ad.add (j * 4)) = some (.int .i64 x.f0) ∧ w.cell? ⟨(ad.add (j * 4)).block, (ad.add (j * 4)).off + 1, none⟩ = some (.string x.f1) ∧ w.cell? ⟨(ad.add (j * 4)).block, (ad.add (j * 4)).off + 2, none⟩ = some (.int .i64 x.f2) ∧ w.cell? ⟨(ad.add (j * 4)).block, (ad.add (j * 4)).off + 3, none⟩ = some (.int .i64 x.f3) := by
  rcases h with ⟨c, e, el⟩ | ⟨ad, c, e, hc⟩
  · rw [el] at h0; exact absurd h0 (by simp)
  · injection e with e1 e2 e3
    exact ⟨ad, e1, hc⟩
abbrev I64 (x : Int) : Prop := -9223372036854775808 ≤ x ∧ x ≤ 9223372036854775807
set_option maxRecDepth 100000 in
set_option maxHeartbeats 64000000 in
theorem apart_main (A : Option Addr) (ca : Nat) (C : Option Addr) (cc : Nat) (l m : List ActQ) (bt se0 : Int) (w : World) (h : SrcA w (.slice A l.length ca) l) (hm : SrcA w (.slice C m.length cc) m) (hl : l.length ≤ 60) (hml : m.length ≤ 60)
    (hbt : I64 bt) (hse0 : I64 se0) (hw : ∀ x ∈ l, I64 x.f2 ∧ I64 x.f3) (hwm : ∀ x ∈ m, I64 x.f2 ∧ I64 x.f3) :
    Calls Try.prog 9 #[.int .i64 bt, .int .i64 se0, .slice A l.length ca, .slice C m.length cc] w fun e w' => e = .returned (.bool true) ∧ Below w.heap.size w w' := by
  have HL := Aside0.mk h
  have HM := Aside0.mk hm
  have HW := Aside0.mk hw
  have HWM := Aside0.mk hwm
  have d1 : decide (60 < (l.length : Int)) = false := decide_eq_false (by omega)
  have d2 : decide (60 < (m.length : Int)) = false := decide_eq_false (by omega)
  have HNEW := Lib.hid (fun W => qnew_calls 1099511627776 (by decide) (by decide) W)
  have HG00 := Aside0.mk (goodM_start (cap := 1099511627776) (by decide) (by decide))
  have HOP := Lib.hid (fun (p b : Nat) W (h : IsLed p b 1099511627776 [] W) => qopen_calls p b 1099511627776 [] meS (by decide) bt se0 true 1100 right_me W h (goodM_start (by decide) (by decide)))
  have HGO := Aside0.mk (openM_good (nb := true) (s := meS) (by_ := bt) (se := se0) (goodM_start (cap := 1099511627776) (by decide) (by decide)) (by decide))
  obtain ⟨⟨r0, M0⟩, hM0⟩ : ∃ x, x = openM true 1099511627776 [] meS bt se0 := ⟨_, rfl⟩
  rw [← hM0] at HOP HGO
  clear h hm hw hwm hbt hse0 hM0
  unfold meS at HOP
  go_enter Try.func9, Try.ntmps9
  go_wp2_with fail
  refine (qlives_calls _).mono ?_
  rintro e w1 ⟨rfl, hb1⟩
  have HB1 := Aside0.mk hb1
  clear hb1
  go_wp2_with fail
  refine (HNEW.out w1).mono ?_
  rintro e w2 ⟨pa, ba, rfl, hled, hb2, hp, hbb⟩
  have HA2 := Aside0.mk hled
  have HB2 := Aside0.mk (HB1.out.trans (hb2.mono HB1.out.size))
  have hwpa : w.heap.size ≤ pa := Nat.le_trans HB1.out.size hp
  have hwba : w.heap.size ≤ ba := Nat.le_trans HB1.out.size hbb
  have hpa2 : pa < w2.heap.size := hled.plt
  have hba2 : ba < w2.heap.size := hled.blt
  clear hled hb2 hp hbb
  go_wp2_with fail
  refine (HNEW.out w2).mono ?_
  rintro e w3 ⟨pb, bb, rfl, hled, hb3, hp, hbb⟩
  have HLO := Aside0.mk (show w.heap.size ≤ pa ∧ w.heap.size ≤ ba ∧ w.heap.size ≤ pb ∧ w.heap.size ≤ bb ∧ pa < pb ∧ ba < pb ∧ pa < bb ∧ ba < bb by omega)
  have HLA3 := Aside0.mk (HA2.out.below hb3)
  have HLB3 := Aside0.mk hled
  have HB3 := Aside0.mk (HB2.out.trans (hb3.mono HB2.out.size))
  clear hled hb3 hp hbb hwpa hwba hpa2 hba2 HA2 HB2
  go_wp2_with fail
  refine (HOP.out pa ba _ HLA3.out).mono ?_
  rintro e w4 h4
  have HG4 := Aside0.mk h4.keepG
  have HLA4 := Aside0.mk h4.2.1
  have HLB4 := Aside0.mk (HLB3.out.kept HG4.out (by intro e; injection e with e; have := HLO.out; omega) (by intro e; injection e with e; have := HLO.out; omega))
  have HB4 := Aside0.mk (HB3.out.grown HG4.out HB3.out.size (fun g hg => by injection hg with hg; rw [← hg]; exact HLO.out.2.1))
  obtain ⟨rfl, _, _⟩ := h4
  go_wp2_with fail
  refine (HOP.out pb bb _ HLB4.out).mono ?_
  rintro e w5 h5
  have HG5 := Aside0.mk h5.keepG
  have HLB5 := Aside0.mk h5.2.1
  have HLA5 := Aside0.mk (HLA4.out.kept HG5.out (by intro e; injection e with e; have := HLO.out; omega) (by intro e; injection e with e; have := HLO.out; omega))
  have HB5 := Aside0.mk (HB4.out.grown HG5.out HB4.out.size (fun g hg => by injection hg with hg; rw [← hg]; exact HLO.out.2.2.2.1))
  obtain ⟨rfl, _, _⟩ := h5
  go_wp2_with fail
  obtain ⟨rs, hrs⟩ : ∃ r, r = w5.heap.size := ⟨_, rfl⟩
  have HRSL := Aside0.mk (show w.heap.size ≤ rs ∧ ba < rs ∧ bb < rs by rw [hrs]; exact ⟨HB5.out.size, HLA5.out.blt, HLB5.out.blt⟩)
  have HRS := Aside0.mk (show (w5.alloc (.cells #[.string ⟨#[97]⟩, .string ⟨#[98]⟩, .string ⟨#[99]⟩] 9)).heap[rs]? = some (.cells #[.string ⟨#[97]⟩, .string ⟨#[98]⟩, .string ⟨#[99]⟩] 9 (0, 0)) by rw [hrs]; exact blk_new w5 _)
  have HLA6 := Aside0.mk (HLA5.out.below ((Below.refl _ _).alloc (Nat.le_refl _) (.cells #[.string ⟨#[97]⟩, .string ⟨#[98]⟩, .string ⟨#[99]⟩] 9)))
  have HLB6 := Aside0.mk (HLB5.out.below ((Below.refl _ _).alloc (Nat.le_refl _) (.cells #[.string ⟨#[97]⟩, .string ⟨#[98]⟩, .string ⟨#[99]⟩] 9)))
  have HB6 := Aside0.mk (HB5.out.alloc HB5.out.size (.cells #[.string ⟨#[97]⟩, .string ⟨#[98]⟩, .string ⟨#[99]⟩] 9))
  rw [← hrs]
  clear hrs HLA5 HLB5 HB5 HLA4 HLB4 HB4 HLA3 HLB3 HB3 HB1 HG4 HG5
  go_loopw [59] (fun v59 wr => ∃ (k : Nat) (Mb : Mdl), k ≤ 3 ∧ v59 = .int .i64 (k : Int) ∧ Aside0 (GoodM 1099511627776 Mb) ∧ Aside0 (getM meS M0 = getM meS Mb) ∧ Aside0 (wr.heap[rs]? = some (.cells #[.string ⟨#[97]⟩, .string ⟨#[98]⟩, .string ⟨#[99]⟩] 9 (0, 0))) ∧ Aside0 (IsLed pa ba 1099511627776 M0 wr) ∧ Aside0 (IsLed pb bb 1099511627776 Mb wr) ∧ Aside0 (Below w.heap.size w wr)) (fun v _ => 3 - (intOf v).toNat)
  case atStart => exact ⟨0, M0, by omega, rfl, HGO, ⟨rfl⟩, HRS, HLA6, HLB6, HB6⟩
  case round =>
    obtain ⟨k, Mb, hk, rfl, HGB, HME, HR, HLA, HLB, HB⟩ := hrel
    by_cases hlt : k < 3
    · rcases (show k = 0 ∨ k = 1 ∨ k = 2 by omega) with rfl | rfl | rfl
      · have c0 := blk_cell HR.out 0
        simp only [List.getElem?_toArray, List.getElem?_cons_zero, List.getElem?_cons_succ] at c0
        have HOP2 := Lib.hid (fun W (h : IsLed pb bb 1099511627776 Mb W) => qopen_calls pb bb 1099511627776 Mb ⟨#[97]⟩ (by decide) 0 16 true 1100 right_abc.1 W h HGB.out)
        have HGB2 := Aside0.mk (openM_good (nb := true) (s := ⟨#[97]⟩) (by_ := 0) (se := 16) HGB.out (by decide))
        have HME2 := Aside0.mk (show getM meS M0 = getM meS (openM true 1099511627776 Mb ⟨#[97]⟩ 0 16).2 by rw [openM_other (by decide)]; exact HME.out)
        obtain ⟨⟨r1, M1⟩, hM1⟩ : ∃ x, x = openM true 1099511627776 Mb ⟨#[97]⟩ 0 16 := ⟨_, rfl⟩
        rw [← hM1] at HOP2 HGB2 HME2
        clear hM1 hlt hk
        go_wp2_with fail
        refine (HOP2.out _ HLB.out).mono ?_
        rintro e w7 h7
        have HG7 := Aside0.mk h7.keepG
        have HLB7 := Aside0.mk h7.2.1
        have HLA7 := Aside0.mk (HLA.out.kept HG7.out (by intro e; injection e with e; have := HLO.out; omega) (by intro e; injection e with e; have := HLO.out; omega))
        have HB7 := Aside0.mk (HB.out.grown HG7.out HB.out.size (fun g hg => by injection hg with hg; rw [← hg]; exact HLO.out.2.2.2.1))
        have HR7 := Aside0.mk ((HG7.out.block rs (blk_lt HR.out) (by intro e; injection e with e; have := HRSL.out; omega)).trans HR.out)
        obtain ⟨rfl, _, _⟩ := h7
        go_wp2
        go_roundw
        case rel => exact ⟨1, M1, by omega, by simp, HGB2, HME2, HR7, HLA7, HLB7, HB7⟩
        case measure => simp [intOf]
      · have c0 := blk_cell HR.out 1
        simp only [List.getElem?_toArray, List.getElem?_cons_zero, List.getElem?_cons_succ] at c0
        have HOP2 := Lib.hid (fun W (h : IsLed pb bb 1099511627776 Mb W) => qopen_calls pb bb 1099511627776 Mb ⟨#[98]⟩ (by decide) 0 16 true 1100 right_abc.2.1 W h HGB.out)
        have HGB2 := Aside0.mk (openM_good (nb := true) (s := ⟨#[98]⟩) (by_ := 0) (se := 16) HGB.out (by decide))
        have HME2 := Aside0.mk (show getM meS M0 = getM meS (openM true 1099511627776 Mb ⟨#[98]⟩ 0 16).2 by rw [openM_other (by decide)]; exact HME.out)
        obtain ⟨⟨r1, M1⟩, hM1⟩ : ∃ x, x = openM true 1099511627776 Mb ⟨#[98]⟩ 0 16 := ⟨_, rfl⟩
        rw [← hM1] at HOP2 HGB2 HME2
        clear hM1 hlt hk
        go_wp2_with fail
        refine (HOP2.out _ HLB.out).mono ?_
        rintro e w7 h7
        have HG7 := Aside0.mk h7.keepG
        have HLB7 := Aside0.mk h7.2.1
        have HLA7 := Aside0.mk (HLA.out.kept HG7.out (by intro e; injection e with e; have := HLO.out; omega) (by intro e; injection e with e; have := HLO.out; omega))
        have HB7 := Aside0.mk (HB.out.grown HG7.out HB.out.size (fun g hg => by injection hg with hg; rw [← hg]; exact HLO.out.2.2.2.1))
        have HR7 := Aside0.mk ((HG7.out.block rs (blk_lt HR.out) (by intro e; injection e with e; have := HRSL.out; omega)).trans HR.out)
        obtain ⟨rfl, _, _⟩ := h7
        go_wp2
        go_roundw
        case rel => exact ⟨2, M1, by omega, by simp, HGB2, HME2, HR7, HLA7, HLB7, HB7⟩
        case measure => simp [intOf]
      · have c0 := blk_cell HR.out 2
        simp only [List.getElem?_toArray, List.getElem?_cons_zero, List.getElem?_cons_succ] at c0
        have HOP2 := Lib.hid (fun W (h : IsLed pb bb 1099511627776 Mb W) => qopen_calls pb bb 1099511627776 Mb ⟨#[99]⟩ (by decide) 0 16 true 1100 right_abc.2.2 W h HGB.out)
        have HGB2 := Aside0.mk (openM_good (nb := true) (s := ⟨#[99]⟩) (by_ := 0) (se := 16) HGB.out (by decide))
        have HME2 := Aside0.mk (show getM meS M0 = getM meS (openM true 1099511627776 Mb ⟨#[99]⟩ 0 16).2 by rw [openM_other (by decide)]; exact HME.out)
        obtain ⟨⟨r1, M1⟩, hM1⟩ : ∃ x, x = openM true 1099511627776 Mb ⟨#[99]⟩ 0 16 := ⟨_, rfl⟩
        rw [← hM1] at HOP2 HGB2 HME2
        clear hM1 hlt hk
        go_wp2_with fail
        refine (HOP2.out _ HLB.out).mono ?_
        rintro e w7 h7
        have HG7 := Aside0.mk h7.keepG
        have HLB7 := Aside0.mk h7.2.1
        have HLA7 := Aside0.mk (HLA.out.kept HG7.out (by intro e; injection e with e; have := HLO.out; omega) (by intro e; injection e with e; have := HLO.out; omega))
        have HB7 := Aside0.mk (HB.out.grown HG7.out HB.out.size (fun g hg => by injection hg with hg; rw [← hg]; exact HLO.out.2.2.2.1))
        have HR7 := Aside0.mk ((HG7.out.block rs (blk_lt HR.out) (by intro e; injection e with e; have := HRSL.out; omega)).trans HR.out)
        obtain ⟨rfl, _, _⟩ := h7
        go_wp2
        go_roundw
        case rel => exact ⟨3, M1, by omega, by simp, HGB2, HME2, HR7, HLA7, HLB7, HB7⟩
        case measure => simp [intOf]
    · have hke : k = 3 := by omega
      subst hke
      clear hlt hk HR HRS HLA6 HLB6 HB6
      have HGA := HGO
      go_wp2_with fail
      go_loopw [69] (fun v69 wr => ∃ (j : Nat) (Ma Mb : Mdl), j ≤ l.length ∧ v69 = .int .i64 (j : Int) ∧ Aside0 (GoodM 1099511627776 Ma) ∧ Aside0 (GoodM 1099511627776 Mb) ∧ Aside0 (getM meS Ma = getM meS Mb) ∧ Aside0 (IsLed pa ba 1099511627776 Ma wr) ∧ Aside0 (IsLed pb bb 1099511627776 Mb wr) ∧ Aside0 (Below w.heap.size w wr)) (fun v _ => l.length - (intOf v).toNat)
      case atStart => exact ⟨0, M0, Mb, by omega, rfl, HGA, HGB, HME, HLA, HLB, HB⟩
      case round =>
        clear HGO HGA HGB HME HLA HLB HB
        obtain ⟨j, Ma, Mb, hj, rfl, HGA, HGB, HME, HLAR, HLBR, HB⟩ := hrel
        by_cases hlt : j < l.length
        · obtain ⟨ad, rfl, hcell⟩ := HL.out.cells (by omega)
          obtain ⟨x, hx⟩ : ∃ x, l[j]? = some x := ⟨_, List.getElem?_eq_getElem hlt⟩
          have hcx := hcell j x hx
          have u0 : wr.cell? (ad.add (j * 4)) = some (.int .i64 x.f0) := by rw [HB.out.cell (World.block_lt_of_cell? w _ hcx.1)]; exact hcx.1
          have u1 : wr.cell? ⟨(ad.add (j * 4)).block, (ad.add (j * 4)).off + 1, none⟩ = some (.string x.f1) := by rw [HB.out.cell (World.block_lt_of_cell? w _ hcx.2.1)]; exact hcx.2.1
          have u2 : wr.cell? ⟨(ad.add (j * 4)).block, (ad.add (j * 4)).off + 2, none⟩ = some (.int .i64 x.f2) := by rw [HB.out.cell (World.block_lt_of_cell? w _ hcx.2.2.1)]; exact hcx.2.2.1
          have u3 : wr.cell? ⟨(ad.add (j * 4)).block, (ad.add (j * 4)).off + 3, none⟩ = some (.int .i64 x.f3) := by rw [HB.out.cell (World.block_lt_of_cell? w _ hcx.2.2.2)]; exact hcx.2.2.2
          have hjl : (j : Int) < (l.length : Int) := by omega
          have hxw := HW.out x (List.mem_of_getElem? hx)
          have HBY := Aside0.mk hxw.1
          have HSE := Aside0.mk hxw.2
          obtain ⟨k, s, by_, se⟩ := x
          obtain ⟨Q, hQ⟩ : ∃ Q, Q = wr.heap.size := ⟨_, rfl⟩
          have HQL := Aside0.mk (show pa < Q ∧ ba < Q ∧ pb < Q ∧ bb < Q by rw [hQ]; exact ⟨HLAR.out.plt, HLAR.out.blt, HLBR.out.plt, HLBR.out.blt⟩)
          have HWQ := Aside0.mk (show w.heap.size ≤ Q by rw [hQ]; exact HB.out.size)
          have HBX := Aside0.mk (show Below wr.heap.size wr (wr.alloc (.cells #[.int .i64 k, .string s, .int .i64 by_, .int .i64 se] 61)) from (Below.refl _ _).alloc (Nat.le_refl _) _)
          have HBKX := Aside0.mk (show (wr.alloc (.cells #[.int .i64 k, .string s, .int .i64 by_, .int .i64 se] 61)).heap[Q]? = some (.cells #[.int .i64 k, .string s, .int .i64 by_, .int .i64 se] 61 (0, 0)) by rw [hQ]; exact blk_new wr _)
          have HLAX := Aside0.mk (HLAR.out.below HBX.out)
          have HLBX := Aside0.mk (HLBR.out.below HBX.out)
          have HBWX := Aside0.mk (HB.out.trans (HBX.out.mono HB.out.size))
          have HQX := Aside0.mk (show Q < (wr.alloc (.cells #[.int .i64 k, .string s, .int .i64 by_, .int .i64 se] 61)).heap.size by rw [hQ]; simp)
          by_cases hj2 : j < m.length
          · have e9 : (j : Int) < (m.length : Int) := by omega
            obtain ⟨ad2, rfl, hcell2⟩ := HM.out.cells (by omega)
            obtain ⟨y, hy⟩ : ∃ x, m[j]? = some x := ⟨_, List.getElem?_eq_getElem hj2⟩
            have hcy := hcell2 j y hy
            have r0 : (wr.alloc (.cells #[.int .i64 k, .string s, .int .i64 by_, .int .i64 se] 61)).cell? (ad2.add (j * 4)) = some (.int .i64 y.f0) := bread HBX.out (by rw [HB.out.cell (World.block_lt_of_cell? w _ hcy.1)]; exact hcy.1)
            have r1 : (wr.alloc (.cells #[.int .i64 k, .string s, .int .i64 by_, .int .i64 se] 61)).cell? ⟨(ad2.add (j * 4)).block, (ad2.add (j * 4)).off + 1, none⟩ = some (.string y.f1) := bread HBX.out (by rw [HB.out.cell (World.block_lt_of_cell? w _ hcy.2.1)]; exact hcy.2.1)
            have r2 : (wr.alloc (.cells #[.int .i64 k, .string s, .int .i64 by_, .int .i64 se] 61)).cell? ⟨(ad2.add (j * 4)).block, (ad2.add (j * 4)).off + 2, none⟩ = some (.int .i64 y.f2) := bread HBX.out (by rw [HB.out.cell (World.block_lt_of_cell? w _ hcy.2.2.1)]; exact hcy.2.2.1)
            have r3 : (wr.alloc (.cells #[.int .i64 k, .string s, .int .i64 by_, .int .i64 se] 61)).cell? ⟨(ad2.add (j * 4)).block, (ad2.add (j * 4)).off + 3, none⟩ = some (.int .i64 y.f3) := bread HBX.out (by rw [HB.out.cell (World.block_lt_of_cell? w _ hcy.2.2.2)]; exact hcy.2.2.2)
            have hyw := HWM.out y (List.mem_of_getElem? hy)
            obtain ⟨yk, ys, yb, yse⟩ := y
            have HBY2 := Aside0.mk (HBX.out.alloc (by simp) (.cells #[.int .i64 yk, .string ys, .int .i64 yb, .int .i64 yse] 61))
            clear hcell2 hy hcy hcell hx hcx hxw
            by_cases hsz : ys.size ≤ 60
            · have d4 : decide (60 < (ys.size : Int)) = false := decide_eq_false (by omega)
              by_cases hme : ys = meS
              · subst hme
                unfold meS at *
                go_wp2
                go_ret
                exact ⟨rfl, HB.out.trans (HBY2.out.mono HB.out.size)⟩
              · have e10 : (ys.toList == [109, 101]) = false := beq_eq_false_iff_ne.2 fun e => hme (toList_inj (by rw [e]; decide +kernel))
                obtain ⟨nb, hnb⟩ := right_total ys (by omega)
                have HRY := Lib.hid (fun W h => qrun_calls pb bb 1099511627776 Mb yk ys (by omega) yb yse hyw.1 hyw.2 nb hnb W h HGB.out)
                have HGBY := Aside0.mk (runM_good (nb := nb) (k := yk) (s := ys) (by_ := yb) (se := yse) HGB.out (by omega))
                have HMEY := Aside0.mk (show getM meS Ma = getM meS (runM nb 1099511627776 Mb yk ys yb yse).2 by rw [runM_other hme]; exact HME.out)
                obtain ⟨⟨ry, My⟩, hMy⟩ : ∃ x, x = runM nb 1099511627776 Mb yk ys yb yse := ⟨_, rfl⟩
                rw [← hMy] at HRY HGBY HMEY
                have HLBY := Aside0.mk (HLBR.out.below HBY2.out)
                have HLAY := Aside0.mk (HLAR.out.below HBY2.out)
                have HBKY := Aside0.mk (blk_alloc HBKX.out (.cells #[.int .i64 yk, .string ys, .int .i64 yb, .int .i64 yse] 61))
                have HBWY := Aside0.mk (HB.out.trans (HBY2.out.mono HB.out.size))
                have HQY := Aside0.mk (show Q < ((wr.alloc (.cells #[.int .i64 k, .string s, .int .i64 by_, .int .i64 se] 61)).alloc (.cells #[.int .i64 yk, .string ys, .int .i64 yb, .int .i64 yse] 61)).heap.size by rw [hQ]; simp; omega)
                clear hMy hnb hyw hsz hme HBY2 HBX
                go_wp2_with fail
                refine (HRY.out _ HLBY.out).mono ?_
                rintro e W hw4
                have HG4 := Aside0.mk hw4.keepG
                have HLBW := Aside0.mk hw4.2.1
                have HLAW := Aside0.mk (HLAY.out.kept HG4.out (by intro e; injection e with e; have := HLO.out; omega) (by intro e; injection e with e; have := HLO.out; omega))
                have HBWW := Aside0.mk (HBWY.out.grown HG4.out HBWY.out.size (fun g hg => by injection hg with hg; rw [← hg]; exact HLO.out.2.2.2.1))
                have HBK := Aside0.mk ((HG4.out.block Q HQY.out (by intro e; injection e with e; have := HQL.out; omega)).trans HBKY.out)
                have HQW := Aside0.mk (show Q < W.heap.size from Nat.lt_of_lt_of_le HQY.out HG4.out.size)
                obtain ⟨rfl, _, _⟩ := hw4
                clear HGB HME HLBR HLBX HLBY HLAR HLAX HLAY HBWX HBWY HBKX HBKY HB HQX HQY u0 u1 u2 u3 r0 r1 r2 r3
                obtain ⟨Mb, hMbe⟩ : ∃ M, M = My := ⟨_, rfl⟩
                have HGB := Aside0.mk (show GoodM 1099511627776 Mb by rw [hMbe]; exact HGBY.out)
                have HME := Aside0.mk (show getM meS Ma = getM meS Mb by rw [hMbe]; exact HMEY.out)
                have HLBW2 := Aside0.mk (show IsLed pb bb 1099511627776 Mb W by rw [hMbe]; exact HLBW.out)
                clear HLBW HGBY HMEY hMbe
                have HLBW := HLBW2
                rw [← hQ]
                clear hQ
                have y0 := blk_cell HBK.out 0
                have y1 := blk_cell HBK.out 1
                have y2 := blk_cell HBK.out 2
                have y3 := blk_cell HBK.out 3
                simp only [List.getElem?_toArray, List.getElem?_cons_zero, List.getElem?_cons_succ] at y0 y1 y2 y3
                have z0 := blk_frozen HBK.out 0
                have z1 := blk_frozen HBK.out 1
                have HBK1 := Aside0.mk (blk_set HBK.out 1 (.string ⟨#[109, 101]⟩))
                have HLA1 := Aside0.mk (HLAW.out.setCell (q := ⟨Q, 1, none⟩) (by have := HQL.out; show Q ≠ pa; omega) (by have := HQL.out; show Q ≠ ba; omega) (.string ⟨#[109, 101]⟩))
                have HLB1 := Aside0.mk (HLBW.out.setCell (q := ⟨Q, 1, none⟩) (by have := HQL.out; show Q ≠ pb; omega) (by have := HQL.out; show Q ≠ bb; omega) (.string ⟨#[109, 101]⟩))
                have HBW1 := Aside0.mk (HBWW.out.setCell (p := ⟨Q, 1, none⟩) HWQ.out (.string ⟨#[109, 101]⟩))
                by_cases k3 : k = 3
                · subst k3
                  have HLA0 := HLA1
                  have HLB0 := HLB1
                  have HBW0 := HBW1
                  have x0 : (W.setCell ⟨Q, 1, none⟩ (.string ⟨#[109, 101]⟩)).drew.cell? ⟨Q, 0, none⟩ = some (.int .i64 3) := by go_simp
                  have x1 : (W.setCell ⟨Q, 1, none⟩ (.string ⟨#[109, 101]⟩)).drew.cell? ⟨Q, 1, none⟩ = some (.string ⟨#[109, 101]⟩) := by go_simp
                  have x2 : (W.setCell ⟨Q, 1, none⟩ (.string ⟨#[109, 101]⟩)).drew.cell? ⟨Q, 2, none⟩ = some (.int .i64 by_) := by go_simp
                  have x3 : (W.setCell ⟨Q, 1, none⟩ (.string ⟨#[109, 101]⟩)).drew.cell? ⟨Q, 3, none⟩ = some (.int .i64 se) := by go_simp
                  have HLA := Aside0.mk (show IsLed pa ba 1099511627776 Ma ((W.setCell ⟨Q, 1, none⟩ (.string ⟨#[109, 101]⟩))).drew from HLA0.out.drew)
                  have HLB := Aside0.mk (show IsLed pb bb 1099511627776 Mb ((W.setCell ⟨Q, 1, none⟩ (.string ⟨#[109, 101]⟩))).drew from HLB0.out.drew)
                  have HBW := Aside0.mk (show Below w.heap.size w ((W.setCell ⟨Q, 1, none⟩ (.string ⟨#[109, 101]⟩))).drew from pw_below_drewN HBW0.out 1)
                  have HQ0 := Aside0.mk (show Q < ((W.setCell ⟨Q, 1, none⟩ (.string ⟨#[109, 101]⟩))).drew.heap.size by show Q < ((W.setCell ⟨Q, 1, none⟩ (.string ⟨#[109, 101]⟩))).heap.size; simpa using HQW.out)
                  have hown := runM_own (nb := true) (nb' := true) (cap := 1099511627776) (cap' := 1099511627776) (kd := 3) (s := meS) (by_ := by_) (se := se) (by omega) HME.out
                  obtain ⟨r, hr⟩ : ∃ r, r = (runM true 1099511627776 Ma 3 meS by_ se).1 := ⟨_, rfl⟩
                  obtain ⟨Ma', hMa⟩ : ∃ m, m = (runM true 1099511627776 Ma 3 meS by_ se).2 := ⟨_, rfl⟩
                  obtain ⟨Mb', hMb⟩ : ∃ m, m = (runM true 1099511627776 Mb 3 meS by_ se).2 := ⟨_, rfl⟩
                  have hra := fun W h => qrun_calls pa ba 1099511627776 Ma 3 meS (by decide) by_ se HBY.out HSE.out true right_me W h HGA.out
                  rw [show runM true 1099511627776 Ma 3 meS by_ se = (r, Ma') by rw [hr, hMa]] at hra
                  have hrb := fun W h => qrun_calls pb bb 1099511627776 Mb 3 meS (by decide) by_ se HBY.out HSE.out true right_me W h HGB.out
                  rw [show runM true 1099511627776 Mb 3 meS by_ se = (r, Mb') by rw [hr, hMb, hown.1]] at hrb
                  have HRA := Lib.hid hra
                  have HRB := Lib.hid hrb
                  have HGA' := Aside0.mk (show GoodM 1099511627776 Ma' by rw [hMa]; exact runM_good HGA.out (by decide))
                  have HGB' := Aside0.mk (show GoodM 1099511627776 Mb' by rw [hMb]; exact runM_good HGB.out (by decide))
                  have HME' := Aside0.mk (show getM meS Ma' = getM meS Mb' by rw [hMa, hMb]; exact hown.2)
                  clear hown hr hMa hMb hra hrb
                  unfold meS at HRA HRB
                  go_wp2_with fail
                  refine start_ (n := 8) (S := fun w' => (w'.cell? ⟨Q, 0, none⟩ = some (.int .i64 3)) ∧ (w'.cell? ⟨Q, 1, none⟩ = some (.string ⟨#[109, 101]⟩)) ∧ (w'.cell? ⟨Q, 2, none⟩ = some (.int .i64 by_)) ∧ (w'.cell? ⟨Q, 3, none⟩ = some (.int .i64 se))) (ds := []) #[false, false, false, false, false, false, false, false] (by kernel_rfl) rfl rfl ⟨x0, x1, x2, x3⟩ (fun hHeld => ?_)
                  refine pure_ (i := 0) (N := some 104) (v := ?_) (a' := ?_) #[true, false, false, false, false, false, false, false] rfl rfl (by kernel_rfl) (fun _ _ _ h => h) (Or.inl ⟨by rfl, ?_⟩) ?_ ?_
                  rotate_left
                  · intro w'
                    go_simp
                    with_reducible rfl
                  rotate_left
                  · simp only [Act.put, List.setIfInBounds_toArray, List.set_cons_zero, List.set_cons_succ, i64_w, i32_w]
                    rfl
                  refine pure_ (i := 3) (N := some 107) (v := ?_) (a' := ?_) #[true, false, false, true, false, false, false, false] rfl rfl (by kernel_rfl) (fun _ _ _ h => h) (Or.inl ⟨by rfl, ?_⟩) ?_ ?_
                  rotate_left
                  · intro w'
                    go_simp
                    with_reducible rfl
                  rotate_left
                  · simp only [Act.put, List.setIfInBounds_toArray, List.set_cons_zero, List.set_cons_succ, i64_w, i32_w]
                    rfl
                  refine take_ (i := 1) (N := some 105) (v := ?_) (a' := ?_) #[true, true, false, true, false, false, false, false] rfl rfl (by kernel_rfl) (fun _ _ _ h => h) (Or.inl ⟨by rfl, ?_⟩) hHeld ?_ ?_
                  rotate_left
                  · rintro w' ⟨s0, s1, s2, s3⟩
                    go_simp
                    with_reducible rfl
                  rotate_left
                  · simp only [Act.put, List.setIfInBounds_toArray, List.set_cons_zero, List.set_cons_succ, i64_w, i32_w]
                    rfl
                  refine take_ (i := 4) (N := some 108) (v := ?_) (a' := ?_) #[true, true, false, true, true, false, false, false] rfl rfl (by kernel_rfl) (fun _ _ _ h => h) (Or.inl ⟨by rfl, ?_⟩) hHeld ?_ ?_
                  rotate_left
                  · rintro w' ⟨s0, s1, s2, s3⟩
                    go_simp
                    with_reducible rfl
                  rotate_left
                  · simp only [Act.put, List.setIfInBounds_toArray, List.set_cons_zero, List.set_cons_succ, i64_w, i32_w]
                    rfl
                  refine one_ (i := 2) (N := some 106) #[true, true, true, true, true, false, false, false] rfl rfl (by kernel_rfl) (by decide) (fun K hK => ?_)
                  refine goes_ Try.func24 (by kernel_rfl) rfl #[.pointer (some ⟨pa, 0, none⟩), .agg #[.int .i64 3, .string ⟨#[109, 101]⟩, .int .i64 by_, .int .i64 se]] (by rfl) rfl rfl (by simp only [List.map_toArray, List.map_cons, List.map_nil]; rfl) ?_
                  with_reducible refine ((HRA.out _ HLA.out)).mono ?_
                  rintro e w5 h5
                  have HG5 := Aside0.mk h5.keepG
                  have HL5 := Aside0.mk h5.2.1
                  have HQ1 := Aside0.mk (show Q < w5.heap.size from Nat.lt_of_lt_of_le HQ0.out HG5.out.size)
                  have k0 : w5.cell? ⟨Q, 0, none⟩ = some (.int .i64 3) := (World.cell?_of_block (HG5.out.block Q HQ0.out (by intro e; injection e with e; have := HQL.out; omega))).trans hHeld.1
                  have k1 : w5.cell? ⟨Q, 1, none⟩ = some (.string ⟨#[109, 101]⟩) := (World.cell?_of_block (HG5.out.block Q HQ0.out (by intro e; injection e with e; have := HQL.out; omega))).trans hHeld.2.1
                  have k2 : w5.cell? ⟨Q, 2, none⟩ = some (.int .i64 by_) := (World.cell?_of_block (HG5.out.block Q HQ0.out (by intro e; injection e with e; have := HQL.out; omega))).trans hHeld.2.2.1
                  have k3 : w5.cell? ⟨Q, 3, none⟩ = some (.int .i64 se) := (World.cell?_of_block (HG5.out.block Q HQ0.out (by intro e; injection e with e; have := HQL.out; omega))).trans hHeld.2.2.2
                  have HB5 := Aside0.mk (HBW.out.grown HG5.out HBW.out.size (fun g hg => by injection hg with hg; rw [← hg]; exact HLO.out.2.1))
                  have HLB5 := Aside0.mk (HLB.out.kept HG5.out (by intro e; injection e with e; have := HLO.out; omega) (by intro e; injection e with e; have := HLO.out; omega))
                  obtain ⟨rfl, _, _⟩ := h5
                  refine ⟨_, rfl, ?_⟩
                  refine hK.out _ _ ⟨k0, k1, k2, k3⟩ (fun hHeld => ?_)
                  clear hK K
                  refine norm_ (a' := ?_) ?_ ?_
                  rotate_left
                  · show Act.put _ (some 106) _ = _
                    simp only [Act.put, List.setIfInBounds_toArray, List.set_cons_zero, List.set_cons_succ, i64_w, i32_w]
                    rfl
                  refine one_ (i := 5) (N := some 109) #[true, true, true, true, true, true, false, false] rfl rfl (by kernel_rfl) (by decide) (fun K hK => ?_)
                  refine goes_ Try.func24 (by kernel_rfl) rfl #[.pointer (some ⟨pb, 0, none⟩), .agg #[.int .i64 3, .string ⟨#[109, 101]⟩, .int .i64 by_, .int .i64 se]] (by rfl) rfl rfl (by simp only [List.map_toArray, List.map_cons, List.map_nil]; rfl) ?_
                  with_reducible refine ((HRB.out _ HLB5.out)).mono ?_
                  rintro e w6 h6
                  have HG6 := Aside0.mk h6.keepG
                  have HL6 := Aside0.mk h6.2.1
                  have HQ2 := Aside0.mk (show Q < w6.heap.size from Nat.lt_of_lt_of_le HQ1.out HG6.out.size)
                  have k0 : w6.cell? ⟨Q, 0, none⟩ = some (.int .i64 3) := (World.cell?_of_block (HG6.out.block Q HQ1.out (by intro e; injection e with e; have := HQL.out; omega))).trans hHeld.1
                  have k1 : w6.cell? ⟨Q, 1, none⟩ = some (.string ⟨#[109, 101]⟩) := (World.cell?_of_block (HG6.out.block Q HQ1.out (by intro e; injection e with e; have := HQL.out; omega))).trans hHeld.2.1
                  have k2 : w6.cell? ⟨Q, 2, none⟩ = some (.int .i64 by_) := (World.cell?_of_block (HG6.out.block Q HQ1.out (by intro e; injection e with e; have := HQL.out; omega))).trans hHeld.2.2.1
                  have k3 : w6.cell? ⟨Q, 3, none⟩ = some (.int .i64 se) := (World.cell?_of_block (HG6.out.block Q HQ1.out (by intro e; injection e with e; have := HQL.out; omega))).trans hHeld.2.2.2
                  have HB6 := Aside0.mk (HB5.out.grown HG6.out HB5.out.size (fun g hg => by injection hg with hg; rw [← hg]; exact HLO.out.2.2.2.1))
                  have HLA6 := Aside0.mk (HL5.out.kept HG6.out (by intro e; injection e with e; have := HLO.out; omega) (by intro e; injection e with e; have := HLO.out; omega))
                  obtain ⟨rfl, _, _⟩ := h6
                  refine ⟨_, rfl, ?_⟩
                  refine hK.out _ _ ⟨k0, k1, k2, k3⟩ (fun hHeld => ?_)
                  clear hK K
                  refine norm_ (a' := ?_) ?_ ?_
                  rotate_left
                  · show Act.put _ (some 109) _ = _
                    simp only [Act.put, List.setIfInBounds_toArray, List.set_cons_zero, List.set_cons_succ, i64_w, i32_w]
                    rfl
                  refine pure_ (i := 6) (N := some 18) (v := ?_) (a' := ?_) #[true, true, true, true, true, true, true, false] rfl rfl (by kernel_rfl) (fun _ _ _ h => h) (Or.inl ⟨by rfl, ?_⟩) ?_ ?_
                  rotate_left
                  · intro w'
                    go_simp
                    with_reducible rfl
                  rotate_left
                  · simp only [Act.put, List.setIfInBounds_toArray, List.set_cons_zero, List.set_cons_succ, i64_w, i32_w]
                    rfl
                  refine pure_ (i := 7) (N := some 19) (v := ?_) (a' := ?_) #[true, true, true, true, true, true, true, true] rfl rfl (by kernel_rfl) (fun _ _ _ h => h) (Or.inl ⟨by rfl, ?_⟩) ?_ ?_
                  rotate_left
                  · intro w'
                    go_simp
                    with_reducible rfl
                  rotate_left
                  · simp only [Act.put, List.setIfInBounds_toArray, List.set_cons_zero, List.set_cons_succ, i64_w, i32_w]
                    rfl
                  refine done_ (by kernel_rfl) ?_
                  have hga := fun W h => qget_calls pa ba 1099511627776 Ma' meS (by decide) W h
                  have hgb := fun W h => qget_calls pb bb 1099511627776 Mb' meS (by decide) W h
                  rw [← HME'.out] at hgb
                  obtain ⟨⟨g1, g2, g3, g4⟩, hg⟩ : ∃ a, a = (getM meS Ma').getD zeroA := ⟨_, rfl⟩
                  obtain ⟨t, ht⟩ : ∃ t, t = (getM meS Ma').isSome := ⟨_, rfl⟩
                  rw [← hg, ← ht] at hga hgb
                  unfold acctV meS at hga hgb
                  have HGTA := Lib.hid hga
                  have HGTB := Lib.hid hgb
                  clear hga hgb hg ht
                  go_wp2_with fail
                  refine (HGTA.out _ HLA6.out).mono ?_
                  rintro e w7 ⟨rfl, h7⟩
                  have HLA7 := Aside0.mk ((HLA6.out.below h7).below ((Below.refl _ _).alloc (Nat.le_refl _) (.cells #[.int .i64 g1, .int .i64 g2, .int .i64 g3, .int .i64 g4] 65)))
                  have HLB7 := Aside0.mk ((HL6.out.below h7).below ((Below.refl _ _).alloc (Nat.le_refl _) (.cells #[.int .i64 g1, .int .i64 g2, .int .i64 g3, .int .i64 g4] 65)))
                  have HB7 := Aside0.mk ((HB6.out.trans (h7.mono HB6.out.size)).alloc (Nat.le_trans HB6.out.size h7.size) (.cells #[.int .i64 g1, .int .i64 g2, .int .i64 g3, .int .i64 g4] 65))
                  clear h7
                  go_wp2_with fail
                  refine (HGTB.out _ HLB7.out).mono ?_
                  rintro e w8 ⟨rfl, h8⟩
                  have v1 : w8.cell? ⟨w7.heap.size, 0, none⟩ = some (.int .i64 g1) := bread h8 (by go_simp)
                  have v2 : w8.cell? ⟨w7.heap.size, 1, none⟩ = some (.int .i64 g2) := bread h8 (by go_simp)
                  have v3 : w8.cell? ⟨w7.heap.size, 2, none⟩ = some (.int .i64 g3) := bread h8 (by go_simp)
                  have v4 : w8.cell? ⟨w7.heap.size, 3, none⟩ = some (.int .i64 g4) := bread h8 (by go_simp)
                  have hz8 : w7.heap.size < w8.heap.size := by have := h8.size; simp at this; omega
                  have HLA8 := Aside0.mk ((HLA7.out.below h8).below ((Below.refl _ _).alloc (Nat.le_refl _) (.cells #[.int .i64 g1, .int .i64 g2, .int .i64 g3, .int .i64 g4] 65)))
                  have HLB8 := Aside0.mk ((HLB7.out.below h8).below ((Below.refl _ _).alloc (Nat.le_refl _) (.cells #[.int .i64 g1, .int .i64 g2, .int .i64 g3, .int .i64 g4] 65)))
                  have HB8 := Aside0.mk ((HB7.out.trans (h8.mono HB7.out.size)).alloc (Nat.le_trans HB7.out.size h8.size) (.cells #[.int .i64 g1, .int .i64 g2, .int .i64 g3, .int .i64 g4] 65))
                  clear h8
                  go_wp2
                  refine ⟨?_, ?measure⟩
                  iterate 70 apply Exists.intro
                  refine ⟨?rel, rfl⟩
                  case rel => exact ⟨j + 1, Ma', Mb', by omega, by simp, HGA', HGB', HME', HLA8, HLB8, HB8⟩
                  case measure => simp [intOf]; omega
                have e3 : (k == 3) = false := beq_eq_false_iff_ne.2 k3
                have e3' : (k != 3) = true := by simp [k3]
                by_cases k5 : k = 5
                · subst k5
                  have HLA0 := HLA1
                  have HLB0 := HLB1
                  have HBW0 := HBW1
                  have x0 : (W.setCell ⟨Q, 1, none⟩ (.string ⟨#[109, 101]⟩)).drew.cell? ⟨Q, 0, none⟩ = some (.int .i64 5) := by go_simp
                  have x1 : (W.setCell ⟨Q, 1, none⟩ (.string ⟨#[109, 101]⟩)).drew.cell? ⟨Q, 1, none⟩ = some (.string ⟨#[109, 101]⟩) := by go_simp
                  have x2 : (W.setCell ⟨Q, 1, none⟩ (.string ⟨#[109, 101]⟩)).drew.cell? ⟨Q, 2, none⟩ = some (.int .i64 by_) := by go_simp
                  have x3 : (W.setCell ⟨Q, 1, none⟩ (.string ⟨#[109, 101]⟩)).drew.cell? ⟨Q, 3, none⟩ = some (.int .i64 se) := by go_simp
                  have HLA := Aside0.mk (show IsLed pa ba 1099511627776 Ma ((W.setCell ⟨Q, 1, none⟩ (.string ⟨#[109, 101]⟩))).drew from HLA0.out.drew)
                  have HLB := Aside0.mk (show IsLed pb bb 1099511627776 Mb ((W.setCell ⟨Q, 1, none⟩ (.string ⟨#[109, 101]⟩))).drew from HLB0.out.drew)
                  have HBW := Aside0.mk (show Below w.heap.size w ((W.setCell ⟨Q, 1, none⟩ (.string ⟨#[109, 101]⟩))).drew from pw_below_drewN HBW0.out 1)
                  have HQ0 := Aside0.mk (show Q < ((W.setCell ⟨Q, 1, none⟩ (.string ⟨#[109, 101]⟩))).drew.heap.size by show Q < ((W.setCell ⟨Q, 1, none⟩ (.string ⟨#[109, 101]⟩))).heap.size; simpa using HQW.out)
                  have hown := runM_own (nb := true) (nb' := true) (cap := 1099511627776) (cap' := 1099511627776) (kd := 5) (s := meS) (by_ := by_) (se := se) (by omega) HME.out
                  obtain ⟨r, hr⟩ : ∃ r, r = (runM true 1099511627776 Ma 5 meS by_ se).1 := ⟨_, rfl⟩
                  obtain ⟨Ma', hMa⟩ : ∃ m, m = (runM true 1099511627776 Ma 5 meS by_ se).2 := ⟨_, rfl⟩
                  obtain ⟨Mb', hMb⟩ : ∃ m, m = (runM true 1099511627776 Mb 5 meS by_ se).2 := ⟨_, rfl⟩
                  have hra := fun W h => qrun_calls pa ba 1099511627776 Ma 5 meS (by decide) by_ se HBY.out HSE.out true right_me W h HGA.out
                  rw [show runM true 1099511627776 Ma 5 meS by_ se = (r, Ma') by rw [hr, hMa]] at hra
                  have hrb := fun W h => qrun_calls pb bb 1099511627776 Mb 5 meS (by decide) by_ se HBY.out HSE.out true right_me W h HGB.out
                  rw [show runM true 1099511627776 Mb 5 meS by_ se = (r, Mb') by rw [hr, hMb, hown.1]] at hrb
                  have HRA := Lib.hid hra
                  have HRB := Lib.hid hrb
                  have HGA' := Aside0.mk (show GoodM 1099511627776 Ma' by rw [hMa]; exact runM_good HGA.out (by decide))
                  have HGB' := Aside0.mk (show GoodM 1099511627776 Mb' by rw [hMb]; exact runM_good HGB.out (by decide))
                  have HME' := Aside0.mk (show getM meS Ma' = getM meS Mb' by rw [hMa, hMb]; exact hown.2)
                  clear hown hr hMa hMb hra hrb
                  unfold meS at HRA HRB
                  go_wp2_with fail
                  refine start_ (n := 8) (S := fun w' => (w'.cell? ⟨Q, 0, none⟩ = some (.int .i64 5)) ∧ (w'.cell? ⟨Q, 1, none⟩ = some (.string ⟨#[109, 101]⟩)) ∧ (w'.cell? ⟨Q, 2, none⟩ = some (.int .i64 by_)) ∧ (w'.cell? ⟨Q, 3, none⟩ = some (.int .i64 se))) (ds := []) #[false, false, false, false, false, false, false, false] (by kernel_rfl) rfl rfl ⟨x0, x1, x2, x3⟩ (fun hHeld => ?_)
                  refine pure_ (i := 0) (N := some 104) (v := ?_) (a' := ?_) #[true, false, false, false, false, false, false, false] rfl rfl (by kernel_rfl) (fun _ _ _ h => h) (Or.inl ⟨by rfl, ?_⟩) ?_ ?_
                  rotate_left
                  · intro w'
                    go_simp
                    with_reducible rfl
                  rotate_left
                  · simp only [Act.put, List.setIfInBounds_toArray, List.set_cons_zero, List.set_cons_succ, i64_w, i32_w]
                    rfl
                  refine pure_ (i := 3) (N := some 107) (v := ?_) (a' := ?_) #[true, false, false, true, false, false, false, false] rfl rfl (by kernel_rfl) (fun _ _ _ h => h) (Or.inl ⟨by rfl, ?_⟩) ?_ ?_
                  rotate_left
                  · intro w'
                    go_simp
                    with_reducible rfl
                  rotate_left
                  · simp only [Act.put, List.setIfInBounds_toArray, List.set_cons_zero, List.set_cons_succ, i64_w, i32_w]
                    rfl
                  refine take_ (i := 1) (N := some 105) (v := ?_) (a' := ?_) #[true, true, false, true, false, false, false, false] rfl rfl (by kernel_rfl) (fun _ _ _ h => h) (Or.inl ⟨by rfl, ?_⟩) hHeld ?_ ?_
                  rotate_left
                  · rintro w' ⟨s0, s1, s2, s3⟩
                    go_simp
                    with_reducible rfl
                  rotate_left
                  · simp only [Act.put, List.setIfInBounds_toArray, List.set_cons_zero, List.set_cons_succ, i64_w, i32_w]
                    rfl
                  refine take_ (i := 4) (N := some 108) (v := ?_) (a' := ?_) #[true, true, false, true, true, false, false, false] rfl rfl (by kernel_rfl) (fun _ _ _ h => h) (Or.inl ⟨by rfl, ?_⟩) hHeld ?_ ?_
                  rotate_left
                  · rintro w' ⟨s0, s1, s2, s3⟩
                    go_simp
                    with_reducible rfl
                  rotate_left
                  · simp only [Act.put, List.setIfInBounds_toArray, List.set_cons_zero, List.set_cons_succ, i64_w, i32_w]
                    rfl
                  refine one_ (i := 2) (N := some 106) #[true, true, true, true, true, false, false, false] rfl rfl (by kernel_rfl) (by decide) (fun K hK => ?_)
                  refine goes_ Try.func24 (by kernel_rfl) rfl #[.pointer (some ⟨pa, 0, none⟩), .agg #[.int .i64 5, .string ⟨#[109, 101]⟩, .int .i64 by_, .int .i64 se]] (by rfl) rfl rfl (by simp only [List.map_toArray, List.map_cons, List.map_nil]; rfl) ?_
                  with_reducible refine ((HRA.out _ HLA.out)).mono ?_
                  rintro e w5 h5
                  have HG5 := Aside0.mk h5.keepG
                  have HL5 := Aside0.mk h5.2.1
                  have HQ1 := Aside0.mk (show Q < w5.heap.size from Nat.lt_of_lt_of_le HQ0.out HG5.out.size)
                  have k0 : w5.cell? ⟨Q, 0, none⟩ = some (.int .i64 5) := (World.cell?_of_block (HG5.out.block Q HQ0.out (by intro e; injection e with e; have := HQL.out; omega))).trans hHeld.1
                  have k1 : w5.cell? ⟨Q, 1, none⟩ = some (.string ⟨#[109, 101]⟩) := (World.cell?_of_block (HG5.out.block Q HQ0.out (by intro e; injection e with e; have := HQL.out; omega))).trans hHeld.2.1
                  have k2 : w5.cell? ⟨Q, 2, none⟩ = some (.int .i64 by_) := (World.cell?_of_block (HG5.out.block Q HQ0.out (by intro e; injection e with e; have := HQL.out; omega))).trans hHeld.2.2.1
                  have k3 : w5.cell? ⟨Q, 3, none⟩ = some (.int .i64 se) := (World.cell?_of_block (HG5.out.block Q HQ0.out (by intro e; injection e with e; have := HQL.out; omega))).trans hHeld.2.2.2
                  have HB5 := Aside0.mk (HBW.out.grown HG5.out HBW.out.size (fun g hg => by injection hg with hg; rw [← hg]; exact HLO.out.2.1))
                  have HLB5 := Aside0.mk (HLB.out.kept HG5.out (by intro e; injection e with e; have := HLO.out; omega) (by intro e; injection e with e; have := HLO.out; omega))
                  obtain ⟨rfl, _, _⟩ := h5
                  refine ⟨_, rfl, ?_⟩
                  refine hK.out _ _ ⟨k0, k1, k2, k3⟩ (fun hHeld => ?_)
                  clear hK K
                  refine norm_ (a' := ?_) ?_ ?_
                  rotate_left
                  · show Act.put _ (some 106) _ = _
                    simp only [Act.put, List.setIfInBounds_toArray, List.set_cons_zero, List.set_cons_succ, i64_w, i32_w]
                    rfl
                  refine one_ (i := 5) (N := some 109) #[true, true, true, true, true, true, false, false] rfl rfl (by kernel_rfl) (by decide) (fun K hK => ?_)
                  refine goes_ Try.func24 (by kernel_rfl) rfl #[.pointer (some ⟨pb, 0, none⟩), .agg #[.int .i64 5, .string ⟨#[109, 101]⟩, .int .i64 by_, .int .i64 se]] (by rfl) rfl rfl (by simp only [List.map_toArray, List.map_cons, List.map_nil]; rfl) ?_
                  with_reducible refine ((HRB.out _ HLB5.out)).mono ?_
                  rintro e w6 h6
                  have HG6 := Aside0.mk h6.keepG
                  have HL6 := Aside0.mk h6.2.1
                  have HQ2 := Aside0.mk (show Q < w6.heap.size from Nat.lt_of_lt_of_le HQ1.out HG6.out.size)
                  have k0 : w6.cell? ⟨Q, 0, none⟩ = some (.int .i64 5) := (World.cell?_of_block (HG6.out.block Q HQ1.out (by intro e; injection e with e; have := HQL.out; omega))).trans hHeld.1
                  have k1 : w6.cell? ⟨Q, 1, none⟩ = some (.string ⟨#[109, 101]⟩) := (World.cell?_of_block (HG6.out.block Q HQ1.out (by intro e; injection e with e; have := HQL.out; omega))).trans hHeld.2.1
                  have k2 : w6.cell? ⟨Q, 2, none⟩ = some (.int .i64 by_) := (World.cell?_of_block (HG6.out.block Q HQ1.out (by intro e; injection e with e; have := HQL.out; omega))).trans hHeld.2.2.1
                  have k3 : w6.cell? ⟨Q, 3, none⟩ = some (.int .i64 se) := (World.cell?_of_block (HG6.out.block Q HQ1.out (by intro e; injection e with e; have := HQL.out; omega))).trans hHeld.2.2.2
                  have HB6 := Aside0.mk (HB5.out.grown HG6.out HB5.out.size (fun g hg => by injection hg with hg; rw [← hg]; exact HLO.out.2.2.2.1))
                  have HLA6 := Aside0.mk (HL5.out.kept HG6.out (by intro e; injection e with e; have := HLO.out; omega) (by intro e; injection e with e; have := HLO.out; omega))
                  obtain ⟨rfl, _, _⟩ := h6
                  refine ⟨_, rfl, ?_⟩
                  refine hK.out _ _ ⟨k0, k1, k2, k3⟩ (fun hHeld => ?_)
                  clear hK K
                  refine norm_ (a' := ?_) ?_ ?_
                  rotate_left
                  · show Act.put _ (some 109) _ = _
                    simp only [Act.put, List.setIfInBounds_toArray, List.set_cons_zero, List.set_cons_succ, i64_w, i32_w]
                    rfl
                  refine pure_ (i := 6) (N := some 18) (v := ?_) (a' := ?_) #[true, true, true, true, true, true, true, false] rfl rfl (by kernel_rfl) (fun _ _ _ h => h) (Or.inl ⟨by rfl, ?_⟩) ?_ ?_
                  rotate_left
                  · intro w'
                    go_simp
                    with_reducible rfl
                  rotate_left
                  · simp only [Act.put, List.setIfInBounds_toArray, List.set_cons_zero, List.set_cons_succ, i64_w, i32_w]
                    rfl
                  refine pure_ (i := 7) (N := some 19) (v := ?_) (a' := ?_) #[true, true, true, true, true, true, true, true] rfl rfl (by kernel_rfl) (fun _ _ _ h => h) (Or.inl ⟨by rfl, ?_⟩) ?_ ?_
                  rotate_left
                  · intro w'
                    go_simp
                    with_reducible rfl
                  rotate_left
                  · simp only [Act.put, List.setIfInBounds_toArray, List.set_cons_zero, List.set_cons_succ, i64_w, i32_w]
                    rfl
                  refine done_ (by kernel_rfl) ?_
                  have hga := fun W h => qget_calls pa ba 1099511627776 Ma' meS (by decide) W h
                  have hgb := fun W h => qget_calls pb bb 1099511627776 Mb' meS (by decide) W h
                  rw [← HME'.out] at hgb
                  obtain ⟨⟨g1, g2, g3, g4⟩, hg⟩ : ∃ a, a = (getM meS Ma').getD zeroA := ⟨_, rfl⟩
                  obtain ⟨t, ht⟩ : ∃ t, t = (getM meS Ma').isSome := ⟨_, rfl⟩
                  rw [← hg, ← ht] at hga hgb
                  unfold acctV meS at hga hgb
                  have HGTA := Lib.hid hga
                  have HGTB := Lib.hid hgb
                  clear hga hgb hg ht
                  go_wp2_with fail
                  refine (HGTA.out _ HLA6.out).mono ?_
                  rintro e w7 ⟨rfl, h7⟩
                  have HLA7 := Aside0.mk ((HLA6.out.below h7).below ((Below.refl _ _).alloc (Nat.le_refl _) (.cells #[.int .i64 g1, .int .i64 g2, .int .i64 g3, .int .i64 g4] 65)))
                  have HLB7 := Aside0.mk ((HL6.out.below h7).below ((Below.refl _ _).alloc (Nat.le_refl _) (.cells #[.int .i64 g1, .int .i64 g2, .int .i64 g3, .int .i64 g4] 65)))
                  have HB7 := Aside0.mk ((HB6.out.trans (h7.mono HB6.out.size)).alloc (Nat.le_trans HB6.out.size h7.size) (.cells #[.int .i64 g1, .int .i64 g2, .int .i64 g3, .int .i64 g4] 65))
                  clear h7
                  go_wp2_with fail
                  refine (HGTB.out _ HLB7.out).mono ?_
                  rintro e w8 ⟨rfl, h8⟩
                  have v1 : w8.cell? ⟨w7.heap.size, 0, none⟩ = some (.int .i64 g1) := bread h8 (by go_simp)
                  have v2 : w8.cell? ⟨w7.heap.size, 1, none⟩ = some (.int .i64 g2) := bread h8 (by go_simp)
                  have v3 : w8.cell? ⟨w7.heap.size, 2, none⟩ = some (.int .i64 g3) := bread h8 (by go_simp)
                  have v4 : w8.cell? ⟨w7.heap.size, 3, none⟩ = some (.int .i64 g4) := bread h8 (by go_simp)
                  have hz8 : w7.heap.size < w8.heap.size := by have := h8.size; simp at this; omega
                  have HLA8 := Aside0.mk ((HLA7.out.below h8).below ((Below.refl _ _).alloc (Nat.le_refl _) (.cells #[.int .i64 g1, .int .i64 g2, .int .i64 g3, .int .i64 g4] 65)))
                  have HLB8 := Aside0.mk ((HLB7.out.below h8).below ((Below.refl _ _).alloc (Nat.le_refl _) (.cells #[.int .i64 g1, .int .i64 g2, .int .i64 g3, .int .i64 g4] 65)))
                  have HB8 := Aside0.mk ((HB7.out.trans (h8.mono HB7.out.size)).alloc (Nat.le_trans HB7.out.size h8.size) (.cells #[.int .i64 g1, .int .i64 g2, .int .i64 g3, .int .i64 g4] 65))
                  clear h8
                  go_wp2
                  refine ⟨?_, ?measure⟩
                  iterate 70 apply Exists.intro
                  refine ⟨?rel, rfl⟩
                  case rel => exact ⟨j + 1, Ma', Mb', by omega, by simp, HGA', HGB', HME', HLA8, HLB8, HB8⟩
                  case measure => simp [intOf]; omega
                have e5 : (k == 5) = false := beq_eq_false_iff_ne.2 k5
                have e5' : (k != 5) = true := by simp [k5]
                have HLA0 := Aside0.mk (HLA1.out.setCell (q := ⟨Q, 0, none⟩) (by have := HQL.out; show Q ≠ pa; omega) (by have := HQL.out; show Q ≠ ba; omega) (.int .i64 4))
                have HLB0 := Aside0.mk (HLB1.out.setCell (q := ⟨Q, 0, none⟩) (by have := HQL.out; show Q ≠ pb; omega) (by have := HQL.out; show Q ≠ bb; omega) (.int .i64 4))
                have HBW0 := Aside0.mk (HBW1.out.setCell (p := ⟨Q, 0, none⟩) HWQ.out (.int .i64 4))
                clear k3 k5
                have x0 : ((W.setCell ⟨Q, 1, none⟩ (.string ⟨#[109, 101]⟩)).setCell ⟨Q, 0, none⟩ (.int .i64 4)).drew.cell? ⟨Q, 0, none⟩ = some (.int .i64 4) := by go_simp
                have x1 : ((W.setCell ⟨Q, 1, none⟩ (.string ⟨#[109, 101]⟩)).setCell ⟨Q, 0, none⟩ (.int .i64 4)).drew.cell? ⟨Q, 1, none⟩ = some (.string ⟨#[109, 101]⟩) := by go_simp
                have x2 : ((W.setCell ⟨Q, 1, none⟩ (.string ⟨#[109, 101]⟩)).setCell ⟨Q, 0, none⟩ (.int .i64 4)).drew.cell? ⟨Q, 2, none⟩ = some (.int .i64 by_) := by go_simp
                have x3 : ((W.setCell ⟨Q, 1, none⟩ (.string ⟨#[109, 101]⟩)).setCell ⟨Q, 0, none⟩ (.int .i64 4)).drew.cell? ⟨Q, 3, none⟩ = some (.int .i64 se) := by go_simp
                have HLA := Aside0.mk (show IsLed pa ba 1099511627776 Ma (((W.setCell ⟨Q, 1, none⟩ (.string ⟨#[109, 101]⟩)).setCell ⟨Q, 0, none⟩ (.int .i64 4))).drew from HLA0.out.drew)
                have HLB := Aside0.mk (show IsLed pb bb 1099511627776 Mb (((W.setCell ⟨Q, 1, none⟩ (.string ⟨#[109, 101]⟩)).setCell ⟨Q, 0, none⟩ (.int .i64 4))).drew from HLB0.out.drew)
                have HBW := Aside0.mk (show Below w.heap.size w (((W.setCell ⟨Q, 1, none⟩ (.string ⟨#[109, 101]⟩)).setCell ⟨Q, 0, none⟩ (.int .i64 4))).drew from pw_below_drewN HBW0.out 1)
                have HQ0 := Aside0.mk (show Q < (((W.setCell ⟨Q, 1, none⟩ (.string ⟨#[109, 101]⟩)).setCell ⟨Q, 0, none⟩ (.int .i64 4))).drew.heap.size by show Q < (((W.setCell ⟨Q, 1, none⟩ (.string ⟨#[109, 101]⟩)).setCell ⟨Q, 0, none⟩ (.int .i64 4))).heap.size; simpa using HQW.out)
                have hown := runM_own (nb := true) (nb' := true) (cap := 1099511627776) (cap' := 1099511627776) (kd := 4) (s := meS) (by_ := by_) (se := se) (by omega) HME.out
                obtain ⟨r, hr⟩ : ∃ r, r = (runM true 1099511627776 Ma 4 meS by_ se).1 := ⟨_, rfl⟩
                obtain ⟨Ma', hMa⟩ : ∃ m, m = (runM true 1099511627776 Ma 4 meS by_ se).2 := ⟨_, rfl⟩
                obtain ⟨Mb', hMb⟩ : ∃ m, m = (runM true 1099511627776 Mb 4 meS by_ se).2 := ⟨_, rfl⟩
                have hra := fun W h => qrun_calls pa ba 1099511627776 Ma 4 meS (by decide) by_ se HBY.out HSE.out true right_me W h HGA.out
                rw [show runM true 1099511627776 Ma 4 meS by_ se = (r, Ma') by rw [hr, hMa]] at hra
                have hrb := fun W h => qrun_calls pb bb 1099511627776 Mb 4 meS (by decide) by_ se HBY.out HSE.out true right_me W h HGB.out
                rw [show runM true 1099511627776 Mb 4 meS by_ se = (r, Mb') by rw [hr, hMb, hown.1]] at hrb
                have HRA := Lib.hid hra
                have HRB := Lib.hid hrb
                have HGA' := Aside0.mk (show GoodM 1099511627776 Ma' by rw [hMa]; exact runM_good HGA.out (by decide))
                have HGB' := Aside0.mk (show GoodM 1099511627776 Mb' by rw [hMb]; exact runM_good HGB.out (by decide))
                have HME' := Aside0.mk (show getM meS Ma' = getM meS Mb' by rw [hMa, hMb]; exact hown.2)
                clear hown hr hMa hMb hra hrb
                unfold meS at HRA HRB
                go_wp2_with fail
                refine start_ (n := 8) (S := fun w' => (w'.cell? ⟨Q, 0, none⟩ = some (.int .i64 4)) ∧ (w'.cell? ⟨Q, 1, none⟩ = some (.string ⟨#[109, 101]⟩)) ∧ (w'.cell? ⟨Q, 2, none⟩ = some (.int .i64 by_)) ∧ (w'.cell? ⟨Q, 3, none⟩ = some (.int .i64 se))) (ds := []) #[false, false, false, false, false, false, false, false] (by kernel_rfl) rfl rfl ⟨x0, x1, x2, x3⟩ (fun hHeld => ?_)
                refine pure_ (i := 0) (N := some 104) (v := ?_) (a' := ?_) #[true, false, false, false, false, false, false, false] rfl rfl (by kernel_rfl) (fun _ _ _ h => h) (Or.inl ⟨by rfl, ?_⟩) ?_ ?_
                rotate_left
                · intro w'
                  go_simp
                  with_reducible rfl
                rotate_left
                · simp only [Act.put, List.setIfInBounds_toArray, List.set_cons_zero, List.set_cons_succ, i64_w, i32_w]
                  rfl
                refine pure_ (i := 3) (N := some 107) (v := ?_) (a' := ?_) #[true, false, false, true, false, false, false, false] rfl rfl (by kernel_rfl) (fun _ _ _ h => h) (Or.inl ⟨by rfl, ?_⟩) ?_ ?_
                rotate_left
                · intro w'
                  go_simp
                  with_reducible rfl
                rotate_left
                · simp only [Act.put, List.setIfInBounds_toArray, List.set_cons_zero, List.set_cons_succ, i64_w, i32_w]
                  rfl
                refine take_ (i := 1) (N := some 105) (v := ?_) (a' := ?_) #[true, true, false, true, false, false, false, false] rfl rfl (by kernel_rfl) (fun _ _ _ h => h) (Or.inl ⟨by rfl, ?_⟩) hHeld ?_ ?_
                rotate_left
                · rintro w' ⟨s0, s1, s2, s3⟩
                  go_simp
                  with_reducible rfl
                rotate_left
                · simp only [Act.put, List.setIfInBounds_toArray, List.set_cons_zero, List.set_cons_succ, i64_w, i32_w]
                  rfl
                refine take_ (i := 4) (N := some 108) (v := ?_) (a' := ?_) #[true, true, false, true, true, false, false, false] rfl rfl (by kernel_rfl) (fun _ _ _ h => h) (Or.inl ⟨by rfl, ?_⟩) hHeld ?_ ?_
                rotate_left
                · rintro w' ⟨s0, s1, s2, s3⟩
                  go_simp
                  with_reducible rfl
                rotate_left
                · simp only [Act.put, List.setIfInBounds_toArray, List.set_cons_zero, List.set_cons_succ, i64_w, i32_w]
                  rfl
                refine one_ (i := 2) (N := some 106) #[true, true, true, true, true, false, false, false] rfl rfl (by kernel_rfl) (by decide) (fun K hK => ?_)
                refine goes_ Try.func24 (by kernel_rfl) rfl #[.pointer (some ⟨pa, 0, none⟩), .agg #[.int .i64 4, .string ⟨#[109, 101]⟩, .int .i64 by_, .int .i64 se]] (by rfl) rfl rfl (by simp only [List.map_toArray, List.map_cons, List.map_nil]; rfl) ?_
                with_reducible refine ((HRA.out _ HLA.out)).mono ?_
                rintro e w5 h5
                have HG5 := Aside0.mk h5.keepG
                have HL5 := Aside0.mk h5.2.1
                have HQ1 := Aside0.mk (show Q < w5.heap.size from Nat.lt_of_lt_of_le HQ0.out HG5.out.size)
                have k0 : w5.cell? ⟨Q, 0, none⟩ = some (.int .i64 4) := (World.cell?_of_block (HG5.out.block Q HQ0.out (by intro e; injection e with e; have := HQL.out; omega))).trans hHeld.1
                have k1 : w5.cell? ⟨Q, 1, none⟩ = some (.string ⟨#[109, 101]⟩) := (World.cell?_of_block (HG5.out.block Q HQ0.out (by intro e; injection e with e; have := HQL.out; omega))).trans hHeld.2.1
                have k2 : w5.cell? ⟨Q, 2, none⟩ = some (.int .i64 by_) := (World.cell?_of_block (HG5.out.block Q HQ0.out (by intro e; injection e with e; have := HQL.out; omega))).trans hHeld.2.2.1
                have k3 : w5.cell? ⟨Q, 3, none⟩ = some (.int .i64 se) := (World.cell?_of_block (HG5.out.block Q HQ0.out (by intro e; injection e with e; have := HQL.out; omega))).trans hHeld.2.2.2
                have HB5 := Aside0.mk (HBW.out.grown HG5.out HBW.out.size (fun g hg => by injection hg with hg; rw [← hg]; exact HLO.out.2.1))
                have HLB5 := Aside0.mk (HLB.out.kept HG5.out (by intro e; injection e with e; have := HLO.out; omega) (by intro e; injection e with e; have := HLO.out; omega))
                obtain ⟨rfl, _, _⟩ := h5
                refine ⟨_, rfl, ?_⟩
                refine hK.out _ _ ⟨k0, k1, k2, k3⟩ (fun hHeld => ?_)
                clear hK K
                refine norm_ (a' := ?_) ?_ ?_
                rotate_left
                · show Act.put _ (some 106) _ = _
                  simp only [Act.put, List.setIfInBounds_toArray, List.set_cons_zero, List.set_cons_succ, i64_w, i32_w]
                  rfl
                refine one_ (i := 5) (N := some 109) #[true, true, true, true, true, true, false, false] rfl rfl (by kernel_rfl) (by decide) (fun K hK => ?_)
                refine goes_ Try.func24 (by kernel_rfl) rfl #[.pointer (some ⟨pb, 0, none⟩), .agg #[.int .i64 4, .string ⟨#[109, 101]⟩, .int .i64 by_, .int .i64 se]] (by rfl) rfl rfl (by simp only [List.map_toArray, List.map_cons, List.map_nil]; rfl) ?_
                with_reducible refine ((HRB.out _ HLB5.out)).mono ?_
                rintro e w6 h6
                have HG6 := Aside0.mk h6.keepG
                have HL6 := Aside0.mk h6.2.1
                have HQ2 := Aside0.mk (show Q < w6.heap.size from Nat.lt_of_lt_of_le HQ1.out HG6.out.size)
                have k0 : w6.cell? ⟨Q, 0, none⟩ = some (.int .i64 4) := (World.cell?_of_block (HG6.out.block Q HQ1.out (by intro e; injection e with e; have := HQL.out; omega))).trans hHeld.1
                have k1 : w6.cell? ⟨Q, 1, none⟩ = some (.string ⟨#[109, 101]⟩) := (World.cell?_of_block (HG6.out.block Q HQ1.out (by intro e; injection e with e; have := HQL.out; omega))).trans hHeld.2.1
                have k2 : w6.cell? ⟨Q, 2, none⟩ = some (.int .i64 by_) := (World.cell?_of_block (HG6.out.block Q HQ1.out (by intro e; injection e with e; have := HQL.out; omega))).trans hHeld.2.2.1
                have k3 : w6.cell? ⟨Q, 3, none⟩ = some (.int .i64 se) := (World.cell?_of_block (HG6.out.block Q HQ1.out (by intro e; injection e with e; have := HQL.out; omega))).trans hHeld.2.2.2
                have HB6 := Aside0.mk (HB5.out.grown HG6.out HB5.out.size (fun g hg => by injection hg with hg; rw [← hg]; exact HLO.out.2.2.2.1))
                have HLA6 := Aside0.mk (HL5.out.kept HG6.out (by intro e; injection e with e; have := HLO.out; omega) (by intro e; injection e with e; have := HLO.out; omega))
                obtain ⟨rfl, _, _⟩ := h6
                refine ⟨_, rfl, ?_⟩
                refine hK.out _ _ ⟨k0, k1, k2, k3⟩ (fun hHeld => ?_)
                clear hK K
                refine norm_ (a' := ?_) ?_ ?_
                rotate_left
                · show Act.put _ (some 109) _ = _
                  simp only [Act.put, List.setIfInBounds_toArray, List.set_cons_zero, List.set_cons_succ, i64_w, i32_w]
                  rfl
                refine pure_ (i := 6) (N := some 18) (v := ?_) (a' := ?_) #[true, true, true, true, true, true, true, false] rfl rfl (by kernel_rfl) (fun _ _ _ h => h) (Or.inl ⟨by rfl, ?_⟩) ?_ ?_
                rotate_left
                · intro w'
                  go_simp
                  with_reducible rfl
                rotate_left
                · simp only [Act.put, List.setIfInBounds_toArray, List.set_cons_zero, List.set_cons_succ, i64_w, i32_w]
                  rfl
                refine pure_ (i := 7) (N := some 19) (v := ?_) (a' := ?_) #[true, true, true, true, true, true, true, true] rfl rfl (by kernel_rfl) (fun _ _ _ h => h) (Or.inl ⟨by rfl, ?_⟩) ?_ ?_
                rotate_left
                · intro w'
                  go_simp
                  with_reducible rfl
                rotate_left
                · simp only [Act.put, List.setIfInBounds_toArray, List.set_cons_zero, List.set_cons_succ, i64_w, i32_w]
                  rfl
                refine done_ (by kernel_rfl) ?_
                have hga := fun W h => qget_calls pa ba 1099511627776 Ma' meS (by decide) W h
                have hgb := fun W h => qget_calls pb bb 1099511627776 Mb' meS (by decide) W h
                rw [← HME'.out] at hgb
                obtain ⟨⟨g1, g2, g3, g4⟩, hg⟩ : ∃ a, a = (getM meS Ma').getD zeroA := ⟨_, rfl⟩
                obtain ⟨t, ht⟩ : ∃ t, t = (getM meS Ma').isSome := ⟨_, rfl⟩
                rw [← hg, ← ht] at hga hgb
                unfold acctV meS at hga hgb
                have HGTA := Lib.hid hga
                have HGTB := Lib.hid hgb
                clear hga hgb hg ht
                go_wp2_with fail
                refine (HGTA.out _ HLA6.out).mono ?_
                rintro e w7 ⟨rfl, h7⟩
                have HLA7 := Aside0.mk ((HLA6.out.below h7).below ((Below.refl _ _).alloc (Nat.le_refl _) (.cells #[.int .i64 g1, .int .i64 g2, .int .i64 g3, .int .i64 g4] 65)))
                have HLB7 := Aside0.mk ((HL6.out.below h7).below ((Below.refl _ _).alloc (Nat.le_refl _) (.cells #[.int .i64 g1, .int .i64 g2, .int .i64 g3, .int .i64 g4] 65)))
                have HB7 := Aside0.mk ((HB6.out.trans (h7.mono HB6.out.size)).alloc (Nat.le_trans HB6.out.size h7.size) (.cells #[.int .i64 g1, .int .i64 g2, .int .i64 g3, .int .i64 g4] 65))
                clear h7
                go_wp2_with fail
                refine (HGTB.out _ HLB7.out).mono ?_
                rintro e w8 ⟨rfl, h8⟩
                have v1 : w8.cell? ⟨w7.heap.size, 0, none⟩ = some (.int .i64 g1) := bread h8 (by go_simp)
                have v2 : w8.cell? ⟨w7.heap.size, 1, none⟩ = some (.int .i64 g2) := bread h8 (by go_simp)
                have v3 : w8.cell? ⟨w7.heap.size, 2, none⟩ = some (.int .i64 g3) := bread h8 (by go_simp)
                have v4 : w8.cell? ⟨w7.heap.size, 3, none⟩ = some (.int .i64 g4) := bread h8 (by go_simp)
                have hz8 : w7.heap.size < w8.heap.size := by have := h8.size; simp at this; omega
                have HLA8 := Aside0.mk ((HLA7.out.below h8).below ((Below.refl _ _).alloc (Nat.le_refl _) (.cells #[.int .i64 g1, .int .i64 g2, .int .i64 g3, .int .i64 g4] 65)))
                have HLB8 := Aside0.mk ((HLB7.out.below h8).below ((Below.refl _ _).alloc (Nat.le_refl _) (.cells #[.int .i64 g1, .int .i64 g2, .int .i64 g3, .int .i64 g4] 65)))
                have HB8 := Aside0.mk ((HB7.out.trans (h8.mono HB7.out.size)).alloc (Nat.le_trans HB7.out.size h8.size) (.cells #[.int .i64 g1, .int .i64 g2, .int .i64 g3, .int .i64 g4] 65))
                clear h8
                go_wp2
                refine ⟨?_, ?measure⟩
                iterate 70 apply Exists.intro
                refine ⟨?rel, rfl⟩
                case rel => exact ⟨j + 1, Ma', Mb', by omega, by simp, HGA', HGB', HME', HLA8, HLB8, HB8⟩
                case measure => simp [intOf]; omega
            · have d4 : decide (60 < (ys.size : Int)) = true := decide_eq_true (by omega)
              go_wp2
              go_ret
              exact ⟨rfl, HB.out.trans (HBY2.out.mono HB.out.size)⟩
          · have e9 : decide ((j : Int) < (m.length : Int)) = false := decide_eq_false (by omega)
            clear hcell hx hcx hxw
            go_upto_region 20 with (fail)
            obtain ⟨W, hW⟩ : ∃ W, W = wr.alloc (.cells #[.int .i64 k, .string s, .int .i64 by_, .int .i64 se] 61) := ⟨_, rfl⟩
            rw [← hW] at HBKX HLAX HLBX HBWX HQX ⊢
            rw [← hQ]
            have HBK := HBKX
            have HLAW := HLAX
            have HLBW := HLBX
            have HBWW := HBWX
            have HQW := HQX
            clear hW hQ HBX HLAR HLBR HB u0 u1 u2 u3
            have y0 := blk_cell HBK.out 0
            have y1 := blk_cell HBK.out 1
            have y2 := blk_cell HBK.out 2
            have y3 := blk_cell HBK.out 3
            simp only [List.getElem?_toArray, List.getElem?_cons_zero, List.getElem?_cons_succ] at y0 y1 y2 y3
            have z0 := blk_frozen HBK.out 0
            have z1 := blk_frozen HBK.out 1
            have HBK1 := Aside0.mk (blk_set HBK.out 1 (.string ⟨#[109, 101]⟩))
            have HLA1 := Aside0.mk (HLAW.out.setCell (q := ⟨Q, 1, none⟩) (by have := HQL.out; show Q ≠ pa; omega) (by have := HQL.out; show Q ≠ ba; omega) (.string ⟨#[109, 101]⟩))
            have HLB1 := Aside0.mk (HLBW.out.setCell (q := ⟨Q, 1, none⟩) (by have := HQL.out; show Q ≠ pb; omega) (by have := HQL.out; show Q ≠ bb; omega) (.string ⟨#[109, 101]⟩))
            have HBW1 := Aside0.mk (HBWW.out.setCell (p := ⟨Q, 1, none⟩) HWQ.out (.string ⟨#[109, 101]⟩))
            by_cases k3 : k = 3
            · subst k3
              have HLA0 := HLA1
              have HLB0 := HLB1
              have HBW0 := HBW1
              have x0 : (W.setCell ⟨Q, 1, none⟩ (.string ⟨#[109, 101]⟩)).drew.cell? ⟨Q, 0, none⟩ = some (.int .i64 3) := by go_simp
              have x1 : (W.setCell ⟨Q, 1, none⟩ (.string ⟨#[109, 101]⟩)).drew.cell? ⟨Q, 1, none⟩ = some (.string ⟨#[109, 101]⟩) := by go_simp
              have x2 : (W.setCell ⟨Q, 1, none⟩ (.string ⟨#[109, 101]⟩)).drew.cell? ⟨Q, 2, none⟩ = some (.int .i64 by_) := by go_simp
              have x3 : (W.setCell ⟨Q, 1, none⟩ (.string ⟨#[109, 101]⟩)).drew.cell? ⟨Q, 3, none⟩ = some (.int .i64 se) := by go_simp
              have HLA := Aside0.mk (show IsLed pa ba 1099511627776 Ma ((W.setCell ⟨Q, 1, none⟩ (.string ⟨#[109, 101]⟩))).drew from HLA0.out.drew)
              have HLB := Aside0.mk (show IsLed pb bb 1099511627776 Mb ((W.setCell ⟨Q, 1, none⟩ (.string ⟨#[109, 101]⟩))).drew from HLB0.out.drew)
              have HBW := Aside0.mk (show Below w.heap.size w ((W.setCell ⟨Q, 1, none⟩ (.string ⟨#[109, 101]⟩))).drew from pw_below_drewN HBW0.out 1)
              have HQ0 := Aside0.mk (show Q < ((W.setCell ⟨Q, 1, none⟩ (.string ⟨#[109, 101]⟩))).drew.heap.size by show Q < ((W.setCell ⟨Q, 1, none⟩ (.string ⟨#[109, 101]⟩))).heap.size; simpa using HQW.out)
              have hown := runM_own (nb := true) (nb' := true) (cap := 1099511627776) (cap' := 1099511627776) (kd := 3) (s := meS) (by_ := by_) (se := se) (by omega) HME.out
              obtain ⟨r, hr⟩ : ∃ r, r = (runM true 1099511627776 Ma 3 meS by_ se).1 := ⟨_, rfl⟩
              obtain ⟨Ma', hMa⟩ : ∃ m, m = (runM true 1099511627776 Ma 3 meS by_ se).2 := ⟨_, rfl⟩
              obtain ⟨Mb', hMb⟩ : ∃ m, m = (runM true 1099511627776 Mb 3 meS by_ se).2 := ⟨_, rfl⟩
              have hra := fun W h => qrun_calls pa ba 1099511627776 Ma 3 meS (by decide) by_ se HBY.out HSE.out true right_me W h HGA.out
              rw [show runM true 1099511627776 Ma 3 meS by_ se = (r, Ma') by rw [hr, hMa]] at hra
              have hrb := fun W h => qrun_calls pb bb 1099511627776 Mb 3 meS (by decide) by_ se HBY.out HSE.out true right_me W h HGB.out
              rw [show runM true 1099511627776 Mb 3 meS by_ se = (r, Mb') by rw [hr, hMb, hown.1]] at hrb
              have HRA := Lib.hid hra
              have HRB := Lib.hid hrb
              have HGA' := Aside0.mk (show GoodM 1099511627776 Ma' by rw [hMa]; exact runM_good HGA.out (by decide))
              have HGB' := Aside0.mk (show GoodM 1099511627776 Mb' by rw [hMb]; exact runM_good HGB.out (by decide))
              have HME' := Aside0.mk (show getM meS Ma' = getM meS Mb' by rw [hMa, hMb]; exact hown.2)
              clear hown hr hMa hMb hra hrb
              unfold meS at HRA HRB
              go_wp2_with fail
              refine start_ (n := 8) (S := fun w' => (w'.cell? ⟨Q, 0, none⟩ = some (.int .i64 3)) ∧ (w'.cell? ⟨Q, 1, none⟩ = some (.string ⟨#[109, 101]⟩)) ∧ (w'.cell? ⟨Q, 2, none⟩ = some (.int .i64 by_)) ∧ (w'.cell? ⟨Q, 3, none⟩ = some (.int .i64 se))) (ds := []) #[false, false, false, false, false, false, false, false] (by kernel_rfl) rfl rfl ⟨x0, x1, x2, x3⟩ (fun hHeld => ?_)
              refine pure_ (i := 0) (N := some 104) (v := ?_) (a' := ?_) #[true, false, false, false, false, false, false, false] rfl rfl (by kernel_rfl) (fun _ _ _ h => h) (Or.inl ⟨by rfl, ?_⟩) ?_ ?_
              rotate_left
              · intro w'
                go_simp
                with_reducible rfl
              rotate_left
              · simp only [Act.put, List.setIfInBounds_toArray, List.set_cons_zero, List.set_cons_succ, i64_w, i32_w]
                rfl
              refine pure_ (i := 3) (N := some 107) (v := ?_) (a' := ?_) #[true, false, false, true, false, false, false, false] rfl rfl (by kernel_rfl) (fun _ _ _ h => h) (Or.inl ⟨by rfl, ?_⟩) ?_ ?_
              rotate_left
              · intro w'
                go_simp
                with_reducible rfl
              rotate_left
              · simp only [Act.put, List.setIfInBounds_toArray, List.set_cons_zero, List.set_cons_succ, i64_w, i32_w]
                rfl
              refine take_ (i := 1) (N := some 105) (v := ?_) (a' := ?_) #[true, true, false, true, false, false, false, false] rfl rfl (by kernel_rfl) (fun _ _ _ h => h) (Or.inl ⟨by rfl, ?_⟩) hHeld ?_ ?_
              rotate_left
              · rintro w' ⟨s0, s1, s2, s3⟩
                go_simp
                with_reducible rfl
              rotate_left
              · simp only [Act.put, List.setIfInBounds_toArray, List.set_cons_zero, List.set_cons_succ, i64_w, i32_w]
                rfl
              refine take_ (i := 4) (N := some 108) (v := ?_) (a' := ?_) #[true, true, false, true, true, false, false, false] rfl rfl (by kernel_rfl) (fun _ _ _ h => h) (Or.inl ⟨by rfl, ?_⟩) hHeld ?_ ?_
              rotate_left
              · rintro w' ⟨s0, s1, s2, s3⟩
                go_simp
                with_reducible rfl
              rotate_left
              · simp only [Act.put, List.setIfInBounds_toArray, List.set_cons_zero, List.set_cons_succ, i64_w, i32_w]
                rfl
              refine one_ (i := 2) (N := some 106) #[true, true, true, true, true, false, false, false] rfl rfl (by kernel_rfl) (by decide) (fun K hK => ?_)
              refine goes_ Try.func24 (by kernel_rfl) rfl #[.pointer (some ⟨pa, 0, none⟩), .agg #[.int .i64 3, .string ⟨#[109, 101]⟩, .int .i64 by_, .int .i64 se]] (by rfl) rfl rfl (by simp only [List.map_toArray, List.map_cons, List.map_nil]; rfl) ?_
              with_reducible refine ((HRA.out _ HLA.out)).mono ?_
              rintro e w5 h5
              have HG5 := Aside0.mk h5.keepG
              have HL5 := Aside0.mk h5.2.1
              have HQ1 := Aside0.mk (show Q < w5.heap.size from Nat.lt_of_lt_of_le HQ0.out HG5.out.size)
              have k0 : w5.cell? ⟨Q, 0, none⟩ = some (.int .i64 3) := (World.cell?_of_block (HG5.out.block Q HQ0.out (by intro e; injection e with e; have := HQL.out; omega))).trans hHeld.1
              have k1 : w5.cell? ⟨Q, 1, none⟩ = some (.string ⟨#[109, 101]⟩) := (World.cell?_of_block (HG5.out.block Q HQ0.out (by intro e; injection e with e; have := HQL.out; omega))).trans hHeld.2.1
              have k2 : w5.cell? ⟨Q, 2, none⟩ = some (.int .i64 by_) := (World.cell?_of_block (HG5.out.block Q HQ0.out (by intro e; injection e with e; have := HQL.out; omega))).trans hHeld.2.2.1
              have k3 : w5.cell? ⟨Q, 3, none⟩ = some (.int .i64 se) := (World.cell?_of_block (HG5.out.block Q HQ0.out (by intro e; injection e with e; have := HQL.out; omega))).trans hHeld.2.2.2
              have HB5 := Aside0.mk (HBW.out.grown HG5.out HBW.out.size (fun g hg => by injection hg with hg; rw [← hg]; exact HLO.out.2.1))
              have HLB5 := Aside0.mk (HLB.out.kept HG5.out (by intro e; injection e with e; have := HLO.out; omega) (by intro e; injection e with e; have := HLO.out; omega))
              obtain ⟨rfl, _, _⟩ := h5
              refine ⟨_, rfl, ?_⟩
              refine hK.out _ _ ⟨k0, k1, k2, k3⟩ (fun hHeld => ?_)
              clear hK K
              refine norm_ (a' := ?_) ?_ ?_
              rotate_left
              · show Act.put _ (some 106) _ = _
                simp only [Act.put, List.setIfInBounds_toArray, List.set_cons_zero, List.set_cons_succ, i64_w, i32_w]
                rfl
              refine one_ (i := 5) (N := some 109) #[true, true, true, true, true, true, false, false] rfl rfl (by kernel_rfl) (by decide) (fun K hK => ?_)
              refine goes_ Try.func24 (by kernel_rfl) rfl #[.pointer (some ⟨pb, 0, none⟩), .agg #[.int .i64 3, .string ⟨#[109, 101]⟩, .int .i64 by_, .int .i64 se]] (by rfl) rfl rfl (by simp only [List.map_toArray, List.map_cons, List.map_nil]; rfl) ?_
              with_reducible refine ((HRB.out _ HLB5.out)).mono ?_
              rintro e w6 h6
              have HG6 := Aside0.mk h6.keepG
              have HL6 := Aside0.mk h6.2.1
              have HQ2 := Aside0.mk (show Q < w6.heap.size from Nat.lt_of_lt_of_le HQ1.out HG6.out.size)
              have k0 : w6.cell? ⟨Q, 0, none⟩ = some (.int .i64 3) := (World.cell?_of_block (HG6.out.block Q HQ1.out (by intro e; injection e with e; have := HQL.out; omega))).trans hHeld.1
              have k1 : w6.cell? ⟨Q, 1, none⟩ = some (.string ⟨#[109, 101]⟩) := (World.cell?_of_block (HG6.out.block Q HQ1.out (by intro e; injection e with e; have := HQL.out; omega))).trans hHeld.2.1
              have k2 : w6.cell? ⟨Q, 2, none⟩ = some (.int .i64 by_) := (World.cell?_of_block (HG6.out.block Q HQ1.out (by intro e; injection e with e; have := HQL.out; omega))).trans hHeld.2.2.1
              have k3 : w6.cell? ⟨Q, 3, none⟩ = some (.int .i64 se) := (World.cell?_of_block (HG6.out.block Q HQ1.out (by intro e; injection e with e; have := HQL.out; omega))).trans hHeld.2.2.2
              have HB6 := Aside0.mk (HB5.out.grown HG6.out HB5.out.size (fun g hg => by injection hg with hg; rw [← hg]; exact HLO.out.2.2.2.1))
              have HLA6 := Aside0.mk (HL5.out.kept HG6.out (by intro e; injection e with e; have := HLO.out; omega) (by intro e; injection e with e; have := HLO.out; omega))
              obtain ⟨rfl, _, _⟩ := h6
              refine ⟨_, rfl, ?_⟩
              refine hK.out _ _ ⟨k0, k1, k2, k3⟩ (fun hHeld => ?_)
              clear hK K
              refine norm_ (a' := ?_) ?_ ?_
              rotate_left
              · show Act.put _ (some 109) _ = _
                simp only [Act.put, List.setIfInBounds_toArray, List.set_cons_zero, List.set_cons_succ, i64_w, i32_w]
                rfl
              refine pure_ (i := 6) (N := some 18) (v := ?_) (a' := ?_) #[true, true, true, true, true, true, true, false] rfl rfl (by kernel_rfl) (fun _ _ _ h => h) (Or.inl ⟨by rfl, ?_⟩) ?_ ?_
              rotate_left
              · intro w'
                go_simp
                with_reducible rfl
              rotate_left
              · simp only [Act.put, List.setIfInBounds_toArray, List.set_cons_zero, List.set_cons_succ, i64_w, i32_w]
                rfl
              refine pure_ (i := 7) (N := some 19) (v := ?_) (a' := ?_) #[true, true, true, true, true, true, true, true] rfl rfl (by kernel_rfl) (fun _ _ _ h => h) (Or.inl ⟨by rfl, ?_⟩) ?_ ?_
              rotate_left
              · intro w'
                go_simp
                with_reducible rfl
              rotate_left
              · simp only [Act.put, List.setIfInBounds_toArray, List.set_cons_zero, List.set_cons_succ, i64_w, i32_w]
                rfl
              refine done_ (by kernel_rfl) ?_
              have hga := fun W h => qget_calls pa ba 1099511627776 Ma' meS (by decide) W h
              have hgb := fun W h => qget_calls pb bb 1099511627776 Mb' meS (by decide) W h
              rw [← HME'.out] at hgb
              obtain ⟨⟨g1, g2, g3, g4⟩, hg⟩ : ∃ a, a = (getM meS Ma').getD zeroA := ⟨_, rfl⟩
              obtain ⟨t, ht⟩ : ∃ t, t = (getM meS Ma').isSome := ⟨_, rfl⟩
              rw [← hg, ← ht] at hga hgb
              unfold acctV meS at hga hgb
              have HGTA := Lib.hid hga
              have HGTB := Lib.hid hgb
              clear hga hgb hg ht
              go_wp2_with fail
              refine (HGTA.out _ HLA6.out).mono ?_
              rintro e w7 ⟨rfl, h7⟩
              have HLA7 := Aside0.mk ((HLA6.out.below h7).below ((Below.refl _ _).alloc (Nat.le_refl _) (.cells #[.int .i64 g1, .int .i64 g2, .int .i64 g3, .int .i64 g4] 65)))
              have HLB7 := Aside0.mk ((HL6.out.below h7).below ((Below.refl _ _).alloc (Nat.le_refl _) (.cells #[.int .i64 g1, .int .i64 g2, .int .i64 g3, .int .i64 g4] 65)))
              have HB7 := Aside0.mk ((HB6.out.trans (h7.mono HB6.out.size)).alloc (Nat.le_trans HB6.out.size h7.size) (.cells #[.int .i64 g1, .int .i64 g2, .int .i64 g3, .int .i64 g4] 65))
              clear h7
              go_wp2_with fail
              refine (HGTB.out _ HLB7.out).mono ?_
              rintro e w8 ⟨rfl, h8⟩
              have v1 : w8.cell? ⟨w7.heap.size, 0, none⟩ = some (.int .i64 g1) := bread h8 (by go_simp)
              have v2 : w8.cell? ⟨w7.heap.size, 1, none⟩ = some (.int .i64 g2) := bread h8 (by go_simp)
              have v3 : w8.cell? ⟨w7.heap.size, 2, none⟩ = some (.int .i64 g3) := bread h8 (by go_simp)
              have v4 : w8.cell? ⟨w7.heap.size, 3, none⟩ = some (.int .i64 g4) := bread h8 (by go_simp)
              have hz8 : w7.heap.size < w8.heap.size := by have := h8.size; simp at this; omega
              have HLA8 := Aside0.mk ((HLA7.out.below h8).below ((Below.refl _ _).alloc (Nat.le_refl _) (.cells #[.int .i64 g1, .int .i64 g2, .int .i64 g3, .int .i64 g4] 65)))
              have HLB8 := Aside0.mk ((HLB7.out.below h8).below ((Below.refl _ _).alloc (Nat.le_refl _) (.cells #[.int .i64 g1, .int .i64 g2, .int .i64 g3, .int .i64 g4] 65)))
              have HB8 := Aside0.mk ((HB7.out.trans (h8.mono HB7.out.size)).alloc (Nat.le_trans HB7.out.size h8.size) (.cells #[.int .i64 g1, .int .i64 g2, .int .i64 g3, .int .i64 g4] 65))
              clear h8
              go_wp2
              refine ⟨?_, ?measure⟩
              iterate 70 apply Exists.intro
              refine ⟨?rel, rfl⟩
              case rel => exact ⟨j + 1, Ma', Mb', by omega, by simp, HGA', HGB', HME', HLA8, HLB8, HB8⟩
              case measure => simp [intOf]; omega
            have e3 : (k == 3) = false := beq_eq_false_iff_ne.2 k3
            have e3' : (k != 3) = true := by simp [k3]
            by_cases k5 : k = 5
            · subst k5
              have HLA0 := HLA1
              have HLB0 := HLB1
              have HBW0 := HBW1
              have x0 : (W.setCell ⟨Q, 1, none⟩ (.string ⟨#[109, 101]⟩)).drew.cell? ⟨Q, 0, none⟩ = some (.int .i64 5) := by go_simp
              have x1 : (W.setCell ⟨Q, 1, none⟩ (.string ⟨#[109, 101]⟩)).drew.cell? ⟨Q, 1, none⟩ = some (.string ⟨#[109, 101]⟩) := by go_simp
              have x2 : (W.setCell ⟨Q, 1, none⟩ (.string ⟨#[109, 101]⟩)).drew.cell? ⟨Q, 2, none⟩ = some (.int .i64 by_) := by go_simp
              have x3 : (W.setCell ⟨Q, 1, none⟩ (.string ⟨#[109, 101]⟩)).drew.cell? ⟨Q, 3, none⟩ = some (.int .i64 se) := by go_simp
              have HLA := Aside0.mk (show IsLed pa ba 1099511627776 Ma ((W.setCell ⟨Q, 1, none⟩ (.string ⟨#[109, 101]⟩))).drew from HLA0.out.drew)
              have HLB := Aside0.mk (show IsLed pb bb 1099511627776 Mb ((W.setCell ⟨Q, 1, none⟩ (.string ⟨#[109, 101]⟩))).drew from HLB0.out.drew)
              have HBW := Aside0.mk (show Below w.heap.size w ((W.setCell ⟨Q, 1, none⟩ (.string ⟨#[109, 101]⟩))).drew from pw_below_drewN HBW0.out 1)
              have HQ0 := Aside0.mk (show Q < ((W.setCell ⟨Q, 1, none⟩ (.string ⟨#[109, 101]⟩))).drew.heap.size by show Q < ((W.setCell ⟨Q, 1, none⟩ (.string ⟨#[109, 101]⟩))).heap.size; simpa using HQW.out)
              have hown := runM_own (nb := true) (nb' := true) (cap := 1099511627776) (cap' := 1099511627776) (kd := 5) (s := meS) (by_ := by_) (se := se) (by omega) HME.out
              obtain ⟨r, hr⟩ : ∃ r, r = (runM true 1099511627776 Ma 5 meS by_ se).1 := ⟨_, rfl⟩
              obtain ⟨Ma', hMa⟩ : ∃ m, m = (runM true 1099511627776 Ma 5 meS by_ se).2 := ⟨_, rfl⟩
              obtain ⟨Mb', hMb⟩ : ∃ m, m = (runM true 1099511627776 Mb 5 meS by_ se).2 := ⟨_, rfl⟩
              have hra := fun W h => qrun_calls pa ba 1099511627776 Ma 5 meS (by decide) by_ se HBY.out HSE.out true right_me W h HGA.out
              rw [show runM true 1099511627776 Ma 5 meS by_ se = (r, Ma') by rw [hr, hMa]] at hra
              have hrb := fun W h => qrun_calls pb bb 1099511627776 Mb 5 meS (by decide) by_ se HBY.out HSE.out true right_me W h HGB.out
              rw [show runM true 1099511627776 Mb 5 meS by_ se = (r, Mb') by rw [hr, hMb, hown.1]] at hrb
              have HRA := Lib.hid hra
              have HRB := Lib.hid hrb
              have HGA' := Aside0.mk (show GoodM 1099511627776 Ma' by rw [hMa]; exact runM_good HGA.out (by decide))
              have HGB' := Aside0.mk (show GoodM 1099511627776 Mb' by rw [hMb]; exact runM_good HGB.out (by decide))
              have HME' := Aside0.mk (show getM meS Ma' = getM meS Mb' by rw [hMa, hMb]; exact hown.2)
              clear hown hr hMa hMb hra hrb
              unfold meS at HRA HRB
              go_wp2_with fail
              refine start_ (n := 8) (S := fun w' => (w'.cell? ⟨Q, 0, none⟩ = some (.int .i64 5)) ∧ (w'.cell? ⟨Q, 1, none⟩ = some (.string ⟨#[109, 101]⟩)) ∧ (w'.cell? ⟨Q, 2, none⟩ = some (.int .i64 by_)) ∧ (w'.cell? ⟨Q, 3, none⟩ = some (.int .i64 se))) (ds := []) #[false, false, false, false, false, false, false, false] (by kernel_rfl) rfl rfl ⟨x0, x1, x2, x3⟩ (fun hHeld => ?_)
              refine pure_ (i := 0) (N := some 104) (v := ?_) (a' := ?_) #[true, false, false, false, false, false, false, false] rfl rfl (by kernel_rfl) (fun _ _ _ h => h) (Or.inl ⟨by rfl, ?_⟩) ?_ ?_
              rotate_left
              · intro w'
                go_simp
                with_reducible rfl
              rotate_left
              · simp only [Act.put, List.setIfInBounds_toArray, List.set_cons_zero, List.set_cons_succ, i64_w, i32_w]
                rfl
              refine pure_ (i := 3) (N := some 107) (v := ?_) (a' := ?_) #[true, false, false, true, false, false, false, false] rfl rfl (by kernel_rfl) (fun _ _ _ h => h) (Or.inl ⟨by rfl, ?_⟩) ?_ ?_
              rotate_left
              · intro w'
                go_simp
                with_reducible rfl
              rotate_left
              · simp only [Act.put, List.setIfInBounds_toArray, List.set_cons_zero, List.set_cons_succ, i64_w, i32_w]
                rfl
              refine take_ (i := 1) (N := some 105) (v := ?_) (a' := ?_) #[true, true, false, true, false, false, false, false] rfl rfl (by kernel_rfl) (fun _ _ _ h => h) (Or.inl ⟨by rfl, ?_⟩) hHeld ?_ ?_
              rotate_left
              · rintro w' ⟨s0, s1, s2, s3⟩
                go_simp
                with_reducible rfl
              rotate_left
              · simp only [Act.put, List.setIfInBounds_toArray, List.set_cons_zero, List.set_cons_succ, i64_w, i32_w]
                rfl
              refine take_ (i := 4) (N := some 108) (v := ?_) (a' := ?_) #[true, true, false, true, true, false, false, false] rfl rfl (by kernel_rfl) (fun _ _ _ h => h) (Or.inl ⟨by rfl, ?_⟩) hHeld ?_ ?_
              rotate_left
              · rintro w' ⟨s0, s1, s2, s3⟩
                go_simp
                with_reducible rfl
              rotate_left
              · simp only [Act.put, List.setIfInBounds_toArray, List.set_cons_zero, List.set_cons_succ, i64_w, i32_w]
                rfl
              refine one_ (i := 2) (N := some 106) #[true, true, true, true, true, false, false, false] rfl rfl (by kernel_rfl) (by decide) (fun K hK => ?_)
              refine goes_ Try.func24 (by kernel_rfl) rfl #[.pointer (some ⟨pa, 0, none⟩), .agg #[.int .i64 5, .string ⟨#[109, 101]⟩, .int .i64 by_, .int .i64 se]] (by rfl) rfl rfl (by simp only [List.map_toArray, List.map_cons, List.map_nil]; rfl) ?_
              with_reducible refine ((HRA.out _ HLA.out)).mono ?_
              rintro e w5 h5
              have HG5 := Aside0.mk h5.keepG
              have HL5 := Aside0.mk h5.2.1
              have HQ1 := Aside0.mk (show Q < w5.heap.size from Nat.lt_of_lt_of_le HQ0.out HG5.out.size)
              have k0 : w5.cell? ⟨Q, 0, none⟩ = some (.int .i64 5) := (World.cell?_of_block (HG5.out.block Q HQ0.out (by intro e; injection e with e; have := HQL.out; omega))).trans hHeld.1
              have k1 : w5.cell? ⟨Q, 1, none⟩ = some (.string ⟨#[109, 101]⟩) := (World.cell?_of_block (HG5.out.block Q HQ0.out (by intro e; injection e with e; have := HQL.out; omega))).trans hHeld.2.1
              have k2 : w5.cell? ⟨Q, 2, none⟩ = some (.int .i64 by_) := (World.cell?_of_block (HG5.out.block Q HQ0.out (by intro e; injection e with e; have := HQL.out; omega))).trans hHeld.2.2.1
              have k3 : w5.cell? ⟨Q, 3, none⟩ = some (.int .i64 se) := (World.cell?_of_block (HG5.out.block Q HQ0.out (by intro e; injection e with e; have := HQL.out; omega))).trans hHeld.2.2.2
              have HB5 := Aside0.mk (HBW.out.grown HG5.out HBW.out.size (fun g hg => by injection hg with hg; rw [← hg]; exact HLO.out.2.1))
              have HLB5 := Aside0.mk (HLB.out.kept HG5.out (by intro e; injection e with e; have := HLO.out; omega) (by intro e; injection e with e; have := HLO.out; omega))
              obtain ⟨rfl, _, _⟩ := h5
              refine ⟨_, rfl, ?_⟩
              refine hK.out _ _ ⟨k0, k1, k2, k3⟩ (fun hHeld => ?_)
              clear hK K
              refine norm_ (a' := ?_) ?_ ?_
              rotate_left
              · show Act.put _ (some 106) _ = _
                simp only [Act.put, List.setIfInBounds_toArray, List.set_cons_zero, List.set_cons_succ, i64_w, i32_w]
                rfl
              refine one_ (i := 5) (N := some 109) #[true, true, true, true, true, true, false, false] rfl rfl (by kernel_rfl) (by decide) (fun K hK => ?_)
              refine goes_ Try.func24 (by kernel_rfl) rfl #[.pointer (some ⟨pb, 0, none⟩), .agg #[.int .i64 5, .string ⟨#[109, 101]⟩, .int .i64 by_, .int .i64 se]] (by rfl) rfl rfl (by simp only [List.map_toArray, List.map_cons, List.map_nil]; rfl) ?_
              with_reducible refine ((HRB.out _ HLB5.out)).mono ?_
              rintro e w6 h6
              have HG6 := Aside0.mk h6.keepG
              have HL6 := Aside0.mk h6.2.1
              have HQ2 := Aside0.mk (show Q < w6.heap.size from Nat.lt_of_lt_of_le HQ1.out HG6.out.size)
              have k0 : w6.cell? ⟨Q, 0, none⟩ = some (.int .i64 5) := (World.cell?_of_block (HG6.out.block Q HQ1.out (by intro e; injection e with e; have := HQL.out; omega))).trans hHeld.1
              have k1 : w6.cell? ⟨Q, 1, none⟩ = some (.string ⟨#[109, 101]⟩) := (World.cell?_of_block (HG6.out.block Q HQ1.out (by intro e; injection e with e; have := HQL.out; omega))).trans hHeld.2.1
              have k2 : w6.cell? ⟨Q, 2, none⟩ = some (.int .i64 by_) := (World.cell?_of_block (HG6.out.block Q HQ1.out (by intro e; injection e with e; have := HQL.out; omega))).trans hHeld.2.2.1
              have k3 : w6.cell? ⟨Q, 3, none⟩ = some (.int .i64 se) := (World.cell?_of_block (HG6.out.block Q HQ1.out (by intro e; injection e with e; have := HQL.out; omega))).trans hHeld.2.2.2
              have HB6 := Aside0.mk (HB5.out.grown HG6.out HB5.out.size (fun g hg => by injection hg with hg; rw [← hg]; exact HLO.out.2.2.2.1))
              have HLA6 := Aside0.mk (HL5.out.kept HG6.out (by intro e; injection e with e; have := HLO.out; omega) (by intro e; injection e with e; have := HLO.out; omega))
              obtain ⟨rfl, _, _⟩ := h6
              refine ⟨_, rfl, ?_⟩
              refine hK.out _ _ ⟨k0, k1, k2, k3⟩ (fun hHeld => ?_)
              clear hK K
              refine norm_ (a' := ?_) ?_ ?_
              rotate_left
              · show Act.put _ (some 109) _ = _
                simp only [Act.put, List.setIfInBounds_toArray, List.set_cons_zero, List.set_cons_succ, i64_w, i32_w]
                rfl
              refine pure_ (i := 6) (N := some 18) (v := ?_) (a' := ?_) #[true, true, true, true, true, true, true, false] rfl rfl (by kernel_rfl) (fun _ _ _ h => h) (Or.inl ⟨by rfl, ?_⟩) ?_ ?_
              rotate_left
              · intro w'
                go_simp
                with_reducible rfl
              rotate_left
              · simp only [Act.put, List.setIfInBounds_toArray, List.set_cons_zero, List.set_cons_succ, i64_w, i32_w]
                rfl
              refine pure_ (i := 7) (N := some 19) (v := ?_) (a' := ?_) #[true, true, true, true, true, true, true, true] rfl rfl (by kernel_rfl) (fun _ _ _ h => h) (Or.inl ⟨by rfl, ?_⟩) ?_ ?_
              rotate_left
              · intro w'
                go_simp
                with_reducible rfl
              rotate_left
              · simp only [Act.put, List.setIfInBounds_toArray, List.set_cons_zero, List.set_cons_succ, i64_w, i32_w]
                rfl
              refine done_ (by kernel_rfl) ?_
              have hga := fun W h => qget_calls pa ba 1099511627776 Ma' meS (by decide) W h
              have hgb := fun W h => qget_calls pb bb 1099511627776 Mb' meS (by decide) W h
              rw [← HME'.out] at hgb
              obtain ⟨⟨g1, g2, g3, g4⟩, hg⟩ : ∃ a, a = (getM meS Ma').getD zeroA := ⟨_, rfl⟩
              obtain ⟨t, ht⟩ : ∃ t, t = (getM meS Ma').isSome := ⟨_, rfl⟩
              rw [← hg, ← ht] at hga hgb
              unfold acctV meS at hga hgb
              have HGTA := Lib.hid hga
              have HGTB := Lib.hid hgb
              clear hga hgb hg ht
              go_wp2_with fail
              refine (HGTA.out _ HLA6.out).mono ?_
              rintro e w7 ⟨rfl, h7⟩
              have HLA7 := Aside0.mk ((HLA6.out.below h7).below ((Below.refl _ _).alloc (Nat.le_refl _) (.cells #[.int .i64 g1, .int .i64 g2, .int .i64 g3, .int .i64 g4] 65)))
              have HLB7 := Aside0.mk ((HL6.out.below h7).below ((Below.refl _ _).alloc (Nat.le_refl _) (.cells #[.int .i64 g1, .int .i64 g2, .int .i64 g3, .int .i64 g4] 65)))
              have HB7 := Aside0.mk ((HB6.out.trans (h7.mono HB6.out.size)).alloc (Nat.le_trans HB6.out.size h7.size) (.cells #[.int .i64 g1, .int .i64 g2, .int .i64 g3, .int .i64 g4] 65))
              clear h7
              go_wp2_with fail
              refine (HGTB.out _ HLB7.out).mono ?_
              rintro e w8 ⟨rfl, h8⟩
              have v1 : w8.cell? ⟨w7.heap.size, 0, none⟩ = some (.int .i64 g1) := bread h8 (by go_simp)
              have v2 : w8.cell? ⟨w7.heap.size, 1, none⟩ = some (.int .i64 g2) := bread h8 (by go_simp)
              have v3 : w8.cell? ⟨w7.heap.size, 2, none⟩ = some (.int .i64 g3) := bread h8 (by go_simp)
              have v4 : w8.cell? ⟨w7.heap.size, 3, none⟩ = some (.int .i64 g4) := bread h8 (by go_simp)
              have hz8 : w7.heap.size < w8.heap.size := by have := h8.size; simp at this; omega
              have HLA8 := Aside0.mk ((HLA7.out.below h8).below ((Below.refl _ _).alloc (Nat.le_refl _) (.cells #[.int .i64 g1, .int .i64 g2, .int .i64 g3, .int .i64 g4] 65)))
              have HLB8 := Aside0.mk ((HLB7.out.below h8).below ((Below.refl _ _).alloc (Nat.le_refl _) (.cells #[.int .i64 g1, .int .i64 g2, .int .i64 g3, .int .i64 g4] 65)))
              have HB8 := Aside0.mk ((HB7.out.trans (h8.mono HB7.out.size)).alloc (Nat.le_trans HB7.out.size h8.size) (.cells #[.int .i64 g1, .int .i64 g2, .int .i64 g3, .int .i64 g4] 65))
              clear h8
              go_wp2
              refine ⟨?_, ?measure⟩
              iterate 70 apply Exists.intro
              refine ⟨?rel, rfl⟩
              case rel => exact ⟨j + 1, Ma', Mb', by omega, by simp, HGA', HGB', HME', HLA8, HLB8, HB8⟩
              case measure => simp [intOf]; omega
            have e5 : (k == 5) = false := beq_eq_false_iff_ne.2 k5
            have e5' : (k != 5) = true := by simp [k5]
            have HLA0 := Aside0.mk (HLA1.out.setCell (q := ⟨Q, 0, none⟩) (by have := HQL.out; show Q ≠ pa; omega) (by have := HQL.out; show Q ≠ ba; omega) (.int .i64 4))
            have HLB0 := Aside0.mk (HLB1.out.setCell (q := ⟨Q, 0, none⟩) (by have := HQL.out; show Q ≠ pb; omega) (by have := HQL.out; show Q ≠ bb; omega) (.int .i64 4))
            have HBW0 := Aside0.mk (HBW1.out.setCell (p := ⟨Q, 0, none⟩) HWQ.out (.int .i64 4))
            clear k3 k5
            have x0 : ((W.setCell ⟨Q, 1, none⟩ (.string ⟨#[109, 101]⟩)).setCell ⟨Q, 0, none⟩ (.int .i64 4)).drew.cell? ⟨Q, 0, none⟩ = some (.int .i64 4) := by go_simp
            have x1 : ((W.setCell ⟨Q, 1, none⟩ (.string ⟨#[109, 101]⟩)).setCell ⟨Q, 0, none⟩ (.int .i64 4)).drew.cell? ⟨Q, 1, none⟩ = some (.string ⟨#[109, 101]⟩) := by go_simp
            have x2 : ((W.setCell ⟨Q, 1, none⟩ (.string ⟨#[109, 101]⟩)).setCell ⟨Q, 0, none⟩ (.int .i64 4)).drew.cell? ⟨Q, 2, none⟩ = some (.int .i64 by_) := by go_simp
            have x3 : ((W.setCell ⟨Q, 1, none⟩ (.string ⟨#[109, 101]⟩)).setCell ⟨Q, 0, none⟩ (.int .i64 4)).drew.cell? ⟨Q, 3, none⟩ = some (.int .i64 se) := by go_simp
            have HLA := Aside0.mk (show IsLed pa ba 1099511627776 Ma (((W.setCell ⟨Q, 1, none⟩ (.string ⟨#[109, 101]⟩)).setCell ⟨Q, 0, none⟩ (.int .i64 4))).drew from HLA0.out.drew)
            have HLB := Aside0.mk (show IsLed pb bb 1099511627776 Mb (((W.setCell ⟨Q, 1, none⟩ (.string ⟨#[109, 101]⟩)).setCell ⟨Q, 0, none⟩ (.int .i64 4))).drew from HLB0.out.drew)
            have HBW := Aside0.mk (show Below w.heap.size w (((W.setCell ⟨Q, 1, none⟩ (.string ⟨#[109, 101]⟩)).setCell ⟨Q, 0, none⟩ (.int .i64 4))).drew from pw_below_drewN HBW0.out 1)
            have HQ0 := Aside0.mk (show Q < (((W.setCell ⟨Q, 1, none⟩ (.string ⟨#[109, 101]⟩)).setCell ⟨Q, 0, none⟩ (.int .i64 4))).drew.heap.size by show Q < (((W.setCell ⟨Q, 1, none⟩ (.string ⟨#[109, 101]⟩)).setCell ⟨Q, 0, none⟩ (.int .i64 4))).heap.size; simpa using HQW.out)
            have hown := runM_own (nb := true) (nb' := true) (cap := 1099511627776) (cap' := 1099511627776) (kd := 4) (s := meS) (by_ := by_) (se := se) (by omega) HME.out
            obtain ⟨r, hr⟩ : ∃ r, r = (runM true 1099511627776 Ma 4 meS by_ se).1 := ⟨_, rfl⟩
            obtain ⟨Ma', hMa⟩ : ∃ m, m = (runM true 1099511627776 Ma 4 meS by_ se).2 := ⟨_, rfl⟩
            obtain ⟨Mb', hMb⟩ : ∃ m, m = (runM true 1099511627776 Mb 4 meS by_ se).2 := ⟨_, rfl⟩
            have hra := fun W h => qrun_calls pa ba 1099511627776 Ma 4 meS (by decide) by_ se HBY.out HSE.out true right_me W h HGA.out
            rw [show runM true 1099511627776 Ma 4 meS by_ se = (r, Ma') by rw [hr, hMa]] at hra
            have hrb := fun W h => qrun_calls pb bb 1099511627776 Mb 4 meS (by decide) by_ se HBY.out HSE.out true right_me W h HGB.out
            rw [show runM true 1099511627776 Mb 4 meS by_ se = (r, Mb') by rw [hr, hMb, hown.1]] at hrb
            have HRA := Lib.hid hra
            have HRB := Lib.hid hrb
            have HGA' := Aside0.mk (show GoodM 1099511627776 Ma' by rw [hMa]; exact runM_good HGA.out (by decide))
            have HGB' := Aside0.mk (show GoodM 1099511627776 Mb' by rw [hMb]; exact runM_good HGB.out (by decide))
            have HME' := Aside0.mk (show getM meS Ma' = getM meS Mb' by rw [hMa, hMb]; exact hown.2)
            clear hown hr hMa hMb hra hrb
            unfold meS at HRA HRB
            go_wp2_with fail
            refine start_ (n := 8) (S := fun w' => (w'.cell? ⟨Q, 0, none⟩ = some (.int .i64 4)) ∧ (w'.cell? ⟨Q, 1, none⟩ = some (.string ⟨#[109, 101]⟩)) ∧ (w'.cell? ⟨Q, 2, none⟩ = some (.int .i64 by_)) ∧ (w'.cell? ⟨Q, 3, none⟩ = some (.int .i64 se))) (ds := []) #[false, false, false, false, false, false, false, false] (by kernel_rfl) rfl rfl ⟨x0, x1, x2, x3⟩ (fun hHeld => ?_)
            refine pure_ (i := 0) (N := some 104) (v := ?_) (a' := ?_) #[true, false, false, false, false, false, false, false] rfl rfl (by kernel_rfl) (fun _ _ _ h => h) (Or.inl ⟨by rfl, ?_⟩) ?_ ?_
            rotate_left
            · intro w'
              go_simp
              with_reducible rfl
            rotate_left
            · simp only [Act.put, List.setIfInBounds_toArray, List.set_cons_zero, List.set_cons_succ, i64_w, i32_w]
              rfl
            refine pure_ (i := 3) (N := some 107) (v := ?_) (a' := ?_) #[true, false, false, true, false, false, false, false] rfl rfl (by kernel_rfl) (fun _ _ _ h => h) (Or.inl ⟨by rfl, ?_⟩) ?_ ?_
            rotate_left
            · intro w'
              go_simp
              with_reducible rfl
            rotate_left
            · simp only [Act.put, List.setIfInBounds_toArray, List.set_cons_zero, List.set_cons_succ, i64_w, i32_w]
              rfl
            refine take_ (i := 1) (N := some 105) (v := ?_) (a' := ?_) #[true, true, false, true, false, false, false, false] rfl rfl (by kernel_rfl) (fun _ _ _ h => h) (Or.inl ⟨by rfl, ?_⟩) hHeld ?_ ?_
            rotate_left
            · rintro w' ⟨s0, s1, s2, s3⟩
              go_simp
              with_reducible rfl
            rotate_left
            · simp only [Act.put, List.setIfInBounds_toArray, List.set_cons_zero, List.set_cons_succ, i64_w, i32_w]
              rfl
            refine take_ (i := 4) (N := some 108) (v := ?_) (a' := ?_) #[true, true, false, true, true, false, false, false] rfl rfl (by kernel_rfl) (fun _ _ _ h => h) (Or.inl ⟨by rfl, ?_⟩) hHeld ?_ ?_
            rotate_left
            · rintro w' ⟨s0, s1, s2, s3⟩
              go_simp
              with_reducible rfl
            rotate_left
            · simp only [Act.put, List.setIfInBounds_toArray, List.set_cons_zero, List.set_cons_succ, i64_w, i32_w]
              rfl
            refine one_ (i := 2) (N := some 106) #[true, true, true, true, true, false, false, false] rfl rfl (by kernel_rfl) (by decide) (fun K hK => ?_)
            refine goes_ Try.func24 (by kernel_rfl) rfl #[.pointer (some ⟨pa, 0, none⟩), .agg #[.int .i64 4, .string ⟨#[109, 101]⟩, .int .i64 by_, .int .i64 se]] (by rfl) rfl rfl (by simp only [List.map_toArray, List.map_cons, List.map_nil]; rfl) ?_
            with_reducible refine ((HRA.out _ HLA.out)).mono ?_
            rintro e w5 h5
            have HG5 := Aside0.mk h5.keepG
            have HL5 := Aside0.mk h5.2.1
            have HQ1 := Aside0.mk (show Q < w5.heap.size from Nat.lt_of_lt_of_le HQ0.out HG5.out.size)
            have k0 : w5.cell? ⟨Q, 0, none⟩ = some (.int .i64 4) := (World.cell?_of_block (HG5.out.block Q HQ0.out (by intro e; injection e with e; have := HQL.out; omega))).trans hHeld.1
            have k1 : w5.cell? ⟨Q, 1, none⟩ = some (.string ⟨#[109, 101]⟩) := (World.cell?_of_block (HG5.out.block Q HQ0.out (by intro e; injection e with e; have := HQL.out; omega))).trans hHeld.2.1
            have k2 : w5.cell? ⟨Q, 2, none⟩ = some (.int .i64 by_) := (World.cell?_of_block (HG5.out.block Q HQ0.out (by intro e; injection e with e; have := HQL.out; omega))).trans hHeld.2.2.1
            have k3 : w5.cell? ⟨Q, 3, none⟩ = some (.int .i64 se) := (World.cell?_of_block (HG5.out.block Q HQ0.out (by intro e; injection e with e; have := HQL.out; omega))).trans hHeld.2.2.2
            have HB5 := Aside0.mk (HBW.out.grown HG5.out HBW.out.size (fun g hg => by injection hg with hg; rw [← hg]; exact HLO.out.2.1))
            have HLB5 := Aside0.mk (HLB.out.kept HG5.out (by intro e; injection e with e; have := HLO.out; omega) (by intro e; injection e with e; have := HLO.out; omega))
            obtain ⟨rfl, _, _⟩ := h5
            refine ⟨_, rfl, ?_⟩
            refine hK.out _ _ ⟨k0, k1, k2, k3⟩ (fun hHeld => ?_)
            clear hK K
            refine norm_ (a' := ?_) ?_ ?_
            rotate_left
            · show Act.put _ (some 106) _ = _
              simp only [Act.put, List.setIfInBounds_toArray, List.set_cons_zero, List.set_cons_succ, i64_w, i32_w]
              rfl
            refine one_ (i := 5) (N := some 109) #[true, true, true, true, true, true, false, false] rfl rfl (by kernel_rfl) (by decide) (fun K hK => ?_)
            refine goes_ Try.func24 (by kernel_rfl) rfl #[.pointer (some ⟨pb, 0, none⟩), .agg #[.int .i64 4, .string ⟨#[109, 101]⟩, .int .i64 by_, .int .i64 se]] (by rfl) rfl rfl (by simp only [List.map_toArray, List.map_cons, List.map_nil]; rfl) ?_
            with_reducible refine ((HRB.out _ HLB5.out)).mono ?_
            rintro e w6 h6
            have HG6 := Aside0.mk h6.keepG
            have HL6 := Aside0.mk h6.2.1
            have HQ2 := Aside0.mk (show Q < w6.heap.size from Nat.lt_of_lt_of_le HQ1.out HG6.out.size)
            have k0 : w6.cell? ⟨Q, 0, none⟩ = some (.int .i64 4) := (World.cell?_of_block (HG6.out.block Q HQ1.out (by intro e; injection e with e; have := HQL.out; omega))).trans hHeld.1
            have k1 : w6.cell? ⟨Q, 1, none⟩ = some (.string ⟨#[109, 101]⟩) := (World.cell?_of_block (HG6.out.block Q HQ1.out (by intro e; injection e with e; have := HQL.out; omega))).trans hHeld.2.1
            have k2 : w6.cell? ⟨Q, 2, none⟩ = some (.int .i64 by_) := (World.cell?_of_block (HG6.out.block Q HQ1.out (by intro e; injection e with e; have := HQL.out; omega))).trans hHeld.2.2.1
            have k3 : w6.cell? ⟨Q, 3, none⟩ = some (.int .i64 se) := (World.cell?_of_block (HG6.out.block Q HQ1.out (by intro e; injection e with e; have := HQL.out; omega))).trans hHeld.2.2.2
            have HB6 := Aside0.mk (HB5.out.grown HG6.out HB5.out.size (fun g hg => by injection hg with hg; rw [← hg]; exact HLO.out.2.2.2.1))
            have HLA6 := Aside0.mk (HL5.out.kept HG6.out (by intro e; injection e with e; have := HLO.out; omega) (by intro e; injection e with e; have := HLO.out; omega))
            obtain ⟨rfl, _, _⟩ := h6
            refine ⟨_, rfl, ?_⟩
            refine hK.out _ _ ⟨k0, k1, k2, k3⟩ (fun hHeld => ?_)
            clear hK K
            refine norm_ (a' := ?_) ?_ ?_
            rotate_left
            · show Act.put _ (some 109) _ = _
              simp only [Act.put, List.setIfInBounds_toArray, List.set_cons_zero, List.set_cons_succ, i64_w, i32_w]
              rfl
            refine pure_ (i := 6) (N := some 18) (v := ?_) (a' := ?_) #[true, true, true, true, true, true, true, false] rfl rfl (by kernel_rfl) (fun _ _ _ h => h) (Or.inl ⟨by rfl, ?_⟩) ?_ ?_
            rotate_left
            · intro w'
              go_simp
              with_reducible rfl
            rotate_left
            · simp only [Act.put, List.setIfInBounds_toArray, List.set_cons_zero, List.set_cons_succ, i64_w, i32_w]
              rfl
            refine pure_ (i := 7) (N := some 19) (v := ?_) (a' := ?_) #[true, true, true, true, true, true, true, true] rfl rfl (by kernel_rfl) (fun _ _ _ h => h) (Or.inl ⟨by rfl, ?_⟩) ?_ ?_
            rotate_left
            · intro w'
              go_simp
              with_reducible rfl
            rotate_left
            · simp only [Act.put, List.setIfInBounds_toArray, List.set_cons_zero, List.set_cons_succ, i64_w, i32_w]
              rfl
            refine done_ (by kernel_rfl) ?_
            have hga := fun W h => qget_calls pa ba 1099511627776 Ma' meS (by decide) W h
            have hgb := fun W h => qget_calls pb bb 1099511627776 Mb' meS (by decide) W h
            rw [← HME'.out] at hgb
            obtain ⟨⟨g1, g2, g3, g4⟩, hg⟩ : ∃ a, a = (getM meS Ma').getD zeroA := ⟨_, rfl⟩
            obtain ⟨t, ht⟩ : ∃ t, t = (getM meS Ma').isSome := ⟨_, rfl⟩
            rw [← hg, ← ht] at hga hgb
            unfold acctV meS at hga hgb
            have HGTA := Lib.hid hga
            have HGTB := Lib.hid hgb
            clear hga hgb hg ht
            go_wp2_with fail
            refine (HGTA.out _ HLA6.out).mono ?_
            rintro e w7 ⟨rfl, h7⟩
            have HLA7 := Aside0.mk ((HLA6.out.below h7).below ((Below.refl _ _).alloc (Nat.le_refl _) (.cells #[.int .i64 g1, .int .i64 g2, .int .i64 g3, .int .i64 g4] 65)))
            have HLB7 := Aside0.mk ((HL6.out.below h7).below ((Below.refl _ _).alloc (Nat.le_refl _) (.cells #[.int .i64 g1, .int .i64 g2, .int .i64 g3, .int .i64 g4] 65)))
            have HB7 := Aside0.mk ((HB6.out.trans (h7.mono HB6.out.size)).alloc (Nat.le_trans HB6.out.size h7.size) (.cells #[.int .i64 g1, .int .i64 g2, .int .i64 g3, .int .i64 g4] 65))
            clear h7
            go_wp2_with fail
            refine (HGTB.out _ HLB7.out).mono ?_
            rintro e w8 ⟨rfl, h8⟩
            have v1 : w8.cell? ⟨w7.heap.size, 0, none⟩ = some (.int .i64 g1) := bread h8 (by go_simp)
            have v2 : w8.cell? ⟨w7.heap.size, 1, none⟩ = some (.int .i64 g2) := bread h8 (by go_simp)
            have v3 : w8.cell? ⟨w7.heap.size, 2, none⟩ = some (.int .i64 g3) := bread h8 (by go_simp)
            have v4 : w8.cell? ⟨w7.heap.size, 3, none⟩ = some (.int .i64 g4) := bread h8 (by go_simp)
            have hz8 : w7.heap.size < w8.heap.size := by have := h8.size; simp at this; omega
            have HLA8 := Aside0.mk ((HLA7.out.below h8).below ((Below.refl _ _).alloc (Nat.le_refl _) (.cells #[.int .i64 g1, .int .i64 g2, .int .i64 g3, .int .i64 g4] 65)))
            have HLB8 := Aside0.mk ((HLB7.out.below h8).below ((Below.refl _ _).alloc (Nat.le_refl _) (.cells #[.int .i64 g1, .int .i64 g2, .int .i64 g3, .int .i64 g4] 65)))
            have HB8 := Aside0.mk ((HB7.out.trans (h8.mono HB7.out.size)).alloc (Nat.le_trans HB7.out.size h8.size) (.cells #[.int .i64 g1, .int .i64 g2, .int .i64 g3, .int .i64 g4] 65))
            clear h8
            go_wp2
            refine ⟨?_, ?measure⟩
            iterate 70 apply Exists.intro
            refine ⟨?rel, rfl⟩
            case rel => exact ⟨j + 1, Ma', Mb', by omega, by simp, HGA', HGB', HME', HLA8, HLB8, HB8⟩
            case measure => simp [intOf]; omega
        · have hje : j = l.length := by omega
          subst hje
          clear hlt hj HGA HGB HME HLAR HLBR
          go_wp2_with fail
          refine (get_nil ⟨#[97]⟩ _).mono ?_
          rintro e v0 ⟨rfl, h⟩
          have HBN1 := Aside0.mk ((HB.out.trans (h.mono HB.out.size)).alloc (Nat.le_trans HB.out.size h.size) (.cells #[.int .i64 0, .int .i64 0, .int .i64 0, .int .i64 0] 65))
          clear h
          go_wp2_with fail
          refine (open_nil ⟨#[97]⟩ 1 1 _).mono ?_
          rintro e v1 ⟨rfl, rfl⟩
          go_wp2_with fail
          refine (change_nil ⟨#[97]⟩ 1 1 _).mono ?_
          rintro e v2 ⟨rfl, h⟩
          have HBN3 := Aside0.mk (HBN1.out.trans (h.mono HBN1.out.size))
          clear h
          go_wp2_with fail
          refine (close_nil ⟨#[97]⟩ _).mono ?_
          rintro e v3 ⟨rfl, h⟩
          have HBN4 := Aside0.mk (HBN3.out.trans (h.mono HBN3.out.size))
          clear h
          go_wp2_with fail
          refine (use_nil ⟨#[97]⟩ 1 1 _).mono ?_
          rintro e v4 ⟨rfl, h⟩
          have HBN5 := Aside0.mk (HBN4.out.trans (h.mono HBN4.out.size))
          clear h
          go_wp2_with fail
          refine (free_nil ⟨#[97]⟩ 1 1 _).mono ?_
          rintro e v5 ⟨rfl, h⟩
          have HBN6 := Aside0.mk (HBN5.out.trans (h.mono HBN5.out.size))
          clear h
          go_wp2_with fail
          refine (left_nil  _).mono ?_
          rintro e v6 ⟨rfl, rfl⟩
          go_wp2_with fail
          refine (cap_nil  _).mono ?_
          rintro e v7 ⟨rfl, rfl⟩
          go_wp2_with fail
          refine (accounts_nil  _).mono ?_
          rintro e v8 ⟨rfl, rfl⟩
          go_wp2_with fail
          refine (copy_nil  _).mono ?_
          rintro e v9 ⟨rfl, rfl⟩
          go_wp2
          go_ret
          exact ⟨rfl, HBN6.out⟩
end Go.Proofs.Ytdbhejckpkifoaa
