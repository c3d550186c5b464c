/- The law RollTiers, walked. -/
import Derived.Test.YtnjdngjlbonieaaRollE
import Derived.Test.YtnjdngjlbonieaaRollT
import Derived.Lib.Hide
import Derived.LoopTactic
import Derived.Outline
import Derived.Laws.Rows
import Derived.Laws.CopyOwn
import Derived.WalkKit
set_option linter.unusedVariables false
set_option linter.unusedSimpArgs false
namespace Go.Proofs.Ytnjdngjlbonieaa
open Go.RowKit Go.Proofs.YtnjdngjlbonieaaW.PrintWords Go.Proofs.YtnjdngjlbonieaaW.PrintLast Go.Proofs.YtnjdngjlbonieaaW.PrintMore
open Go.Proofs.Ytnjdngjlbonieaa.PRollWindows
attribute [local go_sem] max2_int min2_int max_two min_two max_three min_three max_four min_four

open RollOfPure RollTiersPure
open Go.Proofs.Ytnjdngjlbonieaa.PRollTiers (S31 k31)
attribute [local go_sem high] eqA31s
theorem flat_aggS (R : List (Int × List S29)) : (R.map aggS).flatMap aggP = R.flatMap aggC := by rw [List.flatMap_map]; rfl
set_option maxRecDepth 100000 in
set_option maxHeartbeats 64000000 in
theorem tiers_calls (A : Option Addr) (ca : Nat) (l : List S29) (hi : ∀ x ∈ l, x.f0 ≤ 9223372036854775807) (hv : AllIn l) (w : World) (h : Kd.C k29 w A l.length l) (hca : l.length ≤ ca) :
    Calls Try.prog 4 #[.slice A l.length ca] w (TPost w) := by
  have HL := Aside0.mk h
  have HI := Aside0.mk hi
  have HV := Aside0.mk hv
  have HCA := Aside0.mk hca
  have hlm := h.2.1
  have HLV := Lib.hid lives_calls
  have hu29 := Try.underlying29
  have hu31 := Try.underlying31
  clear h hi hv hca
  by_cases hl : l.length ≤ 60
  · have d0 : decide ((60 : Int) < (l.length : Int)) = false := decide_eq_false (by omega)
    have d0' : decide ((l.length : Int) > (60 : Int)) = false := decide_eq_false (by omega)
    have d0n : decide (60 < l.length) = false := decide_eq_false (by omega)
    obtain ⟨rb, hrb, hrr⟩ := rises_is l (by omega)
    have HRS := Lib.hid (fun W hC => catacomblaw15_rises.calls 200 A ca l rb W hC HCA.out hrb)
    have HRRB := Aside0.mk hrr
    clear hrb hrr
    go_enter Try.func4, Try.ntmps4
    go_wp2_with fail
    refine (HLV.out _).mono ?_
    rintro e w1 ⟨rfl, h1⟩
    have HB1 := Aside0.mk (show Below w.heap.size w w1 from h1)
    have HL1 := Aside0.mk (Kd.C_below HL.out h1)
    clear h1
    go_wp2_with fail
    refine (HRS.out _ HL1.out).mono ?_
    rintro e w2 ⟨rfl, h2⟩
    have HB2 := Aside0.mk (HB1.out.trans (h2.mono HB1.out.size))
    clear h2 HB1 HL1 HRS
    cases hrbv : rb with
    | false =>
      subst hrbv
      go_wp2_with fail
      refine (HLV.out _).mono ?_
      rintro e w3 ⟨rfl, h3⟩
      have HB3 := Aside0.mk (HB2.out.trans (h3.mono HB2.out.size))
      clear h3
      go_wp2
      go_ret
      exact ⟨rfl, HB3.out⟩
    | true =>
      have HRISE := Aside0.mk (HRRB.out.1 hrbv)
      subst hrbv
      clear HRRB
      go_wp2_with fail
      go_loopw [23] (fun v23 wr => ∃ j : Nat, j ≤ l.length ∧ v23 = .int .i64 (j : Int) ∧ Aside0 (SmV (l.take j)) ∧ Aside0 (Below w.heap.size w wr)) (fun v _ => l.length - (intOf v).toNat)
      case atStart => exact ⟨0, by omega, rfl, ⟨fun p hp => by simp at hp⟩, HB2⟩
      case round =>
        clear HB2
        obtain ⟨j, hj, rfl, HS, HB⟩ := hrel
        by_cases hlt : j < l.length
        · obtain ⟨ad, hAe, hcell⟩ := cells29 HL.out (by omega)
          subst hAe
          obtain ⟨x, hx⟩ : ∃ x, l[j]? = some x := ⟨_, List.getElem?_eq_getElem hlt⟩
          have hcx := hcell j x hx
          have u0 : wr.cell? (ad.add (j * 2)) = some (.int .i64 x.f0) := by rw [HB.out.cell (World.block_lt_of_cell? w _ hcx.1)]; exact hcx.1
          have u1 : wr.cell? ⟨(ad.add (j * 2)).block, (ad.add (j * 2)).off + 1, none⟩ = some (.int .i64 x.f1) := by rw [HB.out.cell (World.block_lt_of_cell? w _ hcx.2)]; exact hcx.2
          have hjl : (j : Int) < (l.length : Int) := by omega
          have HSN := Aside0.mk (show -1125899906842624 ≤ x.f1 ∧ x.f1 ≤ 1125899906842624 → SmV (l.take (j + 1)) from fun hb p hp => by
            obtain ⟨hj2, he⟩ := List.getElem?_eq_some_iff.1 hx
            rw [List.take_succ_eq_append_getElem hj2, he] at hp
            rcases List.mem_append.1 hp with hp | hp
            · exact HS.out p hp
            · rw [List.mem_singleton.1 hp]; exact hb)
          obtain ⟨a, b⟩ := x
          have HB3 := Aside0.mk (HB.out.alloc HB.out.size (.cells #[.int .i64 a, .int .i64 b] 29))
          clear hcell hx hcx
          by_cases h1 : (1125899906842624 : Int) < b
          · have d1 : decide ((1125899906842624 : Int) < b) = true := decide_eq_true h1
            have d2 : decide (b > (1125899906842624 : Int)) = true := decide_eq_true h1
            clear h1
            go_wp2
            go_ret
            exact ⟨rfl, HB3.out⟩
          · have d1 : decide ((1125899906842624 : Int) < b) = false := decide_eq_false h1
            have d2 : decide (b > (1125899906842624 : Int)) = false := decide_eq_false h1
            by_cases h2 : b < (-1125899906842624 : Int)
            · have d3 : decide (b < (-1125899906842624 : Int)) = true := decide_eq_true h2
              clear h1 h2
              go_wp2
              go_ret
              exact ⟨rfl, HB3.out⟩
            · have d3 : decide (b < (-1125899906842624 : Int)) = false := decide_eq_false h2
              have HSN2 := Aside0.mk (HSN.out ⟨show _ ≤ b by omega, show b ≤ _ by omega⟩)
              clear h1 h2
              go_wp2_with fail
              go_roundw
              case rel => exact ⟨j + 1, by omega, rfl, HSN2, HB3⟩
              case measure => simp [intOf]; omega
        · have hje : j = l.length := by omega
          subst hje
          have hsm := HS.out
          rw [List.take_length] at hsm
          obtain ⟨tl, tn, tx, tj⟩ := tiers hl HRISE.out hsm
          have hP1 : ((RR 1 l).map aggS).length = (RR 1 l).length := List.length_map _
          have hM1 := RR_mem 1 l
          have hM2 := RR_mem 2 l
          have hPi : ∀ p ∈ (RR 1 l).map aggS, p.f0 ≤ 9223372036854775807 := fun p hp => by
            obtain ⟨g, hg, rfl⟩ := List.mem_map.1 hp
            have hg1 := hM1.2 g hg
            have e1 : RR 1 l = wins 300 l := by
              unfold RR
              rw [show widthT 1 = 300 from rfl, if_neg (by decide), grp_is, if_pos HRISE.out]
            cases hgg : g.2 with
            | nil => exact absurd hgg hg1.1
            | cons y ys =>
              have hy : y ∈ g.2 := by rw [hgg]; exact List.mem_cons_self
              have h2 := wins_in 300 l g (by rw [← e1]; exact hg) y hy
              have h3 := HI.out y (hg1.2.2 y hy)
              show g.1 ≤ _
              omega
          have HP2 := Lib.hid (fun W hC => rpoints_calls 2 A ca l HI.out HV.out W hC hl)
          have HP1 := Lib.hid (fun W hC => rpoints_calls 1 A ca l HI.out HV.out W hC hl)
          have HQ := Lib.hid (fun A2 c2 W hC => aggs_calls jnT 2 A2 c2 ((RR 1 l).map aggS) hPi W hC tl (RQ 2 ((RR 1 l).map aggS)) rfl (by rw [tn]; omega) (fun g hg => (tj g hg).1) (fun g hg => (tj g hg).2))
          obtain ⟨n, hn⟩ : ∃ n, n = (RR 2 l).length := ⟨_, rfl⟩
          obtain ⟨X, hX⟩ : ∃ X, X = (RR 2 l).flatMap aggC := ⟨_, rfl⟩
          have HXA := Lib.hid (fun (W : World) (e : Ending) (w' : World) (hh : PPost (RR 2 l) W e w') => show ∃ v, e = .returned v ∧ w'.ownsRow W.heap.size 31 5 v n X ∧ Below W.heap.size W w' by
            obtain ⟨v, e1, e2, e3⟩ := hh
            exact ⟨v, e1, by rw [hn, hX]; exact e2, e3⟩)
          have HXB := Lib.hid (fun (W : World) (e : Ending) (w' : World) (hh : QPost jnT (RQ 2 ((RR 1 l).map aggS)) W e w') => show ∃ v, e = .returned v ∧ w'.ownsRow W.heap.size 31 5 v n X ∧ Below W.heap.size W w' by
            obtain ⟨v, e1, e2, e3⟩ := hh
            rw [tn, tx] at e2
            exact ⟨v, e1, by rw [hn, hX]; exact e2, e3⟩)
          obtain ⟨PP, hPP⟩ : ∃ P, P = (RR 1 l).map aggS := ⟨_, rfl⟩
          have HXM := Lib.hid (fun (W : World) (e : Ending) (w' : World) (hh : PPost (RR 1 l) W e w') => show ∃ A2 c2, e = .returned (.slice A2 PP.length c2) ∧ Kd.C k31 w' A2 PP.length PP ∧ Below W.heap.size W w' by
            obtain ⟨v, e1, e2, e3⟩ := hh
            obtain ⟨A2, c2, rfl⟩ := row_form e2
            rw [← flat_aggS, ← hP1, ← hPP] at e2
            rw [← hP1, ← hPP] at e1
            exact ⟨A2, c2, e1, (kdC_ofQ e2 (by rw [hPP]; omega)).1, e3⟩)
          rw [← hPP] at HQ HXB
          have hXg : ∀ j, j < n → ∃ x0 x1 x2 x3 x4 : Int, ∀ q, q < 5 → X[j * 5 + q]? = ([.int .i64 x0, .int .i64 x1, .int .i64 x2, .int .i64 x3, .int .i64 x4] : List Value)[q]? := fun j hj => by
            obtain ⟨g, hg⟩ : ∃ g, (RR 2 l)[j]? = some g := ⟨_, List.getElem?_eq_getElem (by omega)⟩
            exact ⟨_, _, _, _, _, fun q hq => by rw [hX, flat_at aggC 5 (fun _ => rfl) (RR 2 l) j g q hg hq]⟩
          have HXG := Lib.hid hXg
          have hnl : n ≤ 60 := by omega
          have HL3 := Aside0.mk (Kd.C_below HL.out HB.out)
          clear hsm tl tn tx tj hP1 hM1 hM2 hPi hn hX hPP hXg hlt hj HS HRISE
          go_wp2_with fail
          refine (HP2.out _ HL3.out).mono ?_
          intro e w4 hh
          obtain ⟨va, rfl, ha, hb4⟩ := HXA.out _ _ _ hh
          obtain ⟨Aa, caa, hva⟩ := row_form ha
          subst hva
          have HB4 := Aside0.mk (HB.out.trans (hb4.mono HB.out.size))
          have HA4 := Aside0.mk (row_mono ha HB.out.size)
          have HL4 := Aside0.mk (Kd.C_below HL3.out hb4)
          clear hh ha hb4 HL3 HB HXA HP2
          go_wp2_with fail
          refine (HP1.out _ HL4.out).mono ?_
          intro e w5 hh
          obtain ⟨A2, c2, rfl, hC5, hb5⟩ := HXM.out _ _ _ hh
          have HB5 := Aside0.mk (HB4.out.trans (hb5.mono HB4.out.size))
          have HA5 := Aside0.mk (own_kept HA4.out fun b hb => hb5.block b (HA4.out.lt b hb).2)
          have HC5 := Aside0.mk hC5
          clear hh hC5 hb5 HL4 HB4 HA4 HXM HP1
          go_wp2_with fail
          refine (HQ.out A2 c2 _ HC5.out).mono ?_
          intro e w6 hh
          obtain ⟨vb, rfl, hb, hb6⟩ := HXB.out _ _ _ hh
          obtain ⟨Ab, cbb, hvb⟩ := row_form hb
          subst hvb
          have HB6 := Aside0.mk (HB5.out.trans (hb6.mono HB5.out.size))
          have HA6 := Aside0.mk (own_kept HA5.out fun b hb => hb6.block b (HA5.out.lt b hb).2)
          have HBB6 := Aside0.mk (row_mono hb HB5.out.size)
          clear hh hb hb6 HB5 HA5 HC5 HXB HQ
          have en : ((n : Int) == (n : Int)) = true := beq_self_eq_true _
          have en2 : ((n : Int) != (n : Int)) = false := by simp
          have en3 : (n == n) = true := beq_self_eq_true _
          go_wp2_with fail
          go_loopw [48] (fun v48 wr => ∃ j : Nat, j ≤ n ∧ v48 = .int .i64 (j : Int) ∧ Aside0 (wr.ownsRow w.heap.size 31 5 (.slice Aa n caa) n X) ∧ Aside0 (wr.ownsRow w.heap.size 31 5 (.slice Ab n cbb) n X) ∧ Aside0 (Below w.heap.size w wr)) (fun v _ => n - (intOf v).toNat)
          case atStart => exact ⟨0, by omega, rfl, HA6, HBB6, HB6⟩
          case round =>
            clear HA6 HBB6 HB6
            obtain ⟨j, hj, rfl, HA, HBB, HB⟩ := hrel
            by_cases hlt : j < n
            · have HA2 := HA
              have HBB2 := HBB
              obtain ⟨ga, cga, cura, ea, hga, _⟩ := row_pos HA.out (by omega)
              injection ea with ea ea1 ea2
              subst ea
              obtain ⟨gb, cgb, curb, eb, hgb, _⟩ := row_pos HBB.out (by omega)
              injection eb with eb eb1 eb2
              subst eb
              clear ea1 ea2 eb1 eb2
              obtain ⟨x0, x1, x2, x3, x4, hx⟩ := HXG.out j hlt
              have cc : ∀ q, q < 5 → wr.cell? ⟨ga, j * 5 + q, none⟩ = ([.int .i64 x0, .int .i64 x1, .int .i64 x2, .int .i64 x3, .int .i64 x4] : List Value)[q]? := fun q hq => by rw [HA.out.cellAt (j * 5 + q) (by omega)]; exact hx q hq
              have dd : ∀ q, q < 5 → wr.cell? ⟨gb, j * 5 + q, none⟩ = ([.int .i64 x0, .int .i64 x1, .int .i64 x2, .int .i64 x3, .int .i64 x4] : List Value)[q]? := fun q hq => by rw [HBB.out.cellAt (j * 5 + q) (by omega)]; exact hx q hq
              have c0 := cc 0 (by omega)
              have c1 := cc 1 (by omega)
              have c2 := cc 2 (by omega)
              have c3 := cc 3 (by omega)
              have c4 := cc 4 (by omega)
              have d0 := dd 0 (by omega)
              have d1 := dd 1 (by omega)
              have d2 := dd 2 (by omega)
              have d3 := dd 3 (by omega)
              have d4 := dd 4 (by omega)
              simp only [List.getElem?_cons_zero, List.getElem?_cons_succ, Nat.add_zero] at c0 c1 c2 c3 c4 d0 d1 d2 d3 d4
              have hjn : (j : Int) < (n : Int) := by omega
              clear cc dd hx hga hgb
              go_wp2_with fail
              refine start_ (n := 9) (S := fun w' => (w'.cell? ⟨ga, j * 5, none⟩ = some (.int .i64 x0)) ∧ (w'.cell? ⟨ga, j * 5 + 1, none⟩ = some (.int .i64 x1)) ∧ (w'.cell? ⟨ga, j * 5 + 2, none⟩ = some (.int .i64 x2)) ∧ (w'.cell? ⟨ga, j * 5 + 3, none⟩ = some (.int .i64 x3)) ∧ (w'.cell? ⟨ga, j * 5 + 4, none⟩ = some (.int .i64 x4)) ∧ (w'.cell? ⟨gb, j * 5, none⟩ = some (.int .i64 x0)) ∧ (w'.cell? ⟨gb, j * 5 + 1, none⟩ = some (.int .i64 x1)) ∧ (w'.cell? ⟨gb, j * 5 + 2, none⟩ = some (.int .i64 x2)) ∧ (w'.cell? ⟨gb, j * 5 + 3, none⟩ = some (.int .i64 x3)) ∧ (w'.cell? ⟨gb, j * 5 + 4, none⟩ = some (.int .i64 x4))) (ds := []) #[false, false, false, false, false, false, false, false, false] (by kernel_rfl) rfl rfl ⟨c0, c1, c2, c3, c4, d0, d1, d2, d3, d4⟩ (fun hHeld => ?_)
              refine pure_ (i := 0) (N := some 51) (v := ?_) (a' := ?_) #[true, false, false, false, false, false, false, false, false] rfl rfl (by kernel_rfl) (fun _ _ _ h => h) (Or.inl ⟨by rfl, ?_⟩) ?_ ?_
              rotate_left
              · intro w'
                go_simp
                with_reducible rfl
              rotate_left
              · simp only [Act.put, List.setIfInBounds_toArray, List.set_cons_zero, List.set_cons_succ, i64_w, i32_w]
                rfl
              refine pure_ (i := 1) (N := some 52) (v := ?_) (a' := ?_) #[true, true, false, false, false, false, false, false, false] rfl rfl (by kernel_rfl) (fun _ _ _ h => h) (Or.inl ⟨by rfl, ?_⟩) ?_ ?_
              rotate_left
              · intro w'
                go_simp
                with_reducible rfl
              rotate_left
              · simp only [Act.put, List.setIfInBounds_toArray, List.set_cons_zero, List.set_cons_succ, i64_w, i32_w]
                rfl
              refine pure_ (i := 2) (N := some 53) (v := ?_) (a' := ?_) #[true, true, true, false, false, false, false, false, false] rfl rfl (by kernel_rfl) (fun _ _ _ h => h) (Or.inl ⟨by rfl, ?_⟩) ?_ ?_
              rotate_left
              · intro w'
                go_simp
                with_reducible rfl
              rotate_left
              · simp only [Act.put, List.setIfInBounds_toArray, List.set_cons_zero, List.set_cons_succ, i64_w, i32_w]
                rfl
              refine pure_ (i := 4) (N := some 55) (v := ?_) (a' := ?_) #[true, true, true, false, true, false, false, false, false] rfl rfl (by kernel_rfl) (fun _ _ _ h => h) (Or.inl ⟨by rfl, ?_⟩) ?_ ?_
              rotate_left
              · intro w'
                go_simp
                with_reducible rfl
              rotate_left
              · simp only [Act.put, List.setIfInBounds_toArray, List.set_cons_zero, List.set_cons_succ, i64_w, i32_w]
                rfl
              refine pure_ (i := 5) (N := some 56) (v := ?_) (a' := ?_) #[true, true, true, false, true, true, false, false, false] rfl rfl (by kernel_rfl) (fun _ _ _ h => h) (Or.inl ⟨by rfl, ?_⟩) ?_ ?_
              rotate_left
              · intro w'
                go_simp
                with_reducible rfl
              rotate_left
              · simp only [Act.put, List.setIfInBounds_toArray, List.set_cons_zero, List.set_cons_succ, i64_w, i32_w]
                rfl
              refine pure_ (i := 6) (N := some 57) (v := ?_) (a' := ?_) #[true, true, true, false, true, true, true, false, false] rfl rfl (by kernel_rfl) (fun _ _ _ h => h) (Or.inl ⟨by rfl, ?_⟩) ?_ ?_
              rotate_left
              · intro w'
                go_simp
                with_reducible rfl
              rotate_left
              · simp only [Act.put, List.setIfInBounds_toArray, List.set_cons_zero, List.set_cons_succ, i64_w, i32_w]
                rfl
              refine take_ (i := 3) (N := some 54) (v := ?_) (a' := ?_) #[true, true, true, true, true, true, true, false, false] rfl rfl (by kernel_rfl) (fun _ _ _ h => h) (Or.inl ⟨by rfl, ?_⟩) hHeld ?_ ?_
              rotate_left
              · rintro w' ⟨s0, s1, s2, s3, s4, s5, s6, s7, s8, s9⟩
                go_simp
                with_reducible rfl
              rotate_left
              · simp only [Act.put, List.setIfInBounds_toArray, List.set_cons_zero, List.set_cons_succ, i64_w, i32_w]
                rfl
              refine take_ (i := 7) (N := some 58) (v := ?_) (a' := ?_) #[true, true, true, true, true, true, true, true, false] rfl rfl (by kernel_rfl) (fun _ _ _ h => h) (Or.inl ⟨by rfl, ?_⟩) hHeld ?_ ?_
              rotate_left
              · rintro w' ⟨s0, s1, s2, s3, s4, s5, s6, s7, s8, s9⟩
                go_simp
                with_reducible rfl
              rotate_left
              · simp only [Act.put, List.setIfInBounds_toArray, List.set_cons_zero, List.set_cons_succ, i64_w, i32_w]
                rfl
              refine pure_ (i := 8) (N := some 59) (v := ?_) (a' := ?_) #[true, true, true, true, true, true, true, true, true] rfl rfl (by kernel_rfl) (fun _ _ _ h => h) (Or.inl ⟨by rfl, ?_⟩) ?_ ?_
              rotate_left
              · intro w'
                go_simp
                with_reducible rfl
              rotate_left
              · simp only [Act.put, List.setIfInBounds_toArray, List.set_cons_zero, List.set_cons_succ, i64_w, i32_w]
                rfl
              refine done_ (by kernel_rfl) ?_
              go_wp2_with fail
              go_roundw
              case rel => exact ⟨j + 1, by omega, rfl, HA, HBB, ⟨pw_below_drewN HB.out 1⟩⟩
              case measure => simp [intOf]; omega
            · go_wp2
              go_ret
              exact ⟨rfl, HB.out⟩
  · have d0 : decide ((60 : Int) < (l.length : Int)) = true := decide_eq_true (by omega)
    have d0' : decide ((l.length : Int) > (60 : Int)) = true := decide_eq_true (by omega)
    have d0n : decide (60 < l.length) = true := decide_eq_true (by omega)
    go_enter Try.func4, Try.ntmps4
    go_wp2_with fail
    refine (HLV.out _).mono ?_
    rintro e w1 ⟨rfl, h1⟩
    have HB1 := Aside0.mk (show Below w.heap.size w w1 from h1)
    clear h1
    go_wp2_with fail
    refine (HLV.out _).mono ?_
    rintro e w2 ⟨rfl, h2⟩
    have HB2 := Aside0.mk (HB1.out.trans (h2.mono HB1.out.size))
    clear h2
    go_wp2
    go_ret
    exact ⟨rfl, HB2.out⟩
theorem RollTiersWalk.walk (A1 : Option Addr) (len1 cap1 : Nat) (l1 : List S29) (W : World)
    (hr1 : ReadsRow (fun (p : S29) c => c = [.int .i64 p.f0, .int .i64 p.f1]) 2 W A1 len1 l1) (hc1 : len1 ≤ cap1) (hq1 : ∀ p ∈ l1, (Lit.int .i64 p.f0).wf = true ∧ (Lit.int .i64 p.f1).wf = true) :
    Calls Try.prog 4 #[.slice A1 len1 cap1] W fun e w' => e = .returned (.bool true) ∧ Below W.heap.size W w' := by
  have hl := hr1.1
  subst hl
  have hr : Kd.C k29 W A1 l1.length l1 := ⟨rfl, hr1.2.1, fun h => by
    obtain ⟨ad, e, hc⟩ := hr1.2.2 h
    refine ⟨ad, e, fun j p hj => ?_⟩
    obtain ⟨c, h1, h2, h3⟩ := hc j p hj
    subst h2
    exact ⟨_, h1, k29_mk W p, h3⟩⟩
  exact tiers_calls A1 cap1 l1 (fun x hx => (in64 (hq1 x hx).1).2) (fun p hp => in64 (hq1 p hp).2) W hr hc1
end Go.Proofs.Ytnjdngjlbonieaa
