/- The law RollWindows, walked. -/
import Derived.Test.YtnjdngjlbonieaaRollD
import Derived.Lib.Hide
import Derived.LoopTactic
import Derived.Outline
import Derived.Laws.Rows
import Derived.Laws.CopyOwn
import Derived.WalkKit
set_option linter.unusedVariables false
set_option linter.unusedSimpArgs false
namespace Go.Proofs.Ytnjdngjlbonieaa
open Go.RowKit Go.Proofs.YtnjdngjlbonieaaW.PrintWords Go.Proofs.YtnjdngjlbonieaaW.PrintLast Go.Proofs.YtnjdngjlbonieaaW.PrintMore
open Go.Proofs.Ytnjdngjlbonieaa.PRollWindows
attribute [local go_sem] max2_int min2_int max_two min_two max_three min_three max_four min_four

open RollOfPure
theorem width13_is (t : Int) : catacomblaw13_Width.f t = some (widthT t) := by
  unfold catacomblaw13_Width.f widthT
  repeat' split
  all_goals rfl
theorem widthT_pos (t : Int) (h : widthT t ≠ 0) : 0 < widthT t ∧ widthT t ≤ 3600 := by
  unfold widthT at h ⊢
  repeat' split <;> omega
theorem QM_of {a W : Int} (h0 : 0 ≤ a) (h1 : a ≤ 9223372036854775807) (hw : 0 < W) (hw2 : W ≤ 3600) : IntKind.i64.wrap (a.tdiv W) = a.tdiv W ∧ IntKind.i64.wrap (a.tdiv W * W) = a - a % W ∧ wrap64 (a.tdiv W) = a.tdiv W ∧ wrap64 (a.tdiv W * W) = a - a % W := by
  have e := quo_mul (W := W) h0
  have h2 := Int.emod_nonneg a (show W ≠ 0 by omega)
  have h3 := Int.emod_lt_of_pos a hw
  have h4 : 0 ≤ a.tdiv W := Int.tdiv_nonneg h0 (by omega)
  have h5 : a.tdiv W ≤ a := by rw [Int.tdiv_eq_ediv_of_nonneg h0]; exact Int.ediv_le_self W h0
  have h6 : a % W ≤ a := by
    have : 0 ≤ a.tdiv W * W := Int.mul_nonneg h4 (by omega)
    omega
  have k1 : wrap64 (a.tdiv W) = a.tdiv W := by unfold wrap64; omega
  have k2 : wrap64 (a.tdiv W * W) = a - a % W := by rw [e]; unfold wrap64; omega
  have k3 : ∀ n, IntKind.i64.wrap n = wrap64 n := fun n => by simp [IntKind.wrap, IntKind.bits, IntKind.signed, wrap64]; omega
  exact ⟨(k3 _).trans k1, (k3 _).trans k2, k1, k2⟩
/-- True, and nothing below has changed. -/
def TPost (w : World) (e : Ending) (w' : World) : Prop := e = .returned (.bool true) ∧ Below w.heap.size w w'
theorem lives_calls (w : World) : Calls Try.prog 11 #[] w (TPost w) := catacomblaw15_lives.calls 200 true w (lives_ok _ (by omega))
theorem eqA31 (d : Nat) (w : World) (x0 x1 x2 x3 x4 y0 y1 y2 y3 y4 : Int) :
    (Op.equalIn (d + 2) 31 (.agg #[.int .i64 x0, .int .i64 x1, .int .i64 x2, .int .i64 x3, .int .i64 x4]) (.agg #[.int .i64 y0, .int .i64 y1, .int .i64 y2, .int .i64 y3, .int .i64 y4])).run Try.prog w = .ok (x0 == y0 && (x1 == y1 && (x2 == y2 && (x3 == y3 && x4 == y4)))) w := by
  refine eqA_of Try.underlying31 (by kernel_rfl) ?_
  refine eqf_cons (by rfl) (by go_simp; rfl) (by go_simp; rfl) (by go_simp) ?_
  refine eqf_cons (by rfl) (by go_simp; rfl) (by go_simp; rfl) (by go_simp) ?_
  refine eqf_cons (by rfl) (by go_simp; rfl) (by go_simp; rfl) (by go_simp) ?_
  refine eqf_cons (by rfl) (by go_simp; rfl) (by go_simp; rfl) (by go_simp) ?_
  exact eqf_last (by rfl) (by go_simp; rfl) (by go_simp; rfl) (by go_simp)
theorem eqA31s (d : Nat) (w : World) (x0 x1 x2 x3 x4 : Int) :
    (Op.equalIn (d + 2) 31 (.agg #[.int .i64 x0, .int .i64 x1, .int .i64 x2, .int .i64 x3, .int .i64 x4]) (.agg #[.int .i64 x0, .int .i64 x1, .int .i64 x2, .int .i64 x3, .int .i64 x4])).run Try.prog w = .ok true w := by
  rw [eqA31]
  simp
attribute [local go_sem high] eqA31s
set_option maxRecDepth 100000 in
set_option maxHeartbeats 64000000 in
theorem law_calls (t : Int) (A : Option Addr) (ca : Nat) (l : List S29) (hi : ∀ x ∈ l, x.f0 ≤ 9223372036854775807) (hv : AllIn l) (w : World) (h : Kd.C k29 w A l.length l) (hca : l.length ≤ ca) :
    Calls Try.prog 3 #[.int .i64 t, .slice A l.length ca] w (TPost w) := by
  have HL := Aside0.mk h
  have HI := Aside0.mk hi
  have HV := Aside0.mk hv
  have HCA := Aside0.mk hca
  have hlm := h.2.1
  have HLV := Lib.hid lives_calls
  clear h hi hv hca
  by_cases hl : l.length ≤ 60
  · have d0 : decide ((60 : Int) < (l.length : Int)) = false := decide_eq_false (by omega)
    have d0' : decide ((l.length : Int) > (60 : Int)) = false := decide_eq_false (by omega)
    have d0n : decide (60 < l.length) = false := decide_eq_false (by omega)
    have HPC := Lib.hid (fun W hC => rpoints_calls t A ca l HI.out HV.out W hC hl)
    have HWD := Lib.hid (fun W => catacomblaw13_Width.calls t _ W (width13_is t))
    obtain ⟨rb, hrb, hrr⟩ := rises_is l (by omega)
    have HRS := Lib.hid (fun W hC => catacomblaw15_rises.calls 200 A ca l rb W hC HCA.out hrb)
    have hRR : RR t l = if widthT t = 0 then [] else grpF (widthT t) S29.f0 l none [] := rfl
    have hmem := RR_mem t l
    obtain ⟨R, hR⟩ : ∃ R, R = RR t l := ⟨_, rfl⟩
    rw [← hR] at HPC hmem hRR
    have hRl := hmem.1
    have hwp := widthT_pos t
    obtain ⟨Wd, hWd⟩ : ∃ W, W = widthT t := ⟨_, rfl⟩
    rw [← hWd] at HWD hRR hwp
    clear hrb hmem hR hWd
    have HRR := Aside0.mk hRR
    have HWP := Aside0.mk hwp
    have HRRB := Aside0.mk hrr
    clear hRR hwp hrr
    go_enter Try.func3, Try.ntmps3
    go_wp2_with fail
    refine (HLV.out _).mono ?_
    rintro e w1 ⟨rfl, h1⟩
    have HB1 := Aside0.mk (show Below w.heap.size w w1 from h1)
    have HL1 := Aside0.mk (Kd.C_below HL.out h1)
    clear h1
    go_wp2_with fail
    refine (HPC.out _ HL1.out).mono ?_
    rintro e w2 ⟨vg, rfl, hg, h2⟩
    have HB2 := Aside0.mk (HB1.out.trans (h2.mono HB1.out.size))
    have HL2 := Aside0.mk (Kd.C_below HL1.out h2)
    have HG2 := Aside0.mk (row_mono hg HB1.out.size)
    obtain ⟨Ag, cg, hvg⟩ := row_form hg
    subst hvg
    clear h2 hg HB1 HL1 HPC
    go_wp2_with fail
    refine (HWD.out _).mono ?_
    rintro e w3 ⟨rfl, n3, rfl⟩
    have HB3 := Aside0.mk (pw_below_drewN HB2.out n3)
    have HL3 := Aside0.mk (Kd.C_drewN HL2.out n3)
    have HG3 := Aside0.mk (show (w2.drewN n3).ownsRow w.heap.size 31 5 (.slice Ag R.length cg) R.length (R.flatMap aggC) from HG2.out)
    obtain ⟨w3, hw3⟩ : ∃ W, W = w2.drewN n3 := ⟨_, rfl⟩
    rw [← hw3] at HB3 HL3 HG3 ⊢
    clear hw3 HB2 HL2 HG2 HWD
    by_cases hw0 : Wd = 0
    · have e0 : (Wd == 0) = true := beq_iff_eq.2 hw0
      have hR0 : R.length = 0 := by rw [HRR.out, if_pos hw0]; rfl
      have e1 : ((R.length : Int) == 0) = true := beq_iff_eq.2 (by omega)
      have e1n : (R.length == 0) = true := beq_iff_eq.2 hR0
      clear hw0 hR0
      go_wp2
      go_ret
      exact ⟨rfl, HB3.out⟩
    · have e0 : (Wd == 0) = false := beq_eq_false_iff_ne.2 hw0
      go_wp2_with fail
      refine (HRS.out _ HL3.out).mono ?_
      rintro e w4 ⟨rfl, h4⟩
      have HB4 := Aside0.mk (HB3.out.trans (h4.mono HB3.out.size))
      have HL4 := Aside0.mk (Kd.C_below HL3.out h4)
      have HG4 := Aside0.mk (own_kept HG3.out fun b hb => h4.block b (HG3.out.lt b hb).2)
      clear h4 HB3 HL3 HG3 HRS
      cases hrbv : rb with
      | false =>
        have hR0 : R.length = 0 := by
          rw [HRR.out, if_neg hw0, grp_is, if_neg (fun hh => by have := HRRB.out.2 hh; rw [hrbv] at this; cases this)]; rfl
        have e1 : ((R.length : Int) == 0) = true := beq_iff_eq.2 (by omega)
        have e1n : (R.length == 0) = true := beq_iff_eq.2 hR0
        clear hR0
        subst hrbv
        go_wp2
        go_ret
        exact ⟨rfl, HB4.out⟩
      | true =>
        have hRise := HRRB.out.1 hrbv
        have hRw : R = wins Wd l := by rw [HRR.out, if_neg hw0, grp_is, if_pos hRise]
        have hWp := HWP.out hw0
        have HRISE := Aside0.mk hRise
        have HRW := Aside0.mk hRw
        subst hrbv
        clear HRR HWP HRRB hRise hRw
        go_wp2_with fail
        go_loopw [7, 8] (fun v7 v8 wr => ∃ (at_ i : Nat), at_ ≤ R.length ∧ i ≤ l.length ∧ v7 = .int .i64 (at_ : Int) ∧ v8 = .int .i64 (i : Int) ∧ Aside0 (R.drop at_ = wins Wd (l.drop i)) ∧ Aside0 (wr.ownsRow w.heap.size 31 5 (.slice Ag R.length cg) R.length (R.flatMap aggC)) ∧ Aside0 (Kd.C k29 wr A l.length l) ∧ Aside0 (Below w.heap.size w wr)) (fun _ v _ => l.length - (intOf v).toNat)
        case atStart => exact ⟨0, 0, by omega, by omega, rfl, rfl, HRW, HG4, HL4, HB4⟩
        case round =>
          clear HG4 HL4 HB4 HRW
          obtain ⟨at_, i, hat, hi, rfl, rfl, HW, HG, HLr, HB⟩ := hrel
          by_cases hlt : i < l.length
          · have f1 : decide ((i : Int) < (l.length : Int)) = true := decide_eq_true (by omega)
            have f1n : decide (i < l.length) = true := decide_eq_true hlt
            obtain ⟨ad, hAe, hcell⟩ := cells29 HLr.out (by omega)
            obtain ⟨x, hx⟩ : ∃ x, l[i]? = some x := ⟨_, List.getElem?_eq_getElem hlt⟩
            subst hAe
            have u0 := (hcell i x hx).1
            have hx0 := (HRISE.out i x hx).1
            have hx1 := HI.out x (List.mem_of_getElem? hx)
            obtain ⟨s, hs⟩ : ∃ s, s = x.f0 - x.f0 % Wd := ⟨_, rfl⟩
            have HQM := Aside0.mk (QM_of hx0 hx1 hWp.1 hWp.2)
            have HSX := Aside0.mk hs
            have HX := Aside0.mk hx
            have HX0 := Aside0.mk hx0
            have HX1 := Aside0.mk hx1
            have HWS := Aside0.mk (show R.drop at_ = ws Wd (l.drop i) s ((l.drop i).take (i - i)) by rw [HW.out, ws_at hx, hs])
            clear hcell hx hx0 hx1 hs
            go_wp2_with fail
            rw [HQM.out.2.2.1, HQM.out.2.2.2, ← HSX.out]
            go_loopw [10] (fun v10 wr2 => ∃ k : Nat, i ≤ k ∧ k ≤ l.length ∧ v10 = .int .i64 (k : Int) ∧ Aside0 (R.drop at_ = ws Wd (l.drop k) s ((l.drop i).take (k - i))) ∧ Aside0 (wr2.ownsRow w.heap.size 31 5 (.slice Ag R.length cg) R.length (R.flatMap aggC)) ∧ Aside0 (Kd.C k29 wr2 (some ad) l.length l) ∧ Aside0 (Below w.heap.size w wr2)) (fun v _ => l.length - (intOf v).toNat)
            case atStart => exact ⟨i, Nat.le_refl _, hi, rfl, HWS, HG, HLr, HB⟩
            case round =>
              clear HG HLr HB HWS HW u0
              obtain ⟨k, hik, hkl, rfl, HWK, HG2, HL2, HB2⟩ := hrel
              by_cases hk : k < l.length
              · obtain ⟨y, hy⟩ : ∃ y, l[k]? = some y := ⟨_, List.getElem?_eq_getElem hk⟩
                obtain ⟨ad', hAe, hcell⟩ := cells29 HL2.out (by omega)
                injection hAe with hAe
                subst hAe
                have u1 := (hcell k y hy).1
                have hy0 := (HRISE.out k y hy).1
                have hQ := QM_of hy0 (HI.out y (List.mem_of_getElem? hy)) hWp.1 hWp.2
                have m1 : decide ((k : Int) < (l.length : Int)) = true := decide_eq_true (by omega)
                have m1n : decide (k < l.length) = true := decide_eq_true hk
                have eqw : wrap64 (wrap64 (y.f0.tdiv Wd) * Wd) = y.f0 - y.f0 % Wd := by rw [hQ.2.2.1, hQ.2.2.2]
                by_cases hs : y.f0 - y.f0 % Wd = s
                · have e5 : (wrap64 (wrap64 (y.f0.tdiv Wd) * Wd) == s) = true := beq_iff_eq.2 (by rw [eqw]; exact hs)
                  have HWK2 := Aside0.mk (HWK.out.trans (ws_on hik hy hs))
                  clear hcell hy hy0 hQ eqw hs
                  go_wp2_with fail
                  go_roundw
                  case rel => exact ⟨k + 1, by omega, by omega, rfl, HWK2, HG2, HL2, HB2⟩
                  case measure => simp [intOf]; omega
                · have e5 : (wrap64 (wrap64 (y.f0.tdiv Wd) * Wd) == s) = false := beq_eq_false_iff_ne.2 (by rw [eqw]; exact hs)
                  have hik2 : i < k := by
                    rcases Nat.lt_or_ge i k with h | h
                    · exact h
                    · refine absurd ?_ hs
                      have hki : k = i := by omega
                      subst hki
                      have := HX.out
                      rw [hy] at this
                      injection this with this
                      rw [this]
                      exact HSX.out.symm
                  have HWE := HWK.out.trans (ws_off hy hs)
                  clear hcell hy hy0 hQ eqw hs
                  obtain ⟨ys, hys⟩ : ∃ ys, ys = (l.drop i).take (k - i) := ⟨_, rfl⟩
                  have hysl : ys.length = k - i := by rw [hys, List.length_take, List.length_drop]; omega
                  rw [← hys] at HWE
                  have hRa : R[at_]? = some (s, ys) := by rw [show at_ = at_ + 0 by omega, ← List.getElem?_drop, HWE]; rfl
                  have hat1 : at_ < R.length := (List.getElem?_eq_some_iff.1 hRa).1
                  have HWN := Aside0.mk (show R.drop (at_ + 1) = wins Wd (l.drop k) by rw [← List.tail_drop, HWE]; rfl)
                  have hym : ∀ p ∈ ys, p ∈ l := fun p hp => by rw [hys] at hp; exact List.mem_of_mem_drop (List.mem_of_mem_take hp)
                  have HPT := Lib.hid (fun W hC => catacomblaw15_Points.calls 200 s (some (ad.add (i * 2))) (ca - i) ys _ _ _ _ _ W hC (by have := HCA.out; omega) (pts_is ys (fun p hp => HV.out p (hym p hp)) (by omega) s 200 (by omega)))
                  obtain ⟨gg, cgg, curg, eg, hgg, _⟩ := row_pos HG2.out (by omega)
                  injection eg with eg eg1 eg2
                  subst eg
                  clear eg1 eg2
                  have cc : ∀ q, q < 5 → wr.cell? ⟨gg, at_ * 5 + q, none⟩ = (aggC (s, ys))[q]? := fun q hq => by
                    have h5 : R.length * 5 = R.length * 5 := rfl
                    rw [HG2.out.cellAt (at_ * 5 + q) (by omega), flat_at aggC 5 (fun _ => rfl) R at_ (s, ys) q hRa hq]
                  have c0 := cc 0 (by omega)
                  have c1 := cc 1 (by omega)
                  have c2 := cc 2 (by omega)
                  have c3 := cc 3 (by omega)
                  have c4 := cc 4 (by omega)
                  simp only [List.getElem?_cons_zero, List.getElem?_cons_succ, Nat.add_zero] at c0 c1 c2 c3 c4
                  have HCS := Aside0.mk (show Kd.C k29 wr.drew (some (ad.add (i * 2))) ys.length ys from by
                    have h := Kd.C_mid (Kd.C_drew HL2.out) hik hkl HCA.out
                    rw [if_neg (by have := HCA.out; omega), List.drop_take, ← hys] at h
                    exact h)
                  rw [hysl] at HPT HCS
                  obtain ⟨n1, hn1⟩ : ∃ n, n = (run ys zero).c := ⟨_, rfl⟩
                  obtain ⟨n2, hn2⟩ : ∃ n, n = (run ys zero).s := ⟨_, rfl⟩
                  obtain ⟨n3, hn3⟩ : ∃ n, n = (run ys zero).lo := ⟨_, rfl⟩
                  obtain ⟨n4, hn4⟩ : ∃ n, n = (run ys zero).hi := ⟨_, rfl⟩
                  rw [← hn1] at c1 HPT
                  rw [← hn2] at c2 HPT
                  rw [← hn3] at c3 HPT
                  rw [← hn4] at c4 HPT
                  have g1 : decide ((R.length : Int) ≤ (at_ : Int)) = false := decide_eq_false (by omega)
                  have g1n : decide (R.length ≤ at_) = false := decide_eq_false (by omega)
                  have g2 : decide ((at_ : Int) ≥ (R.length : Int)) = false := decide_eq_false (by omega)
                  have hca9 := HCA.out
                  have hik9 : i < k := hik2
                  have hci : ¬ ca = i := by omega
                  have hkca : k ≤ ca := by omega
                  clear hn1 hn2 hn3 hn4 hys HWE hRa hym cc hgg
                  go_wp2_with fail
                  refine start_ (n := 17) (S := fun w' => (w'.cell? ⟨gg, at_ * 5, none⟩ = some (.int .i64 s)) ∧ (w'.cell? ⟨gg, at_ * 5 + 1, none⟩ = some (.int .i64 n1)) ∧ (w'.cell? ⟨gg, at_ * 5 + 2, none⟩ = some (.int .i64 n2)) ∧ (w'.cell? ⟨gg, at_ * 5 + 3, none⟩ = some (.int .i64 n3)) ∧ (w'.cell? ⟨gg, at_ * 5 + 4, none⟩ = some (.int .i64 n4))) (ds := []) #[false, false, false, false, false, false, false, false, false, false, false, false, false, false, false, false, false] (by kernel_rfl) rfl rfl ⟨c0, c1, c2, c3, c4⟩ (fun hHeld => ?_)
                  refine pure_ (i := 0) (N := some 67) (v := ?_) (a' := ?_) #[true, false, false, false, false, false, false, false, false, false, false, false, false, false, false, false, false] rfl rfl (by kernel_rfl) (fun _ _ _ h => h) (Or.inl ⟨by rfl, ?_⟩) ?_ ?_
                  rotate_left
                  · intro w'
                    go_simp
                    with_reducible rfl
                  rotate_left
                  · simp only [Act.put, List.setIfInBounds_toArray, List.set_cons_zero, List.set_cons_succ, i64_w, i32_w]
                    rfl
                  refine pure_ (i := 1) (N := some 68) (v := ?_) (a' := ?_) #[true, true, false, false, false, false, false, false, false, false, false, false, false, false, false, false, false] rfl rfl (by kernel_rfl) (fun _ _ _ h => h) (Or.inl ⟨by rfl, ?_⟩) ?_ ?_
                  rotate_left
                  · intro w'
                    go_simp
                    with_reducible rfl
                  rotate_left
                  · simp only [Act.put, List.setIfInBounds_toArray, List.set_cons_zero, List.set_cons_succ, i64_w, i32_w]
                    rfl
                  refine pure_ (i := 2) (N := some 69) (v := ?_) (a' := ?_) #[true, true, true, false, false, false, false, false, false, false, false, false, false, false, false, false, false] rfl rfl (by kernel_rfl) (fun _ _ _ h => h) (Or.inl ⟨by rfl, ?_⟩) ?_ ?_
                  rotate_left
                  · intro w'
                    go_simp
                    with_reducible rfl
                  rotate_left
                  · simp only [Act.put, List.setIfInBounds_toArray, List.set_cons_zero, List.set_cons_succ, i64_w, i32_w]
                    rfl
                  refine pure_ (i := 3) (N := some 70) (v := ?_) (a' := ?_) #[true, true, true, true, false, false, false, false, false, false, false, false, false, false, false, false, false] rfl rfl (by kernel_rfl) (fun _ _ _ h => h) (Or.inl ⟨by rfl, ?_⟩) ?_ ?_
                  rotate_left
                  · intro w'
                    go_simp
                    with_reducible rfl
                  rotate_left
                  · simp only [Act.put, List.setIfInBounds_toArray, List.set_cons_zero, List.set_cons_succ, i64_w, i32_w]
                    rfl
                  refine pure_ (i := 4) (N := some 71) (v := ?_) (a' := ?_) #[true, true, true, true, true, false, false, false, false, false, false, false, false, false, false, false, false] rfl rfl (by kernel_rfl) (fun _ _ _ h => h) (Or.inl ⟨by rfl, ?_⟩) ?_ ?_
                  rotate_left
                  · intro w'
                    go_simp
                    with_reducible rfl
                  rotate_left
                  · simp only [Act.put, List.setIfInBounds_toArray, List.set_cons_zero, List.set_cons_succ, i64_w, i32_w]
                    rfl
                  refine pure_ (i := 5) (N := some 72) (v := ?_) (a' := ?_) #[true, true, true, true, true, true, false, false, false, false, false, false, false, false, false, false, false] rfl rfl (by kernel_rfl) (fun _ _ _ h => h) (Or.inl ⟨by rfl, ?_⟩) ?_ ?_
                  rotate_left
                  · intro w'
                    go_simp
                    with_reducible rfl
                  rotate_left
                  · simp only [Act.put, List.setIfInBounds_toArray, List.set_cons_zero, List.set_cons_succ, i64_w, i32_w]
                    rfl
                  refine pure_ (i := 6) (N := some 73) (v := ?_) (a' := ?_) #[true, true, true, true, true, true, true, false, false, false, false, false, false, false, false, false, false] rfl rfl (by kernel_rfl) (fun _ _ _ h => h) (Or.inl ⟨by rfl, ?_⟩) ?_ ?_
                  rotate_left
                  · intro w'
                    go_simp
                    with_reducible rfl
                  rotate_left
                  · simp only [Act.put, List.setIfInBounds_toArray, List.set_cons_zero, List.set_cons_succ, i64_w, i32_w]
                    rfl
                  refine pure_ (i := 7) (N := some 74) (v := ?_) (a' := ?_) #[true, true, true, true, true, true, true, true, false, false, false, false, false, false, false, false, false] rfl rfl (by kernel_rfl) (fun _ _ _ h => h) (Or.inl ⟨by rfl, ?_⟩) ?_ ?_
                  rotate_left
                  · intro w'
                    go_simp
                    with_reducible rfl
                  rotate_left
                  · simp only [Act.put, List.setIfInBounds_toArray, List.set_cons_zero, List.set_cons_succ, i64_w, i32_w]
                    rfl
                  refine pure_ (i := 9) (N := some 76) (v := ?_) (a' := ?_) #[true, true, true, true, true, true, true, true, false, true, false, false, false, false, false, false, false] rfl rfl (by kernel_rfl) (fun _ _ _ h => h) (Or.inl ⟨by rfl, ?_⟩) ?_ ?_
                  rotate_left
                  · intro w'
                    go_simp
                    with_reducible rfl
                  rotate_left
                  · simp only [Act.put, List.setIfInBounds_toArray, List.set_cons_zero, List.set_cons_succ, i64_w, i32_w]
                    rfl
                  refine pure_ (i := 10) (N := some 77) (v := ?_) (a' := ?_) #[true, true, true, true, true, true, true, true, false, true, true, false, false, false, false, false, false] rfl rfl (by kernel_rfl) (fun _ _ _ h => h) (Or.inl ⟨by rfl, ?_⟩) ?_ ?_
                  rotate_left
                  · intro w'
                    go_simp
                    with_reducible rfl
                  rotate_left
                  · simp only [Act.put, List.setIfInBounds_toArray, List.set_cons_zero, List.set_cons_succ, i64_w, i32_w]
                    rfl
                  refine pure_ (i := 11) (N := some 78) (v := ?_) (a' := ?_) #[true, true, true, true, true, true, true, true, false, true, true, true, false, false, false, false, false] rfl rfl (by kernel_rfl) (fun _ _ _ h => h) (Or.inl ⟨by rfl, ?_⟩) ?_ ?_
                  rotate_left
                  · intro w'
                    go_simp
                    with_reducible rfl
                  rotate_left
                  · simp only [Act.put, List.setIfInBounds_toArray, List.set_cons_zero, List.set_cons_succ, i64_w, i32_w]
                    rfl
                  refine pure_ (i := 12) (N := some 79) (v := ?_) (a' := ?_) #[true, true, true, true, true, true, true, true, false, true, true, true, true, false, false, false, false] rfl rfl (by kernel_rfl) (fun _ _ _ h => h) (Or.inl ⟨by rfl, ?_⟩) ?_ ?_
                  rotate_left
                  · intro w'
                    go_simp
                    with_reducible rfl
                  rotate_left
                  · simp only [Act.put, List.setIfInBounds_toArray, List.set_cons_zero, List.set_cons_succ, i64_w, i32_w]
                    rfl
                  refine pure_ (i := 13) (N := some 80) (v := ?_) (a' := ?_) #[true, true, true, true, true, true, true, true, false, true, true, true, true, true, false, false, false] rfl rfl (by kernel_rfl) (fun _ _ _ h => h) (Or.inl ⟨by rfl, ?_⟩) ?_ ?_
                  rotate_left
                  · intro w'
                    go_simp
                    with_reducible rfl
                  rotate_left
                  · simp only [Act.put, List.setIfInBounds_toArray, List.set_cons_zero, List.set_cons_succ, i64_w, i32_w]
                    rfl
                  refine take_ (i := 8) (N := some 75) (v := ?_) (a' := ?_) #[true, true, true, true, true, true, true, true, true, true, true, true, true, true, false, false, false] rfl rfl (by kernel_rfl) (fun _ _ _ h => h) (Or.inl ⟨by rfl, ?_⟩) hHeld ?_ ?_
                  rotate_left
                  · rintro w' ⟨s0, s1, s2, s3, s4⟩
                    go_simp
                    with_reducible rfl
                  rotate_left
                  · simp only [Act.put, List.setIfInBounds_toArray, List.set_cons_zero, List.set_cons_succ, i64_w, i32_w]
                    rfl
                  refine one_ (i := 14) (N := some 81) #[true, true, true, true, true, true, true, true, true, true, true, true, true, true, true, false, false] rfl rfl (by kernel_rfl) (by decide) (fun K hK => ?_)
                  refine goes_ Try.func15 (by kernel_rfl) rfl #[.int .i64 s, .slice (some (ad.add (i * 2))) (k - i) (ca - i)] (by rfl) rfl rfl (by simp only [List.map_toArray, List.map_cons, List.map_nil]; rfl) ?_
                  with_reducible refine ((HPT.out _ HCS.out)).mono ?_
                  rintro e w5 ⟨rfl, h5⟩
                  have k0 := bread h5 hHeld.1
                  have k1 := bread h5 hHeld.2.1
                  have k2 := bread h5 hHeld.2.2.1
                  have k3 := bread h5 hHeld.2.2.2.1
                  have k4 := bread h5 hHeld.2.2.2.2
                  have HB5 := Aside0.mk ((pw_below_drewN HB2.out 1).trans (h5.mono HB2.out.size))
                  have HG5 := Aside0.mk (own_kept HG2.out fun b hb => h5.block b (HG2.out.lt b hb).2)
                  have HL5 := Aside0.mk (Kd.C_below (Kd.C_drew HL2.out) h5)
                  clear h5
                  refine ⟨_, rfl, ?_⟩
                  refine hK.out _ _ ⟨k0, k1, k2, k3, k4⟩ (fun hHeld => ?_)
                  clear hK K
                  refine norm_ (a' := ?_) ?_ ?_
                  rotate_left
                  · show Act.put _ (some 81) _ = _
                    simp only [Act.put, List.setIfInBounds_toArray, List.set_cons_zero, List.set_cons_succ, i64_w, i32_w]
                    rfl
                  refine pure_ (i := 15) (N := some 82) (v := ?_) (a' := ?_) #[true, true, true, true, true, true, true, true, true, true, true, true, true, true, true, true, false] rfl rfl (by kernel_rfl) (fun _ _ _ h => h) (Or.inl ⟨by rfl, ?_⟩) ?_ ?_
                  rotate_left
                  · intro w'
                    go_simp
                    with_reducible rfl
                  rotate_left
                  · simp only [Act.put, List.setIfInBounds_toArray, List.set_cons_zero, List.set_cons_succ, i64_w, i32_w]
                    rfl
                  refine pure_ (i := 16) (N := some 83) (v := ?_) (a' := ?_) #[true, true, true, true, true, true, true, true, true, true, true, true, true, true, true, true, true] rfl rfl (by kernel_rfl) (fun _ _ _ h => h) (Or.inl ⟨by rfl, ?_⟩) ?_ ?_
                  rotate_left
                  · intro w'
                    go_simp
                    with_reducible rfl
                  rotate_left
                  · simp only [Act.put, List.setIfInBounds_toArray, List.set_cons_zero, List.set_cons_succ, i64_w, i32_w]
                    rfl
                  refine done_ (by kernel_rfl) ?_
                  go_wp2_with fail
                  go_roundw
                  case rel => exact ⟨at_ + 1, k, by omega, hkl, rfl, rfl, HWN, HG5, HL5, HB5⟩
                  case measure => simp [intOf]; omega
              · have m1 : decide ((k : Int) < (l.length : Int)) = false := decide_eq_false (by omega)
                have m1n : decide (k < l.length) = false := decide_eq_false hk
                have hik2 : i < k := by omega
                have HWE := HWK.out.trans (ws_end (by omega))
                obtain ⟨ys, hys⟩ : ∃ ys, ys = (l.drop i).take (k - i) := ⟨_, rfl⟩
                have hysl : ys.length = k - i := by rw [hys, List.length_take, List.length_drop]; omega
                rw [← hys] at HWE
                have hRa : R[at_]? = some (s, ys) := by rw [show at_ = at_ + 0 by omega, ← List.getElem?_drop, HWE]; rfl
                have hat1 : at_ < R.length := (List.getElem?_eq_some_iff.1 hRa).1
                have HWN := Aside0.mk (show R.drop (at_ + 1) = wins Wd (l.drop k) by rw [← List.tail_drop, HWE]; rfl)
                have hym : ∀ p ∈ ys, p ∈ l := fun p hp => by rw [hys] at hp; exact List.mem_of_mem_drop (List.mem_of_mem_take hp)
                have HPT := Lib.hid (fun W hC => catacomblaw15_Points.calls 200 s (some (ad.add (i * 2))) (ca - i) ys _ _ _ _ _ W hC (by have := HCA.out; omega) (pts_is ys (fun p hp => HV.out p (hym p hp)) (by omega) s 200 (by omega)))
                obtain ⟨gg, cgg, curg, eg, hgg, _⟩ := row_pos HG2.out (by omega)
                injection eg with eg eg1 eg2
                subst eg
                clear eg1 eg2
                have cc : ∀ q, q < 5 → wr.cell? ⟨gg, at_ * 5 + q, none⟩ = (aggC (s, ys))[q]? := fun q hq => by
                  have h5 : R.length * 5 = R.length * 5 := rfl
                  rw [HG2.out.cellAt (at_ * 5 + q) (by omega), flat_at aggC 5 (fun _ => rfl) R at_ (s, ys) q hRa hq]
                have c0 := cc 0 (by omega)
                have c1 := cc 1 (by omega)
                have c2 := cc 2 (by omega)
                have c3 := cc 3 (by omega)
                have c4 := cc 4 (by omega)
                simp only [List.getElem?_cons_zero, List.getElem?_cons_succ, Nat.add_zero] at c0 c1 c2 c3 c4
                have HCS := Aside0.mk (show Kd.C k29 wr.drew (some (ad.add (i * 2))) ys.length ys from by
                  have h := Kd.C_mid (Kd.C_drew HL2.out) hik hkl HCA.out
                  rw [if_neg (by have := HCA.out; omega), List.drop_take, ← hys] at h
                  exact h)
                rw [hysl] at HPT HCS
                obtain ⟨n1, hn1⟩ : ∃ n, n = (run ys zero).c := ⟨_, rfl⟩
                obtain ⟨n2, hn2⟩ : ∃ n, n = (run ys zero).s := ⟨_, rfl⟩
                obtain ⟨n3, hn3⟩ : ∃ n, n = (run ys zero).lo := ⟨_, rfl⟩
                obtain ⟨n4, hn4⟩ : ∃ n, n = (run ys zero).hi := ⟨_, rfl⟩
                rw [← hn1] at c1 HPT
                rw [← hn2] at c2 HPT
                rw [← hn3] at c3 HPT
                rw [← hn4] at c4 HPT
                have g1 : decide ((R.length : Int) ≤ (at_ : Int)) = false := decide_eq_false (by omega)
                have g1n : decide (R.length ≤ at_) = false := decide_eq_false (by omega)
                have g2 : decide ((at_ : Int) ≥ (R.length : Int)) = false := decide_eq_false (by omega)
                have hca9 := HCA.out
                have hik9 : i < k := hik2
                have hci : ¬ ca = i := by omega
                have hkca : k ≤ ca := by omega
                clear hn1 hn2 hn3 hn4 hys HWE hRa hym cc hgg
                go_wp2_with fail
                refine start_ (n := 17) (S := fun w' => (w'.cell? ⟨gg, at_ * 5, none⟩ = some (.int .i64 s)) ∧ (w'.cell? ⟨gg, at_ * 5 + 1, none⟩ = some (.int .i64 n1)) ∧ (w'.cell? ⟨gg, at_ * 5 + 2, none⟩ = some (.int .i64 n2)) ∧ (w'.cell? ⟨gg, at_ * 5 + 3, none⟩ = some (.int .i64 n3)) ∧ (w'.cell? ⟨gg, at_ * 5 + 4, none⟩ = some (.int .i64 n4))) (ds := []) #[false, false, false, false, false, false, false, false, false, false, false, false, false, false, false, false, false] (by kernel_rfl) rfl rfl ⟨c0, c1, c2, c3, c4⟩ (fun hHeld => ?_)
                refine pure_ (i := 0) (N := some 67) (v := ?_) (a' := ?_) #[true, false, false, false, false, false, false, false, false, false, false, false, false, false, false, false, false] rfl rfl (by kernel_rfl) (fun _ _ _ h => h) (Or.inl ⟨by rfl, ?_⟩) ?_ ?_
                rotate_left
                · intro w'
                  go_simp
                  with_reducible rfl
                rotate_left
                · simp only [Act.put, List.setIfInBounds_toArray, List.set_cons_zero, List.set_cons_succ, i64_w, i32_w]
                  rfl
                refine pure_ (i := 1) (N := some 68) (v := ?_) (a' := ?_) #[true, true, false, false, false, false, false, false, false, false, false, false, false, false, false, false, false] rfl rfl (by kernel_rfl) (fun _ _ _ h => h) (Or.inl ⟨by rfl, ?_⟩) ?_ ?_
                rotate_left
                · intro w'
                  go_simp
                  with_reducible rfl
                rotate_left
                · simp only [Act.put, List.setIfInBounds_toArray, List.set_cons_zero, List.set_cons_succ, i64_w, i32_w]
                  rfl
                refine pure_ (i := 2) (N := some 69) (v := ?_) (a' := ?_) #[true, true, true, false, false, false, false, false, false, false, false, false, false, false, false, false, false] rfl rfl (by kernel_rfl) (fun _ _ _ h => h) (Or.inl ⟨by rfl, ?_⟩) ?_ ?_
                rotate_left
                · intro w'
                  go_simp
                  with_reducible rfl
                rotate_left
                · simp only [Act.put, List.setIfInBounds_toArray, List.set_cons_zero, List.set_cons_succ, i64_w, i32_w]
                  rfl
                refine pure_ (i := 3) (N := some 70) (v := ?_) (a' := ?_) #[true, true, true, true, false, false, false, false, false, false, false, false, false, false, false, false, false] rfl rfl (by kernel_rfl) (fun _ _ _ h => h) (Or.inl ⟨by rfl, ?_⟩) ?_ ?_
                rotate_left
                · intro w'
                  go_simp
                  with_reducible rfl
                rotate_left
                · simp only [Act.put, List.setIfInBounds_toArray, List.set_cons_zero, List.set_cons_succ, i64_w, i32_w]
                  rfl
                refine pure_ (i := 4) (N := some 71) (v := ?_) (a' := ?_) #[true, true, true, true, true, false, false, false, false, false, false, false, false, false, false, false, false] rfl rfl (by kernel_rfl) (fun _ _ _ h => h) (Or.inl ⟨by rfl, ?_⟩) ?_ ?_
                rotate_left
                · intro w'
                  go_simp
                  with_reducible rfl
                rotate_left
                · simp only [Act.put, List.setIfInBounds_toArray, List.set_cons_zero, List.set_cons_succ, i64_w, i32_w]
                  rfl
                refine pure_ (i := 5) (N := some 72) (v := ?_) (a' := ?_) #[true, true, true, true, true, true, false, false, false, false, false, false, false, false, false, false, false] rfl rfl (by kernel_rfl) (fun _ _ _ h => h) (Or.inl ⟨by rfl, ?_⟩) ?_ ?_
                rotate_left
                · intro w'
                  go_simp
                  with_reducible rfl
                rotate_left
                · simp only [Act.put, List.setIfInBounds_toArray, List.set_cons_zero, List.set_cons_succ, i64_w, i32_w]
                  rfl
                refine pure_ (i := 6) (N := some 73) (v := ?_) (a' := ?_) #[true, true, true, true, true, true, true, false, false, false, false, false, false, false, false, false, false] rfl rfl (by kernel_rfl) (fun _ _ _ h => h) (Or.inl ⟨by rfl, ?_⟩) ?_ ?_
                rotate_left
                · intro w'
                  go_simp
                  with_reducible rfl
                rotate_left
                · simp only [Act.put, List.setIfInBounds_toArray, List.set_cons_zero, List.set_cons_succ, i64_w, i32_w]
                  rfl
                refine pure_ (i := 7) (N := some 74) (v := ?_) (a' := ?_) #[true, true, true, true, true, true, true, true, false, false, false, false, false, false, false, false, false] rfl rfl (by kernel_rfl) (fun _ _ _ h => h) (Or.inl ⟨by rfl, ?_⟩) ?_ ?_
                rotate_left
                · intro w'
                  go_simp
                  with_reducible rfl
                rotate_left
                · simp only [Act.put, List.setIfInBounds_toArray, List.set_cons_zero, List.set_cons_succ, i64_w, i32_w]
                  rfl
                refine pure_ (i := 9) (N := some 76) (v := ?_) (a' := ?_) #[true, true, true, true, true, true, true, true, false, true, false, false, false, false, false, false, false] rfl rfl (by kernel_rfl) (fun _ _ _ h => h) (Or.inl ⟨by rfl, ?_⟩) ?_ ?_
                rotate_left
                · intro w'
                  go_simp
                  with_reducible rfl
                rotate_left
                · simp only [Act.put, List.setIfInBounds_toArray, List.set_cons_zero, List.set_cons_succ, i64_w, i32_w]
                  rfl
                refine pure_ (i := 10) (N := some 77) (v := ?_) (a' := ?_) #[true, true, true, true, true, true, true, true, false, true, true, false, false, false, false, false, false] rfl rfl (by kernel_rfl) (fun _ _ _ h => h) (Or.inl ⟨by rfl, ?_⟩) ?_ ?_
                rotate_left
                · intro w'
                  go_simp
                  with_reducible rfl
                rotate_left
                · simp only [Act.put, List.setIfInBounds_toArray, List.set_cons_zero, List.set_cons_succ, i64_w, i32_w]
                  rfl
                refine pure_ (i := 11) (N := some 78) (v := ?_) (a' := ?_) #[true, true, true, true, true, true, true, true, false, true, true, true, false, false, false, false, false] rfl rfl (by kernel_rfl) (fun _ _ _ h => h) (Or.inl ⟨by rfl, ?_⟩) ?_ ?_
                rotate_left
                · intro w'
                  go_simp
                  with_reducible rfl
                rotate_left
                · simp only [Act.put, List.setIfInBounds_toArray, List.set_cons_zero, List.set_cons_succ, i64_w, i32_w]
                  rfl
                refine pure_ (i := 12) (N := some 79) (v := ?_) (a' := ?_) #[true, true, true, true, true, true, true, true, false, true, true, true, true, false, false, false, false] rfl rfl (by kernel_rfl) (fun _ _ _ h => h) (Or.inl ⟨by rfl, ?_⟩) ?_ ?_
                rotate_left
                · intro w'
                  go_simp
                  with_reducible rfl
                rotate_left
                · simp only [Act.put, List.setIfInBounds_toArray, List.set_cons_zero, List.set_cons_succ, i64_w, i32_w]
                  rfl
                refine pure_ (i := 13) (N := some 80) (v := ?_) (a' := ?_) #[true, true, true, true, true, true, true, true, false, true, true, true, true, true, false, false, false] rfl rfl (by kernel_rfl) (fun _ _ _ h => h) (Or.inl ⟨by rfl, ?_⟩) ?_ ?_
                rotate_left
                · intro w'
                  go_simp
                  with_reducible rfl
                rotate_left
                · simp only [Act.put, List.setIfInBounds_toArray, List.set_cons_zero, List.set_cons_succ, i64_w, i32_w]
                  rfl
                refine take_ (i := 8) (N := some 75) (v := ?_) (a' := ?_) #[true, true, true, true, true, true, true, true, true, true, true, true, true, true, false, false, false] rfl rfl (by kernel_rfl) (fun _ _ _ h => h) (Or.inl ⟨by rfl, ?_⟩) hHeld ?_ ?_
                rotate_left
                · rintro w' ⟨s0, s1, s2, s3, s4⟩
                  go_simp
                  with_reducible rfl
                rotate_left
                · simp only [Act.put, List.setIfInBounds_toArray, List.set_cons_zero, List.set_cons_succ, i64_w, i32_w]
                  rfl
                refine one_ (i := 14) (N := some 81) #[true, true, true, true, true, true, true, true, true, true, true, true, true, true, true, false, false] rfl rfl (by kernel_rfl) (by decide) (fun K hK => ?_)
                refine goes_ Try.func15 (by kernel_rfl) rfl #[.int .i64 s, .slice (some (ad.add (i * 2))) (k - i) (ca - i)] (by rfl) rfl rfl (by simp only [List.map_toArray, List.map_cons, List.map_nil]; rfl) ?_
                with_reducible refine ((HPT.out _ HCS.out)).mono ?_
                rintro e w5 ⟨rfl, h5⟩
                have k0 := bread h5 hHeld.1
                have k1 := bread h5 hHeld.2.1
                have k2 := bread h5 hHeld.2.2.1
                have k3 := bread h5 hHeld.2.2.2.1
                have k4 := bread h5 hHeld.2.2.2.2
                have HB5 := Aside0.mk ((pw_below_drewN HB2.out 1).trans (h5.mono HB2.out.size))
                have HG5 := Aside0.mk (own_kept HG2.out fun b hb => h5.block b (HG2.out.lt b hb).2)
                have HL5 := Aside0.mk (Kd.C_below (Kd.C_drew HL2.out) h5)
                clear h5
                refine ⟨_, rfl, ?_⟩
                refine hK.out _ _ ⟨k0, k1, k2, k3, k4⟩ (fun hHeld => ?_)
                clear hK K
                refine norm_ (a' := ?_) ?_ ?_
                rotate_left
                · show Act.put _ (some 81) _ = _
                  simp only [Act.put, List.setIfInBounds_toArray, List.set_cons_zero, List.set_cons_succ, i64_w, i32_w]
                  rfl
                refine pure_ (i := 15) (N := some 82) (v := ?_) (a' := ?_) #[true, true, true, true, true, true, true, true, true, true, true, true, true, true, true, true, false] rfl rfl (by kernel_rfl) (fun _ _ _ h => h) (Or.inl ⟨by rfl, ?_⟩) ?_ ?_
                rotate_left
                · intro w'
                  go_simp
                  with_reducible rfl
                rotate_left
                · simp only [Act.put, List.setIfInBounds_toArray, List.set_cons_zero, List.set_cons_succ, i64_w, i32_w]
                  rfl
                refine pure_ (i := 16) (N := some 83) (v := ?_) (a' := ?_) #[true, true, true, true, true, true, true, true, true, true, true, true, true, true, true, true, true] rfl rfl (by kernel_rfl) (fun _ _ _ h => h) (Or.inl ⟨by rfl, ?_⟩) ?_ ?_
                rotate_left
                · intro w'
                  go_simp
                  with_reducible rfl
                rotate_left
                · simp only [Act.put, List.setIfInBounds_toArray, List.set_cons_zero, List.set_cons_succ, i64_w, i32_w]
                  rfl
                refine done_ (by kernel_rfl) ?_
                go_wp2_with fail
                go_roundw
                case rel => exact ⟨at_ + 1, k, by omega, hkl, rfl, rfl, HWN, HG5, HL5, HB5⟩
                case measure => simp [intOf]; omega
          · have hie : i = l.length := by omega
            have HR0 := HW.out
            rw [List.drop_eq_nil_of_le (show l.length ≤ i by omega)] at HR0
            have hate : R.length ≤ at_ := List.drop_eq_nil_iff.1 HR0
            have f1 : decide ((i : Int) < (l.length : Int)) = false := decide_eq_false (by omega)
            have f1n : decide (i < l.length) = false := decide_eq_false hlt
            have f2 : ((at_ : Int) == (R.length : Int)) = true := beq_iff_eq.2 (by omega)
            have f2n : (at_ == R.length) = true := beq_iff_eq.2 (by omega)
            clear HR0 hate
            go_wp2
            go_ret
            exact ⟨rfl, HB.out⟩
  · have d0 : decide ((60 : Int) < (l.length : Int)) = true := decide_eq_true (by omega)
    have d0' : decide ((l.length : Int) > (60 : Int)) = true := decide_eq_true (by omega)
    have d0n : decide (60 < l.length) = true := decide_eq_true (by omega)
    go_enter Try.func3, Try.ntmps3
    go_wp2_with fail
    refine (HLV.out _).mono ?_
    rintro e w1 ⟨rfl, h1⟩
    have HB1 := Aside0.mk (show Below w.heap.size w w1 from h1)
    clear h1
    go_wp2_with fail
    refine (HLV.out _).mono ?_
    rintro e w2 ⟨rfl, h2⟩
    have HB2 := Aside0.mk (HB1.out.trans (h2.mono HB1.out.size))
    clear h2
    go_wp2
    go_ret
    exact ⟨rfl, HB2.out⟩
theorem RollWindowsWalk.walk (a0 : Int) (A1 : Option Addr) (len1 cap1 : Nat) (l1 : List S29) (W : World) (_ : (Lit.int .i64 a0).wf = true)
    (hr1 : ReadsRow (fun (p : S29) c => c = [.int .i64 p.f0, .int .i64 p.f1]) 2 W A1 len1 l1) (hc1 : len1 ≤ cap1) (hq1 : ∀ p ∈ l1, (Lit.int .i64 p.f0).wf = true ∧ (Lit.int .i64 p.f1).wf = true) :
    Calls Try.prog 3 #[.int .i64 a0, .slice A1 len1 cap1] W fun e w' => e = .returned (.bool true) ∧ Below W.heap.size W w' := by
  have hl := hr1.1
  subst hl
  have hr : Kd.C k29 W A1 l1.length l1 := ⟨rfl, hr1.2.1, fun h => by
    obtain ⟨ad, e, hc⟩ := hr1.2.2 h
    refine ⟨ad, e, fun j p hj => ?_⟩
    obtain ⟨c, h1, h2, h3⟩ := hc j p hj
    subst h2
    exact ⟨_, h1, k29_mk W p, h3⟩⟩
  exact law_calls a0 A1 cap1 l1 (fun x hx => (in64 (hq1 x hx).1).2) (fun p hp => in64 (hq1 p hp).2) W hr hc1
end Go.Proofs.Ytnjdngjlbonieaa
