-- PRINTED BY print.sh 35421559b90ae4d0a3588c463048766b98c2df88dd9212a6774a882060cdf62d: not written by this session
import Derived.Test.YtafcogdplhljmaaPNameFoldsx0
import Derived.Test.YtafcogdplhljmaaPNameFoldsx1
import Derived.Test.YtafcogdplhljmaaPNameFoldsx2
namespace Go.Proofs.Ytafcogdplhljmaa.PNameFolds
open Go.RowKit Go.Proofs.YtafcogdplhljmaaW.PrintWords Go.Proofs.YtafcogdplhljmaaW.PrintLast Go.Proofs.YtafcogdplhljmaaW.PrintMore
attribute [local go_sem] max2_int min2_int max_two min_two max_three min_three max_four min_four   -- for this text's walks alone
set_option linter.unusedVariables false
set_option linter.unusedSimpArgs false

/-! ### catacomblaw12_NameFolds: function 4 -/
mutual
def catacomblaw12_NameFolds.j0 : Nat → ByteArray → Bool → Option (Bool)
  | 0, _, _ => none
  | k + 1, x0, x13 => if x13 = true then ((catacomblaw12_lives.f k).bind fun t115 => (some t115)) else (catacomblaw12_NameFolds.l0 k x0 (⟨#[]⟩ : ByteArray) (x0.size : Int) 0)
def catacomblaw12_NameFolds.l0 : Nat → ByteArray → ByteArray → Int → Int → Option (Bool)
  | 0, _, _, _, _ => none
  | k + 1, x0, x3, x16, x17 => if x17 < x16 then (if 0 ≤ x17 then (if x17 ≤ (wrap64 (x17 + 1)) then (if (wrap64 (x17 + 1)) ≤ (x0.size : Int) then (if x17 < (x0.size : Int) then (if (bt x0 x17) ≥ 65 then (catacomblaw12_NameFolds.j2 k x0 x3 x17 (x0.extract (x17 : Int).toNat ((wrap64 (x17 + 1)) : Int).toNat) x16 x17 (decide ((bt x0 x17) ≤ 90))) else (catacomblaw12_NameFolds.j2 k x0 x3 x17 (x0.extract (x17 : Int).toNat ((wrap64 (x17 + 1)) : Int).toNat) x16 x17 false)) else (none)) else (none)) else (none)) else (none)) else ((name_Fold.f k x0).bind fun t116 => (if t116.toList = x3.toList then (if t116.toList = ([] : List UInt8) then ((catacombref12_Right.f k x0).bind fun t117 => (if t117 = true then (some (t116.toList == x0.toList)) else (some true))) else ((catacombref12_Right.f k t116).bind fun t118 => (if t118 = true then ((catacombref12_Right.f k x0).bind fun t119 => (if t119 = true then (some (t116.toList == x0.toList)) else (some true))) else (some false)))) else (some false)))
def catacomblaw12_NameFolds.j2 : Nat → ByteArray → ByteArray → Int → ByteArray → Int → Int → Bool → Option (Bool)
  | 0, _, _, _, _, _, _, _ => none
  | k + 1, x0, x3, x4, x5, x16, x17, x34 => if x34 = true then (if 0 ≤ x4 then (if x4 < (x0.size : Int) then (catacomblaw12_NameFolds.j3 k x0 x3 (strOfNums (([((((bt x0 x4) - 65) % 256) + 97) % 256] : List Int))) x16 x17) else (none)) else (none)) else (catacomblaw12_NameFolds.j3 k x0 x3 x5 x16 x17)
def catacomblaw12_NameFolds.j3 : Nat → ByteArray → ByteArray → ByteArray → Int → Int → Option (Bool)
  | 0, _, _, _, _, _ => none
  | k + 1, x0, x3, x5, x16, x17 => if (x3.size : Int) < 16 then (if 1 + x5.size ≤ 9223372036854775807 then ((catacombref12_Right.f k ((⟨#[97]⟩ : ByteArray) ++ x5)).bind fun t123 => (if t123 = true then (if x3.toList = ([] : List UInt8) then ((catacombref12_Right.f k x5).bind fun t124 => (if t124 = true then (if x3.size + x5.size ≤ 9223372036854775807 then (catacomblaw12_NameFolds.l0 k x0 (x3 ++ x5) x16 (wrap64 (x17 + 1))) else (none)) else (catacomblaw12_NameFolds.l0 k x0 x3 x16 (wrap64 (x17 + 1))))) else (if x3.size + x5.size ≤ 9223372036854775807 then (catacomblaw12_NameFolds.l0 k x0 (x3 ++ x5) x16 (wrap64 (x17 + 1))) else (none))) else (catacomblaw12_NameFolds.l0 k x0 x3 x16 (wrap64 (x17 + 1))))) else (none)) else (catacomblaw12_NameFolds.l0 k x0 x3 x16 (wrap64 (x17 + 1)))
end
def catacomblaw12_NameFolds.f (k : Nat) (a0 : ByteArray) : Option (Bool) := (catacomblaw12_lives.f k).bind fun t114 => (if t114 = true then (catacomblaw12_NameFolds.j0 k a0 (decide ((a0.size : Int) > 100))) else (catacomblaw12_NameFolds.j0 k a0 true))
theorem catacomblaw12_NameFolds.mono_l : ∀ k, (∀ y0 y1, LeO (catacomblaw12_NameFolds.j0 k y0 y1) (catacomblaw12_NameFolds.j0 (k + 1) y0 y1)) ∧ (∀ y0 y1 y2 y3, LeO (catacomblaw12_NameFolds.l0 k y0 y1 y2 y3) (catacomblaw12_NameFolds.l0 (k + 1) y0 y1 y2 y3)) ∧ (∀ y0 y1 y2 y3 y4 y5 y6, LeO (catacomblaw12_NameFolds.j2 k y0 y1 y2 y3 y4 y5 y6) (catacomblaw12_NameFolds.j2 (k + 1) y0 y1 y2 y3 y4 y5 y6)) ∧ (∀ y0 y1 y2 y3 y4, LeO (catacomblaw12_NameFolds.j3 k y0 y1 y2 y3 y4) (catacomblaw12_NameFolds.j3 (k + 1) y0 y1 y2 y3 y4))
  | 0 => ⟨fun _ _ r h => by simp [catacomblaw12_NameFolds.j0] at h, fun _ _ _ _ r h => by simp [catacomblaw12_NameFolds.l0] at h, fun _ _ _ _ _ _ _ r h => by simp [catacomblaw12_NameFolds.j2] at h, fun _ _ _ _ _ r h => by simp [catacomblaw12_NameFolds.j3] at h⟩
  | k + 1 => by
    obtain ⟨ih0, ih1, ih2, ih3⟩ := catacomblaw12_NameFolds.mono_l k
    refine ⟨?_, ?_, ?_, ?_⟩
    · intro y0 y1
      unfold catacomblaw12_NameFolds.j0
      repeat' first
      | (with_reducible exact ih0 _ _)
      | (with_reducible exact ih1 _ _ _ _)
      | (with_reducible exact ih2 _ _ _ _ _ _ _)
      | (with_reducible exact ih3 _ _ _ _ _)
      | (with_reducible exact catacomblaw12_lives.mono _)
      | (with_reducible exact catacombref12_Right.mono _ _)
      | (with_reducible exact name_Fold.mono _ _)
      | (with_reducible exact LeO.refl _)
      | (with_reducible exact LeO.none _)
      | (with_reducible refine LeO.ite ?_ ?_)
      | (with_reducible refine LeO.bind ?_ (fun _ => ?_))
      | exact ih0 _ _
      | exact ih1 _ _ _ _
      | exact ih2 _ _ _ _ _ _ _
      | exact ih3 _ _ _ _ _
      | exact catacomblaw12_lives.mono _
      | exact catacombref12_Right.mono _ _
      | exact name_Fold.mono _ _
      | exact LeO.none _
      | refine LeO.ite ?_ ?_
      | refine LeO.bind ?_ (fun _ => ?_)
    · intro y0 y1 y2 y3
      unfold catacomblaw12_NameFolds.l0
      repeat' first
      | (with_reducible exact ih0 _ _)
      | (with_reducible exact ih1 _ _ _ _)
      | (with_reducible exact ih2 _ _ _ _ _ _ _)
      | (with_reducible exact ih3 _ _ _ _ _)
      | (with_reducible exact catacomblaw12_lives.mono _)
      | (with_reducible exact catacombref12_Right.mono _ _)
      | (with_reducible exact name_Fold.mono _ _)
      | (with_reducible exact LeO.refl _)
      | (with_reducible exact LeO.none _)
      | (with_reducible refine LeO.ite ?_ ?_)
      | (with_reducible refine LeO.bind ?_ (fun _ => ?_))
      | exact ih0 _ _
      | exact ih1 _ _ _ _
      | exact ih2 _ _ _ _ _ _ _
      | exact ih3 _ _ _ _ _
      | exact catacomblaw12_lives.mono _
      | exact catacombref12_Right.mono _ _
      | exact name_Fold.mono _ _
      | exact LeO.none _
      | refine LeO.ite ?_ ?_
      | refine LeO.bind ?_ (fun _ => ?_)
    · intro y0 y1 y2 y3 y4 y5 y6
      unfold catacomblaw12_NameFolds.j2
      repeat' first
      | (with_reducible exact ih0 _ _)
      | (with_reducible exact ih1 _ _ _ _)
      | (with_reducible exact ih2 _ _ _ _ _ _ _)
      | (with_reducible exact ih3 _ _ _ _ _)
      | (with_reducible exact catacomblaw12_lives.mono _)
      | (with_reducible exact catacombref12_Right.mono _ _)
      | (with_reducible exact name_Fold.mono _ _)
      | (with_reducible exact LeO.refl _)
      | (with_reducible exact LeO.none _)
      | (with_reducible refine LeO.ite ?_ ?_)
      | (with_reducible refine LeO.bind ?_ (fun _ => ?_))
      | exact ih0 _ _
      | exact ih1 _ _ _ _
      | exact ih2 _ _ _ _ _ _ _
      | exact ih3 _ _ _ _ _
      | exact catacomblaw12_lives.mono _
      | exact catacombref12_Right.mono _ _
      | exact name_Fold.mono _ _
      | exact LeO.none _
      | refine LeO.ite ?_ ?_
      | refine LeO.bind ?_ (fun _ => ?_)
    · intro y0 y1 y2 y3 y4
      unfold catacomblaw12_NameFolds.j3
      repeat' first
      | (with_reducible exact ih0 _ _)
      | (with_reducible exact ih1 _ _ _ _)
      | (with_reducible exact ih2 _ _ _ _ _ _ _)
      | (with_reducible exact ih3 _ _ _ _ _)
      | (with_reducible exact catacomblaw12_lives.mono _)
      | (with_reducible exact catacombref12_Right.mono _ _)
      | (with_reducible exact name_Fold.mono _ _)
      | (with_reducible exact LeO.refl _)
      | (with_reducible exact LeO.none _)
      | (with_reducible refine LeO.ite ?_ ?_)
      | (with_reducible refine LeO.bind ?_ (fun _ => ?_))
      | exact ih0 _ _
      | exact ih1 _ _ _ _
      | exact ih2 _ _ _ _ _ _ _
      | exact ih3 _ _ _ _ _
      | exact catacomblaw12_lives.mono _
      | exact catacombref12_Right.mono _ _
      | exact name_Fold.mono _ _
      | exact LeO.none _
      | refine LeO.ite ?_ ?_
      | refine LeO.bind ?_ (fun _ => ?_)
theorem catacomblaw12_NameFolds.mono : ∀ a0 k, LeO (catacomblaw12_NameFolds.f k a0) (catacomblaw12_NameFolds.f (k + 1) a0) := by
  intro a0 k
  obtain ⟨ih0, ih1, ih2, ih3⟩ := catacomblaw12_NameFolds.mono_l k
  unfold catacomblaw12_NameFolds.f
  repeat' first
      | (with_reducible exact ih0 _ _)
      | (with_reducible exact ih1 _ _ _ _)
      | (with_reducible exact ih2 _ _ _ _ _ _ _)
      | (with_reducible exact ih3 _ _ _ _ _)
      | (with_reducible exact catacomblaw12_lives.mono _)
      | (with_reducible exact catacombref12_Right.mono _ _)
      | (with_reducible exact name_Fold.mono _ _)
      | (with_reducible exact LeO.refl _)
      | (with_reducible exact LeO.none _)
      | (with_reducible refine LeO.ite ?_ ?_)
      | (with_reducible refine LeO.bind ?_ (fun _ => ?_))
      | exact ih0 _ _
      | exact ih1 _ _ _ _
      | exact ih2 _ _ _ _ _ _ _
      | exact ih3 _ _ _ _ _
      | exact catacomblaw12_lives.mono _
      | exact catacombref12_Right.mono _ _
      | exact name_Fold.mono _ _
      | exact LeO.none _
      | refine LeO.ite ?_ ?_
      | refine LeO.bind ?_ (fun _ => ?_)
set_option maxHeartbeats 8000000 in
set_option maxRecDepth 100000 in
theorem catacomblaw12_NameFolds.calls (k : Nat) (a0 : ByteArray) (r : Bool) (w : World) (h : catacomblaw12_NameFolds.f k a0 = some r) :
    Calls Try.prog 4 #[.string a0] w fun e w' => e = .returned (.bool r) ∧ Below w.heap.size w w' := by
  have HB := Aside0.mk (Below.refl w.heap.size w)
  have H : ((catacomblaw12_lives.f k).bind fun t114 => (if t114 = true then (catacomblaw12_NameFolds.j0 k a0 (decide ((a0.size : Int) > 100))) else (catacomblaw12_NameFolds.j0 k a0 true))) = some r := h
  clear h
  have HC2 := Aside0.mk H
  clear H
  go_enter Try.func4, Try.ntmps4
  go_upto_region 1 with (fail)
  go_cut [13] (fun v13 wc => ∃ (kq : Nat) (x13_1 : Bool), v13 = .bool x13_1 ∧ Aside0 (catacomblaw12_NameFolds.j0 kq a0 x13_1 = some r) ∧ Aside0 (kq ≤ k) ∧ Aside0 (Below w.heap.size w wc))
  case first =>
    have H := HC2.out
    clear HC2
    replace H := Option.bind_eq_some_iff.mp H
    obtain ⟨t114, A30, H⟩ := H
    replace H : (if t114 = true then (catacomblaw12_NameFolds.j0 k a0 (decide ((a0.size : Int) > 100))) else (catacomblaw12_NameFolds.j0 k a0 true)) = some r := H
    have A3 := Aside0.mk A30
    clear A30
    by_cases c4 : t114 = true
    · subst c4
      have H1 : (catacomblaw12_NameFolds.j0 k a0 (decide ((a0.size : Int) > 100))) = some r := by rw [if_pos rfl] at H; exact H
      clear H
      have H := H1
      clear H1
      have H' := Aside0.mk H
      clear H
      go_wp2_with (first | ((with_reducible refine gate_callee (f := 14) rfl ?_); refine goesL_ (some 7) rfl rfl Try.func14 (by kernel_rfl) rfl #[] rfl (by (try simp only [List.map_toArray, List.map_cons, List.map_nil]); first | done | rfl | (simp only [List.length_drop, List.length_take]; rfl)) ?_; (with_reducible refine (catacomblaw12_lives.calls k  true _ A3.out).mono ?_); rintro e w5 ⟨rfl, hb⟩; refine ⟨_, rfl, ?_⟩; have n0_ := Aside0.mk (below_step (by repeat (first | (with_reducible first | exact HB.out | apply below_alloc | apply pw_below_drewN | apply below_drew1) | exact HB.out)) hb); clear HB; have HB := n0_; clear n0_; (try clear hb); (try clear hb2); (try clear hk); (try clear hi)))
      go_meet
      case rel => exact ⟨_, (decide ((a0.size : Int) > 100)), (by first | rfl | (simp; done) | (simp [*]; done)), H', ⟨by first | omega | exact Nat.le_refl _⟩, ⟨by repeat (first | (with_reducible first | exact HB.out | apply below_alloc | apply pw_below_drewN | apply below_drew1) | exact HB.out)⟩⟩
    · replace c4 := Bool.eq_false_iff.mpr c4
      subst c4
      have H1 : (catacomblaw12_NameFolds.j0 k a0 true) = some r := by rw [if_neg (show ¬ (false = true) by decide)] at H; exact H
      clear H
      have H := H1
      clear H1
      have H' := Aside0.mk H
      clear H
      go_wp2_with (first | ((with_reducible refine gate_callee (f := 14) rfl ?_); refine goesL_ (some 7) rfl rfl Try.func14 (by kernel_rfl) rfl #[] rfl (by (try simp only [List.map_toArray, List.map_cons, List.map_nil]); first | done | rfl | (simp only [List.length_drop, List.length_take]; rfl)) ?_; (with_reducible refine (catacomblaw12_lives.calls k  false _ A3.out).mono ?_); rintro e w6 ⟨rfl, hb⟩; refine ⟨_, rfl, ?_⟩; have n0_ := Aside0.mk (below_step (by repeat (first | (with_reducible first | exact HB.out | apply below_alloc | apply pw_below_drewN | apply below_drew1) | exact HB.out)) hb); clear HB; have HB := n0_; clear n0_; (try clear hb); (try clear hb2); (try clear hk); (try clear hi)))
      go_meet
      case rel => exact ⟨_, (true), (by first | rfl | (simp; done) | (simp [*]; done)), H', ⟨by first | omega | exact Nat.le_refl _⟩, ⟨by repeat (first | (with_reducible first | exact HB.out | apply below_alloc | apply pw_below_drewN | apply below_drew1) | exact HB.out)⟩⟩
  case rest =>
    clear HC2
    try clear c1
    try clear p2
    try clear c4
    obtain ⟨kq, x13_1, rfl, HA, HJ1, HB⟩ := hcut
    cases kq with
    | zero => exact absurd HA.out (by simp [catacomblaw12_NameFolds.j0])
    | succ kj1 =>
      have H := HA.out
      clear HA
      simp only [catacomblaw12_NameFolds.j0] at H
      by_cases c7 : x13_1 = true
      · subst c7
        have H1 : ((catacomblaw12_lives.f kj1).bind fun t115 => (some t115)) = some r := by rw [if_pos rfl] at H; exact H
        clear H
        have H := H1
        clear H1
        replace H := Option.bind_eq_some_iff.mp H
        obtain ⟨t115, A80, H⟩ := H
        replace H : (some t115) = some r := H
        have A8 := Aside0.mk A80
        clear A80
        obtain rfl := Option.some.inj H
        go_wp2_with (first | ((with_reducible refine gate_callee (f := 14) rfl ?_); refine goesL_ (some 14) rfl rfl Try.func14 (by kernel_rfl) rfl #[] rfl (by (try simp only [List.map_toArray, List.map_cons, List.map_nil]); first | done | rfl | (simp only [List.length_drop, List.length_take]; rfl)) ?_; (with_reducible refine (catacomblaw12_lives.calls kj1  t115 _ A8.out).mono ?_); rintro e w9 ⟨rfl, hb⟩; refine ⟨_, rfl, ?_⟩; have n0_ := Aside0.mk (below_step (by repeat (first | (with_reducible first | exact HB.out | apply below_alloc | apply pw_below_drewN | apply below_drew1) | exact HB.out)) hb); clear HB; have HB := n0_; clear n0_; (try clear hb); (try clear hb2); (try clear hk); (try clear hi)))
        go_ret
        exact ⟨by first | rfl | (simp [errW_none, errW_some] <;> rfl) | (simp [*, errW_none, errW_some] <;> rfl), by repeat (first | (with_reducible first | exact HB.out | apply below_alloc | apply pw_below_drewN | apply below_drew1) | exact HB.out)⟩
      · replace c7 := Bool.eq_false_iff.mpr c7
        subst c7
        have H1 : (catacomblaw12_NameFolds.l0 kj1 a0 (⟨#[]⟩ : ByteArray) (a0.size : Int) 0) = some r := by rw [if_neg (show ¬ (false = true) by decide)] at H; exact H
        clear H
        have H := H1
        clear H1
        have H' := Aside0.mk H
        clear H
        go_wp2
        go_loopg [3, 17] kj1 (fun kq v3 v17 w' => ∃ (x3_2 : ByteArray) (x17_2 : Int), v3 = .string x3_2 ∧ v17 = .int .i64 x17_2 ∧ Aside0 (catacomblaw12_NameFolds.l0 kq a0 x3_2 (a0.size : Int) x17_2 = some r) ∧ Aside0 (kq ≤ kj1) ∧ Aside0 (Below w.heap.size w w'))
        case atStart => exact ⟨((⟨#[]⟩ : ByteArray)), (0), (by first | rfl | (simp; done) | (simp [*]; done)), (by first | rfl | (simp; done) | (simp [*]; done)), H', ⟨Nat.le_refl _⟩, ⟨by repeat (first | (with_reducible first | exact HB.out | apply below_alloc | apply pw_below_drewN | apply below_drew1) | exact HB.out)⟩⟩
        case round =>
          clear H'
          try clear c1
          try clear p2
          try clear c4
          try clear c7
          try clear p2
          obtain ⟨x3_2, x17_2, rfl, rfl, HA, HK2, HB⟩ := hrel
          cases gk with
          | zero => exact absurd HA.out (by simp [catacomblaw12_NameFolds.l0])
          | succ k2 =>
            have H := HA.out
            clear HA
            simp only [catacomblaw12_NameFolds.l0] at H
            by_cases c10 : x17_2 < (a0.size : Int)
            · rw [if_pos c10] at H
              have c10b0 : decide (x17_2 < (a0.size : Int)) = true := decide_eq_true c10
              clear c10
              by_cases c11 : 0 ≤ x17_2
              · rw [if_pos c11] at H
                have c11b0 := eq_true c11
                have c11b1 : decide (0 ≤ x17_2) = true := decide_eq_true c11
                clear c11
                by_cases c12 : x17_2 ≤ (wrap64 (x17_2 + 1))
                · rw [if_pos c12] at H
                  have c12b0 := eq_true c12
                  have c12b1 : decide (x17_2 ≤ (wrap64 (x17_2 + 1))) = true := decide_eq_true c12
                  by_cases c13 : (wrap64 (x17_2 + 1)) ≤ (a0.size : Int)
                  · rw [if_pos c13] at H
                    have c13b0 := eq_true c13
                    have c13b1 : decide ((wrap64 (x17_2 + 1)) ≤ (a0.size : Int)) = true := decide_eq_true c13
                    have HC14 := Aside0.mk H
                    clear H
                    go_upto_region 8 with (fail)
                    go_cut [34] (fun v34 wc => ∃ (kq : Nat) (x34_13 : Bool), v34 = .bool x34_13 ∧ Aside0 (catacomblaw12_NameFolds.j2 kq a0 x3_2 x17_2 (a0.extract (x17_2 : Int).toNat ((wrap64 (x17_2 + 1)) : Int).toNat) (a0.size : Int) x17_2 x34_13 = some r) ∧ Aside0 (kq ≤ k2) ∧ Aside0 (Below w.heap.size w wc))
                    case first =>
                      have H := HC14.out
                      clear HC14
                      by_cases c15 : x17_2 < (a0.size : Int)
                      · rw [if_pos c15] at H
                        have c15b0 : decide (x17_2 < (a0.size : Int)) = true := decide_eq_true c15
                        clear c15
                        (first | rw [c15b0] | (simp only [i64_w, i32_w]; rw [c15b0]) | skip)
                        by_cases c17 : (bt a0 x17_2) ≥ 65
                        · rw [if_pos c17] at H
                          have c17b0 : decide (65 ≤ (bt a0 x17_2)) = true := decide_eq_true c17
                          clear c17
                          have H' := Aside0.mk H
                          clear H
                          have p16 : 0 ≤ (x17_2 : Int) := of_decide_eq_true (by first | (with_reducible assumption) | assumption)
                          have q16 : x17_2 < (a0.size : Int) := of_decide_eq_true (by first | (with_reducible assumption) | assumption)
                          have hx16 := bt_at a0 x17_2
                          replace p16 := eq_true p16
                          replace q16 := eq_true q16
                          have p18 : 0 ≤ (x17_2 : Int) := of_decide_eq_true (by first | (with_reducible assumption) | assumption)
                          have q18 : x17_2 < (a0.size : Int) := of_decide_eq_true (by first | (with_reducible assumption) | assumption)
                          have hx18 := bt_at a0 x17_2
                          replace p18 := eq_true p18
                          replace q18 := eq_true q18
                          go_wp2
                          go_meet
                          case rel => exact ⟨_, (decide ((bt a0 x17_2) ≤ 90)), (by first | rfl | (simp; done) | (simp [*]; done)), H', ⟨by have := HJ1.out; have := HK2.out; first | omega | exact Nat.le_refl _⟩, ⟨by repeat (first | (with_reducible first | exact HB.out | apply below_alloc | apply pw_below_drewN | apply below_drew1) | exact HB.out)⟩⟩
                        · rw [if_neg c17] at H
                          have c17b0 : decide (65 ≤ (bt a0 x17_2)) = false := decide_eq_false c17
                          clear c17
                          have H' := Aside0.mk H
                          clear H
                          have p16 : 0 ≤ (x17_2 : Int) := of_decide_eq_true (by first | (with_reducible assumption) | assumption)
                          have q16 : x17_2 < (a0.size : Int) := of_decide_eq_true (by first | (with_reducible assumption) | assumption)
                          have hx16 := bt_at a0 x17_2
                          replace p16 := eq_true p16
                          replace q16 := eq_true q16
                          go_wp2
                          go_meet
                          case rel => exact ⟨_, (false), (by first | rfl | (simp; done) | (simp [*]; done)), H', ⟨by have := HJ1.out; have := HK2.out; first | omega | exact Nat.le_refl _⟩, ⟨by repeat (first | (with_reducible first | exact HB.out | apply below_alloc | apply pw_below_drewN | apply below_drew1) | exact HB.out)⟩⟩
                      · rw [if_neg c15] at H
                        exact absurd H (by simp)
                    case rest =>
                      clear HC14
                      try clear c1
                      try clear p1
                      try clear q1
                      try clear hx1
                      try clear p2
                      try clear c4
                      try clear p6
                      try clear c7
                      try clear c10
                      try clear c10b0
                      try clear c11
                      try clear c11b0
                      try clear c11b1
                      try clear c12
                      try clear c12b0
                      try clear c12b1
                      try clear c13
                      try clear c13b0
                      try clear c13b1
                      try clear c14
                      try clear c15
                      try clear c15b0
                      try clear p16
                      try clear q16
                      try clear hx16
                      try clear c17
                      try clear c17b0
                      try clear p18
                      try clear q18
                      try clear hx18
                      try clear p16
                      try clear p18
                      try clear p2
                      try clear q16
                      try clear q18
                      obtain ⟨kq, x34_13, rfl, HA, HJ13, HB⟩ := hcut
                      cases kq with
                      | zero => exact absurd HA.out (by simp [catacomblaw12_NameFolds.j2])
                      | succ kj13 =>
                        have H := HA.out
                        clear HA
                        simp only [catacomblaw12_NameFolds.j2] at H
                        have HC19 := Aside0.mk H
                        clear H
                        go_upto_if 34 with (fail)
                        go_cut [5] (fun v5 wc => ∃ (kq : Nat) (x5_18 : ByteArray), v5 = .string x5_18 ∧ Aside0 (catacomblaw12_NameFolds.j3 kq a0 x3_2 x5_18 (a0.size : Int) x17_2 = some r) ∧ Aside0 (kq ≤ kj13) ∧ Aside0 (Below w.heap.size w wc))
                        case first =>
                          have H := HC19.out
                          clear HC19
                          by_cases c20 : x34_13 = true
                          · subst c20
                            have H1 : (if 0 ≤ x17_2 then (if x17_2 < (a0.size : Int) then (catacomblaw12_NameFolds.j3 kj13 a0 x3_2 (strOfNums (([((((bt a0 x17_2) - 65) % 256) + 97) % 256] : List Int))) (a0.size : Int) x17_2) else (none)) else (none)) = some r := by rw [if_pos rfl] at H; exact H
                            clear H
                            have H := H1
                            clear H1
                            by_cases c21 : 0 ≤ x17_2
                            · rw [if_pos c21] at H
                              have c21b0 : decide (0 ≤ x17_2) = true := decide_eq_true c21
                              clear c21
                              (first | rw [c21b0] | (simp only [i64_w, i32_w]; rw [c21b0]) | skip)
                              by_cases c22 : x17_2 < (a0.size : Int)
                              · rw [if_pos c22] at H
                                have c22b0 : decide (x17_2 < (a0.size : Int)) = true := decide_eq_true c22
                                clear c22
                                obtain ⟨y120, hy120⟩ : ∃ y_ : List Int, y_ = (([((((bt a0 x17_2) - 65) % 256) + 97) % 256] : List Int)) := ⟨_, rfl⟩
                                replace H : (catacomblaw12_NameFolds.j3 kj13 a0 x3_2 (strOfNums y120) (a0.size : Int) x17_2) = some r := by first | (rw [hy120]; with_reducible exact H) | (have H2_ := (Option.bind_some _ _).symm.trans H; rw [hy120]; with_reducible exact H2_) | (have H2_ := (Option.bind_some _ _).symm.trans H; with_reducible exact H2_) | with_reducible exact H | (rw [hy120]; exact H) | exact H
                                have Ny120 := Aside0.mk hy120
                                clear hy120
                                have H' := Aside0.mk H
                                clear H
                                have p23 : 0 ≤ (x17_2 : Int) := of_decide_eq_true (by first | (with_reducible assumption) | assumption)
                                have q23 : x17_2 < (a0.size : Int) := of_decide_eq_true (by first | (with_reducible assumption) | assumption)
                                have hx23 := bt_at a0 x17_2
                                replace p23 := eq_true p23
                                replace q23 := eq_true q23
                                go_wp2_with (first | ((with_reducible refine gate_dst (N := 40) rfl ?_); (try (refine gate_guard (by rfl) ?_; dsimp only)); refine Kd.R_lit (Kd.int .u8) _ 5 ?hg (N := 40) ?hd (xs := ([((((bt a0 x17_2) - 65) % 256) + 97) % 256] : List Int)) (inner := [.int .u8 (((((bt a0 x17_2) - 65) % 256) + 97) % 256)]) (ok := fun _ => True) (okp := fun _ => True) ?hr ?hp (fun _ hk => hk) trivial (Below.refl _ _) (Nat.le_refl _) (by simp) ?_; (case hd => rfl); (case hg => rfl); (case hr => first | (go_simp; done) | (go_simp; rfl)); (case hp => exact (Reps.one (show Kd.M (Kd.int .u8) _ _ _ (((((bt a0 x17_2) - 65) % 256) + 97) % 256) [.int .u8 (((((bt a0 x17_2) - 65) % 256) + 97) % 256)] from rfl) (Reps.none _ _))); intro v121 w24 ho25 hb hg_ hnew_; clear hg_ hnew_; (first | rw [← Ny120.out] at ho25 | (simp only [Int.reduceToNat] at ho25; rw [← Ny120.out] at ho25)); have n0_ := Aside0.mk (Kd.R_lower ho25 (below_size (by repeat (first | (with_reducible first | exact HB.out | apply below_alloc | apply pw_below_drewN | apply below_drew1) | exact HB.out)))); have n1_ := Aside0.mk (below_step (by repeat (first | (with_reducible first | exact HB.out | apply below_alloc | apply pw_below_drewN | apply below_drew1) | exact HB.out)) hb); clear HB; have HO122 := n0_; have HB := n1_; clear n0_ n1_; clear hb ho25; have hcv26 := own_string (P := Try.prog) Try.underlying24 Try.underlying5 Try.underlying9 (Kd.own_of_R HO122.out)))
                                go_meet
                                case rel => exact ⟨_, (strOfNums y120), (by first | rfl | (simp; done) | (simp [*]; done)), H', ⟨by have := HJ1.out; have := HK2.out; have := HJ13.out; first | omega | exact Nat.le_refl _⟩, ⟨by repeat (first | (with_reducible first | exact HB.out | apply below_alloc | apply pw_below_drewN | apply below_drew1) | exact HB.out)⟩⟩
                              · rw [if_neg c22] at H
                                exact absurd H (by simp)
                            · rw [if_neg c21] at H
                              exact absurd H (by simp)
                          · replace c20 := Bool.eq_false_iff.mpr c20
                            subst c20
                            have H1 : (catacomblaw12_NameFolds.j3 kj13 a0 x3_2 (a0.extract (x17_2 : Int).toNat ((wrap64 (x17_2 + 1)) : Int).toNat) (a0.size : Int) x17_2) = some r := by rw [if_neg (show ¬ (false = true) by decide)] at H; exact H
                            clear H
                            have H := H1
                            clear H1
                            have H' := Aside0.mk H
                            clear H
                            go_wp2
                            go_meet
                            case rel => exact ⟨_, ((a0.extract (x17_2 : Int).toNat ((wrap64 (x17_2 + 1)) : Int).toNat)), (by first | rfl | (simp; done) | (simp [*]; done)), H', ⟨by have := HJ1.out; have := HK2.out; have := HJ13.out; first | omega | exact Nat.le_refl _⟩, ⟨by repeat (first | (with_reducible first | exact HB.out | apply below_alloc | apply pw_below_drewN | apply below_drew1) | exact HB.out)⟩⟩
                        case rest =>
                          clear HC19
                          try clear c1
                          try clear p1
                          try clear q1
                          try clear hx1
                          try clear c2
                          try clear p2
                          try clear q2
                          try clear hx2
                          try clear hcv2
                          try clear c4
                          try clear p6
                          try clear c7
                          try clear c10
                          try clear c10b0
                          try clear c11
                          try clear c11b0
                          try clear c11b1
                          try clear c12
                          try clear c12b0
                          try clear c12b1
                          try clear c13
                          try clear c13b0
                          try clear c13b1
                          try clear c14
                          try clear c15
                          try clear c15b0
                          try clear p16
                          try clear q16
                          try clear hx16
                          try clear c17
                          try clear c17b0
                          try clear p18
                          try clear q18
                          try clear hx18
                          try clear c20
                          try clear c21
                          try clear c21b0
                          try clear c22
                          try clear c22b0
                          try clear p23
                          try clear q23
                          try clear hx23
                          try clear hcv26
                          try clear p1
                          try clear p16
                          try clear p18
                          try clear p2
                          try clear p23
                          try clear p6
                          try clear q1
                          try clear q16
                          try clear q18
                          try clear q23
                          obtain ⟨kq, x5_18, rfl, HA, HJ18, HB⟩ := hcut
                          cases kq with
                          | zero => exact absurd HA.out (by simp [catacomblaw12_NameFolds.j3])
                          | succ kj18 =>
                            have H := HA.out
                            clear HA
                            simp only [catacomblaw12_NameFolds.j3] at H
                            by_cases c27 : (x3_2.size : Int) < 16
                            · rw [if_pos c27] at H
                              have c27b0 : decide ((x3_2.size : Int) < 16) = true := decide_eq_true c27
                              have c27b1 : decide (x3_2.size < 16) = true := decide_eq_true (by omega)
                              clear c27
                              by_cases c28 : 1 + x5_18.size ≤ 9223372036854775807
                              · rw [if_pos c28] at H
                                have c28b0 := eq_true c28
                                have c28b1 : decide (1 + x5_18.size ≤ 9223372036854775807) = true := decide_eq_true c28
                                try have c28b2 : (9223372036854775807 < 1 + x5_18.size) = False := eq_false (Nat.not_lt.2 c28)
                                replace H := Option.bind_eq_some_iff.mp H
                                obtain ⟨t123, A290, H⟩ := H
                                replace H : (if t123 = true then (if x3_2.toList = ([] : List UInt8) then ((catacombref12_Right.f kj18 x5_18).bind fun t124 => (if t124 = true then (if x3_2.size + x5_18.size ≤ 9223372036854775807 then (catacomblaw12_NameFolds.l0 kj18 a0 (x3_2 ++ x5_18) (a0.size : Int) (wrap64 (x17_2 + 1))) else (none)) else (catacomblaw12_NameFolds.l0 kj18 a0 x3_2 (a0.size : Int) (wrap64 (x17_2 + 1))))) else (if x3_2.size + x5_18.size ≤ 9223372036854775807 then (catacomblaw12_NameFolds.l0 kj18 a0 (x3_2 ++ x5_18) (a0.size : Int) (wrap64 (x17_2 + 1))) else (none))) else (catacomblaw12_NameFolds.l0 kj18 a0 x3_2 (a0.size : Int) (wrap64 (x17_2 + 1)))) = some r := H
                                have A29 := Aside0.mk A290
                                clear A290
                                by_cases c30 : t123 = true
                                · subst c30
                                  have H1 : (if x3_2.toList = ([] : List UInt8) then ((catacombref12_Right.f kj18 x5_18).bind fun t124 => (if t124 = true then (if x3_2.size + x5_18.size ≤ 9223372036854775807 then (catacomblaw12_NameFolds.l0 kj18 a0 (x3_2 ++ x5_18) (a0.size : Int) (wrap64 (x17_2 + 1))) else (none)) else (catacomblaw12_NameFolds.l0 kj18 a0 x3_2 (a0.size : Int) (wrap64 (x17_2 + 1))))) else (if x3_2.size + x5_18.size ≤ 9223372036854775807 then (catacomblaw12_NameFolds.l0 kj18 a0 (x3_2 ++ x5_18) (a0.size : Int) (wrap64 (x17_2 + 1))) else (none))) = some r := by rw [if_pos rfl] at H; exact H
                                  clear H
                                  have H := H1
                                  clear H1
                                  by_cases c31 : x3_2.toList = ([] : List UInt8)
                                  · rw [if_pos c31] at H
                                    have c31b0 : (x3_2.toList == ([] : List UInt8)) = true := beq_iff_eq.mpr c31
                                    have c31b1 : (x3_2.toList != ([] : List UInt8)) = false := bne_eq_false_iff_eq.mpr c31
                                    clear c31
                                    replace H := Option.bind_eq_some_iff.mp H
                                    obtain ⟨t124, A320, H⟩ := H
                                    replace H : (if t124 = true then (if x3_2.size + x5_18.size ≤ 9223372036854775807 then (catacomblaw12_NameFolds.l0 kj18 a0 (x3_2 ++ x5_18) (a0.size : Int) (wrap64 (x17_2 + 1))) else (none)) else (catacomblaw12_NameFolds.l0 kj18 a0 x3_2 (a0.size : Int) (wrap64 (x17_2 + 1)))) = some r := H
                                    have A32 := Aside0.mk A320
                                    clear A320
                                    by_cases c33 : t124 = true
                                    · subst c33
                                      have H1 : (if x3_2.size + x5_18.size ≤ 9223372036854775807 then (catacomblaw12_NameFolds.l0 kj18 a0 (x3_2 ++ x5_18) (a0.size : Int) (wrap64 (x17_2 + 1))) else (none)) = some r := by rw [if_pos rfl] at H; exact H
                                      clear H
                                      have H := H1
                                      clear H1
                                      by_cases c34 : x3_2.size + x5_18.size ≤ 9223372036854775807
                                      · rw [if_pos c34] at H
                                        have c34b0 := eq_true c34
                                        have c34b1 : decide (x3_2.size + x5_18.size ≤ 9223372036854775807) = true := decide_eq_true c34
                                        try have c34b2 : (9223372036854775807 < x3_2.size + x5_18.size) = False := eq_false (Nat.not_lt.2 c34)
                                        have H' := Aside0.mk H
                                        clear H
                                        go_wp2_with (first | (go_at_call 16; (with_reducible refine (catacombref12_Right.calls kj18 ((⟨#[97]⟩ : ByteArray) ++ x5_18) true _ A29.out).mono ?_); rintro e w' ⟨rfl, ⟨nd, rfl⟩⟩) | (go_at_call 16; (with_reducible refine (catacombref12_Right.calls kj18 x5_18 true _ A32.out).mono ?_); rintro e w' ⟨rfl, ⟨nd, rfl⟩⟩))
                                        go_roundg kj18
                                        case measure => have := HJ1.out; have := HK2.out; have := HJ13.out; have := HJ18.out; omega
                                        case rel => exact ⟨(x3_2 ++ x5_18), (wrap64 (x17_2 + 1)), (by first | rfl | (simp; done) | (simp [*]; done)), (by first | rfl | (simp; done) | (simp [*]; done)), H', ⟨by have := HJ1.out; have := HK2.out; have := HJ13.out; have := HJ18.out; omega⟩, ⟨by repeat (first | (with_reducible first | exact HB.out | apply below_alloc | apply pw_below_drewN | apply below_drew1) | exact HB.out)⟩⟩
                                      · rw [if_neg c34] at H
                                        exact absurd H (by simp)
                                    · replace c33 := Bool.eq_false_iff.mpr c33
                                      subst c33
                                      have H1 : (catacomblaw12_NameFolds.l0 kj18 a0 x3_2 (a0.size : Int) (wrap64 (x17_2 + 1))) = some r := by rw [if_neg (show ¬ (false = true) by decide)] at H; exact H
                                      clear H
                                      have H := H1
                                      clear H1
                                      have H' := Aside0.mk H
                                      clear H
                                      go_wp2_with (first | (go_at_call 16; (with_reducible refine (catacombref12_Right.calls kj18 ((⟨#[97]⟩ : ByteArray) ++ x5_18) true _ A29.out).mono ?_); rintro e w' ⟨rfl, ⟨nd, rfl⟩⟩) | (go_at_call 16; (with_reducible refine (catacombref12_Right.calls kj18 x5_18 false _ A32.out).mono ?_); rintro e w' ⟨rfl, ⟨nd, rfl⟩⟩))
                                      go_roundg kj18
                                      case measure => have := HJ1.out; have := HK2.out; have := HJ13.out; have := HJ18.out; omega
                                      case rel => exact ⟨(x3_2), (wrap64 (x17_2 + 1)), (by first | rfl | (simp; done) | (simp [*]; done)), (by first | rfl | (simp; done) | (simp [*]; done)), H', ⟨by have := HJ1.out; have := HK2.out; have := HJ13.out; have := HJ18.out; omega⟩, ⟨by repeat (first | (with_reducible first | exact HB.out | apply below_alloc | apply pw_below_drewN | apply below_drew1) | exact HB.out)⟩⟩
                                  · rw [if_neg c31] at H
                                    have c31b0 : (x3_2.toList == ([] : List UInt8)) = false := beq_eq_false_iff_ne.mpr c31
                                    have c31b1 : (x3_2.toList != ([] : List UInt8)) = true := bne_iff_ne.mpr c31
                                    by_cases c35 : x3_2.size + x5_18.size ≤ 9223372036854775807
                                    · rw [if_pos c35] at H
                                      have c35b0 := eq_true c35
                                      have c35b1 : decide (x3_2.size + x5_18.size ≤ 9223372036854775807) = true := decide_eq_true c35
                                      try have c35b2 : (9223372036854775807 < x3_2.size + x5_18.size) = False := eq_false (Nat.not_lt.2 c35)
                                      have H' := Aside0.mk H
                                      clear H
                                      go_wp2_with (first | (go_at_call 16; (with_reducible refine (catacombref12_Right.calls kj18 ((⟨#[97]⟩ : ByteArray) ++ x5_18) true _ A29.out).mono ?_); rintro e w' ⟨rfl, ⟨nd, rfl⟩⟩))
                                      go_roundg kj18
                                      case measure => have := HJ1.out; have := HK2.out; have := HJ13.out; have := HJ18.out; omega
                                      case rel => exact ⟨(x3_2 ++ x5_18), (wrap64 (x17_2 + 1)), (by first | rfl | (simp; done) | (simp [*]; done)), (by first | rfl | (simp; done) | (simp [*]; done)), H', ⟨by have := HJ1.out; have := HK2.out; have := HJ13.out; have := HJ18.out; omega⟩, ⟨by repeat (first | (with_reducible first | exact HB.out | apply below_alloc | apply pw_below_drewN | apply below_drew1) | exact HB.out)⟩⟩
                                    · rw [if_neg c35] at H
                                      exact absurd H (by simp)
                                · replace c30 := Bool.eq_false_iff.mpr c30
                                  subst c30
                                  have H1 : (catacomblaw12_NameFolds.l0 kj18 a0 x3_2 (a0.size : Int) (wrap64 (x17_2 + 1))) = some r := by rw [if_neg (show ¬ (false = true) by decide)] at H; exact H
                                  clear H
                                  have H := H1
                                  clear H1
                                  have H' := Aside0.mk H
                                  clear H
                                  go_wp2_with (first | (go_at_call 16; (with_reducible refine (catacombref12_Right.calls kj18 ((⟨#[97]⟩ : ByteArray) ++ x5_18) false _ A29.out).mono ?_); rintro e w' ⟨rfl, ⟨nd, rfl⟩⟩))
                                  go_roundg kj18
                                  case measure => have := HJ1.out; have := HK2.out; have := HJ13.out; have := HJ18.out; omega
                                  case rel => exact ⟨(x3_2), (wrap64 (x17_2 + 1)), (by first | rfl | (simp; done) | (simp [*]; done)), (by first | rfl | (simp; done) | (simp [*]; done)), H', ⟨by have := HJ1.out; have := HK2.out; have := HJ13.out; have := HJ18.out; omega⟩, ⟨by repeat (first | (with_reducible first | exact HB.out | apply below_alloc | apply pw_below_drewN | apply below_drew1) | exact HB.out)⟩⟩
                              · rw [if_neg c28] at H
                                exact absurd H (by simp)
                            · rw [if_neg c27] at H
                              have c27b0 : decide ((x3_2.size : Int) < 16) = false := decide_eq_false c27
                              have c27b1 : decide (x3_2.size < 16) = false := decide_eq_false (by omega)
                              clear c27
                              have H' := Aside0.mk H
                              clear H
                              go_wp2
                              go_roundg kj18
                              case measure => have := HJ1.out; have := HK2.out; have := HJ13.out; have := HJ18.out; omega
                              case rel => exact ⟨(x3_2), (wrap64 (x17_2 + 1)), (by first | rfl | (simp; done) | (simp [*]; done)), (by first | rfl | (simp; done) | (simp [*]; done)), H', ⟨by have := HJ1.out; have := HK2.out; have := HJ13.out; have := HJ18.out; omega⟩, ⟨by repeat (first | (with_reducible first | exact HB.out | apply below_alloc | apply pw_below_drewN | apply below_drew1) | exact HB.out)⟩⟩
                  · rw [if_neg c13] at H
                    exact absurd H (by simp)
                · rw [if_neg c12] at H
                  exact absurd H (by simp)
              · rw [if_neg c11] at H
                exact absurd H (by simp)
            · rw [if_neg c10] at H
              have c10b0 : decide (x17_2 < (a0.size : Int)) = false := decide_eq_false c10
              clear c10
              replace H := Option.bind_eq_some_iff.mp H
              obtain ⟨t116, A360, H⟩ := H
              replace H : (if t116.toList = x3_2.toList then (if t116.toList = ([] : List UInt8) then ((catacombref12_Right.f k2 a0).bind fun t117 => (if t117 = true then (some (t116.toList == a0.toList)) else (some true))) else ((catacombref12_Right.f k2 t116).bind fun t118 => (if t118 = true then ((catacombref12_Right.f k2 a0).bind fun t119 => (if t119 = true then (some (t116.toList == a0.toList)) else (some true))) else (some false)))) else (some false)) = some r := H
              have A36 := Aside0.mk A360
              clear A360
              by_cases c37 : t116.toList = x3_2.toList
              · rw [if_pos c37] at H
                have c37b0 : (t116.toList == x3_2.toList) = true := beq_iff_eq.mpr c37
                have c37b1 : (t116.toList != x3_2.toList) = false := bne_eq_false_iff_eq.mpr c37
                clear c37
                by_cases c38 : t116.toList = ([] : List UInt8)
                · rw [if_pos c38] at H
                  have c38b0 : (t116.toList == ([] : List UInt8)) = true := beq_iff_eq.mpr c38
                  have c38b1 : (t116.toList != ([] : List UInt8)) = false := bne_eq_false_iff_eq.mpr c38
                  clear c38
                  replace H := Option.bind_eq_some_iff.mp H
                  obtain ⟨t117, A390, H⟩ := H
                  replace H : (if t117 = true then (some (t116.toList == a0.toList)) else (some true)) = some r := H
                  have A39 := Aside0.mk A390
                  clear A390
                  by_cases c40 : t117 = true
                  · subst c40
                    have H1 : (some (t116.toList == a0.toList)) = some r := by rw [if_pos rfl] at H; exact H
                    clear H
                    have H := H1
                    clear H1
                    obtain rfl := Option.some.inj H
                    go_wp2_with (first | ((with_reducible refine gate_callee (f := 17) rfl ?_); refine goesL_ (some 63) rfl rfl Try.func17 (by kernel_rfl) rfl #[.string a0] rfl (by (try simp only [List.map_toArray, List.map_cons, List.map_nil]); first | done | rfl | (simp only [List.length_drop, List.length_take]; rfl)) ?_; (with_reducible refine (name_Fold.calls k2 a0 t116 _ A36.out).mono ?_); rintro e w41 ⟨rfl, hb⟩; refine ⟨_, rfl, ?_⟩; have n0_ := Aside0.mk (below_step (by repeat (first | (with_reducible first | exact HB.out | apply below_alloc | apply pw_below_drewN | apply below_drew1) | exact HB.out)) hb); clear HB; have HB := n0_; clear n0_; (try clear hb); (try clear hb2); (try clear hk); (try clear hi)) | (go_at_call 16; (with_reducible refine (catacombref12_Right.calls k2 a0 true _ A39.out).mono ?_); rintro e w' ⟨rfl, ⟨nd, rfl⟩⟩))
                    go_ret
                    exact ⟨by first | rfl | (simp [errW_none, errW_some] <;> rfl) | (simp [*, errW_none, errW_some] <;> rfl), by repeat (first | (with_reducible first | exact HB.out | apply below_alloc | apply pw_below_drewN | apply below_drew1) | exact HB.out)⟩
                  · replace c40 := Bool.eq_false_iff.mpr c40
                    subst c40
                    have H1 : (some true) = some r := by rw [if_neg (show ¬ (false = true) by decide)] at H; exact H
                    clear H
                    have H := H1
                    clear H1
                    obtain rfl := Option.some.inj H
                    go_wp2_with (first | ((with_reducible refine gate_callee (f := 17) rfl ?_); refine goesL_ (some 63) rfl rfl Try.func17 (by kernel_rfl) rfl #[.string a0] rfl (by (try simp only [List.map_toArray, List.map_cons, List.map_nil]); first | done | rfl | (simp only [List.length_drop, List.length_take]; rfl)) ?_; (with_reducible refine (name_Fold.calls k2 a0 t116 _ A36.out).mono ?_); rintro e w42 ⟨rfl, hb⟩; refine ⟨_, rfl, ?_⟩; have n0_ := Aside0.mk (below_step (by repeat (first | (with_reducible first | exact HB.out | apply below_alloc | apply pw_below_drewN | apply below_drew1) | exact HB.out)) hb); clear HB; have HB := n0_; clear n0_; (try clear hb); (try clear hb2); (try clear hk); (try clear hi)) | (go_at_call 16; (with_reducible refine (catacombref12_Right.calls k2 a0 false _ A39.out).mono ?_); rintro e w' ⟨rfl, ⟨nd, rfl⟩⟩))
                    go_ret
                    exact ⟨by first | rfl | (simp [errW_none, errW_some] <;> rfl) | (simp [*, errW_none, errW_some] <;> rfl), by repeat (first | (with_reducible first | exact HB.out | apply below_alloc | apply pw_below_drewN | apply below_drew1) | exact HB.out)⟩
                · rw [if_neg c38] at H
                  have c38b0 : (t116.toList == ([] : List UInt8)) = false := beq_eq_false_iff_ne.mpr c38
                  have c38b1 : (t116.toList != ([] : List UInt8)) = true := bne_iff_ne.mpr c38
                  replace H := Option.bind_eq_some_iff.mp H
                  obtain ⟨t118, A430, H⟩ := H
                  replace H : (if t118 = true then ((catacombref12_Right.f k2 a0).bind fun t119 => (if t119 = true then (some (t116.toList == a0.toList)) else (some true))) else (some false)) = some r := H
                  have A43 := Aside0.mk A430
                  clear A430
                  by_cases c44 : t118 = true
                  · subst c44
                    have H1 : ((catacombref12_Right.f k2 a0).bind fun t119 => (if t119 = true then (some (t116.toList == a0.toList)) else (some true))) = some r := by rw [if_pos rfl] at H; exact H
                    clear H
                    have H := H1
                    clear H1
                    replace H := Option.bind_eq_some_iff.mp H
                    obtain ⟨t119, A450, H⟩ := H
                    replace H : (if t119 = true then (some (t116.toList == a0.toList)) else (some true)) = some r := H
                    have A45 := Aside0.mk A450
                    clear A450
                    by_cases c46 : t119 = true
                    · subst c46
                      have H1 : (some (t116.toList == a0.toList)) = some r := by rw [if_pos rfl] at H; exact H
                      clear H
                      have H := H1
                      clear H1
                      obtain rfl := Option.some.inj H
                      go_wp2_with (first | ((with_reducible refine gate_callee (f := 17) rfl ?_); refine goesL_ (some 63) rfl rfl Try.func17 (by kernel_rfl) rfl #[.string a0] rfl (by (try simp only [List.map_toArray, List.map_cons, List.map_nil]); first | done | rfl | (simp only [List.length_drop, List.length_take]; rfl)) ?_; (with_reducible refine (name_Fold.calls k2 a0 t116 _ A36.out).mono ?_); rintro e w47 ⟨rfl, hb⟩; refine ⟨_, rfl, ?_⟩; have n0_ := Aside0.mk (below_step (by repeat (first | (with_reducible first | exact HB.out | apply below_alloc | apply pw_below_drewN | apply below_drew1) | exact HB.out)) hb); clear HB; have HB := n0_; clear n0_; (try clear hb); (try clear hb2); (try clear hk); (try clear hi)) | (go_at_call 16; (with_reducible refine (catacombref12_Right.calls k2 t116 true _ A43.out).mono ?_); rintro e w' ⟨rfl, ⟨nd, rfl⟩⟩) | (go_at_call 16; (with_reducible refine (catacombref12_Right.calls k2 a0 true _ A45.out).mono ?_); rintro e w' ⟨rfl, ⟨nd, rfl⟩⟩))
                      go_ret
                      exact ⟨by first | rfl | (simp [errW_none, errW_some] <;> rfl) | (simp [*, errW_none, errW_some] <;> rfl), by repeat (first | (with_reducible first | exact HB.out | apply below_alloc | apply pw_below_drewN | apply below_drew1) | exact HB.out)⟩
                    · replace c46 := Bool.eq_false_iff.mpr c46
                      subst c46
                      have H1 : (some true) = some r := by rw [if_neg (show ¬ (false = true) by decide)] at H; exact H
                      clear H
                      have H := H1
                      clear H1
                      obtain rfl := Option.some.inj H
                      go_wp2_with (first | ((with_reducible refine gate_callee (f := 17) rfl ?_); refine goesL_ (some 63) rfl rfl Try.func17 (by kernel_rfl) rfl #[.string a0] rfl (by (try simp only [List.map_toArray, List.map_cons, List.map_nil]); first | done | rfl | (simp only [List.length_drop, List.length_take]; rfl)) ?_; (with_reducible refine (name_Fold.calls k2 a0 t116 _ A36.out).mono ?_); rintro e w48 ⟨rfl, hb⟩; refine ⟨_, rfl, ?_⟩; have n0_ := Aside0.mk (below_step (by repeat (first | (with_reducible first | exact HB.out | apply below_alloc | apply pw_below_drewN | apply below_drew1) | exact HB.out)) hb); clear HB; have HB := n0_; clear n0_; (try clear hb); (try clear hb2); (try clear hk); (try clear hi)) | (go_at_call 16; (with_reducible refine (catacombref12_Right.calls k2 t116 true _ A43.out).mono ?_); rintro e w' ⟨rfl, ⟨nd, rfl⟩⟩) | (go_at_call 16; (with_reducible refine (catacombref12_Right.calls k2 a0 false _ A45.out).mono ?_); rintro e w' ⟨rfl, ⟨nd, rfl⟩⟩))
                      go_ret
                      exact ⟨by first | rfl | (simp [errW_none, errW_some] <;> rfl) | (simp [*, errW_none, errW_some] <;> rfl), by repeat (first | (with_reducible first | exact HB.out | apply below_alloc | apply pw_below_drewN | apply below_drew1) | exact HB.out)⟩
                  · replace c44 := Bool.eq_false_iff.mpr c44
                    subst c44
                    have H1 : (some false) = some r := by rw [if_neg (show ¬ (false = true) by decide)] at H; exact H
                    clear H
                    have H := H1
                    clear H1
                    obtain rfl := Option.some.inj H
                    go_wp2_with (first | ((with_reducible refine gate_callee (f := 17) rfl ?_); refine goesL_ (some 63) rfl rfl Try.func17 (by kernel_rfl) rfl #[.string a0] rfl (by (try simp only [List.map_toArray, List.map_cons, List.map_nil]); first | done | rfl | (simp only [List.length_drop, List.length_take]; rfl)) ?_; (with_reducible refine (name_Fold.calls k2 a0 t116 _ A36.out).mono ?_); rintro e w49 ⟨rfl, hb⟩; refine ⟨_, rfl, ?_⟩; have n0_ := Aside0.mk (below_step (by repeat (first | (with_reducible first | exact HB.out | apply below_alloc | apply pw_below_drewN | apply below_drew1) | exact HB.out)) hb); clear HB; have HB := n0_; clear n0_; (try clear hb); (try clear hb2); (try clear hk); (try clear hi)) | (go_at_call 16; (with_reducible refine (catacombref12_Right.calls k2 t116 false _ A43.out).mono ?_); rintro e w' ⟨rfl, ⟨nd, rfl⟩⟩))
                    go_ret
                    exact ⟨by first | rfl | (simp [errW_none, errW_some] <;> rfl) | (simp [*, errW_none, errW_some] <;> rfl), by repeat (first | (with_reducible first | exact HB.out | apply below_alloc | apply pw_below_drewN | apply below_drew1) | exact HB.out)⟩
              · rw [if_neg c37] at H
                have c37b0 : (t116.toList == x3_2.toList) = false := beq_eq_false_iff_ne.mpr c37
                have c37b1 : (t116.toList != x3_2.toList) = true := bne_iff_ne.mpr c37
                obtain rfl := Option.some.inj H
                go_wp2_with (first | ((with_reducible refine gate_callee (f := 17) rfl ?_); refine goesL_ (some 63) rfl rfl Try.func17 (by kernel_rfl) rfl #[.string a0] rfl (by (try simp only [List.map_toArray, List.map_cons, List.map_nil]); first | done | rfl | (simp only [List.length_drop, List.length_take]; rfl)) ?_; (with_reducible refine (name_Fold.calls k2 a0 t116 _ A36.out).mono ?_); rintro e w50 ⟨rfl, hb⟩; refine ⟨_, rfl, ?_⟩; have n0_ := Aside0.mk (below_step (by repeat (first | (with_reducible first | exact HB.out | apply below_alloc | apply pw_below_drewN | apply below_drew1) | exact HB.out)) hb); clear HB; have HB := n0_; clear n0_; (try clear hb); (try clear hb2); (try clear hk); (try clear hi)))
                go_ret
                exact ⟨by first | rfl | (simp [errW_none, errW_some] <;> rfl) | (simp [*, errW_none, errW_some] <;> rfl), by repeat (first | (with_reducible first | exact HB.out | apply below_alloc | apply pw_below_drewN | apply below_drew1) | exact HB.out)⟩

/-- THE ONE PURE STATEMENT of catacomblaw12_NameFolds: yours. -/
def catacomblaw12_NameFolds.Pure : Prop := ∀ (a0 : ByteArray), a0.size ≤ 140737488351232 → ∃ k, catacomblaw12_NameFolds.f k a0 = some true
theorem catacomblaw12_NameFolds.walk (P : catacomblaw12_NameFolds.Pure) (a0 : ByteArray) (w : World) (w0 : a0.size ≤ 140737488351232) :
    Calls Try.prog 4 #[.string a0] w fun e w' => e = .returned (.bool true) ∧ Below w.heap.size w w' := by
  obtain ⟨k, h⟩ := P a0 w0
  refine (catacomblaw12_NameFolds.calls k a0 true w h).mono ?_
  rintro e w' ⟨rfl, hd⟩
  exact ⟨rfl, hd⟩

end Go.Proofs.Ytafcogdplhljmaa.PNameFolds
