-- PRINTED BY print.sh 35421559b90ae4d0a3588c463048766b98c2df88dd9212a6774a882060cdf62d: not written by this session
import Derived.Test.YtafcogdplhljmaaPWindowOfx0
import Derived.Test.YtafcogdplhljmaaPWindowOfx1
import Derived.Test.YtafcogdplhljmaaPWindowOfx2
namespace Go.Proofs.Ytafcogdplhljmaa.PWindowOf
open Go.RowKit Go.Proofs.YtafcogdplhljmaaW.PrintWords Go.Proofs.YtafcogdplhljmaaW.PrintLast Go.Proofs.YtafcogdplhljmaaW.PrintMore
attribute [local go_sem] max2_int min2_int max_two min_two max_three min_three max_four min_four   -- for this text's walks alone
set_option linter.unusedVariables false
set_option linter.unusedSimpArgs false

attribute [local go_sem high] eqA44
/-! ### catacomblaw13_WindowOf: function 12 -/
mutual
def catacomblaw13_WindowOf.j0 : Nat → Int → Int → Int → Bool → Option (Bool)
  | 0, _, _, _, _ => none
  | k + 1, x0, x1, x2, x16 => if x16 = true then ((catacomblaw13_lives.f k).bind fun t139 => (some t139)) else ((catacomblaw13_Width.f x0).bind fun t140 => ((window_Of.f k x0 x1).bind fun bt141 => ((window_Start.f x0 x1).bind fun t143 => ((window_Width.f x0).bind fun t145 => (if t145 = t140 then (if t140 = 0 then (catacomblaw13_WindowOf.j1 k x0 x1 x2 t140 t143 true bt141.1 bt141.2) else (catacomblaw13_WindowOf.j1 k x0 x1 x2 t140 t143 (decide (x1 < 0)) bt141.1 bt141.2)) else (some false))))))
def catacomblaw13_WindowOf.j1 : Nat → Int → Int → Int → Int → Int → Bool → Int → Int → Option (Bool)
  | 0, _, _, _, _, _, _, _, _ => none
  | k + 1, x0, x1, x2, x7, x9, x35, x145000, x145001 => if x35 = true then (if (x145000 == 0 && (x145001 == 0)) = true then (if x9 = 0 then ((window_Closed.f k x0 x1 x2).bind fun t146 => (some (!t146))) else (some false)) else (some false)) else (if x7 = 0 then (none) else (if (x145000 == (wrap64 ((wrap64 (Int.tdiv x1 x7)) * x7)) && (x145001 == (wrap64 ((wrap64 ((wrap64 (Int.tdiv x1 x7)) * x7)) + x7)))) = true then (if x9 = (wrap64 ((wrap64 (Int.tdiv x1 x7)) * x7)) then ((window_Closed.f k x0 x1 x2).bind fun t147 => (some (t147 == (decide ((wrap64 ((wrap64 ((wrap64 (Int.tdiv x1 x7)) * x7)) + x7)) ≤ x2))))) else (some false)) else (some false)))
end
def catacomblaw13_WindowOf.f (k : Nat) (a0 : Int) (a1 : Int) (a2 : Int) : Option (Bool) := (catacomblaw13_lives.f k).bind fun t138 => (if t138 = true then (catacomblaw13_WindowOf.j0 k a0 a1 a2 (decide (a1 ≥ 4611686018427387904))) else (catacomblaw13_WindowOf.j0 k a0 a1 a2 true))
theorem catacomblaw13_WindowOf.mono_l : ∀ k, (∀ y0 y1 y2 y3, LeO (catacomblaw13_WindowOf.j0 k y0 y1 y2 y3) (catacomblaw13_WindowOf.j0 (k + 1) y0 y1 y2 y3)) ∧ (∀ y0 y1 y2 y3 y4 y5 y6 y7, LeO (catacomblaw13_WindowOf.j1 k y0 y1 y2 y3 y4 y5 y6 y7) (catacomblaw13_WindowOf.j1 (k + 1) y0 y1 y2 y3 y4 y5 y6 y7))
  | 0 => ⟨fun _ _ _ _ r h => by simp [catacomblaw13_WindowOf.j0] at h, fun _ _ _ _ _ _ _ _ r h => by simp [catacomblaw13_WindowOf.j1] at h⟩
  | k + 1 => by
    obtain ⟨ih0, ih1⟩ := catacomblaw13_WindowOf.mono_l k
    refine ⟨?_, ?_⟩
    · intro y0 y1 y2 y3
      unfold catacomblaw13_WindowOf.j0
      repeat' first
      | (with_reducible exact ih0 _ _ _ _)
      | (with_reducible exact ih1 _ _ _ _ _ _ _ _)
      | (with_reducible exact catacomblaw13_lives.mono _)
      | (with_reducible exact window_Closed.mono _ _ _ _)
      | (with_reducible exact window_Of.mono _ _ _)
      | (with_reducible exact LeO.refl _)
      | (with_reducible exact LeO.none _)
      | (with_reducible refine LeO.ite ?_ ?_)
      | (with_reducible refine LeO.bind ?_ (fun _ => ?_))
      | exact ih0 _ _ _ _
      | exact ih1 _ _ _ _ _ _ _ _
      | exact catacomblaw13_lives.mono _
      | exact window_Closed.mono _ _ _ _
      | exact window_Of.mono _ _ _
      | exact LeO.none _
      | refine LeO.ite ?_ ?_
      | refine LeO.bind ?_ (fun _ => ?_)
    · intro y0 y1 y2 y3 y4 y5 y6 y7
      unfold catacomblaw13_WindowOf.j1
      repeat' first
      | (with_reducible exact ih0 _ _ _ _)
      | (with_reducible exact ih1 _ _ _ _ _ _ _ _)
      | (with_reducible exact catacomblaw13_lives.mono _)
      | (with_reducible exact window_Closed.mono _ _ _ _)
      | (with_reducible exact window_Of.mono _ _ _)
      | (with_reducible exact LeO.refl _)
      | (with_reducible exact LeO.none _)
      | (with_reducible refine LeO.ite ?_ ?_)
      | (with_reducible refine LeO.bind ?_ (fun _ => ?_))
      | exact ih0 _ _ _ _
      | exact ih1 _ _ _ _ _ _ _ _
      | exact catacomblaw13_lives.mono _
      | exact window_Closed.mono _ _ _ _
      | exact window_Of.mono _ _ _
      | exact LeO.none _
      | refine LeO.ite ?_ ?_
      | refine LeO.bind ?_ (fun _ => ?_)
theorem catacomblaw13_WindowOf.mono : ∀ a0 a1 a2 k, LeO (catacomblaw13_WindowOf.f k a0 a1 a2) (catacomblaw13_WindowOf.f (k + 1) a0 a1 a2) := by
  intro a0 a1 a2 k
  obtain ⟨ih0, ih1⟩ := catacomblaw13_WindowOf.mono_l k
  unfold catacomblaw13_WindowOf.f
  repeat' first
      | (with_reducible exact ih0 _ _ _ _)
      | (with_reducible exact ih1 _ _ _ _ _ _ _ _)
      | (with_reducible exact catacomblaw13_lives.mono _)
      | (with_reducible exact window_Closed.mono _ _ _ _)
      | (with_reducible exact window_Of.mono _ _ _)
      | (with_reducible exact LeO.refl _)
      | (with_reducible exact LeO.none _)
      | (with_reducible refine LeO.ite ?_ ?_)
      | (with_reducible refine LeO.bind ?_ (fun _ => ?_))
      | exact ih0 _ _ _ _
      | exact ih1 _ _ _ _ _ _ _ _
      | exact catacomblaw13_lives.mono _
      | exact window_Closed.mono _ _ _ _
      | exact window_Of.mono _ _ _
      | exact LeO.none _
      | refine LeO.ite ?_ ?_
      | refine LeO.bind ?_ (fun _ => ?_)
set_option maxHeartbeats 8000000 in
set_option maxRecDepth 100000 in
theorem catacomblaw13_WindowOf.calls (k : Nat) (a0 : Int) (a1 : Int) (a2 : Int) (r : Bool) (w : World) (h : catacomblaw13_WindowOf.f k a0 a1 a2 = some r) :
    Calls Try.prog 12 #[.int .i64 a0, .int .i64 a1, .int .i64 a2] w fun e w' => e = .returned (.bool r) ∧ Below w.heap.size w w' := by
  have hu44 := Try.underlying44
  have HB := Aside0.mk (Below.refl w.heap.size w)
  have H : ((catacomblaw13_lives.f k).bind fun t138 => (if t138 = true then (catacomblaw13_WindowOf.j0 k a0 a1 a2 (decide (a1 ≥ 4611686018427387904))) else (catacomblaw13_WindowOf.j0 k a0 a1 a2 true))) = some r := h
  clear h
  have HC4 := Aside0.mk H
  clear H
  go_enter Try.func12, Try.ntmps12
  go_upto_region 1 with (fail)
  go_cut [16] (fun v16 wc => ∃ (kq : Nat) (x16_3 : Bool), v16 = .bool x16_3 ∧ Aside0 (catacomblaw13_WindowOf.j0 kq a0 a1 a2 x16_3 = some r) ∧ Aside0 (kq ≤ k) ∧ Aside0 (Below w.heap.size w wc))
  case first =>
    have H := HC4.out
    clear HC4
    replace H := Option.bind_eq_some_iff.mp H
    obtain ⟨t138, A50, H⟩ := H
    replace H : (if t138 = true then (catacomblaw13_WindowOf.j0 k a0 a1 a2 (decide (a1 ≥ 4611686018427387904))) else (catacomblaw13_WindowOf.j0 k a0 a1 a2 true)) = some r := H
    have A5 := Aside0.mk A50
    clear A50
    by_cases c6 : t138 = true
    · subst c6
      have H1 : (catacomblaw13_WindowOf.j0 k a0 a1 a2 (decide (a1 ≥ 4611686018427387904))) = some r := by rw [if_pos rfl] at H; exact H
      clear H
      have H := H1
      clear H1
      have H' := Aside0.mk H
      clear H
      go_wp2_with (first | ((with_reducible refine gate_callee (f := 27) rfl ?_); refine goesL_ (some 11) rfl rfl Try.func27 (by kernel_rfl) rfl #[] rfl (by (try simp only [List.map_toArray, List.map_cons, List.map_nil]); first | done | rfl | (simp only [List.length_drop, List.length_take]; rfl)) ?_; (with_reducible refine (catacomblaw13_lives.calls k  true _ A5.out).mono ?_); rintro e w7 ⟨rfl, hb⟩; refine ⟨_, rfl, ?_⟩; have n0_ := Aside0.mk (below_step (by repeat (first | (with_reducible first | exact HB.out | apply below_alloc | apply pw_below_drewN | apply below_drew1) | exact HB.out)) hb); clear HB; have HB := n0_; clear n0_; (try clear hb); (try clear hb2); (try clear hk); (try clear hi)))
      go_meet
      case rel => exact ⟨_, (decide (a1 ≥ 4611686018427387904)), (by first | rfl | (simp; done) | (simp [*]; done)), H', ⟨by first | omega | exact Nat.le_refl _⟩, ⟨by repeat (first | (with_reducible first | exact HB.out | apply below_alloc | apply pw_below_drewN | apply below_drew1) | exact HB.out)⟩⟩
    · replace c6 := Bool.eq_false_iff.mpr c6
      subst c6
      have H1 : (catacomblaw13_WindowOf.j0 k a0 a1 a2 true) = some r := by rw [if_neg (show ¬ (false = true) by decide)] at H; exact H
      clear H
      have H := H1
      clear H1
      have H' := Aside0.mk H
      clear H
      go_wp2_with (first | ((with_reducible refine gate_callee (f := 27) rfl ?_); refine goesL_ (some 11) rfl rfl Try.func27 (by kernel_rfl) rfl #[] rfl (by (try simp only [List.map_toArray, List.map_cons, List.map_nil]); first | done | rfl | (simp only [List.length_drop, List.length_take]; rfl)) ?_; (with_reducible refine (catacomblaw13_lives.calls k  false _ A5.out).mono ?_); rintro e w8 ⟨rfl, hb⟩; refine ⟨_, rfl, ?_⟩; have n0_ := Aside0.mk (below_step (by repeat (first | (with_reducible first | exact HB.out | apply below_alloc | apply pw_below_drewN | apply below_drew1) | exact HB.out)) hb); clear HB; have HB := n0_; clear n0_; (try clear hb); (try clear hb2); (try clear hk); (try clear hi)))
      go_meet
      case rel => exact ⟨_, (true), (by first | rfl | (simp; done) | (simp [*]; done)), H', ⟨by first | omega | exact Nat.le_refl _⟩, ⟨by repeat (first | (with_reducible first | exact HB.out | apply below_alloc | apply pw_below_drewN | apply below_drew1) | exact HB.out)⟩⟩
  case rest =>
    clear HC4
    try clear c1
    try clear c2
    try clear p2
    try clear c6
    obtain ⟨kq, x16_3, rfl, HA, HJ3, HB⟩ := hcut
    cases kq with
    | zero => exact absurd HA.out (by simp [catacomblaw13_WindowOf.j0])
    | succ kj3 =>
      have H := HA.out
      clear HA
      simp only [catacomblaw13_WindowOf.j0] at H
      by_cases c9 : x16_3 = true
      · subst c9
        have H1 : ((catacomblaw13_lives.f kj3).bind fun t139 => (some t139)) = some r := by rw [if_pos rfl] at H; exact H
        clear H
        have H := H1
        clear H1
        replace H := Option.bind_eq_some_iff.mp H
        obtain ⟨t139, A100, H⟩ := H
        replace H : (some t139) = some r := H
        have A10 := Aside0.mk A100
        clear A100
        obtain rfl := Option.some.inj H
        go_wp2_with (first | ((with_reducible refine gate_callee (f := 27) rfl ?_); refine goesL_ (some 17) rfl rfl Try.func27 (by kernel_rfl) rfl #[] rfl (by (try simp only [List.map_toArray, List.map_cons, List.map_nil]); first | done | rfl | (simp only [List.length_drop, List.length_take]; rfl)) ?_; (with_reducible refine (catacomblaw13_lives.calls kj3  t139 _ A10.out).mono ?_); rintro e w11 ⟨rfl, hb⟩; refine ⟨_, rfl, ?_⟩; have n0_ := Aside0.mk (below_step (by repeat (first | (with_reducible first | exact HB.out | apply below_alloc | apply pw_below_drewN | apply below_drew1) | exact HB.out)) hb); clear HB; have HB := n0_; clear n0_; (try clear hb); (try clear hb2); (try clear hk); (try clear hi)))
        go_ret
        exact ⟨by first | rfl | (simp [errW_none, errW_some] <;> rfl) | (simp [*, errW_none, errW_some] <;> rfl), by repeat (first | (with_reducible first | exact HB.out | apply below_alloc | apply pw_below_drewN | apply below_drew1) | exact HB.out)⟩
      · replace c9 := Bool.eq_false_iff.mpr c9
        subst c9
        have H1 : ((catacomblaw13_Width.f a0).bind fun t140 => ((window_Of.f kj3 a0 a1).bind fun bt141 => ((window_Start.f a0 a1).bind fun t143 => ((window_Width.f a0).bind fun t145 => (if t145 = t140 then (if t140 = 0 then (catacomblaw13_WindowOf.j1 kj3 a0 a1 a2 t140 t143 true bt141.1 bt141.2) else (catacomblaw13_WindowOf.j1 kj3 a0 a1 a2 t140 t143 (decide (a1 < 0)) bt141.1 bt141.2)) else (some false)))))) = some r := by rw [if_neg (show ¬ (false = true) by decide)] at H; exact H
        clear H
        have H := H1
        clear H1
        replace H := Option.bind_eq_some_iff.mp H
        obtain ⟨t140, A120, H⟩ := H
        replace H : ((window_Of.f kj3 a0 a1).bind fun bt141 => ((window_Start.f a0 a1).bind fun t143 => ((window_Width.f a0).bind fun t145 => (if t145 = t140 then (if t140 = 0 then (catacomblaw13_WindowOf.j1 kj3 a0 a1 a2 t140 t143 true bt141.1 bt141.2) else (catacomblaw13_WindowOf.j1 kj3 a0 a1 a2 t140 t143 (decide (a1 < 0)) bt141.1 bt141.2)) else (some false))))) = some r := H
        have A12 := Aside0.mk A120
        clear A120
        replace H := Option.bind_eq_some_iff.mp H
        obtain ⟨⟨t141, t142⟩, A130, H⟩ := H
        replace H : ((window_Start.f a0 a1).bind fun t143 => ((window_Width.f a0).bind fun t145 => (if t145 = t140 then (if t140 = 0 then (catacomblaw13_WindowOf.j1 kj3 a0 a1 a2 t140 t143 true t141 t142) else (catacomblaw13_WindowOf.j1 kj3 a0 a1 a2 t140 t143 (decide (a1 < 0)) t141 t142)) else (some false)))) = some r := H
        have A13 := Aside0.mk A130
        clear A130
        replace H := Option.bind_eq_some_iff.mp H
        obtain ⟨t143, A140, H⟩ := H
        replace H : ((window_Width.f a0).bind fun t145 => (if t145 = t140 then (if t140 = 0 then (catacomblaw13_WindowOf.j1 kj3 a0 a1 a2 t140 t143 true t141 t142) else (catacomblaw13_WindowOf.j1 kj3 a0 a1 a2 t140 t143 (decide (a1 < 0)) t141 t142)) else (some false))) = some r := H
        have A14 := Aside0.mk A140
        clear A140
        replace H := Option.bind_eq_some_iff.mp H
        obtain ⟨t145, A150, H⟩ := H
        replace H : (if t145 = t140 then (if t140 = 0 then (catacomblaw13_WindowOf.j1 kj3 a0 a1 a2 t140 t143 true t141 t142) else (catacomblaw13_WindowOf.j1 kj3 a0 a1 a2 t140 t143 (decide (a1 < 0)) t141 t142)) else (some false)) = some r := H
        have A15 := Aside0.mk A150
        clear A150
        by_cases c16 : t145 = t140
        · rw [if_pos c16] at H
          have c16b0 : (t145 == t140) = true := beq_iff_eq.mpr c16
          have c16b1 : (t145 != t140) = false := bne_eq_false_iff_eq.mpr c16
          clear c16
          have HC17 := Aside0.mk H
          clear H
          go_upto_region 7 with (first | ((with_reducible refine gate_callee (f := 33) rfl ?_); refine goesL_ (some 19) rfl rfl Try.func33 (by kernel_rfl) rfl #[.int .i64 a0] rfl (by (try simp only [List.map_toArray, List.map_cons, List.map_nil]); first | done | rfl | (simp only [List.length_drop, List.length_take]; rfl)) ?_; (with_reducible refine (catacomblaw13_Width.calls a0 t140 _ A12.out).mono ?_); rintro e w' ⟨rfl, ⟨nd, rfl⟩⟩; refine ⟨_, rfl, ?_⟩; (try (rw [drewN_self wc]; generalize hq_ : World.drewN wc _ = wc; have n0_ : Aside0 (Below w.heap.size w wc) := ⟨by rw [← hq_]; exact (by repeat (first | (with_reducible first | exact HB.out | apply below_alloc | apply pw_below_drewN | apply below_drew1) | exact HB.out))⟩; clear HB hq_; have HB := n0_; clear n0_))) | ((with_reducible refine gate_callee (f := 29) rfl ?_); refine goesL_ (some 22) rfl rfl Try.func29 (by kernel_rfl) rfl #[.int .i64 a0, .int .i64 a1] rfl (by (try simp only [List.map_toArray, List.map_cons, List.map_nil]); first | done | rfl | (simp only [List.length_drop, List.length_take]; rfl)) ?_; (with_reducible refine (window_Of.calls kj3 a0 a1 t141 t142 _ A13.out).mono ?_); rintro e w18 ⟨rfl, hb⟩; refine ⟨_, rfl, ?_⟩; have n0_ := Aside0.mk (below_step (by repeat (first | (with_reducible first | exact HB.out | apply below_alloc | apply pw_below_drewN | apply below_drew1) | exact HB.out)) hb); clear HB; have HB := n0_; clear n0_; (try clear hb); (try clear hb2); (try clear hk); (try clear hi)) | ((with_reducible refine gate_callee (f := 34) rfl ?_); refine goesL_ (some 25) rfl rfl Try.func34 (by kernel_rfl) rfl #[.int .i64 a0, .int .i64 a1] rfl (by (try simp only [List.map_toArray, List.map_cons, List.map_nil]); first | done | rfl | (simp only [List.length_drop, List.length_take]; rfl)) ?_; (with_reducible refine (window_Start.calls a0 a1 t143 _ A14.out).mono ?_); rintro e w' ⟨rfl, ⟨nd, rfl⟩⟩; refine ⟨_, rfl, ?_⟩; (try (rw [drewN_self w18]; generalize hq_ : World.drewN w18 _ = w18; have n0_ : Aside0 (Below w.heap.size w w18) := ⟨by rw [← hq_]; exact (by repeat (first | (with_reducible first | exact HB.out | apply below_alloc | apply pw_below_drewN | apply below_drew1) | exact HB.out))⟩; clear HB hq_; have HB := n0_; clear n0_))) | ((with_reducible refine gate_dst (N := 8) rfl ?_); refine box_event ?hg (N := 8) ?hd (cs := #[.int .i64 0, .int .i64 0]) (t := 44) ?hr ?_; (case hd => rfl); (case hg => rfl); (case hr => first | (go_simp; done) | (go_simp; rfl)); intro gb144 hg w19 hbox hb; have n0_ := Aside0.mk (below_step (by repeat (first | (with_reducible first | exact HB.out | apply below_alloc | apply pw_below_drewN | apply below_drew1) | exact HB.out)) hb); have n1_ := Aside0.mk (hbox); have n2_ := Aside0.mk ((by rw [hg]; exact (below_size (by repeat (first | (with_reducible first | exact HB.out | apply below_alloc | apply pw_below_drewN | apply below_drew1) | exact HB.out))) : w.heap.size ≤ gb144)); have n3_ := Aside0.mk ((by rw [hg]; exact (below_size (by repeat (first | (with_reducible first | exact HB.out | apply below_alloc | apply pw_below_drewN | apply below_drew1) | exact HB.out))) : w.heap.size ≤ gb144)); clear HB; have HB := n0_; have BK144 := n1_; have GW144 := n2_; have GE144 := n3_; clear n0_ n1_ n2_ n3_; clear hb hbox hg; have hcz20_0 : w19.cell? ⟨gb144, 0, none⟩ = some (.int .i64 0) := (blk_cell BK144.out 0).trans rfl; have hcz20_1 : w19.cell? ⟨gb144, 1, none⟩ = some (.int .i64 0) := (blk_cell BK144.out 1).trans rfl; have hfz20_0 := blk_frozen BK144.out 0; have hfz20_1 := blk_frozen BK144.out 1) | ((with_reducible refine gate_callee (f := 35) rfl ?_); refine goesL_ (some 27) rfl rfl Try.func35 (by kernel_rfl) rfl #[.int .i64 a0] rfl (by (try simp only [List.map_toArray, List.map_cons, List.map_nil]); first | done | rfl | (simp only [List.length_drop, List.length_take]; rfl)) ?_; (with_reducible refine (window_Width.calls a0 t145 _ A15.out).mono ?_); rintro e w' ⟨rfl, ⟨nd, rfl⟩⟩; refine ⟨_, rfl, ?_⟩))
          (try simp only [Act.put, List.setIfInBounds_toArray, List.set_cons_zero, List.set_cons_succ])
          go_cut [35] (fun v35 wc => ∃ (kq : Nat) (x35_16 : Bool), v35 = .bool x35_16 ∧ Aside0 (catacomblaw13_WindowOf.j1 kq a0 a1 a2 t140 t143 x35_16 t141 t142 = some r) ∧ Aside0 (kq ≤ kj3) ∧ Aside0 (wc.heap[gb144]? = some (.cells #[.int .i64 t141, .int .i64 t142] 44 (0, 0))) ∧ Aside0 (Below w.heap.size w wc))
          case first =>
            have H := HC17.out
            clear HC17
            by_cases c21 : t140 = 0
            · rw [if_pos c21] at H
              have c21b0 : (t140 == 0) = true := beq_iff_eq.mpr c21
              have c21b1 : (t140 != 0) = false := bne_eq_false_iff_eq.mpr c21
              clear c21
              (first | rw [c21b0] | (simp only [i64_w, i32_w]; rw [c21b0]) | skip)
              have H' := Aside0.mk H
              clear H
              go_wp2
              go_meet
              case rel => exact ⟨_, (true), (by first | rfl | (simp; done) | (simp [*]; done)), H', ⟨by have := HJ3.out; first | omega | exact Nat.le_refl _⟩, ⟨by (with_reducible repeat (first | refine blk_drewN ?_ _ | refine blk_drew ?_ | refine blk_alloc ?_ _)); refine blk_put (cs := #[.int .i64 t141, .int .i64 0]) ?_ 1 _ rfl; (with_reducible repeat (first | refine blk_drewN ?_ _ | refine blk_drew ?_ | refine blk_alloc ?_ _)); refine blk_put (cs := #[.int .i64 0, .int .i64 0]) ?_ 0 _ rfl; (with_reducible repeat (first | refine blk_drewN ?_ _ | refine blk_drew ?_ | refine blk_alloc ?_ _)); exact BK144.out⟩, ⟨by repeat (first | (with_reducible first | exact HB.out | apply below_alloc | apply pw_below_drewN | apply below_drew1 | refine below_set ?_ GE144.out) | exact HB.out)⟩⟩
            · rw [if_neg c21] at H
              have c21b0 : (t140 == 0) = false := beq_eq_false_iff_ne.mpr c21
              have c21b1 : (t140 != 0) = true := bne_iff_ne.mpr c21
              (first | rw [c21b0] | (simp only [i64_w, i32_w]; rw [c21b0]) | skip)
              have H' := Aside0.mk H
              clear H
              go_wp2
              go_meet
              case rel => exact ⟨_, (decide (a1 < 0)), (by first | rfl | (simp; done) | (simp [*]; done)), H', ⟨by have := HJ3.out; first | omega | exact Nat.le_refl _⟩, ⟨by (with_reducible repeat (first | refine blk_drewN ?_ _ | refine blk_drew ?_ | refine blk_alloc ?_ _)); refine blk_put (cs := #[.int .i64 t141, .int .i64 0]) ?_ 1 _ rfl; (with_reducible repeat (first | refine blk_drewN ?_ _ | refine blk_drew ?_ | refine blk_alloc ?_ _)); refine blk_put (cs := #[.int .i64 0, .int .i64 0]) ?_ 0 _ rfl; (with_reducible repeat (first | refine blk_drewN ?_ _ | refine blk_drew ?_ | refine blk_alloc ?_ _)); exact BK144.out⟩, ⟨by repeat (first | (with_reducible first | exact HB.out | apply below_alloc | apply pw_below_drewN | apply below_drew1 | refine below_set ?_ GE144.out) | exact HB.out)⟩⟩
          case rest =>
            clear HC17
            try clear c1
            try clear c2
            try clear p2
            try clear c3
            try clear c6
            try clear c9
            try clear c12
            try clear c16
            try clear c16b0
            try clear c16b1
            try clear c21
            try clear c21b0
            try clear c21b1
            try clear hcz20_0
            try clear hcz20_1
            try clear hfz20_0
            try clear hfz20_1
            try clear p2
            obtain ⟨kq, x35_16, rfl, HA, HJ16, BK144, HB⟩ := hcut
            cases kq with
            | zero => exact absurd HA.out (by simp [catacomblaw13_WindowOf.j1])
            | succ kj16 =>
              have H := HA.out
              clear HA
              simp only [catacomblaw13_WindowOf.j1] at H
              by_cases c22 : x35_16 = true
              · subst c22
                have H1 : (if (t141 == 0 && (t142 == 0)) = true then (if t143 = 0 then ((window_Closed.f kj16 a0 a1 a2).bind fun t146 => (some (!t146))) else (some false)) else (some false)) = some r := by rw [if_pos rfl] at H; exact H
                clear H
                have H := H1
                clear H1
                by_cases c23 : (t141 == 0 && (t142 == 0)) = true
                · rw [if_pos c23] at H
                  have c23b0 : (t141 == 0 && (t142 == 0)) = true := c23
                  (try (have c23b1 : decide (t141 = 0 && (t142 == 0)) = true := by simpa using c23))
                  (try (have c23b2 : (t141 == 0 && (t142 == 0)) = true := by simpa using c23))
                  clear c23
                  by_cases c24 : t143 = 0
                  · rw [if_pos c24] at H
                    have c24b0 : (t143 == 0) = true := beq_iff_eq.mpr c24
                    have c24b1 : (t143 != 0) = false := bne_eq_false_iff_eq.mpr c24
                    clear c24
                    replace H := Option.bind_eq_some_iff.mp H
                    obtain ⟨t146, A250, H⟩ := H
                    replace H : (some (!t146)) = some r := H
                    have A25 := Aside0.mk A250
                    clear A250
                    obtain rfl := Option.some.inj H
                    have hcz26_0 : wc.cell? ⟨gb144, 0, none⟩ = some (.int .i64 t141) := (blk_cell BK144.out 0).trans rfl
                    have hcz26_1 : wc.cell? ⟨gb144, 1, none⟩ = some (.int .i64 t142) := (blk_cell BK144.out 1).trans rfl
                    have hfz26_0 := blk_frozen BK144.out 0
                    have hfz26_1 := blk_frozen BK144.out 1
                    go_wp2_with (first | (go_at_call 36; (with_reducible refine (window_Closed.calls kj16 a0 a1 a2 t146 _ A25.out).mono ?_); rintro e w27 ⟨rfl, hb⟩; have n0_ := Aside0.mk (blk_below (g := gb144) (o := .cells #[.int .i64 t141, .int .i64 t142] 44 (0, 0)) (by (with_reducible repeat (first | refine blk_drewN ?_ _ | refine blk_drew ?_ | refine blk_alloc ?_ _)); exact BK144.out) hb); have n1_ := Aside0.mk (below_step (by repeat (first | (with_reducible first | exact HB.out | apply below_alloc | apply pw_below_drewN | apply below_drew1 | refine below_set ?_ GE144.out) | exact HB.out)) hb); clear BK144; clear HB; have BK144 := n0_; have HB := n1_; clear n0_ n1_; (try clear hb); (try clear hb2); (try clear hk); (try clear hi)))
                    go_ret
                    exact ⟨by first | rfl | (simp [errW_none, errW_some] <;> rfl) | (simp [*, errW_none, errW_some] <;> rfl), by repeat (first | (with_reducible first | exact HB.out | apply below_alloc | apply pw_below_drewN | apply below_drew1 | refine below_set ?_ GE144.out) | exact HB.out)⟩
                  · rw [if_neg c24] at H
                    have c24b0 : (t143 == 0) = false := beq_eq_false_iff_ne.mpr c24
                    have c24b1 : (t143 != 0) = true := bne_iff_ne.mpr c24
                    obtain rfl := Option.some.inj H
                    have hcz28_0 : wc.cell? ⟨gb144, 0, none⟩ = some (.int .i64 t141) := (blk_cell BK144.out 0).trans rfl
                    have hcz28_1 : wc.cell? ⟨gb144, 1, none⟩ = some (.int .i64 t142) := (blk_cell BK144.out 1).trans rfl
                    have hfz28_0 := blk_frozen BK144.out 0
                    have hfz28_1 := blk_frozen BK144.out 1
                    go_wp2
                    go_ret
                    exact ⟨by first | rfl | (simp [errW_none, errW_some] <;> rfl) | (simp [*, errW_none, errW_some] <;> rfl), by repeat (first | (with_reducible first | exact HB.out | apply below_alloc | apply pw_below_drewN | apply below_drew1 | refine below_set ?_ GE144.out) | exact HB.out)⟩
                · rw [if_neg c23] at H
                  have c23b0 : (t141 == 0 && (t142 == 0)) = false := by simpa using c23
                  (try (have c23b1 : decide (t141 = 0 && (t142 == 0)) = false := by simpa using c23))
                  (try (have c23b2 : (t141 == 0 && (t142 == 0)) = false := by simpa using c23))
                  (try (have c23b3 : ¬ (t141 = 0 && (t142 == 0)) := by simpa using c23))
                  clear c23
                  obtain rfl := Option.some.inj H
                  have hcz29_0 : wc.cell? ⟨gb144, 0, none⟩ = some (.int .i64 t141) := (blk_cell BK144.out 0).trans rfl
                  have hcz29_1 : wc.cell? ⟨gb144, 1, none⟩ = some (.int .i64 t142) := (blk_cell BK144.out 1).trans rfl
                  have hfz29_0 := blk_frozen BK144.out 0
                  have hfz29_1 := blk_frozen BK144.out 1
                  go_wp2
                  go_ret
                  exact ⟨by first | rfl | (simp [errW_none, errW_some] <;> rfl) | (simp [*, errW_none, errW_some] <;> rfl), by repeat (first | (with_reducible first | exact HB.out | apply below_alloc | apply pw_below_drewN | apply below_drew1 | refine below_set ?_ GE144.out) | exact HB.out)⟩
              · replace c22 := Bool.eq_false_iff.mpr c22
                subst c22
                have H1 : (if t140 = 0 then (none) else (if (t141 == (wrap64 ((wrap64 (Int.tdiv a1 t140)) * t140)) && (t142 == (wrap64 ((wrap64 ((wrap64 (Int.tdiv a1 t140)) * t140)) + t140)))) = true then (if t143 = (wrap64 ((wrap64 (Int.tdiv a1 t140)) * t140)) then ((window_Closed.f kj16 a0 a1 a2).bind fun t147 => (some (t147 == (decide ((wrap64 ((wrap64 ((wrap64 (Int.tdiv a1 t140)) * t140)) + t140)) ≤ a2))))) else (some false)) else (some false))) = some r := by rw [if_neg (show ¬ (false = true) by decide)] at H; exact H
                clear H
                have H := H1
                clear H1
                by_cases c30 : t140 = 0
                · rw [if_pos c30] at H
                  exact absurd H (by simp)
                · rw [if_neg c30] at H
                  have c30b0 : (t140 == 0) = false := beq_eq_false_iff_ne.mpr c30
                  have c30b1 : (t140 != 0) = true := bne_iff_ne.mpr c30
                  by_cases c31 : (t141 == (wrap64 ((wrap64 (Int.tdiv a1 t140)) * t140)) && (t142 == (wrap64 ((wrap64 ((wrap64 (Int.tdiv a1 t140)) * t140)) + t140)))) = true
                  · rw [if_pos c31] at H
                    have c31b0 : (t141 == (wrap64 ((wrap64 (Int.tdiv a1 t140)) * t140)) && (t142 == (wrap64 ((wrap64 ((wrap64 (Int.tdiv a1 t140)) * t140)) + t140)))) = true := c31
                    (try (have c31b1 : decide (t141 = (wrap64 ((wrap64 (Int.tdiv a1 t140)) * t140)) && (t142 == (wrap64 ((wrap64 ((wrap64 (Int.tdiv a1 t140)) * t140)) + t140)))) = true := by simpa using c31))
                    (try (have c31b2 : (t141 == (wrap64 ((wrap64 (Int.tdiv a1 t140)) * t140)) && (t142 == (wrap64 ((wrap64 ((wrap64 (Int.tdiv a1 t140)) * t140)) + t140)))) = true := by simpa using c31))
                    clear c31
                    by_cases c32 : t143 = (wrap64 ((wrap64 (Int.tdiv a1 t140)) * t140))
                    · rw [if_pos c32] at H
                      have c32b0 : (t143 == (wrap64 ((wrap64 (Int.tdiv a1 t140)) * t140))) = true := beq_iff_eq.mpr c32
                      have c32b1 : (t143 != (wrap64 ((wrap64 (Int.tdiv a1 t140)) * t140))) = false := bne_eq_false_iff_eq.mpr c32
                      clear c32
                      replace H := Option.bind_eq_some_iff.mp H
                      obtain ⟨t147, A330, H⟩ := H
                      replace H : (some (t147 == (decide ((wrap64 ((wrap64 ((wrap64 (Int.tdiv a1 t140)) * t140)) + t140)) ≤ a2)))) = some r := H
                      have A33 := Aside0.mk A330
                      clear A330
                      obtain rfl := Option.some.inj H
                      have hcz34_0 : wc.cell? ⟨gb144, 0, none⟩ = some (.int .i64 t141) := (blk_cell BK144.out 0).trans rfl
                      have hcz34_1 : wc.cell? ⟨gb144, 1, none⟩ = some (.int .i64 t142) := (blk_cell BK144.out 1).trans rfl
                      have hfz34_0 := blk_frozen BK144.out 0
                      have hfz34_1 := blk_frozen BK144.out 1
                      go_wp2_with (first | (go_at_call 36; (with_reducible refine (window_Closed.calls kj16 a0 a1 a2 t147 _ A33.out).mono ?_); rintro e w35 ⟨rfl, hb⟩; have n0_ := Aside0.mk (blk_below (g := gb144) (o := .cells #[.int .i64 t141, .int .i64 t142] 44 (0, 0)) (by (with_reducible repeat (first | refine blk_drewN ?_ _ | refine blk_drew ?_ | refine blk_alloc ?_ _)); exact BK144.out) hb); have n1_ := Aside0.mk (below_step (by repeat (first | (with_reducible first | exact HB.out | apply below_alloc | apply pw_below_drewN | apply below_drew1 | refine below_set ?_ GE144.out) | exact HB.out)) hb); clear BK144; clear HB; have BK144 := n0_; have HB := n1_; clear n0_ n1_; (try clear hb); (try clear hb2); (try clear hk); (try clear hi)))
                      go_ret
                      exact ⟨by first | rfl | (simp [errW_none, errW_some] <;> rfl) | (simp [*, errW_none, errW_some] <;> rfl), by repeat (first | (with_reducible first | exact HB.out | apply below_alloc | apply pw_below_drewN | apply below_drew1 | refine below_set ?_ GE144.out) | exact HB.out)⟩
                    · rw [if_neg c32] at H
                      have c32b0 : (t143 == (wrap64 ((wrap64 (Int.tdiv a1 t140)) * t140))) = false := beq_eq_false_iff_ne.mpr c32
                      have c32b1 : (t143 != (wrap64 ((wrap64 (Int.tdiv a1 t140)) * t140))) = true := bne_iff_ne.mpr c32
                      obtain rfl := Option.some.inj H
                      have hcz36_0 : wc.cell? ⟨gb144, 0, none⟩ = some (.int .i64 t141) := (blk_cell BK144.out 0).trans rfl
                      have hcz36_1 : wc.cell? ⟨gb144, 1, none⟩ = some (.int .i64 t142) := (blk_cell BK144.out 1).trans rfl
                      have hfz36_0 := blk_frozen BK144.out 0
                      have hfz36_1 := blk_frozen BK144.out 1
                      go_wp2
                      go_ret
                      exact ⟨by first | rfl | (simp [errW_none, errW_some] <;> rfl) | (simp [*, errW_none, errW_some] <;> rfl), by repeat (first | (with_reducible first | exact HB.out | apply below_alloc | apply pw_below_drewN | apply below_drew1 | refine below_set ?_ GE144.out) | exact HB.out)⟩
                  · rw [if_neg c31] at H
                    have c31b0 : (t141 == (wrap64 ((wrap64 (Int.tdiv a1 t140)) * t140)) && (t142 == (wrap64 ((wrap64 ((wrap64 (Int.tdiv a1 t140)) * t140)) + t140)))) = false := by simpa using c31
                    (try (have c31b1 : decide (t141 = (wrap64 ((wrap64 (Int.tdiv a1 t140)) * t140)) && (t142 == (wrap64 ((wrap64 ((wrap64 (Int.tdiv a1 t140)) * t140)) + t140)))) = false := by simpa using c31))
                    (try (have c31b2 : (t141 == (wrap64 ((wrap64 (Int.tdiv a1 t140)) * t140)) && (t142 == (wrap64 ((wrap64 ((wrap64 (Int.tdiv a1 t140)) * t140)) + t140)))) = false := by simpa using c31))
                    (try (have c31b3 : ¬ (t141 = (wrap64 ((wrap64 (Int.tdiv a1 t140)) * t140)) && (t142 == (wrap64 ((wrap64 ((wrap64 (Int.tdiv a1 t140)) * t140)) + t140)))) := by simpa using c31))
                    clear c31
                    obtain rfl := Option.some.inj H
                    have hcz37_0 : wc.cell? ⟨gb144, 0, none⟩ = some (.int .i64 t141) := (blk_cell BK144.out 0).trans rfl
                    have hcz37_1 : wc.cell? ⟨gb144, 1, none⟩ = some (.int .i64 t142) := (blk_cell BK144.out 1).trans rfl
                    have hfz37_0 := blk_frozen BK144.out 0
                    have hfz37_1 := blk_frozen BK144.out 1
                    go_wp2
                    go_ret
                    exact ⟨by first | rfl | (simp [errW_none, errW_some] <;> rfl) | (simp [*, errW_none, errW_some] <;> rfl), by repeat (first | (with_reducible first | exact HB.out | apply below_alloc | apply pw_below_drewN | apply below_drew1 | refine below_set ?_ GE144.out) | exact HB.out)⟩
        · rw [if_neg c16] at H
          have c16b0 : (t145 == t140) = false := beq_eq_false_iff_ne.mpr c16
          have c16b1 : (t145 != t140) = true := bne_iff_ne.mpr c16
          obtain rfl := Option.some.inj H
          go_wp2_with (first | ((with_reducible refine gate_callee (f := 33) rfl ?_); refine goesL_ (some 19) rfl rfl Try.func33 (by kernel_rfl) rfl #[.int .i64 a0] rfl (by (try simp only [List.map_toArray, List.map_cons, List.map_nil]); first | done | rfl | (simp only [List.length_drop, List.length_take]; rfl)) ?_; (with_reducible refine (catacomblaw13_Width.calls a0 t140 _ A12.out).mono ?_); rintro e w' ⟨rfl, ⟨nd, rfl⟩⟩; refine ⟨_, rfl, ?_⟩; (try (rw [drewN_self wc]; generalize hq_ : World.drewN wc _ = wc; have n0_ : Aside0 (Below w.heap.size w wc) := ⟨by rw [← hq_]; exact (by repeat (first | (with_reducible first | exact HB.out | apply below_alloc | apply pw_below_drewN | apply below_drew1) | exact HB.out))⟩; clear HB hq_; have HB := n0_; clear n0_))) | ((with_reducible refine gate_callee (f := 29) rfl ?_); refine goesL_ (some 22) rfl rfl Try.func29 (by kernel_rfl) rfl #[.int .i64 a0, .int .i64 a1] rfl (by (try simp only [List.map_toArray, List.map_cons, List.map_nil]); first | done | rfl | (simp only [List.length_drop, List.length_take]; rfl)) ?_; (with_reducible refine (window_Of.calls kj3 a0 a1 t141 t142 _ A13.out).mono ?_); rintro e w38 ⟨rfl, hb⟩; refine ⟨_, rfl, ?_⟩; have n0_ := Aside0.mk (below_step (by repeat (first | (with_reducible first | exact HB.out | apply below_alloc | apply pw_below_drewN | apply below_drew1) | exact HB.out)) hb); clear HB; have HB := n0_; clear n0_; (try clear hb); (try clear hb2); (try clear hk); (try clear hi)) | ((with_reducible refine gate_callee (f := 34) rfl ?_); refine goesL_ (some 25) rfl rfl Try.func34 (by kernel_rfl) rfl #[.int .i64 a0, .int .i64 a1] rfl (by (try simp only [List.map_toArray, List.map_cons, List.map_nil]); first | done | rfl | (simp only [List.length_drop, List.length_take]; rfl)) ?_; (with_reducible refine (window_Start.calls a0 a1 t143 _ A14.out).mono ?_); rintro e w' ⟨rfl, ⟨nd, rfl⟩⟩; refine ⟨_, rfl, ?_⟩; (try (rw [drewN_self w38]; generalize hq_ : World.drewN w38 _ = w38; have n0_ : Aside0 (Below w.heap.size w w38) := ⟨by rw [← hq_]; exact (by repeat (first | (with_reducible first | exact HB.out | apply below_alloc | apply pw_below_drewN | apply below_drew1) | exact HB.out))⟩; clear HB hq_; have HB := n0_; clear n0_))) | ((with_reducible refine gate_dst (N := 8) rfl ?_); refine box_event ?hg (N := 8) ?hd (cs := #[.int .i64 0, .int .i64 0]) (t := 44) ?hr ?_; (case hd => rfl); (case hg => rfl); (case hr => first | (go_simp; done) | (go_simp; rfl)); intro gb144 hg w39 hbox hb; have n0_ := Aside0.mk (below_step (by repeat (first | (with_reducible first | exact HB.out | apply below_alloc | apply pw_below_drewN | apply below_drew1) | exact HB.out)) hb); have n1_ := Aside0.mk (hbox); have n2_ := Aside0.mk ((by rw [hg]; exact (below_size (by repeat (first | (with_reducible first | exact HB.out | apply below_alloc | apply pw_below_drewN | apply below_drew1) | exact HB.out))) : w.heap.size ≤ gb144)); have n3_ := Aside0.mk ((by rw [hg]; exact (below_size (by repeat (first | (with_reducible first | exact HB.out | apply below_alloc | apply pw_below_drewN | apply below_drew1) | exact HB.out))) : w.heap.size ≤ gb144)); clear HB; have HB := n0_; have BK144 := n1_; have GW144 := n2_; have GE144 := n3_; clear n0_ n1_ n2_ n3_; clear hb hbox hg; have hcz40_0 : w39.cell? ⟨gb144, 0, none⟩ = some (.int .i64 0) := (blk_cell BK144.out 0).trans rfl; have hcz40_1 : w39.cell? ⟨gb144, 1, none⟩ = some (.int .i64 0) := (blk_cell BK144.out 1).trans rfl; have hfz40_0 := blk_frozen BK144.out 0; have hfz40_1 := blk_frozen BK144.out 1) | ((with_reducible refine gate_callee (f := 35) rfl ?_); refine goesL_ (some 27) rfl rfl Try.func35 (by kernel_rfl) rfl #[.int .i64 a0] rfl (by (try simp only [List.map_toArray, List.map_cons, List.map_nil]); first | done | rfl | (simp only [List.length_drop, List.length_take]; rfl)) ?_; (with_reducible refine (window_Width.calls a0 t145 _ A15.out).mono ?_); rintro e w' ⟨rfl, ⟨nd, rfl⟩⟩; refine ⟨_, rfl, ?_⟩))
          go_ret
          exact ⟨by first | rfl | (simp [errW_none, errW_some] <;> rfl) | (simp [*, errW_none, errW_some] <;> rfl), by repeat (first | (with_reducible first | exact HB.out | apply below_alloc | apply pw_below_drewN | apply below_drew1 | refine below_set ?_ GE144.out) | exact HB.out)⟩

/-- THE ONE PURE STATEMENT of catacomblaw13_WindowOf: yours. -/
def catacomblaw13_WindowOf.Pure : Prop := ∀ (a0 : Int) (a1 : Int) (a2 : Int), (Lit.int .i64 a0).wf = true → (Lit.int .i64 a1).wf = true → (Lit.int .i64 a2).wf = true → ∃ k, catacomblaw13_WindowOf.f k a0 a1 a2 = some true
theorem catacomblaw13_WindowOf.walk (P : catacomblaw13_WindowOf.Pure) (a0 : Int) (a1 : Int) (a2 : Int) (w : World) (w0 : (Lit.int .i64 a0).wf = true) (w1 : (Lit.int .i64 a1).wf = true) (w2 : (Lit.int .i64 a2).wf = true) :
    Calls Try.prog 12 #[.int .i64 a0, .int .i64 a1, .int .i64 a2] w fun e w' => e = .returned (.bool true) ∧ Below w.heap.size w w' := by
  obtain ⟨k, h⟩ := P a0 a1 a2 w0 w1 w2
  refine (catacomblaw13_WindowOf.calls k a0 a1 a2 true w h).mono ?_
  rintro e w' ⟨rfl, hd⟩
  exact ⟨rfl, hd⟩

end Go.Proofs.Ytafcogdplhljmaa.PWindowOf
