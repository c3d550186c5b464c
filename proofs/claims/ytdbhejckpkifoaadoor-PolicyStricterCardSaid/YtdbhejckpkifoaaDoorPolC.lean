/- The law PolicyWider, walked. -/
import Derived.Test.YtdbhejckpkifoaaDoorPolB
import Derived.Lib.Hide
import Derived.LoopTactic
import Derived.Outline
import Derived.Laws.Rows
import Derived.Laws.CopyOwn
import Derived.WalkKit
set_option linter.unusedVariables false
set_option linter.unusedSimpArgs false
namespace Go.Proofs.YtdbhejckpkifoaaDoor
open Go.RowKit Go.Proofs.YtdbhejckpkifoaaDoorW.PrintWords Go.Proofs.YtdbhejckpkifoaaDoorW.PrintLast Go.Proofs.YtdbhejckpkifoaaDoorW.PrintMore
attribute [local go_sem] max2_int min2_int max_two min_two max_three min_three max_four min_four

open Go.Proofs.YtdbhejckpkifoaaDoor.PPolicyWider
/-- May a policy be? -/
def RightP (a b c : Int) : Prop := (0 ≤ a ∧ a ≤ 1099511627776) ∧ (0 ≤ b ∧ b ≤ 1099511627776) ∧ (0 ≤ c ∧ c ≤ 1099511627776) ∧ (a = 0 → b = 0) ∧ (b = 0 → c = 0) ∧ (b = 0 ∨ a ≤ b) ∧ (c = 0 ∨ b ≤ c)
instance (a b c : Int) : Decidable (RightP a b c) := by unfold RightP; infer_instance
def rightB (a b c : Int) : Bool := decide (RightP a b c)
theorem right_is (a b c : Int) : catacomblaw18_Right.f 5 a b c = some (rightB a b c) := by
  have r0 : rd [a, b, c] 0 = a := rfl
  have r1 : rd [a, b, c] 1 = b := rfl
  have r2 : rd [a, b, c] 2 = c := rfl
  have w1 : wrap64 (0 + 1) = 1 := by unfold wrap64; omega
  have w2 : wrap64 (1 + 1) = 2 := by unfold wrap64; omega
  have w3 : wrap64 (2 + 1) = 3 := by unfold wrap64; omega
  show catacomblaw18_Right.l0 5 a b c [a, b, c] 3 0 = _
  unfold catacomblaw18_Right.l0
  rw [if_pos (by decide), if_pos (by decide), if_pos (show (0 : Int) < (([a, b, c] : List Int).length : Int) by simp), r0, w1]
  by_cases p0 : a < 0
  · rw [if_pos p0, rightB, decide_eq_false (show ¬ RightP a b c by unfold RightP; omega)]
  rw [if_neg p0]
  by_cases q0 : a > 1099511627776
  · rw [if_pos q0, rightB, decide_eq_false (show ¬ RightP a b c by unfold RightP; omega)]
  rw [if_neg q0]
  unfold catacomblaw18_Right.l0
  rw [if_pos (by decide), if_pos (by decide), if_pos (show (1 : Int) < (([a, b, c] : List Int).length : Int) by simp), r1, w2]
  by_cases p1 : b < 0
  · rw [if_pos p1, rightB, decide_eq_false (show ¬ RightP a b c by unfold RightP; omega)]
  rw [if_neg p1]
  by_cases q1 : b > 1099511627776
  · rw [if_pos q1, rightB, decide_eq_false (show ¬ RightP a b c by unfold RightP; omega)]
  rw [if_neg q1]
  unfold catacomblaw18_Right.l0
  rw [if_pos (by decide), if_pos (by decide), if_pos (show (2 : Int) < (([a, b, c] : List Int).length : Int) by simp), r2, w3]
  by_cases p2 : c < 0
  · rw [if_pos p2, rightB, decide_eq_false (show ¬ RightP a b c by unfold RightP; omega)]
  rw [if_neg p2]
  by_cases q2 : c > 1099511627776
  · rw [if_pos q2, rightB, decide_eq_false (show ¬ RightP a b c by unfold RightP; omega)]
  rw [if_neg q2]
  unfold catacomblaw18_Right.l0
  rw [if_neg (by decide)]
  unfold rightB
  repeat' split
  all_goals first
    | (rw [decide_eq_true (show RightP a b c by unfold RightP; omega)]; done)
    | (rw [decide_eq_false (show ¬ RightP a b c by unfold RightP; omega)]; done)
    | (congr 1; rw [decide_eq_decide]; unfold RightP; omega)
theorem right_calls (a b c : Int) (w : World) : Calls Tryd.prog 7 #[.agg #[.int .i64 a, .int .i64 b, .int .i64 c]] w fun e w' => e = .returned (.bool (rightB a b c)) ∧ Below w.heap.size w w' :=
  catacomblaw18_Right.calls 5 a b c _ w (right_is a b c)
theorem wider (a b c to_ now : Int) (h : RightP a b c) : (goneP a b c 2 to_ now = true → goneP a b c 1 to_ now = true) ∧ (goneP a b c 1 to_ now = true → goneP a b c 0 to_ now = true) := by
  have e : ∀ n, (boundOk n now && decide (to_ ≤ boundTo n now)) = true ↔ ¬ n ≤ 0 ∧ ¬ now < n ∧ to_ ≤ now - n := fun n => by
    unfold boundTo boundOk
    by_cases h1 : n ≤ 0 <;> by_cases h2 : now < n <;> simp [h1, h2] <;> omega
  unfold goneP
  rw [e, e, e]
  show (¬ c ≤ 0 ∧ ¬ now < c ∧ to_ ≤ now - c → ¬ b ≤ 0 ∧ ¬ now < b ∧ to_ ≤ now - b) ∧ (¬ b ≤ 0 ∧ ¬ now < b ∧ to_ ≤ now - b → ¬ a ≤ 0 ∧ ¬ now < a ∧ to_ ≤ now - a)
  unfold RightP at h
  omega
set_option maxRecDepth 100000 in
set_option maxHeartbeats 8000000 in
theorem wider_calls (a b c fr to_ now : Int) (w : World) (h : Tab w) (hn : -9223372036854775808 ≤ now ∧ now ≤ 9223372036854775807) :
    Calls Tryd.prog 4 #[.agg #[.int .i64 a, .int .i64 b, .int .i64 c], .agg #[.int .i64 fr, .int .i64 to_], .int .i64 now] w fun e w' => e = .returned (.bool true) ∧ Below w.heap.size w w' := by
  have HT0 := Aside0.mk ((h.alloc (.cells #[.int .i64 a, .int .i64 b, .int .i64 c] 23)).alloc (.cells #[.int .i64 fr, .int .i64 to_] 29))
  have HX := Aside0.mk (show Below w.heap.size w ((w.alloc (.cells #[.int .i64 a, .int .i64 b, .int .i64 c] 23)).alloc (.cells #[.int .i64 fr, .int .i64 to_] 29)) from ((Below.refl _ _).alloc (Nat.le_refl _) _).alloc (by simp) _)
  have HL := Lib.hid lives_calls
  have HRR := Lib.hid (fun W => right_calls a b c W)
  have HG0 := Lib.hid (fun W => gone_calls a b c 0 fr to_ now hn W)
  have HG1 := Lib.hid (fun W => gone_calls a b c 1 fr to_ now hn W)
  have HG2 := Lib.hid (fun W => gone_calls a b c 2 fr to_ now hn W)
  have HWD := Aside0.mk (wider a b c to_ now)
  have HRB := Aside0.mk (show rightB a b c = true → RightP a b c from fun h => of_decide_eq_true h)
  clear h hn
  go_enter Tryd.func4, Tryd.ntmps4
  go_wp2_with fail
  refine (HL.out _ HT0.out).mono ?_
  rintro e w1 ⟨rfl, h1⟩
  have HY := Aside0.mk (HX.out.trans (h1.mono HX.out.size))
  have HT1 := Aside0.mk (HT0.out.below h1)
  have c0 : w1.cell? ⟨w.heap.size, 0, none⟩ = some (.int .i64 a) := by rw [h1.cell (by simp; omega)]; go_simp
  have c1 : w1.cell? ⟨w.heap.size, 1, none⟩ = some (.int .i64 b) := by rw [h1.cell (by simp; omega)]; go_simp
  have c2 : w1.cell? ⟨w.heap.size, 2, none⟩ = some (.int .i64 c) := by rw [h1.cell (by simp; omega)]; go_simp
  have c3 : w1.cell? ⟨w.heap.size + 1, 0, none⟩ = some (.int .i64 fr) := by rw [h1.cell (by simp)]; go_simp
  have c4 : w1.cell? ⟨w.heap.size + 1, 1, none⟩ = some (.int .i64 to_) := by rw [h1.cell (by simp)]; go_simp
  clear h1
  obtain ⟨rb, hrb⟩ : ∃ r, r = rightB a b c := ⟨_, rfl⟩
  rw [← hrb] at HRR HRB
  clear hrb
  cases rb with
  | false =>
    go_wp2_with fail
    refine (HRR.out _).mono ?_
    rintro e w2 ⟨rfl, h2⟩
    have HZ := Aside0.mk (HY.out.trans (h2.mono HY.out.size))
    have HT2 := Aside0.mk (HT1.out.below h2)
    clear h2 c0 c1 c2 c3 c4
    go_wp2_with fail
    refine (HL.out _ HT2.out).mono ?_
    rintro e w3 ⟨rfl, h3⟩
    have HV := Aside0.mk (HZ.out.trans (h3.mono HZ.out.size))
    clear h3
    go_wp2
    go_ret
    exact ⟨rfl, HV.out⟩
  | true =>
    go_wp2_with fail
    refine (HRR.out _).mono ?_
    rintro e w2 ⟨rfl, h2⟩
    have HB0 := Aside0.mk (show Below w.heap.size w w2.drew from pw_below_drewN (HY.out.trans (h2.mono HY.out.size)) 1)
    have d0 := bread h2 c0
    have d1 := bread h2 c1
    have d2 := bread h2 c2
    have d3 := bread h2 c3
    have d4 := bread h2 c4
    clear h2 c0 c1 c2 c3 c4
    go_wp2_with fail
    refine start_ (n := 15) (S := fun w' => (w'.cell? ⟨w.heap.size, 0, none⟩ = some (.int .i64 a)) ∧ (w'.cell? ⟨w.heap.size, 1, none⟩ = some (.int .i64 b)) ∧ (w'.cell? ⟨w.heap.size, 2, none⟩ = some (.int .i64 c)) ∧ (w'.cell? ⟨w.heap.size + 1, 0, none⟩ = some (.int .i64 fr)) ∧ (w'.cell? ⟨w.heap.size + 1, 1, none⟩ = some (.int .i64 to_))) (ds := []) #[false, false, false, false, false, false, false, false, false, false, false, false, false, false, false] (by kernel_rfl) rfl rfl ⟨d0, d1, d2, d3, d4⟩ (fun hHeld => ?_)
    refine pure_ (i := 2) (N := some 20) (v := ?_) (a' := ?_) #[false, false, true, false, false, false, false, false, false, false, false, false, false, false, false] rfl rfl (by kernel_rfl) (fun _ _ _ h => h) (Or.inl ⟨by rfl, ?_⟩) ?_ ?_
    rotate_left
    · intro w'
      go_simp
      with_reducible rfl
    rotate_left
    · simp only [Act.put, List.setIfInBounds_toArray, List.set_cons_zero, List.set_cons_succ, i64_w, i32_w]
      rfl
    refine pure_ (i := 6) (N := some 24) (v := ?_) (a' := ?_) #[false, false, true, false, false, false, true, false, false, false, false, false, false, false, false] rfl rfl (by kernel_rfl) (fun _ _ _ h => h) (Or.inl ⟨by rfl, ?_⟩) ?_ ?_
    rotate_left
    · intro w'
      go_simp
      with_reducible rfl
    rotate_left
    · simp only [Act.put, List.setIfInBounds_toArray, List.set_cons_zero, List.set_cons_succ, i64_w, i32_w]
      rfl
    refine pure_ (i := 10) (N := some 28) (v := ?_) (a' := ?_) #[false, false, true, false, false, false, true, false, false, false, true, false, false, false, false] rfl rfl (by kernel_rfl) (fun _ _ _ h => h) (Or.inl ⟨by rfl, ?_⟩) ?_ ?_
    rotate_left
    · intro w'
      go_simp
      with_reducible rfl
    rotate_left
    · simp only [Act.put, List.setIfInBounds_toArray, List.set_cons_zero, List.set_cons_succ, i64_w, i32_w]
      rfl
    refine take_ (i := 0) (N := some 18) (v := ?_) (a' := ?_) #[true, false, true, false, false, false, true, false, false, false, true, false, false, false, false] rfl rfl (by kernel_rfl) (fun _ _ _ h => h) (Or.inl ⟨by rfl, ?_⟩) hHeld ?_ ?_
    rotate_left
    · rintro w' ⟨s0, s1, s2, s3, s4⟩
      go_simp
      with_reducible rfl
    rotate_left
    · simp only [Act.put, List.setIfInBounds_toArray, List.set_cons_zero, List.set_cons_succ, i64_w, i32_w]
      rfl
    refine take_ (i := 1) (N := some 19) (v := ?_) (a' := ?_) #[true, true, true, false, false, false, true, false, false, false, true, false, false, false, false] rfl rfl (by kernel_rfl) (fun _ _ _ h => h) (Or.inl ⟨by rfl, ?_⟩) hHeld ?_ ?_
    rotate_left
    · rintro w' ⟨s0, s1, s2, s3, s4⟩
      go_simp
      with_reducible rfl
    rotate_left
    · simp only [Act.put, List.setIfInBounds_toArray, List.set_cons_zero, List.set_cons_succ, i64_w, i32_w]
      rfl
    refine take_ (i := 4) (N := some 22) (v := ?_) (a' := ?_) #[true, true, true, false, true, false, true, false, false, false, true, false, false, false, false] rfl rfl (by kernel_rfl) (fun _ _ _ h => h) (Or.inl ⟨by rfl, ?_⟩) hHeld ?_ ?_
    rotate_left
    · rintro w' ⟨s0, s1, s2, s3, s4⟩
      go_simp
      with_reducible rfl
    rotate_left
    · simp only [Act.put, List.setIfInBounds_toArray, List.set_cons_zero, List.set_cons_succ, i64_w, i32_w]
      rfl
    refine take_ (i := 5) (N := some 23) (v := ?_) (a' := ?_) #[true, true, true, false, true, true, true, false, false, false, true, false, false, false, false] rfl rfl (by kernel_rfl) (fun _ _ _ h => h) (Or.inl ⟨by rfl, ?_⟩) hHeld ?_ ?_
    rotate_left
    · rintro w' ⟨s0, s1, s2, s3, s4⟩
      go_simp
      with_reducible rfl
    rotate_left
    · simp only [Act.put, List.setIfInBounds_toArray, List.set_cons_zero, List.set_cons_succ, i64_w, i32_w]
      rfl
    refine take_ (i := 8) (N := some 26) (v := ?_) (a' := ?_) #[true, true, true, false, true, true, true, false, true, false, true, false, false, false, false] rfl rfl (by kernel_rfl) (fun _ _ _ h => h) (Or.inl ⟨by rfl, ?_⟩) hHeld ?_ ?_
    rotate_left
    · rintro w' ⟨s0, s1, s2, s3, s4⟩
      go_simp
      with_reducible rfl
    rotate_left
    · simp only [Act.put, List.setIfInBounds_toArray, List.set_cons_zero, List.set_cons_succ, i64_w, i32_w]
      rfl
    refine take_ (i := 9) (N := some 27) (v := ?_) (a' := ?_) #[true, true, true, false, true, true, true, false, true, true, true, false, false, false, false] rfl rfl (by kernel_rfl) (fun _ _ _ h => h) (Or.inl ⟨by rfl, ?_⟩) hHeld ?_ ?_
    rotate_left
    · rintro w' ⟨s0, s1, s2, s3, s4⟩
      go_simp
      with_reducible rfl
    rotate_left
    · simp only [Act.put, List.setIfInBounds_toArray, List.set_cons_zero, List.set_cons_succ, i64_w, i32_w]
      rfl
    refine one_ (i := 3) (N := some 21) #[true, true, true, true, true, true, true, false, true, true, true, false, false, false, false] rfl rfl (by kernel_rfl) (by decide) (fun K hK => ?_)
    refine goes_ Tryd.func10 (by kernel_rfl) rfl #[.agg #[.int .i64 a, .int .i64 b, .int .i64 c], .int .i64 0, .agg #[.int .i64 fr, .int .i64 to_], .int .i64 now] (by rfl) rfl rfl (by simp only [List.map_toArray, List.map_cons, List.map_nil]; rfl) ?_
    with_reducible refine ((HG0.out _)).mono ?_
    rintro e w4 ⟨rfl, h4⟩
    have HB1 := Aside0.mk (HB0.out.trans (h4.mono HB0.out.size))
    have k0 := bread h4 hHeld.1
    have k1 := bread h4 hHeld.2.1
    have k2 := bread h4 hHeld.2.2.1
    have k3 := bread h4 hHeld.2.2.2.1
    have k4 := bread h4 hHeld.2.2.2.2
    clear h4
    refine ⟨_, rfl, ?_⟩
    refine hK.out _ _ ⟨k0, k1, k2, k3, k4⟩ (fun hHeld => ?_)
    clear hK K
    refine norm_ (a' := ?_) ?_ ?_
    rotate_left
    · show Act.put _ (some 21) _ = _
      simp only [Act.put, List.setIfInBounds_toArray, List.set_cons_zero, List.set_cons_succ, i64_w, i32_w]
      rfl
    refine one_ (i := 7) (N := some 25) #[true, true, true, true, true, true, true, true, true, true, true, false, false, false, false] rfl rfl (by kernel_rfl) (by decide) (fun K hK => ?_)
    refine goes_ Tryd.func10 (by kernel_rfl) rfl #[.agg #[.int .i64 a, .int .i64 b, .int .i64 c], .int .i64 1, .agg #[.int .i64 fr, .int .i64 to_], .int .i64 now] (by rfl) rfl rfl (by simp only [List.map_toArray, List.map_cons, List.map_nil]; rfl) ?_
    with_reducible refine ((HG1.out _)).mono ?_
    rintro e w5 ⟨rfl, h5⟩
    have HB2 := Aside0.mk (HB1.out.trans (h5.mono HB1.out.size))
    have k0 := bread h5 hHeld.1
    have k1 := bread h5 hHeld.2.1
    have k2 := bread h5 hHeld.2.2.1
    have k3 := bread h5 hHeld.2.2.2.1
    have k4 := bread h5 hHeld.2.2.2.2
    clear h5
    refine ⟨_, rfl, ?_⟩
    refine hK.out _ _ ⟨k0, k1, k2, k3, k4⟩ (fun hHeld => ?_)
    clear hK K
    refine norm_ (a' := ?_) ?_ ?_
    rotate_left
    · show Act.put _ (some 25) _ = _
      simp only [Act.put, List.setIfInBounds_toArray, List.set_cons_zero, List.set_cons_succ, i64_w, i32_w]
      rfl
    refine one_ (i := 11) (N := some 29) #[true, true, true, true, true, true, true, true, true, true, true, true, false, false, false] rfl rfl (by kernel_rfl) (by decide) (fun K hK => ?_)
    refine goes_ Tryd.func10 (by kernel_rfl) rfl #[.agg #[.int .i64 a, .int .i64 b, .int .i64 c], .int .i64 2, .agg #[.int .i64 fr, .int .i64 to_], .int .i64 now] (by rfl) rfl rfl (by simp only [List.map_toArray, List.map_cons, List.map_nil]; rfl) ?_
    with_reducible refine ((HG2.out _)).mono ?_
    rintro e w6 ⟨rfl, h6⟩
    have HB3 := Aside0.mk (HB2.out.trans (h6.mono HB2.out.size))
    have k0 := bread h6 hHeld.1
    have k1 := bread h6 hHeld.2.1
    have k2 := bread h6 hHeld.2.2.1
    have k3 := bread h6 hHeld.2.2.2.1
    have k4 := bread h6 hHeld.2.2.2.2
    clear h6
    refine ⟨_, rfl, ?_⟩
    refine hK.out _ _ ⟨k0, k1, k2, k3, k4⟩ (fun hHeld => ?_)
    clear hK K
    refine norm_ (a' := ?_) ?_ ?_
    rotate_left
    · show Act.put _ (some 29) _ = _
      simp only [Act.put, List.setIfInBounds_toArray, List.set_cons_zero, List.set_cons_succ, i64_w, i32_w]
      rfl
    refine pure_ (i := 12) (N := some 7) (v := ?_) (a' := ?_) #[true, true, true, true, true, true, true, true, true, true, true, true, true, false, false] rfl rfl (by kernel_rfl) (fun _ _ _ h => h) (Or.inl ⟨by rfl, ?_⟩) ?_ ?_
    rotate_left
    · intro w'
      go_simp
      with_reducible rfl
    rotate_left
    · simp only [Act.put, List.setIfInBounds_toArray, List.set_cons_zero, List.set_cons_succ, i64_w, i32_w]
      rfl
    refine pure_ (i := 13) (N := some 8) (v := ?_) (a' := ?_) #[true, true, true, true, true, true, true, true, true, true, true, true, true, true, false] rfl rfl (by kernel_rfl) (fun _ _ _ h => h) (Or.inl ⟨by rfl, ?_⟩) ?_ ?_
    rotate_left
    · intro w'
      go_simp
      with_reducible rfl
    rotate_left
    · simp only [Act.put, List.setIfInBounds_toArray, List.set_cons_zero, List.set_cons_succ, i64_w, i32_w]
      rfl
    refine pure_ (i := 14) (N := some 9) (v := ?_) (a' := ?_) #[true, true, true, true, true, true, true, true, true, true, true, true, true, true, true] rfl rfl (by kernel_rfl) (fun _ _ _ h => h) (Or.inl ⟨by rfl, ?_⟩) ?_ ?_
    rotate_left
    · intro w'
      go_simp
      with_reducible rfl
    rotate_left
    · simp only [Act.put, List.setIfInBounds_toArray, List.set_cons_zero, List.set_cons_succ, i64_w, i32_w]
      rfl
    refine done_ (by kernel_rfl) ?_
    obtain ⟨g0, hg0⟩ : ∃ g, g = goneP a b c 0 to_ now := ⟨_, rfl⟩
    obtain ⟨g1, hg1⟩ : ∃ g, g = goneP a b c 1 to_ now := ⟨_, rfl⟩
    obtain ⟨g2, hg2⟩ : ∃ g, g = goneP a b c 2 to_ now := ⟨_, rfl⟩
    rw [← hg0, ← hg1, ← hg2]
    have HQ := HWD.out (HRB.out trivial)
    rw [← hg0, ← hg1, ← hg2] at HQ
    clear hg0 hg1 hg2
    cases g0 <;> cases g1 <;> cases g2 <;> simp at HQ
    all_goals
      go_wp2
      go_ret
      exact ⟨rfl, HB3.out⟩
end Go.Proofs.YtdbhejckpkifoaaDoor
