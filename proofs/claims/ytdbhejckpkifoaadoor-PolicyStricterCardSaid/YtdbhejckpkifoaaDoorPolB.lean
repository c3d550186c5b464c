/- policy: number, Text, walked. -/
import Derived.Test.YtdbhejckpkifoaaDoorPolA
import Derived.Deep.RegionWith
import Derived.Lib.Hide
import Derived.LoopTactic
import Derived.Outline
import Derived.Laws.Rows
import Derived.Laws.CopyOwn
import Derived.WalkKit
set_option linter.unusedVariables false
set_option linter.unusedSimpArgs false
namespace Go.Proofs.YtdbhejckpkifoaaDoor
open Go.RowKit Go.Proofs.YtdbhejckpkifoaaDoorW.PrintWords Go.Proofs.YtdbhejckpkifoaaDoorW.PrintLast Go.Proofs.YtdbhejckpkifoaaDoorW.PrintMore
attribute [local go_sem] max2_int min2_int max_two min_two max_three min_three max_four min_four

open Go.Proofs.YtdbhejckpkifoaaDoor.PPolicyWider
section
variable {P : Program} {ops : Array Oper} {Q : Exit → Act → World → Prop} {md : Region.Mode} {S S' : World → Prop}
theorem raise0 (hs : ∀ w, S' w → S w) : ∀ (fuel : Nat) (l : Array Bool) (a : Act) (w : World), S' w → wpAnyLast P md ops Q S' [] fuel l a w → wpAnyLast P md ops Q S [] fuel l a w
  | 0, _, _, _, _, h => h
  | fuel + 1, l, a, w, h0, h => ⟨h.1, fun i hi => wpOp_mono (fun a' w' hh => ⟨fun hn _ => hs w' (hh.1 hn h0), raise0 hs fuel _ a' w' (hh.1 (by simp) h0) hh.2⟩) (h.2 i hi)⟩
/-- From here on S' is known. -/
theorem raise_ {fuel : Nat} {l : Array Bool} {a : Act} {w : World} (hs : ∀ w, S' w → S w) (h0 : S' w) (h : S' w → wpAnyLast P md ops Q S' [] fuel l a w) : wpAnyLast P md ops Q S [] fuel l a w :=
  raise0 hs fuel l a w h0 (h h0)
end
theorem bread {w w1 : World} (h : Below w.heap.size w w1) {p : Addr} {v : Value} (hc : w.cell? p = some v) : w1.cell? p = some v := by
  rw [h.cell (World.block_lt_of_cell? w _ hc)]
  exact hc
theorem below_grow (w : World) (k : Nat) (os : Array Obj) : Below w.heap.size w (Sort.grow (w.drewN k) os) :=
  ⟨rfl, rfl, rfl, by simp, fun i hi => by simp only [Sort.grow]; exact Array.getElem?_append_left hi⟩
def everS : ByteArray := ⟨#[101, 118, 101, 114]⟩
/-- A number's text. -/
def numS (n : Int) : ByteArray := if n = 0 then everS else ⟨(Lib.itoa n).toArray⟩
set_option maxRecDepth 100000 in
set_option maxHeartbeats 8000000 in
theorem number_calls (n : Int) (w : World) (h : Tab w ∧ -9223372036854775808 ≤ n ∧ n ≤ 9223372036854775807) : Calls Tryd.prog 12 #[.int .i64 n] w fun e w' => e = .returned (.string (numS n)) ∧ Below w.heap.size w w' := by
  by_cases h1 : n = 0
  · rw [show numS n = everS by unfold numS; rw [if_pos h1]]
    have e1 : (n == 0) = true := beq_iff_eq.2 h1
    clear h
    go_enter Tryd.func12, Tryd.ntmps12
    go_wp2
    go_ret
    exact ⟨rfl, Below.refl _ _⟩
  · rw [show numS n = ⟨(Lib.itoa n).toArray⟩ by unfold numS; rw [if_neg h1]]
    have e1 : (n == 0) = false := beq_eq_false_iff_ne.2 h1
    have HC := Lib.hid (Tryd.strconv_FormatInt_10 n h.2.1 h.2.2 w h.1)
    clear h
    go_enter Tryd.func12, Tryd.ntmps12
    go_wp2_with fail
    refine HC.out.mono ?_
    rintro e w1 ⟨rfl, k, os, rfl⟩
    have HB := Aside0.mk (below_grow w k os)
    go_wp2
    go_ret
    exact ⟨rfl, HB.out⟩
/-- A policy's text. -/
def textS (a b c : Int) : ByteArray := ⟨#[114, 97, 119, 61]⟩ ++ numS a ++ ⟨#[32, 109, 105, 100, 61]⟩ ++ numS b ++ ⟨#[32, 108, 111, 110, 103, 61]⟩ ++ numS c
theorem digits_len : ∀ (k n : Nat), n < 10 ^ k → (Lib.decDigits n).length ≤ k + 1
  | 0, n, h => by
    unfold Lib.decDigits
    rw [dif_pos (by omega)]
    simp
  | k + 1, n, h => by
    unfold Lib.decDigits
    split
    · simp
    · rw [List.length_append]
      have := digits_len k (n / 10) (by rw [Nat.pow_succ] at h; omega)
      simp
      omega
theorem numS_size (n : Int) (h0 : 0 ≤ n) (h1 : n ≤ 9223372036854775807) : (numS n).size ≤ 1000 := by
  unfold numS
  split
  · decide
  · show (Lib.itoa n).toArray.size ≤ 1000
    unfold Lib.itoa
    rw [if_neg (by omega), List.size_toArray]
    have := digits_len 20 n.toNat (by omega)
    omega
set_option maxRecDepth 100000 in
set_option maxHeartbeats 8000000 in
theorem text_calls (a b c : Int) (w : World) (h : Tab w) (ha : 0 ≤ a ∧ a ≤ 9223372036854775807) (hb : 0 ≤ b ∧ b ≤ 9223372036854775807) (hc : 0 ≤ c ∧ c ≤ 9223372036854775807) :
    Calls Tryd.prog 8 #[.agg #[.int .i64 a, .int .i64 b, .int .i64 c]] w fun e w' => e = .returned (.string (textS a b c)) ∧ Below w.heap.size w w' := by
  have HT0 := Aside0.mk (show Tab ((w.alloc (.cells #[.int .i64 a, .int .i64 b, .int .i64 c] 23)).drew) from h.alloc _)
  have HB0 := Aside0.mk (show Below w.heap.size w ((w.alloc (.cells #[.int .i64 a, .int .i64 b, .int .i64 c] 23)).drew) from pw_below_drewN ((Below.refl _ _).alloc (Nat.le_refl _) _) 1)
  have HNA := Lib.hid (fun W (h : Tab W) => number_calls a W ⟨h, by omega, by omega⟩)
  have HNB := Lib.hid (fun W (h : Tab W) => number_calls b W ⟨h, by omega, by omega⟩)
  have HNC := Lib.hid (fun W (h : Tab W) => number_calls c W ⟨h, by omega, by omega⟩)
  have za := numS_size a ha.1 ha.2
  have zb := numS_size b hb.1 hb.2
  have zc := numS_size c hc.1 hc.2
  rw [show textS a b c = ⟨#[114, 97, 119, 61]⟩ ++ numS a ++ ⟨#[32, 109, 105, 100, 61]⟩ ++ numS b ++ ⟨#[32, 108, 111, 110, 103, 61]⟩ ++ numS c from rfl]
  obtain ⟨sa, hsa⟩ : ∃ s, s = numS a := ⟨_, rfl⟩
  obtain ⟨sb, hsb⟩ : ∃ s, s = numS b := ⟨_, rfl⟩
  obtain ⟨sc, hsc⟩ : ∃ s, s = numS c := ⟨_, rfl⟩
  rw [← hsa] at HNA za ⊢
  rw [← hsb] at HNB zb ⊢
  rw [← hsc] at HNC zc ⊢
  have g1 : ¬ 9223372036854775807 < 4 + sa.size := by omega
  have g2 : ¬ 9223372036854775807 < 4 + sa.size + 5 := by omega
  have g3 : ¬ 9223372036854775807 < 4 + sa.size + 5 + sb.size := by omega
  have g4 : ¬ 9223372036854775807 < 4 + sa.size + 5 + sb.size + 6 := by omega
  have g5 : ¬ 9223372036854775807 < 4 + sa.size + 5 + sb.size + 6 + sc.size := by omega
  clear h ha hb hc hsa hsb hsc za zb zc
  go_enter Tryd.func8, Tryd.ntmps8
  go_wp2_with fail
  refine start_ (n := 15) (S := fun w' => (w'.cell? ⟨w.heap.size, 0, none⟩ = some (.int .i64 a)) ∧ (w'.cell? ⟨w.heap.size, 1, none⟩ = some (.int .i64 b)) ∧ (w'.cell? ⟨w.heap.size, 2, none⟩ = some (.int .i64 c))) (ds := []) #[false, false, false, false, false, false, false, false, false, false, false, false, false, false, false] (by kernel_rfl) rfl rfl ⟨(by go_simp), (by go_simp), (by go_simp)⟩ (fun hHeld => ?_)
  refine pure_ (i := 0) (N := some 3) (v := ?_) (a' := ?_) #[true, false, false, false, false, false, false, false, false, false, false, false, false, false, false] rfl rfl (by kernel_rfl) (fun _ _ _ h => h) (Or.inl ⟨by rfl, ?_⟩) ?_ ?_
  rotate_left
  · intro w'
    go_simp
    with_reducible rfl
  rotate_left
  · simp only [Act.put, List.setIfInBounds_toArray, List.set_cons_zero, List.set_cons_succ, i64_w, i32_w]
    rfl
  refine pure_ (i := 5) (N := some 8) (v := ?_) (a' := ?_) #[true, false, false, false, false, true, false, false, false, false, false, false, false, false, false] rfl rfl (by kernel_rfl) (fun _ _ _ h => h) (Or.inl ⟨by rfl, ?_⟩) ?_ ?_
  rotate_left
  · intro w'
    go_simp
    with_reducible rfl
  rotate_left
  · simp only [Act.put, List.setIfInBounds_toArray, List.set_cons_zero, List.set_cons_succ, i64_w, i32_w]
    rfl
  refine pure_ (i := 10) (N := some 13) (v := ?_) (a' := ?_) #[true, false, false, false, false, true, false, false, false, false, true, false, false, false, false] rfl rfl (by kernel_rfl) (fun _ _ _ h => h) (Or.inl ⟨by rfl, ?_⟩) ?_ ?_
  rotate_left
  · intro w'
    go_simp
    with_reducible rfl
  rotate_left
  · simp only [Act.put, List.setIfInBounds_toArray, List.set_cons_zero, List.set_cons_succ, i64_w, i32_w]
    rfl
  refine take_ (i := 1) (N := some 4) (v := ?_) (a' := ?_) #[true, true, false, false, false, true, false, false, false, false, true, false, false, false, false] rfl rfl (by kernel_rfl) (fun _ _ _ h => h) (Or.inl ⟨by rfl, ?_⟩) hHeld ?_ ?_
  rotate_left
  · rintro w' ⟨s0, s1, s2⟩
    go_simp
    with_reducible rfl
  rotate_left
  · simp only [Act.put, List.setIfInBounds_toArray, List.set_cons_zero, List.set_cons_succ, i64_w, i32_w]
    rfl
  refine take_ (i := 6) (N := some 9) (v := ?_) (a' := ?_) #[true, true, false, false, false, true, true, false, false, false, true, false, false, false, false] rfl rfl (by kernel_rfl) (fun _ _ _ h => h) (Or.inl ⟨by rfl, ?_⟩) hHeld ?_ ?_
  rotate_left
  · rintro w' ⟨s0, s1, s2⟩
    go_simp
    with_reducible rfl
  rotate_left
  · simp only [Act.put, List.setIfInBounds_toArray, List.set_cons_zero, List.set_cons_succ, i64_w, i32_w]
    rfl
  refine take_ (i := 11) (N := some 14) (v := ?_) (a' := ?_) #[true, true, false, false, false, true, true, false, false, false, true, true, false, false, false] rfl rfl (by kernel_rfl) (fun _ _ _ h => h) (Or.inl ⟨by rfl, ?_⟩) hHeld ?_ ?_
  rotate_left
  · rintro w' ⟨s0, s1, s2⟩
    go_simp
    with_reducible rfl
  rotate_left
  · simp only [Act.put, List.setIfInBounds_toArray, List.set_cons_zero, List.set_cons_succ, i64_w, i32_w]
    rfl
  refine one_ (i := 2) (N := some 5) #[true, true, true, false, false, true, true, false, false, false, true, true, false, false, false] rfl rfl (by kernel_rfl) (by decide) (fun K hK => ?_)
  refine goes_ Tryd.func12 (by kernel_rfl) rfl #[.int .i64 a] (by rfl) rfl rfl (by simp only [List.map_toArray, List.map_cons, List.map_nil]; rfl) ?_
  with_reducible refine ((HNA.out _ HT0.out)).mono ?_
  rintro e w2 ⟨rfl, h2⟩
  have HB1 := Aside0.mk (HB0.out.trans (h2.mono HB0.out.size))
  have HT1 := Aside0.mk (HT0.out.below h2)
  have k0 := bread h2 hHeld.1
  have k1 := bread h2 hHeld.2.1
  have k2 := bread h2 hHeld.2.2
  clear h2
  refine ⟨_, rfl, ?_⟩
  refine hK.out _ _ ⟨k0, k1, k2⟩ (fun hHeld => ?_)
  clear hK K
  refine norm_ (a' := ?_) ?_ ?_
  rotate_left
  · show Act.put _ (some 5) _ = _
    simp only [Act.put, List.setIfInBounds_toArray, List.set_cons_zero, List.set_cons_succ, i64_w, i32_w]
    rfl
  refine pure_ (i := 3) (N := some 6) (v := ?_) (a' := ?_) #[true, true, true, true, false, true, true, false, false, false, true, true, false, false, false] rfl rfl (by kernel_rfl) (fun _ _ _ h => h) (Or.inl ⟨by rfl, ?_⟩) ?_ ?_
  rotate_left
  · intro w'
    go_simp
    with_reducible rfl
  rotate_left
  · simp only [Act.put, List.setIfInBounds_toArray, List.set_cons_zero, List.set_cons_succ, i64_w, i32_w]
    rfl
  refine pure_ (i := 4) (N := some 7) (v := ?_) (a' := ?_) #[true, true, true, true, true, true, true, false, false, false, true, true, false, false, false] rfl rfl (by kernel_rfl) (fun _ _ _ h => h) (Or.inl ⟨by rfl, ?_⟩) ?_ ?_
  rotate_left
  · intro w'
    go_simp
    with_reducible rfl
  rotate_left
  · simp only [Act.put, List.setIfInBounds_toArray, List.set_cons_zero, List.set_cons_succ, i64_w, i32_w]
    rfl
  refine one_ (i := 7) (N := some 10) #[true, true, true, true, true, true, true, true, false, false, true, true, false, false, false] rfl rfl (by kernel_rfl) (by decide) (fun K hK => ?_)
  refine goes_ Tryd.func12 (by kernel_rfl) rfl #[.int .i64 b] (by rfl) rfl rfl (by simp only [List.map_toArray, List.map_cons, List.map_nil]; rfl) ?_
  with_reducible refine ((HNB.out _ HT1.out)).mono ?_
  rintro e w3 ⟨rfl, h3⟩
  have HB2 := Aside0.mk (HB1.out.trans (h3.mono HB1.out.size))
  have HT2 := Aside0.mk (HT1.out.below h3)
  have k0 := bread h3 hHeld.1
  have k1 := bread h3 hHeld.2.1
  have k2 := bread h3 hHeld.2.2
  clear h3
  refine ⟨_, rfl, ?_⟩
  refine hK.out _ _ ⟨k0, k1, k2⟩ (fun hHeld => ?_)
  clear hK K
  refine norm_ (a' := ?_) ?_ ?_
  rotate_left
  · show Act.put _ (some 10) _ = _
    simp only [Act.put, List.setIfInBounds_toArray, List.set_cons_zero, List.set_cons_succ, i64_w, i32_w]
    rfl
  refine pure_ (i := 8) (N := some 11) (v := ?_) (a' := ?_) #[true, true, true, true, true, true, true, true, true, false, true, true, false, false, false] rfl rfl (by kernel_rfl) (fun _ _ _ h => h) (Or.inl ⟨by rfl, ?_⟩) ?_ ?_
  rotate_left
  · intro w'
    go_simp
    with_reducible rfl
  rotate_left
  · simp only [Act.put, List.setIfInBounds_toArray, List.set_cons_zero, List.set_cons_succ, i64_w, i32_w]
    rfl
  refine pure_ (i := 9) (N := some 12) (v := ?_) (a' := ?_) #[true, true, true, true, true, true, true, true, true, true, true, true, false, false, false] rfl rfl (by kernel_rfl) (fun _ _ _ h => h) (Or.inl ⟨by rfl, ?_⟩) ?_ ?_
  rotate_left
  · intro w'
    go_simp
    with_reducible rfl
  rotate_left
  · simp only [Act.put, List.setIfInBounds_toArray, List.set_cons_zero, List.set_cons_succ, i64_w, i32_w]
    rfl
  refine one_ (i := 12) (N := some 15) #[true, true, true, true, true, true, true, true, true, true, true, true, true, false, false] rfl rfl (by kernel_rfl) (by decide) (fun K hK => ?_)
  refine goes_ Tryd.func12 (by kernel_rfl) rfl #[.int .i64 c] (by rfl) rfl rfl (by simp only [List.map_toArray, List.map_cons, List.map_nil]; rfl) ?_
  with_reducible refine ((HNC.out _ HT2.out)).mono ?_
  rintro e w4 ⟨rfl, h4⟩
  have HB3 := Aside0.mk (HB2.out.trans (h4.mono HB2.out.size))
  have HT3 := Aside0.mk (HT2.out.below h4)
  have k0 := bread h4 hHeld.1
  have k1 := bread h4 hHeld.2.1
  have k2 := bread h4 hHeld.2.2
  clear h4
  refine ⟨_, rfl, ?_⟩
  refine hK.out _ _ ⟨k0, k1, k2⟩ (fun hHeld => ?_)
  clear hK K
  refine norm_ (a' := ?_) ?_ ?_
  rotate_left
  · show Act.put _ (some 15) _ = _
    simp only [Act.put, List.setIfInBounds_toArray, List.set_cons_zero, List.set_cons_succ, i64_w, i32_w]
    rfl
  refine pure_ (i := 13) (N := some 16) (v := ?_) (a' := ?_) #[true, true, true, true, true, true, true, true, true, true, true, true, true, true, false] rfl rfl (by kernel_rfl) (fun _ _ _ h => h) (Or.inl ⟨by rfl, ?_⟩) ?_ ?_
  rotate_left
  · intro w'
    go_simp
    with_reducible rfl
  rotate_left
  · simp only [Act.put, List.setIfInBounds_toArray, List.set_cons_zero, List.set_cons_succ, i64_w, i32_w]
    rfl
  refine pure_ (i := 14) (N := some 2) (v := ?_) (a' := ?_) #[true, true, true, true, true, true, true, true, true, true, true, true, true, true, true] rfl rfl (by kernel_rfl) (fun _ _ _ h => h) (Or.inl ⟨by rfl, ?_⟩) ?_ ?_
  rotate_left
  · intro w'
    go_simp
    with_reducible rfl
  rotate_left
  · simp only [Act.put, List.setIfInBounds_toArray, List.set_cons_zero, List.set_cons_succ, i64_w, i32_w]
    rfl
  refine done_ (by kernel_rfl) ?_
  go_wp2
  go_ret
  exact ⟨rfl, HB3.out⟩
theorem dec100 : Lib.decDigits 100 = [49, 48, 48] := by
  rw [Lib.decDigits, dif_neg (by omega), Lib.decDigits, dif_neg (by omega), Lib.decDigits, dif_pos (by omega)]
  rfl
def livesS : ByteArray := ⟨#[114, 97, 119, 61, 49, 48, 48, 32, 109, 105, 100, 61, 101, 118, 101, 114, 32, 108, 111, 110, 103, 61, 101, 118, 101, 114]⟩
theorem text_lives : textS 100 0 0 = livesS := by
  have h : numS 100 = ⟨#[49, 48, 48]⟩ := by
    unfold numS
    rw [if_neg (by decide)]
    unfold Lib.itoa
    rw [if_neg (by decide), show (100 : Int).toNat = 100 from rfl, dec100]
  unfold textS
  rw [h]
  decide +kernel
set_option maxRecDepth 100000 in
set_option maxHeartbeats 8000000 in
theorem lives_calls (w : World) (h : Tab w) : Calls Tryd.prog 6 #[] w fun e w' => e = .returned (.bool true) ∧ Below w.heap.size w w' := by
  have HT0 := Aside0.mk (h.alloc (.cells #[.int .i64 100, .int .i64 0, .int .i64 0] 23))
  have HB0 := Aside0.mk (show Below w.heap.size w (w.alloc (.cells #[.int .i64 100, .int .i64 0, .int .i64 0] 23)) from (Below.refl _ _).alloc (Nat.le_refl _) _)
  have HG1 := Lib.hid (fun W => gone_calls 100 0 0 0 0 150 250 ⟨by decide, by decide⟩ W)
  rw [show goneP 100 0 0 0 150 250 = true by decide] at HG1
  have HG2 := Lib.hid (fun W => gone_calls 100 0 0 0 0 151 250 ⟨by decide, by decide⟩ W)
  rw [show goneP 100 0 0 0 151 250 = false by decide] at HG2
  have HTX := Lib.hid (fun W (h : Tab W) => text_calls 100 0 0 W h ⟨by decide, by decide⟩ ⟨by decide, by decide⟩ ⟨by decide, by decide⟩)
  rw [text_lives] at HTX
  unfold livesS at HTX
  clear h
  go_enter Tryd.func6, Tryd.ntmps6
  go_wp2_with fail
  refine (HG1.out _).mono ?_
  rintro e w1 ⟨rfl, h1⟩
  have HB1 := Aside0.mk (HB0.out.trans (h1.mono HB0.out.size))
  have HT1 := Aside0.mk (HT0.out.below h1)
  have c1 : w1.cell? ⟨w.heap.size, 0, none⟩ = some (.int .i64 100) := by rw [h1.cell (by simp)]; go_simp
  have c2 : w1.cell? ⟨w.heap.size, 1, none⟩ = some (.int .i64 0) := by rw [h1.cell (by simp)]; go_simp
  have c3 : w1.cell? ⟨w.heap.size, 2, none⟩ = some (.int .i64 0) := by rw [h1.cell (by simp)]; go_simp
  clear h1
  go_wp2_with fail
  refine (HG2.out _).mono ?_
  rintro e w2 ⟨rfl, h2⟩
  have HB2 := Aside0.mk (HB1.out.trans (h2.mono HB1.out.size))
  have HT2 := Aside0.mk (HT1.out.below h2)
  have d1 := bread h2 c1
  have d2 := bread h2 c2
  have d3 := bread h2 c3
  clear h2 c1 c2 c3
  go_wp2_with fail
  refine (HTX.out _ HT2.out).mono ?_
  rintro e w3 ⟨rfl, h3⟩
  have HB3 := Aside0.mk (HB2.out.trans (h3.mono HB2.out.size))
  clear h3
  go_wp2
  go_ret
  exact ⟨rfl, HB3.out⟩
end Go.Proofs.YtdbhejckpkifoaaDoor
