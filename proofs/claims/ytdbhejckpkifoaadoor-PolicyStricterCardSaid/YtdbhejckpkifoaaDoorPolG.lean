/- The law PolicyStricter, walked. -/
import Derived.Test.YtdbhejckpkifoaaDoorPolF
import Derived.Deep.DeepCutAuto
import Derived.Lib.Hide
import Derived.LoopTactic
import Derived.Outline
import Derived.Laws.Rows
import Derived.Laws.CopyOwn
import Derived.WalkKit
set_option linter.unusedVariables false
set_option linter.unusedSimpArgs false
namespace Go.Proofs.YtdbhejckpkifoaaDoor
open Go.RowKit Go.Proofs.YtdbhejckpkifoaaDoorW.PrintWords Go.Proofs.YtdbhejckpkifoaaDoorW.PrintLast Go.Proofs.YtdbhejckpkifoaaDoorW.PrintMore
attribute [local go_sem] max2_int min2_int max_two min_two max_three min_three max_four min_four

open Go.Proofs.YtdbhejckpkifoaaDoor.PPolicyWider
theorem gone_iff (a b c t to_ now : Int) : goneP a b c t to_ now = true ↔ ¬ ofP a b c t ≤ 0 ∧ ¬ now < ofP a b c t ∧ to_ ≤ now - ofP a b c t := by
  unfold goneP boundTo boundOk
  generalize ofP a b c t = n
  by_cases h1 : n ≤ 0 <;> by_cases h2 : now < n <;> simp [h1, h2] <;> omega
theorem pick_is (x y : Int) : pick x y = if y ≠ 0 ∧ (x = 0 ∨ y < x) then y else x := by
  unfold pick lessB
  by_cases h : y ≠ 0 ∧ (x = 0 ∨ y < x)
  · rw [if_pos h, if_pos (decide_eq_true h)]
  · rw [if_neg h, if_neg (by rw [decide_eq_false h]; simp)]
theorem right_pick (a b c a' b' c' : Int) (h : RightP a b c) (h' : RightP a' b' c') : RightP (pick a a') (pick b b') (pick c c') := by
  rw [pick_is, pick_is, pick_is]
  unfold RightP at h h' ⊢
  split <;> split <;> split <;> omega
theorem gone_pick (a b c a' b' c' t to_ now : Int) (h : RightP a b c) (h' : RightP a' b' c') : goneP (pick a a') (pick b b') (pick c c') t to_ now = (goneP a b c t to_ now || goneP a' b' c' t to_ now) := by
  rw [Bool.eq_iff_iff, Bool.or_eq_true, gone_iff, gone_iff, gone_iff, pick_is, pick_is, pick_is]
  unfold ofP RightP at *
  by_cases t0 : t = 0
  · simp only [if_pos t0]; split <;> omega
  · by_cases t1 : t = 1
    · simp only [if_neg t0, if_pos t1]; split <;> omega
    · by_cases t2 : t = 2
      · simp only [if_neg t0, if_neg t1, if_pos t2]; split <;> omega
      · simp only [if_neg t0, if_neg t1, if_neg t2]; omega
theorem gone_later (a b c t to_ now d : Int) (hd : 0 ≤ d) (h : goneP a b c t to_ now = true) : goneP a b c t to_ (now + d) = true := by
  rw [gone_iff] at h ⊢
  omega
theorem bcell {W w1 : World} (hb : Below W.heap.size W w1) : (∀ b o, b < W.heap.size → w1.cell? ⟨b, o, none⟩ = W.cell? ⟨b, o, none⟩) ∧ (∀ b o, b < W.heap.size → w1.frozen? ⟨b, o, none⟩ = W.frozen? ⟨b, o, none⟩) :=
  ⟨fun b o h => hb.cell (p := ⟨b, o, none⟩) h, fun b o h => hb.frozen (p := ⟨b, o, none⟩) h⟩
structure Boxes (p q r : Nat) (a b c a' b' c' fr to_ : Int) (w : World) : Prop where
  p0 : w.cell? ⟨p, 0, none⟩ = some (.int .i64 a)
  p1 : w.cell? ⟨p, 1, none⟩ = some (.int .i64 b)
  p2 : w.cell? ⟨p, 2, none⟩ = some (.int .i64 c)
  q0 : w.cell? ⟨q, 0, none⟩ = some (.int .i64 a')
  q1 : w.cell? ⟨q, 1, none⟩ = some (.int .i64 b')
  q2 : w.cell? ⟨q, 2, none⟩ = some (.int .i64 c')
  r0 : w.cell? ⟨r, 0, none⟩ = some (.int .i64 fr)
  r1 : w.cell? ⟨r, 1, none⟩ = some (.int .i64 to_)
theorem Boxes.below {p q r : Nat} {a b c a' b' c' fr to_ : Int} {w w1 : World} (h : Boxes p q r a b c a' b' c' fr to_ w) (hb : Below w.heap.size w w1) : Boxes p q r a b c a' b' c' fr to_ w1 :=
  ⟨bread hb h.p0, bread hb h.p1, bread hb h.p2, bread hb h.q0, bread hb h.q1, bread hb h.q2, bread hb h.r0, bread hb h.r1⟩
structure Box3 (g : Nat) (a b c : Int) (w : World) : Prop where
  c0 : w.cell? ⟨g, 0, none⟩ = some (.int .i64 a)
  c1 : w.cell? ⟨g, 1, none⟩ = some (.int .i64 b)
  c2 : w.cell? ⟨g, 2, none⟩ = some (.int .i64 c)
theorem Box3.below {g : Nat} {a b c : Int} {w w1 : World} (h : Box3 g a b c w) (hb : Below w.heap.size w w1) : Box3 g a b c w1 := ⟨bread hb h.c0, bread hb h.c1, bread hb h.c2⟩
set_option maxRecDepth 100000 in
set_option maxHeartbeats 16000000 in
theorem stricter_law (a b c a' b' c' t fr to_ now later : Int) (w : World) (h : Tab w) (hn : -9223372036854775808 ≤ now ∧ now ≤ 9223372036854775807) (hl : 0 ≤ later ∧ later < 4294967296) :
    Calls Tryd.prog 5 #[.agg #[.int .i64 a, .int .i64 b, .int .i64 c], .agg #[.int .i64 a', .int .i64 b', .int .i64 c'], .int .i64 t, .agg #[.int .i64 fr, .int .i64 to_], .int .i64 now, .int .u32 later] w fun e w' => e = .returned (.bool true) ∧ Below w.heap.size w w' := by
  have HT0 := Aside0.mk (((h.alloc (.cells #[.int .i64 a, .int .i64 b, .int .i64 c] 23)).alloc (.cells #[.int .i64 a', .int .i64 b', .int .i64 c'] 23)).alloc (.cells #[.int .i64 fr, .int .i64 to_] 29))
  have HX := Aside0.mk (show Below w.heap.size w (((w.alloc (.cells #[.int .i64 a, .int .i64 b, .int .i64 c] 23)).alloc (.cells #[.int .i64 a', .int .i64 b', .int .i64 c'] 23)).alloc (.cells #[.int .i64 fr, .int .i64 to_] 29)) from (((Below.refl _ _).alloc (Nat.le_refl _) _).alloc (by simp) _).alloc (by simp; omega) _)
  have HL := Lib.hid lives_calls
  have HST := Lib.hid (fun W => stricter_calls a b c a' b' c' W)
  go_enter Tryd.func5, Tryd.ntmps5
  go_wp2_with fail
  refine (HL.out _ HT0.out).mono ?_
  rintro e w1 ⟨rfl, h1⟩
  have HY := Aside0.mk (HX.out.trans (h1.mono HX.out.size))
  have HT1 := Aside0.mk (HT0.out.below h1)
  have HBX := Aside0.mk (show Boxes w.heap.size (w.heap.size + 1) (w.heap.size + 1 + 1) a b c a' b' c' fr to_ w1 from ⟨by rw [h1.cell (by first | (simp; done) | (simp; omega))]; go_simp, by rw [h1.cell (by first | (simp; done) | (simp; omega))]; go_simp, by rw [h1.cell (by first | (simp; done) | (simp; omega))]; go_simp, by rw [h1.cell (by first | (simp; done) | (simp; omega))]; go_simp, by rw [h1.cell (by first | (simp; done) | (simp; omega))]; go_simp, by rw [h1.cell (by first | (simp; done) | (simp; omega))]; go_simp, by rw [h1.cell (by first | (simp; done) | (simp; omega))]; go_simp, by rw [h1.cell (by first | (simp; done) | (simp; omega))]; go_simp⟩)
  have hz : w.heap.size + 1 + 1 < w1.heap.size := by have := h1.size; simp at this; omega
  clear h1 h
  obtain ⟨c0, c1, c2, c3, c4, c5, c6, c7⟩ := HBX.out
  have HY1 := HY
  have HBX1 := HBX
  go_wp2_with fail
  refine (HST.out _).mono ?_
  rintro e w2 ⟨rfl, h2⟩
  have HY2 := Aside0.mk (HY1.out.trans (h2.mono HY1.out.size))
  have HBX2 := Aside0.mk (HBX1.out.below h2)
  clear h2 c0 c1 c2 c3 c4 c5 c6 c7
  obtain ⟨c0, c1, c2, c3, c4, c5, c6, c7⟩ := HBX2.out
  have HQ2 := Aside0.mk (show Box3 w2.heap.size (pick a a') (pick b b') (pick c c') (w2.alloc (.cells #[.int .i64 (pick a a'), .int .i64 (pick b b'), .int .i64 (pick c c')] 23)) from ⟨by go_simp, by go_simp, by go_simp⟩)
  have HYB := Aside0.mk (HY2.out.alloc HY2.out.size (.cells #[.int .i64 (pick a a'), .int .i64 (pick b b'), .int .i64 (pick c c')] 23))
  have HBXB := Aside0.mk (HBX2.out.below ((Below.refl _ _).alloc (Nat.le_refl _) (.cells #[.int .i64 (pick a a'), .int .i64 (pick b b'), .int .i64 (pick c c')] 23)))
  clear HY2 HBX2 c0 c1 c2 c3 c4 c5 c6 c7
  have HY2 := HYB
  have HBX2 := HBXB
  obtain ⟨c0, c1, c2, c3, c4, c5, c6, c7⟩ := HBX2.out
  obtain ⟨b0, b1, b2⟩ := HQ2.out
  have HGA := Lib.hid (fun W => gone_calls a b c t fr to_ now hn W)
  have HGB := Lib.hid (fun W => gone_calls a' b' c' t fr to_ now hn W)
  have HGC := Lib.hid (fun W => gone_calls (pick a a') (pick b b') (pick c c') t fr to_ now hn W)
  have HRA := Lib.hid (fun W => right_calls a b c W)
  have HRB := Lib.hid (fun W => right_calls a' b' c' W)
  have HRC := Lib.hid (fun W => right_calls (pick a a') (pick b b') (pick c c') W)
  obtain ⟨A, hA⟩ : ∃ A, A = pick a a' := ⟨_, rfl⟩
  obtain ⟨B, hB⟩ : ∃ A, A = pick b b' := ⟨_, rfl⟩
  obtain ⟨C, hC⟩ : ∃ A, A = pick c c' := ⟨_, rfl⟩
  have HP1 := Aside0.mk (show rightB a b c = true → rightB a' b' c' = true → rightB A B C = true by
    intro h h'
    rw [hA, hB, hC]
    exact decide_eq_true (right_pick _ _ _ _ _ _ (of_decide_eq_true h) (of_decide_eq_true h')))
  have HP2 := Aside0.mk (show rightB a b c = true → rightB a' b' c' = true → goneP A B C t to_ now = (goneP a b c t to_ now || goneP a' b' c' t to_ now) by
    intro h h'
    rw [hA, hB, hC]
    exact gone_pick _ _ _ _ _ _ _ _ _ (of_decide_eq_true h) (of_decide_eq_true h'))
  have HP3 := Aside0.mk (gone_later A B C t to_ now later hl.1)
  rw [← hA, ← hB, ← hC] at HGC HRC HQ2 HY2 HBX2 b0 b1 b2 c0 c1 c2 c3 c4 c5 c6 c7 ⊢
  obtain ⟨ra, hra⟩ : ∃ r, r = rightB a b c := ⟨_, rfl⟩
  obtain ⟨rb, hrb⟩ : ∃ r, r = rightB a' b' c' := ⟨_, rfl⟩
  obtain ⟨rc, hrc⟩ : ∃ r, r = rightB A B C := ⟨_, rfl⟩
  rw [← hra] at HRA HP1 HP2
  rw [← hrb] at HRB HP1 HP2
  rw [← hrc] at HRC HP1
  obtain ⟨ga, hga⟩ : ∃ r, r = goneP a b c t to_ now := ⟨_, rfl⟩
  obtain ⟨gb, hgb⟩ : ∃ r, r = goneP a' b' c' t to_ now := ⟨_, rfl⟩
  rw [← hga] at HGA HP2
  rw [← hgb] at HGB HP2
  have HLW := Aside0.mk hl
  have HNW := Aside0.mk hn
  clear hA hB hC hra hrb hrc hga hgb HYB HBXB hl
  cases ra with
  | false =>
    go_wp2_with fail
    refine (HRA.out _).mono ?_
    rintro e w3 ⟨rfl, h3⟩
    have HY3 := Aside0.mk (HY2.out.trans (h3.mono HY2.out.size))
    have HBX3 := Aside0.mk (HBX2.out.below h3)
    have HQ3 := Aside0.mk (HQ2.out.below h3)
    clear h3 c0 c1 c2 c3 c4 c5 c6 c7 b0 b1 b2
    obtain ⟨b0, b1, b2⟩ := HQ3.out
    obtain ⟨c0, c1, c2, c3, c4, c5, c6, c7⟩ := HBX3.out
    go_wp2_with fail
    refine (HRA.out _).mono ?_
    rintro e w4 ⟨rfl, h4⟩
    have HY4 := Aside0.mk (HY3.out.trans (h4.mono HY3.out.size))
    have HBX4 := Aside0.mk (HBX3.out.below h4)
    have HQ4 := Aside0.mk (HQ3.out.below h4)
    clear h4 c0 c1 c2 c3 c4 c5 c6 c7 b0 b1 b2
    obtain ⟨b0, b1, b2⟩ := HQ4.out
    obtain ⟨c0, c1, c2, c3, c4, c5, c6, c7⟩ := HBX4.out
    go_wp2
    go_ret
    exact ⟨rfl, HY4.out⟩
  | true =>
    cases rb with
    | false =>
      go_wp2_with fail
      refine (HRA.out _).mono ?_
      rintro e w3 ⟨rfl, h3⟩
      have HY3 := Aside0.mk (HY2.out.trans (h3.mono HY2.out.size))
      have HBX3 := Aside0.mk (HBX2.out.below h3)
      have HQ3 := Aside0.mk (HQ2.out.below h3)
      clear h3 c0 c1 c2 c3 c4 c5 c6 c7 b0 b1 b2
      obtain ⟨b0, b1, b2⟩ := HQ3.out
      obtain ⟨c0, c1, c2, c3, c4, c5, c6, c7⟩ := HBX3.out
      go_wp2_with fail
      refine (HRB.out _).mono ?_
      rintro e w4 ⟨rfl, h4⟩
      have HY4 := Aside0.mk (HY3.out.trans (h4.mono HY3.out.size))
      have HBX4 := Aside0.mk (HBX3.out.below h4)
      have HQ4 := Aside0.mk (HQ3.out.below h4)
      clear h4 c0 c1 c2 c3 c4 c5 c6 c7 b0 b1 b2
      obtain ⟨b0, b1, b2⟩ := HQ4.out
      obtain ⟨c0, c1, c2, c3, c4, c5, c6, c7⟩ := HBX4.out
      go_wp2_with fail
      refine (HRA.out _).mono ?_
      rintro e w5 ⟨rfl, h5⟩
      have HY5 := Aside0.mk (HY4.out.trans (h5.mono HY4.out.size))
      have HBX5 := Aside0.mk (HBX4.out.below h5)
      have HQ5 := Aside0.mk (HQ4.out.below h5)
      clear h5 c0 c1 c2 c3 c4 c5 c6 c7 b0 b1 b2
      obtain ⟨b0, b1, b2⟩ := HQ5.out
      obtain ⟨c0, c1, c2, c3, c4, c5, c6, c7⟩ := HBX5.out
      go_wp2_with fail
      refine (HRB.out _).mono ?_
      rintro e w6 ⟨rfl, h6⟩
      have HY6 := Aside0.mk (HY5.out.trans (h6.mono HY5.out.size))
      have HBX6 := Aside0.mk (HBX5.out.below h6)
      have HQ6 := Aside0.mk (HQ5.out.below h6)
      clear h6 c0 c1 c2 c3 c4 c5 c6 c7 b0 b1 b2
      obtain ⟨b0, b1, b2⟩ := HQ6.out
      obtain ⟨c0, c1, c2, c3, c4, c5, c6, c7⟩ := HBX6.out
      go_wp2
      go_ret
      exact ⟨rfl, HY6.out⟩
    | true =>
      have hrc := HP1.out rfl rfl
      subst hrc
      have HG := Aside0.mk (HP2.out rfl rfl)
      go_wp2_with fail
      refine (HRA.out _).mono ?_
      rintro e w3 ⟨rfl, h3⟩
      have HY3 := Aside0.mk (HY2.out.trans (h3.mono HY2.out.size))
      have HBX3 := Aside0.mk (HBX2.out.below h3)
      have HQ3 := Aside0.mk (HQ2.out.below h3)
      clear h3 c0 c1 c2 c3 c4 c5 c6 c7 b0 b1 b2
      obtain ⟨b0, b1, b2⟩ := HQ3.out
      obtain ⟨c0, c1, c2, c3, c4, c5, c6, c7⟩ := HBX3.out
      go_wp2_with fail
      refine (HRB.out _).mono ?_
      rintro e w4 ⟨rfl, h4⟩
      have HY4 := Aside0.mk (HY3.out.trans (h4.mono HY3.out.size))
      have HBX4 := Aside0.mk (HBX3.out.below h4)
      have HQ4 := Aside0.mk (HQ3.out.below h4)
      clear h4 c0 c1 c2 c3 c4 c5 c6 c7 b0 b1 b2
      obtain ⟨b0, b1, b2⟩ := HQ4.out
      obtain ⟨c0, c1, c2, c3, c4, c5, c6, c7⟩ := HBX4.out
      go_wp2_with fail
      refine (HRC.out _).mono ?_
      rintro e w5 ⟨rfl, h5⟩
      have HY5 := Aside0.mk (HY4.out.trans (h5.mono HY4.out.size))
      have HBX5 := Aside0.mk (HBX4.out.below h5)
      have HQ5 := Aside0.mk (HQ4.out.below h5)
      clear h5 c0 c1 c2 c3 c4 c5 c6 c7 b0 b1 b2
      obtain ⟨b0, b1, b2⟩ := HQ5.out
      obtain ⟨c0, c1, c2, c3, c4, c5, c6, c7⟩ := HBX5.out
      go_wp2_with fail
      refine (HRA.out _).mono ?_
      rintro e w6 ⟨rfl, h6⟩
      have HY6 := Aside0.mk (HY5.out.trans (h6.mono HY5.out.size))
      have HBX6 := Aside0.mk (HBX5.out.below h6)
      have HQ6 := Aside0.mk (HQ5.out.below h6)
      clear h6 c0 c1 c2 c3 c4 c5 c6 c7 b0 b1 b2
      obtain ⟨b0, b1, b2⟩ := HQ6.out
      obtain ⟨c0, c1, c2, c3, c4, c5, c6, c7⟩ := HBX6.out
      go_wp2_with fail
      refine (HRB.out _).mono ?_
      rintro e w7 ⟨rfl, h7⟩
      have HY7 := Aside0.mk (HY6.out.trans (h7.mono HY6.out.size))
      have HBX7 := Aside0.mk (HBX6.out.below h7)
      have HQ7 := Aside0.mk (HQ6.out.below h7)
      clear h7 c0 c1 c2 c3 c4 c5 c6 c7 b0 b1 b2
      obtain ⟨b0, b1, b2⟩ := HQ7.out
      obtain ⟨c0, c1, c2, c3, c4, c5, c6, c7⟩ := HBX7.out
      by_cases hb : 1125899906842624 < now
      · have d1 : decide (1125899906842624 < now) = true := decide_eq_true hb
        go_wp2
        go_ret
        exact ⟨rfl, HY7.out⟩
      · have d1 : decide (1125899906842624 < now) = false := decide_eq_false hb
        have hsum : IntKind.i64.wrap (now + later) = now + later := by have := HLW.out; have := HNW.out; rw [IntKind.wrap_i64]; omega
        have hconv : IntKind.i64.wrap later = later := by have := HLW.out; rw [IntKind.wrap_i64]; omega
        have HSUM := Aside0.mk hsum
        have hnl := HLW.out
        have HGL := Lib.hid (fun W => gone_calls A B C t fr to_ (now + later) (by have := HNW.out; omega) W)
        obtain ⟨gc, hgc⟩ : ∃ r, r = goneP A B C t to_ now := ⟨_, rfl⟩
        obtain ⟨gl, hgl⟩ : ∃ r, r = goneP A B C t to_ (now + later) := ⟨_, rfl⟩
        rw [← hgc] at HGC HG HP3
        rw [← hgl] at HGL HP3
        clear hgc hgl hb
        obtain ⟨hn0, hn1⟩ := HNW.out
        obtain ⟨hl0, hl1⟩ := hnl
        cases ga with
        | true =>
          have hgc : gc = true := HG.out
          subst hgc
          have hgl : gl = true := HP3.out rfl
          subst hgl
          go_wp2_with fail
          refine (HGA.out _).mono ?_
          rintro e w8 ⟨rfl, h8⟩
          have HY8 := Aside0.mk (HY7.out.trans (h8.mono HY7.out.size))
          have HBX8 := Aside0.mk (HBX7.out.below h8)
          have HQ8 := Aside0.mk (HQ7.out.below h8)
          clear h8 c0 c1 c2 c3 c4 c5 c6 c7 b0 b1 b2
          obtain ⟨b0, b1, b2⟩ := HQ8.out
          obtain ⟨c0, c1, c2, c3, c4, c5, c6, c7⟩ := HBX8.out
          go_wp2_with fail
          refine (HGC.out _).mono ?_
          rintro e w9 ⟨rfl, h9⟩
          have HY9 := Aside0.mk (HY8.out.trans (h9.mono HY8.out.size))
          have HBX9 := Aside0.mk (HBX8.out.below h9)
          have HQ9 := Aside0.mk (HQ8.out.below h9)
          clear h9 c0 c1 c2 c3 c4 c5 c6 c7 b0 b1 b2
          obtain ⟨b0, b1, b2⟩ := HQ9.out
          obtain ⟨c0, c1, c2, c3, c4, c5, c6, c7⟩ := HBX9.out
          go_wp2_with fail
          refine (HGL.out _).mono ?_
          rintro e w10 ⟨rfl, h10⟩
          have HY10 := Aside0.mk (HY9.out.trans (h10.mono HY9.out.size))
          have HBX10 := Aside0.mk (HBX9.out.below h10)
          have HQ10 := Aside0.mk (HQ9.out.below h10)
          clear h10 c0 c1 c2 c3 c4 c5 c6 c7 b0 b1 b2
          obtain ⟨b0, b1, b2⟩ := HQ10.out
          obtain ⟨c0, c1, c2, c3, c4, c5, c6, c7⟩ := HBX10.out
          go_wp2
          go_ret
          exact ⟨rfl, HY10.out⟩
        | false =>
          cases gb with
          | true =>
            have hgc : gc = true := HG.out
            subst hgc
            have hgl : gl = true := HP3.out rfl
            subst hgl
            go_wp2_with fail
            refine (HGA.out _).mono ?_
            rintro e w8 ⟨rfl, h8⟩
            have HY8 := Aside0.mk (HY7.out.trans (h8.mono HY7.out.size))
            have HBX8 := Aside0.mk (HBX7.out.below h8)
            have HQ8 := Aside0.mk (HQ7.out.below h8)
            clear h8 c0 c1 c2 c3 c4 c5 c6 c7 b0 b1 b2
            obtain ⟨b0, b1, b2⟩ := HQ8.out
            obtain ⟨c0, c1, c2, c3, c4, c5, c6, c7⟩ := HBX8.out
            go_wp2_with fail
            refine (HGB.out _).mono ?_
            rintro e w9 ⟨rfl, h9⟩
            have HY9 := Aside0.mk (HY8.out.trans (h9.mono HY8.out.size))
            have HBX9 := Aside0.mk (HBX8.out.below h9)
            have HQ9 := Aside0.mk (HQ8.out.below h9)
            clear h9 c0 c1 c2 c3 c4 c5 c6 c7 b0 b1 b2
            obtain ⟨b0, b1, b2⟩ := HQ9.out
            obtain ⟨c0, c1, c2, c3, c4, c5, c6, c7⟩ := HBX9.out
            go_wp2_with fail
            refine (HGC.out _).mono ?_
            rintro e w10 ⟨rfl, h10⟩
            have HY10 := Aside0.mk (HY9.out.trans (h10.mono HY9.out.size))
            have HBX10 := Aside0.mk (HBX9.out.below h10)
            have HQ10 := Aside0.mk (HQ9.out.below h10)
            clear h10 c0 c1 c2 c3 c4 c5 c6 c7 b0 b1 b2
            obtain ⟨b0, b1, b2⟩ := HQ10.out
            obtain ⟨c0, c1, c2, c3, c4, c5, c6, c7⟩ := HBX10.out
            go_wp2_with fail
            refine (HGL.out _).mono ?_
            rintro e w11 ⟨rfl, h11⟩
            have HY11 := Aside0.mk (HY10.out.trans (h11.mono HY10.out.size))
            have HBX11 := Aside0.mk (HBX10.out.below h11)
            have HQ11 := Aside0.mk (HQ10.out.below h11)
            clear h11 c0 c1 c2 c3 c4 c5 c6 c7 b0 b1 b2
            obtain ⟨b0, b1, b2⟩ := HQ11.out
            obtain ⟨c0, c1, c2, c3, c4, c5, c6, c7⟩ := HBX11.out
            go_wp2
            go_ret
            exact ⟨rfl, HY11.out⟩
          | false =>
            have hgc : gc = false := HG.out
            subst hgc
            go_wp2_with fail
            refine (HGA.out _).mono ?_
            rintro e w8 ⟨rfl, h8⟩
            have HY8 := Aside0.mk (HY7.out.trans (h8.mono HY7.out.size))
            have HBX8 := Aside0.mk (HBX7.out.below h8)
            have HQ8 := Aside0.mk (HQ7.out.below h8)
            clear h8 c0 c1 c2 c3 c4 c5 c6 c7 b0 b1 b2
            obtain ⟨b0, b1, b2⟩ := HQ8.out
            obtain ⟨c0, c1, c2, c3, c4, c5, c6, c7⟩ := HBX8.out
            go_wp2_with fail
            refine (HGB.out _).mono ?_
            rintro e w9 ⟨rfl, h9⟩
            have HY9 := Aside0.mk (HY8.out.trans (h9.mono HY8.out.size))
            have HBX9 := Aside0.mk (HBX8.out.below h9)
            have HQ9 := Aside0.mk (HQ8.out.below h9)
            clear h9 c0 c1 c2 c3 c4 c5 c6 c7 b0 b1 b2
            obtain ⟨b0, b1, b2⟩ := HQ9.out
            obtain ⟨c0, c1, c2, c3, c4, c5, c6, c7⟩ := HBX9.out
            go_wp2_with fail
            refine (HGC.out _).mono ?_
            rintro e w10 ⟨rfl, h10⟩
            have HY10 := Aside0.mk (HY9.out.trans (h10.mono HY9.out.size))
            have HBX10 := Aside0.mk (HBX9.out.below h10)
            have HQ10 := Aside0.mk (HQ9.out.below h10)
            clear h10 c0 c1 c2 c3 c4 c5 c6 c7 b0 b1 b2
            obtain ⟨b0, b1, b2⟩ := HQ10.out
            obtain ⟨c0, c1, c2, c3, c4, c5, c6, c7⟩ := HBX10.out
            go_wp2
            go_ret
            exact ⟨rfl, HY10.out⟩
theorem wf_u32 {x : Int} (h : (Lit.int .u32 x).wf = true) : 0 ≤ x ∧ x < 4294967296 := by
  simp [Lit.wf, IntKind.min, IntKind.max, IntKind.bits, IntKind.signed] at h
  omega
theorem policyStricter_walk (a b c a' b' c' t fr to_ now later : Int) (W : World) (wa : (Lit.int .i64 a).wf = true) (wb : (Lit.int .i64 b).wf = true) (wc : (Lit.int .i64 c).wf = true) (wa' : (Lit.int .i64 a').wf = true) (wb' : (Lit.int .i64 b').wf = true) (wc' : (Lit.int .i64 c').wf = true) (wt : (Lit.int .i64 t).wf = true) (wfr : (Lit.int .i64 fr).wf = true) (wto : (Lit.int .i64 to_).wf = true) (wn : (Lit.int .i64 now).wf = true) (wl : (Lit.int .u32 later).wf = true) (hT : Tab W) :
    Calls Tryd.prog 5 #[.agg #[.int .i64 a, .int .i64 b, .int .i64 c], .agg #[.int .i64 a', .int .i64 b', .int .i64 c'], .int .i64 t, .agg #[.int .i64 fr, .int .i64 to_], .int .i64 now, .int .u32 later] W fun e w' => e = .returned (.bool true) ∧ Below W.heap.size W w' :=
  stricter_law a b c a' b' c' t fr to_ now later W hT (wf_i64 wn) (wf_u32 wl)
end Go.Proofs.YtdbhejckpkifoaaDoor
