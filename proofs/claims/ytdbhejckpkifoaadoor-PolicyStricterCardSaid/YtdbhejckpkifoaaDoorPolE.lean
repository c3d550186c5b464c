/- The law PolicyTexts, walked. -/
import Derived.Test.YtdbhejckpkifoaaDoorPolD
import Derived.Lib.Hide
import Derived.LoopTactic
import Derived.Outline
import Derived.Laws.Rows
import Derived.Laws.CopyOwn
import Derived.WalkKit
set_option linter.unusedVariables false
set_option linter.unusedSimpArgs false
namespace Go.Proofs.YtdbhejckpkifoaaDoor
open Go.RowKit Go.Proofs.YtdbhejckpkifoaaDoorW.PrintWords Go.Proofs.YtdbhejckpkifoaaDoorW.PrintLast Go.Proofs.YtdbhejckpkifoaaDoorW.PrintMore
attribute [local go_sem] max2_int min2_int max_two min_two max_three min_three max_four min_four

open Go.Proofs.YtdbhejckpkifoaaDoor.PPolicyWider
theorem conv_dig (x : Int) (W : World) : Sem.run Tryd.prog (convert 36 9 (.slice (some ⟨W.heap.size, 0, none⟩) 1 1)) (W.alloc (.cells #[.int .u8 x] 5)) = .ok (.string (strOfNums [x])) (W.alloc (.cells #[.int .u8 x] 5)) :=
  run_convert_bytes_arg (P := Tryd.prog) (W.alloc (.cells #[.int .u8 x] 5)) 36 5 Tryd.underlying36 Tryd.underlying5 W.heap.size 0 1 1 [x] rfl (fun i hi => by
    have h0 : i = 0 := by omega
    subst h0
    simp) 9 Tryd.underlying9
/-- The digits that are still to come. -/
def decZ (n : Nat) : List UInt8 := if n = 0 then [] else Lib.decDigits n
theorem decZ_step (n : Nat) (h : 0 < n) : decZ n = decZ (n / 10) ++ [UInt8.ofNat (48 + n % 10)] := by
  unfold decZ
  rw [if_neg (by omega), Lib.decDigits]
  by_cases h1 : n < 10
  · rw [dif_pos h1, if_pos (by omega), Nat.mod_eq_of_lt h1]; rfl
  · rw [dif_neg h1, if_neg (by omega)]
theorem str_dig (r : Nat) (hr : r < 10) (l : List UInt8) : strOfNums [48 + (r : Int)] ++ ⟨l.toArray⟩ = (⟨(UInt8.ofNat (48 + r) :: l).toArray⟩ : ByteArray) := by
  apply ByteArray.ext
  apply Array.toList_inj.1
  have h : (48 + (r : Int)).toNat = 48 + r := by omega
  simp [strOfNums, h]
set_option maxRecDepth 100000 in
set_option maxHeartbeats 8000000 in
theorem digits_calls (n : Nat) (hn : n ≤ 1099511627776) (w : World) : Calls Tryd.prog 9 #[.int .i64 (n : Int)] w fun e w' => e = .returned (.string (numS n)) ∧ Below w.heap.size w w' := by
  by_cases h1 : n = 0
  · subst h1
    rw [show numS ((0 : Nat) : Int) = everS from rfl]
    go_enter Tryd.func9, Tryd.ntmps9
    go_wp2
    go_ret
    exact ⟨rfl, Below.refl _ _⟩
  · have e1 : ((n : Int) == 0) = false := beq_eq_false_iff_ne.2 (by omega)
    have hs : numS (n : Int) = ⟨(decZ n).toArray⟩ := by
      unfold numS Lib.itoa decZ
      rw [if_neg (by omega), if_neg (by omega), if_neg h1, show (n : Int).toNat = n from Int.toNat_natCast n]
    rw [hs]
    obtain ⟨R, hR⟩ : ∃ R, R = decZ n := ⟨_, rfl⟩
    rw [← hR]
    have HR0 := Aside0.mk (show decZ n ++ [] = R by rw [hR, List.append_nil])
    clear hs hR h1
    go_enter Tryd.func9, Tryd.ntmps9
    go_wp2_with fail
    go_loopw [0, 3] (fun v0 v3 wr => ∃ (m : Nat) (l : List UInt8), m ≤ n ∧ l.length + m ≤ n + 1 ∧ v0 = .int .i64 (m : Int) ∧ v3 = .string ⟨l.toArray⟩ ∧ Aside0 (decZ m ++ l = R) ∧ Aside0 (Below w.heap.size w wr)) (fun v _ _ => (intOf v).toNat)
    case atStart => exact ⟨n, [], by omega, by simp, rfl, rfl, HR0, ⟨Below.refl _ _⟩⟩
    case round =>
      obtain ⟨m, l, hm, hl, rfl, rfl, HL, HB⟩ := hrel
      by_cases h0 : 0 < m
      · have d1 : (0 : Int) < (m : Int) := by omega
        obtain ⟨r, hr⟩ : ∃ r, r = m % 10 := ⟨_, rfl⟩
        have hr10 : r < 10 := by omega
        have hmod : Int.tmod (m : Int) 10 = (r : Int) := by rw [Int.tmod_eq_emod_of_nonneg (by omega)]; omega
        have hmod2 : (m : Int) % 10 = (r : Int) := by omega
        obtain ⟨q, hq⟩ : ∃ q, q = m / 10 := ⟨_, rfl⟩
        have hdiv : Int.tdiv (m : Int) 10 = (q : Int) := by rw [Int.tdiv_eq_ediv_of_nonneg (by omega)]; omega
        have hdiv2 : (m : Int) / 10 = (q : Int) := by omega
        have hw1 : IntKind.u8.wrap (r : Int) = (r : Int) := by rw [IntKind.wrap_u8]; omega
        have hw2 : IntKind.u8.wrap (48 + (r : Int)) = 48 + (r : Int) := by rw [IntKind.wrap_u8]; omega
        have hw3 : (r : Int) % 256 = (r : Int) := by omega
        have hw4 : (48 + (r : Int)) % 256 = 48 + (r : Int) := by omega
        have HQ := Aside0.mk (show q ≤ n ∧ (UInt8.ofNat (48 + r) :: l).length + q ≤ n + 1 ∧ q < m by rw [List.length_cons]; omega)
        have HL2 := Aside0.mk (show decZ q ++ (UInt8.ofNat (48 + r) :: l) = R by rw [← HL.out, decZ_step m h0, ← hr, ← hq, List.append_assoc]; rfl)
        have HS := Aside0.mk (str_dig r hr10 l)
        obtain ⟨s, hs⟩ : ∃ s, s = strOfNums [48 + (r : Int)] := ⟨_, rfl⟩
        have hs1 : s.size = 1 := by rw [hs, strOfNums_size]; rfl
        have kc := conv_dig (48 + (r : Int)) wr
        rw [← hs] at kc HS
        have hA : ¬ 9223372036854775807 < 1 + l.length := by omega
        clear hr hq hs
        go_wp2_with (rw [HS.out])
        go_roundw
        case rel => exact ⟨q, _, HQ.out.1, HQ.out.2.1, rfl, rfl, HL2, ⟨Below.alloc HB.out HB.out.size _⟩⟩
        case measure => have := HQ.out.2.2; simp [intOf]; omega
      · have hm0 : m = 0 := by omega
        subst hm0
        obtain rfl : l = R := HL.out
        clear HL h0 hm hl
        go_wp2
        go_ret
        exact ⟨rfl, HB.out⟩

set_option maxRecDepth 100000 in
set_option maxHeartbeats 8000000 in
theorem texts_calls (a b c : Int) (w : World) (h : Tab w) :
    Calls Tryd.prog 3 #[.agg #[.int .i64 a, .int .i64 b, .int .i64 c]] w fun e w' => e = .returned (.bool true) ∧ Below w.heap.size w w' := by
  have HT0 := Aside0.mk (h.alloc (.cells #[.int .i64 a, .int .i64 b, .int .i64 c] 23))
  have HX := Aside0.mk (show Below w.heap.size w (w.alloc (.cells #[.int .i64 a, .int .i64 b, .int .i64 c] 23)) from (Below.refl _ _).alloc (Nat.le_refl _) _)
  have HL := Lib.hid lives_calls
  have HRR := Lib.hid (fun W => right_calls a b c W)
  have HRB := Aside0.mk (show rightB a b c = true → RightP a b c from fun h => of_decide_eq_true h)
  clear h
  go_enter Tryd.func3, Tryd.ntmps3
  go_wp2_with fail
  refine (HL.out _ HT0.out).mono ?_
  rintro e w1 ⟨rfl, h1⟩
  have HY := Aside0.mk (HX.out.trans (h1.mono HX.out.size))
  have HT1 := Aside0.mk (HT0.out.below h1)
  have c0 : w1.cell? ⟨w.heap.size, 0, none⟩ = some (.int .i64 a) := by rw [h1.cell (by simp)]; go_simp
  have c1 : w1.cell? ⟨w.heap.size, 1, none⟩ = some (.int .i64 b) := by rw [h1.cell (by simp)]; go_simp
  have c2 : w1.cell? ⟨w.heap.size, 2, none⟩ = some (.int .i64 c) := by rw [h1.cell (by simp)]; go_simp
  clear h1
  obtain ⟨rb, hrb⟩ : ∃ r, r = rightB a b c := ⟨_, rfl⟩
  rw [← hrb] at HRR HRB
  clear hrb
  cases rb with
  | false =>
    go_wp2_with fail
    refine (HRR.out _).mono ?_
    rintro e w2 ⟨rfl, h2⟩
    have HZ := Aside0.mk (HY.out.trans (h2.mono HY.out.size))
    have HT2 := Aside0.mk (HT1.out.below h2)
    clear h2 c0 c1 c2
    go_wp2_with fail
    refine (HL.out _ HT2.out).mono ?_
    rintro e w3 ⟨rfl, h3⟩
    have HV := Aside0.mk (HZ.out.trans (h3.mono HZ.out.size))
    clear h3
    go_wp2
    go_ret
    exact ⟨rfl, HV.out⟩
  | true =>
    have HRP := Aside0.mk (HRB.out rfl)
    have ha := HRP.out.1
    have hb := HRP.out.2.1
    have hc := HRP.out.2.2.1
    have HTX := Lib.hid (fun W (h : Tab W) => text_calls a b c W h (by omega) (by omega) (by omega))
    have hda := fun W => digits_calls a.toNat (by omega) W
    have hdb := fun W => digits_calls b.toNat (by omega) W
    have hdc := fun W => digits_calls c.toNat (by omega) W
    rw [Int.toNat_of_nonneg (by omega)] at hda hdb hdc
    have HDA := Lib.hid hda
    have HDB := Lib.hid hdb
    have HDC := Lib.hid hdc
    have za := numS_size a (by omega) (by omega)
    have zb := numS_size b (by omega) (by omega)
    have zc := numS_size c (by omega) (by omega)
    rw [show textS a b c = ⟨#[114, 97, 119, 61]⟩ ++ numS a ++ ⟨#[32, 109, 105, 100, 61]⟩ ++ numS b ++ ⟨#[32, 108, 111, 110, 103, 61]⟩ ++ numS c from rfl] at HTX
    obtain ⟨sa, hsa⟩ : ∃ s, s = numS a := ⟨_, rfl⟩
    obtain ⟨sb, hsb⟩ : ∃ s, s = numS b := ⟨_, rfl⟩
    obtain ⟨sc, hsc⟩ : ∃ s, s = numS c := ⟨_, rfl⟩
    rw [← hsa] at HDA za HTX
    rw [← hsb] at HDB zb HTX
    rw [← hsc] at HDC zc HTX
    have g1 : ¬ 9223372036854775807 < 4 + sa.size := by omega
    have g2 : ¬ 9223372036854775807 < 4 + sa.size + 5 := by omega
    have g3 : ¬ 9223372036854775807 < 4 + sa.size + 5 + sb.size := by omega
    have g4 : ¬ 9223372036854775807 < 4 + sa.size + 5 + sb.size + 6 := by omega
    have g5 : ¬ 9223372036854775807 < 4 + sa.size + 5 + sb.size + 6 + sc.size := by omega
    clear ha hb hc hsa hsb hsc za zb zc hda hdb hdc
    go_wp2_with fail
    refine (HRR.out _).mono ?_
    rintro e w2 ⟨rfl, h2⟩
    have HB0 := Aside0.mk (show Below w.heap.size w w2.drew from pw_below_drewN (HY.out.trans (h2.mono HY.out.size)) 1)
    have HT2 := Aside0.mk (show Tab w2.drew from (HT1.out.below h2 : Tab w2))
    have d0 := bread h2 c0
    have d1 := bread h2 c1
    have d2 := bread h2 c2
    clear h2 c0 c1 c2
    go_wp2_with fail
    refine start_ (n := 18) (S := fun w' => (w'.cell? ⟨w.heap.size, 0, none⟩ = some (.int .i64 a)) ∧ (w'.cell? ⟨w.heap.size, 1, none⟩ = some (.int .i64 b)) ∧ (w'.cell? ⟨w.heap.size, 2, none⟩ = some (.int .i64 c))) (ds := []) #[false, false, false, false, false, false, false, false, false, false, false, false, false, false, false, false, false, false] (by kernel_rfl) rfl rfl ⟨d0, d1, d2⟩ (fun hHeld => ?_)
    refine pure_ (i := 2) (N := some 13) (v := ?_) (a' := ?_) #[false, false, true, false, false, false, false, false, false, false, false, false, false, false, false, false, false, false] rfl rfl (by kernel_rfl) (fun _ _ _ h => h) (Or.inl ⟨by rfl, ?_⟩) ?_ ?_
    rotate_left
    · intro w'
      go_simp
      with_reducible rfl
    rotate_left
    · simp only [Act.put, List.setIfInBounds_toArray, List.set_cons_zero, List.set_cons_succ, i64_w, i32_w]
      rfl
    refine pure_ (i := 7) (N := some 18) (v := ?_) (a' := ?_) #[false, false, true, false, false, false, false, true, false, false, false, false, false, false, false, false, false, false] rfl rfl (by kernel_rfl) (fun _ _ _ h => h) (Or.inl ⟨by rfl, ?_⟩) ?_ ?_
    rotate_left
    · intro w'
      go_simp
      with_reducible rfl
    rotate_left
    · simp only [Act.put, List.setIfInBounds_toArray, List.set_cons_zero, List.set_cons_succ, i64_w, i32_w]
      rfl
    refine pure_ (i := 12) (N := some 23) (v := ?_) (a' := ?_) #[false, false, true, false, false, false, false, true, false, false, false, false, true, false, false, false, false, false] rfl rfl (by kernel_rfl) (fun _ _ _ h => h) (Or.inl ⟨by rfl, ?_⟩) ?_ ?_
    rotate_left
    · intro w'
      go_simp
      with_reducible rfl
    rotate_left
    · simp only [Act.put, List.setIfInBounds_toArray, List.set_cons_zero, List.set_cons_succ, i64_w, i32_w]
      rfl
    refine take_ (i := 0) (N := some 11) (v := ?_) (a' := ?_) #[true, false, true, false, false, false, false, true, false, false, false, false, true, false, false, false, false, false] rfl rfl (by kernel_rfl) (fun _ _ _ h => h) (Or.inl ⟨by rfl, ?_⟩) hHeld ?_ ?_
    rotate_left
    · rintro w' ⟨s0, s1, s2⟩
      go_simp
      with_reducible rfl
    rotate_left
    · simp only [Act.put, List.setIfInBounds_toArray, List.set_cons_zero, List.set_cons_succ, i64_w, i32_w]
      rfl
    refine take_ (i := 3) (N := some 14) (v := ?_) (a' := ?_) #[true, false, true, true, false, false, false, true, false, false, false, false, true, false, false, false, false, false] rfl rfl (by kernel_rfl) (fun _ _ _ h => h) (Or.inl ⟨by rfl, ?_⟩) hHeld ?_ ?_
    rotate_left
    · rintro w' ⟨s0, s1, s2⟩
      go_simp
      with_reducible rfl
    rotate_left
    · simp only [Act.put, List.setIfInBounds_toArray, List.set_cons_zero, List.set_cons_succ, i64_w, i32_w]
      rfl
    refine take_ (i := 8) (N := some 19) (v := ?_) (a' := ?_) #[true, false, true, true, false, false, false, true, true, false, false, false, true, false, false, false, false, false] rfl rfl (by kernel_rfl) (fun _ _ _ h => h) (Or.inl ⟨by rfl, ?_⟩) hHeld ?_ ?_
    rotate_left
    · rintro w' ⟨s0, s1, s2⟩
      go_simp
      with_reducible rfl
    rotate_left
    · simp only [Act.put, List.setIfInBounds_toArray, List.set_cons_zero, List.set_cons_succ, i64_w, i32_w]
      rfl
    refine take_ (i := 13) (N := some 24) (v := ?_) (a' := ?_) #[true, false, true, true, false, false, false, true, true, false, false, false, true, true, false, false, false, false] rfl rfl (by kernel_rfl) (fun _ _ _ h => h) (Or.inl ⟨by rfl, ?_⟩) hHeld ?_ ?_
    rotate_left
    · rintro w' ⟨s0, s1, s2⟩
      go_simp
      with_reducible rfl
    rotate_left
    · simp only [Act.put, List.setIfInBounds_toArray, List.set_cons_zero, List.set_cons_succ, i64_w, i32_w]
      rfl
    refine one_ (i := 1) (N := some 12) #[true, true, true, true, false, false, false, true, true, false, false, false, true, true, false, false, false, false] rfl rfl (by kernel_rfl) (by decide) (fun K hK => ?_)
    refine goes_ Tryd.func8 (by kernel_rfl) rfl #[.agg #[.int .i64 a, .int .i64 b, .int .i64 c]] (by rfl) rfl rfl (by simp only [List.map_toArray, List.map_cons, List.map_nil]; rfl) ?_
    with_reducible refine ((HTX.out _ HT2.out)).mono ?_
    rintro e w4 ⟨rfl, h4⟩
    have HB1 := Aside0.mk (HB0.out.trans (h4.mono HB0.out.size))
    have k0 := bread h4 hHeld.1
    have k1 := bread h4 hHeld.2.1
    have k2 := bread h4 hHeld.2.2
    clear h4
    refine ⟨_, rfl, ?_⟩
    refine hK.out _ _ ⟨k0, k1, k2⟩ (fun hHeld => ?_)
    clear hK K
    refine norm_ (a' := ?_) ?_ ?_
    rotate_left
    · show Act.put _ (some 12) _ = _
      simp only [Act.put, List.setIfInBounds_toArray, List.set_cons_zero, List.set_cons_succ, i64_w, i32_w]
      rfl
    refine one_ (i := 4) (N := some 15) #[true, true, true, true, true, false, false, true, true, false, false, false, true, true, false, false, false, false] rfl rfl (by kernel_rfl) (by decide) (fun K hK => ?_)
    refine goes_ Tryd.func9 (by kernel_rfl) rfl #[.int .i64 a] (by rfl) rfl rfl (by simp only [List.map_toArray, List.map_cons, List.map_nil]; rfl) ?_
    with_reducible refine ((HDA.out _)).mono ?_
    rintro e w5 ⟨rfl, h5⟩
    have HB2 := Aside0.mk (HB1.out.trans (h5.mono HB1.out.size))
    have k0 := bread h5 hHeld.1
    have k1 := bread h5 hHeld.2.1
    have k2 := bread h5 hHeld.2.2
    clear h5
    refine ⟨_, rfl, ?_⟩
    refine hK.out _ _ ⟨k0, k1, k2⟩ (fun hHeld => ?_)
    clear hK K
    refine norm_ (a' := ?_) ?_ ?_
    rotate_left
    · show Act.put _ (some 15) _ = _
      simp only [Act.put, List.setIfInBounds_toArray, List.set_cons_zero, List.set_cons_succ, i64_w, i32_w]
      rfl
    refine pure_ (i := 5) (N := some 16) (v := ?_) (a' := ?_) #[true, true, true, true, true, true, false, true, true, false, false, false, true, true, false, false, false, false] rfl rfl (by kernel_rfl) (fun _ _ _ h => h) (Or.inl ⟨by rfl, ?_⟩) ?_ ?_
    rotate_left
    · intro w'
      go_simp
      with_reducible rfl
    rotate_left
    · simp only [Act.put, List.setIfInBounds_toArray, List.set_cons_zero, List.set_cons_succ, i64_w, i32_w]
      rfl
    refine pure_ (i := 6) (N := some 17) (v := ?_) (a' := ?_) #[true, true, true, true, true, true, true, true, true, false, false, false, true, true, false, false, false, false] rfl rfl (by kernel_rfl) (fun _ _ _ h => h) (Or.inl ⟨by rfl, ?_⟩) ?_ ?_
    rotate_left
    · intro w'
      go_simp
      with_reducible rfl
    rotate_left
    · simp only [Act.put, List.setIfInBounds_toArray, List.set_cons_zero, List.set_cons_succ, i64_w, i32_w]
      rfl
    refine one_ (i := 9) (N := some 20) #[true, true, true, true, true, true, true, true, true, true, false, false, true, true, false, false, false, false] rfl rfl (by kernel_rfl) (by decide) (fun K hK => ?_)
    refine goes_ Tryd.func9 (by kernel_rfl) rfl #[.int .i64 b] (by rfl) rfl rfl (by simp only [List.map_toArray, List.map_cons, List.map_nil]; rfl) ?_
    with_reducible refine ((HDB.out _)).mono ?_
    rintro e w6 ⟨rfl, h6⟩
    have HB3 := Aside0.mk (HB2.out.trans (h6.mono HB2.out.size))
    have k0 := bread h6 hHeld.1
    have k1 := bread h6 hHeld.2.1
    have k2 := bread h6 hHeld.2.2
    clear h6
    refine ⟨_, rfl, ?_⟩
    refine hK.out _ _ ⟨k0, k1, k2⟩ (fun hHeld => ?_)
    clear hK K
    refine norm_ (a' := ?_) ?_ ?_
    rotate_left
    · show Act.put _ (some 20) _ = _
      simp only [Act.put, List.setIfInBounds_toArray, List.set_cons_zero, List.set_cons_succ, i64_w, i32_w]
      rfl
    refine pure_ (i := 10) (N := some 21) (v := ?_) (a' := ?_) #[true, true, true, true, true, true, true, true, true, true, true, false, true, true, false, false, false, false] rfl rfl (by kernel_rfl) (fun _ _ _ h => h) (Or.inl ⟨by rfl, ?_⟩) ?_ ?_
    rotate_left
    · intro w'
      go_simp
      with_reducible rfl
    rotate_left
    · simp only [Act.put, List.setIfInBounds_toArray, List.set_cons_zero, List.set_cons_succ, i64_w, i32_w]
      rfl
    refine pure_ (i := 11) (N := some 22) (v := ?_) (a' := ?_) #[true, true, true, true, true, true, true, true, true, true, true, true, true, true, false, false, false, false] rfl rfl (by kernel_rfl) (fun _ _ _ h => h) (Or.inl ⟨by rfl, ?_⟩) ?_ ?_
    rotate_left
    · intro w'
      go_simp
      with_reducible rfl
    rotate_left
    · simp only [Act.put, List.setIfInBounds_toArray, List.set_cons_zero, List.set_cons_succ, i64_w, i32_w]
      rfl
    refine one_ (i := 14) (N := some 25) #[true, true, true, true, true, true, true, true, true, true, true, true, true, true, true, false, false, false] rfl rfl (by kernel_rfl) (by decide) (fun K hK => ?_)
    refine goes_ Tryd.func9 (by kernel_rfl) rfl #[.int .i64 c] (by rfl) rfl rfl (by simp only [List.map_toArray, List.map_cons, List.map_nil]; rfl) ?_
    with_reducible refine ((HDC.out _)).mono ?_
    rintro e w7 ⟨rfl, h7⟩
    have HB4 := Aside0.mk (HB3.out.trans (h7.mono HB3.out.size))
    have k0 := bread h7 hHeld.1
    have k1 := bread h7 hHeld.2.1
    have k2 := bread h7 hHeld.2.2
    clear h7
    refine ⟨_, rfl, ?_⟩
    refine hK.out _ _ ⟨k0, k1, k2⟩ (fun hHeld => ?_)
    clear hK K
    refine norm_ (a' := ?_) ?_ ?_
    rotate_left
    · show Act.put _ (some 25) _ = _
      simp only [Act.put, List.setIfInBounds_toArray, List.set_cons_zero, List.set_cons_succ, i64_w, i32_w]
      rfl
    refine pure_ (i := 15) (N := some 26) (v := ?_) (a' := ?_) #[true, true, true, true, true, true, true, true, true, true, true, true, true, true, true, true, false, false] rfl rfl (by kernel_rfl) (fun _ _ _ h => h) (Or.inl ⟨by rfl, ?_⟩) ?_ ?_
    rotate_left
    · intro w'
      go_simp
      with_reducible rfl
    rotate_left
    · simp only [Act.put, List.setIfInBounds_toArray, List.set_cons_zero, List.set_cons_succ, i64_w, i32_w]
      rfl
    refine pure_ (i := 16) (N := some 27) (v := ?_) (a' := ?_) #[true, true, true, true, true, true, true, true, true, true, true, true, true, true, true, true, true, false] rfl rfl (by kernel_rfl) (fun _ _ _ h => h) (Or.inl ⟨by rfl, ?_⟩) ?_ ?_
    rotate_left
    · intro w'
      go_simp
      with_reducible rfl
    rotate_left
    · simp only [Act.put, List.setIfInBounds_toArray, List.set_cons_zero, List.set_cons_succ, i64_w, i32_w]
      rfl
    refine pure_ (i := 17) (N := some 2) (v := ?_) (a' := ?_) #[true, true, true, true, true, true, true, true, true, true, true, true, true, true, true, true, true, true] rfl rfl (by kernel_rfl) (fun _ _ _ h => h) (Or.inl ⟨by rfl, ?_⟩) ?_ ?_
    rotate_left
    · intro w'
      go_simp
      with_reducible rfl
    rotate_left
    · simp only [Act.put, List.setIfInBounds_toArray, List.set_cons_zero, List.set_cons_succ, i64_w, i32_w]
      rfl
    refine done_ (by kernel_rfl) ?_
    go_wp2
    go_ret
    exact ⟨by simp, HB4.out⟩
theorem policyTexts_walk (a b c : Int) (W : World) (wa : (Lit.int .i64 a).wf = true) (wb : (Lit.int .i64 b).wf = true) (wc : (Lit.int .i64 c).wf = true) (hT : Tab W) :
    Calls Tryd.prog 3 #[.agg #[.int .i64 a, .int .i64 b, .int .i64 c]] W fun e w' => e = .returned (.bool true) ∧ Below W.heap.size W w' :=
  texts_calls a b c W hT
end Go.Proofs.YtdbhejckpkifoaaDoor
