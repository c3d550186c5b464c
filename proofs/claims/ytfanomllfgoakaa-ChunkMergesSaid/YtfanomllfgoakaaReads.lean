/- The law BitsReads: what a reader tells of any bytes: walked over the contracts of Reader. -/
import Derived.Test.YtfanomllfgoakaaSigns
set_option linter.unusedVariables false
set_option linter.unusedSimpArgs false
namespace Go.Proofs.Ytfanomllfgoakaa
open Go.RowKit Go.Proofs.YtfanomllfgoakaaW.PrintWords Go.Proofs.YtfanomllfgoakaaW.PrintLast Go.Proofs.YtfanomllfgoakaaW.PrintMore
open Go.Proofs.Ytfanomllfgoakaa.BitsMath Go.Proofs.Ytfanomllfgoakaa.ChunkMath

structure Ask where
  f0 : Int
  f1 : Bool
theorem IsR.alloc {p at_ : Nat} {l : List Int} {w : World} (h : IsR p l at_ w) (o : Obj) : IsR p l at_ (w.alloc o) := by
  have k : Keep (fun _ => False) w (w.alloc o) := (Keep.refl _ _).alloc o
  exact (h.kept k fun _ _ h => h).1
theorem src_of {w : World} {A : Option Addr} {cap : Nat} {l : List Int} (h : ReadsInt w .u8 A l.length l) : SrcB w (.slice A l.length cap) l := by
  rcases A with _ | ad
  · have h0 : l.length = 0 := by
      rcases Nat.eq_zero_or_pos l.length with h0 | h0
      · exact h0
      · obtain ⟨ad, h', _⟩ := h.2.2 h0
        cases h'
    exact .inl ⟨cap, by rw [h0], List.eq_nil_of_length_eq_zero h0⟩
  · refine .inr ⟨ad, cap, rfl, fun j x hx => ?_⟩
    have hj : j < l.length := by
      rcases Nat.lt_or_ge j l.length with h' | h'
      · exact h'
      · rw [List.getElem?_eq_none h'] at hx; cases hx
    obtain ⟨ad', e, hc⟩ := h.2.2 (by omega)
    injection e with e
    subst e
    rw [hc j hj, List.getD_eq_getElem?_getD, hx]
    rfl
theorem unpack_take8 (l : List Int) (i : Nat) (hi : i < l.length) (hb : 0 ≤ l.getD i 0 ∧ l.getD i 0 ≤ 255) : (unpack l).take (8 * (i + 1)) = (unpack l).take (8 * i) ++ bitsOf (l.getD i 0).toNat 8 := by
  have h1 : l.take (i + 1) = l.take i ++ [l.getD i 0] := by
    rw [List.take_succ_eq_append_getElem hi, List.getD_eq_getElem?_getD, List.getElem?_eq_getElem hi]; rfl
  rw [← unpack_take, ← unpack_take, h1, unpack_append]
  congr 1
  generalize l.getD i 0 = x at hb
  obtain ⟨n, rfl⟩ := Int.eq_ofNat_of_zero_le hb.1
  have hn : n ≤ 255 := by omega
  have e : ∀ k, k < 8 → (unpack [(n : Int)])[k]? = some (decide ((n : Int) / wt k % 2 = 1)) := by
    intro k hk
    rw [unpack_get? _ _ (by simp; omega)]
    unfold bitOf
    rw [show k / 8 = 0 by omega]
    rfl
  apply List.ext_getElem?
  intro k
  by_cases hk : k < 8
  · rw [e k hk]
    have f : ∀ k, k < 8 → (bitsOf n 8)[k]? = some (decide (n / 2 ^ (7 - k) % 2 = 1)) := by
      intro k hk
      match k, hk with
      | 0, _ => simp [bitsOf]; omega
      | 1, _ => simp [bitsOf]; omega
      | 2, _ => simp [bitsOf]; omega
      | 3, _ => simp [bitsOf]; omega
      | 4, _ => simp [bitsOf]; omega
      | 5, _ => simp [bitsOf]; omega
      | 6, _ => simp [bitsOf]
      | 7, _ => simp [bitsOf]
    rw [Int.toNat_natCast, f k hk, wt_pow, Nat.mod_eq_of_lt hk]
    congr 1
    exact decide_eq_decide.2 (by
      have e3 : ((n / 2 ^ (7 - k) : Nat) : Int) = (n : Int) / 2 ^ (7 - k) := by simp
      rw [← e3]
      omega)
  · rw [List.getElem?_eq_none (by rw [unpack_length]; simp; omega), List.getElem?_eq_none (by rw [bitsOf_length]; omega)]

theorem strB_get (B : List Bool) (k : Nat) (h : k < (strB B).size) : (((strB B)[k]'h).toNat : Int) = 48 + bv (B.getD k false) := by
  have hk : k < B.length := by rw [strB_size] at h; exact h
  have e : (strB B)[k]'h = UInt8.ofNat (48 + bv (B.getD k false)).toNat := by
    show (strB B).data[k]'h = _
    simp [strB, strOfNums, List.getD_eq_getElem?_getD, List.getElem?_eq_getElem hk]
  rw [e]
  cases B.getD k false <;> decide
theorem strB_one {s : ByteArray} {B : List Bool} {k : Nat} (hs : s = strB B) (hb : B[k]? = some true) (h : k < s.size) : (((s[k]'h).toNat : Int) == 49) = true := by
  subst hs
  rw [strB_get, List.getD_eq_getElem?_getD, hb]; rfl
theorem strB_zero {s : ByteArray} {B : List Bool} {k : Nat} (hs : s = strB B) (hb : B[k]? = some false) (h : k < s.size) : (((s[k]'h).toNat : Int) == 49) = false := by
  subst hs
  rw [strB_get, List.getD_eq_getElem?_getD, hb]; rfl
theorem lead_bit {B : List Bool} {k : Nat} (h : k < lead B) : B[k]? = some true := by
  have := lead_le B
  exact (lead_at B k (by omega) (by omega)).2 h
theorem lead_end {B : List Bool} {k : Nat} (h : k < B.length) (hk : lead B = k) : B[k]? = some false := by
  have h1 := lead_at B k (by omega) h
  rw [List.getElem?_eq_getElem h] at h1 ⊢
  cases hb : B[k] with
  | false => rfl
  | true => rw [hb] at h1; have := h1.1 rfl; omega
theorem strB_drop (B : List Bool) (i : Nat) : (strB B).extract i (strB B).size = strB (B.drop i) := by
  apply ByteArray.ext
  rw [ByteArray.data_extract]
  simp [strB, strOfNums, ByteArray.size]
  exact List.take_of_length_le (by simp)
theorem strB_take (B : List Bool) (i : Nat) : (strB B).extract 0 i = strB (B.take i) := by
  apply ByteArray.ext
  rw [ByteArray.data_extract]
  simp [strB, strOfNums]
theorem got_facts (B : List Bool) (k : Nat) (hk : k ≤ B.length) (h : k ≤ 64) : val (B.take k) < 18446744073709551616 ∧ bitsOf (val (B.take k)) k = B.take k ∧ (val (B.take k) : Int) / 2 ^ k = 0 := by
  have hl : (B.take k).length = k := by rw [List.length_take]; omega
  have h1 := val_lt k _ hl
  have h2 := Nat.pow_le_pow_right (show 0 < 2 by decide) h
  refine ⟨by omega, bitsOf_val k _ hl, ?_⟩
  have e : ((val (B.take k) / 2 ^ k : Nat) : Int) = (val (B.take k) : Int) / 2 ^ k := by simp
  rw [← e, Nat.div_eq_of_lt h1]
  rfl
theorem IsR.foot_lt {p at_ : Nat} {l : List Int} {w : World} (h : IsR p l at_ w) {i : Nat} (hi : RFoot p w i) : i < w.heap.size := by
  obtain ⟨v, h, hr⟩ := h
  rcases (IsR.foot (l := l) h i).1 hi with rfl | hi
  · exact blk_lt h
  · exact (hr.lt i hi).2
theorem all_step (B : List Bool) (i : Nat) (h : i < B.length) (c : Bool) : (c && (B.take (i + 1)).all (! ·)) = (c && ((B.take i).all (! ·) && !(B.getD i false))) := by
  rw [List.take_succ_eq_append_getElem h, List.all_append, List.getD_eq_getElem?_getD, List.getElem?_eq_getElem h]
  simp
theorem strB_48 {s : ByteArray} {B : List Bool} {k : Nat} (hs : s = strB B) (hb : B.getD k false = false) (h : k < s.size) : (((s[k]'h).toNat : Int) == 48) = true := by
  subst hs
  rw [strB_get, hb]; rfl
theorem strB_49 {s : ByteArray} {B : List Bool} {k : Nat} (hs : s = strB B) (hb : B.getD k false = true) (h : k < s.size) : (((s[k]'h).toNat : Int) == 48) = false := by
  subst hs
  rw [strB_get, hb]; rfl
set_option maxRecDepth 100000 in
set_option maxHeartbeats 8000000 in
theorem reads_calls (A0 A1 : Option Addr) (c0 c1 : Nat) (l : List Int) (q : List Ask) (w : World) (h0 : ReadsInt w .u8 A0 l.length l) (hb : ∀ x ∈ l, 0 ≤ x ∧ x ≤ 255)
    (h1 : ReadsRow (fun (p : Ask) c => c = [.int .i64 p.f0, .bool p.f1]) 2 w A1 q.length q) (hq : ∀ p ∈ q, -9223372036854775808 ≤ p.f0 ∧ p.f0 ≤ 9223372036854775807) :
    Calls Try.prog 4 #[.slice A0 l.length c0, .slice A1 q.length c1] w fun e w' => e = .returned (.bool true) ∧ Below w.heap.size w w' := by
  have H0 := Aside0.mk h0
  have H1 := Aside0.mk h1
  have HB := Aside0.mk hb
  have HQ := Aside0.mk hq
  have hl : l.length ≤ 9223372036854775807 := h0.2.1
  have hql : q.length ≤ 9223372036854775807 := h1.2.1
  clear h0 h1 hb hq
  by_cases hbig : l.length ≤ 60 ∧ q.length ≤ 60
  · obtain ⟨hl60, hq60⟩ := hbig
    have d1 : decide (60 < (l.length : Int)) = false := decide_eq_false (by omega)
    have d2 : decide (60 < (q.length : Int)) = false := decide_eq_false (by omega)
    go_enter Try.func4, Try.ntmps4
    go_wp2_with fail
    refine (lives_calls _).mono ?_
    rintro e w1 ⟨rfl, hw1⟩
    have HW1 := Aside0.mk hw1
    clear hw1
    go_wp2_with fail
    go_loopw [5, 33] (fun v5 v33 wr => ∃ (i : Nat) (s : ByteArray), i ≤ l.length ∧ s.size ≤ 480 ∧ v33 = .int .i64 (i : Int) ∧ v5 = .string s ∧ Aside0 (s = strB ((unpack l).take (8 * i))) ∧ Aside0 (Below w.heap.size w wr)) (fun _ v _ => l.length - (intOf v).toNat)
    case atStart => exact ⟨0, ⟨#[]⟩, by omega, by decide, rfl, rfl, ⟨rfl⟩, HW1⟩
    case round =>
      obtain ⟨i, s, hi, hs, rfl, rfl, HS, HW⟩ := hrel
      by_cases hlt : i < l.length
      · obtain ⟨ad, rfl, hx⟩ := ReadsInt.at_ (H0.out.below HW.out) (i : Int) (by omega) (by omega)
        have hbx := HB.out (rd l i) (by unfold rd; rw [Int.toNat_natCast, List.getD_eq_getElem?_getD, List.getElem?_eq_getElem hlt]; exact List.getElem_mem _)
        have HT := Aside0.mk (unpack_take8 l i hlt (by have := hbx; unfold rd at this; rwa [Int.toNat_natCast] at this))
        have HR := Aside0.mk (show l.getD i 0 = rd l (i : Int) by unfold rd; rw [Int.toNat_natCast])
        generalize rd l (i : Int) = x at hx hbx HR
        rw [Int.toNat_natCast] at hx
        obtain ⟨n, rfl⟩ := Int.eq_ofNat_of_zero_le hbx.1
        have hn : n ≤ 255 := by omega
        have hss : s.size = 8 * i := by rw [HS.out, strB_size, List.length_take, unpack_length]; omega
        have hss1 : s.size ≤ 472 := by omega
        clear hbx hss
        go_wp2_with fail
        refine (signs_calls n 8 _ (by omega) (by omega) (by omega)).mono ?_
        rintro e w2 ⟨rfl, hw2⟩
        have HW2 := Aside0.mk (HW.out.trans (hw2.mono HW.out.size))
        clear hw2
        obtain ⟨t, ht⟩ : ∃ t, t = strB (bitsOf n (8 : Int).toNat) := ⟨_, rfl⟩
        rw [← ht]
        have ht1 : t.size ≤ 8 := by rw [ht, strB_size, bitsOf_length]; decide
        have HTT := Aside0.mk ht
        clear ht
        go_wp2
        go_roundw
        case rel =>
          refine ⟨i + 1, s ++ t, by omega, by simp; omega, by simp, rfl, ⟨?_⟩, HW2⟩
          have h := HT.out
          rw [HR.out, Int.toNat_natCast] at h
          rw [h, strB_append, ← HS.out, HTT.out]
          rfl
        case measure => simp [intOf]; omega
      · have hi2 : i = l.length := by omega
        have HS2 := Aside0.mk (show s = strB (bs_ l 0) by rw [HS.out, hi2, List.take_of_length_le (by rw [unpack_length]; exact Nat.le_refl _)]; rfl)
        clear HS hi2 hs
        go_wp2_with fail
        refine (read_calls _ l _ (src_of (H0.out.below HW.out)) (by omega)).mono ?_
        rintro e w2 ⟨p, rfl, hp, hR, hw2⟩
        have HW2 := Aside0.mk (HW.out.trans (hw2.mono HW.out.size))
        have hpw : w.heap.size ≤ p := Nat.le_trans HW.out.size hp
        have HRR := Aside0.mk hR
        clear hR hw2 hp
        go_wp2_with fail
        clear HW
        go_loopw [5, 47] (fun v5 v47 wr => ∃ (j n : Nat) (s : ByteArray), j ≤ q.length ∧ n ≤ 8 * l.length ∧ v47 = .int .i64 (j : Int) ∧ v5 = .string s ∧ Aside0 (s = strB (bs_ l n)) ∧ Aside0 (IsR p l n wr) ∧ Aside0 (Below w.heap.size w wr)) (fun _ v _ => q.length - (intOf v).toNat)
        case atStart => exact ⟨0, 0, s, by omega, by omega, rfl, rfl, HS2, HRR, HW2⟩
        case round =>
          obtain ⟨j, n, s, hj, hn, rfl, rfl, HS, HR, HW⟩ := hrel
          obtain ⟨S, hS⟩ : ∃ S : Nat, S = 8 * l.length - n := ⟨_, rfl⟩
          have hSB : (bs_ l n).length = S := by unfold bs_; rw [List.length_drop, unpack_length, hS]
          have hsz : s.size = S := by rw [HS.out, strB_size, hSB]
          have HSB := Aside0.mk hSB
          have hS1 : S ≤ 480 := by omega
          have hS2 : (8 * (l.length : Int) - (n : Int)) = (S : Int) := by omega
          have hpz : p < wr.heap.size := by obtain ⟨v, hv, _⟩ := HR.out; exact blk_lt hv
          clear hSB hS
          by_cases hlt : j < q.length
          · have hr := ReadsRow.get_ (ReadsRow.imp_ H1.out HW.out fun _ _ h => h) (⟨0, false⟩ : Ask) (j : Int) (by omega) (by omega)
            rw [Int.toNat_natCast] at hr
            obtain ⟨ad, c, rfl, _, rfl, hc⟩ := hr
            have hbq := HQ.out (q.getD j ⟨0, false⟩) (by rw [List.getD_eq_getElem?_getD, List.getElem?_eq_getElem hlt]; exact List.getElem_mem _)
            have ce0 := hc 0 _ rfl
            have ce1 := hc 1 _ rfl
            rw [Nat.add_zero] at ce0
            rw [add_field _ _ 1 (by omega)] at ce1
            clear hc
            generalize q.getD j (⟨0, false⟩ : Ask) = x at hbq ce0 ce1
            obtain ⟨f0, f1⟩ := x
            simp only at hbq ce0 ce1
            obtain ⟨hb0, hb1_⟩ := hbq
            cases f1 with
            | true =>
              go_wp2_with fail
              refine (left_calls p n l _ (HR.out.alloc _) (by omega) hn).mono ?_
              rintro e w3 ⟨rfl, k3, rfl⟩
              go_wp2_with fail
              have HLE := Aside0.mk (lead_le (bs_ l n))
              go_loop [11] (fun v11 => ∃ k : Nat, k ≤ S ∧ v11 = .int .i64 (k : Int) ∧ Aside0 (k ≤ lead (bs_ l n))) (fun v11 => S - (intOf v11).toNat)
              case atStart => exact ⟨0, by omega, rfl, ⟨by omega⟩⟩
              case round =>
                obtain ⟨k, hk, rfl, HK⟩ := hrel
                by_cases hgo : k < S ∧ k < lead (bs_ l n)
                · obtain ⟨hks, hkl⟩ := hgo
                  have hks' : k < s.size := by omega
                  have hb1 : (((s[k]'hks').toNat : Int) == 49) = true := strB_one HS.out (lead_bit hkl) hks'
                  have HKL := Aside0.mk hkl
                  clear hkl
                  go_wp2
                  go_round
                  case rel => exact ⟨k + 1, by omega, by simp, ⟨HKL.out⟩⟩
                  case measure => simp [intOf]; omega
                · have HLK := Aside0.mk (show lead (bs_ l n) = k by
                    have := HK.out; have := HLE.out; have := HSB.out
                    rcases Nat.lt_or_ge k S with h | h
                    · have : ¬ k < lead (bs_ l n) := fun h2 => hgo ⟨h, h2⟩
                      omega
                    · omega)
                  clear hgo
                  obtain ⟨M, hM⟩ : ∃ M, M = max f0 0 := ⟨_, rfl⟩
                  have HM := Aside0.mk hM
                  have hif : (if f0 < 0 then 0 else f0) = M := by rw [hM]; split <;> omega
                  have hM0 : 0 ≤ M := by omega
                  clear hM
                  have hR3 : IsR p l n ((wr.alloc (Obj.cells #[.int .i64 f0, .bool true] 38)).drewN k3) := (HR.out.alloc _).drewN _
                  have HR3 := Aside0.mk hR3
                  clear hR3
                  rcases Nat.lt_or_ge k S with hks | hks
                  · have hks' : k < s.size := by omega
                    have hb1 : (((s[k]'hks').toNat : Int) == 49) = false := strB_zero HS.out (lead_end (by have := HLK.out; have := HSB.out; omega) HLK.out) hks'
                    by_cases hA : M < (k : Int)
                    · have dA : decide (M < (k : Int)) = true := decide_eq_true hA
                      have hu : unaryOf l n f0 = (0, 12, n) := by unfold unaryOf; rw [HLK.out, ← HM.out, if_pos hA]
                      have hcall := unaryR_calls p n l f0 _ HR3.out (by omega) HB.out hn hb0 hb1_
                      rw [hu] at hcall
                      simp only at hcall
                      have HC := Lib.hid hcall
                      clear hcall hu
                      go_wp2_with fail
                      refine HC.out.mono ?_
                      rintro e w4 ⟨rfl, h4⟩
                      have ca0 : w4.cell? ⟨wr.heap.size, 0, none⟩ = some (.int .i64 f0) := h4.keep.cell (p := ⟨wr.heap.size, 0, none⟩) (by simp) (by simp; omega)
                      have HR4 := Aside0.mk h4.is
                      have HW4 := Aside0.mk (HW.out.trans ((pw_below_drewN ((Below.refl w.heap.size wr).alloc HW.out.size (Obj.cells #[.int .i64 f0, .bool true] 38)) k3).trans (h4.keep.to_below (fun i hi => by rw [hi]; exact hpw) (by have := HW.out.size; simp; omega))))
                      clear h4
                      go_wp2
                      go_roundw
                      case rel => exact ⟨j + 1, n, s, by omega, hn, by simp, rfl, ⟨HS.out⟩, HR4, HW4⟩
                      case measure => simp [intOf]; omega
                    · have dA : decide (M < (k : Int)) = false := decide_eq_false hA
                      have dB : ((k : Int) == (S : Int)) = false := by simp; omega
                      have hu : unaryOf l n f0 = ((k : Int), 0, n + k + 1) := by unfold unaryOf; rw [HLK.out, ← HM.out, if_neg hA, HSB.out, if_neg (by omega)]
                      have hcall := unaryR_calls p n l f0 _ HR3.out (by omega) HB.out hn hb0 hb1_
                      rw [hu] at hcall
                      simp only at hcall
                      have HC := Lib.hid hcall
                      clear hcall hu
                      go_wp2_with fail
                      refine HC.out.mono ?_
                      rintro e w4 ⟨rfl, h4⟩
                      have ca0 : w4.cell? ⟨wr.heap.size, 0, none⟩ = some (.int .i64 f0) := h4.keep.cell (p := ⟨wr.heap.size, 0, none⟩) (by simp) (by simp; omega)
                      have HR4 := Aside0.mk h4.is
                      have HW4 := Aside0.mk (HW.out.trans ((pw_below_drewN ((Below.refl w.heap.size wr).alloc HW.out.size (Obj.cells #[.int .i64 f0, .bool true] 38)) k3).trans (h4.keep.to_below (fun i hi => by rw [hi]; exact hpw) (by have := HW.out.size; simp; omega))))
                      clear h4
                      go_wp2
                      go_roundw
                      case rel => exact ⟨j + 1, n + k + 1, s.extract (k + 1) S, by omega, by have := HSB.out; unfold bs_ at this; rw [List.length_drop, unpack_length] at this; omega, by simp, rfl, ⟨by have e := strB_drop (bs_ l n) (k + 1); rw [strB_size, HSB.out, ← HS.out] at e; rw [e]; unfold bs_; rw [List.drop_drop]; rfl⟩, HR4, HW4⟩
                      case measure => simp [intOf]; omega
                  · obtain rfl : k = S := by omega
                    by_cases hA : M < (k : Int)
                    · have dA : decide (M < (k : Int)) = true := decide_eq_true hA
                      have hu : unaryOf l n f0 = (0, 12, n) := by unfold unaryOf; rw [HLK.out, ← HM.out, if_pos hA]
                      have hcall := unaryR_calls p n l f0 _ HR3.out (by omega) HB.out hn hb0 hb1_
                      rw [hu] at hcall
                      simp only at hcall
                      have HC := Lib.hid hcall
                      clear hcall hu
                      go_wp2_with fail
                      refine HC.out.mono ?_
                      rintro e w4 ⟨rfl, h4⟩
                      have ca0 : w4.cell? ⟨wr.heap.size, 0, none⟩ = some (.int .i64 f0) := h4.keep.cell (p := ⟨wr.heap.size, 0, none⟩) (by simp) (by simp; omega)
                      have HR4 := Aside0.mk h4.is
                      have HW4 := Aside0.mk (HW.out.trans ((pw_below_drewN ((Below.refl w.heap.size wr).alloc HW.out.size (Obj.cells #[.int .i64 f0, .bool true] 38)) k3).trans (h4.keep.to_below (fun i hi => by rw [hi]; exact hpw) (by have := HW.out.size; simp; omega))))
                      clear h4
                      go_wp2
                      go_roundw
                      case rel => exact ⟨j + 1, n, s, by omega, hn, by simp, rfl, ⟨HS.out⟩, HR4, HW4⟩
                      case measure => simp [intOf]; omega
                    · have dA : decide (M < (k : Int)) = false := decide_eq_false hA
                      have hu : unaryOf l n f0 = (0, 4, n) := by unfold unaryOf; rw [HLK.out, ← HM.out, if_neg hA, HSB.out, if_pos rfl]
                      have hcall := unaryR_calls p n l f0 _ HR3.out (by omega) HB.out hn hb0 hb1_
                      rw [hu] at hcall
                      simp only at hcall
                      have HC := Lib.hid hcall
                      clear hcall hu
                      go_wp2_with fail
                      refine HC.out.mono ?_
                      rintro e w4 ⟨rfl, h4⟩
                      have ca0 : w4.cell? ⟨wr.heap.size, 0, none⟩ = some (.int .i64 f0) := h4.keep.cell (p := ⟨wr.heap.size, 0, none⟩) (by simp) (by simp; omega)
                      have HR4 := Aside0.mk h4.is
                      have HW4 := Aside0.mk (HW.out.trans ((pw_below_drewN ((Below.refl w.heap.size wr).alloc HW.out.size (Obj.cells #[.int .i64 f0, .bool true] 38)) k3).trans (h4.keep.to_below (fun i hi => by rw [hi]; exact hpw) (by have := HW.out.size; simp; omega))))
                      clear h4
                      go_wp2
                      go_roundw
                      case rel => exact ⟨j + 1, n, s, by omega, hn, by simp, rfl, ⟨HS.out⟩, HR4, HW4⟩
                      case measure => simp [intOf]; omega
            | false =>
              go_wp2_with fail
              refine (left_calls p n l _ (HR.out.alloc _) (by omega) hn).mono ?_
              rintro e w3 ⟨rfl, k3, rfl⟩
              by_cases g1 : f0 < 0
              · have e1 : decide (f0 < 0) = true := decide_eq_true g1
                go_wp2_with fail
                refine (get_low ⟨p, 0, none⟩ f0 _ e1).mono ?_
                rintro e w4 ⟨rfl, rfl⟩
                go_wp2
                go_roundw
                case rel => exact ⟨j + 1, n, s, by omega, hn, by simp, rfl, HS, ⟨(HR.out.alloc _).drewN _⟩, ⟨HW.out.trans (pw_below_drewN ((Below.refl w.heap.size wr).alloc HW.out.size _) _)⟩⟩
                case measure => simp [intOf]; omega
              · have e1 : decide (f0 < 0) = false := decide_eq_false g1
                by_cases g2 : 64 < f0
                · have e2 : decide (64 < f0) = true := decide_eq_true g2
                  go_wp2_with fail
                  refine (get_high ⟨p, 0, none⟩ f0 _ e1 e2).mono ?_
                  rintro e w4 ⟨rfl, rfl⟩
                  go_wp2
                  go_roundw
                  case rel => exact ⟨j + 1, n, s, by omega, hn, by simp, rfl, HS, ⟨(HR.out.alloc _).drewN _⟩, ⟨HW.out.trans (pw_below_drewN ((Below.refl w.heap.size wr).alloc HW.out.size _) _)⟩⟩
                  case measure => simp [intOf]; omega
                · have e2 : decide (64 < f0) = false := decide_eq_false g2
                  by_cases g3 : (S : Int) < f0
                  · have e3 : decide ((S : Int) < f0) = true := decide_eq_true g3
                    go_wp2_with fail
                    refine (get_short p n l f0 _ ((HR.out.alloc _).drewN _) (by omega) hn (by omega) (by omega) (by omega)).mono ?_
                    rintro e w4 ⟨rfl, k4, rfl⟩
                    go_wp2
                    go_roundw
                    case rel => exact ⟨j + 1, n, s, by omega, hn, by simp, rfl, HS, ⟨(HR.out.alloc _).drewN _⟩, ⟨HW.out.trans (pw_below_drewN ((Below.refl w.heap.size wr).alloc HW.out.size _) _)⟩⟩
                    case measure => simp [intOf]; omega
                  · have e3 : decide ((S : Int) < f0) = false := decide_eq_false g3
                    go_wp2_with fail
                    refine (get_ok p n l f0 _ ((HR.out.alloc _).drewN _) (by omega) HB.out hn (by omega) (by omega) (by omega)).mono ?_
                    rintro e w4 ⟨rfl, h4⟩
                    have ca0 : w4.cell? ⟨wr.heap.size, 0, none⟩ = some (.int .i64 f0) := h4.keep.cell (p := ⟨wr.heap.size, 0, none⟩) (by simp) (by simp; omega)
                    have HR4 := Aside0.mk h4.is
                    have HW4 := Aside0.mk (HW.out.trans ((pw_below_drewN ((Below.refl w.heap.size wr).alloc HW.out.size (Obj.cells #[.int .i64 f0, .bool false] 38)) k3).trans (h4.keep.to_below (fun i hi => by rw [hi]; exact hpw) (by have := HW.out.size; simp; omega))))
                    have hwz : wr.heap.size < w4.heap.size := World.block_lt_of_cell? w4 ⟨wr.heap.size, 0, none⟩ ca0
                    clear h4
                    have HF := Aside0.mk (got_facts (bs_ l n) f0.toNat (by have := HSB.out; omega) (by omega))
                    obtain ⟨V, hV⟩ : ∃ V, V = val ((bs_ l n).take f0.toNat) := ⟨_, rfl⟩
                    rw [← hV] at HF ⊢
                    clear hV
                    have hV1 := HF.out.1
                    have HE := Aside0.mk (show s.extract 0 f0.toNat = strB (bitsOf V f0.toNat) by rw [HS.out, strB_take, HF.out.2.1])
                    obtain ⟨T, hT⟩ : ∃ T, T = strB (bitsOf V f0.toNat) := ⟨_, rfl⟩
                    have hE : s.extract 0 f0.toNat = T := by rw [hT]; exact HE.out
                    have HT := Aside0.mk hT
                    have dv : decide (0 < (V : Int) / 2 ^ f0.toNat) = false := decide_eq_false (by have := HF.out.2.2; omega)
                    have hf0 : 0 ≤ f0 := by omega
                    have hf1 : f0 ≤ (S : Int) := by omega
                    clear hT HE
                    go_wp2_with fail
                    by_cases g5 : f0 < 64
                    · have e5 : decide (f0 < 64) = true := decide_eq_true g5
                      refine start_ (n := 25) (S := fun w' => (w'.cell? ⟨wr.heap.size, 0, none⟩ = some (.int .i64 f0))) (ds := []) #[false, false, false, false, false, false, false, false, false, false, false, false, false, false, false, false, false, false, false, false, false, false, false, false, false] (by kernel_rfl) rfl rfl (ca0) (fun hHeld => ?_)
                      refine pure_ (i := 0) (N := some 118) (v := ?_) (a' := ?_) #[true, false, false, false, false, false, false, false, false, false, false, false, false, false, false, false, false, false, false, false, false, false, false, false, false] rfl rfl (by kernel_rfl) (fun _ _ _ h => h) (Or.inl ⟨by rfl, ?_⟩) ?_ ?_
                      rotate_left
                      · intro w'
                        go_simp
                        with_reducible rfl
                      rotate_left
                      · simp only [Act.put, List.setIfInBounds_toArray, List.set_cons_zero, List.set_cons_succ, i64_w, i32_w]
                        rfl
                      refine pure_ (i := 1) (N := some 119) (v := ?_) (a' := ?_) #[true, true, false, false, false, false, false, false, false, false, false, false, false, false, false, false, false, false, false, false, false, false, false, false, false] rfl rfl (by kernel_rfl) (fun _ _ _ h => h) (Or.inl ⟨by rfl, ?_⟩) ?_ ?_
                      rotate_left
                      · intro w'
                        go_simp
                        with_reducible rfl
                      rotate_left
                      · simp only [Act.put, List.setIfInBounds_toArray, List.set_cons_zero, List.set_cons_succ, i64_w, i32_w]
                        rfl
                      refine pure_ (i := 2) (N := some 120) (v := ?_) (a' := ?_) #[true, true, true, false, false, false, false, false, false, false, false, false, false, false, false, false, false, false, false, false, false, false, false, false, false] rfl rfl (by kernel_rfl) (fun _ _ _ h => h) (Or.inl ⟨by rfl, ?_⟩) ?_ ?_
                      rotate_left
                      · intro w'
                        go_simp
                        with_reducible rfl
                      rotate_left
                      · simp only [Act.put, List.setIfInBounds_toArray, List.set_cons_zero, List.set_cons_succ, i64_w, i32_w]
                        rfl
                      refine pure_ (i := 3) (N := some 121) (v := ?_) (a' := ?_) #[true, true, true, true, false, false, false, false, false, false, false, false, false, false, false, false, false, false, false, false, false, false, false, false, false] rfl rfl (by kernel_rfl) (fun _ _ _ h => h) (Or.inl ⟨by rfl, ?_⟩) ?_ ?_
                      rotate_left
                      · intro w'
                        go_simp
                        with_reducible rfl
                      rotate_left
                      · simp only [Act.put, List.setIfInBounds_toArray, List.set_cons_zero, List.set_cons_succ, i64_w, i32_w]
                        rfl
                      refine pure_ (i := 4) (N := some 122) (v := ?_) (a' := ?_) #[true, true, true, true, true, false, false, false, false, false, false, false, false, false, false, false, false, false, false, false, false, false, false, false, false] rfl rfl (by kernel_rfl) (fun _ _ _ h => h) (Or.inl ⟨by rfl, ?_⟩) ?_ ?_
                      rotate_left
                      · intro w'
                        go_simp
                        with_reducible rfl
                      rotate_left
                      · simp only [Act.put, List.setIfInBounds_toArray, List.set_cons_zero, List.set_cons_succ, i64_w, i32_w]
                        rfl
                      refine pure_ (i := 7) (N := some 125) (v := ?_) (a' := ?_) #[true, true, true, true, true, false, false, true, false, false, false, false, false, false, false, false, false, false, false, false, false, false, false, false, false] rfl rfl (by kernel_rfl) (fun _ _ _ h => h) (Or.inl ⟨by rfl, ?_⟩) ?_ ?_
                      rotate_left
                      · intro w'
                        go_simp
                        with_reducible rfl
                      rotate_left
                      · simp only [Act.put, List.setIfInBounds_toArray, List.set_cons_zero, List.set_cons_succ, i64_w, i32_w]
                        rfl
                      refine pure_ (i := 8) (N := some 126) (v := ?_) (a' := ?_) #[true, true, true, true, true, false, false, true, true, false, false, false, false, false, false, false, false, false, false, false, false, false, false, false, false] rfl rfl (by kernel_rfl) (fun _ _ _ h => h) (Or.inl ⟨by rfl, ?_⟩) ?_ ?_
                      rotate_left
                      · intro w'
                        go_simp
                        with_reducible rfl
                      rotate_left
                      · simp only [Act.put, List.setIfInBounds_toArray, List.set_cons_zero, List.set_cons_succ, i64_w, i32_w]
                        rfl
                      refine take_ (i := 5) (N := some 123) (v := ?_) (a' := ?_) #[true, true, true, true, true, true, false, true, true, false, false, false, false, false, false, false, false, false, false, false, false, false, false, false, false] rfl rfl (by kernel_rfl) (fun _ _ _ h => h) (Or.inl ⟨by rfl, ?_⟩) hHeld ?_ ?_
                      rotate_left
                      · rintro w' s0
                        go_simp
                        with_reducible rfl
                      rotate_left
                      · simp only [Act.put, List.setIfInBounds_toArray, List.set_cons_zero, List.set_cons_succ, i64_w, i32_w]
                        rfl
                      refine take_ (i := 9) (N := some 127) (v := ?_) (a' := ?_) #[true, true, true, true, true, true, false, true, true, true, false, false, false, false, false, false, false, false, false, false, false, false, false, false, false] rfl rfl (by kernel_rfl) (fun _ _ _ h => h) (Or.inl ⟨by rfl, ?_⟩) hHeld ?_ ?_
                      rotate_left
                      · rintro w' s0
                        go_simp
                        with_reducible rfl
                      rotate_left
                      · simp only [Act.put, List.setIfInBounds_toArray, List.set_cons_zero, List.set_cons_succ, i64_w, i32_w]
                        rfl
                      refine pure_ (i := 10) (N := some 128) (v := ?_) (a' := ?_) #[true, true, true, true, true, true, false, true, true, true, true, false, false, false, false, false, false, false, false, false, false, false, false, false, false] rfl rfl (by kernel_rfl) (fun _ _ _ h => h) (Or.inl ⟨by rfl, ?_⟩) ?_ ?_
                      rotate_left
                      · intro w'
                        go_simp
                        with_reducible rfl
                      rotate_left
                      · simp only [Act.put, List.setIfInBounds_toArray, List.set_cons_zero, List.set_cons_succ, i64_w, i32_w]
                        rfl
                      refine one_ (i := 6) (N := some 124) #[true, true, true, true, true, true, true, true, true, true, true, false, false, false, false, false, false, false, false, false, false, false, false, false, false] rfl rfl (by kernel_rfl) (by decide) (fun K hK => ?_)
                      refine goes_ Try.func15 (by kernel_rfl) rfl #[.int .u64 (V : Int), .int .i64 f0] (by rfl) rfl rfl (by simp only [List.map_toArray, List.map_cons, List.map_nil]; rfl) ?_
                      with_reducible refine (signs_calls V f0 _ hV1 hf0 (by omega)).mono ?_
                      rintro e w5 ⟨rfl, hw5⟩
                      rw [← HT.out]
                      have ca5 : w5.cell? ⟨wr.heap.size, 0, none⟩ = some (.int .i64 f0) := (hw5.cell (p := ⟨wr.heap.size, 0, none⟩) hwz).trans ca0
                      have HW5 := Aside0.mk (HW4.out.trans (below_drew0 (hw5.mono HW4.out.size)))
                      have HR5 := Aside0.mk (HR4.out.kept (Keep.of_below (below_drew0 hw5)) (fun i hi hc => by have := IsR.foot_lt HR4.out hi; simp at hc; omega)).1
                      clear hw5 ca0
                      refine ⟨_, rfl, ?_⟩
                      refine hK.out _ _ (ca5) (fun hHeld => ?_)
                      clear hK K
                      refine norm_ (a' := ?_) ?_ ?_
                      rotate_left
                      · show Act.put _ (some 124) _ = _
                        simp only [Act.put, List.setIfInBounds_toArray, List.set_cons_zero, List.set_cons_succ, i64_w, i32_w]
                        rfl
                      refine pure_ (i := 11) (N := some 129) (v := ?_) (a' := ?_) #[true, true, true, true, true, true, true, true, true, true, true, true, false, false, false, false, false, false, false, false, false, false, false, false, false] rfl rfl (by kernel_rfl) (fun _ _ _ h => h) (Or.inl ⟨by rfl, ?_⟩) ?_ ?_
                      rotate_left
                      · intro w'
                        go_simp
                        with_reducible rfl
                      rotate_left
                      · simp only [Act.put, List.setIfInBounds_toArray, List.set_cons_zero, List.set_cons_succ, i64_w, i32_w]
                        rfl
                      refine pure_ (i := 12) (N := some 130) (v := ?_) (a' := ?_) #[true, true, true, true, true, true, true, true, true, true, true, true, true, false, false, false, false, false, false, false, false, false, false, false, false] rfl rfl (by kernel_rfl) (fun _ _ _ h => h) (Or.inl ⟨by rfl, ?_⟩) ?_ ?_
                      rotate_left
                      · intro w'
                        go_simp
                        with_reducible rfl
                      rotate_left
                      · simp only [Act.put, List.setIfInBounds_toArray, List.set_cons_zero, List.set_cons_succ, i64_w, i32_w]
                        rfl
                      refine pure_ (i := 13) (N := some 131) (v := ?_) (a' := ?_) #[true, true, true, true, true, true, true, true, true, true, true, true, true, true, false, false, false, false, false, false, false, false, false, false, false] rfl rfl (by kernel_rfl) (fun _ _ _ h => h) (Or.inl ⟨by rfl, ?_⟩) ?_ ?_
                      rotate_left
                      · intro w'
                        go_simp
                        with_reducible rfl
                      rotate_left
                      · simp only [Act.put, List.setIfInBounds_toArray, List.set_cons_zero, List.set_cons_succ, i64_w, i32_w]
                        rfl
                      refine pure_ (i := 14) (N := some 132) (v := ?_) (a' := ?_) #[true, true, true, true, true, true, true, true, true, true, true, true, true, true, true, false, false, false, false, false, false, false, false, false, false] rfl rfl (by kernel_rfl) (fun _ _ _ h => h) (Or.inl ⟨by rfl, ?_⟩) ?_ ?_
                      rotate_left
                      · intro w'
                        go_simp
                        with_reducible rfl
                      rotate_left
                      · simp only [Act.put, List.setIfInBounds_toArray, List.set_cons_zero, List.set_cons_succ, i64_w, i32_w]
                        rfl
                      refine take_ (i := 15) (N := some 133) (v := ?_) (a' := ?_) #[true, true, true, true, true, true, true, true, true, true, true, true, true, true, true, true, false, false, false, false, false, false, false, false, false] rfl rfl (by kernel_rfl) (fun _ _ _ h => h) (Or.inl ⟨by rfl, ?_⟩) hHeld ?_ ?_
                      rotate_left
                      · rintro w' s0
                        go_simp
                        with_reducible rfl
                      rotate_left
                      · simp only [Act.put, List.setIfInBounds_toArray, List.set_cons_zero, List.set_cons_succ, i64_w, i32_w]
                        rfl
                      refine pure_ (i := 16) (N := some 134) (v := ?_) (a' := ?_) #[true, true, true, true, true, true, true, true, true, true, true, true, true, true, true, true, true, false, false, false, false, false, false, false, false] rfl rfl (by kernel_rfl) (fun _ _ _ h => h) (Or.inl ⟨by rfl, ?_⟩) ?_ ?_
                      rotate_left
                      · intro w'
                        go_simp
                        with_reducible rfl
                      rotate_left
                      · simp only [Act.put, List.setIfInBounds_toArray, List.set_cons_zero, List.set_cons_succ, i64_w, i32_w]
                        rfl
                      refine pure_ (i := 17) (N := some 135) (v := ?_) (a' := ?_) #[true, true, true, true, true, true, true, true, true, true, true, true, true, true, true, true, true, true, false, false, false, false, false, false, false] rfl rfl (by kernel_rfl) (fun _ _ _ h => h) (Or.inl ⟨by rfl, ?_⟩) ?_ ?_
                      rotate_left
                      · intro w'
                        go_simp
                        with_reducible rfl
                      rotate_left
                      · simp only [Act.put, List.setIfInBounds_toArray, List.set_cons_zero, List.set_cons_succ, i64_w, i32_w]
                        rfl
                      refine pure_ (i := 18) (N := some 136) (v := ?_) (a' := ?_) #[true, true, true, true, true, true, true, true, true, true, true, true, true, true, true, true, true, true, true, false, false, false, false, false, false] rfl rfl (by kernel_rfl) (fun _ _ _ h => h) (Or.inl ⟨by rfl, ?_⟩) ?_ ?_
                      rotate_left
                      · intro w'
                        go_simp
                        with_reducible rfl
                      rotate_left
                      · simp only [Act.put, List.setIfInBounds_toArray, List.set_cons_zero, List.set_cons_succ, i64_w, i32_w]
                        rfl
                      refine pure_ (i := 19) (N := some 137) (v := ?_) (a' := ?_) #[true, true, true, true, true, true, true, true, true, true, true, true, true, true, true, true, true, true, true, true, false, false, false, false, false] rfl rfl (by kernel_rfl) (fun _ _ _ h => h) (Or.inl ⟨by rfl, ?_⟩) ?_ ?_
                      rotate_left
                      · intro w'
                        go_simp
                        with_reducible rfl
                      rotate_left
                      · simp only [Act.put, List.setIfInBounds_toArray, List.set_cons_zero, List.set_cons_succ, i64_w, i32_w]
                        rfl
                      refine take_ (i := 20) (N := some 138) (v := ?_) (a' := ?_) #[true, true, true, true, true, true, true, true, true, true, true, true, true, true, true, true, true, true, true, true, true, false, false, false, false] rfl rfl (by kernel_rfl) (fun _ _ _ h => h) (Or.inl ⟨by rfl, ?_⟩) hHeld ?_ ?_
                      rotate_left
                      · rintro w' s0
                        go_simp
                        with_reducible rfl
                      rotate_left
                      · simp only [Act.put, List.setIfInBounds_toArray, List.set_cons_zero, List.set_cons_succ, i64_w, i32_w]
                        rfl
                      refine pure_ (i := 21) (N := some 139) (v := ?_) (a' := ?_) #[true, true, true, true, true, true, true, true, true, true, true, true, true, true, true, true, true, true, true, true, true, true, false, false, false] rfl rfl (by kernel_rfl) (fun _ _ _ h => h) (Or.inl ⟨by rfl, ?_⟩) ?_ ?_
                      rotate_left
                      · intro w'
                        go_simp
                        with_reducible rfl
                      rotate_left
                      · simp only [Act.put, List.setIfInBounds_toArray, List.set_cons_zero, List.set_cons_succ, i64_w, i32_w]
                        rfl
                      refine pure_ (i := 22) (N := some 140) (v := ?_) (a' := ?_) #[true, true, true, true, true, true, true, true, true, true, true, true, true, true, true, true, true, true, true, true, true, true, true, false, false] rfl rfl (by kernel_rfl) (fun _ _ _ h => h) (Or.inl ⟨by rfl, ?_⟩) ?_ ?_
                      rotate_left
                      · intro w'
                        go_simp
                        with_reducible rfl
                      rotate_left
                      · simp only [Act.put, List.setIfInBounds_toArray, List.set_cons_zero, List.set_cons_succ, i64_w, i32_w]
                        rfl
                      refine pure_ (i := 23) (N := some 141) (v := ?_) (a' := ?_) #[true, true, true, true, true, true, true, true, true, true, true, true, true, true, true, true, true, true, true, true, true, true, true, true, false] rfl rfl (by kernel_rfl) (fun _ _ _ h => h) (Or.inl ⟨by rfl, ?_⟩) ?_ ?_
                      rotate_left
                      · intro w'
                        go_simp
                        with_reducible rfl
                      rotate_left
                      · simp only [Act.put, List.setIfInBounds_toArray, List.set_cons_zero, List.set_cons_succ, i64_w, i32_w]
                        rfl
                      refine pure_ (i := 24) (N := some 142) (v := ?_) (a' := ?_) #[true, true, true, true, true, true, true, true, true, true, true, true, true, true, true, true, true, true, true, true, true, true, true, true, true] rfl rfl (by kernel_rfl) (fun _ _ _ h => h) (Or.inl ⟨by rfl, ?_⟩) ?_ ?_
                      rotate_left
                      · intro w'
                        go_simp
                        with_reducible rfl
                      rotate_left
                      · simp only [Act.put, List.setIfInBounds_toArray, List.set_cons_zero, List.set_cons_succ, i64_w, i32_w]
                        rfl
                      refine done_ (by kernel_rfl) ?_
                      go_wp2
                      go_roundw
                      case rel => exact ⟨j + 1, n + f0.toNat, s.extract f0.toNat S, by omega, by omega, by simp, rfl, ⟨by have e := strB_drop (bs_ l n) f0.toNat; rw [strB_size, HSB.out, ← HS.out] at e; rw [e]; unfold bs_; rw [List.drop_drop]⟩, HR5, HW5⟩
                      case measure => simp [intOf]; omega
                    · have e5 : decide (f0 < 64) = false := decide_eq_false g5
                      refine start_ (n := 25) (S := fun w' => (w'.cell? ⟨wr.heap.size, 0, none⟩ = some (.int .i64 f0))) (ds := []) #[false, false, false, false, false, false, false, false, false, false, false, false, false, false, false, false, false, false, false, false, false, false, false, false, false] (by kernel_rfl) rfl rfl (ca0) (fun hHeld => ?_)
                      refine pure_ (i := 0) (N := some 118) (v := ?_) (a' := ?_) #[true, false, false, false, false, false, false, false, false, false, false, false, false, false, false, false, false, false, false, false, false, false, false, false, false] rfl rfl (by kernel_rfl) (fun _ _ _ h => h) (Or.inl ⟨by rfl, ?_⟩) ?_ ?_
                      rotate_left
                      · intro w'
                        go_simp
                        with_reducible rfl
                      rotate_left
                      · simp only [Act.put, List.setIfInBounds_toArray, List.set_cons_zero, List.set_cons_succ, i64_w, i32_w]
                        rfl
                      refine pure_ (i := 1) (N := some 119) (v := ?_) (a' := ?_) #[true, true, false, false, false, false, false, false, false, false, false, false, false, false, false, false, false, false, false, false, false, false, false, false, false] rfl rfl (by kernel_rfl) (fun _ _ _ h => h) (Or.inl ⟨by rfl, ?_⟩) ?_ ?_
                      rotate_left
                      · intro w'
                        go_simp
                        with_reducible rfl
                      rotate_left
                      · simp only [Act.put, List.setIfInBounds_toArray, List.set_cons_zero, List.set_cons_succ, i64_w, i32_w]
                        rfl
                      refine pure_ (i := 2) (N := some 120) (v := ?_) (a' := ?_) #[true, true, true, false, false, false, false, false, false, false, false, false, false, false, false, false, false, false, false, false, false, false, false, false, false] rfl rfl (by kernel_rfl) (fun _ _ _ h => h) (Or.inl ⟨by rfl, ?_⟩) ?_ ?_
                      rotate_left
                      · intro w'
                        go_simp
                        with_reducible rfl
                      rotate_left
                      · simp only [Act.put, List.setIfInBounds_toArray, List.set_cons_zero, List.set_cons_succ, i64_w, i32_w]
                        rfl
                      refine pure_ (i := 3) (N := some 121) (v := ?_) (a' := ?_) #[true, true, true, true, false, false, false, false, false, false, false, false, false, false, false, false, false, false, false, false, false, false, false, false, false] rfl rfl (by kernel_rfl) (fun _ _ _ h => h) (Or.inl ⟨by rfl, ?_⟩) ?_ ?_
                      rotate_left
                      · intro w'
                        go_simp
                        with_reducible rfl
                      rotate_left
                      · simp only [Act.put, List.setIfInBounds_toArray, List.set_cons_zero, List.set_cons_succ, i64_w, i32_w]
                        rfl
                      refine pure_ (i := 4) (N := some 122) (v := ?_) (a' := ?_) #[true, true, true, true, true, false, false, false, false, false, false, false, false, false, false, false, false, false, false, false, false, false, false, false, false] rfl rfl (by kernel_rfl) (fun _ _ _ h => h) (Or.inl ⟨by rfl, ?_⟩) ?_ ?_
                      rotate_left
                      · intro w'
                        go_simp
                        with_reducible rfl
                      rotate_left
                      · simp only [Act.put, List.setIfInBounds_toArray, List.set_cons_zero, List.set_cons_succ, i64_w, i32_w]
                        rfl
                      refine pure_ (i := 7) (N := some 125) (v := ?_) (a' := ?_) #[true, true, true, true, true, false, false, true, false, false, false, false, false, false, false, false, false, false, false, false, false, false, false, false, false] rfl rfl (by kernel_rfl) (fun _ _ _ h => h) (Or.inl ⟨by rfl, ?_⟩) ?_ ?_
                      rotate_left
                      · intro w'
                        go_simp
                        with_reducible rfl
                      rotate_left
                      · simp only [Act.put, List.setIfInBounds_toArray, List.set_cons_zero, List.set_cons_succ, i64_w, i32_w]
                        rfl
                      refine pure_ (i := 8) (N := some 126) (v := ?_) (a' := ?_) #[true, true, true, true, true, false, false, true, true, false, false, false, false, false, false, false, false, false, false, false, false, false, false, false, false] rfl rfl (by kernel_rfl) (fun _ _ _ h => h) (Or.inl ⟨by rfl, ?_⟩) ?_ ?_
                      rotate_left
                      · intro w'
                        go_simp
                        with_reducible rfl
                      rotate_left
                      · simp only [Act.put, List.setIfInBounds_toArray, List.set_cons_zero, List.set_cons_succ, i64_w, i32_w]
                        rfl
                      refine take_ (i := 5) (N := some 123) (v := ?_) (a' := ?_) #[true, true, true, true, true, true, false, true, true, false, false, false, false, false, false, false, false, false, false, false, false, false, false, false, false] rfl rfl (by kernel_rfl) (fun _ _ _ h => h) (Or.inl ⟨by rfl, ?_⟩) hHeld ?_ ?_
                      rotate_left
                      · rintro w' s0
                        go_simp
                        with_reducible rfl
                      rotate_left
                      · simp only [Act.put, List.setIfInBounds_toArray, List.set_cons_zero, List.set_cons_succ, i64_w, i32_w]
                        rfl
                      refine take_ (i := 9) (N := some 127) (v := ?_) (a' := ?_) #[true, true, true, true, true, true, false, true, true, true, false, false, false, false, false, false, false, false, false, false, false, false, false, false, false] rfl rfl (by kernel_rfl) (fun _ _ _ h => h) (Or.inl ⟨by rfl, ?_⟩) hHeld ?_ ?_
                      rotate_left
                      · rintro w' s0
                        go_simp
                        with_reducible rfl
                      rotate_left
                      · simp only [Act.put, List.setIfInBounds_toArray, List.set_cons_zero, List.set_cons_succ, i64_w, i32_w]
                        rfl
                      refine pure_ (i := 10) (N := some 128) (v := ?_) (a' := ?_) #[true, true, true, true, true, true, false, true, true, true, true, false, false, false, false, false, false, false, false, false, false, false, false, false, false] rfl rfl (by kernel_rfl) (fun _ _ _ h => h) (Or.inl ⟨by rfl, ?_⟩) ?_ ?_
                      rotate_left
                      · intro w'
                        go_simp
                        with_reducible rfl
                      rotate_left
                      · simp only [Act.put, List.setIfInBounds_toArray, List.set_cons_zero, List.set_cons_succ, i64_w, i32_w]
                        rfl
                      refine one_ (i := 6) (N := some 124) #[true, true, true, true, true, true, true, true, true, true, true, false, false, false, false, false, false, false, false, false, false, false, false, false, false] rfl rfl (by kernel_rfl) (by decide) (fun K hK => ?_)
                      refine goes_ Try.func15 (by kernel_rfl) rfl #[.int .u64 (V : Int), .int .i64 f0] (by rfl) rfl rfl (by simp only [List.map_toArray, List.map_cons, List.map_nil]; rfl) ?_
                      with_reducible refine (signs_calls V f0 _ hV1 hf0 (by omega)).mono ?_
                      rintro e w5 ⟨rfl, hw5⟩
                      rw [← HT.out]
                      have ca5 : w5.cell? ⟨wr.heap.size, 0, none⟩ = some (.int .i64 f0) := (hw5.cell (p := ⟨wr.heap.size, 0, none⟩) hwz).trans ca0
                      have HW5 := Aside0.mk (HW4.out.trans (below_drew0 (hw5.mono HW4.out.size)))
                      have HR5 := Aside0.mk (HR4.out.kept (Keep.of_below (below_drew0 hw5)) (fun i hi hc => by have := IsR.foot_lt HR4.out hi; simp at hc; omega)).1
                      clear hw5 ca0
                      refine ⟨_, rfl, ?_⟩
                      refine hK.out _ _ (ca5) (fun hHeld => ?_)
                      clear hK K
                      refine norm_ (a' := ?_) ?_ ?_
                      rotate_left
                      · show Act.put _ (some 124) _ = _
                        simp only [Act.put, List.setIfInBounds_toArray, List.set_cons_zero, List.set_cons_succ, i64_w, i32_w]
                        rfl
                      refine pure_ (i := 11) (N := some 129) (v := ?_) (a' := ?_) #[true, true, true, true, true, true, true, true, true, true, true, true, false, false, false, false, false, false, false, false, false, false, false, false, false] rfl rfl (by kernel_rfl) (fun _ _ _ h => h) (Or.inl ⟨by rfl, ?_⟩) ?_ ?_
                      rotate_left
                      · intro w'
                        go_simp
                        with_reducible rfl
                      rotate_left
                      · simp only [Act.put, List.setIfInBounds_toArray, List.set_cons_zero, List.set_cons_succ, i64_w, i32_w]
                        rfl
                      refine pure_ (i := 12) (N := some 130) (v := ?_) (a' := ?_) #[true, true, true, true, true, true, true, true, true, true, true, true, true, false, false, false, false, false, false, false, false, false, false, false, false] rfl rfl (by kernel_rfl) (fun _ _ _ h => h) (Or.inl ⟨by rfl, ?_⟩) ?_ ?_
                      rotate_left
                      · intro w'
                        go_simp
                        with_reducible rfl
                      rotate_left
                      · simp only [Act.put, List.setIfInBounds_toArray, List.set_cons_zero, List.set_cons_succ, i64_w, i32_w]
                        rfl
                      refine pure_ (i := 13) (N := some 131) (v := ?_) (a' := ?_) #[true, true, true, true, true, true, true, true, true, true, true, true, true, true, false, false, false, false, false, false, false, false, false, false, false] rfl rfl (by kernel_rfl) (fun _ _ _ h => h) (Or.inl ⟨by rfl, ?_⟩) ?_ ?_
                      rotate_left
                      · intro w'
                        go_simp
                        with_reducible rfl
                      rotate_left
                      · simp only [Act.put, List.setIfInBounds_toArray, List.set_cons_zero, List.set_cons_succ, i64_w, i32_w]
                        rfl
                      refine pure_ (i := 14) (N := some 132) (v := ?_) (a' := ?_) #[true, true, true, true, true, true, true, true, true, true, true, true, true, true, true, false, false, false, false, false, false, false, false, false, false] rfl rfl (by kernel_rfl) (fun _ _ _ h => h) (Or.inl ⟨by rfl, ?_⟩) ?_ ?_
                      rotate_left
                      · intro w'
                        go_simp
                        with_reducible rfl
                      rotate_left
                      · simp only [Act.put, List.setIfInBounds_toArray, List.set_cons_zero, List.set_cons_succ, i64_w, i32_w]
                        rfl
                      refine take_ (i := 15) (N := some 133) (v := ?_) (a' := ?_) #[true, true, true, true, true, true, true, true, true, true, true, true, true, true, true, true, false, false, false, false, false, false, false, false, false] rfl rfl (by kernel_rfl) (fun _ _ _ h => h) (Or.inl ⟨by rfl, ?_⟩) hHeld ?_ ?_
                      rotate_left
                      · rintro w' s0
                        go_simp
                        with_reducible rfl
                      rotate_left
                      · simp only [Act.put, List.setIfInBounds_toArray, List.set_cons_zero, List.set_cons_succ, i64_w, i32_w]
                        rfl
                      refine pure_ (i := 16) (N := some 134) (v := ?_) (a' := ?_) #[true, true, true, true, true, true, true, true, true, true, true, true, true, true, true, true, true, false, false, false, false, false, false, false, false] rfl rfl (by kernel_rfl) (fun _ _ _ h => h) (Or.inl ⟨by rfl, ?_⟩) ?_ ?_
                      rotate_left
                      · intro w'
                        go_simp
                        with_reducible rfl
                      rotate_left
                      · simp only [Act.put, List.setIfInBounds_toArray, List.set_cons_zero, List.set_cons_succ, i64_w, i32_w]
                        rfl
                      refine pure_ (i := 17) (N := some 135) (v := ?_) (a' := ?_) #[true, true, true, true, true, true, true, true, true, true, true, true, true, true, true, true, true, true, false, false, false, false, false, false, false] rfl rfl (by kernel_rfl) (fun _ _ _ h => h) (Or.inl ⟨by rfl, ?_⟩) ?_ ?_
                      rotate_left
                      · intro w'
                        go_simp
                        with_reducible rfl
                      rotate_left
                      · simp only [Act.put, List.setIfInBounds_toArray, List.set_cons_zero, List.set_cons_succ, i64_w, i32_w]
                        rfl
                      refine pure_ (i := 18) (N := some 136) (v := undef) (a' := ?_) #[true, true, true, true, true, true, true, true, true, true, true, true, true, true, true, true, true, true, true, false, false, false, false, false, false] rfl rfl (by kernel_rfl) (fun _ _ _ h => h) (Or.inr ⟨by rfl, rfl⟩) ?_ ?_
                      rotate_left
                      · simp only [Act.put, List.setIfInBounds_toArray, List.set_cons_zero, List.set_cons_succ, i64_w, i32_w]
                        rfl
                      refine pure_ (i := 19) (N := some 137) (v := undef) (a' := ?_) #[true, true, true, true, true, true, true, true, true, true, true, true, true, true, true, true, true, true, true, true, false, false, false, false, false] rfl rfl (by kernel_rfl) (fun _ _ _ h => h) (Or.inr ⟨by rfl, rfl⟩) ?_ ?_
                      rotate_left
                      · simp only [Act.put, List.setIfInBounds_toArray, List.set_cons_zero, List.set_cons_succ, i64_w, i32_w]
                        rfl
                      refine pure_ (i := 20) (N := some 138) (v := undef) (a' := ?_) #[true, true, true, true, true, true, true, true, true, true, true, true, true, true, true, true, true, true, true, true, true, false, false, false, false] rfl rfl (by kernel_rfl) (fun _ _ _ h => h) (Or.inr ⟨by rfl, rfl⟩) ?_ ?_
                      rotate_left
                      · simp only [Act.put, List.setIfInBounds_toArray, List.set_cons_zero, List.set_cons_succ, i64_w, i32_w]
                        rfl
                      refine pure_ (i := 21) (N := some 139) (v := undef) (a' := ?_) #[true, true, true, true, true, true, true, true, true, true, true, true, true, true, true, true, true, true, true, true, true, true, false, false, false] rfl rfl (by kernel_rfl) (fun _ _ _ h => h) (Or.inr ⟨by rfl, rfl⟩) ?_ ?_
                      rotate_left
                      · simp only [Act.put, List.setIfInBounds_toArray, List.set_cons_zero, List.set_cons_succ, i64_w, i32_w]
                        rfl
                      refine pure_ (i := 22) (N := some 140) (v := undef) (a' := ?_) #[true, true, true, true, true, true, true, true, true, true, true, true, true, true, true, true, true, true, true, true, true, true, true, false, false] rfl rfl (by kernel_rfl) (fun _ _ _ h => h) (Or.inr ⟨by rfl, rfl⟩) ?_ ?_
                      rotate_left
                      · simp only [Act.put, List.setIfInBounds_toArray, List.set_cons_zero, List.set_cons_succ, i64_w, i32_w]
                        rfl
                      refine pure_ (i := 23) (N := some 141) (v := ?_) (a' := ?_) #[true, true, true, true, true, true, true, true, true, true, true, true, true, true, true, true, true, true, true, true, true, true, true, true, false] rfl rfl (by kernel_rfl) (fun _ _ _ h => h) (Or.inl ⟨by rfl, ?_⟩) ?_ ?_
                      rotate_left
                      · intro w'
                        go_simp
                        with_reducible rfl
                      rotate_left
                      · simp only [Act.put, List.setIfInBounds_toArray, List.set_cons_zero, List.set_cons_succ, i64_w, i32_w]
                        rfl
                      refine pure_ (i := 24) (N := some 142) (v := ?_) (a' := ?_) #[true, true, true, true, true, true, true, true, true, true, true, true, true, true, true, true, true, true, true, true, true, true, true, true, true] rfl rfl (by kernel_rfl) (fun _ _ _ h => h) (Or.inl ⟨by rfl, ?_⟩) ?_ ?_
                      rotate_left
                      · intro w'
                        go_simp
                        with_reducible rfl
                      rotate_left
                      · simp only [Act.put, List.setIfInBounds_toArray, List.set_cons_zero, List.set_cons_succ, i64_w, i32_w]
                        rfl
                      refine done_ (by kernel_rfl) ?_
                      go_wp2
                      go_roundw
                      case rel => exact ⟨j + 1, n + f0.toNat, s.extract f0.toNat S, by omega, by omega, by simp, rfl, ⟨by have e := strB_drop (bs_ l n) f0.toNat; rw [strB_size, HSB.out, ← HS.out] at e; rw [e]; unfold bs_; rw [List.drop_drop]⟩, HR5, HW5⟩
                      case measure => simp [intOf]; omega
          · have hjq : j = q.length := by omega
            clear hjq
            go_wp2_with fail
            go_loop [16, 180] (fun v16 v180 => ∃ (i : Nat) (b : Bool), i ≤ S ∧ v180 = .int .i64 (i : Int) ∧ v16 = .bool b ∧ Aside0 (b = (decide (S < 8) && ((bs_ l n).take i).all (! ·)))) (fun _ v => S - (intOf v).toNat)
            case atStart => exact ⟨0, decide ((S : Int) < 8), by omega, rfl, by simp, ⟨by simp; omega⟩⟩
            case round =>
              obtain ⟨i, b, hi, rfl, rfl, HBB⟩ := hrel
              by_cases his : i < S
              · have his' : i < s.size := by omega
                have HTK := Aside0.mk (all_step (bs_ l n) i (by have := HSB.out; omega))
                cases b with
                | false =>
                  go_wp2
                  go_round
                  case rel => exact ⟨i + 1, false, by omega, by simp, rfl, ⟨by rw [HTK.out, ← Bool.and_assoc, ← HBB.out]; rfl⟩⟩
                  case measure => simp [intOf]; omega
                | true =>
                  cases hbit : (bs_ l n).getD i false with
                  | false =>
                    have hb1 : (((s[i]'his').toNat : Int) == 48) = true := strB_48 HS.out hbit his'
                    have HBT := Aside0.mk hbit
                    clear hbit
                    go_wp2
                    go_round
                    case rel => exact ⟨i + 1, true, by omega, by simp, rfl, ⟨by rw [HTK.out, ← Bool.and_assoc, ← HBB.out, HBT.out]; rfl⟩⟩
                    case measure => simp [intOf]; omega
                  | true =>
                    have hb1 : (((s[i]'his').toNat : Int) == 48) = false := strB_49 HS.out hbit his'
                    have HBT := Aside0.mk hbit
                    clear hbit
                    go_wp2
                    go_round
                    case rel => exact ⟨i + 1, false, by omega, by simp, rfl, ⟨by rw [HTK.out, ← Bool.and_assoc, ← HBB.out, HBT.out]; rfl⟩⟩
                    case measure => simp [intOf]; omega
              · have HRS := Aside0.mk (show b = rest (bs_ l n) by
                  rw [HBB.out, show i = S by omega, List.take_of_length_le (by rw [HSB.out]; exact Nat.le_refl _)]
                  unfold rest
                  rw [HSB.out])
                go_wp2_with fail
                refine (rest_calls p n l _ HR.out (by omega) HB.out hn).mono ?_
                rintro e w4 ⟨rfl, k4, rfl⟩
                go_wp2
                go_ret
                refine ⟨?_, pw_below_drewN HW.out _⟩
                rw [HRS.out]
                unfold restOf
                cases rest (bs_ l n) <;> rfl
  · rcases Nat.lt_or_ge 60 l.length with hl1 | hl1
    · have d1 : decide (60 < (l.length : Int)) = true := decide_eq_true (by omega)
      go_enter Try.func4, Try.ntmps4
      go_wp2_with fail
      refine (lives_calls _).mono ?_
      rintro e w1 ⟨rfl, hw1⟩
      have HW1 := Aside0.mk hw1
      clear hw1
      go_wp2_with fail
      refine (lives_calls _).mono ?_
      rintro e w2 ⟨rfl, hw2⟩
      have HW2 := Aside0.mk hw2
      clear hw2
      go_wp2
      go_ret
      exact ⟨rfl, HW1.out.trans (HW2.out.mono HW1.out.size)⟩
    · have d1 : decide (60 < (l.length : Int)) = false := decide_eq_false (by omega)
      have d2 : decide (60 < (q.length : Int)) = true := decide_eq_true (by omega)
      go_enter Try.func4, Try.ntmps4
      go_wp2_with fail
      refine (lives_calls _).mono ?_
      rintro e w1 ⟨rfl, hw1⟩
      have HW1 := Aside0.mk hw1
      clear hw1
      go_wp2_with fail
      refine (lives_calls _).mono ?_
      rintro e w2 ⟨rfl, hw2⟩
      have HW2 := Aside0.mk hw2
      clear hw2
      go_wp2
      go_ret
      exact ⟨rfl, HW1.out.trans (HW2.out.mono HW1.out.size)⟩
theorem ints_of_row {k : IntKind} {w : World} {A : Option Addr} {n : Nat} {xs : List Int} (h : ReadsRow (fun (p : Int) c => c = [.int k p]) 1 w A n xs) : ReadsInt w k A n xs := by
  refine ⟨h.1, h.2.1, fun hn => ?_⟩
  obtain ⟨ad, e, hc⟩ := h.2.2 hn
  refine ⟨ad, e, fun j hj => ?_⟩
  have hj' : j < xs.length := by rw [h.1]; exact hj
  obtain ⟨c, _, rfl, hcell⟩ := hc j _ (List.getElem?_eq_getElem hj')
  have := hcell 0 _ rfl
  rw [Nat.mul_one, Nat.add_zero] at this
  rw [this, List.getD_eq_getElem?_getD, List.getElem?_eq_getElem hj']
  rfl
theorem bitsReads_walk (A0 : Option Addr) (len0 cap0 : Nat) (l0 : List Int) (A1 : Option Addr) (len1 cap1 : Nat) (l1 : List Ask) (W : World)
    (hr0 : ReadsRow (fun (p : Int) c => c = [.int .u8 p]) 1 W A0 len0 l0) (_ : len0 ≤ cap0) (hq0 : ∀ p ∈ l0, (Lit.int .u8 p).wf = true)
    (hr1 : ReadsRow (fun (p : Ask) c => c = [.int .i64 p.f0, .bool p.f1]) 2 W A1 len1 l1) (_ : len1 ≤ cap1) (hq1 : ∀ p ∈ l1, (Lit.int .i64 p.f0).wf = true) :
    Calls Try.prog 4 #[.slice A0 len0 cap0, .slice A1 len1 cap1] W fun e w' => e = .returned (.bool true) ∧ Below W.heap.size W w' := by
  have e0 := hr0.1
  have e1 := hr1.1
  subst e0 e1
  exact reads_calls A0 A1 cap0 cap1 l0 l1 W (ints_of_row hr0) (fun x hx => wf_u8 (hq0 x hx)) hr1 (fun p hp => wf_i64 (hq1 p hp))
end Go.Proofs.Ytfanomllfgoakaa
