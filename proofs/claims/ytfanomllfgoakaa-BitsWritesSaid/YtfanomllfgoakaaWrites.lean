/- The law BitsWrites: items are written, and read again: walked over the contracts of Writer and Reader. -/
import Derived.Test.YtfanomllfgoakaaItems
set_option linter.unusedVariables false
set_option linter.unusedSimpArgs false
namespace Go.Proofs.Ytfanomllfgoakaa
open Go.RowKit Go.Proofs.YtfanomllfgoakaaW.PrintWords Go.Proofs.YtfanomllfgoakaaW.PrintLast Go.Proofs.YtfanomllfgoakaaW.PrintMore
open Go.Proofs.Ytfanomllfgoakaa.BitsMath Go.Proofs.Ytfanomllfgoakaa.ChunkMath

/-- What holds between two items that are written. -/
structure WInv (w : World) (p : Nat) (bs : List Bool) (ks : List Item) (v : Value) (S : ByteArray) (wr : World) : Prop where
  is : IsW p bs wr
  row : wr.ownsRow w.heap.size 49 3 v ks.length (rowI ks)
  bel : Below w.heap.size w wr
  enc : bs = encI ks
  good : ∀ x ∈ ks, goodI x
  str : S = strB bs
  foot : ∀ i, WFoot p wr i → w.heap.size ≤ i

structure ShiftPos (n : Nat) (f1 : Int) : Prop where
  _1 : f1 < (blen n : Int) → 0 < (n : Int) / 2 ^ f1.toNat
  _2 : ¬ f1 < (blen n : Int) → ¬ 0 < (n : Int) / 2 ^ f1.toNat
  _3 : ¬ f1 < (blen n : Int) → (n : Int) < 2 ^ f1.toNat
theorem shift_pos (n : Nat) (f1 : Int) (h0 : 0 ≤ f1) : ShiftPos n f1 := by
  have e : ((n / 2 ^ f1.toNat : Nat) : Int) = (n : Int) / 2 ^ f1.toNat := by simp
  have e2 : ((2 ^ f1.toNat : Nat) : Int) = 2 ^ f1.toNat := by simp
  have hp : 0 < 2 ^ f1.toNat := Nat.pow_pos (by decide)
  have hb := blen_le f1.toNat n
  refine ⟨fun h => ?_, fun h => ?_, fun h => ?_⟩
  · rw [← e]
    have h2 : ¬ n < 2 ^ f1.toNat := fun hc => by have := hb.2 hc; omega
    have := Nat.div_pos (Nat.le_of_not_lt h2) hp
    omega
  · rw [← e, Nat.div_eq_of_lt (hb.1 (by omega))]
    simp
  · rw [← e2]
    have := hb.1 (by omega)
    omega
theorem row_rstep {p n m : Nat} {l : List Int} {w w' : World} {o : Obj} {b e sz k : Nat} {v : Value} {xs : List Value} (h : IsR p l n w) (hr : w.ownsRow b e sz v k xs) (st : RStep p l (w.alloc o) w' m) (h1 : e ≠ 74) (h2 : e ≠ 5) : w'.ownsRow b e sz v k xs :=
  st.keep.row (hr.alloc o) fun g hg he => rfoot_row_ne (h.alloc o) (hr.alloc o) h1 h2 g (.inl he) hg
theorem cells_one {xs : List Value} (h : xs.all (·.oneCell') = true) : ∀ u ∈ xs, u.oneCell' = true := fun u hu => by simpa using List.all_eq_true.1 h u hu
theorem append_nilB (s : ByteArray) : s ++ strB [] = s := by
  apply ByteArray.ext
  simp [strB, strOfNums]
theorem WInv.same {w : World} {p : Nat} {bs : List Bool} {ks : List Item} {v : Value} {S : ByteArray} {wr : World} (h : WInv w p bs ks v S wr) (o : Obj) : WInv w p bs ks v S (wr.alloc o) := by
  have k : Keep (fun _ => False) wr (wr.alloc o) := (Keep.refl _ _).alloc o
  exact ⟨h.is.alloc o, h.row.alloc o, h.bel.alloc h.bel.size o, h.enc, h.good, h.str, fun i hi => h.foot i (((h.is.kept k fun _ _ h => h).2 i).1 hi)⟩
theorem foot_alloc {p : Nat} {bs : List Bool} {w : World} (h : IsW p bs w) (o : Obj) {i : Nat} (hi : WFoot p (w.alloc o) i) : i < w.heap.size := by
  have k : Keep (fun _ => False) w (w.alloc o) := (Keep.refl _ _).alloc o
  exact h.foot_lt (((h.kept k fun _ _ h => h).2 i).1 hi)
theorem WInv.row2 {w : World} {p : Nat} {bs bs' : List Bool} {ks : List Item} {v : Value} {S : ByteArray} {wr w2 w3 : World} (h : WInv w p bs ks v S wr) {o : Obj} (h2 : WStep p (wr.alloc o) w2 bs') (hb : Below w2.heap.size w2 w3) :
    w3.ownsRow w.heap.size 49 3 v ks.length (rowI ks) :=
  row_below hb (h2.keep.row (h.row.alloc o) fun g hg hf => foot_row_ne (h.is.alloc o) (h.row.alloc o) (by decide) (by decide) g hf hg)
theorem WInv.bel2 {w : World} {p : Nat} {bs bs' : List Bool} {ks : List Item} {v : Value} {S : ByteArray} {wr w2 w3 : World} (h : WInv w p bs ks v S wr) {o : Obj} (h2 : WStep p (wr.alloc o) w2 bs') (hb : Below w2.heap.size w2 w3) : Below w.heap.size w w3 := by
  have hs := h.bel.size
  have hs2 := h2.keep.size
  simp at hs2
  exact ((h.bel.alloc hs o).trans (h2.keep.to_below (fun i hi => (h.same o).foot i hi) (by simp; omega))).trans (hb.mono (by omega))
theorem WInv.wrote {w : World} {p : Nat} {bs : List Bool} {ks : List Item} {v v' : Value} {S : ByteArray} {wr w2 w3 w4 : World} {x : Item} (h : WInv w p bs ks v S wr) {o o' : Obj} (h2 : WStep p (wr.alloc o) w2 (bs ++ itemBits x)) (hb : Below w2.heap.size w2 w3)
    (hown : w4.ownsRow w.heap.size 49 3 v' (ks.length + 1) (rowI ks ++ itemCells x)) (hg : (w3.alloc o').grownBy w4 v.ownBlock) (hx : goodI x) : WInv w p (bs ++ itemBits x) (ks ++ [x]) v' (S ++ strB (itemBits x)) w4 := by
  have hr := h.row2 h2 hb
  have i3 := h2.is.kept (Keep.of_below hb) fun i hi => by have := h2.is.foot_lt hi; omega
  have k4 : Keep (fun i => some i = v.ownBlock) w3 w4 := ((Keep.refl _ w3).alloc o').grown hg fun g e _ => e.symm
  have i4 := i3.1.kept k4 fun i hi hc => foot_row_ne i3.1 hr (by decide) (by decide) i hi hc.symm
  have hs := h.bel.size
  refine ⟨i4.1, ?_, ?_, ?_, ?_, ?_, ?_⟩
  · rw [List.length_append, rowI_append]
    simpa [rowI] using hown
  · have hb3 := h.bel2 h2 hb
    exact (hb3.alloc hb3.size o').grown hg (by have := hb3.size; simp; omega) fun k hk => (hr.lt k hk).1
  · rw [h.enc, encI_append]; simp [encI]
  · intro y hy
    rcases List.mem_append.1 hy with hy | hy
    · exact h.good y hy
    · simp at hy; subst hy; exact hx
  · rw [h.str, strB_append]
  · intro i hi
    have h5 := (i3.2 i).1 ((i4.2 i).1 hi)
    rcases h2.foot i h5 with h6 | h6
    · exact (h.same o).foot i h6
    · simp at h6; omega

set_option maxRecDepth 100000 in
set_option maxHeartbeats 8000000 in
theorem writes_calls (A0 : Option Addr) (c0 : Nat) (q : List Item) (w : World)
    (h1 : ReadsRow (fun (p : Item) c => c = [.int .u64 p.f0, .int .i64 p.f1, .bool p.f2]) 3 w A0 q.length q) (hq : ∀ p ∈ q, (0 ≤ p.f0 ∧ p.f0 < 18446744073709551616) ∧ -9223372036854775808 ≤ p.f1 ∧ p.f1 ≤ 9223372036854775807) :
    Calls Try.prog 6 #[.slice A0 q.length c0] w fun e w' => e = .returned (.bool true) ∧ Below w.heap.size w w' := by
  have H1 := Aside0.mk h1
  have HQ := Aside0.mk hq
  obtain ⟨i0, hi, hz0, hz1, hz2⟩ := info_parts infoItem
  have hql : q.length ≤ 9223372036854775807 := h1.2.1
  clear h1 hq
  by_cases hq60 : q.length ≤ 60
  · have d2 : decide (60 < (q.length : Int)) = false := decide_eq_false (by omega)
    go_enter Try.func6, Try.ntmps6
    go_wp2_with fail
    refine (lives_calls _).mono ?_
    rintro e w1 ⟨rfl, hw1⟩
    have HW1 := Aside0.mk hw1
    clear hw1
    go_wp2_with fail
    have HI1 : WInv w w1.heap.size [] [] (.slice none 0 0) ⟨#[]⟩ (w1.alloc (.cells #[.slice none 0 0, .int .i64 0] 27)) :=
      ⟨IsW.new w1, World.ownsRow_nil _ _ _ _, HW1.out.alloc HW1.out.size _, rfl, by simp, rfl, fun i hi => by rw [WFoot.new w1 i hi]; exact HW1.out.size⟩
    have HI2 := Aside0.mk HI1
    clear HI1
    go_loopw [4, 5, 29] (fun v4 v5 v29 wr => ∃ (j : Nat) (bs : List Bool) (ks : List Item) (v : Value) (S : ByteArray), j ≤ q.length ∧ bs.length ≤ 101 * j ∧ ks.length ≤ j ∧ S.size ≤ 101 * j ∧ v29 = .int .i64 (j : Int) ∧ v4 = .string S ∧ v = v5 ∧ Aside0 (WInv w w1.heap.size bs ks v S wr)) (fun _ _ v _ => q.length - (intOf v).toNat)
    case atStart => exact ⟨0, [], [], .slice none 0 0, ⟨#[]⟩, by omega, by simp, by simp, by decide, rfl, rfl, rfl, HI2⟩
    case round =>
      obtain ⟨j, bs, ks, v, S, hj, hbs, hks, hS, rfl, rfl, rfl, HI⟩ := hrel
      by_cases hlt : j < q.length
      · have hr := ReadsRow.get_ (ReadsRow.imp_ H1.out HI.out.bel fun _ _ h => h) (⟨0, 0, false⟩ : Item) (j : Int) (by omega) (by omega)
        rw [Int.toNat_natCast] at hr
        obtain ⟨ad, c, rfl, _, rfl, hc⟩ := hr
        have hbq := HQ.out (q.getD j ⟨0, 0, false⟩) (by rw [List.getD_eq_getElem?_getD, List.getElem?_eq_getElem hlt]; exact List.getElem_mem _)
        have ce0 := hc 0 _ rfl
        have ce1 := hc 1 _ rfl
        have ce2 := hc 2 _ rfl
        rw [Nat.add_zero] at ce0
        rw [add_field _ _ 1 (by omega)] at ce1
        rw [add_field _ _ 2 (by omega)] at ce2
        clear hc
        generalize q.getD j (⟨0, 0, false⟩ : Item) = x at hbq ce0 ce1 ce2
        obtain ⟨f0, f1, f2⟩ := x
        simp only at hbq ce0 ce1 ce2
        obtain ⟨⟨hb0, hb0'⟩, hb1, hb1'⟩ := hbq
        have HIA := Aside0.mk (HI.out.is.alloc (Obj.cells #[.int .u64 f0, .int .i64 f1, .bool f2] 49))
        have hp1 : w1.heap.size < wr.heap.size := HI.out.is.foot_lt (.inl rfl)
        cases f2 with
        | true =>
          by_cases g1 : 100 < f1 ∧ f1 ≤ 4096
          · obtain ⟨g1, g1'⟩ := g1
            have e1 : decide (100 < f1) = true := decide_eq_true g1
            have e2 : decide (f1 ≤ 4096) = true := decide_eq_true g1'
            go_wp2
            go_ret
            exact ⟨rfl, HI.out.bel.alloc HI.out.bel.size _⟩
          · have g1b : decide (100 < f1) = false ∨ (decide (100 < f1) = true ∧ decide (f1 ≤ 4096) = false) := by
              rcases Int.lt_or_le 100 f1 with h | h
              · exact .inr ⟨decide_eq_true h, decide_eq_false fun h2 => g1 ⟨h, h2⟩⟩
              · exact .inl (decide_eq_false (by omega))
            clear g1
            rcases g1b with e1 | ⟨e1, e2⟩
            · by_cases g2 : f1 < 0
              · have e3 : decide (f1 < 0) = true := decide_eq_true g2
                go_wp2_with fail
                refine (unaryW_low ⟨w1.heap.size, 0, none⟩ f1 _ e3).mono ?_
                rintro e w2 ⟨rfl, rfl⟩
                go_wp2
                go_roundw
                case rel => exact ⟨j + 1, bs, ks, v, S, by omega, by omega, by omega, by omega, by simp, rfl, rfl, ⟨HI.out.same _⟩⟩
                case measure => simp [intOf]; omega
              · have e3 : decide (f1 < 0) = false := decide_eq_false g2
                have e4 : decide (4096 < f1) = false := decide_eq_false (by simp at e1; omega)
                have hf1 : f1 ≤ 100 := by simp at e1; omega
                go_wp2_with fail
                refine (unaryW_ok w1.heap.size bs f1 _ (by omega) (by omega) HIA.out (by omega)).mono ?_
                rintro e w3 ⟨rfl, h2⟩
                have cb0 : w3.cell? ⟨wr.heap.size, 0, none⟩ = some (.int .u64 f0) := h2.keep.cell (p := ⟨wr.heap.size, 0, none⟩) (by simp) (fun hc => Nat.lt_irrefl _ (foot_alloc HI.out.is _ hc))
                have cb1 : w3.cell? ⟨wr.heap.size, 1, none⟩ = some (.int .i64 f1) := h2.keep.cell (p := ⟨wr.heap.size, 1, none⟩) (by simp) (fun hc => Nat.lt_irrefl _ (foot_alloc HI.out.is _ hc))
                have cb2 : w3.cell? ⟨wr.heap.size, 2, none⟩ = some (.bool true) := h2.keep.cell (p := ⟨wr.heap.size, 2, none⟩) (by simp) (fun hc => Nat.lt_irrefl _ (foot_alloc HI.out.is _ hc))
                have HX := Aside0.mk (show WStep w1.heap.size (wr.alloc (Obj.cells #[.int .u64 f0, .int .i64 f1, .bool true] 49)) w3 (bs ++ itemBits ⟨f0, f1, true⟩) from h2)
                have HRW := Aside0.mk (HI.out.row2 h2 (Below.refl _ _))
                have HB3 := Aside0.mk (HI.out.bel2 h2 (Below.refl _ _))
                clear h2
                go_wp2_with fail
                go_loop [4, 59] (fun v4 v59 => ∃ (i : Nat) (S2 : ByteArray), (i : Int) ≤ f1 ∧ S2.size ≤ 101 * j + i ∧ v59 = .int .i64 (i : Int) ∧ v4 = .string S2 ∧ Aside0 (S2 = S ++ strB (List.replicate i true))) (fun _ v => (f1 - intOf v).toNat)
                case atStart => exact ⟨0, S, by omega, by omega, rfl, rfl, ⟨by rw [List.replicate_zero, append_nilB]⟩⟩
                case round =>
                  obtain ⟨i, S2, hi1, hS2, rfl, rfl, HS2⟩ := hrel
                  by_cases hif : (i : Int) < f1
                  · go_wp2
                    go_round
                    case rel =>
                      refine ⟨i + 1, S2 ++ ⟨#[49]⟩, by omega, by simp [ByteArray.size_append]; have : (⟨#[49]⟩ : ByteArray).size = 1 := rfl; omega, by simp, rfl, ⟨?_⟩⟩
                      rw [HS2.out, List.replicate_succ', strB_append, ByteArray.append_assoc]
                      rfl
                    case measure => simp [intOf]; omega
                  · have HIF := Aside0.mk (show f1.toNat = i by omega)
                    have q2 := cells_one (xs := [.int .u64 f0, .int .i64 f1, .bool true]) (by simp [Value.oneCell'])
                    have q3 : ks.length + 1 ≤ maxLen := by unfold maxLen; omega
                    have q4 : (ks.length + 1) * 24 ≤ 140737488355328 := by omega
                    have q6 : w.heap.size ≤ (w3.alloc (Obj.cells #[.int .u64 f0, .int .i64 f1, .bool true] 49)).heap.size := by have := HB3.out.size; simp; omega
                    have q5 : (w3.alloc (Obj.cells #[.int .u64 f0, .int .i64 f1, .bool true] 49)).heap.size = w3.heap.size + 1 := by simp
                    have Q1 := Aside0.mk (World.news_of_block (cs := #[.int .u64 f0, .int .i64 f1, .bool true]) (blk_new w3 (Obj.cells #[.int .u64 f0, .int .i64 f1, .bool true] 49)))
                    have Q2 := Aside0.mk q2
                    have Q5 := Aside0.mk q5
                    clear q2 q5
                    go_wp2_with (at_builtin; refine wpList_append_lies _ rfl (.tmp 68) (.tmp 70) 47 rfl w.heap.size 49 i0 _ 3 24 Try.underlying47 hi hz0 hz1 hz2 rfl (by decide) v ks.length (rowI ks) rfl (HRW.out.alloc _) ⟨w3.heap.size, 0, none⟩ 1 1 [.int .u64 f0, .int .i64 f1, .bool true] rfl rfl Q1.out Q2.out (by decide) q3 q4 q6 (w3.heap.size + 1) Q5.out ?_)
                    intro g cap w4 hown' hgrow _ _
                    have HNEW := Aside0.mk (HI.out.wrote HX.out (Below.refl _ _) (x := ⟨f0, f1, true⟩) hown' hgrow ⟨by simp; omega, fun _ => hf1, fun h => by cases h⟩)
                    clear hown' hgrow
                    go_wp2
                    go_roundw
                    case rel =>
                      have hlen : (itemBits ⟨f0, f1, true⟩).length = f1.toNat + 1 := by simp [itemBits]
                      refine ⟨j + 1, bs ++ itemBits ⟨f0, f1, true⟩, ks ++ [⟨f0, f1, true⟩], _, _, by omega, by rw [List.length_append, hlen]; omega, by simp; omega, ?_, by simp, rfl, rfl, ⟨?_⟩⟩
                      · simp [ByteArray.size_append]; have : (⟨#[48]⟩ : ByteArray).size = 1 := rfl; omega
                      · have h := HNEW.out
                        have e : S2 ++ ⟨#[48]⟩ = S ++ strB (itemBits ⟨f0, f1, true⟩) := by
                          rw [HS2.out, ByteArray.append_assoc]
                          unfold itemBits
                          rw [if_pos rfl, strB_append, HIF.out]
                          rfl
                        rw [e]
                        exact h
                    case measure => simp [intOf]; omega
            · have e3 : decide (f1 < 0) = false := decide_eq_false (by simp at e1; omega)
              have e4 : decide (4096 < f1) = true := decide_eq_true (by simp at e2; omega)
              go_wp2_with fail
              refine (unaryW_high ⟨w1.heap.size, 0, none⟩ f1 _ e3 e4).mono ?_
              rintro e w2 ⟨rfl, rfl⟩
              go_wp2
              go_roundw
              case rel => exact ⟨j + 1, bs, ks, v, S, by omega, by omega, by omega, by omega, by simp, rfl, rfl, ⟨HI.out.same _⟩⟩
              case measure => simp [intOf]; omega
        | false =>
          obtain ⟨n, rfl⟩ := Int.eq_ofNat_of_zero_le hb0
          have hn64 : n < 18446744073709551616 := by omega
          have hbl := blen_64 n hn64
          by_cases g1 : f1 < 0
          · have e1 : decide (f1 < 0) = true := decide_eq_true g1
            go_wp2_with fail
            refine (put_low ⟨w1.heap.size, 0, none⟩ _ f1 _ e1).mono ?_
            rintro e w2 ⟨rfl, rfl⟩
            go_wp2
            go_roundw
            case rel => exact ⟨j + 1, bs, ks, v, S, by omega, by omega, by omega, by omega, by simp, rfl, rfl, ⟨HI.out.same _⟩⟩
            case measure => simp [intOf]; omega
          · have e1 : decide (f1 < 0) = false := decide_eq_false g1
            by_cases g2 : 64 < f1
            · have e2 : decide (64 < f1) = true := decide_eq_true g2
              go_wp2_with fail
              refine (put_high ⟨w1.heap.size, 0, none⟩ _ f1 _ e1 e2).mono ?_
              rintro e w2 ⟨rfl, rfl⟩
              go_wp2
              go_roundw
              case rel => exact ⟨j + 1, bs, ks, v, S, by omega, by omega, by omega, by omega, by simp, rfl, rfl, ⟨HI.out.same _⟩⟩
              case measure => simp [intOf]; omega
            · have e2 : decide (64 < f1) = false := decide_eq_false g2
              have HSH := Aside0.mk (shift_pos n f1 (by omega))
              by_cases g3 : f1 < (blen n : Int)
              · have e3 : decide (f1 < (blen n : Int)) = true := decide_eq_true g3
                have e4 : decide (f1 < 64) = true := decide_eq_true (by omega)
                have e5 : decide (0 < (n : Int) / 2 ^ f1.toNat) = true := decide_eq_true (HSH.out._1 g3)
                go_wp2_with fail
                refine (put_range ⟨w1.heap.size, 0, none⟩ n f1 _ hn64 e1 e2 e3).mono ?_
                rintro e w2 ⟨rfl, rfl⟩
                go_wp2
                go_roundw
                case rel => exact ⟨j + 1, bs, ks, v, S, by omega, by omega, by omega, by omega, by simp, rfl, rfl, ⟨HI.out.same _⟩⟩
                case measure => simp [intOf]; omega
              · have e3 : decide (f1 < (blen n : Int)) = false := decide_eq_false g3
                have e5 : decide (0 < (n : Int) / 2 ^ f1.toNat) = false := decide_eq_false (HSH.out._2 g3)
                have HGD := Aside0.mk (show goodI ⟨(n : Int), f1, false⟩ from ⟨by simp; omega, (fun h => by cases h), fun _ => ⟨by simp; omega, by simp, HSH.out._3 g3⟩⟩)
                have hcall := put_ok w1.heap.size bs n f1 _ hn64 (by omega) (by omega) e3 HIA.out (by omega)
                have HC := Lib.hid hcall
                clear hcall
                go_wp2_with fail
                refine HC.out.mono ?_
                rintro e w2 ⟨rfl, h2⟩
                have cb0 : w2.cell? ⟨wr.heap.size, 0, none⟩ = some (.int .u64 (n : Int)) := h2.keep.cell (p := ⟨wr.heap.size, 0, none⟩) (by simp) (fun hc => Nat.lt_irrefl _ (foot_alloc HI.out.is _ hc))
                have cb1 : w2.cell? ⟨wr.heap.size, 1, none⟩ = some (.int .i64 f1) := h2.keep.cell (p := ⟨wr.heap.size, 1, none⟩) (by simp) (fun hc => Nat.lt_irrefl _ (foot_alloc HI.out.is _ hc))
                have cb2 : w2.cell? ⟨wr.heap.size, 2, none⟩ = some (.bool false) := h2.keep.cell (p := ⟨wr.heap.size, 2, none⟩) (by simp) (fun hc => Nat.lt_irrefl _ (foot_alloc HI.out.is _ hc))
                have HX := Aside0.mk (show WStep w1.heap.size (wr.alloc (Obj.cells #[.int .u64 (n : Int), .int .i64 f1, .bool false] 49)) w2 (bs ++ itemBits ⟨(n : Int), f1, false⟩) from h2)
                have hwz : wr.heap.size < w2.heap.size := by have := h2.keep.size; simp at this; omega
                clear h2
                have g4 : decide (f1 < 64) = true ∨ decide (f1 < 64) = false := by cases decide (f1 < 64) <;> simp
                rcases g4 with e4 | e4
                all_goals
                  go_wp2_with fail
                  refine (signs_calls n f1 _ hn64 (by omega) (by omega)).mono ?_
                  rintro e w3 ⟨rfl, hb3⟩
                  have cd0 := (hb3.cell (p := ⟨wr.heap.size, 0, none⟩) hwz).trans cb0
                  have cd1 := (hb3.cell (p := ⟨wr.heap.size, 1, none⟩) hwz).trans cb1
                  have cd2 := (hb3.cell (p := ⟨wr.heap.size, 2, none⟩) hwz).trans cb2
                  have HRW := Aside0.mk (HI.out.row2 HX.out hb3)
                  have HB3 := Aside0.mk (HI.out.bel2 HX.out hb3)
                  have HBB := Aside0.mk hb3
                  clear hb3 cb0 cb1 cb2
                  obtain ⟨T, hT⟩ : ∃ T, T = strB (bitsOf n f1.toNat) := ⟨_, rfl⟩
                  rw [← hT]
                  have hT1 : T.size ≤ 64 := by rw [hT, strB_size, bitsOf_length]; omega
                  have HT := Aside0.mk hT
                  clear hT
                  have q2 := cells_one (xs := [.int .u64 (n : Int), .int .i64 f1, .bool false]) (by simp [Value.oneCell'])
                  have q3 : ks.length + 1 ≤ maxLen := by unfold maxLen; omega
                  have q4 : (ks.length + 1) * 24 ≤ 140737488355328 := by omega
                  have q6 : w.heap.size ≤ (w3.alloc (Obj.cells #[.int .u64 (n : Int), .int .i64 f1, .bool false] 49)).heap.size := by have := HB3.out.size; simp; omega
                  have q5 : (w3.alloc (Obj.cells #[.int .u64 (n : Int), .int .i64 f1, .bool false] 49)).heap.size = w3.heap.size + 1 := by simp
                  have Q1 := Aside0.mk (World.news_of_block (cs := #[.int .u64 (n : Int), .int .i64 f1, .bool false]) (blk_new w3 (Obj.cells #[.int .u64 (n : Int), .int .i64 f1, .bool false] 49)))
                  have Q2 := Aside0.mk q2
                  have Q5 := Aside0.mk q5
                  clear q2 q5
                  go_wp2_with (at_builtin; refine wpList_append_lies _ rfl (.tmp 87) (.tmp 89) 47 rfl w.heap.size 49 i0 _ 3 24 Try.underlying47 hi hz0 hz1 hz2 rfl (by decide) v ks.length (rowI ks) rfl (HRW.out.alloc _) ⟨w3.heap.size, 0, none⟩ 1 1 [.int .u64 (n : Int), .int .i64 f1, .bool false] rfl rfl Q1.out Q2.out (by decide) q3 q4 q6 (w3.heap.size + 1) Q5.out ?_)
                  intro g cap w4 hown' hgrow _ _
                  have HNEW := Aside0.mk (HI.out.wrote HX.out HBB.out (x := ⟨(n : Int), f1, false⟩) hown' hgrow HGD.out)
                  clear hown' hgrow
                  go_wp2
                  go_roundw
                  case rel =>
                    have hlen : (itemBits ⟨(n : Int), f1, false⟩).length = f1.toNat := by simp [itemBits, bitsOf_length]
                    refine ⟨j + 1, bs ++ itemBits ⟨(n : Int), f1, false⟩, ks ++ [⟨(n : Int), f1, false⟩], _, _, by omega, by rw [List.length_append, hlen]; omega, by simp; omega, ?_, by simp, rfl, rfl, ⟨?_⟩⟩
                    · simp [ByteArray.size_append]; omega
                    · have h := HNEW.out
                      have e : strB (itemBits ⟨(n : Int), f1, false⟩) = T := by rw [HT.out]; rfl
                      rw [e] at h
                      exact h
                  case measure => simp [intOf]; omega
      · have HZ := Aside0.mk (show S.size = bs.length by rw [HI.out.str, strB_size])
        have hSz : S.size = bs.length := HZ.out
        have hbl : bs.length ≤ 1000000000 := by omega
        have hbl2 : bs.length ≤ 1000000 := by omega
        go_wp2_with fail
        refine start_ (n := 13) (S := fun w' => True) (ds := []) #[false, false, false, false, false, false, false, false, false, false, false, false, false] (by kernel_rfl) rfl rfl trivial (fun hHeld => ?_)
        refine pure_ (i := 0) (N := some 117) (v := ?_) (a' := ?_) #[true, false, false, false, false, false, false, false, false, false, false, false, false] rfl rfl (by kernel_rfl) (fun _ _ _ h => h) (Or.inl ⟨by rfl, ?_⟩) ?_ ?_
        rotate_left
        · intro w'
          go_simp
          with_reducible rfl
        rotate_left
        · simp only [Act.put, List.setIfInBounds_toArray, List.set_cons_zero, List.set_cons_succ, i64_w, i32_w]
          rfl
        refine pure_ (i := 2) (N := some 119) (v := ?_) (a' := ?_) #[true, false, true, false, false, false, false, false, false, false, false, false, false] rfl rfl (by kernel_rfl) (fun _ _ _ h => h) (Or.inl ⟨by rfl, ?_⟩) ?_ ?_
        rotate_left
        · intro w'
          go_simp
          with_reducible rfl
        rotate_left
        · simp only [Act.put, List.setIfInBounds_toArray, List.set_cons_zero, List.set_cons_succ, i64_w, i32_w]
          rfl
        refine pure_ (i := 3) (N := some 120) (v := ?_) (a' := ?_) #[true, false, true, true, false, false, false, false, false, false, false, false, false] rfl rfl (by kernel_rfl) (fun _ _ _ h => h) (Or.inl ⟨by rfl, ?_⟩) ?_ ?_
        rotate_left
        · intro w'
          go_simp
          with_reducible rfl
        rotate_left
        · simp only [Act.put, List.setIfInBounds_toArray, List.set_cons_zero, List.set_cons_succ, i64_w, i32_w]
          rfl
        refine one_ (i := 1) (N := some 118) #[true, true, true, true, false, false, false, false, false, false, false, false, false] rfl rfl (by kernel_rfl) (by decide) (fun K hK => ?_)
        refine goes_ Try.func13 (by kernel_rfl) rfl #[.pointer (some ⟨w1.heap.size, 0, none⟩)] (by rfl) rfl rfl (by simp only [List.map_toArray, List.map_cons, List.map_nil]; rfl) ?_
        with_reducible refine (lenW_calls w1.heap.size bs _ (IsW.drew HI.out.is)).mono ?_
        rintro e w' ⟨rfl, rfl⟩
        refine ⟨_, rfl, ?_⟩
        refine hK.out _ _ trivial (fun hHeld => ?_)
        clear hK K
        refine norm_ (a' := ?_) ?_ ?_
        rotate_left
        · show Act.put _ (some 118) _ = _
          simp only [Act.put, List.setIfInBounds_toArray, List.set_cons_zero, List.set_cons_succ, i64_w, i32_w]
          rfl
        refine pure_ (i := 4) (N := some 121) (v := ?_) (a' := ?_) #[true, true, true, true, true, false, false, false, false, false, false, false, false] rfl rfl (by kernel_rfl) (fun _ _ _ h => h) (Or.inl ⟨by rfl, ?_⟩) ?_ ?_
        rotate_left
        · intro w'
          go_simp
          with_reducible rfl
        rotate_left
        · simp only [Act.put, List.setIfInBounds_toArray, List.set_cons_zero, List.set_cons_succ, i64_w, i32_w]
          rfl
        refine pure_ (i := 5) (N := some 122) (v := ?_) (a' := ?_) #[true, true, true, true, true, true, false, false, false, false, false, false, false] rfl rfl (by kernel_rfl) (fun _ _ _ h => h) (Or.inl ⟨by rfl, ?_⟩) ?_ ?_
        rotate_left
        · intro w'
          go_simp
          with_reducible rfl
        rotate_left
        · simp only [Act.put, List.setIfInBounds_toArray, List.set_cons_zero, List.set_cons_succ, i64_w, i32_w]
          rfl
        refine pure_ (i := 6) (N := some 123) (v := ?_) (a' := ?_) #[true, true, true, true, true, true, true, false, false, false, false, false, false] rfl rfl (by kernel_rfl) (fun _ _ _ h => h) (Or.inl ⟨by rfl, ?_⟩) ?_ ?_
        rotate_left
        · intro w'
          go_simp
          with_reducible rfl
        rotate_left
        · simp only [Act.put, List.setIfInBounds_toArray, List.set_cons_zero, List.set_cons_succ, i64_w, i32_w]
          rfl
        refine pure_ (i := 9) (N := some 126) (v := ?_) (a' := ?_) #[true, true, true, true, true, true, true, false, false, true, false, false, false] rfl rfl (by kernel_rfl) (fun _ _ _ h => h) (Or.inl ⟨by rfl, ?_⟩) ?_ ?_
        rotate_left
        · intro w'
          go_simp
          with_reducible rfl
        rotate_left
        · simp only [Act.put, List.setIfInBounds_toArray, List.set_cons_zero, List.set_cons_succ, i64_w, i32_w]
          rfl
        refine one_ (i := 7) (N := some 124) #[true, true, true, true, true, true, true, true, false, true, false, false, false] rfl rfl (by kernel_rfl) (by decide) (fun K hK => ?_)
        refine goes_ Try.func14 (by kernel_rfl) rfl #[.pointer (some ⟨w1.heap.size, 0, none⟩)] (by rfl) rfl rfl (by simp only [List.map_toArray, List.map_cons, List.map_nil]; rfl) ?_
        with_reducible refine (bytesW_calls w1.heap.size bs _ (IsW.drew HI.out.is) hbl).mono ?_
        rintro e w5 ⟨va, rfl, hra, hba⟩
        have HA5 := Aside0.mk (below_drew0 hba)
        have HRA := Aside0.mk hra
        clear hra hba
        refine ⟨_, rfl, ?_⟩
        refine hK.out _ _ trivial (fun hHeld => ?_)
        clear hK K
        refine norm_ (a' := ?_) ?_ ?_
        rotate_left
        · show Act.put _ (some 124) _ = _
          simp only [Act.put, List.setIfInBounds_toArray, List.set_cons_zero, List.set_cons_succ, i64_w, i32_w]
          rfl
        refine raise_ (S' := fun w' => ((convert 25 9 va).run Try.prog w' = .ok (.string (strOfNums (pack bs))) w')) (fun w' h => by obtain s0 := h; exact trivial) ((conv_own HRA.out)) (fun hHeld => ?_)
        refine take_ (i := 8) (N := some 125) (v := ?_) (a' := ?_) #[true, true, true, true, true, true, true, true, true, true, false, false, false] rfl rfl (by kernel_rfl) (fun _ _ _ h => h) (Or.inl ⟨by rfl, ?_⟩) hHeld ?_ ?_
        rotate_left
        · rintro w' s0
          go_simp
          with_reducible rfl
        rotate_left
        · simp only [Act.put, List.setIfInBounds_toArray, List.set_cons_zero, List.set_cons_succ, i64_w, i32_w]
          rfl
        refine one_ (i := 10) (N := some 127) #[true, true, true, true, true, true, true, true, true, true, true, false, false] rfl rfl (by kernel_rfl) (by decide) (fun K hK => ?_)
        refine goes_ Try.func22 (by kernel_rfl) rfl #[.string S] (by rfl) rfl rfl (by simp only [List.map_toArray, List.map_cons, List.map_nil]; rfl) ?_
        with_reducible refine (packT_calls bs S _ HI.out.str hbl2).mono ?_
        rintro e w6 ⟨rfl, hb6⟩
        have HA6 := Aside0.mk hb6
        have HRA2 := Aside0.mk (row_below hb6 HRA.out)
        clear hb6
        refine ⟨_, rfl, ?_⟩
        refine hK.out _ _ ((conv_own HRA2.out)) (fun hHeld => ?_)
        clear hK K
        refine norm_ (a' := ?_) ?_ ?_
        rotate_left
        · show Act.put _ (some 127) _ = _
          simp only [Act.put, List.setIfInBounds_toArray, List.set_cons_zero, List.set_cons_succ, i64_w, i32_w]
          rfl
        refine pure_ (i := 11) (N := some 128) (v := ?_) (a' := ?_) #[true, true, true, true, true, true, true, true, true, true, true, true, false] rfl rfl (by kernel_rfl) (fun _ _ _ h => h) (Or.inl ⟨by rfl, ?_⟩) ?_ ?_
        rotate_left
        · intro w'
          go_simp
          with_reducible rfl
        rotate_left
        · simp only [Act.put, List.setIfInBounds_toArray, List.set_cons_zero, List.set_cons_succ, i64_w, i32_w]
          rfl
        refine pure_ (i := 12) (N := some 129) (v := ?_) (a' := ?_) #[true, true, true, true, true, true, true, true, true, true, true, true, true] rfl rfl (by kernel_rfl) (fun _ _ _ h => h) (Or.inl ⟨by rfl, ?_⟩) ?_ ?_
        rotate_left
        · intro w'
          go_simp
          with_reducible rfl
        rotate_left
        · simp only [Act.put, List.setIfInBounds_toArray, List.set_cons_zero, List.set_cons_succ, i64_w, i32_w]
          rfl
        refine done_ (by kernel_rfl) ?_
        have HW6 := Aside0.mk ((HI.out.bel.trans (HA5.out.mono HI.out.bel.size)).trans (HA6.out.mono (Nat.le_trans HI.out.bel.size HA5.out.size)))
        have HR6 := Aside0.mk (row_below HA6.out (row_below HA5.out HI.out.row))
        have HI6 := Aside0.mk (same_bytes HA6.out (same_bytes HA5.out HI.out.is))
        clear HA5 HA6 HRA HRA2
        go_wp2_with fail
        refine (bytesW_calls w1.heap.size bs _ HI6.out hbl).mono ?_
        rintro e w7 ⟨v7, rfl, hr7, hb7⟩
        have HR7 := Aside0.mk hr7
        have HB7 := Aside0.mk hb7
        have hpl := pack_length bs
        have hpk : (pack bs).length ≤ 1000000 := by omega
        have HPL := Aside0.mk hpl
        clear hr7 hb7 hpl
        go_wp2_with fail
        refine (read_calls v7 (pack bs) _ (SrcB.of_row HR7.out) (by omega)).mono ?_
        rintro e w8 ⟨p2, rfl, hp2, hR2, hb8⟩
        have HRR := Aside0.mk hR2
        have HW8 := Aside0.mk ((HW6.out.trans (HB7.out.mono HW6.out.size)).trans (hb8.mono (Nat.le_trans HW6.out.size HB7.out.size)))
        have HR8 := Aside0.mk (row_below hb8 (row_below HB7.out HR6.out))
        have hp2w : w.heap.size ≤ p2 := Nat.le_trans (Nat.le_trans HW6.out.size HB7.out.size) hp2
        have HPAD := Aside0.mk (show bs_ (pack bs) 0 = encI (ks.drop 0) ++ List.replicate (8 * ((bs.length + 7) / 8) - bs.length) false by
          unfold bs_
          rw [List.drop_zero, unpack_pack, List.drop_zero, ← HI.out.enc])
        obtain ⟨m, hm⟩ : ∃ m, m = 8 * ((bs.length + 7) / 8) - bs.length := ⟨_, rfl⟩
        rw [← hm] at HPAD
        have hm8 : m < 8 := by omega
        have HGD := Aside0.mk HI.out.good
        have HPR := Aside0.mk (pack_range bs)
        clear hR2 hb8 hp2 hm HR7 HB7 HR6 HI6 HW6
        obtain ⟨l, hl⟩ : ∃ l, l = pack bs := ⟨_, rfl⟩
        rw [← hl] at HPAD HPR HRR hpk
        obtain ⟨A5, cap5, rfl⟩ := row_form HR8.out
        go_wp2_with fail
        clear HI hSz HZ hbl hbl2 HPL hl
        go_loopw [135] (fun v135 wr => ∃ (i n : Nat), i ≤ ks.length ∧ n ≤ 8 * l.length ∧ v135 = .int .i64 (i : Int) ∧ Aside0 (IsR p2 l n wr) ∧ Aside0 (wr.ownsRow w.heap.size 49 3 (.slice A5 ks.length cap5) ks.length (rowI ks)) ∧ Aside0 (Below w.heap.size w wr) ∧ Aside0 (bs_ l n = encI (ks.drop i) ++ List.replicate m false)) (fun v _ => ks.length - (intOf v).toNat)
        case atStart => exact ⟨0, 0, by omega, by omega, rfl, HRR, HR8, HW8, HPAD⟩
        case round =>
          obtain ⟨i, n, hi1, hn, rfl, HR, HO, HW, HE⟩ := hrel
          by_cases hik : i < ks.length
          · obtain ⟨g, cap, _, hsl, _⟩ := row_pos HO.out (by omega)
            obtain ⟨rfl, rfl⟩ : A5 = some ⟨g, 0, none⟩ ∧ cap5 = cap := by injection hsl with h1 _ h3; exact ⟨h1, h3⟩
            have hx : ks[i]? = some ks[i] := List.getElem?_eq_getElem hik
            have HGX := Aside0.mk (HGD.out _ (List.getElem_mem hik))
            have HE2 := Aside0.mk (show bs_ l n = itemBits ks[i] ++ (encI (ks.drop (i + 1)) ++ List.replicate m false) by
              rw [HE.out, List.drop_eq_getElem_cons hik, encI, List.append_assoc])
            have ce0 : wr.cell? ⟨g, i * 3, none⟩ = some (.int .u64 ks[i].f0) := by
              have h := World.ownsRow.cellAt HO.out (i * 3 + 0) (by omega)
              rw [rowI_get ks i 0 _ hx (by omega)] at h
              exact h
            have ce1 : wr.cell? ⟨g, i * 3 + 1, none⟩ = some (.int .i64 ks[i].f1) := by
              have h := World.ownsRow.cellAt HO.out (i * 3 + 1) (by omega)
              rw [rowI_get ks i 1 _ hx (by omega)] at h
              exact h
            have ce2 : wr.cell? ⟨g, i * 3 + 2, none⟩ = some (.bool ks[i].f2) := by
              have h := World.ownsRow.cellAt HO.out (i * 3 + 2) (by omega)
              rw [rowI_get ks i 2 _ hx (by omega)] at h
              exact h
            clear hx hsl
            generalize ks[i] = x at HGX HE2 ce0 ce1 ce2
            obtain ⟨f0, f1, f2⟩ := x
            simp only at ce0 ce1 ce2
            have hp2z : p2 < wr.heap.size := HR.out.foot_lt (.inl rfl)
            have hf10 : 0 ≤ f1 := HGX.out.1
            cases f2 with
            | true =>
              have hf11 : f1 ≤ 100 := HGX.out.2.1 rfl
              have HU := Aside0.mk (read_unary (l := l) (at_ := n) rfl HGX.out HE2.out)
              have hcall := unaryR_calls p2 n l f1 (wr.alloc (Obj.cells #[.int .u64 f0, .int .i64 f1, .bool true] 49)) (HR.out.alloc _) (by omega) HPR.out hn (by omega) (by omega)
              have hu := HU.out.1
              simp only at hu
              rw [hu] at hcall
              simp only at hcall
              have HC := Lib.hid hcall
              have HLEN := Aside0.mk (show n + f1.toNat + 1 ≤ 8 * l.length by
                have h1 := congrArg List.length HE2.out
                simp only [itemBits, if_true, List.length_append, List.length_replicate, List.length_singleton] at h1
                unfold bs_ at h1
                rw [List.length_drop, unpack_length] at h1
                omega)
              clear hcall hu
              go_wp2_with fail
              refine HC.out.mono ?_
              rintro e w9 ⟨rfl, h9⟩
              have ca1 : w9.cell? ⟨wr.heap.size, 1, none⟩ = some (.int .i64 f1) := h9.keep.cell (p := ⟨wr.heap.size, 1, none⟩) (by simp) (by simp; omega)
              have HR9 := Aside0.mk h9.is
              have HO9 := Aside0.mk (row_rstep HR.out HO.out h9 (by decide) (by decide))
              have HW9 := Aside0.mk ((HW.out.alloc HW.out.size (Obj.cells #[.int .u64 f0, .int .i64 f1, .bool true] 49)).trans (h9.keep.to_below (fun k hk => by rw [hk]; exact hp2w) (by have := HW.out.size; simp; omega)))
              clear h9
              go_wp2
              go_roundw
              case rel => exact ⟨i + 1, n + f1.toNat + 1, by omega, HLEN.out, by simp, HR9, HO9, HW9, ⟨HU.out.2⟩⟩
              case measure => simp [intOf]; omega
            | false =>
              have hf11 : f1 ≤ 64 := (HGX.out.2.2 rfl).1
              have HU := Aside0.mk (read_num (l := l) (at_ := n) rfl HGX.out HE2.out)
              have HLEN := Aside0.mk (show n + f1.toNat ≤ 8 * l.length by
                have h1 := HU.out.2.2
                simp only at h1
                unfold bs_ at h1
                rw [List.length_drop, unpack_length] at h1
                omega)
              have hcall := get_ok p2 n l f1 (wr.alloc (Obj.cells #[.int .u64 f0, .int .i64 f1, .bool false] 49)) (HR.out.alloc _) (by omega) HPR.out hn hf10 hf11 (by have := HLEN.out; omega)
              have hu := HU.out.1
              simp only at hu
              rw [hu] at hcall
              have HC := Lib.hid hcall
              clear hcall hu
              go_wp2_with fail
              refine HC.out.mono ?_
              rintro e w9 ⟨rfl, h9⟩
              have ca0 : w9.cell? ⟨wr.heap.size, 0, none⟩ = some (.int .u64 f0) := h9.keep.cell (p := ⟨wr.heap.size, 0, none⟩) (by simp) (by simp; omega)
              have HR9 := Aside0.mk h9.is
              have HO9 := Aside0.mk (row_rstep HR.out HO.out h9 (by decide) (by decide))
              have HW9 := Aside0.mk ((HW.out.alloc HW.out.size (Obj.cells #[.int .u64 f0, .int .i64 f1, .bool false] 49)).trans (h9.keep.to_below (fun k hk => by rw [hk]; exact hp2w) (by have := HW.out.size; simp; omega)))
              clear h9
              go_wp2
              go_roundw
              case rel => exact ⟨i + 1, n + f1.toNat, by omega, HLEN.out, by simp, HR9, HO9, HW9, ⟨HU.out.2.1⟩⟩
              case measure => simp [intOf]; omega
          · have HEND := Aside0.mk (show bs_ l n = List.replicate m false by
              rw [HE.out, List.drop_of_length_le (by omega)]
              rfl)
            have HLM := Aside0.mk (show 8 * l.length - n = m by
              have h1 := congrArg List.length HEND.out
              unfold bs_ at h1
              rw [List.length_drop, unpack_length, List.length_replicate] at h1
              exact h1)
            have hrest : restOf (bs_ l n) = 0 := by rw [HEND.out]; exact restOf_yes (rest_pad m hm8)
            have hcall := rest_calls p2 n l wr HR.out (by omega) HPR.out hn
            rw [hrest] at hcall
            have HC := Lib.hid hcall
            clear hcall hrest
            have dl : decide (8 * (l.length : Int) - (n : Int) < 8) = true := decide_eq_true (by have := HLM.out; omega)
            go_wp2_with fail
            refine HC.out.mono ?_
            rintro e w9 ⟨rfl, k9, rfl⟩
            go_wp2_with fail
            refine (left_calls p2 n l _ (HR.out.drewN _) (by omega) hn).mono ?_
            rintro e w10 ⟨rfl, k10, rfl⟩
            go_wp2
            go_ret
            exact ⟨rfl, pw_below_drewN HW.out _⟩
  · have d2 : decide (60 < (q.length : Int)) = true := decide_eq_true (by omega)
    go_enter Try.func6, Try.ntmps6
    go_wp2_with fail
    refine (lives_calls _).mono ?_
    rintro e w1 ⟨rfl, hw1⟩
    have HW1 := Aside0.mk hw1
    clear hw1
    go_wp2_with fail
    refine (lives_calls _).mono ?_
    rintro e w2 ⟨rfl, hw2⟩
    have HW2 := Aside0.mk hw2
    clear hw2
    go_wp2
    go_ret
    exact ⟨rfl, HW1.out.trans (HW2.out.mono HW1.out.size)⟩
theorem bitsWrites_walk (A0 : Option Addr) (len0 cap0 : Nat) (l0 : List Item) (W : World)
    (hr0 : ReadsRow (fun (p : Item) c => c = [.int .u64 p.f0, .int .i64 p.f1, .bool p.f2]) 3 W A0 len0 l0) (_ : len0 ≤ cap0) (hq0 : ∀ p ∈ l0, (Lit.int .u64 p.f0).wf = true ∧ (Lit.int .i64 p.f1).wf = true) :
    Calls Try.prog 6 #[.slice A0 len0 cap0] W fun e w' => e = .returned (.bool true) ∧ Below W.heap.size W w' := by
  have e0 := hr0.1
  subst e0
  exact writes_calls A0 cap0 l0 W hr0 (fun p hp => ⟨wf_u64 (hq0 p hp).1, wf_i64 (hq0 p hp).2⟩)
end Go.Proofs.Ytfanomllfgoakaa
