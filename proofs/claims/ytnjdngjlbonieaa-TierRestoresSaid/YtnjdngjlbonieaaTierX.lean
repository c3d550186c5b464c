/- A stock that is made of what another one has, walked. -/
import Derived.Test.YtnjdngjlbonieaaTierU
import Derived.Lib.Hide
import Derived.LoopTactic
import Derived.Outline
import Derived.Laws.Rows
import Derived.Laws.CopyOwn
import Derived.WalkKit
set_option linter.unusedVariables false
set_option linter.unusedSimpArgs false
namespace Go.Proofs.Ytnjdngjlbonieaa
open Go.RowKit Go.Proofs.YtnjdngjlbonieaaW.PrintWords Go.Proofs.YtnjdngjlbonieaaW.PrintLast Go.Proofs.YtnjdngjlbonieaaW.PrintMore
open Go.Proofs.Ytnjdngjlbonieaa.PTierForgets
attribute [local go_sem] max2_int min2_int max_two min_two max_three min_three max_four min_four

section
variable {F : Nat → Prop} {p b1 b2 : Nat} {s : Stk} {w : World} {k1 k2 : List S31}
theorem IsStk.mark0 (h : IsStk F p s w) : IsStk F p s (w.setCell ⟨p, 4, none⟩ (.int .i64 0)) := by
  obtain ⟨ps, v1, v2, h1, h2, h3, h4, h5, h6, h7⟩ := h.row
  exact ⟨h.own, h.l1, h.l2, ps, v1, v2, blk_set h1 4 _, h2.cell h1 4 _, own_cell h3 h1 (by decide) 4 _, own_cell h4 h1 (by decide) 4 _, h5, h6, h7⟩
theorem IsStk.lay12 {u1 u2 : Value} (h : IsStk F p s w) (hF : ∀ b, F b → b < b1) (hb : b1 ≤ b2) (ho1 : w.ownsRow b1 31 5 u1 k1.length (k1.flatMap aggP)) (hu : ∀ g, u1.ownBlock = some g → g < b2) (ho2 : w.ownsRow b2 31 5 u2 k2.length (k2.flatMap aggP)) (hl1 : k1.length ≤ 256) (hl2 : k2.length ≤ 256) :
    IsStk (fun b => F b ∨ (b1 ≤ b ∧ b < w.heap.size)) p { s with a1 := k1, a2 := k2 } ((w.setCell ⟨p, 2, none⟩ u1).setCell ⟨p, 3, none⟩ u2) := by
  obtain ⟨ps, v1, v2, h1, h2, h3, h4, h5, h6, h7⟩ := h.row
  have e1 := blk_set h1 2 u1
  have o1 := own_cell (row_mono ho1 (Nat.zero_le _)) h1 (by decide) 2 u1
  have o2 := own_cell (row_mono ho2 (Nat.zero_le _)) h1 (by decide) 2 u1
  refine ⟨.inl h.own, hl1, hl2, ps, u1, u2, blk_set e1 3 u2, ((h2.cell h1 2 u1).cell e1 3 u2).mono (fun b hb => .inl hb), own_cell o1 e1 (by decide) 3 u2, own_cell o2 e1 (by decide) 3 u2, fun g hg => .inr (ho1.lt g hg), fun g hg => .inr ⟨Nat.le_trans hb (ho2.lt g hg).1, (ho2.lt g hg).2⟩, fun g hg e => ?_⟩
  have h8 := hu g hg
  have h9 := (ho2.lt g e).1
  omega
end
/-- What may be made of a stock with another mark. -/
def fineB (s : Stk) (m : Int) : Bool := markB 300 m && decide (s.m2 ≤ m) && belowB s.a1 m
def RestPost (s : Stk) (m : Int) (w : World) (e : Ending) (w' : World) : Prop :=
  (fineB s m = true ∧ ∃ p, e = .returned (.tuple #[.pointer (some ⟨p, 0, none⟩), .int .i64 0]) ∧ OwnS w.heap.size p { s with m1 := m } w' ∧ Below w.heap.size w w') ∨ (fineB s m = false ∧ e = .returned (.tuple #[.pointer none, .int .i64 2]) ∧ Below w.heap.size w w')
theorem OwnS.mono' {B B' p : Nat} {s : Stk} {w : World} (h : OwnS B p s w) (hB : B' ≤ B) : OwnS B' p s w := by
  obtain ⟨F, h1, h2⟩ := h
  exact ⟨F, h1, fun b hb => by have := h2 b hb; omega⟩
set_option maxRecDepth 100000 in
set_option maxHeartbeats 32000000 in
theorem restore_calls (s : Stk) (hG : GoodT s) (A : Option Addr) (ca : Nat) (B1 B2 : Nat) (v1 v2 : Value) (m : Int) (hm : -9223372036854775808 ≤ m ∧ m ≤ 9223372036854775807) (w : World) (hL : Kd.C k29 w A s.raw.length s.raw) (h1 : w.ownsRow B1 31 5 v1 s.a1.length (s.a1.flatMap aggP)) (h2 : w.ownsRow B2 31 5 v2 s.a2.length (s.a2.flatMap aggP)) :
    Calls Try.prog 47 #[.slice A s.raw.length ca, v1, v2, .agg #[.int .i64 0, .int .i64 m, .int .i64 s.m2]] w (RestPost s m w) := by
  obtain ⟨A1, ca1, rfl⟩ := row_form h1
  obtain ⟨A2, ca2, rfl⟩ := row_form h2
  have hu29 := Try.underlying29
  have hu72 := Try.underlying72
  have hu100 := Try.underlying100
  have hu98 := Try.underlying98
  obtain ⟨l, hl⟩ : ∃ l, l = s.raw := ⟨_, rfl⟩
  have hlen : l.length ≤ 256 := by rw [hl]; exact hG.len
  have hris := hG.ris
  rw [← hl] at hL hris ⊢
  have HR := Lib.hid (ris_get hris)
  have HLL := Aside0.mk hl
  have HL := Aside0.mk hL
  have HO1 := Aside0.mk h1
  have HO2 := Aside0.mk h2
  have HG := Aside0.mk hG
  have HM := Aside0.mk hm
  obtain ⟨W, hW⟩ : ∃ W, W = w.alloc (.cells #[.int .i64 0, .int .i64 m, .int .i64 s.m2] 72) := ⟨_, rfl⟩
  obtain ⟨Q, hQ⟩ : ∃ Q, Q = w.heap.size := ⟨_, rfl⟩
  have HBW := Aside0.mk (show Below w.heap.size w W by rw [hW]; exact (Below.refl _ _).alloc (Nat.le_refl _) _)
  have HQW := Aside0.mk (show W.heap[Q]? = some (.cells #[.int .i64 0, .int .i64 m, .int .i64 s.m2] 72 (0, 0)) by rw [hW, hQ]; exact blk_new w _)
  obtain ⟨B, hB⟩ : ∃ B, B = W.heap.size := ⟨_, rfl⟩
  have HBB := Aside0.mk (show B = W.heap.size ∧ w.heap.size ≤ B ∧ Q < B by
    have := blk_lt HQW.out
    have := HBW.out.size
    omega)
  clear hl hris hL h1 h2 hG hm hB
  go_enter Try.func47, Try.ntmps47
  go_upto_region 1 with (fail)
  rw [← hW, ← hQ]
  clear hW hQ
  go_wp2_with fail
  refine (tnew_calls W).mono ?_
  rintro e w1 ⟨p, rfl, hs1, hb1⟩
  have HO3 := Aside0.mk (show OwnS B p newS w1 by rw [HBB.out.1]; exact OwnS.new hs1 (Nat.le_refl _))
  have HB1 := Aside0.mk (show Below B W w1 by rw [HBB.out.1]; exact hb1)
  clear hs1 hb1
  go_wp2_with fail
  go_loopw [11] (fun v11 wr => ∃ j : Nat, j ≤ l.length ∧ v11 = .int .i64 ((j + 1 : Nat) : Int) ∧ Aside0 (OwnS B p newS wr) ∧ Aside0 (Below B W wr)) (fun v _ => (l.length + 1) - (intOf v).toNat)
  case atStart => exact ⟨0, by omega, rfl, HO3, HB1⟩
  case round =>
    clear HO3 HB1
    obtain ⟨j, hj, rfl, HO, HB⟩ := hrel
    by_cases hlt : j + 1 < l.length
    · obtain ⟨ad, hAe, hcell⟩ := cells29 HL.out (by omega)
      subst hAe
      obtain ⟨x, hx⟩ : ∃ x, l[j]? = some x := ⟨_, List.getElem?_eq_getElem (by omega)⟩
      obtain ⟨y, hy⟩ : ∃ y, l[j + 1]? = some y := ⟨_, List.getElem?_eq_getElem hlt⟩
      have hbl : Below w.heap.size w wr := HBW.out.trans (HB.out.mono HBB.out.2.1)
      have u0 : wr.drew.cell? (ad.add (j * 2)) = some (.int .i64 x.f0) := bread hbl (hcell j x hx).1
      have u1 : wr.drew.cell? (ad.add ((j + 1) * 2)) = some (.int .i64 y.f0) := bread hbl (hcell (j + 1) y hy).1
      have hxy := HR.out j (j + 1) x y (by omega) hx hy
      have d1 : decide (x.f0 ≥ y.f0) = false := decide_eq_false (by omega)
      have d1' : decide (y.f0 ≤ x.f0) = false := decide_eq_false (by omega)
      have g1 : decide (((j + 1 : Nat) : Int) < (l.length : Int)) = true := decide_eq_true (by omega)
      have g2 : decide ((j : Int) + 1 < (l.length : Int)) = true := decide_eq_true (by omega)
      have hjl : (j : Int) < (l.length : Int) := by omega
      have hjl2 : ((j + 1 : Nat) : Int) < (l.length : Int) := by omega
      have hjl3 : (0 : Int) ≤ (j : Int) + 1 := by omega
      have hjl4 : j < l.length := by omega
      have hjl5 : (j : Int) + 1 < (l.length : Int) := by omega
      have HII := Aside0.mk (show wrap64 (j : Int) = (j : Int) by unfold wrap64; omega)
      clear hcell hx hy hbl hxy
      go_wp2_with fail
      refine start_ (n := 12) (S := fun w' => (w'.cell? (ad.add (j * 2)) = some (.int .i64 x.f0)) ∧ (w'.cell? (ad.add ((j + 1) * 2)) = some (.int .i64 y.f0))) (ds := []) (bA 12 0) (by kernel_rfl) rfl (by kernel_rfl) ⟨u0, u1⟩ (fun hHeld => ?_)
      refine pure_ (i := 0) (N := some 21) (v := ?_) (a' := ?_) (bA 12 1) rfl rfl (by kernel_rfl) (fun _ _ _ h => h) (Or.inl ⟨by rfl, ?_⟩) ?_ ?_
      rotate_left; · intro w'; go_simp; with_reducible rfl
      rotate_left; · simp only [Act.put, List.setIfInBounds_toArray, List.set_cons_zero, List.set_cons_succ, i64_w, i32_w]; rfl
      refine pure_ (i := 1) (N := some 22) (v := ?_) (a' := ?_) (bA 12 3) rfl rfl (by kernel_rfl) (fun _ _ _ h => h) (Or.inl ⟨by rfl, ?_⟩) ?_ ?_
      rotate_left; · intro w'; go_simp; with_reducible rfl
      rotate_left; · simp only [Act.put, List.setIfInBounds_toArray, List.set_cons_zero, List.set_cons_succ, i64_w, i32_w]; rfl
      refine pure_ (i := 2) (N := some 23) (v := ?_) (a' := ?_) (bA 12 7) rfl rfl (by kernel_rfl) (fun _ _ _ h => h) (Or.inl ⟨by rfl, ?_⟩) ?_ ?_
      rotate_left; · intro w'; go_simp; with_reducible rfl
      rotate_left; · simp only [Act.put, List.setIfInBounds_toArray, List.set_cons_zero, List.set_cons_succ, i64_w, i32_w]; rfl
      rw [HII.out]
      refine pure_ (i := 3) (N := some 24) (v := ?_) (a' := ?_) (bA 12 15) rfl rfl (by kernel_rfl) (fun _ _ _ h => h) (Or.inl ⟨by rfl, ?_⟩) ?_ ?_
      rotate_left; · intro w'; go_simp; with_reducible rfl
      rotate_left; · simp only [Act.put, List.setIfInBounds_toArray, List.set_cons_zero, List.set_cons_succ, i64_w, i32_w]; rfl
      refine pure_ (i := 4) (N := some 25) (v := ?_) (a' := ?_) (bA 12 31) rfl rfl (by kernel_rfl) (fun _ _ _ h => h) (Or.inl ⟨by rfl, ?_⟩) ?_ ?_
      rotate_left; · intro w'; go_simp; with_reducible rfl
      rotate_left; · simp only [Act.put, List.setIfInBounds_toArray, List.set_cons_zero, List.set_cons_succ, i64_w, i32_w]; rfl
      refine pure_ (i := 6) (N := some 27) (v := ?_) (a' := ?_) (bA 12 95) rfl rfl (by kernel_rfl) (fun _ _ _ h => h) (Or.inl ⟨by rfl, ?_⟩) ?_ ?_
      rotate_left; · intro w'; go_simp; with_reducible rfl
      rotate_left; · simp only [Act.put, List.setIfInBounds_toArray, List.set_cons_zero, List.set_cons_succ, i64_w, i32_w]; rfl
      refine pure_ (i := 7) (N := some 28) (v := ?_) (a' := ?_) (bA 12 223) rfl rfl (by kernel_rfl) (fun _ _ _ h => h) (Or.inl ⟨by rfl, ?_⟩) ?_ ?_
      rotate_left; · intro w'; go_simp; with_reducible rfl
      rotate_left; · simp only [Act.put, List.setIfInBounds_toArray, List.set_cons_zero, List.set_cons_succ, i64_w, i32_w]; rfl
      refine pure_ (i := 8) (N := some 29) (v := ?_) (a' := ?_) (bA 12 479) rfl rfl (by kernel_rfl) (fun _ _ _ h => h) (Or.inl ⟨by rfl, ?_⟩) ?_ ?_
      rotate_left; · intro w'; go_simp; with_reducible rfl
      rotate_left; · simp only [Act.put, List.setIfInBounds_toArray, List.set_cons_zero, List.set_cons_succ, i64_w, i32_w]; rfl
      refine pure_ (i := 9) (N := some 30) (v := ?_) (a' := ?_) (bA 12 991) rfl rfl (by kernel_rfl) (fun _ _ _ h => h) (Or.inl ⟨by rfl, ?_⟩) ?_ ?_
      rotate_left; · intro w'; go_simp; with_reducible rfl
      rotate_left; · simp only [Act.put, List.setIfInBounds_toArray, List.set_cons_zero, List.set_cons_succ, i64_w, i32_w]; rfl
      refine take_ (i := 5) (N := some 26) (v := ?_) (a' := ?_) (bA 12 1023) rfl rfl (by kernel_rfl) (fun _ _ _ h => h) (Or.inl ⟨by rfl, ?_⟩) hHeld ?_ ?_
      rotate_left; · rintro w' ⟨s0, s1⟩; go_simp; with_reducible rfl
      rotate_left; · simp only [Act.put, List.setIfInBounds_toArray, List.set_cons_zero, List.set_cons_succ, i64_w, i32_w]; rfl
      refine take_ (i := 10) (N := some 31) (v := ?_) (a' := ?_) (bA 12 2047) rfl rfl (by kernel_rfl) (fun _ _ _ h => h) (Or.inl ⟨by rfl, ?_⟩) hHeld ?_ ?_
      rotate_left; · rintro w' ⟨s0, s1⟩; go_simp; with_reducible rfl
      rotate_left; · simp only [Act.put, List.setIfInBounds_toArray, List.set_cons_zero, List.set_cons_succ, i64_w, i32_w]; rfl
      refine pure_ (i := 11) (N := some 32) (v := ?_) (a' := ?_) (bA 12 4095) rfl rfl (by kernel_rfl) (fun _ _ _ h => h) (Or.inl ⟨by rfl, ?_⟩) ?_ ?_
      rotate_left; · intro w'; go_simp; with_reducible rfl
      rotate_left; · simp only [Act.put, List.setIfInBounds_toArray, List.set_cons_zero, List.set_cons_succ, i64_w, i32_w]; rfl
      refine done_ (by kernel_rfl) ?_
      go_wp2_with fail
      go_roundw
      case rel => exact ⟨j + 1, by omega, by go_num, ⟨HO.out.below ((Below.refl _ _).drew)⟩, ⟨HB.out.drew⟩⟩
      case measure => simp [intOf]; omega
    · have g1 : decide (((j + 1 : Nat) : Int) < (l.length : Int)) = false := decide_eq_false (by omega)
      have g2 : decide ((j : Int) + 1 < (l.length : Int)) = false := decide_eq_false (by omega)
      obtain ⟨F, hF0, hF4⟩ := HO.out
      obtain ⟨pr, z1, z2, hp, hsr, ho1, ho2, hf1, hf2, hap⟩ := hF0.row
      have q0 : wr.cell? ⟨p, 0, none⟩ = some (.pointer (some ⟨pr, 0, none⟩)) := blk_cell hp 0
      have hbl : Below w.heap.size w wr := HBW.out.trans (HB.out.mono HBB.out.2.1)
      have hP := put_calls F pr [] l A ca wr hsr (Kd.C_below HL.out hbl) hlen
      have hps : putS [] l = (l, (l.length : Int), 0) := by
        have h3 : putA [] l = l := putA_ris (by rw [HLL.out]; exact HG.out.ris)
        rw [putS_ok (by rw [HLL.out]; exact HG.out.tick) (by rw [h3]; exact hlen), h3]
        simp
      have HPU := Aside0.mk hP
      have HPS := Aside0.mk hps
      have HPR := Lib.hid (And.intro hF0 (And.intro hp (And.intro hsr (And.intro ho1 (And.intro ho2 (And.intro hf1 (And.intro hf2 (And.intro hap hF4))))))))
      clear hF0 hp hsr ho1 ho2 hf1 hf2 hap hbl hP hps hF4 HO
      go_wp2_with fail
      refine HPU.out.mono ?_
      rintro e w2 ⟨rfl, hs2, hk2⟩
      rw [HPS.out] at hs2 ⊢
      obtain ⟨hF0, hp, hsr, ho1, ho2, hf1, hf2, hap, hF4⟩ := HPR.out
      have hnr := hF0.newraw hp hsr ho1 ho2 hf1 hf2 hap hk2 hs2
      have hst := OwnS.step (B := B) ⟨F, hF0, hF4⟩
      have HS2 := Aside0.mk (show OwnS B p ⟨l, [], [], 0, 0⟩ w2 from ⟨_, hnr.1, fun b hb => by
        have h9 := hnr.2.size
        have h10 : B ≤ wr.heap.size := by rw [HBB.out.1]; exact HB.out.size
        rcases hb with hb | hb
        · have := hF4 b hb; omega
        · omega⟩)
      have HB2 := Aside0.mk (show Below B W w2 from Keep.below_trans HB.out hnr.2 (fun b _ hb => (hF4 b hb).1) (by rw [HBB.out.1]; exact Nat.le_refl _))
      clear hF0 hp hsr ho1 ho2 hf1 hf2 hap hF4 hnr hst hs2 hk2 HPU HPS HPR HB g1 g2 q0
      have t0 : w2.cell? ⟨Q, 0, none⟩ = some (.int .i64 0) := (HB2.out.cell (p := ⟨Q, 0, none⟩) HBB.out.2.2).trans (blk_cell HQW.out 0)
      have t1 : w2.cell? ⟨Q, 1, none⟩ = some (.int .i64 m) := (HB2.out.cell (p := ⟨Q, 1, none⟩) HBB.out.2.2).trans (blk_cell HQW.out 1)
      have HMK := Aside0.mk (tmarkOk_calls 1 m (.inl rfl) HM.out w2)
      have e1 : widthT 1 = 300 := by decide
      rw [e1] at HMK
      clear e1
      obtain ⟨c1, hc1⟩ : ∃ c, c = markB 300 m := ⟨_, rfl⟩
      rw [← hc1] at HMK
      have HC1 := Aside0.mk hc1
      clear hc1 hlt hj
      go_wp2_with fail
      refine HMK.out.mono ?_
      rintro e w3 ⟨rfl, h3⟩
      have HB3 := Aside0.mk (HB2.out.trans (h3.mono (by rw [HBB.out.1]; exact HB2.out.size)))
      have HS3 := Aside0.mk (HS2.out.below h3)
      clear h3 HMK HB2 HS2 t0 t1
      cases c1 with
      | false =>
        have HE := Aside0.mk (show fineB s m = false by unfold fineB; rw [← HC1.out]; rfl)
        go_wp2
        go_ret2
        exact .inr ⟨HE.out, rfl, HBW.out.trans (HB3.out.mono HBB.out.2.1)⟩
      | true =>
        have t2 : w3.cell? ⟨Q, 2, none⟩ = some (.int .i64 s.m2) := (HB3.out.cell (p := ⟨Q, 2, none⟩) HBB.out.2.2).trans (blk_cell HQW.out 2)
        have hmk2 := tmarkOk_calls 2 s.m2 (.inr rfl) (by have := HG.out.low; have := HG.out.le; have := HG.out.up; omega) w3
        rw [show markB (widthT 2) s.m2 = true by
          have h4 := HG.out.low
          have h5 := HG.out.le
          have h6 := HG.out.up
          have h7 := HG.out.d2
          show markB 3600 s.m2 = true
          unfold markB
          rw [decide_eq_true h4, decide_eq_true (show s.m2 ≤ 1099511631376 by omega), decide_eq_true h7]
          rfl] at hmk2
        have HMK := Aside0.mk hmk2
        clear hmk2
        go_wp2_with fail
        refine HMK.out.mono ?_
        rintro e w4 ⟨rfl, h4⟩
        have HB4 := Aside0.mk (HB3.out.trans (h4.mono (by rw [HBB.out.1]; exact HB3.out.size)))
        have HS4 := Aside0.mk (HS3.out.below h4)
        clear h4 HMK HB3 HS3 t2
        have t1 : w4.cell? ⟨Q, 1, none⟩ = some (.int .i64 m) := (HB4.out.cell (p := ⟨Q, 1, none⟩) HBB.out.2.2).trans (blk_cell HQW.out 1)
        have t2 : w4.cell? ⟨Q, 2, none⟩ = some (.int .i64 s.m2) := (HB4.out.cell (p := ⟨Q, 2, none⟩) HBB.out.2.2).trans (blk_cell HQW.out 2)
        by_cases hle : s.m2 ≤ m
        · have k1 : decide (s.m2 > m) = false := decide_eq_false (by omega)
          have k2 : decide (m < s.m2) = false := decide_eq_false (by omega)
          have HLE := Aside0.mk hle
          have hbl : Below w.heap.size w w4 := HBW.out.trans (HB4.out.mono HBB.out.2.1)
          have HAG := Aside0.mk (taggsOk_calls 1 m s.m1 B1 _ s.a1 (.inl rfl) HG.out.g1 w4 (own_kept HO1.out fun b hb => hbl.block b (HO1.out.lt b hb).2))
          obtain ⟨c2, hc2⟩ : ∃ c, c = belowB s.a1 m := ⟨_, rfl⟩
          rw [← hc2] at HAG
          have HC2 := Aside0.mk hc2
          clear hc2 hle hbl
          go_wp2_with fail
          refine HAG.out.mono ?_
          rintro e w5 ⟨rfl, h5⟩
          have HB5 := Aside0.mk (HB4.out.trans (h5.mono (by rw [HBB.out.1]; exact HB4.out.size)))
          have HS5 := Aside0.mk (HS4.out.below h5)
          clear h5 HAG HB4 HS4 t1 t2
          cases c2 with
          | false =>
            have HE := Aside0.mk (show fineB s m = false by unfold fineB; rw [← HC2.out, Bool.and_false])
            go_wp2
            go_ret2
            exact .inr ⟨HE.out, rfl, HBW.out.trans (HB5.out.mono HBB.out.2.1)⟩
          | true =>
            have HE := Aside0.mk (show fineB s m = true by unfold fineB; rw [← HC2.out, ← HC1.out, decide_eq_true HLE.out]; rfl)
            have t2 : w5.cell? ⟨Q, 2, none⟩ = some (.int .i64 s.m2) := (HB5.out.cell (p := ⟨Q, 2, none⟩) HBB.out.2.2).trans (blk_cell HQW.out 2)
            have hbl : Below w.heap.size w w5 := HBW.out.trans (HB5.out.mono HBB.out.2.1)
            have hag := taggsOk_calls 2 s.m2 s.m2 B2 _ s.a2 (.inr rfl) HG.out.g2 w5 (own_kept HO2.out fun b hb => hbl.block b (HO2.out.lt b hb).2)
            rw [show belowB s.a2 s.m2 = true from List.all_eq_true.2 fun x hx => decide_eq_true (HG.out.g2.ok x hx).2.2.2.1] at hag
            have HAG := Aside0.mk hag
            clear hag hbl
            go_wp2_with fail
            refine HAG.out.mono ?_
            rintro e w6 ⟨rfl, h6⟩
            have HB6 := Aside0.mk (HB5.out.trans (h6.mono (by rw [HBB.out.1]; exact HB5.out.size)))
            have HS6 := Aside0.mk (HS5.out.below h6)
            clear h6 HAG HB5 HS5 t2 k1 k2
            have t0 : w6.cell? ⟨Q, 0, none⟩ = some (.int .i64 0) := (HB6.out.cell (p := ⟨Q, 0, none⟩) HBB.out.2.2).trans (blk_cell HQW.out 0)
            have t1 : w6.cell? ⟨Q, 1, none⟩ = some (.int .i64 m) := (HB6.out.cell (p := ⟨Q, 1, none⟩) HBB.out.2.2).trans (blk_cell HQW.out 1)
            have t2 : w6.cell? ⟨Q, 2, none⟩ = some (.int .i64 s.m2) := (HB6.out.cell (p := ⟨Q, 2, none⟩) HBB.out.2.2).trans (blk_cell HQW.out 2)
            obtain ⟨F, hF1, hF4⟩ := HS6.out
            obtain ⟨pr, z1, z2, hp, _⟩ := hF1.row
            have e1 := blk_set hp 4 (.int .i64 0)
            have e2 := blk_set e1 5 (.int .i64 m)
            have y0 : w6.cell? ⟨p, 4, none⟩ = some (.int .i64 0) := blk_cell hp 4
            have x0 : w6.frozen? ⟨p, 4, none⟩ = false := blk_frozen hp 4
            have y1 : (w6.setCell ⟨p, 4, none⟩ (.int .i64 0)).cell? ⟨p, 5, none⟩ = some (.int .i64 0) := blk_cell e1 5
            have x1 : (w6.setCell ⟨p, 4, none⟩ (.int .i64 0)).frozen? ⟨p, 5, none⟩ = false := blk_frozen e1 5
            have y2 : ((w6.setCell ⟨p, 4, none⟩ (.int .i64 0)).setCell ⟨p, 5, none⟩ (.int .i64 m)).cell? ⟨p, 6, none⟩ = some (.int .i64 0) := blk_cell e2 6
            have x2 : ((w6.setCell ⟨p, 4, none⟩ (.int .i64 0)).setCell ⟨p, 5, none⟩ (.int .i64 m)).frozen? ⟨p, 6, none⟩ = false := blk_frozen e2 6
            have hpB : B ≤ p := (hF4 p hF1.own).1
            obtain ⟨Z, hZ⟩ : ∃ Z, Z = ((w6.setCell ⟨p, 4, none⟩ (.int .i64 0)).setCell ⟨p, 5, none⟩ (.int .i64 m)).setCell ⟨p, 6, none⟩ (.int .i64 s.m2) := ⟨_, rfl⟩
            have hZs : Z.heap.size = w6.heap.size := by rw [hZ]; simp [World.setCell]
            have HFZ := Lib.hid (show IsStk F p ⟨l, [], [], m, s.m2⟩ Z ∧ (∀ b, F b → B ≤ b ∧ b < Z.heap.size) by
              rw [hZs]
              rw [hZ]
              exact ⟨(hF1.mark0.mark1 m).mark2 s.m2, hF4⟩)
            have HBZ := Aside0.mk (show Below B W Z by
              rw [hZ]
              exact ((HB6.out.setCell (p := ⟨p, 4, none⟩) hpB _).setCell (p := ⟨p, 5, none⟩) hpB _).setCell (p := ⟨p, 6, none⟩) hpB _)
            have HPB := Aside0.mk hpB
            clear e1 e2 hF1 hF4 hp hpB hZs HS6 HB6
            go_upto_region 15 with (fail)
            rw [← hZ]
            clear hZ t0 t1 t2 y0 x0 y1 x1 y2 x2
            have hbl : Below w.heap.size w Z.drew := (HBW.out.trans (HBZ.out.mono HBB.out.2.1)).drew
            have HCL := Aside0.mk (clone31_calls B1 _ s.a1 Z.drew (own_kept HO1.out fun b hb => hbl.block b (HO1.out.lt b hb).2) (by have := HG.out.g1.len; omega))
            have hq : True := trivial
            clear hbl
            go_wp2_with fail
            refine start_ (n := 14) (S := fun w' => True) (ds := []) (bA 14 0) (by kernel_rfl) rfl (by kernel_rfl) trivial (fun hHeld => ?_)
            refine pure_ (i := 0) (N := some 82) (v := ?_) (a' := ?_) (bA 14 1) rfl rfl (by kernel_rfl) (fun _ _ _ h => h) (Or.inl ⟨by rfl, ?_⟩) ?_ ?_
            rotate_left; · intro w'; go_simp; with_reducible rfl
            rotate_left; · simp only [Act.put, List.setIfInBounds_toArray, List.set_cons_zero, List.set_cons_succ, i64_w, i32_w]; rfl
            refine pure_ (i := 1) (N := some 83) (v := ?_) (a' := ?_) (bA 14 3) rfl rfl (by kernel_rfl) (fun _ _ _ h => h) (Or.inl ⟨by rfl, ?_⟩) ?_ ?_
            rotate_left; · intro w'; go_simp; with_reducible rfl
            rotate_left; · simp only [Act.put, List.setIfInBounds_toArray, List.set_cons_zero, List.set_cons_succ, i64_w, i32_w]; rfl
            refine pure_ (i := 2) (N := some 84) (v := ?_) (a' := ?_) (bA 14 7) rfl rfl (by kernel_rfl) (fun _ _ _ h => h) (Or.inl ⟨by rfl, ?_⟩) ?_ ?_
            rotate_left; · intro w'; go_simp; with_reducible rfl
            rotate_left; · simp only [Act.put, List.setIfInBounds_toArray, List.set_cons_zero, List.set_cons_succ, i64_w, i32_w]; rfl
            refine pure_ (i := 4) (N := some 86) (v := ?_) (a' := ?_) (bA 14 23) rfl rfl (by kernel_rfl) (fun _ _ _ h => h) (Or.inl ⟨by rfl, ?_⟩) ?_ ?_
            rotate_left; · intro w'; go_simp; with_reducible rfl
            rotate_left; · simp only [Act.put, List.setIfInBounds_toArray, List.set_cons_zero, List.set_cons_succ, i64_w, i32_w]; rfl
            refine pure_ (i := 6) (N := some 88) (v := ?_) (a' := ?_) (bA 14 87) rfl rfl (by kernel_rfl) (fun _ _ _ h => h) (Or.inl ⟨by rfl, ?_⟩) ?_ ?_
            rotate_left; · intro w'; go_simp; with_reducible rfl
            rotate_left; · simp only [Act.put, List.setIfInBounds_toArray, List.set_cons_zero, List.set_cons_succ, i64_w, i32_w]; rfl
            refine pure_ (i := 7) (N := some 89) (v := ?_) (a' := ?_) (bA 14 215) rfl rfl (by kernel_rfl) (fun _ _ _ h => h) (Or.inl ⟨by rfl, ?_⟩) ?_ ?_
            rotate_left; · intro w'; go_simp; with_reducible rfl
            rotate_left; · simp only [Act.put, List.setIfInBounds_toArray, List.set_cons_zero, List.set_cons_succ, i64_w, i32_w]; rfl
            refine pure_ (i := 10) (N := some 91) (v := ?_) (a' := ?_) (bA 14 1239) rfl rfl (by kernel_rfl) (fun _ _ _ h => h) (Or.inl ⟨by rfl, ?_⟩) ?_ ?_
            rotate_left; · intro w'; go_simp; with_reducible rfl
            rotate_left; · simp only [Act.put, List.setIfInBounds_toArray, List.set_cons_zero, List.set_cons_succ, i64_w, i32_w]; rfl
            refine pure_ (i := 11) (N := some 92) (v := ?_) (a' := ?_) (bA 14 3287) rfl rfl (by kernel_rfl) (fun _ _ _ h => h) (Or.inl ⟨by rfl, ?_⟩) ?_ ?_
            rotate_left; · intro w'; go_simp; with_reducible rfl
            rotate_left; · simp only [Act.put, List.setIfInBounds_toArray, List.set_cons_zero, List.set_cons_succ, i64_w, i32_w]; rfl
            refine one_ (i := 3) (N := some 85) (bA 14 3295) rfl rfl (by kernel_rfl) (by decide) (fun K hK => ?_)
            refine goes_ Try.func75 (by kernel_rfl) rfl #[.slice A1 s.a1.length ca1] (by rfl) rfl rfl (by simp only [List.map_toArray, List.map_cons, List.map_nil]; rfl) ?_
            with_reducible refine (HCL.out).mono ?_
            rintro e w8 hh
            obtain ⟨u1, rfl, ho8, h8⟩ := hh
            have HK8 := Aside0.mk (show Below Z.heap.size Z w8 from ((Below.refl _ _).drew).trans h8)
            have HU1 := Aside0.mk (show w8.ownsRow Z.heap.size 31 5 u1 s.a1.length (s.a1.flatMap aggP) from ho8)
            have hbl : Below w.heap.size w w8 := HBW.out.trans ((HBZ.out.trans (HK8.out.mono (by rw [HBB.out.1]; exact HBZ.out.size))).mono HBB.out.2.1)
            have HCL2 := Aside0.mk (clone31_calls B2 _ s.a2 w8 (own_kept HO2.out fun b hb => hbl.block b (HO2.out.lt b hb).2) (by have := HG.out.g2.len; omega))
            clear ho8 h8 hbl HCL
            refine ⟨_, rfl, ?_⟩
            refine hK.out _ _ trivial (fun hHeld => ?_)
            clear hK K
            refine norm_ (a' := ?_) ?_ ?_
            rotate_left; · show Act.put _ (some 85) _ = _; simp only [Act.put, List.setIfInBounds_toArray, List.set_cons_zero, List.set_cons_succ, i64_w, i32_w]; rfl
            refine one_ (i := 5) (N := some 87) (bA 14 3327) rfl rfl (by kernel_rfl) (by decide) (fun K hK => ?_)
            refine goes_ Try.func75 (by kernel_rfl) rfl #[.slice A2 s.a2.length ca2] (by rfl) rfl rfl (by simp only [List.map_toArray, List.map_cons, List.map_nil]; rfl) ?_
            with_reducible refine (HCL2.out).mono ?_
            rintro e w9 hh
            obtain ⟨u2, rfl, ho9, h9⟩ := hh
            have HK9 := Aside0.mk (HK8.out.trans (h9.mono HK8.out.size))
            have HU2 := Aside0.mk (show w9.ownsRow w8.heap.size 31 5 u2 s.a2.length (s.a2.flatMap aggP) from ho9)
            have HU1b := Aside0.mk (own_kept (w' := w9) HU1.out fun b hb => h9.block b (HU1.out.lt b hb).2)
            have HUL := Lib.hid (fun g hg => (HU1.out.lt g hg).2)
            obtain ⟨C1, d1, rfl⟩ := row_form HU1.out
            obtain ⟨C2, d2, rfl⟩ := row_form HU2.out
            have hsz : Z.heap.size ≤ w9.heap.size := HK9.out.size
            have hfz := HFZ.out
            have hst9 := hfz.1.below HK9.out
            have hlay := hst9.lay12 (fun b hb => (hfz.2 b hb).2) HK8.out.size HU1b.out HUL.out HU2.out HG.out.g1.len HG.out.g2.len
            have HFN := Aside0.mk (show OwnS B p { s with m1 := m } ((w9.setCell ⟨p, 2, none⟩ (.slice C1 s.a1.length d1)).setCell ⟨p, 3, none⟩ (.slice C2 s.a2.length d2)) ∧ Below B W ((w9.setCell ⟨p, 2, none⟩ (.slice C1 s.a1.length d1)).setCell ⟨p, 3, none⟩ (.slice C2 s.a2.length d2)) by
              refine ⟨⟨_, (show IsStk _ p { s with m1 := m } _ by have h := hlay; rw [HLL.out] at h; exact h), fun b hb => ?_⟩, ((HBZ.out.trans (HK9.out.mono (by rw [HBB.out.1]; exact HBZ.out.size))).setCell (p := ⟨p, 2, none⟩) HPB.out _).setCell (p := ⟨p, 3, none⟩) HPB.out _⟩
              have h10 : ((w9.setCell ⟨p, 2, none⟩ (.slice C1 s.a1.length d1)).setCell ⟨p, 3, none⟩ (.slice C2 s.a2.length d2)).heap.size = w9.heap.size := by simp [World.setCell]
              rw [h10]
              have h11 : B ≤ Z.heap.size := by rw [HBB.out.1]; exact HBZ.out.size
              rcases hb with hb | hb
              · have := hfz.2 b hb; omega
              · omega)
            obtain ⟨pr, z1, z2, hp, _⟩ := hst9.row
            have e1 := blk_set hp 2 (.slice C1 s.a1.length d1)
            have HP9 := Aside0.mk hp
            have HE1 := Aside0.mk e1
            clear ho9 h9 hfz hst9 hlay hp e1 hsz HCL2 HK8 HK9 HU1 HU2 HU1b HUL HFZ HBZ
            refine ⟨_, rfl, ?_⟩
            refine hK.out _ _ trivial (fun hHeld => ?_)
            clear hK K
            refine norm_ (a' := ?_) ?_ ?_
            rotate_left; · show Act.put _ (some 87) _ = _; simp only [Act.put, List.setIfInBounds_toArray, List.set_cons_zero, List.set_cons_succ, i64_w, i32_w]; rfl
            refine pure_ (i := 8) (N := some 90) (v := ?_) (a' := ?_) (bA 14 3583) rfl rfl (by kernel_rfl) (fun _ _ _ h => h) (Or.inl ⟨by rfl, ?_⟩) ?_ ?_
            rotate_left; · intro w'; go_simp; with_reducible rfl
            rotate_left; · simp only [Act.put, List.setIfInBounds_toArray, List.set_cons_zero, List.set_cons_succ, i64_w, i32_w]; rfl
            refine one_ (i := 9) (N := none) (bA 14 4095) rfl rfl (by kernel_rfl) (by decide) (fun K hK => ?_)
            have y0 : _ = some z1 := blk_cell HP9.out 2
            have x0 := blk_frozen HP9.out 2
            refine skip_ (w1 := ?_) (by rfl) rfl ?_ ?_
            rotate_left
            · go_simp
              rfl
            clear x0 y0
            refine hK.out _ _ trivial (fun hHeld => ?_)
            clear hK K
            refine pure_ (i := 12) (N := some 93) (v := ?_) (a' := ?_) (bA 14 8191) rfl rfl (by kernel_rfl) (fun _ _ _ h => h) (Or.inl ⟨by rfl, ?_⟩) ?_ ?_
            rotate_left; · intro w'; go_simp; with_reducible rfl
            rotate_left; · simp only [Act.put, List.setIfInBounds_toArray, List.set_cons_zero, List.set_cons_succ, i64_w, i32_w]; rfl
            refine one_ (i := 13) (N := none) (bA 14 16383) rfl rfl (by kernel_rfl) (by decide) (fun K hK => ?_)
            have y0 : _ = some z2 := blk_cell HE1.out 3
            have x0 := blk_frozen HE1.out 3
            refine skip_ (w1 := ?_) (by rfl) rfl ?_ ?_
            rotate_left
            · go_simp
              rfl
            clear x0 y0
            refine hK.out _ _ trivial (fun hHeld => ?_)
            clear hK K
            refine done_ (by kernel_rfl) ?_
            have hf := HFN.out
            go_wp2
            go_ret2
            exact .inl ⟨HE.out, p, rfl, hf.1.mono' HBB.out.2.1, HBW.out.trans (hf.2.mono HBB.out.2.1)⟩
        · have k1 : decide (s.m2 > m) = true := decide_eq_true (by omega)
          have k2 : decide (m < s.m2) = true := decide_eq_true (by omega)
          have HE := Aside0.mk (show fineB s m = false by unfold fineB; rw [decide_eq_false hle, Bool.and_false, Bool.false_and])
          clear hle
          go_wp2
          go_ret2
          exact .inr ⟨HE.out, rfl, HBW.out.trans (HB4.out.mono HBB.out.2.1)⟩
end Go.Proofs.Ytnjdngjlbonieaa
