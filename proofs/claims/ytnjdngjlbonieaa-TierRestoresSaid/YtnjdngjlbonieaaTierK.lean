/- Rows compared; catacomblaw16.lives; walked. -/
import Derived.Test.YtnjdngjlbonieaaTierI
import Derived.Lib.Hide
import Derived.LoopTactic
import Derived.Outline
import Derived.Laws.Rows
import Derived.Laws.CopyOwn
import Derived.WalkKit
set_option linter.unusedVariables false
set_option linter.unusedSimpArgs false
namespace Go.Proofs.Ytnjdngjlbonieaa
open Go.RowKit Go.Proofs.YtnjdngjlbonieaaW.PrintWords Go.Proofs.YtnjdngjlbonieaaW.PrintLast Go.Proofs.YtnjdngjlbonieaaW.PrintMore
open Go.Proofs.Ytnjdngjlbonieaa.PTierForgets
attribute [local go_sem] max2_int min2_int max_two min_two max_three min_three max_four min_four

set_option maxRecDepth 100000 in
set_option maxHeartbeats 8000000 in
theorem samePoints_true (A A2 : Option Addr) (ca ca2 : Nat) (l : List S29) (w : World) (h : Kd.C k29 w A l.length l) (h2 : Kd.C k29 w A2 l.length l) (hl : l.length ≤ 1000) :
    Calls Try.prog 44 #[.slice A l.length ca, .slice A2 l.length ca2] w fun e w' => e = .returned (.bool true) ∧ Below w.heap.size w w' := by
  have HL := Aside0.mk h
  have HL2 := Aside0.mk h2
  have hu29 := Try.underlying29
  have e1 : ((l.length : Int) != (l.length : Int)) = false := by simp
  have e2 : (l.length != l.length) = false := by simp
  clear h h2
  go_enter Try.func44, Try.ntmps44
  go_wp2_with fail
  go_loopw [13] (fun v13 wr => ∃ j : Nat, j ≤ l.length ∧ v13 = .int .i64 (j : Int) ∧ Aside0 (Below w.heap.size w wr)) (fun v _ => l.length - (intOf v).toNat)
  case atStart => exact ⟨0, by omega, rfl, ⟨Below.refl _ _⟩⟩
  case round =>
    obtain ⟨j, hj, rfl, HB⟩ := hrel
    by_cases hlt : j < l.length
    · obtain ⟨ad, hAe, hcell⟩ := cells29 HL.out (by omega)
      obtain ⟨ad2, hAe2, hcell2⟩ := cells29 HL2.out (by omega)
      subst hAe
      subst hAe2
      obtain ⟨x, hx⟩ : ∃ x, l[j]? = some x := ⟨_, List.getElem?_eq_getElem hlt⟩
      have hcx := hcell j x hx
      have hcx2 := hcell2 j x hx
      have u0 : wr.cell? (ad.add (j * 2)) = some (.int .i64 x.f0) := by rw [HB.out.cell (World.block_lt_of_cell? w _ hcx.1)]; exact hcx.1
      have u1 : wr.cell? ⟨(ad.add (j * 2)).block, (ad.add (j * 2)).off + 1, none⟩ = some (.int .i64 x.f1) := by rw [HB.out.cell (World.block_lt_of_cell? w _ hcx.2)]; exact hcx.2
      have v0 : wr.cell? (ad2.add (j * 2)) = some (.int .i64 x.f0) := by rw [HB.out.cell (World.block_lt_of_cell? w _ hcx2.1)]; exact hcx2.1
      have v1 : wr.cell? ⟨(ad2.add (j * 2)).block, (ad2.add (j * 2)).off + 1, none⟩ = some (.int .i64 x.f1) := by rw [HB.out.cell (World.block_lt_of_cell? w _ hcx2.2)]; exact hcx2.2
      have hjl : (j : Int) < (l.length : Int) := by omega
      clear hcell hx hcx hcell2 hcx2
      go_wp2_with fail
      go_quiet (fail)
      go_wp2_with fail
      go_roundw
      case rel => exact ⟨j + 1, by omega, rfl, ⟨pw_below_drewN HB.out _⟩⟩
      case measure => simp [intOf]; omega
    · go_wp2
      go_ret
      exact ⟨rfl, HB.out⟩
set_option maxRecDepth 100000 in
set_option maxHeartbeats 8000000 in
theorem sameAggs_true (B B2 : Nat) (v v' : Value) (l : List S31) (w : World) (h : w.ownsRow B 31 5 v l.length (l.flatMap aggP)) (h2 : w.ownsRow B2 31 5 v' l.length (l.flatMap aggP)) (hl : l.length ≤ 1000) :
    Calls Try.prog 34 #[v, v'] w fun e w' => e = .returned (.bool true) ∧ Below w.heap.size w w' := by
  obtain ⟨A, ca, rfl⟩ := row_form h
  obtain ⟨A2, ca2, rfl⟩ := row_form h2
  have HL := Aside0.mk h
  have HL2 := Aside0.mk h2
  have hu31 := Try.underlying31
  have e1 : ((l.length : Int) != (l.length : Int)) = false := by simp
  have e2 : (l.length != l.length) = false := by simp
  clear h h2
  go_enter Try.func34, Try.ntmps34
  go_wp2_with fail
  go_loopw [13] (fun v13 wr => ∃ j : Nat, j ≤ l.length ∧ v13 = .int .i64 (j : Int) ∧ Aside0 (Below w.heap.size w wr)) (fun v _ => l.length - (intOf v).toNat)
  case atStart => exact ⟨0, by omega, rfl, ⟨Below.refl _ _⟩⟩
  case round =>
    obtain ⟨j, hj, rfl, HB⟩ := hrel
    by_cases hlt : j < l.length
    · obtain ⟨g, cg, cur, hvg, hgb, _⟩ := row_pos HL.out (by omega)
      injection hvg with hA _ hcg
      subst hA
      clear hcg hgb
      obtain ⟨g2, cg2, cur2, hvg2, hgb2, _⟩ := row_pos HL2.out (by omega)
      injection hvg2 with hA2 _ hcg2
      subst hA2
      clear hcg2 hgb2
      obtain ⟨x, hx⟩ : ∃ x, l[j]? = some x := ⟨_, List.getElem?_eq_getElem hlt⟩
      obtain ⟨c0, c1, c2, c3, c4⟩ := row31_at HL.out hx
      obtain ⟨b0, b1, b2, b3, b4⟩ := row31_at HL2.out hx
      have u0 := bread HB.out c0
      have u1 := bread HB.out c1
      have u2 := bread HB.out c2
      have u3 := bread HB.out c3
      have u4 := bread HB.out c4
      have v0 := bread HB.out b0
      have v1 := bread HB.out b1
      have v2 := bread HB.out b2
      have v3 := bread HB.out b3
      have v4 := bread HB.out b4
      have hjl : (j : Int) < (l.length : Int) := by omega
      clear hx c0 c1 c2 c3 c4 b0 b1 b2 b3 b4
      go_wp2_with fail
      go_quiet (fail)
      go_wp2_with fail
      go_roundw
      case rel => exact ⟨j + 1, by omega, rfl, ⟨pw_below_drewN HB.out _⟩⟩
      case measure => simp [intOf]; omega
    · go_wp2
      go_ret
      exact ⟨rfl, HB.out⟩
/-- A stock of the call's own: all of it lies behind the block B. -/
def OwnS (B p : Nat) (s : Stk) (w : World) : Prop := ∃ F, IsStk F p s w ∧ (∀ b, F b → B ≤ b ∧ b < w.heap.size)
theorem OwnS.step {B p : Nat} {s : Stk} {w : World} (h : OwnS B p s w) : ∃ F, IsStk F p s w ∧ (∀ b, F b → b < w.heap.size) ∧ ∀ s' w', B ≤ w.heap.size → IsStk (More F w w') p s' w' → Keep F w w' → OwnS B p s' w' ∧ ∀ w0, Below B w0 w → B ≤ w0.heap.size → Below B w0 w' := by
  obtain ⟨F, h1, h2⟩ := h
  refine ⟨F, h1, fun b hb => (h2 b hb).2, fun s' w' hB h3 h4 => ⟨⟨_, h3, fun b hb => ?_⟩, fun w0 hb hB0 => Keep.below_trans hb h4 (fun b _ hF => (h2 b hF).1) hB0⟩⟩
  have := h4.size
  rcases hb with hb | hb
  · have := h2 b hb; omega
  · omega
theorem OwnS.below {B p : Nat} {s : Stk} {w w' : World} (h : OwnS B p s w) (hk : Below w.heap.size w w') : OwnS B p s w' := by
  obtain ⟨F, h1, h2⟩ := h
  have := hk.size
  exact ⟨F, h1.below hk, fun b hb => by have := h2 b hb; omega⟩
theorem OwnS.new {B p : Nat} {s : Stk} {w w' : World} (h : IsStk (fun b => w.heap.size ≤ b ∧ b < w'.heap.size) p s w') (hB : B ≤ w.heap.size) : OwnS B p s w' := ⟨_, h, fun b hb => by omega⟩
/-- Two stocks of the call's own, apart. -/
def Two (B p q : Nat) (s t : Stk) (w : World) : Prop := ∃ F G, IsStk F p s w ∧ IsStk G q t w ∧ (∀ b, F b → B ≤ b ∧ b < w.heap.size) ∧ (∀ b, G b → B ≤ b ∧ b < w.heap.size) ∧ ∀ b, F b → ¬ G b
section
variable {B p q : Nat} {s t : Stk} {w w' : World}
theorem Two.swap (h : Two B p q s t w) : Two B q p t s w := by
  obtain ⟨F, G, h1, h2, h3, h4, h5⟩ := h
  exact ⟨G, F, h2, h1, h4, h3, fun b hG hF => h5 b hF hG⟩
theorem Two.fst (h : Two B p q s t w) : OwnS B p s w := by
  obtain ⟨F, G, h1, h2, h3, h4, h5⟩ := h
  exact ⟨F, h1, h3⟩
theorem Two.below (h : Two B p q s t w) (hk : Below w.heap.size w w') : Two B p q s t w' := by
  obtain ⟨F, G, h1, h2, h3, h4, h5⟩ := h
  have := hk.size
  exact ⟨F, G, h1.below hk, h2.below hk, fun b hb => by have := h3 b hb; omega, fun b hb => by have := h4 b hb; omega, h5⟩
theorem Two.step (h : Two B p q s t w) : ∃ F, IsStk F p s w ∧ (∀ b, F b → b < w.heap.size) ∧ ∀ s' w', B ≤ w.heap.size → IsStk (More F w w') p s' w' → Keep F w w' → Two B p q s' t w' ∧ ∀ w0, Below B w0 w → B ≤ w0.heap.size → Below B w0 w' := by
  obtain ⟨F, G, h1, h2, h3, h4, h5⟩ := h
  refine ⟨F, h1, fun b hb => (h3 b hb).2, fun s' w' hB h6 h7 => ⟨⟨_, G, h6, h2.keep h7 (fun b hg hf => h5 b hf hg), fun b hb => ?_, fun b hb => ?_, fun b hb hg => ?_⟩, fun w0 hb hB0 => Keep.below_trans hb h7 (fun b _ hF => (h3 b hF).1) hB0⟩⟩
  · have := h7.size
    rcases hb with hb | hb
    · have := h3 b hb; omega
    · omega
  · have := h7.size
    have := h4 b hb
    omega
  · rcases hb with hb | hb
    · exact h5 b hb hg
    · have := h4 b hg; omega
theorem Two.new (h : OwnS B p s w) (h2 : IsStk (fun b => w.heap.size ≤ b ∧ b < w'.heap.size) q t w') (hk : Below w.heap.size w w') (hB : B ≤ w.heap.size) : Two B p q s t w' := by
  obtain ⟨F, h3, h4⟩ := h
  have := hk.size
  exact ⟨F, _, h3.below hk, h2, fun b hb => by have := h4 b hb; omega, fun b hb => by omega, fun b hb hg => by have := h4 b hb; omega⟩
end
def lv1 : Stk := ⟨[⟨10, 1⟩, ⟨20, 2⟩], [], [], 0, 0⟩
def lv2 : Stk := ⟨[⟨10, 1⟩, ⟨20, 2⟩], [⟨0, 2, 3, 1, 2⟩], [], 300, 0⟩
theorem lv_put : putT newS [⟨10, 1⟩, ⟨20, 2⟩] = (lv1, 2, 0) := by kernel_rfl
theorem lv_roll : rollT lv1 300 = (lv2, 1, 0) := by kernel_rfl
theorem lv_put2 : putT lv2 [⟨30, 0⟩] = (lv2, 0, 14) := by kernel_rfl
theorem lv_aggs : aggR 300 0 1 lv2.a1 = [⟨0, 2, 3, 1, 2⟩] := by kernel_rfl
theorem lv_good : GoodT lv1 := rawS_good (R := [⟨10, 1⟩, ⟨20, 2⟩]) (by unfold Ris; decide) (by unfold TickOk; decide) (by decide)
theorem lv_tk : Tk lv2.a1 := by unfold Tk; decide
set_option maxRecDepth 100000 in
set_option maxHeartbeats 8000000 in
theorem lives16_calls (w : World) : Calls Try.prog 30 #[] w fun e w' => e = .returned (.bool true) ∧ Below w.heap.size w w' := by
  have hu29 := Try.underlying29
  have hu31 := Try.underlying31
  have hu42 := Try.underlying42
  go_enter Try.func30, Try.ntmps30
  go_wp2_with fail
  refine (tnew_calls w).mono ?_
  rintro e w1 ⟨p, rfl, hs, hb⟩
  have HB1 := Aside0.mk hb
  have HO1 := Aside0.mk (OwnS.new hs (Nat.le_refl w.heap.size))
  clear hs hb
  obtain ⟨W1, hW1⟩ : ∃ W, W = w1.alloc (.cells #[.int .i64 10, .int .i64 1, .int .i64 20, .int .i64 2] 29) := ⟨_, rfl⟩
  have HBW := Aside0.mk (show Below w.heap.size w W1 by rw [hW1]; exact HB1.out.alloc HB1.out.size _)
  have HOW := Aside0.mk (show OwnS w.heap.size p newS W1 by rw [hW1]; exact HO1.out.below ((Below.refl _ _).alloc (Nat.le_refl _) _))
  have HLC := Aside0.mk (show Kd.C k29 W1 (some ⟨w1.heap.size, 0, none⟩) 2 [⟨10, 1⟩, ⟨20, 2⟩] by rw [hW1]; exact lit_C w1 [⟨10, 1⟩, ⟨20, 2⟩] (by decide))
  clear HB1 HO1
  go_wp2_with fail
  rw [← hW1]
  clear hW1
  obtain ⟨F, hF1, hF2, hF3⟩ := HOW.out.step
  refine (tput_calls F p newS [⟨10, 1⟩, ⟨20, 2⟩] (some ⟨w1.heap.size, 0, none⟩) 2 W1 hF1 HLC.out (by decide)).mono ?_
  rintro e w2 ⟨rfl, hs, hk⟩
  rw [lv_put] at hs ⊢
  have hh := hF3 _ _ HBW.out.size hs hk
  have HO2 := Aside0.mk hh.1
  have HB2 := Aside0.mk (hh.2 w HBW.out (Nat.le_refl _))
  clear hF1 hF2 hF3 hs hk hh HOW HBW HLC
  go_wp2_with fail
  obtain ⟨F, hF1, hF2, hF3⟩ := HO2.out.step
  refine (troll_calls F p lv1 300 w2 hF1 hF2 lv_good (by decide) (by decide)).mono ?_
  rintro e w3 ⟨rfl, hs, hk⟩
  rw [lv_roll] at hs ⊢
  have hh := hF3 _ _ HB2.out.size hs hk
  have HO3 := Aside0.mk hh.1
  have HB3 := Aside0.mk (hh.2 w HB2.out (Nat.le_refl _))
  clear hF1 hF2 hF3 hs hk hh HO2 HB2
  obtain ⟨W3, hW3⟩ : ∃ W, W = w3.alloc (.cells #[.int .i64 30, .int .i64 0] 29) := ⟨_, rfl⟩
  have HBW := Aside0.mk (show Below w.heap.size w W3 by rw [hW3]; exact HB3.out.alloc HB3.out.size _)
  have HOW := Aside0.mk (show OwnS w.heap.size p lv2 W3 by rw [hW3]; exact HO3.out.below ((Below.refl _ _).alloc (Nat.le_refl _) _))
  have HLC := Aside0.mk (show Kd.C k29 W3 (some ⟨w3.heap.size, 0, none⟩) 1 [⟨30, 0⟩] by rw [hW3]; exact lit_C w3 [⟨30, 0⟩] (by decide))
  clear HB3 HO3
  go_wp2_with fail
  rw [← hW3]
  clear hW3
  obtain ⟨F, hF1, hF2, hF3⟩ := HOW.out.step
  refine (tput_calls F p lv2 [⟨30, 0⟩] (some ⟨w3.heap.size, 0, none⟩) 1 W3 hF1 HLC.out (by decide)).mono ?_
  rintro e w4 ⟨rfl, hs, hk⟩
  rw [lv_put2] at hs ⊢
  have hh := hF3 _ _ HBW.out.size hs hk
  have HO4 := Aside0.mk hh.1
  have HB4 := Aside0.mk (hh.2 w HBW.out (Nat.le_refl _))
  clear hF1 hF2 hF3 hs hk hh HOW HBW HLC
  go_wp2_with fail
  obtain ⟨F, hF1, hF2⟩ := HO4.out
  refine (taggs1_calls F p lv2 0 1 w4 hF1 lv_tk).mono ?_
  rintro e w5 ⟨v, rfl, ho, h5⟩
  rw [lv_aggs] at ho
  obtain ⟨g, ca, cur, hv, _⟩ := row_pos ho (by decide)
  subst hv
  have u0 : w5.cell? ⟨g, 2, none⟩ = some (.int .i64 3) := (row31_at (j := 0) ho rfl).2.2.1
  have HB5 := Aside0.mk (HB4.out.trans (h5.mono HB4.out.size))
  clear hF1 hF2 ho h5 HO4 HB4
  go_wp2
  go_ret
  exact ⟨rfl, HB5.out⟩
end Go.Proofs.Ytnjdngjlbonieaa
