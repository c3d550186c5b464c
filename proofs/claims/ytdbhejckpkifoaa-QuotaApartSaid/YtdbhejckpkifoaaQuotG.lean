/- quota: the law's own run of an act, and the chapter's example, walked. -/
import Derived.Test.YtdbhejckpkifoaaQuotF
import Derived.Lib.Hide
import Derived.LoopTactic
import Derived.Outline
import Derived.Laws.Rows
import Derived.Laws.CopyOwn
import Derived.WalkKit
set_option linter.unusedVariables false
set_option linter.unusedSimpArgs false
namespace Go.Proofs.Ytdbhejckpkifoaa
open Go.RowKit Go.Proofs.YtdbhejckpkifoaaW.PrintWords Go.Proofs.YtdbhejckpkifoaaW.PrintLast Go.Proofs.YtdbhejckpkifoaaW.PrintMore
open Go.Proofs.Ytdbhejckpkifoaa.PSlotsBack
attribute [local go_sem] max2_int min2_int max_two min_two max_three min_three max_four min_four

def runM (nb : Bool) (cap : Int) (M : Mdl) (k : Int) (s : ByteArray) (by_ se : Int) : Int × Mdl :=
  if k = 0 then openM nb cap M s by_ se else if k = 1 then changeM cap M s by_ se else if k = 2 then closeM M s else if k = 3 ∨ k = 4 then useM M s by_ se else freeM M s by_ se
theorem runM_good {nb : Bool} {cap : Int} {M : Mdl} {k : Int} {s : ByteArray} {by_ se : Int} (h : GoodM cap M) (hs : s.size ≤ 1000) : GoodM cap (runM nb cap M k s by_ se).2 := by
  unfold runM
  split
  · exact openM_good h hs
  · split
    · exact changeM_good h
    · split
      · exact closeM_good h
      · split
        · exact useM_good h
        · exact freeM_good h
theorem QPost.start {p b : Nat} {cap : Int} {w w1 w' : World} {x : Int × Mdl} {e : Ending} (hb : Below w.heap.size w w1) (hlt : b < w.heap.size) (h : QPost p b cap w1 x e w') : QPost p b cap w x e w' :=
  ⟨h.1, h.2.1, (keepb hb).trans h.2.2 (fun _ _ h => h)⟩
set_option maxRecDepth 100000 in
set_option maxHeartbeats 16000000 in
theorem qrun_calls (p b : Nat) (cap : Int) (M : Mdl) (k : Int) (s : ByteArray) (hs : s.size ≤ 1000) (by_ se : Int) (hby : -9223372036854775808 ≤ by_ ∧ by_ ≤ 9223372036854775807) (hse : -9223372036854775808 ≤ se ∧ se ≤ 9223372036854775807) (nb : Bool) (hnr : name_Right.f 1100 s = some nb) (w : World) (h : IsLed p b cap M w) (hG : GoodM cap M) :
    Calls Try.prog 24 #[.pointer (some ⟨p, 0, none⟩), .agg #[.int .i64 k, .string s, .int .i64 by_, .int .i64 se]] w (QPost p b cap w (runM nb cap M k s by_ se)) := by
  have HB := Aside0.mk (show Below w.heap.size w (w.alloc (.cells #[.int .i64 k, .string s, .int .i64 by_, .int .i64 se] 61)) from (Below.refl _ _).alloc (Nat.le_refl _) _)
  have HH := Aside0.mk (h.below HB.out)
  have HBL := Aside0.mk h.blt
  have HC0 := Lib.hid (fun W (h : IsLed p b cap M W) => qopen_calls p b cap M s hs by_ se nb 1100 hnr W h hG)
  have HC1 := Lib.hid (fun W (h : IsLed p b cap M W) => qchange_calls p b cap M s hs by_ se hby hse W h hG)
  have HC2 := Lib.hid (fun W (h : IsLed p b cap M W) => qclose_calls p b cap M s hs W h hG)
  have HC3 := Lib.hid (fun W (h : IsLed p b cap M W) => quse_calls p b cap M s hs by_ se hby hse W h hG)
  have HC5 := Lib.hid (fun W (h : IsLed p b cap M W) => qfree_calls p b cap M s hs by_ se hby hse W h hG)
  have hrun : runM nb cap M k s by_ se = if k = 0 then openM nb cap M s by_ se else if k = 1 then changeM cap M s by_ se else if k = 2 then closeM M s else if k = 3 ∨ k = 4 then useM M s by_ se else freeM M s by_ se := rfl
  rw [hrun]
  clear h hG hnr hs hby hse hrun
  by_cases h0 : k = 0
  · rw [if_pos h0]
    have e0 : (k == 0) = true := beq_iff_eq.2 h0
    clear h0
    go_enter Try.func24, Try.ntmps24
    go_wp2_with fail
    refine (HC0.out _ HH.out).mono ?_
    rintro e w2 h2
    have HQ := Aside0.mk (h2.start HB.out HBL.out)
    obtain ⟨rfl, _, _⟩ := h2
    go_wp2
    go_ret
    exact HQ.out
  rw [if_neg h0]
  have e0 : (k == 0) = false := beq_eq_false_iff_ne.2 h0
  by_cases h1 : k = 1
  · rw [if_pos h1]
    have e1 : (k == 1) = true := beq_iff_eq.2 h1
    clear h1
    go_enter Try.func24, Try.ntmps24
    go_wp2_with fail
    refine (HC1.out _ HH.out).mono ?_
    rintro e w2 h2
    have HQ := Aside0.mk (h2.start HB.out HBL.out)
    obtain ⟨rfl, _, _⟩ := h2
    go_wp2
    go_ret
    exact HQ.out
  rw [if_neg h1]
  have e1 : (k == 1) = false := beq_eq_false_iff_ne.2 h1
  by_cases h2 : k = 2
  · rw [if_pos h2]
    have e2 : (k == 2) = true := beq_iff_eq.2 h2
    clear h2
    go_enter Try.func24, Try.ntmps24
    go_wp2_with fail
    refine (HC2.out _ HH.out).mono ?_
    rintro e w2 h2
    have HQ := Aside0.mk (h2.start HB.out HBL.out)
    obtain ⟨rfl, _, _⟩ := h2
    go_wp2
    go_ret
    exact HQ.out
  rw [if_neg h2]
  have e2 : (k == 2) = false := beq_eq_false_iff_ne.2 h2
  by_cases h3 : k = 3
  · rw [if_pos (Or.inl h3)]
    have e3 : (k == 3) = true := beq_iff_eq.2 h3
    clear h0 h1 h2 h3
    go_enter Try.func24, Try.ntmps24
    go_wp2_with fail
    refine (HC3.out _ HH.out).mono ?_
    rintro e w2 h2
    have HQ := Aside0.mk (h2.start HB.out HBL.out)
    obtain ⟨rfl, _, _⟩ := h2
    go_wp2
    go_ret
    exact HQ.out
  have e3 : (k == 3) = false := beq_eq_false_iff_ne.2 h3
  by_cases h4 : k = 4
  · rw [if_pos (Or.inr h4)]
    have e4 : (k == 4) = true := beq_iff_eq.2 h4
    clear h0 h1 h2 h3 h4
    go_enter Try.func24, Try.ntmps24
    go_wp2_with fail
    refine (HC3.out _ HH.out).mono ?_
    rintro e w2 h2
    have HQ := Aside0.mk (h2.start HB.out HBL.out)
    obtain ⟨rfl, _, _⟩ := h2
    go_wp2
    go_ret
    exact HQ.out
  have e4 : (k == 4) = false := beq_eq_false_iff_ne.2 h4
  rw [if_neg (by omega)]
  clear h0 h1 h2 h3 h4
  go_enter Try.func24, Try.ntmps24
  go_wp2_with fail
  refine (HC5.out _ HH.out).mono ?_
  rintro e w2 h2
  have HQ := Aside0.mk (h2.start HB.out HBL.out)
  obtain ⟨rfl, _, _⟩ := h2
  go_wp2
  go_ret
  exact HQ.out
def nmA : ByteArray := ⟨#[97]⟩
def nmB : ByteArray := ⟨#[98]⟩
theorem lm1 : openM true 100 [] nmA 60 1 = (0, [(nmA, ⟨60, 1, 0, 0⟩)]) := by rfl
theorem lm2 : openM true 100 [(nmA, ⟨60, 1, 0, 0⟩)] nmB 50 1 = (6, [(nmA, ⟨60, 1, 0, 0⟩)]) := by rfl
theorem lm3 : useM [(nmA, ⟨60, 1, 0, 0⟩)] nmA 60 0 = (0, [(nmA, ⟨60, 1, 60, 0⟩)]) := by rfl
theorem lm4 : useM [(nmA, ⟨60, 1, 60, 0⟩)] nmA 1 0 = (10, [(nmA, ⟨60, 1, 60, 0⟩)]) := by rfl
theorem lm5 : (100 : Int) - sumB [(nmA, ⟨60, 1, 60, 0⟩)] = 40 := by rfl
theorem QPost.below {p b : Nat} {cap : Int} {w0 w w' : World} {x : Int × Mdl} {e : Ending} (h : QPost p b cap w x e w') (hb : Below w0.heap.size w0 w) (hlt : w0.heap.size ≤ b) : Below w0.heap.size w0 w' :=
  hb.trans (h.2.2.to_below (fun i hi => by omega) hb.size)
set_option maxRecDepth 100000 in
set_option maxHeartbeats 16000000 in
theorem qlives_calls (w : World) : Calls Try.prog 22 #[] w fun e w' => e = .returned (.bool true) ∧ Below w.heap.size w w' := by
  have G0 : GoodM 100 [] := goodM_start (by decide) (by decide)
  have G1 : GoodM 100 [(nmA, ⟨60, 1, 0, 0⟩)] := by have := openM_good (nb := true) (s := nmA) (by_ := 60) (se := 1) G0 (by decide); rw [lm1] at this; exact this
  have G3 : GoodM 100 [(nmA, ⟨60, 1, 60, 0⟩)] := by have := useM_good (s := nmA) (by_ := 60) (se := 0) G1; rw [lm3] at this; exact this
  have hc1 := fun (p b : Nat) W h => qopen_calls p b 100 [] nmA (by decide) 60 1 true 40 (by decide +kernel) W h G0
  rw [lm1] at hc1
  have hc2 := fun (p b : Nat) W h => qopen_calls p b 100 _ nmB (by decide) 50 1 true 40 (by decide +kernel) W h G1
  rw [lm2] at hc2
  have hc3 := fun (p b : Nat) W h => quse_calls p b 100 _ nmA (by decide) 60 0 (by decide) (by decide) W h G1
  rw [lm3] at hc3
  have hc4 := fun (p b : Nat) W h => quse_calls p b 100 _ nmA (by decide) 1 0 (by decide) (by decide) W h G3
  rw [lm4] at hc4
  have hc5 := fun (p b : Nat) W h => qleft_calls p b 100 _ W h G3
  rw [lm5] at hc5
  have HC1 := Lib.hid hc1
  have HC2 := Lib.hid hc2
  have HC3 := Lib.hid hc3
  have HC4 := Lib.hid hc4
  have HC5 := Lib.hid hc5
  unfold nmA at HC1 HC2 HC3 HC4 HC5
  unfold nmB at HC2
  clear hc1 hc2 hc3 hc4 hc5 G0 G1 G3
  go_enter Try.func22, Try.ntmps22
  go_wp2_with fail
  refine (qnew_calls 100 (by decide) (by decide) w).mono ?_
  rintro e w1 ⟨p, b, rfl, hl, hb, hp, hbb⟩
  have HL1 := Aside0.mk hl
  have HB1 := Aside0.mk hb
  have HBB := Aside0.mk hbb
  clear hl hb hp hbb
  go_wp2_with fail
  refine (HC1.out p b _ HL1.out).mono ?_
  rintro e w2 h
  have HB2 := Aside0.mk (h.below HB1.out HBB.out)
  have HL2 := Aside0.mk h.2.1
  obtain ⟨rfl, _, _⟩ := h
  go_wp2_with fail
  refine (HC2.out p b _ HL2.out).mono ?_
  rintro e w3 h
  have HB3 := Aside0.mk (h.below HB2.out HBB.out)
  have HL3 := Aside0.mk h.2.1
  obtain ⟨rfl, _, _⟩ := h
  go_wp2_with fail
  refine (HC3.out p b _ HL3.out).mono ?_
  rintro e w4 h
  have HB4 := Aside0.mk (h.below HB3.out HBB.out)
  have HL4 := Aside0.mk h.2.1
  obtain ⟨rfl, _, _⟩ := h
  go_wp2_with fail
  refine (HC4.out p b _ HL4.out).mono ?_
  rintro e w5 h
  have HB5 := Aside0.mk (h.below HB4.out HBB.out)
  have HL5 := Aside0.mk h.2.1
  obtain ⟨rfl, _, _⟩ := h
  go_wp2_with fail
  refine (HC5.out p b _ HL5.out).mono ?_
  rintro e w6 ⟨rfl, h⟩
  have HB6 := Aside0.mk (HB5.out.trans (h.mono HB5.out.size))
  clear h
  go_wp2
  go_ret
  exact ⟨rfl, HB6.out⟩
end Go.Proofs.Ytdbhejckpkifoaa
