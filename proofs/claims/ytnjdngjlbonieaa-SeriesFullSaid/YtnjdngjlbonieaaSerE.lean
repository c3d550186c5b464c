/- series.Get, walked. -/
import Derived.Test.YtnjdngjlbonieaaSerD
import Derived.Lib.Hide
import Derived.LoopTactic
import Derived.Outline
import Derived.Laws.Rows
import Derived.Laws.CopyOwn
import Derived.WalkKit
set_option linter.unusedVariables false
set_option linter.unusedSimpArgs false
namespace Go.Proofs.Ytnjdngjlbonieaa
open Go.RowKit Go.Proofs.YtnjdngjlbonieaaW.PrintWords Go.Proofs.YtnjdngjlbonieaaW.PrintLast Go.Proofs.YtnjdngjlbonieaaW.PrintMore
open Go.Proofs.Ytnjdngjlbonieaa.PRollWindows
attribute [local go_sem] max2_int min2_int max_two min_two max_three min_three max_four min_four

open RollOfPure
theorem pos_le {l : List S29} {fr tt : Int} {i k : Nat} (h : fr < tt) (hi : IsPos l fr i) (hk : IsPos l tt k) : i ≤ k := by
  refine Classical.byContradiction fun hc => ?_
  obtain ⟨x, hx⟩ : ∃ x, l[k]? = some x := ⟨_, List.getElem?_eq_getElem (by have := hi.1; omega)⟩
  have h1 := hi.2.1 k x (by omega) hx
  have h2 := hk.2.2 k x (Nat.le_refl _) hx
  omega
def GetPost (l : List S29) (fr tt : Int) (w : World) (e : Ending) (w' : World) : Prop := ∃ i k : Nat, ((tt ≤ fr ∧ i = 0 ∧ k = 0) ∨ (fr < tt ∧ IsPos l fr i ∧ IsPos l tt k)) ∧ ∃ v, e = .returned v ∧ w'.ownsRow w.heap.size 29 2 v ((l.drop i).take (k - i)).length (((l.drop i).take (k - i)).flatMap cellsP) ∧ Below w.heap.size w w'
set_option maxRecDepth 100000 in
set_option maxHeartbeats 16000000 in
theorem get_calls (p : Nat) (A : Option Addr) (ca : Nat) (l : List S29) (fr tt : Int) (hp : l.Pairwise (fun x y => x.f0 < y.f0)) (w : World) (hc : w.cell? ⟨p, 0, none⟩ = some (.slice A l.length ca)) (h : Kd.C k29 w A l.length l) (hl : l.length ≤ 1000) (hca : l.length ≤ ca) :
    Calls Try.prog 20 #[.pointer (some ⟨p, 0, none⟩), .agg #[.int .i64 fr, .int .i64 tt]] w (GetPost l fr tt w) := by
  have hu42 := Try.underlying42
  have hu91 := Try.underlying91
  have hsp := fun W hc2 hC => span_calls p A ca l fr tt hp W hc2 hC hl
  have HSP := Lib.hid hsp
  have HL := Aside0.mk h
  have HC := Aside0.mk hc
  have HCA := Aside0.mk hca
  clear h hp hc hsp hca
  go_enter Try.func20, Try.ntmps20
  go_wp2_with fail
  refine (HSP.out _ (bread_alloc HC.out _) (Kd.C_alloc HL.out _)).mono ?_
  rintro e w1 ⟨i, k, hik, rfl, h1⟩
  have HIK := Aside0.mk hik
  have HB0 := Aside0.mk ((Below.refl w.heap.size w).alloc (Nat.le_refl _) (.cells #[.int .i64 fr, .int .i64 tt] 42))
  have HB1 := Aside0.mk (HB0.out.trans (h1.mono HB0.out.size))
  have HC1 := Aside0.mk (bread h1 (bread_alloc HC.out (.cells #[.int .i64 fr, .int .i64 tt] 42)))
  have HL1 := Aside0.mk (Kd.C_below (Kd.C_alloc HL.out _) h1)
  clear h1 hik HB0
  by_cases hc : i = k
  · subst hc
    have e1 : ((i : Int) == (i : Int)) = true := beq_self_eq_true _
    have e2 : (i == i) = true := beq_self_eq_true _
    go_wp2
    go_ret
    exact ⟨i, i, HIK.out, _, rfl, by rw [Nat.sub_self, List.take_zero]; exact World.ownsRow_nil _ _ _ _, HB1.out⟩
  · have e1 : ((i : Int) == (k : Int)) = false := beq_eq_false_iff_ne.2 (by omega)
    have e2 : (i == k) = false := beq_eq_false_iff_ne.2 hc
    have hle : i ≤ k ∧ k ≤ l.length := by
      rcases HIK.out with ⟨_, h1, h2⟩ | ⟨h0, h1, h2⟩
      · omega
      · exact ⟨pos_le h0 h1 h2, h2.1⟩
    have hik := hle.1
    have hkl := hle.2
    have hca9 := HCA.out
    obtain ⟨ad, hAe, _⟩ := cells29 HL1.out (by omega)
    subst hAe
    obtain ⟨ys, hys⟩ : ∃ ys, ys = (l.drop i).take (k - i) := ⟨_, rfl⟩
    have hyl : ys.length = k - i := by rw [hys, List.length_take, List.length_drop]; omega
    have HCS := Aside0.mk (show Kd.C k29 w1 (some (ad.add (i * 2))) ys.length ys from by
      have h := Kd.C_mid HL1.out hik hkl HCA.out
      rw [if_neg (by omega), List.drop_take, ← hys] at h
      exact h)
    have HCL := Lib.hid (fun c hC => clone_calls (some (ad.add (i * 2))) c ys w1 hC (by omega) (fun e => by cases e))
    rw [hyl] at HCL HCS
    have hci : ¬ ca = i := by omega
    have hkca : k ≤ ca := by omega
    have q0 := HC1.out
    have HYS := Aside0.mk hys
    have HYL := Aside0.mk hyl
    clear hc hle hys hyl
    go_wp2_with fail
    refine (HCL.out _ HCS.out).mono ?_
    rintro e w2 ⟨v, rfl, ho, h2⟩
    have HB2 := Aside0.mk (HB1.out.trans (h2.mono HB1.out.size))
    have HO := Aside0.mk (row_mono ho HB1.out.size)
    clear h2 ho
    go_wp2
    go_ret
    exact ⟨i, k, HIK.out, _, rfl, by rw [← HYS.out]; exact HO.out, HB2.out⟩
end Go.Proofs.Ytnjdngjlbonieaa
