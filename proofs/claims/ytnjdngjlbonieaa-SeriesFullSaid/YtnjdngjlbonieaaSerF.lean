/- slices.ContainsFunc of points out of range, walked. -/
import Derived.Test.YtnjdngjlbonieaaSerE
import Derived.Lib.Hide
import Derived.LoopTactic
import Derived.Outline
import Derived.Laws.Rows
import Derived.Laws.CopyOwn
import Derived.WalkKit
set_option linter.unusedVariables false
set_option linter.unusedSimpArgs false
namespace Go.Proofs.Ytnjdngjlbonieaa
open Go.RowKit Go.Proofs.YtnjdngjlbonieaaW.PrintWords Go.Proofs.YtnjdngjlbonieaaW.PrintLast Go.Proofs.YtnjdngjlbonieaaW.PrintMore
open Go.Proofs.Ytnjdngjlbonieaa.PRollWindows
attribute [local go_sem] max2_int min2_int max_two min_two max_three min_three max_four min_four

open RollOfPure
def outB (a : Int) : Bool := decide (a < 0) || decide (a > 1099511627776)
set_option maxRecDepth 100000 in
set_option maxHeartbeats 8000000 in
theorem put1_calls (a b : Int) (w : World) : Calls Try.prog 60 #[.agg #[.int .i64 a, .int .i64 b]] w fun e w' => e = .returned (.bool (outB a)) ∧ Below w.heap.size w w' := by
  have hu29 := Try.underlying29
  unfold outB
  by_cases h1 : a < 0
  · have d1 : decide (a < 0) = true := decide_eq_true h1
    rw [d1, Bool.true_or]
    go_enter Try.func60, Try.ntmps60
    go_wp2
    go_ret
    exact ⟨rfl, (Below.refl _ _).alloc (Nat.le_refl _) _⟩
  · have d1 : decide (a < 0) = false := decide_eq_false h1
    rw [d1, Bool.false_or]
    obtain ⟨fb, hfb⟩ : ∃ f, f = decide (a > 1099511627776) := ⟨_, rfl⟩
    have d2 : decide (a > 1099511627776) = fb := hfb.symm
    have d3 : decide ((1099511627776 : Int) < a) = fb := hfb.symm
    rw [d2]
    clear hfb h1
    go_enter Try.func60, Try.ntmps60
    go_wp2
    go_ret
    exact ⟨rfl, (Below.refl _ _).alloc (Nat.le_refl _) _⟩
def XPost (l : List S29) (w : World) (e : Ending) (w' : World) : Prop := ∃ r : Int, e = .returned (.int .i64 r) ∧ (0 ≤ r ↔ ∃ x ∈ l, outB x.f0 = true) ∧ Below w.heap.size w w'
set_option maxRecDepth 100000 in
set_option maxHeartbeats 8000000 in
theorem index_calls (A : Option Addr) (ca : Nat) (l : List S29) (w : World) (h : Kd.C k29 w A l.length l) (hl : l.length ≤ 1000) :
    Calls Try.prog 79 #[.slice A l.length ca, .func (.func 60) #[] #[]] w (XPost l w) := by
  have HL := Aside0.mk h
  have hu29 := Try.underlying29
  clear h
  go_enter Try.func79, Try.ntmps79
  go_wp2_with fail
  go_loopw [8] (fun v8 wr => ∃ j : Nat, j ≤ l.length ∧ v8 = .int .i64 (j : Int) ∧ Aside0 (∀ x ∈ l.take j, outB x.f0 = false) ∧ Aside0 (Below w.heap.size w wr)) (fun v _ => l.length - (intOf v).toNat)
  case atStart => exact ⟨0, by omega, rfl, ⟨fun p hp => by simp at hp⟩, ⟨Below.refl _ _⟩⟩
  case round =>
    obtain ⟨j, hj, rfl, HS, HB⟩ := hrel
    by_cases hlt : j < l.length
    · obtain ⟨ad, hAe, hcell⟩ := cells29 HL.out (by omega)
      subst hAe
      obtain ⟨x, hx⟩ : ∃ x, l[j]? = some x := ⟨_, List.getElem?_eq_getElem hlt⟩
      have hcx := hcell j x hx
      have u0 : wr.cell? (ad.add (j * 2)) = some (.int .i64 x.f0) := by rw [HB.out.cell (World.block_lt_of_cell? w _ hcx.1)]; exact hcx.1
      have u1 : wr.cell? ⟨(ad.add (j * 2)).block, (ad.add (j * 2)).off + 1, none⟩ = some (.int .i64 x.f1) := by rw [HB.out.cell (World.block_lt_of_cell? w _ hcx.2)]; exact hcx.2
      have hjl : (j : Int) < (l.length : Int) := by omega
      have HX := Aside0.mk hx
      obtain ⟨a, b⟩ := x
      clear hcell hx hcx
      go_wp2_with fail
      refine (put1_calls a b _).mono ?_
      rintro e w2 ⟨rfl, h2⟩
      have HB2 := Aside0.mk (HB.out.trans (h2.mono HB.out.size))
      clear h2 u0 u1
      cases hob : outB a with
      | true =>
        have HOB := Aside0.mk hob
        clear hob
        go_wp2
        go_ret
        exact ⟨_, rfl, ⟨fun _ => ⟨_, List.mem_of_getElem? HX.out, HOB.out⟩, fun _ => by omega⟩, HB2.out⟩
      | false =>
        have HS2 := Aside0.mk (show ∀ x ∈ l.take (j + 1), outB x.f0 = false from fun p hp => by
          obtain ⟨hj2, he⟩ := List.getElem?_eq_some_iff.1 HX.out
          rw [List.take_succ_eq_append_getElem hj2, he] at hp
          rcases List.mem_append.1 hp with hp | hp
          · exact HS.out p hp
          · rw [List.mem_singleton.1 hp]; exact hob)
        clear hob
        go_wp2_with fail
        go_roundw
        case rel => exact ⟨j + 1, by omega, rfl, HS2, HB2⟩
        case measure => simp [intOf]; omega
    · have hje : j = l.length := by omega
      subst hje
      have hs := HS.out
      rw [List.take_length] at hs
      have HS3 := Aside0.mk hs
      clear hs HS hlt hj
      go_wp2
      go_ret
      exact ⟨_, rfl, ⟨fun h => by omega, fun ⟨x, hx, ho⟩ => by rw [HS3.out x hx] at ho; cases ho⟩, HB.out⟩
set_option maxRecDepth 100000 in
set_option maxHeartbeats 8000000 in
theorem contains_calls (A : Option Addr) (ca : Nat) (l : List S29) (w : World) (h : Kd.C k29 w A l.length l) (hl : l.length ≤ 1000) :
    Calls Try.prog 59 #[.slice A l.length ca, .func (.func 60) #[] #[]] w fun e w' => e = .returned (.bool (l.any fun x => outB x.f0)) ∧ Below w.heap.size w w' := by
  have HX := Aside0.mk (index_calls A ca l w h hl)
  obtain ⟨fb, hfb⟩ : ∃ f, f = (l.any fun x => outB x.f0) := ⟨_, rfl⟩
  rw [← hfb]
  have HF := Aside0.mk hfb
  clear h hfb
  go_enter Try.func59, Try.ntmps59
  go_wp2_with fail
  refine HX.out.mono ?_
  rintro e w2 ⟨r, rfl, hr, h2⟩
  have HB := Aside0.mk h2
  have d1 : decide (r ≥ 0) = fb := by
    rw [HF.out]
    by_cases h : 0 ≤ r
    · rw [decide_eq_true (show r ≥ 0 from h)]
      obtain ⟨x, hx, ho⟩ := hr.1 h
      exact (List.any_eq_true.2 ⟨x, hx, ho⟩).symm
    · rw [decide_eq_false (show ¬ r ≥ 0 from h)]
      symm
      rw [List.any_eq_false]
      intro x hx ho
      exact h (hr.2 ⟨x, hx, ho⟩)
  have d2 : decide (0 ≤ r) = fb := d1
  clear hr h2 HX
  go_wp2
  go_ret
  exact ⟨rfl, HB.out⟩
end Go.Proofs.Ytnjdngjlbonieaa
