/- series.New, Get, Count, Len, of a series; points that are the same are told the same. -/
import Derived.Test.YtnjdngjlbonieaaSerL
import Derived.BigQuiet
import Derived.Deep.QuietTactic
import Derived.Lib.Hide
import Derived.LoopTactic
import Derived.Outline
import Derived.Laws.Rows
import Derived.Laws.CopyOwn
import Derived.WalkKit
set_option linter.unusedVariables false
set_option linter.unusedSimpArgs false
namespace Go.Proofs.Ytnjdngjlbonieaa
open Go.RowKit Go.Proofs.YtnjdngjlbonieaaW.PrintWords Go.Proofs.YtnjdngjlbonieaaW.PrintLast Go.Proofs.YtnjdngjlbonieaaW.PrintMore
open Go.Proofs.Ytnjdngjlbonieaa.PRollWindows
attribute [local go_sem] max2_int min2_int max_two min_two max_three min_three max_four min_four

open RollOfPure
set_option maxRecDepth 100000 in
set_option maxHeartbeats 8000000 in
theorem new_calls (w : World) : Calls Try.prog 18 #[] w fun e w' => e = .returned (.pointer (some ⟨w.heap.size, 0, none⟩)) ∧ IsSer (fun b => b = w.heap.size) w.heap.size [] w' ∧ Below w.heap.size w w' ∧ w'.heap.size = w.heap.size + 1 := by
  have hu91 := Try.underlying91
  go_enter Try.func18, Try.ntmps18
  go_wp2
  go_ret
  exact ⟨rfl, ⟨List.Pairwise.nil, by simp, rfl, _, blk_new w _, World.ownsRow_nil _ _ _ _, fun g hg => by cases hg⟩, (Below.refl _ _).alloc (Nat.le_refl _) _, by simp⟩
theorem inR_none {a b : Int} (h : b ≤ a) (l : List S29) : inR a b l = [] := by
  unfold inR
  rw [List.filter_eq_nil_iff]
  intro x _
  simp
  omega
theorem inR_ris {l : List S29} (h : Ris l) (a b : Int) : Ris (inR a b l) := h.filter _
theorem inR_len (a b : Int) (l : List S29) : (inR a b l).length ≤ l.length := List.length_filter_le _ _
theorem ser_parts {F : Nat → Prop} {p : Nat} {l : List S29} {w : World} (h : IsSer F p l w) : ∃ A ca, w.heap[p]? = some (.cells #[.slice A l.length ca] 91 (0, 0)) ∧ w.ownsRow 0 29 2 (.slice A l.length ca) l.length (l.flatMap cellsP) ∧ Kd.C k29 w A l.length l ∧ l.length ≤ ca := by
  obtain ⟨v, h1, h2, h3⟩ := h.row
  obtain ⟨A, ca, rfl⟩ := row_form h2
  have := kdC_of h2 (by have := h.len; omega)
  exact ⟨A, ca, h1, h2, this.1, this.2⟩
theorem get_ser (F : Nat → Prop) (p : Nat) (l : List S29) (a b : Int) (w : World) (h : IsSer F p l w) : Calls Try.prog 20 #[.pointer (some ⟨p, 0, none⟩), .agg #[.int .i64 a, .int .i64 b]] w (NewPost (inR a b l) w) := by
  obtain ⟨A, ca, h1, h2, h3, h4⟩ := ser_parts h
  refine (get_calls p A ca l a b h.ris w (blk_cell h1 0) h3 (by have := h.len; omega) h4).mono ?_
  rintro e w' ⟨i, k, hik, v, rfl, ho, hb⟩
  have e1 : inR a b l = (l.drop i).take (k - i) := by
    rcases hik with ⟨h1, rfl, rfl⟩ | ⟨h1, h2, h3⟩
    · rw [inR_none h1]; simp
    · exact inR_split h2 h3 h1
  exact ⟨v, rfl, by rw [e1]; exact ho, hb⟩
theorem count_ser (F : Nat → Prop) (p : Nat) (l : List S29) (a b : Int) (w : World) (h : IsSer F p l w) : Calls Try.prog 28 #[.pointer (some ⟨p, 0, none⟩), .agg #[.int .i64 a, .int .i64 b]] w fun e w' => e = .returned (.int .i64 ((inR a b l).length : Int)) ∧ Below w.heap.size w w' := by
  obtain ⟨A, ca, h1, h2, h3, h4⟩ := ser_parts h
  refine (count_calls p A ca l a b h.ris w (blk_cell h1 0) h3 (by have := h.len; omega)).mono ?_
  rintro e w' ⟨i, k, hik, rfl, hb⟩
  refine ⟨?_, hb⟩
  rcases hik with ⟨h1, rfl, rfl⟩ | ⟨h1, h2, h3⟩
  · rw [inR_none h1]; rfl
  · have h5 := pos_le h1 h2 h3
    have h6 := h3.1
    rw [inR_split h2 h3 h1, List.length_take, List.length_drop]
    congr 2
    omega
theorem len_ser (F : Nat → Prop) (p : Nat) (l : List S29) (w : World) (h : IsSer F p l w) : Calls Try.prog 22 #[.pointer (some ⟨p, 0, none⟩)] w fun e w' => e = .returned (.int .i64 (l.length : Int)) ∧ Below w.heap.size w w' := by
  obtain ⟨A, ca, h1, h2, h3, h4⟩ := ser_parts h
  exact len_calls p l.length ca A w (blk_cell h1 0)
set_option maxRecDepth 100000 in
set_option maxHeartbeats 8000000 in
theorem same_true (A A2 : Option Addr) (ca ca2 : Nat) (l : List S29) (w : World) (h : Kd.C k29 w A l.length l) (h2 : Kd.C k29 w A2 l.length l) (hl : l.length ≤ 1000) :
    Calls Try.prog 21 #[.slice A l.length ca, .slice A2 l.length ca2] w fun e w' => e = .returned (.bool true) ∧ Below w.heap.size w w' := by
  have HL := Aside0.mk h
  have HL2 := Aside0.mk h2
  have hu29 := Try.underlying29
  have e1 : ((l.length : Int) != (l.length : Int)) = false := by simp
  have e2 : (l.length != l.length) = false := by simp
  clear h h2
  go_enter Try.func21, Try.ntmps21
  go_wp2_with fail
  go_loopw [13] (fun v13 wr => ∃ j : Nat, j ≤ l.length ∧ v13 = .int .i64 (j : Int) ∧ Aside0 (Below w.heap.size w wr)) (fun v _ => l.length - (intOf v).toNat)
  case atStart => exact ⟨0, by omega, rfl, ⟨Below.refl _ _⟩⟩
  case round =>
    obtain ⟨j, hj, rfl, HB⟩ := hrel
    by_cases hlt : j < l.length
    · obtain ⟨ad, hAe, hcell⟩ := cells29 HL.out (by omega)
      obtain ⟨ad2, hAe2, hcell2⟩ := cells29 HL2.out (by omega)
      subst hAe
      subst hAe2
      obtain ⟨x, hx⟩ : ∃ x, l[j]? = some x := ⟨_, List.getElem?_eq_getElem hlt⟩
      have hcx := hcell j x hx
      have hcx2 := hcell2 j x hx
      have u0 : wr.cell? (ad.add (j * 2)) = some (.int .i64 x.f0) := by rw [HB.out.cell (World.block_lt_of_cell? w _ hcx.1)]; exact hcx.1
      have u1 : wr.cell? ⟨(ad.add (j * 2)).block, (ad.add (j * 2)).off + 1, none⟩ = some (.int .i64 x.f1) := by rw [HB.out.cell (World.block_lt_of_cell? w _ hcx.2)]; exact hcx.2
      have v0 : wr.cell? (ad2.add (j * 2)) = some (.int .i64 x.f0) := by rw [HB.out.cell (World.block_lt_of_cell? w _ hcx2.1)]; exact hcx2.1
      have v1 : wr.cell? ⟨(ad2.add (j * 2)).block, (ad2.add (j * 2)).off + 1, none⟩ = some (.int .i64 x.f1) := by rw [HB.out.cell (World.block_lt_of_cell? w _ hcx2.2)]; exact hcx2.2
      have hjl : (j : Int) < (l.length : Int) := by omega
      clear hcell hx hcx hcell2 hcx2
      go_wp2_with fail
      go_quiet (fail)
      go_wp2_with fail
      go_roundw
      case rel => exact ⟨j + 1, by omega, rfl, ⟨pw_below_drewN HB.out _⟩⟩
      case measure => simp [intOf]; omega
    · go_wp2
      go_ret
      exact ⟨rfl, HB.out⟩
end Go.Proofs.Ytnjdngjlbonieaa
