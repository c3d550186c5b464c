/- series.with, walked. -/
import Derived.Test.YtnjdngjlbonieaaSerJ
import Derived.Deep.DrawnRows
import Derived.Lib.Hide
import Derived.LoopTactic
import Derived.Outline
import Derived.Laws.Rows
import Derived.Laws.CopyOwn
import Derived.WalkKit
set_option linter.unusedVariables false
set_option linter.unusedSimpArgs false
namespace Go.Proofs.Ytnjdngjlbonieaa
open Go.RowKit Go.Proofs.YtnjdngjlbonieaaW.PrintWords Go.Proofs.YtnjdngjlbonieaaW.PrintLast Go.Proofs.YtnjdngjlbonieaaW.PrintMore
open Go.Proofs.Ytnjdngjlbonieaa.PRollWindows
attribute [local go_sem] max2_int min2_int max_two min_two max_three min_three max_four min_four

open RollOfPure
theorem one_cells (l : List S29) : ∀ v ∈ l.flatMap cellsP, v.oneCell' = true := by
  intro v hv
  obtain ⟨x, _, hx⟩ := List.mem_flatMap.1 hv
  simp only [List.mem_cons, List.not_mem_nil, or_false] at hx
  rcases hx with rfl | rfl <;> rfl
theorem flat_take (l : List S29) (i : Nat) : (l.flatMap cellsP).take (i * 2) = (l.take i).flatMap cellsP := by
  induction l generalizing i with
  | nil => simp
  | cons a r ih =>
    cases i with
    | zero => simp
    | succ i =>
      rw [List.take_succ_cons, List.flatMap_cons, List.flatMap_cons, ← ih, show (i + 1) * 2 = (cellsP a).length + i * 2 by simp; omega, List.take_length_add_append]
theorem flat_drop (l : List S29) (i : Nat) : (l.flatMap cellsP).drop (i * 2) = (l.drop i).flatMap cellsP := by
  induction l generalizing i with
  | nil => simp
  | cons a r ih =>
    cases i with
    | zero => simp
    | succ i =>
      rw [List.drop_succ_cons, List.flatMap_cons, ← ih, show (i + 1) * 2 = (cellsP a).length + i * 2 by simp; omega, List.drop_length_add_append]
/-- What with leaves: a row of the call's own, of these. -/
def RowPost (B : Nat) (l : List S29) (v : Value) (w : World) (e : Ending) (w' : World) : Prop := ∃ v', e = .returned v' ∧ w'.ownsRow B 29 2 v' l.length (l.flatMap cellsP) ∧ w.grownBy w' v.ownBlock
theorem ins_any (B nb i : Nat) (v : Value) (l : List S29) (p : S29) (w : World) (h : w.ownsRow B 29 2 v l.length (l.flatMap cellsP)) (hB : B ≤ w.heap.size) (hn : l.length ≤ 1000) (hi : i ≤ l.length) (hb : w.heap[nb]? = some (.cells #[.int .i64 p.f0, .int .i64 p.f1] 29 (0, 0))) (hne : v.ownBlock ≠ some nb) :
    Calls Try.prog 89 #[v, .int .i64 (i : Int), .slice (some ⟨nb, 0, none⟩) 1 1] w (RowPost B (l.take i ++ p :: l.drop i) v w) := by
  have hlen : (l.take i ++ p :: l.drop i).length = l.length + 1 := by
    simp only [List.length_append, List.length_take, List.length_cons, List.length_drop]
    omega
  have hcells : (l.take i ++ p :: l.drop i).flatMap cellsP = (l.flatMap cellsP).take (i * 2) ++ [.int .i64 p.f0, .int .i64 p.f1] ++ (l.flatMap cellsP).drop (i * 2) := by
    rw [flat_take, flat_drop, List.flatMap_append, List.flatMap_cons, List.append_assoc]
  have key : ∀ e w', IPost B l.length ((l.flatMap cellsP).take (i * 2) ++ [.int .i64 p.f0, .int .i64 p.f1] ++ (l.flatMap cellsP).drop (i * 2)) v w e w' → RowPost B (l.take i ++ p :: l.drop i) v w e w' := by
    rintro e w' ⟨v', rfl, ho, hg⟩
    exact ⟨v', rfl, by rw [hlen, hcells]; exact ho, hg⟩
  have h0 : w.cell? ⟨nb, 0, none⟩ = some (.int .i64 p.f0) := blk_cell hb 0
  have h1 : w.cell? ⟨nb, 1, none⟩ = some (.int .i64 p.f1) := blk_cell hb 1
  obtain ⟨A, c, rfl⟩ := row_form h
  rcases Nat.lt_or_ge i l.length with hlt | hge
  · obtain ⟨g, c2, cur, he, hg, hnc, _⟩ := row_pos h (by omega)
    injection he with e1 e2 e3
    subst e1
    subst e3
    rcases Nat.lt_or_ge l.length c with hc | hc
    · exact (insert_shift B g l.length c nb i _ p.f0 p.f1 w h (one_cells l) hB hn hlt hc hb (fun e => hne (by rw [e]; rfl))).mono key
    · have e : c = l.length := by omega
      subst e
      exact (insert_grow B g l.length nb i _ p.f0 p.f1 w h (one_cells l) hB hn hlt h0 h1).mono key
  · have e : i = l.length := by omega
    subst e
    refine (insert_end B l.length c nb A _ p.f0 p.f1 w h hB hn h0 h1).mono ?_
    intro e w' hh
    apply key
    rw [← flat_len l, List.take_length, List.drop_length, List.append_nil]
    exact hh
theorem flat_set (l : List S29) (i : Nat) (p : S29) (hi : i < l.length) : ((l.flatMap cellsP).set (i * 2) (.int .i64 p.f0)).set (i * 2 + 1) (.int .i64 p.f1) = (l.set i p).flatMap cellsP := by
  induction l generalizing i with
  | nil => simp at hi
  | cons a r ih =>
    cases i with
    | zero => rfl
    | succ i =>
      rw [List.set_cons_succ, List.flatMap_cons, List.flatMap_cons, ← ih i (by simpa using hi)]
      rw [show (i + 1) * 2 = (i * 2 + 1) + 1 by omega]
      rfl
set_option maxRecDepth 100000 in
set_option maxHeartbeats 16000000 in
theorem with_calls (B : Nat) (v : Value) (l : List S29) (p : S29) (w : World) (h : w.ownsRow B 29 2 v l.length (l.flatMap cellsP)) (hB : B ≤ w.heap.size) (hn : l.length ≤ 1000) (hr : Ris l) :
    Calls Try.prog 80 #[v, .agg #[.int .i64 p.f0, .int .i64 p.f1]] w (RowPost B (putL l p) v w) := by
  obtain ⟨A, c, rfl⟩ := row_form h
  obtain ⟨W, hW⟩ : ∃ W, W = w.alloc (.cells #[.int .i64 p.f0, .int .i64 p.f1] 29) := ⟨_, rfl⟩
  obtain ⟨Q, hQ⟩ : ∃ Q, Q = w.heap.size := ⟨_, rfl⟩
  have hWo : W.ownsRow B 29 2 (.slice A l.length c) l.length (l.flatMap cellsP) := by rw [hW]; exact h.alloc _
  have hWq : W.heap[Q]? = some (.cells #[.int .i64 p.f0, .int .i64 p.f1] 29 (0, 0)) := by rw [hW, hQ]; exact blk_new w _
  have hWs : W.heap.size = Q + 1 := by rw [hW, hQ]; simp
  have hWb : Below w.heap.size w W := by rw [hW]; exact (Below.refl _ _).alloc (Nat.le_refl _) _
  have hF := find_calls A c l p.f0 hr W (kdC_of hWo hn).1 hn
  have HF := Aside0.mk hF
  have HO := Aside0.mk hWo
  have HQ := Aside0.mk hWq
  have HB0 := Aside0.mk hWb
  have HS := Aside0.mk hWs
  have HBB := Aside0.mk hB
  have HR := Aside0.mk hr
  have q0 : W.cell? ⟨Q, 0, none⟩ = some (.int .i64 p.f0) := blk_cell hWq 0
  have q1 : W.cell? ⟨Q, 1, none⟩ = some (.int .i64 p.f1) := blk_cell hWq 1
  have hu29 := Try.underlying29
  have hu22 := Try.underlying22
  have HNE := Aside0.mk (show (Value.slice A l.length c).ownBlock ≠ some Q from fun e => by have := (h.lt Q e).2; omega)
  have HQW := Aside0.mk hQ
  clear hF hWo hWq hWb hWs hB hr h
  go_enter Try.func80, Try.ntmps80
  go_upto_region 1 with (fail)
  rw [← hW, ← hQ]
  clear hW hQ
  go_wp2_with fail
  refine HF.out.mono ?_
  rintro e w2 ⟨i, hi, rfl, h2⟩
  have HI := Aside0.mk hi
  obtain ⟨fb, hfb⟩ : ∃ b, b = decide ((l[i]?).map S29.f0 = some p.f0) := ⟨_, rfl⟩
  rw [← hfb]
  have HFB := Aside0.mk hfb
  have HO2 := Aside0.mk (show w2.ownsRow B 29 2 (.slice A l.length c) l.length (l.flatMap cellsP) from own_kept HO.out fun b hb => h2.block b (HO.out.lt b hb).2)
  have HQ2 := Aside0.mk (show w2.heap[Q]? = some (.cells #[.int .i64 p.f0, .int .i64 p.f1] 29 (0, 0)) from (h2.block Q (by rw [HS.out]; omega)).trans HQ.out)
  have HB2 := Aside0.mk (HB0.out.trans (h2.mono HB0.out.size))
  have k0 : w2.cell? ⟨Q, 0, none⟩ = some (.int .i64 p.f0) := blk_cell HQ2.out 0
  have k1 : w2.cell? ⟨Q, 1, none⟩ = some (.int .i64 p.f1) := blk_cell HQ2.out 1
  clear hi hfb h2 HF q0 q1
  cases fb with
  | true =>
    have hil : i < l.length := by
      have := HFB.out.symm
      rw [decide_eq_true_eq] at this
      obtain ⟨y, hy, _⟩ := Option.map_eq_some_iff.1 this
      exact (List.getElem?_eq_some_iff.1 hy).1
    have hilI : (i : Int) < (l.length : Int) := by omega
    obtain ⟨g, c2, cur, he, hg, hnc, hcm, hcs, hct⟩ := row_pos HO2.out (by omega)
    have he1 : A = some ⟨g, 0, none⟩ ∧ c = c2 := by
      injection he with e1 e2 e3
      exact ⟨e1, e3⟩
    obtain ⟨rfl, rfl⟩ := he1
    have HG := Aside0.mk hg
    have x0 : w2.frozen? ⟨g, i * 2, none⟩ = false := blk_frozen hg _
    have hg1 : (w2.setCell ⟨g, i * 2, none⟩ (.int .i64 p.f0)).heap[g]? = some (.cells (cur.setIfInBounds (i * 2) (.int .i64 p.f0)) 29 (0, 0)) := blk_set hg _ _
    have x1 : (w2.setCell ⟨g, i * 2, none⟩ (.int .i64 p.f0)).frozen? ⟨g, i * 2 + 1, none⟩ = false := blk_frozen hg1 _
    obtain ⟨z0, y0⟩ : ∃ z0, w2.cell? ⟨g, i * 2, none⟩ = some z0 := by rw [blk_cell hg, Array.getElem?_eq_getElem (by omega)]; exact ⟨_, rfl⟩
    obtain ⟨z1, y1⟩ : ∃ z1, (w2.setCell ⟨g, i * 2, none⟩ (.int .i64 p.f0)).cell? ⟨g, i * 2 + 1, none⟩ = some z1 := by rw [blk_cell hg1, Array.getElem?_eq_getElem (by rw [Array.size_setIfInBounds]; omega)]; exact ⟨_, rfl⟩
    clear he hg hg1 hnc hcm hcs hct
    go_wp2
    go_ret
    refine ⟨_, rfl, ?_, ?_⟩
    · have e1 : putL l p = l.set i p := putL_old HI.out (by have := HFB.out.symm; rw [decide_eq_true_eq] at this; exact this) HR.out
      rw [e1, List.length_set, ← flat_set l i p hil]
      exact ((HO2.out.stored (i * 2) (.int .i64 p.f0)).1.stored (i * 2 + 1) (.int .i64 p.f1)).1
    · have hgw := (HO2.out.lt g rfl).2
      exact ⟨HB2.out.os, HB2.out.tape, HB2.out.output, by have := HB2.out.size; simpa [World.setCell] using this, fun k hk hkn => (Below.heap_setCell _ _ _ k (fun e => hkn (by rw [e]; rfl))).trans ((Below.heap_setCell _ _ _ k (fun e => hkn (by rw [e]; rfl))).trans (HB2.out.block k hk))⟩
  | false =>
    obtain ⟨W3, hW3⟩ : ∃ W3, W3 = w2.alloc (.cells #[.int .i64 p.f0, .int .i64 p.f1] 29) := ⟨_, rfl⟩
    obtain ⟨N, hN⟩ : ∃ N, N = w2.heap.size := ⟨_, rfl⟩
    have hne2 : (Value.slice A l.length c).ownBlock ≠ some N := fun e => by have := (HO2.out.lt N e).2; omega
    have hI := ins_any B N i (.slice A l.length c) l p W3 (by rw [hW3]; exact HO2.out.alloc _) (by rw [hW3]; have := HB2.out.size; have := HBB.out; simp; omega) hn HI.out.1 (by rw [hW3, hN]; exact blk_new w2 _) hne2
    have HINS := Aside0.mk hI
    have HB3 := Aside0.mk (show Below w.heap.size w W3 by rw [hW3]; exact HB2.out.alloc HB2.out.size _)
    clear hI hne2
    go_wp2_with fail
    rw [← hW3, ← hN]
    refine HINS.out.mono ?_
    rintro e w4 ⟨v', rfl, ho, hg⟩
    have HO4 := Aside0.mk ho
    have HG4 := Aside0.mk hg
    clear ho hg hW3 hN
    go_wp2
    go_ret
    refine ⟨_, rfl, ?_, ?_⟩
    · rw [putL_new HI.out (by have := HFB.out.symm; rw [decide_eq_false_iff_not] at this; exact this) HR.out]
      exact HO4.out
    · have hs := HB3.out.size
      exact ⟨HG4.out.os.trans HB3.out.os, HG4.out.tape.trans HB3.out.tape, HG4.out.output.trans HB3.out.output, Nat.le_trans hs HG4.out.size, fun k hk hkn => (HG4.out.block k (by omega) hkn).trans (HB3.out.block k hk)⟩
end Go.Proofs.Ytnjdngjlbonieaa
