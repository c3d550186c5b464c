/- What a window of a stock comes to, walked. -/
import Derived.Test.YtnjdngjlbonieaaTierD
import Derived.Lib.Hide
import Derived.LoopTactic
import Derived.Outline
import Derived.Laws.Rows
import Derived.Laws.CopyOwn
import Derived.WalkKit
set_option linter.unusedVariables false
set_option linter.unusedSimpArgs false
namespace Go.Proofs.Ytnjdngjlbonieaa
open Go.RowKit Go.Proofs.YtnjdngjlbonieaaW.PrintWords Go.Proofs.YtnjdngjlbonieaaW.PrintLast Go.Proofs.YtnjdngjlbonieaaW.PrintMore
open Go.Proofs.Ytnjdngjlbonieaa.PTierForgets
attribute [local go_sem] max2_int min2_int max_two min_two max_three min_three max_four min_four

/-- Five cells of a block, stored one by one. -/
def st5 (w : World) (g : Nat) (d0 d1 d2 d3 d4 : Value) : World := ((((w.setCell ⟨g, 0, none⟩ d0).setCell ⟨g, 1, none⟩ d1).setCell ⟨g, 2, none⟩ d2).setCell ⟨g, 3, none⟩ d3).setCell ⟨g, 4, none⟩ d4
structure St5 (w : World) (g : Nat) (d0 d1 d2 d3 d4 : Value) : Prop where
  c0 : ∃ c, w.cell? ⟨g, 0, none⟩ = some c
  f0 : w.frozen? ⟨g, 0, none⟩ = false
  c1 : ∃ c, (w.setCell ⟨g, 0, none⟩ d0).cell? ⟨g, 1, none⟩ = some c
  f1 : (w.setCell ⟨g, 0, none⟩ d0).frozen? ⟨g, 1, none⟩ = false
  c2 : ∃ c, ((w.setCell ⟨g, 0, none⟩ d0).setCell ⟨g, 1, none⟩ d1).cell? ⟨g, 2, none⟩ = some c
  f2 : ((w.setCell ⟨g, 0, none⟩ d0).setCell ⟨g, 1, none⟩ d1).frozen? ⟨g, 2, none⟩ = false
  c3 : ∃ c, (((w.setCell ⟨g, 0, none⟩ d0).setCell ⟨g, 1, none⟩ d1).setCell ⟨g, 2, none⟩ d2).cell? ⟨g, 3, none⟩ = some c
  f3 : (((w.setCell ⟨g, 0, none⟩ d0).setCell ⟨g, 1, none⟩ d1).setCell ⟨g, 2, none⟩ d2).frozen? ⟨g, 3, none⟩ = false
  c4 : ∃ c, ((((w.setCell ⟨g, 0, none⟩ d0).setCell ⟨g, 1, none⟩ d1).setCell ⟨g, 2, none⟩ d2).setCell ⟨g, 3, none⟩ d3).cell? ⟨g, 4, none⟩ = some c
  f4 : ((((w.setCell ⟨g, 0, none⟩ d0).setCell ⟨g, 1, none⟩ d1).setCell ⟨g, 2, none⟩ d2).setCell ⟨g, 3, none⟩ d3).frozen? ⟨g, 4, none⟩ = false
  fin : (((((w.setCell ⟨g, 0, none⟩ d0).setCell ⟨g, 1, none⟩ d1).setCell ⟨g, 2, none⟩ d2).setCell ⟨g, 3, none⟩ d3).setCell ⟨g, 4, none⟩ d4).heap[g]? = some (.cells #[d0, d1, d2, d3, d4] 31 (0, 0))
theorem st5_of {w : World} {g : Nat} {e0 e1 e2 e3 e4 : Value} (h : w.heap[g]? = some (.cells #[e0, e1, e2, e3, e4] 31 (0, 0))) (d0 d1 d2 d3 d4 : Value) : St5 w g d0 d1 d2 d3 d4 := by
  have h1 := blk_set h 0 d0
  have h2 := blk_set h1 1 d1
  have h3 := blk_set h2 2 d2
  have h4 := blk_set h3 3 d3
  have h5 := blk_set h4 4 d4
  exact ⟨⟨_, blk_cell h 0⟩, blk_frozen h 0, ⟨_, blk_cell h1 1⟩, blk_frozen h1 1, ⟨_, blk_cell h2 2⟩, blk_frozen h2 2, ⟨_, blk_cell h3 3⟩, blk_frozen h3 3, ⟨_, blk_cell h4 4⟩, blk_frozen h4 4, h5⟩
theorem st5_below {B : Nat} {w0 w : World} {g : Nat} (h : Below B w0 w) (hB : B ≤ g) (d0 d1 d2 d3 d4 : Value) : Below B w0 (st5 w g d0 d1 d2 d3 d4) :=
  ((((h.setCell (p := ⟨g, 0, none⟩) hB d0).setCell (p := ⟨g, 1, none⟩) hB d1).setCell (p := ⟨g, 2, none⟩) hB d2).setCell (p := ⟨g, 3, none⟩) hB d3).setCell (p := ⟨g, 4, none⟩) hB d4
theorem st5_far {w : World} {g k : Nat} (h : k ≠ g) (d0 d1 d2 d3 d4 : Value) : (st5 w g d0 d1 d2 d3 d4).heap[k]? = w.heap[k]? :=
  (Below.heap_setCell _ _ _ k h).trans ((Below.heap_setCell _ _ _ k h).trans ((Below.heap_setCell _ _ _ k h).trans ((Below.heap_setCell _ _ _ k h).trans (Below.heap_setCell _ _ _ k h))))
def OfPost (r : S31 × Bool) (w : World) (e : Ending) (w' : World) : Prop := e = .returned (.tuple #[.agg #[.int .i64 r.1.f0, .int .i64 r.1.f1, .int .i64 r.1.f2, .int .i64 r.1.f3, .int .i64 r.1.f4], .bool r.2]) ∧ Below w.heap.size w w'
def aggV (x : S31) : Value := .agg #[.int .i64 x.f0, .int .i64 x.f1, .int .i64 x.f2, .int .i64 x.f3, .int .i64 x.f4]
def zCells : Array Value := #[.int .i64 0, .int .i64 0, .int .i64 0, .int .i64 0, .int .i64 0]
set_option maxRecDepth 100000 in
set_option maxHeartbeats 32000000 in
theorem tof1_calls (F : Nat → Prop) (p : Nat) (s : Stk) (a b : Int) (w : World) (hS : IsStk F p s w)  :
    Calls Try.prog 83 #[.pointer (some ⟨p, 0, none⟩), .int .i64 1, .agg #[.int .i64 a, .int .i64 b]] w (OfPost (ofP a (inR a b s.raw)) w) := by
  obtain ⟨pr, v1, v2, hp, hsr, _⟩ := hS.row
  have hlr := hsr.len
  have hl1 := hS.l1
  have hu42 := Try.underlying42
  have hu100 := Try.underlying100
  have hu31 := Try.underlying31
  obtain ⟨W, hW⟩ : ∃ W, W = (w.alloc (.cells #[.int .i64 a, .int .i64 b] 42)).alloc (.cells #[.int .i64 0, .int .i64 0, .int .i64 0, .int .i64 0, .int .i64 0] 31) := ⟨_, rfl⟩
  obtain ⟨Q, hQ⟩ : ∃ Q, Q = w.heap.size := ⟨_, rfl⟩
  have hWb : Below w.heap.size w W := by rw [hW]; exact ((Below.refl _ _).alloc (Nat.le_refl _) _).alloc (by simp) _
  have hQc : W.heap[Q]? = some (.cells #[.int .i64 a, .int .i64 b] 42 (0, 0)) := by rw [hW, hQ]; exact blk_alloc (blk_new w _) _
  have hRc : W.heap[Q + 1]? = some (.cells #[.int .i64 0, .int .i64 0, .int .i64 0, .int .i64 0, .int .i64 0] 31 (0, 0)) := by rw [hW, hQ]; exact heap_alloc2_new w _ _
  have hpW := (hWb.block p (blk_lt hp)).trans hp
  have HW := Aside0.mk hWb
  have HQ := Aside0.mk hQ
  have HSW := Aside0.mk (hS.below hWb)
  have HSR := Aside0.mk (hsr.below hWb)
  have q0 := hpW
  have q1 := hQc
  have q2 : ∃ e0 e1 e2 e3 e4, W.heap[Q + 1]? = some (.cells #[e0, e1, e2, e3, e4] 31 (0, 0)) := ⟨_, _, _, _, _, hRc⟩
  obtain ⟨L, hL⟩ : ∃ L, L = inR a b s.raw := ⟨_, rfl⟩
  have hLe : L.length ≤ 256 := by rw [hL]; exact Nat.le_trans (inR_len a b s.raw) hlr
  rw [← hL]
  have hg := get_ser F pr s.raw a b W.drew (HSR.out.below (pw_below_drewN (Below.refl _ _) 1))
  rw [← hL] at hg
  have HG := Aside0.mk hg
  have HOF := Aside0.mk (of_isP a L hLe)
  have hLL : L.length ≤ 256 := hLe
  clear hg
  clear hS hp hsr hWb hQc hRc hpW hLe hL
  go_enter Try.func83, Try.ntmps83
  go_upto_region 1 with (fail)
  rw [← hW, ← hQ]
  clear hW hQ
  go_wp2_with fail
  refine start_ (n := 13) (S := fun w' => (w'.heap[p]? = some (.cells (stkCells pr v1 v2 s) 100 (0, 0))) ∧ (w'.heap[Q]? = some (.cells #[.int .i64 a, .int .i64 b] 42 (0, 0))) ∧ (∃ e0 e1 e2 e3 e4, w'.heap[Q + 1]? = some (.cells #[e0, e1, e2, e3, e4] 31 (0, 0)))) (ds := []) #[false, false, false, false, false, false, false, false, false, false, false, false, false] (by kernel_rfl) rfl rfl ⟨q0, q1, q2⟩ (fun hHeld => ?_)
  refine pure_ (i := 0) (N := some 10) (v := ?_) (a' := ?_) #[true, false, false, false, false, false, false, false, false, false, false, false, false] rfl rfl (by kernel_rfl) (fun _ _ _ h => h) (Or.inl ⟨by rfl, ?_⟩) ?_ ?_
  rotate_left
  · intro w'
    go_simp
    with_reducible rfl
  rotate_left
  · simp only [Act.put, List.setIfInBounds_toArray, List.set_cons_zero, List.set_cons_succ, i64_w, i32_w]
    rfl
  refine pure_ (i := 2) (N := some 12) (v := ?_) (a' := ?_) #[true, false, true, false, false, false, false, false, false, false, false, false, false] rfl rfl (by kernel_rfl) (fun _ _ _ h => h) (Or.inl ⟨by rfl, ?_⟩) ?_ ?_
  rotate_left
  · intro w'
    go_simp
    with_reducible rfl
  rotate_left
  · simp only [Act.put, List.setIfInBounds_toArray, List.set_cons_zero, List.set_cons_succ, i64_w, i32_w]
    rfl
  refine pure_ (i := 3) (N := some 13) (v := ?_) (a' := ?_) #[true, false, true, true, false, false, false, false, false, false, false, false, false] rfl rfl (by kernel_rfl) (fun _ _ _ h => h) (Or.inl ⟨by rfl, ?_⟩) ?_ ?_
  rotate_left
  · intro w'
    go_simp
    with_reducible rfl
  rotate_left
  · simp only [Act.put, List.setIfInBounds_toArray, List.set_cons_zero, List.set_cons_succ, i64_w, i32_w]
    rfl
  refine pure_ (i := 4) (N := some 14) (v := ?_) (a' := ?_) #[true, false, true, true, true, false, false, false, false, false, false, false, false] rfl rfl (by kernel_rfl) (fun _ _ _ h => h) (Or.inl ⟨by rfl, ?_⟩) ?_ ?_
  rotate_left
  · intro w'
    go_simp
    with_reducible rfl
  rotate_left
  · simp only [Act.put, List.setIfInBounds_toArray, List.set_cons_zero, List.set_cons_succ, i64_w, i32_w]
    rfl
  refine take_ (i := 1) (N := some 11) (v := ?_) (a' := ?_) #[true, true, true, true, true, false, false, false, false, false, false, false, false] rfl rfl (by kernel_rfl) (fun _ _ _ h => h) (Or.inl ⟨by rfl, ?_⟩) hHeld ?_ ?_
  rotate_left
  · rintro w' ⟨s0, s1, s2⟩
    have t0 : w'.cell? ⟨p, 0, none⟩ = some (.pointer (some ⟨pr, 0, none⟩)) := blk_cell s0 0
    have t1 : w'.cell? ⟨Q, 0, none⟩ = some (.int .i64 a) := blk_cell s1 0
    have t2 : w'.cell? ⟨Q, 1, none⟩ = some (.int .i64 b) := blk_cell s1 1
    go_simp
    with_reducible rfl
  rotate_left
  · simp only [Act.put, List.setIfInBounds_toArray, List.set_cons_zero, List.set_cons_succ, i64_w, i32_w]
    rfl
  refine take_ (i := 5) (N := some 15) (v := ?_) (a' := ?_) #[true, true, true, true, true, true, false, false, false, false, false, false, false] rfl rfl (by kernel_rfl) (fun _ _ _ h => h) (Or.inl ⟨by rfl, ?_⟩) hHeld ?_ ?_
  rotate_left
  · rintro w' ⟨s0, s1, s2⟩
    have t0 : w'.cell? ⟨p, 0, none⟩ = some (.pointer (some ⟨pr, 0, none⟩)) := blk_cell s0 0
    have t1 : w'.cell? ⟨Q, 0, none⟩ = some (.int .i64 a) := blk_cell s1 0
    have t2 : w'.cell? ⟨Q, 1, none⟩ = some (.int .i64 b) := blk_cell s1 1
    go_simp
    with_reducible rfl
  rotate_left
  · simp only [Act.put, List.setIfInBounds_toArray, List.set_cons_zero, List.set_cons_succ, i64_w, i32_w]
    rfl
  refine take_ (i := 6) (N := some 16) (v := ?_) (a' := ?_) #[true, true, true, true, true, true, true, false, false, false, false, false, false] rfl rfl (by kernel_rfl) (fun _ _ _ h => h) (Or.inl ⟨by rfl, ?_⟩) hHeld ?_ ?_
  rotate_left
  · rintro w' ⟨s0, s1, s2⟩
    have t0 : w'.cell? ⟨p, 0, none⟩ = some (.pointer (some ⟨pr, 0, none⟩)) := blk_cell s0 0
    have t1 : w'.cell? ⟨Q, 0, none⟩ = some (.int .i64 a) := blk_cell s1 0
    have t2 : w'.cell? ⟨Q, 1, none⟩ = some (.int .i64 b) := blk_cell s1 1
    go_simp
    with_reducible rfl
  rotate_left
  · simp only [Act.put, List.setIfInBounds_toArray, List.set_cons_zero, List.set_cons_succ, i64_w, i32_w]
    rfl
  refine one_ (i := 7) (N := some 17) #[true, true, true, true, true, true, true, true, false, false, false, false, false] rfl rfl (by kernel_rfl) (by decide) (fun K hK => ?_)
  refine goes_ Try.func20 (by kernel_rfl) rfl #[.pointer (some ⟨pr, 0, none⟩), .agg #[.int .i64 a, .int .i64 b]] (by rfl) rfl rfl (by simp only [List.map_toArray, List.map_cons, List.map_nil]; rfl) ?_
  with_reducible refine (HG.out).mono ?_
  rintro e w1 hh
  obtain ⟨vr, rfl, hor, h1⟩ := hh
  obtain ⟨Ar, cr, hvr⟩ := row_form hor
  subst hvr
  have HKD := Aside0.mk (kdC_of hor (by omega))
  have HB1 := Aside0.mk ((pw_below_drewN HW.out 1).trans (h1.mono HW.out.size))
  have k0 := (h1.block _ (blk_lt hHeld.1)).trans hHeld.1
  have k1 := (h1.block _ (blk_lt hHeld.2.1)).trans hHeld.2.1
  have k2 : ∃ e0 e1 e2 e3 e4, w1.heap[Q + 1]? = some (.cells #[e0, e1, e2, e3, e4] 31 (0, 0)) := by obtain ⟨e0, e1, e2, e3, e4, he⟩ := hHeld.2.2; exact ⟨e0, e1, e2, e3, e4, (h1.block _ (blk_lt he)).trans he⟩
  clear h1 hor
  refine ⟨_, rfl, ?_⟩
  refine hK.out _ _ ⟨k0, k1, k2⟩ (fun hHeld => ?_)
  clear hK K
  refine norm_ (a' := ?_) ?_ ?_
  rotate_left
  · show Act.put _ (some 17) _ = _
    simp only [Act.put, List.setIfInBounds_toArray, List.set_cons_zero, List.set_cons_succ, i64_w, i32_w]
    rfl
  refine one_ (i := 8) (N := some 18) #[true, true, true, true, true, true, true, true, true, false, false, false, false] rfl rfl (by kernel_rfl) (by decide) (fun K hK => ?_)
  refine goes_ Try.func51 (by kernel_rfl) rfl #[.int .i64 a, .slice Ar L.length cr] (by rfl) rfl rfl (by simp only [List.map_toArray, List.map_cons, List.map_nil]; rfl) ?_
  with_reducible refine (roll_Of.calls 300 a Ar cr L _ _ _ _ _ _ w1 HKD.out.1 HKD.out.2 HOF.out).mono ?_
  rintro e w2 hh
  obtain ⟨rfl, h2⟩ := hh
  have HB2 := Aside0.mk (HB1.out.trans (h2.mono HB1.out.size))
  have k0 := (h2.block _ (blk_lt hHeld.1)).trans hHeld.1
  have k1 := (h2.block _ (blk_lt hHeld.2.1)).trans hHeld.2.1
  have k2 : ∃ e0 e1 e2 e3 e4, w2.heap[Q + 1]? = some (.cells #[e0, e1, e2, e3, e4] 31 (0, 0)) := by obtain ⟨e0, e1, e2, e3, e4, he⟩ := hHeld.2.2; exact ⟨e0, e1, e2, e3, e4, (h2.block _ (blk_lt he)).trans he⟩
  clear h2 HKD
  refine ⟨_, rfl, ?_⟩
  refine hK.out _ _ ⟨k0, k1, k2⟩ (fun hHeld => ?_)
  clear hK K
  refine norm_ (a' := ?_) ?_ ?_
  rotate_left
  · show Act.put _ (some 18) _ = _
    simp only [Act.put, List.setIfInBounds_toArray, List.set_cons_zero, List.set_cons_succ, i64_w, i32_w]
    rfl
  refine pure_ (i := 9) (N := some 19) (v := ?_) (a' := ?_) #[true, true, true, true, true, true, true, true, true, true, false, false, false] rfl rfl (by kernel_rfl) (fun _ _ _ h => h) (Or.inl ⟨by rfl, ?_⟩) ?_ ?_
  rotate_left
  · intro w'
    go_simp
    with_reducible rfl
  rotate_left
  · simp only [Act.put, List.setIfInBounds_toArray, List.set_cons_zero, List.set_cons_succ, i64_w, i32_w]
    rfl
  refine pure_ (i := 10) (N := some 20) (v := ?_) (a' := ?_) #[true, true, true, true, true, true, true, true, true, true, true, false, false] rfl rfl (by kernel_rfl) (fun _ _ _ h => h) (Or.inl ⟨by rfl, ?_⟩) ?_ ?_
  rotate_left
  · intro w'
    go_simp
    with_reducible rfl
  rotate_left
  · simp only [Act.put, List.setIfInBounds_toArray, List.set_cons_zero, List.set_cons_succ, i64_w, i32_w]
    rfl
  refine one_ (i := 11) (N := none) #[true, true, true, true, true, true, true, true, true, true, true, true, false] rfl rfl (by kernel_rfl) (by decide) (fun K hK => ?_)
  obtain ⟨e0, e1, e2, e3, e4, he⟩ := hHeld.2.2
  have hne0 : p ≠ Q + 1 := fun e => by have h := hHeld.1; rw [e, he] at h; injection h with h; injection h with _ h; cases h
  have hne1 : Q ≠ Q + 1 := by omega
  have HST := st5_of he (.int .i64 (ofP a L).1.f0) (.int .i64 (ofP a L).1.f1) (.int .i64 (ofP a L).1.f2) (.int .i64 (ofP a L).1.f3) (.int .i64 (ofP a L).1.f4)
  obtain ⟨c0, y0⟩ := HST.c0
  obtain ⟨c1, y1⟩ := HST.c1
  obtain ⟨c2, y2⟩ := HST.c2
  obtain ⟨c3, y3⟩ := HST.c3
  obtain ⟨c4, y4⟩ := HST.c4
  have x0 := HST.f0
  have x1 := HST.f1
  have x2 := HST.f2
  have x3 := HST.f3
  have x4 := HST.f4
  have HFIN := Aside0.mk HST.fin
  clear HST he
  refine skip_ (w1 := ?_) (by rfl) rfl ?_ ?_
  rotate_left
  · go_simp
    rfl
  clear x0 x1 x2 x3 x4 y0 y1 y2 y3 y4
  refine hK.out _ _ ⟨(st5_far hne0 _ _ _ _ _).trans hHeld.1, (st5_far hne1 _ _ _ _ _).trans hHeld.2.1, ⟨_, _, _, _, _, HFIN.out⟩⟩ (fun hHeld => ?_)
  clear hK K
  refine pure_ (i := 12) (N := some 7) (v := ?_) (a' := ?_) #[true, true, true, true, true, true, true, true, true, true, true, true, true] rfl rfl (by kernel_rfl) (fun _ _ _ h => h) (Or.inl ⟨by rfl, ?_⟩) ?_ ?_
  rotate_left
  · intro w'
    go_simp
    with_reducible rfl
  rotate_left
  · simp only [Act.put, List.setIfInBounds_toArray, List.set_cons_zero, List.set_cons_succ, i64_w, i32_w]
    rfl
  refine done_ (by kernel_rfl) ?_
  have HBF := Aside0.mk (st5_below HB2.out (show w.heap.size ≤ Q + 1 by have := HQ.out; omega) (.int .i64 (ofP a L).1.f0) (.int .i64 (ofP a L).1.f1) (.int .i64 (ofP a L).1.f2) (.int .i64 (ofP a L).1.f3) (.int .i64 (ofP a L).1.f4))
  obtain ⟨f0, f1, f2⟩ := hHeld
  have f3 := HFIN.out
  unfold st5 at HBF
  obtain ⟨Z, hZ⟩ : ∃ Z, Z = ((((w2.setCell ⟨Q + 1, 0, none⟩ (.int .i64 (ofP a L).1.f0)).setCell ⟨Q + 1, 1, none⟩ (.int .i64 (ofP a L).1.f1)).setCell ⟨Q + 1, 2, none⟩ (.int .i64 (ofP a L).1.f2)).setCell ⟨Q + 1, 3, none⟩ (.int .i64 (ofP a L).1.f3)).setCell ⟨Q + 1, 4, none⟩ (.int .i64 (ofP a L).1.f4) := ⟨_, rfl⟩
  rw [← hZ] at HBF f3 ⊢
  have d0 : Z.cell? ⟨Q + 1, 0, none⟩ = some (.int .i64 (ofP a L).1.f0) := blk_cell f3 0
  have d1 : Z.cell? ⟨Q + 1, 1, none⟩ = some (.int .i64 (ofP a L).1.f1) := blk_cell f3 1
  have d2 : Z.cell? ⟨Q + 1, 2, none⟩ = some (.int .i64 (ofP a L).1.f2) := blk_cell f3 2
  have d3 : Z.cell? ⟨Q + 1, 3, none⟩ = some (.int .i64 (ofP a L).1.f3) := blk_cell f3 3
  have d4 : Z.cell? ⟨Q + 1, 4, none⟩ = some (.int .i64 (ofP a L).1.f4) := blk_cell f3 4
  clear hZ f0 f1 f2 f3
  go_wp2
  exact bodyPost_ret (v := .tuple #[.agg #[.int .i64 (ofP a L).1.f0, .int .i64 (ofP a L).1.f1, .int .i64 (ofP a L).1.f2, .int .i64 (ofP a L).1.f3, .int .i64 (ofP a L).1.f4], .bool (ofP a L).2]) (by simp [results, Try.results83, go_sem, d0, d1, d2, d3, d4]) rfl ⟨rfl, HBF.out⟩
set_option maxRecDepth 100000 in
set_option maxHeartbeats 32000000 in
theorem tof2_calls (F : Nat → Prop) (p : Nat) (s : Stk) (a b : Int) (w : World) (hS : IsStk F p s w) (ht : Tk s.a1) :
    Calls Try.prog 83 #[.pointer (some ⟨p, 0, none⟩), .int .i64 2, .agg #[.int .i64 a, .int .i64 b]] w (OfPost (joinP a (aggR 300 a b s.a1)) w) := by
  obtain ⟨pr, v1, v2, hp, hsr, _⟩ := hS.row
  have hlr := hsr.len
  have hl1 := hS.l1
  have hu42 := Try.underlying42
  have hu100 := Try.underlying100
  have hu31 := Try.underlying31
  obtain ⟨W, hW⟩ : ∃ W, W = (w.alloc (.cells #[.int .i64 a, .int .i64 b] 42)).alloc (.cells #[.int .i64 0, .int .i64 0, .int .i64 0, .int .i64 0, .int .i64 0] 31) := ⟨_, rfl⟩
  obtain ⟨Q, hQ⟩ : ∃ Q, Q = w.heap.size := ⟨_, rfl⟩
  have hWb : Below w.heap.size w W := by rw [hW]; exact ((Below.refl _ _).alloc (Nat.le_refl _) _).alloc (by simp) _
  have hQc : W.heap[Q]? = some (.cells #[.int .i64 a, .int .i64 b] 42 (0, 0)) := by rw [hW, hQ]; exact blk_alloc (blk_new w _) _
  have hRc : W.heap[Q + 1]? = some (.cells #[.int .i64 0, .int .i64 0, .int .i64 0, .int .i64 0, .int .i64 0] 31 (0, 0)) := by rw [hW, hQ]; exact heap_alloc2_new w _ _
  have hpW := (hWb.block p (blk_lt hp)).trans hp
  have HW := Aside0.mk hWb
  have HQ := Aside0.mk hQ
  have HSW := Aside0.mk (hS.below hWb)
  have HSR := Aside0.mk (hsr.below hWb)
  have q0 := hpW
  have q1 := hQc
  have q2 : ∃ e0 e1 e2 e3 e4, W.heap[Q + 1]? = some (.cells #[e0, e1, e2, e3, e4] 31 (0, 0)) := ⟨_, _, _, _, _, hRc⟩
  obtain ⟨L, hL⟩ : ∃ L, L = aggR 300 a b s.a1 := ⟨_, rfl⟩
  have hLe : L.length ≤ 256 := by rw [hL]; exact Nat.le_trans (List.length_filter_le _ _) hl1
  rw [← hL]
  have hg := taggs1_calls F p s a b W.drew (HSW.out.below (pw_below_drewN (Below.refl _ _) 1)) ht
  rw [← hL] at hg
  have HG := Aside0.mk hg
  have HOF := Aside0.mk (join_isP a L hLe)
  have hLL : L.length ≤ 256 := hLe
  clear hg
  clear hS hp hsr hWb hQc hRc hpW hLe hL ht
  go_enter Try.func83, Try.ntmps83
  go_upto_region 1 with (fail)
  rw [← hW, ← hQ]
  clear hW hQ
  go_wp2_with fail
  refine start_ (n := 10) (S := fun w' => (w'.heap[p]? = some (.cells (stkCells pr v1 v2 s) 100 (0, 0))) ∧ (w'.heap[Q]? = some (.cells #[.int .i64 a, .int .i64 b] 42 (0, 0))) ∧ (∃ e0 e1 e2 e3 e4, w'.heap[Q + 1]? = some (.cells #[e0, e1, e2, e3, e4] 31 (0, 0)))) (ds := []) #[false, false, false, false, false, false, false, false, false, false] (by kernel_rfl) rfl rfl ⟨q0, q1, q2⟩ (fun hHeld => ?_)
  refine pure_ (i := 0) (N := some 21) (v := ?_) (a' := ?_) #[true, false, false, false, false, false, false, false, false, false] rfl rfl (by kernel_rfl) (fun _ _ _ h => h) (Or.inl ⟨by rfl, ?_⟩) ?_ ?_
  rotate_left
  · intro w'
    go_simp
    with_reducible rfl
  rotate_left
  · simp only [Act.put, List.setIfInBounds_toArray, List.set_cons_zero, List.set_cons_succ, i64_w, i32_w]
    rfl
  refine pure_ (i := 2) (N := some 23) (v := ?_) (a' := ?_) #[true, false, true, false, false, false, false, false, false, false] rfl rfl (by kernel_rfl) (fun _ _ _ h => h) (Or.inl ⟨by rfl, ?_⟩) ?_ ?_
  rotate_left
  · intro w'
    go_simp
    with_reducible rfl
  rotate_left
  · simp only [Act.put, List.setIfInBounds_toArray, List.set_cons_zero, List.set_cons_succ, i64_w, i32_w]
    rfl
  refine take_ (i := 1) (N := some 22) (v := ?_) (a' := ?_) #[true, true, true, false, false, false, false, false, false, false] rfl rfl (by kernel_rfl) (fun _ _ _ h => h) (Or.inl ⟨by rfl, ?_⟩) hHeld ?_ ?_
  rotate_left
  · rintro w' ⟨s0, s1, s2⟩
    have t0 : w'.cell? ⟨p, 0, none⟩ = some (.pointer (some ⟨pr, 0, none⟩)) := blk_cell s0 0
    have t1 : w'.cell? ⟨Q, 0, none⟩ = some (.int .i64 a) := blk_cell s1 0
    have t2 : w'.cell? ⟨Q, 1, none⟩ = some (.int .i64 b) := blk_cell s1 1
    go_simp
    with_reducible rfl
  rotate_left
  · simp only [Act.put, List.setIfInBounds_toArray, List.set_cons_zero, List.set_cons_succ, i64_w, i32_w]
    rfl
  refine take_ (i := 3) (N := some 24) (v := ?_) (a' := ?_) #[true, true, true, true, false, false, false, false, false, false] rfl rfl (by kernel_rfl) (fun _ _ _ h => h) (Or.inl ⟨by rfl, ?_⟩) hHeld ?_ ?_
  rotate_left
  · rintro w' ⟨s0, s1, s2⟩
    have t0 : w'.cell? ⟨p, 0, none⟩ = some (.pointer (some ⟨pr, 0, none⟩)) := blk_cell s0 0
    have t1 : w'.cell? ⟨Q, 0, none⟩ = some (.int .i64 a) := blk_cell s1 0
    have t2 : w'.cell? ⟨Q, 1, none⟩ = some (.int .i64 b) := blk_cell s1 1
    go_simp
    with_reducible rfl
  rotate_left
  · simp only [Act.put, List.setIfInBounds_toArray, List.set_cons_zero, List.set_cons_succ, i64_w, i32_w]
    rfl
  refine one_ (i := 4) (N := some 25) #[true, true, true, true, true, false, false, false, false, false] rfl rfl (by kernel_rfl) (by decide) (fun K hK => ?_)
  refine goes_ Try.func35 (by kernel_rfl) rfl #[.pointer (some ⟨p, 0, none⟩), .int .i64 1, .agg #[.int .i64 a, .int .i64 b]] (by rfl) rfl rfl (by simp only [List.map_toArray, List.map_cons, List.map_nil]; rfl) ?_
  with_reducible refine (HG.out).mono ?_
  rintro e w1 hh
  obtain ⟨vr, rfl, hor, h1⟩ := hh
  obtain ⟨Ar, cr, hvr⟩ := row_form hor
  subst hvr
  have HKD := Aside0.mk (kdC_ofQ hor (by omega))
  have HB1 := Aside0.mk ((pw_below_drewN HW.out 1).trans (h1.mono HW.out.size))
  have k0 := (h1.block _ (blk_lt hHeld.1)).trans hHeld.1
  have k1 := (h1.block _ (blk_lt hHeld.2.1)).trans hHeld.2.1
  have k2 : ∃ e0 e1 e2 e3 e4, w1.heap[Q + 1]? = some (.cells #[e0, e1, e2, e3, e4] 31 (0, 0)) := by obtain ⟨e0, e1, e2, e3, e4, he⟩ := hHeld.2.2; exact ⟨e0, e1, e2, e3, e4, (h1.block _ (blk_lt he)).trans he⟩
  clear h1 hor
  refine ⟨_, rfl, ?_⟩
  refine hK.out _ _ ⟨k0, k1, k2⟩ (fun hHeld => ?_)
  clear hK K
  refine norm_ (a' := ?_) ?_ ?_
  rotate_left
  · show Act.put _ (some 25) _ = _
    simp only [Act.put, List.setIfInBounds_toArray, List.set_cons_zero, List.set_cons_succ, i64_w, i32_w]
    rfl
  refine one_ (i := 5) (N := some 26) #[true, true, true, true, true, true, false, false, false, false] rfl rfl (by kernel_rfl) (by decide) (fun K hK => ?_)
  refine goes_ Try.func58 (by kernel_rfl) rfl #[.int .i64 a, .slice Ar L.length cr] (by rfl) rfl rfl (by simp only [List.map_toArray, List.map_cons, List.map_nil]; rfl) ?_
  with_reducible refine (roll_Join.calls 300 a Ar cr L _ _ _ _ _ _ w1 HKD.out.1 HKD.out.2 HOF.out).mono ?_
  rintro e w2 hh
  obtain ⟨rfl, h2⟩ := hh
  have HB2 := Aside0.mk (HB1.out.trans (h2.mono HB1.out.size))
  have k0 := (h2.block _ (blk_lt hHeld.1)).trans hHeld.1
  have k1 := (h2.block _ (blk_lt hHeld.2.1)).trans hHeld.2.1
  have k2 : ∃ e0 e1 e2 e3 e4, w2.heap[Q + 1]? = some (.cells #[e0, e1, e2, e3, e4] 31 (0, 0)) := by obtain ⟨e0, e1, e2, e3, e4, he⟩ := hHeld.2.2; exact ⟨e0, e1, e2, e3, e4, (h2.block _ (blk_lt he)).trans he⟩
  clear h2 HKD
  refine ⟨_, rfl, ?_⟩
  refine hK.out _ _ ⟨k0, k1, k2⟩ (fun hHeld => ?_)
  clear hK K
  refine norm_ (a' := ?_) ?_ ?_
  rotate_left
  · show Act.put _ (some 26) _ = _
    simp only [Act.put, List.setIfInBounds_toArray, List.set_cons_zero, List.set_cons_succ, i64_w, i32_w]
    rfl
  refine pure_ (i := 6) (N := some 27) (v := ?_) (a' := ?_) #[true, true, true, true, true, true, true, false, false, false] rfl rfl (by kernel_rfl) (fun _ _ _ h => h) (Or.inl ⟨by rfl, ?_⟩) ?_ ?_
  rotate_left
  · intro w'
    go_simp
    with_reducible rfl
  rotate_left
  · simp only [Act.put, List.setIfInBounds_toArray, List.set_cons_zero, List.set_cons_succ, i64_w, i32_w]
    rfl
  refine pure_ (i := 7) (N := some 28) (v := ?_) (a' := ?_) #[true, true, true, true, true, true, true, true, false, false] rfl rfl (by kernel_rfl) (fun _ _ _ h => h) (Or.inl ⟨by rfl, ?_⟩) ?_ ?_
  rotate_left
  · intro w'
    go_simp
    with_reducible rfl
  rotate_left
  · simp only [Act.put, List.setIfInBounds_toArray, List.set_cons_zero, List.set_cons_succ, i64_w, i32_w]
    rfl
  refine one_ (i := 8) (N := none) #[true, true, true, true, true, true, true, true, true, false] rfl rfl (by kernel_rfl) (by decide) (fun K hK => ?_)
  obtain ⟨e0, e1, e2, e3, e4, he⟩ := hHeld.2.2
  have hne0 : p ≠ Q + 1 := fun e => by have h := hHeld.1; rw [e, he] at h; injection h with h; injection h with _ h; cases h
  have hne1 : Q ≠ Q + 1 := by omega
  have HST := st5_of he (.int .i64 (joinP a L).1.f0) (.int .i64 (joinP a L).1.f1) (.int .i64 (joinP a L).1.f2) (.int .i64 (joinP a L).1.f3) (.int .i64 (joinP a L).1.f4)
  obtain ⟨c0, y0⟩ := HST.c0
  obtain ⟨c1, y1⟩ := HST.c1
  obtain ⟨c2, y2⟩ := HST.c2
  obtain ⟨c3, y3⟩ := HST.c3
  obtain ⟨c4, y4⟩ := HST.c4
  have x0 := HST.f0
  have x1 := HST.f1
  have x2 := HST.f2
  have x3 := HST.f3
  have x4 := HST.f4
  have HFIN := Aside0.mk HST.fin
  clear HST he
  refine skip_ (w1 := ?_) (by rfl) rfl ?_ ?_
  rotate_left
  · go_simp
    rfl
  clear x0 x1 x2 x3 x4 y0 y1 y2 y3 y4
  refine hK.out _ _ ⟨(st5_far hne0 _ _ _ _ _).trans hHeld.1, (st5_far hne1 _ _ _ _ _).trans hHeld.2.1, ⟨_, _, _, _, _, HFIN.out⟩⟩ (fun hHeld => ?_)
  clear hK K
  refine pure_ (i := 9) (N := some 7) (v := ?_) (a' := ?_) #[true, true, true, true, true, true, true, true, true, true] rfl rfl (by kernel_rfl) (fun _ _ _ h => h) (Or.inl ⟨by rfl, ?_⟩) ?_ ?_
  rotate_left
  · intro w'
    go_simp
    with_reducible rfl
  rotate_left
  · simp only [Act.put, List.setIfInBounds_toArray, List.set_cons_zero, List.set_cons_succ, i64_w, i32_w]
    rfl
  refine done_ (by kernel_rfl) ?_
  have HBF := Aside0.mk (st5_below HB2.out (show w.heap.size ≤ Q + 1 by have := HQ.out; omega) (.int .i64 (joinP a L).1.f0) (.int .i64 (joinP a L).1.f1) (.int .i64 (joinP a L).1.f2) (.int .i64 (joinP a L).1.f3) (.int .i64 (joinP a L).1.f4))
  obtain ⟨f0, f1, f2⟩ := hHeld
  have f3 := HFIN.out
  unfold st5 at HBF
  obtain ⟨Z, hZ⟩ : ∃ Z, Z = ((((w2.setCell ⟨Q + 1, 0, none⟩ (.int .i64 (joinP a L).1.f0)).setCell ⟨Q + 1, 1, none⟩ (.int .i64 (joinP a L).1.f1)).setCell ⟨Q + 1, 2, none⟩ (.int .i64 (joinP a L).1.f2)).setCell ⟨Q + 1, 3, none⟩ (.int .i64 (joinP a L).1.f3)).setCell ⟨Q + 1, 4, none⟩ (.int .i64 (joinP a L).1.f4) := ⟨_, rfl⟩
  rw [← hZ] at HBF f3 ⊢
  have d0 : Z.cell? ⟨Q + 1, 0, none⟩ = some (.int .i64 (joinP a L).1.f0) := blk_cell f3 0
  have d1 : Z.cell? ⟨Q + 1, 1, none⟩ = some (.int .i64 (joinP a L).1.f1) := blk_cell f3 1
  have d2 : Z.cell? ⟨Q + 1, 2, none⟩ = some (.int .i64 (joinP a L).1.f2) := blk_cell f3 2
  have d3 : Z.cell? ⟨Q + 1, 3, none⟩ = some (.int .i64 (joinP a L).1.f3) := blk_cell f3 3
  have d4 : Z.cell? ⟨Q + 1, 4, none⟩ = some (.int .i64 (joinP a L).1.f4) := blk_cell f3 4
  clear hZ f0 f1 f2 f3
  go_wp2
  exact bodyPost_ret (v := .tuple #[.agg #[.int .i64 (joinP a L).1.f0, .int .i64 (joinP a L).1.f1, .int .i64 (joinP a L).1.f2, .int .i64 (joinP a L).1.f3, .int .i64 (joinP a L).1.f4], .bool (joinP a L).2]) (by simp [results, Try.results83, go_sem, d0, d1, d2, d3, d4]) rfl ⟨rfl, HBF.out⟩
end Go.Proofs.Ytnjdngjlbonieaa
