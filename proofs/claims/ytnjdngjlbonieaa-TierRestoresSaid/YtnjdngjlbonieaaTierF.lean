/- series.All, ranged over; the soonest of a stock, walked. -/
import Derived.Test.YtnjdngjlbonieaaTierE
import Derived.RangeFuncNested
import Derived.RangeFuncBound
import Derived.RangeFuncCalls
import Derived.RangeFuncLeaves
import Derived.RangeFuncFrom
import Derived.Shelf.Abstract
import Derived.Shelf.RegionOpen
import Derived.OwnWalkIn
import Derived.TacticsInMore
import Derived.LoopNIn
import Derived.LoopIn
import Derived.Deep.RegionHeld3
import Derived.Lib.Hide
import Derived.LoopTactic
import Derived.Outline
import Derived.Laws.Rows
import Derived.Laws.CopyOwn
import Derived.WalkKit
set_option linter.unusedVariables false
set_option linter.unusedSimpArgs false
namespace Go.Proofs.Ytnjdngjlbonieaa
open Go.RowKit Go.Proofs.YtnjdngjlbonieaaW.PrintWords Go.Proofs.YtnjdngjlbonieaaW.PrintLast Go.Proofs.YtnjdngjlbonieaaW.PrintMore
open Go.Proofs.Ytnjdngjlbonieaa.PTierForgets
attribute [local go_sem] max2_int min2_int max_two min_two max_three min_three max_four min_four

open Go.Shelf
attribute [local go_sem] Oper.semAt_some
abbrev encP (x : S29) : Array Value := #[Value.agg #[.int .i64 x.f0, .int .i64 x.f1]]
set_option maxRecDepth 100000 in
theorem all_calls (v : Value) (w : World) (hv : v = .pointer none ∨ ∃ a, v = .pointer (some a)) : Calls Try.prog 27 #[v] w fun e w' => e = .returned (.func (.func 65) #[] #[.pointer (some ⟨w.heap.size, 0, none⟩)]) ∧ w' = w.alloc (.cells #[v] 35) := by
  rcases hv with rfl | ⟨a, rfl⟩
  · go_enter Try.func27, Try.ntmps27
    go_wp2
    go_ret
    exact ⟨rfl, rfl⟩
  · go_enter Try.func27, Try.ntmps27
    go_wp2
    go_ret
    exact ⟨rfl, rfl⟩
set_option maxRecDepth 100000 in
set_option maxHeartbeats 16000000 in
theorem all_in (n lp Bs n₀ pr ca : Nat) (A : Option Addr) (l : List S29) (hn : 1 ≤ n) (hl : l.length ≤ 256) (J Jx : List S29 → World → Prop) (W : World)
    (hY : ∀ pre x W1, J pre W1 → pre.length < l.length → YieldAt Fence.wide (n - 1) Try.prog lp (encP x) W1 fun e W' => (e = .returned (.bool true) ∧ J (pre ++ [x]) W' ∧ Below n₀ W1 W') ∨ (e = .returned (.bool false) ∧ Jx (pre ++ [x]) W'))
    (hJ : AbidesFrom W.heap.size J) (hB : Bs < n₀) (hbs : W.cell? ⟨Bs, 0, none⟩ = some (.pointer (some ⟨pr, 0, none⟩))) (hp : pr < n₀) (hpr : W.cell? ⟨pr, 0, none⟩ = some (.slice A l.length ca)) (ho : W.ownsRow 0 29 2 (.slice A l.length ca) l.length (l.flatMap cellsP)) (hob : ∀ g, (Value.slice A l.length ca).ownBlock = some g → g < n₀) (hn0 : n₀ ≤ W.heap.size) (h0 : J [] W) :
    CallsIn Fence.wide n Try.prog 65 #[.func (.yield lp) #[] #[], .pointer (some ⟨Bs, 0, none⟩)] W fun e W' => (∃ v, e = .returned v) ∧ ((∃ xs, xs = l ∧ J xs W') ∨ (∃ pre, pre <+: l ∧ Jx pre W')) := by
  have hu91 := Try.underlying91
  have hu29 := Try.underlying29
  have hnn : (binOp .eql 35 (.pointer (some ⟨pr, 0, none⟩)) (.pointer none)).run Try.prog W = .ok (.bool false) W := by go_simp
  have HO := Aside0.mk ho
  have HOB := Lib.hid hob
  have HY := Lib.hid hY
  have HJ := Lib.hid hJ
  have H0 := Aside0.mk h0
  clear ho hob hY hJ h0
  refine callsIn_of_wp Try.func65 rfl trivial ?_ rfl
  simp only [Try.ntmps65, List.size_toArray, List.length_cons, List.length_nil, Nat.reduceAdd, Nat.reduceSub, Array.replicate_succ, Array.replicate_zero, List.push_toArray, List.append_toArray, List.nil_append, List.cons_append]
  gi_wp2
  gi_loopw [12] (fun v12 wr => ∃ j : Nat, j ≤ l.length ∧ v12 = .int .i64 (j : Int) ∧ Aside0 (J (l.take j) wr) ∧ Aside0 (Below n₀ W wr)) (fun v12 _ => l.length - (intOf v12).toNat)
  case atStart => exact ⟨0, by omega, rfl, H0, ⟨Below.refl _ _⟩⟩
  case round =>
    obtain ⟨j, hj, rfl, HJs, HBs⟩ := hrel
    by_cases hlt : j < l.length
    · obtain ⟨g, cg, cur, hvg, hgb, _⟩ := row_pos HO.out (by omega)
      injection hvg with hA _ hcg
      subst hA
      clear hcg hgb
      obtain ⟨x, hx⟩ : ∃ x, l[j]? = some x := ⟨_, List.getElem?_eq_getElem hlt⟩
      have key : ∀ i, i < 2 → W.cell? ⟨g, j * 2 + i, none⟩ = (cellsP x)[i]? := fun i hi => by
        rw [HO.out.cellAt (j * 2 + i) (by omega), flat_at cellsP 2 (fun _ => rfl) l j x i hx hi]
      have hgn : g < n₀ := HOB.out g rfl
      have u0 : wr.cell? ⟨g, j * 2, none⟩ = some (.int .i64 x.f0) := (HBs.out.cell (p := ⟨g, j * 2, none⟩) hgn).trans (key 0 (by decide))
      have u1 : wr.cell? ⟨g, j * 2 + 1, none⟩ = some (.int .i64 x.f1) := (HBs.out.cell (p := ⟨g, j * 2 + 1, none⟩) hgn).trans (key 1 (by decide))
      have hjl : (j : Int) < (l.length : Int) := by omega
      obtain ⟨W1, hW1⟩ : ∃ W1, W1 = wr.alloc (.cells #[.int .i64 x.f0, .int .i64 x.f1] 29) := ⟨_, rfl⟩
      have hJ1 : J (l.take j) W1 := by rw [hW1]; exact HJ.out _ _ _ none HJs.out (World.grownBy_alloc wr _ none) (fun r e => by cases e)
      have hB1 : Below n₀ W W1 := by rw [hW1]; exact HBs.out.alloc (Nat.le_trans hn0 HBs.out.size) _
      have HX := Aside0.mk hx
      have HB1 := Aside0.mk hB1
      obtain ⟨fn, tmps, assign, body, hy, hR⟩ := HY.out (l.take j) x W1 hJ1 (by rw [List.length_take]; omega)
      have HR := Aside0.mk hR
      have htk : l.take (j + 1) = l.take j ++ [x] := by
        obtain ⟨hj2, he⟩ := List.getElem?_eq_some_iff.1 hx
        rw [List.take_succ_eq_append_getElem hj2, he]
      have HTK := Aside0.mk htk
      rw [hW1] at hy
      clear hx key hJ1 hB1 hR htk
      gi_wp2
      rw [← hW1]
      refine HR.out.mono ?_
      rintro e W3 (⟨rfl, hJ3, hk3⟩ | ⟨rfl, hJx3⟩)
      · have HJ3 := Aside0.mk (show J (l.take (j + 1)) W3 by rw [HTK.out]; exact hJ3)
        have HB3 := Aside0.mk (HB1.out.trans hk3)
        clear hJ3 hk3 u0 u1 hy
        gi_wp2
        go_roundw
        case rel => exact ⟨j + 1, by omega, by go_num, HJ3, HB3⟩
        case measure => simp [intOf]; omega
      · have HJX := Aside0.mk (show Jx (l.take (j + 1)) W3 by rw [HTK.out]; exact hJx3)
        clear hJx3 u0 u1 hy
        gi_wp2
        refine bodyPost_ret (results_none rfl _ _ _) rfl ?_
        exact ⟨⟨_, rfl⟩, .inr ⟨l.take (j + 1), List.take_prefix _ _, HJX.out⟩⟩
    · have hje : j = l.length := by omega
      subst hje
      have hJs := HJs.out
      rw [List.take_length] at hJs
      have HJ2 := Aside0.mk hJs
      clear hJs HJs hlt hj
      gi_wp2
      go_end0
      exact ⟨⟨_, rfl⟩, .inl ⟨_, rfl, HJ2.out⟩⟩
theorem all_stops (n Bs n₀ pr : Nat) (F : Nat → Prop) (l : List S29) (w : World) (hn : 1 ≤ n) (hc : w.cell? ⟨Bs, 0, none⟩ = some (.pointer (some ⟨pr, 0, none⟩))) (hB : Bs < n₀) (hS : IsSer F pr l w) (hF : ∀ b, F b → b < n₀) (hn0 : n₀ ≤ w.heap.size) :
    SeqStopsK Fence.wide n Try.prog 65 #[.pointer (some ⟨Bs, 0, none⟩)] encP (Below n₀) (fun xs => xs = l) (fun pre => pre <+: l) l.length w := fun lp J Jx W hW hJ _ hY h0 => by
  have hW2 := hW.mono hn0
  obtain ⟨v, h1, h2, h3⟩ := hS.row
  obtain ⟨A, ca, rfl⟩ := row_form h2
  have hpr := hF _ hS.own
  have h1' := (hW.block pr (blk_lt h1)).trans h1
  simp only [List.push_toArray, List.append_toArray, List.nil_append, List.cons_append]
  exact all_in n lp Bs n₀ pr ca A l hn hS.len J Jx W hY hJ hB ((hW2.cell (p := ⟨Bs, 0, none⟩) hB).trans hc) hpr (blk_cell h1' 0) (own_kept h2 fun b hb => hW.block b (h2.lt b hb).2) (fun g hg => hF g (h3 g hg)) (Nat.le_trans hn0 hW.size) h0
/-- The first tick from m on. -/
def soonR (m : Int) (l : List S29) : Option Int := (l.find? (fun x => decide (m ≤ x.f0))).map S29.f0
def soonA (m : Int) (l : List S31) : Option Int := (l.find? (fun x => decide (m ≤ x.f0))).map S31.f0
def SoonPost (o : Option Int) (w : World) (e : Ending) (w' : World) : Prop := e = .returned (.tuple #[.int .i64 (o.getD 0), .bool o.isSome]) ∧ Below w.heap.size w w'
/-- A box of one cell, in the words of blocks. -/
theorem soon_hit {m : Int} {l pre : List S29} {x : S29} (hp : pre ++ [x] <+: l) (h1 : ∀ y ∈ pre, y.f0 < m) (h2 : m ≤ x.f0) : soonR m l = some x.f0 := by
  obtain ⟨r, rfl⟩ := hp
  unfold soonR
  rw [List.append_assoc, List.find?_append, List.find?_eq_none.2 (fun y hy => by have := h1 y hy; simp; omega), Option.none_or]
  show (List.find? _ (x :: r)).map _ = _
  rw [List.find?_cons_of_pos (by simpa using h2)]
  rfl
theorem soon_miss {m : Int} {l : List S29} (h1 : ∀ y ∈ l, y.f0 < m) : soonR m l = none := by
  unfold soonR
  rw [List.find?_eq_none.2 (fun y hy => by have := h1 y hy; simp; omega)]
  rfl
set_option maxRecDepth 100000 in
set_option maxHeartbeats 16000000 in
theorem soon1_calls (F : Nat → Prop) (p : Nat) (s : Stk) (w : World) (hS : IsStk F p s w) (hF : ∀ b, F b → b < w.heap.size) :
    Calls Try.prog 82 #[.pointer (some ⟨p, 0, none⟩), .int .i64 1] w (SoonPost (soonR s.m1 s.raw) w) := by
  obtain ⟨pr, v1, v2, hp, hsr, _⟩ := hS.row
  have hu42 := Try.underlying42
  have hu29 := Try.underlying29
  have hu100 := Try.underlying100
  have hu72 := Try.underlying72
  obtain ⟨V, hV⟩ : ∃ V, V = ((w.alloc (.cells #[.int .i64 0] 2)).alloc (.cells #[.bool false] 4)).alloc (.cells #[.int .i64 s.m1, .int .i64 1099511627777] 42) := ⟨_, rfl⟩
  obtain ⟨Q, hQ⟩ : ∃ Q, Q = w.heap.size := ⟨_, rfl⟩
  have hVb : Below w.heap.size w V := by rw [hV]; exact (((Below.refl _ _).alloc (Nat.le_refl _) _).alloc (by simp) _).alloc (by simp; omega) _
  have hVs : V.heap.size = Q + 3 := by rw [hV, hQ]; simp
  have hc0 : V.heap[Q]? = some (.cells #[.int .i64 0] 2 (0, 0)) := by rw [hV, hQ]; exact blk_alloc (blk_alloc (blk_new w _) _) _
  have hc1 : V.heap[Q + 1]? = some (.cells #[.bool false] 4 (0, 0)) := by rw [hV, hQ]; exact blk_alloc (heap_alloc2_new w _ _) _
  have hc2 : V.heap[Q + 2]? = some (.cells #[.int .i64 s.m1, .int .i64 1099511627777] 42 (0, 0)) := by
    have := blk_new ((w.alloc (.cells #[.int .i64 0] 2)).alloc (.cells #[.bool false] 4)) (.cells #[.int .i64 s.m1, .int .i64 1099511627777] 42)
    rw [World.size_alloc, World.size_alloc, ← hQ, ← hV] at this
    exact this
  have hpV := (hVb.block p (blk_lt hp)).trans hp
  have r0 := bread_alloc (bread_alloc (show w.cell? ⟨p, 5, none⟩ = some (.int .i64 s.m1) from blk_cell hp 5) (.cells #[.int .i64 0] 2)) (.cells #[.bool false] 4)
  have q0 : V.cell? ⟨p, 0, none⟩ = some (.pointer (some ⟨pr, 0, none⟩)) := blk_cell hpV 0
  have HC0 := Aside0.mk hc0
  have HC1 := Aside0.mk hc1
  have HC2 := Aside0.mk hc2
  have HV := Aside0.mk hVb
  have HVS := Aside0.mk hVs
  have HQ := Aside0.mk hQ
  have HSR := Aside0.mk (hsr.below hVb)
  have HF := Lib.hid hF
  refine (callsIn_wide (n := 6)).1 (callsIn_of_wp_marks Try.func82 rfl trivial (wpIn_wide.2 ?_))
  simp only [Try.ntmps82, List.size_toArray, List.length_cons, List.length_nil, Nat.reduceAdd, Nat.reduceSub, Array.replicate_succ, Array.replicate_zero, List.push_toArray, List.append_toArray, List.nil_append, List.cons_append]
  clear hS hp hsr hVb hVs hc0 hc1 hc2 hpV hF
  go_upto_region 2 with (fail)
  rw [← hV, ← hQ]
  clear hV hQ r0
  go_wp2_with fail
  refine (all_calls _ V (.inr ⟨_, rfl⟩)).mono ?_
  rintro e w1 ⟨rfl, rfl⟩
  go_wp2_with fail
  have hn0 : (V.alloc (.cells #[.pointer (some ⟨pr, 0, none⟩)] 35)).heap.size = Q + 4 := by have := HVS.out; simp; omega
  have hbs : (V.alloc (.cells #[.pointer (some ⟨pr, 0, none⟩)] 35)).cell? ⟨V.heap.size, 0, none⟩ = some (.pointer (some ⟨pr, 0, none⟩)) := blk_cell (blk_new V _) 0
  have hBV : Below w.heap.size w (V.alloc (.cells #[.pointer (some ⟨pr, 0, none⟩)] 35)) := HV.out.alloc HV.out.size _
  have hvs1 : V.heap.size ≤ Q + 3 := by rw [HVS.out]; exact Nat.le_refl _
  have hvs2 : Q + 3 ≤ V.heap.size := by rw [HVS.out]; exact Nat.le_refl _
  have hqq1 : Q ≤ w.heap.size := by rw [HQ.out]; exact Nat.le_refl _
  have hqq2 : w.heap.size ≤ Q := by rw [HQ.out]; exact Nat.le_refl _
  have hd0 := blk_alloc HC0.out (.cells #[.pointer (some ⟨pr, 0, none⟩)] 35)
  have hd1 := blk_alloc HC1.out (.cells #[.pointer (some ⟨pr, 0, none⟩)] 35)
  have hd2 := blk_alloc HC2.out (.cells #[.pointer (some ⟨pr, 0, none⟩)] 35)
  obtain ⟨W0, hW0⟩ : ∃ W0, W0 = V.alloc (.cells #[.pointer (some ⟨pr, 0, none⟩)] 35) := ⟨_, rfl⟩
  have hst := all_stops 5 V.heap.size (Q + 4) pr F s.raw W0 (by decide) (by rw [hW0]; exact hbs) (by omega) (by rw [hW0]; exact HSR.out.below ((Below.refl _ _).alloc (Nat.le_refl _) _)) (fun b hb => by have := HF.out b hb; omega) (by rw [hW0]; omega)
  rw [← hW0] at hn0 hbs hBV hd0 hd1 hd2 ⊢
  have hn1 : W0.heap.size ≤ Q + 4 := by rw [hn0]; exact Nat.le_refl _
  have hn2 : Q + 4 ≤ W0.heap.size := by rw [hn0]; exact Nat.le_refl _
  clear hW0 hn0
  refine (wpIn_wide (n := 6)).1 (wpIn_rangeFunc_ownH (F := Fence.wide) (n := 6) rfl (by decide) (gf := 65) (lb := #[.pointer (some ⟨V.heap.size, 0, none⟩)]) rfl trivial (enters_of Try.func65 (by kernel_rfl) rfl)
    hst belowK_t (belowK_b hn2) (Below.refl _ _) (fun _ => rfl)
    (fun pre W' => (∀ y ∈ pre, y.f0 < s.m1) ∧ Below (Q + 4) W0 W')
    (fun c pre W' => ((∃ ini x, c = .ret ∧ pre = ini ++ [x] ∧ (∀ y ∈ ini, y.f0 < s.m1) ∧ s.m1 ≤ x.f0 ∧ W'.heap[Q]? = some (.cells #[.int .i64 x.f0] 2 (0, 0)) ∧ W'.heap[Q + 1]? = some (.cells #[.bool true] 4 (0, 0))) ∧ Below w.heap.size w W'))
    ?hI ?hIx ⟨fun y hy => (by cases hy), Below.refl _ _⟩
    (fun x a' W' => ∃ Bx, Q + 4 ≤ Bx ∧ W'.heap[Bx]? = some (.cells #[.int .i64 x.f0, .int .i64 x.f1] 29 (0, 0)) ∧ a' = { tmps := #[.pointer (some ⟨p, 0, none⟩), .int .i64 1, undef, undef, .pointer (some ⟨Q, 0, none⟩), .pointer (some ⟨Q + 1, 0, none⟩), .pointer (some ⟨Q + 1 + 1, 0, none⟩), .pointer (some ⟨Bx, 0, none⟩), undef, undef, .pointer (some ⟨p, 0, none⟩), .int .i64 1, .pointer (some ⟨p, 0, none⟩), .pointer (some ⟨p, 4, none⟩), .pointer (some ⟨p, 5, none⟩), .int .i64 s.m1, .agg #[.int .i64 s.m1, .int .i64 1099511627777], .int .i64 1, .bool true, .pointer (some ⟨p, 0, none⟩), .pointer (some ⟨p, 0, none⟩), .pointer (some ⟨p, 0, none⟩), .pointer (some ⟨pr, 0, none⟩), .func (.func 65) #[] #[.pointer (some ⟨V.heap.size, 0, none⟩)], .agg #[.int .i64 x.f0, .int .i64 x.f1], undef, undef, undef, undef, undef, undef, undef, undef, undef, undef, undef, undef, undef, undef, undef, undef, undef, undef, undef, undef, undef, undef, undef, undef, undef], defers := [] }) ?hAx ?assign ?body ?done ?stop)
  case hI => exact fun s' A B row hs hg hr => ⟨hs.1, ownFrom_below (β := List S29) (B := W0.heap.size) hn2 hn2 s' A B row hs.2 hg hr⟩
  case hIx =>
    rintro c s' A B row ⟨⟨ini, x, h1, h2, h3, h4, h5, h6⟩, h7⟩ hg hr
    have hne : ∀ k, k < Q + 4 → some k ≠ row := fun k hk e => by have := (hr k e.symm).1; omega
    exact ⟨⟨ini, x, h1, h2, h3, h4, (hg.block Q (blk_lt h5) (hne Q (by omega))).trans h5, (hg.block (Q + 1) (blk_lt h6) (hne (Q + 1) (by omega))).trans h6⟩, h7.grown hg h7.size (fun k e => by have := (hr k e).1; omega)⟩
  case hAx =>
    rintro x a' s' A B row ⟨Bx, h1, h2, h3⟩ hg hr
    exact ⟨Bx, h1, (hg.block Bx (blk_lt h2) (fun e => by
      obtain ⟨_, o, ho, hoc⟩ := hr Bx e.symm
      rw [h2] at ho
      injection ho with ho
      subst ho
      cases hoc)).trans h2, h3⟩
  case assign =>
    rintro l pre x W' K ⟨hi1, hi2⟩ hK
    have hi3 := hi2.size
    gi_wp2
    exact hK _ _ ((KeepsOthers.alloc _ _).from _) ((Below.refl _ W').alloc (by omega) _) ⟨hi1, hi2.alloc (by omega) _⟩ ⟨W'.heap.size, by omega, blk_new W' _, rfl⟩
  case body =>
    rintro l pre x a' W' hl ⟨rr, hrr⟩ ⟨hi1, hi2⟩ ⟨Bx, hBx, hbb, rfl⟩ hlt
    have e2 : W'.heap[Q + 2]? = some (.cells #[.int .i64 s.m1, .int .i64 1099511627777] 42 (0, 0)) := (hi2.block (Q + 2) (by omega)).trans hd2
    have e0 : W'.heap[Q]? = some (.cells #[.int .i64 0] 2 (0, 0)) := (hi2.block Q (by omega)).trans hd0
    have e1 : W'.heap[Q + 1]? = some (.cells #[.bool false] 4 (0, 0)) := (hi2.block (Q + 1) (by omega)).trans hd1
    have t0 : W'.cell? ⟨Bx, 0, none⟩ = some (.int .i64 x.f0) := blk_cell hbb 0
    have t1 : W'.cell? ⟨Q + 1 + 1, 0, none⟩ = some (.int .i64 s.m1) := blk_cell e2 0
    by_cases hm : s.m1 ≤ x.f0
    · have d1 : decide (s.m1 ≤ x.f0) = true := decide_eq_true hm
      have d2 : decide (x.f0 ≥ s.m1) = true := decide_eq_true hm
      have t2 : W'.cell? ⟨Q, 0, none⟩ = some (.int .i64 0) := blk_cell e0 0
      have t3 : W'.frozen? ⟨Q, 0, none⟩ = false := blk_frozen e0 0
      have e1' : (W'.setCell ⟨Q, 0, none⟩ (.int .i64 x.f0)).heap[Q + 1]? = some (.cells #[.bool false] 4 (0, 0)) := blk_far e1 (by show Q ≠ Q + 1; omega) _
      have t4 : (W'.setCell ⟨Q, 0, none⟩ (.int .i64 x.f0)).cell? ⟨Q + 1, 0, none⟩ = some (.bool false) := blk_cell e1' 0
      have t5 : (W'.setCell ⟨Q, 0, none⟩ (.int .i64 x.f0)).frozen? ⟨Q + 1, 0, none⟩ = false := blk_frozen e1' 0
      have g0 : ((W'.setCell ⟨Q, 0, none⟩ (.int .i64 x.f0)).setCell ⟨Q + 1, 0, none⟩ (.bool true)).heap[Q]? = some (.cells #[.int .i64 x.f0] 2 (0, 0)) := blk_far (blk_set e0 0 _) (by show Q + 1 ≠ Q; omega) _
      have g1 : ((W'.setCell ⟨Q, 0, none⟩ (.int .i64 x.f0)).setCell ⟨Q + 1, 0, none⟩ (.bool true)).heap[Q + 1]? = some (.cells #[.bool true] 4 (0, 0)) := blk_set e1' 0 _
      have hG := Aside0.mk (And.intro g0 g1)
      have hBF := Aside0.mk ((((hBV.trans (hi2.mono (by omega))).setCell (p := ⟨Q, 0, none⟩) (by show w.heap.size ≤ Q; omega) (.int .i64 x.f0)).setCell (p := ⟨Q + 1, 0, none⟩) (by show w.heap.size ≤ Q + 1; omega) (.bool true)))
      have hX := Aside0.mk (And.intro hi1 hm)
      clear e0 e1 e2 e1' g0 g1 hi1 hi2 hm hbb hrr hd0 hd1 hd2 hst
      gi_wp2
      exact ⟨((KeepsOthers.setCell _ _ _).trans (KeepsOthers.setCell _ _ _)).from _, ⟨pre, x, rfl, rfl, hX.out.1, hX.out.2, hG.out.1, hG.out.2⟩, hBF.out⟩
    · have d1 : decide (s.m1 ≤ x.f0) = false := decide_eq_false hm
      have d2 : decide (x.f0 ≥ s.m1) = false := decide_eq_false hm
      have hX := Aside0.mk (show (∀ y ∈ pre ++ [x], y.f0 < s.m1) from fun y hy => by
        rcases List.mem_append.1 hy with h | h
        · exact hi1 y h
        · rw [List.mem_singleton.1 h]; omega)
      have hI2 := Aside0.mk hi2
      clear e0 e1 e2 hi1 hi2 hm hbb hrr hd0 hd1 hd2 hst
      gi_wp2
      exact ⟨KeepsFrom.refl _ _, Below.refl _ _, hX.out, hI2.out⟩
  case done =>
    rintro D xs W' hD rfl ⟨hi1, hi2⟩ hK
    have e0 : W'.heap[Q]? = some (.cells #[.int .i64 0] 2 (0, 0)) := (hi2.block Q (by omega)).trans hd0
    have e1 : W'.heap[Q + 1]? = some (.cells #[.bool false] 4 (0, 0)) := (hi2.block (Q + 1) (by omega)).trans hd1
    have t2 : W'.cell? ⟨Q, 0, none⟩ = some (.int .i64 0) := blk_cell e0 0
    have t3 : W'.frozen? ⟨Q, 0, none⟩ = false := blk_frozen e0 0
    have e1' : (W'.setCell ⟨Q, 0, none⟩ (.int .i64 0)).heap[Q + 1]? = some (.cells #[.bool false] 4 (0, 0)) := blk_far e1 (by show Q ≠ Q + 1; omega) _
    have t4 : (W'.setCell ⟨Q, 0, none⟩ (.int .i64 0)).cell? ⟨Q + 1, 0, none⟩ = some (.bool false) := blk_cell e1' 0
    have t5 : (W'.setCell ⟨Q, 0, none⟩ (.int .i64 0)).frozen? ⟨Q + 1, 0, none⟩ = false := blk_frozen e1' 0
    have g0 : ((W'.setCell ⟨Q, 0, none⟩ (.int .i64 0)).setCell ⟨Q + 1, 0, none⟩ (.bool false)).heap[Q]? = some (.cells #[.int .i64 0] 2 (0, 0)) := blk_far (blk_set e0 0 _) (by show Q + 1 ≠ Q; omega) _
    have g1 : ((W'.setCell ⟨Q, 0, none⟩ (.int .i64 0)).setCell ⟨Q + 1, 0, none⟩ (.bool false)).heap[Q + 1]? = some (.cells #[.bool false] 4 (0, 0)) := blk_set e1' 0 _
    have g2 : ((W'.setCell ⟨Q, 0, none⟩ (.int .i64 0)).setCell ⟨Q + 1, 0, none⟩ (.bool false)).heap[D]? = some (.deferred (some [])) := blk_far (blk_far hK (by show Q ≠ D; omega) _) (by show Q + 1 ≠ D; omega) _
    have hBF := Aside0.mk ((((hBV.trans (hi2.mono (by omega))).setCell (p := ⟨Q, 0, none⟩) (by show w.heap.size ≤ Q; omega) (.int .i64 0)).setCell (p := ⟨Q + 1, 0, none⟩) (by show w.heap.size ≤ Q + 1; omega) (.bool false)))
    have hG := Aside0.mk (And.intro g0 (And.intro g1 g2))
    have hX := Aside0.mk (soon_miss hi1)
    have hDD := Aside0.mk (show Q + 4 ≤ D by omega)
    clear e0 e1 e1' g0 g1 g2 hi1 hi2 hK hd0 hd1 hd2 hst hD
    go_wp2
    have g := hG.out
    have hD2 := hDD.out
    refine ⟨by simp, .inl ⟨_, _, rfl, run_takeDeferred g.2.2, ?_⟩⟩
    have c0 := blk_cell ((World.putObj_heap_other (show Q ≠ D by omega)).trans g.1) 0 (w := World.putObj _ D (.deferred none))
    have c1 := blk_cell ((World.putObj_heap_other (show Q + 1 ≠ D by omega)).trans g.2.1) 0 (w := World.putObj _ D (.deferred none))
    refine ⟨.tuple #[.int .i64 0, .bool false], ?_, by rw [hX.out]; rfl, hBF.out.grown (grownBy_putObj' _ D (.deferred none)) hBF.out.size (fun q hq => by injection hq with hq; omega)⟩
    simp [results, Try.f82, go_sem, c0, c1]
  case stop =>
    rintro D c pre W' hD hpre ⟨⟨ini, x, rfl, rfl, h1, h2, h3, h4⟩, hB⟩ hK
    gi_wp2
    refine ⟨by simp, .inl ⟨_, _, rfl, run_takeDeferred hK, ?_⟩⟩
    have c0 := blk_cell ((World.putObj_heap_other (show Q ≠ D by omega)).trans h3) 0 (w := World.putObj _ D (.deferred none))
    have c1 := blk_cell ((World.putObj_heap_other (show Q + 1 ≠ D by omega)).trans h4) 0 (w := World.putObj _ D (.deferred none))
    refine ⟨.tuple #[.int .i64 x.f0, .bool true], ?_, by rw [soon_hit hpre h1 h2]; rfl, hB.grown (grownBy_putObj' _ D (.deferred none)) hB.size (fun q hq => by injection hq with hq; omega)⟩
    simp [results, Try.f82, go_sem, c0, c1]
theorem soonA_hit {m : Int} {l : List S31} {j : Nat} {x : S31} (hx : l[j]? = some x) (h1 : ∀ y ∈ l.take j, y.f0 < m) (h2 : m ≤ x.f0) : soonA m l = some x.f0 := by
  unfold soonA
  obtain ⟨hj, he⟩ := List.getElem?_eq_some_iff.1 hx
  conv => lhs; rw [← List.take_append_drop j l]
  rw [List.find?_append, List.find?_eq_none.2 (fun y hy => by have := h1 y hy; simp; omega), Option.none_or, List.drop_eq_getElem_cons hj, he, List.find?_cons_of_pos (by simpa using h2)]
  rfl
theorem soonA_miss {m : Int} {l : List S31} (h1 : ∀ y ∈ l, y.f0 < m) : soonA m l = none := by
  unfold soonA
  rw [List.find?_eq_none.2 (fun y hy => by have := h1 y hy; simp; omega)]
  rfl
set_option maxRecDepth 100000 in
set_option maxHeartbeats 16000000 in
theorem soon2_calls (F : Nat → Prop) (p : Nat) (s : Stk) (w : World) (hS : IsStk F p s w) :
    Calls Try.prog 82 #[.pointer (some ⟨p, 0, none⟩), .int .i64 2] w (SoonPost (soonA s.m2 s.a1) w) := by
  have hlen := hS.l1
  obtain ⟨pr, v1, v2, hp, _, ho1, _⟩ := hS.row
  obtain ⟨A, ca, hv⟩ := row_form ho1
  subst hv
  obtain ⟨l, hl⟩ : ∃ l, l = s.a1 := ⟨_, rfl⟩
  rw [← hl] at ho1 hlen ⊢
  have hu42 := Try.underlying42
  have hu31 := Try.underlying31
  have hu100 := Try.underlying100
  have hu72 := Try.underlying72
  have hu98 := Try.underlying98
  obtain ⟨V, hV⟩ : ∃ V, V = ((w.alloc (.cells #[.int .i64 0] 2)).alloc (.cells #[.bool false] 4)).alloc (.cells #[.int .i64 s.m2, .int .i64 1099511627777] 42) := ⟨_, rfl⟩
  obtain ⟨Q, hQ⟩ : ∃ Q, Q = w.heap.size := ⟨_, rfl⟩
  have hVb : Below w.heap.size w V := by rw [hV]; exact (((Below.refl _ _).alloc (Nat.le_refl _) _).alloc (by simp) _).alloc (by simp; omega) _
  have hVs : V.heap.size = Q + 3 := by rw [hV, hQ]; simp
  have hc0 : V.heap[Q]? = some (.cells #[.int .i64 0] 2 (0, 0)) := by rw [hV, hQ]; exact blk_alloc (blk_alloc (blk_new w _) _) _
  have hc1 : V.heap[Q + 1]? = some (.cells #[.bool false] 4 (0, 0)) := by rw [hV, hQ]; exact blk_alloc (heap_alloc2_new w _ _) _
  have hc2 : V.heap[Q + 1 + 1]? = some (.cells #[.int .i64 s.m2, .int .i64 1099511627777] 42 (0, 0)) := by
    have := blk_new ((w.alloc (.cells #[.int .i64 0] 2)).alloc (.cells #[.bool false] 4)) (.cells #[.int .i64 s.m2, .int .i64 1099511627777] 42)
    rw [World.size_alloc, World.size_alloc, ← hQ, ← hV] at this
    exact this
  have hpV := (hVb.block p (blk_lt hp)).trans hp
  have r0 := bread_alloc (bread_alloc (show w.cell? ⟨p, 6, none⟩ = some (.int .i64 s.m2) from blk_cell hp 6) (.cells #[.int .i64 0] 2)) (.cells #[.bool false] 4)
  have q0 : V.cell? ⟨p, 2, none⟩ = some (.slice A l.length ca) := by rw [hl]; exact blk_cell hpV 2
  have HC0 := Aside0.mk hc0
  have HC1 := Aside0.mk hc1
  have HC2 := Aside0.mk hc2
  have HV := Aside0.mk hVb
  have hvs1 : V.heap.size ≤ Q + 3 := by rw [hVs]; exact Nat.le_refl _
  have hvs2 : Q + 3 ≤ V.heap.size := by rw [hVs]; exact Nat.le_refl _
  have hqq1 : Q ≤ w.heap.size := by rw [hQ]; exact Nat.le_refl _
  have hqq2 : w.heap.size ≤ Q := by rw [hQ]; exact Nat.le_refl _
  have HO := Aside0.mk (own_kept (w' := V) ho1 fun b hb => hVb.block b (ho1.lt b hb).2)
  have HOW := Lib.hid (show ∀ g, (Value.slice A l.length ca).ownBlock = some g → g < w.heap.size from fun g hg => (ho1.lt g hg).2)
  refine (callsIn_wide (n := 6)).1 (callsIn_of_wp_marks Try.func82 rfl trivial (wpIn_wide.2 ?_))
  simp only [Try.ntmps82, List.size_toArray, List.length_cons, List.length_nil, Nat.reduceAdd, Nat.reduceSub, Array.replicate_succ, Array.replicate_zero, List.push_toArray, List.append_toArray, List.nil_append, List.cons_append]
  clear hS hp ho1 hVb hVs hc0 hc1 hc2 hpV hl
  go_upto_region 2 with (fail)
  rw [← hV, ← hQ]
  clear hV hQ r0
  go_wp2_with fail
  go_loopw [38] (fun v38 wr => ∃ j : Nat, j ≤ l.length ∧ v38 = .int .i64 (j : Int) ∧ Aside0 (∀ y ∈ l.take j, y.f0 < s.m2) ∧ Aside0 (Below (Q + 3) V wr)) (fun v _ => l.length - (intOf v).toNat)
  case atStart => exact ⟨0, by omega, rfl, ⟨fun y hy => by simp at hy⟩, ⟨Below.refl _ _⟩⟩
  case round =>
    clear q0
    obtain ⟨j, hj, rfl, HS, HB⟩ := hrel
    have hwr := HB.out.size
    have e0 : wr.heap[Q]? = some (.cells #[.int .i64 0] 2 (0, 0)) := (HB.out.block Q (by omega)).trans HC0.out
    have e1 : wr.heap[Q + 1]? = some (.cells #[.bool false] 4 (0, 0)) := (HB.out.block (Q + 1) (by omega)).trans HC1.out
    have e2 : wr.heap[Q + 1 + 1]? = some (.cells #[.int .i64 s.m2, .int .i64 1099511627777] 42 (0, 0)) := (HB.out.block (Q + 1 + 1) (by omega)).trans HC2.out
    by_cases hlt : j < l.length
    · obtain ⟨g, cg, cur, hvg, hgb, _⟩ := row_pos HO.out (by omega)
      injection hvg with hA _ hcg
      subst hA
      clear hcg hgb
      obtain ⟨x, hx⟩ : ∃ x, l[j]? = some x := ⟨_, List.getElem?_eq_getElem hlt⟩
      obtain ⟨c0, c1, c2, c3, c4⟩ := row31_at HO.out hx
      have hgw : g < Q + 3 := by have := HOW.out g rfl; omega
      have u0 := (HB.out.cell (p := ⟨g, j * 5, none⟩) hgw).trans c0
      have u1 := (HB.out.cell (p := ⟨g, j * 5 + 1, none⟩) hgw).trans c1
      have u2 := (HB.out.cell (p := ⟨g, j * 5 + 2, none⟩) hgw).trans c2
      have u3 := (HB.out.cell (p := ⟨g, j * 5 + 3, none⟩) hgw).trans c3
      have u4 := (HB.out.cell (p := ⟨g, j * 5 + 4, none⟩) hgw).trans c4
      have hjl : (j : Int) < (l.length : Int) := by omega
      obtain ⟨W, hW⟩ : ∃ W, W = wr.alloc (.cells #[.int .i64 x.f0, .int .i64 x.f1, .int .i64 x.f2, .int .i64 x.f3, .int .i64 x.f4] 31) := ⟨_, rfl⟩
      obtain ⟨X, hXe⟩ : ∃ X, X = wr.heap.size := ⟨_, rfl⟩
      have b0 : W.heap[Q]? = some (.cells #[.int .i64 0] 2 (0, 0)) := by rw [hW]; exact blk_alloc e0 _
      have b1 : W.heap[Q + 1]? = some (.cells #[.bool false] 4 (0, 0)) := by rw [hW]; exact blk_alloc e1 _
      have b2 : W.heap[Q + 1 + 1]? = some (.cells #[.int .i64 s.m2, .int .i64 1099511627777] 42 (0, 0)) := by rw [hW]; exact blk_alloc e2 _
      have b3 : W.heap[X]? = some (.cells #[.int .i64 x.f0, .int .i64 x.f1, .int .i64 x.f2, .int .i64 x.f3, .int .i64 x.f4] 31 (0, 0)) := by rw [hW, hXe]; exact blk_new wr _
      have HBW := Aside0.mk (show Below (Q + 3) V W by rw [hW]; exact HB.out.alloc (by omega) _)
      have t0 : W.cell? ⟨X, 0, none⟩ = some (.int .i64 x.f0) := blk_cell b3 0
      have t1 : W.cell? ⟨Q + 1 + 1, 0, none⟩ = some (.int .i64 s.m2) := blk_cell b2 0
      have HX := Aside0.mk hx
      by_cases hm : s.m2 ≤ x.f0
      · have d1 : decide (s.m2 ≤ x.f0) = true := decide_eq_true hm
        have d2 : decide (x.f0 ≥ s.m2) = true := decide_eq_true hm
        have t2 : W.cell? ⟨Q, 0, none⟩ = some (.int .i64 0) := blk_cell b0 0
        have t3 : W.frozen? ⟨Q, 0, none⟩ = false := blk_frozen b0 0
        have e1' : (W.setCell ⟨Q, 0, none⟩ (.int .i64 x.f0)).heap[Q + 1]? = some (.cells #[.bool false] 4 (0, 0)) := blk_far b1 (by show Q ≠ Q + 1; omega) _
        have t4 : (W.setCell ⟨Q, 0, none⟩ (.int .i64 x.f0)).cell? ⟨Q + 1, 0, none⟩ = some (.bool false) := blk_cell e1' 0
        have t5 : (W.setCell ⟨Q, 0, none⟩ (.int .i64 x.f0)).frozen? ⟨Q + 1, 0, none⟩ = false := blk_frozen e1' 0
        have g0 : ((W.setCell ⟨Q, 0, none⟩ (.int .i64 x.f0)).setCell ⟨Q + 1, 0, none⟩ (.bool true)).heap[Q]? = some (.cells #[.int .i64 x.f0] 2 (0, 0)) := blk_far (blk_set b0 0 _) (by show Q + 1 ≠ Q; omega) _
        have g1 : ((W.setCell ⟨Q, 0, none⟩ (.int .i64 x.f0)).setCell ⟨Q + 1, 0, none⟩ (.bool true)).heap[Q + 1]? = some (.cells #[.bool true] 4 (0, 0)) := blk_set e1' 0 _
        have hG := Aside0.mk (And.intro g0 g1)
        have hBF := Aside0.mk (((HV.out.trans (HBW.out.mono (by omega))).setCell (p := ⟨Q, 0, none⟩) (by show w.heap.size ≤ Q; omega) (.int .i64 x.f0)).setCell (p := ⟨Q + 1, 0, none⟩) (by show w.heap.size ≤ Q + 1; omega) (.bool true))
        have hR := Aside0.mk (soonA_hit hx HS.out hm)
        clear e0 e1 e2 b0 b1 b2 b3 e1' g0 g1 hx c0 c1 c2 c3 c4 hgw
        go_upto_region 11 with (fail)
        rw [← hW, ← hXe]
        clear hW hXe u0 u1 u2 u3 u4
        go_wp2
        have c0 := blk_cell hG.out.1 0
        have c1 := blk_cell hG.out.2 0
        refine ⟨.tuple #[.int .i64 x.f0, .bool true], ?_, by rw [hR.out]; rfl, hBF.out⟩
        simp [results, Try.f82, go_sem, c0, c1]
      · have d1 : decide (s.m2 ≤ x.f0) = false := decide_eq_false hm
        have d2 : decide (x.f0 ≥ s.m2) = false := decide_eq_false hm
        have HS2 := Aside0.mk (show ∀ y ∈ l.take (j + 1), y.f0 < s.m2 from fun y hy => by
          rw [take_snoc31 hx] at hy
          rcases List.mem_append.1 hy with h | h
          · exact HS.out y h
          · rw [List.mem_singleton.1 h]; omega)
        clear e0 e1 e2 b0 b1 b2 b3 hx c0 c1 c2 c3 c4 hgw
        go_upto_region 11 with (fail)
        rw [← hW, ← hXe]
        clear hW hXe u0 u1 u2 u3 u4
        go_wp2_with fail
        go_roundw
        case rel => exact ⟨j + 1, by omega, by go_num, HS2, HBW⟩
        case measure => simp [intOf]; omega
    · have hje : j = l.length := by omega
      subst hje
      have hs := HS.out
      rw [List.take_length] at hs
      have hR := Aside0.mk (soonA_miss hs)
      have t2 : wr.cell? ⟨Q, 0, none⟩ = some (.int .i64 0) := blk_cell e0 0
      have t3 : wr.frozen? ⟨Q, 0, none⟩ = false := blk_frozen e0 0
      have e1' : (wr.setCell ⟨Q, 0, none⟩ (.int .i64 0)).heap[Q + 1]? = some (.cells #[.bool false] 4 (0, 0)) := blk_far e1 (by show Q ≠ Q + 1; omega) _
      have t4 : (wr.setCell ⟨Q, 0, none⟩ (.int .i64 0)).cell? ⟨Q + 1, 0, none⟩ = some (.bool false) := blk_cell e1' 0
      have t5 : (wr.setCell ⟨Q, 0, none⟩ (.int .i64 0)).frozen? ⟨Q + 1, 0, none⟩ = false := blk_frozen e1' 0
      have g0 : ((wr.setCell ⟨Q, 0, none⟩ (.int .i64 0)).setCell ⟨Q + 1, 0, none⟩ (.bool false)).heap[Q]? = some (.cells #[.int .i64 0] 2 (0, 0)) := blk_far (blk_set e0 0 _) (by show Q + 1 ≠ Q; omega) _
      have g1 : ((wr.setCell ⟨Q, 0, none⟩ (.int .i64 0)).setCell ⟨Q + 1, 0, none⟩ (.bool false)).heap[Q + 1]? = some (.cells #[.bool false] 4 (0, 0)) := blk_set e1' 0 _
      have hG := Aside0.mk (And.intro g0 g1)
      have hBF := Aside0.mk (((HV.out.trans (HB.out.mono (by omega))).setCell (p := ⟨Q, 0, none⟩) (by show w.heap.size ≤ Q; omega) (.int .i64 0)).setCell (p := ⟨Q + 1, 0, none⟩) (by show w.heap.size ≤ Q + 1; omega) (.bool false))
      clear e0 e1 e2 e1' g0 g1 hs
      go_wp2
      have c0 := blk_cell hG.out.1 0
      have c1 := blk_cell hG.out.2 0
      refine ⟨.tuple #[.int .i64 0, .bool false], ?_, by rw [hR.out]; rfl, hBF.out⟩
      simp [results, Try.f82, go_sem, c0, c1]
end Go.Proofs.Ytnjdngjlbonieaa
