/- A tier's windows made anew; Purge of a stock; walked. -/
import Derived.Test.YtnjdngjlbonieaaTierK
import Derived.Lib.Hide
import Derived.LoopTactic
import Derived.Outline
import Derived.Laws.Rows
import Derived.Laws.CopyOwn
import Derived.WalkKit
set_option linter.unusedVariables false
set_option linter.unusedSimpArgs false
namespace Go.Proofs.Ytnjdngjlbonieaa
open Go.RowKit Go.Proofs.YtnjdngjlbonieaaW.PrintWords Go.Proofs.YtnjdngjlbonieaaW.PrintLast Go.Proofs.YtnjdngjlbonieaaW.PrintMore
open Go.Proofs.Ytnjdngjlbonieaa.PTierForgets
attribute [local go_sem] max2_int min2_int max_two min_two max_three min_three max_four min_four

/-- The windows of a tier that have some of a range, anew. -/
def againP (wd ca cb : Int) (ofw : Int → S31 × Bool) (A : List S31) : List S31 := A.flatMap (fun x => if (decide (ca ≤ x.f0) && decide (x.f0 < cb)) = true then (if (ofw (stW wd x.f0)).2 = true then [(ofw (stW wd x.f0)).1] else []) else [x])
theorem againP_snoc (wd ca cb : Int) (ofw : Int → S31 × Bool) (A : List S31) (x : S31) : againP wd ca cb ofw (A ++ [x]) = againP wd ca cb ofw A ++ (if (decide (ca ≤ x.f0) && decide (x.f0 < cb)) = true then (if (ofw (stW wd x.f0)).2 = true then [(ofw (stW wd x.f0)).1] else []) else [x]) := by
  unfold againP
  rw [List.flatMap_append]
  simp
theorem againP_le (wd ca cb : Int) (ofw : Int → S31 × Bool) : ∀ A : List S31, (againP wd ca cb ofw A).length ≤ A.length
  | [] => Nat.le_refl _
  | x :: r => by
    have := againP_le wd ca cb ofw r
    unfold againP at this ⊢
    rw [List.flatMap_cons, List.length_append, List.length_cons]
    split
    · split
      · simp only [List.length_singleton]; omega
      · simp only [List.length_nil]; omega
    · simp only [List.length_singleton]; omega
def again1 (raw : List S29) (a b : Int) (A : List S31) : List S31 := againP 300 (stW 300 a) (stW 300 (b - 1) + 300) (fun f => ofP f (inR f (f + 300) raw)) A
def again2 (a1 : List S31) (a b : Int) (A : List S31) : List S31 := againP 3600 (stW 3600 a) (stW 3600 (b - 1) + 3600) (fun f => joinP f (aggR 300 f (f + 3600) a1)) A
section
variable {F : Nat → Prop} {p b0 : Nat} {s : Stk} {w : World} {l' : List S31}
/-- A new row is laid in its place. -/
theorem IsStk.lay1 {v' : Value} (h : IsStk F p s w) (hF : ∀ b, F b → b < b0) (ho : w.ownsRow b0 31 5 v' l'.length (l'.flatMap aggP)) (hl : l'.length ≤ 256) : IsStk (fun b => F b ∨ (b0 ≤ b ∧ b < w.heap.size)) p { s with a1 := l' } (w.setCell ⟨p, 2, none⟩ v') := by
  obtain ⟨ps, v1, v2, h1, h2, h3, h4, h5, h6, h7⟩ := h.row
  refine ⟨.inl h.own, hl, h.l2, ps, v', v2, blk_set h1 2 _, (h2.cell h1 2 _).mono (fun b hb => .inl hb), own_cell (row_mono ho (Nat.zero_le _)) h1 (by decide) 2 _, own_cell h4 h1 (by decide) 2 _, fun g hg => .inr (ho.lt g hg), fun g hg => .inl (h6 g hg), fun g hg e => ?_⟩
  have h8 := hF g (h6 g e)
  have h9 := (ho.lt g hg).1
  omega
theorem IsStk.lay2 {v' : Value} (h : IsStk F p s w) (hF : ∀ b, F b → b < b0) (ho : w.ownsRow b0 31 5 v' l'.length (l'.flatMap aggP)) (hl : l'.length ≤ 256) : IsStk (fun b => F b ∨ (b0 ≤ b ∧ b < w.heap.size)) p { s with a2 := l' } (w.setCell ⟨p, 3, none⟩ v') := by
  obtain ⟨ps, v1, v2, h1, h2, h3, h4, h5, h6, h7⟩ := h.row
  refine ⟨.inl h.own, h.l1, hl, ps, v1, v', blk_set h1 3 _, (h2.cell h1 3 _).mono (fun b hb => .inl hb), own_cell h3 h1 (by decide) 3 _, own_cell (row_mono ho (Nat.zero_le _)) h1 (by decide) 3 _, fun g hg => .inl (h5 g hg), fun g hg => .inr (ho.lt g hg), fun g hg e => ?_⟩
  have h8 := hF g (h5 g hg)
  have h9 := (ho.lt g e).1
  omega
end
def StkEnd (F : Nat → Prop) (p : Nat) (s' : Stk) (w : World) (e : Ending) (w' : World) : Prop := (∃ v, e = .returned v) ∧ IsStk (More F w w') p s' w' ∧ Keep F w w'
theorem flat31 (l : List S31) (x : S31) : (l ++ [x]).flatMap aggP = l.flatMap aggP ++ [.int .i64 x.f0, .int .i64 x.f1, .int .i64 x.f2, .int .i64 x.f3, .int .i64 x.f4] := by rw [List.flatMap_append]; rfl
set_option maxRecDepth 100000 in
set_option maxHeartbeats 32000000 in
theorem tagain1_calls (F : Nat → Prop) (p : Nat) (s : Stk) (a b : Int) (w : World) (hS : IsStk F p s w) (hF : ∀ b, F b → b < w.heap.size) (ht : Tk s.a1) (hr : rightR a b = true) :
    Calls Try.prog 72 #[.pointer (some ⟨p, 0, none⟩), .int .i64 1, .agg #[.int .i64 a, .int .i64 b]] w (StkEnd F p { s with a1 := again1 s.raw a b s.a1 } w) := by
  have hlen := hS.l1
  obtain ⟨pr, v1, v2, hp, _, ho1, ho2, _⟩ := hS.row
  obtain ⟨A, ca, hv⟩ := row_form ho1
  subst hv
  obtain ⟨l, hl⟩ : ∃ l, l = s.a1 := ⟨_, rfl⟩
  obtain ⟨ofw, hofw⟩ : ∃ f, f = (fun f => ofP f (inR f (f + 300) s.raw)) := ⟨_, rfl⟩
  obtain ⟨c0, hc0⟩ : ∃ c, c = stW 300 a := ⟨_, rfl⟩
  obtain ⟨c1, hc1⟩ : ∃ c, c = stW 300 (b - 1) + 300 := ⟨_, rfl⟩
  have HG := Aside0.mk (show again1 s.raw a b s.a1 = againP 300 c0 c1 ofw l by rw [hofw, hc0, hc1, hl]; rfl)
  have HLL := Aside0.mk (show s.a1.length = l.length by rw [hl])
  rw [← hl] at ho1 hlen ht
  have hu42 := Try.underlying42
  have hu100 := Try.underlying100
  have hu98 := Try.underlying98
  have hu31 := Try.underlying31
  have q0 : w.cell? ⟨p, 2, none⟩ = some (.slice A l.length ca) := by rw [hl]; exact blk_cell hp 2
  have HO := Aside0.mk ho1
  have HT := Lib.hid ht
  have HS := Aside0.mk hS
  have HF := Lib.hid hF
  have HP := Aside0.mk hp
  have HOFW := Lib.hid (fun (f : Int) (W : World) (hb : Below w.heap.size w W) => (show Calls Try.prog 83 #[.pointer (some ⟨p, 0, none⟩), .int .i64 1, .agg #[.int .i64 f, .int .i64 (f + 300)]] W (OfPost (ofw f) W) by rw [hofw]; exact tof1_calls F p s f (f + 300) W (hS.below hb) ))
  have HCV := Lib.hid (fun W => window_Cover.calls 20 1 a b _ _ W (wCover_is (t := 1) (.inl rfl) hr))
  have hwd : widthT 1 = 300 := by decide
  rw [hwd, ← hc0, ← hc1] at HCV
  obtain ⟨W0, hW0⟩ : ∃ W, W = w.alloc (.cells #[.int .i64 a, .int .i64 b] 42) := ⟨_, rfl⟩
  have HB0 := Aside0.mk (show Below w.heap.size w W0 by rw [hW0]; exact (Below.refl _ _).alloc (Nat.le_refl _) _)
  have HQ0 := Aside0.mk (show W0.heap[w.heap.size]? = some (.cells #[.int .i64 a, .int .i64 b] 42 (0, 0)) by rw [hW0]; exact blk_new w _)
  have Q0 := Aside0.mk q0
  obtain ⟨i31, hi31, z0, z1, z2⟩ := info_parts info31
  have H300 := Aside0.mk hwd
  clear hS hp ho1 ho2 ht q0 hl hofw hc0 hc1 hF hr hwd
  go_enter Try.func72, Try.ntmps72
  go_upto_region 1 with (fail)
  rw [← hW0]
  clear hW0
  have t0 : W0.cell? ⟨w.heap.size, 0, none⟩ = some (.int .i64 a) := blk_cell HQ0.out 0
  have t1 : W0.cell? ⟨w.heap.size, 1, none⟩ = some (.int .i64 b) := blk_cell HQ0.out 1
  go_wp2_with fail
  refine (HCV.out W0).mono ?_
  rintro e w1 ⟨rfl, h1⟩
  obtain ⟨W1, hW1⟩ : ∃ W, W = w1.alloc (.cells #[.int .i64 c0, .int .i64 c1] 42) := ⟨_, rfl⟩
  obtain ⟨Q, hQ⟩ : ∃ Q, Q = w1.heap.size := ⟨_, rfl⟩
  have HB1 := Aside0.mk (show Below w.heap.size w W1 by rw [hW1]; exact (HB0.out.trans (h1.mono HB0.out.size)).alloc (HB0.out.trans (h1.mono HB0.out.size)).size _)
  have HQ1 := Aside0.mk (show W1.heap[Q]? = some (.cells #[.int .i64 c0, .int .i64 c1] 42 (0, 0)) by rw [hW1, hQ]; exact blk_new w1 _)
  have q0 : W1.cell? ⟨p, 2, none⟩ = some (.slice A l.length ca) := bread HB1.out Q0.out
  clear h1 HB0 HQ0 HCV Q0 t0 t1
  go_upto_region 2 with (fail)
  rw [← hW1, ← hQ]
  clear hW1 hQ
  go_wp2_with fail
  go_loopw [7, 22] (fun v7 v22 wr => ∃ (j : Nat) (vr : Value), j ≤ l.length ∧ v7 = vr ∧ v22 = .int .i64 (j : Int) ∧ Aside0 (wr.ownsRow w.heap.size 31 5 vr (againP 300 c0 c1 ofw (l.take j)).length ((againP 300 c0 c1 ofw (l.take j)).flatMap aggP)) ∧ Aside0 (wr.heap[Q]? = some (.cells #[.int .i64 c0, .int .i64 c1] 42 (0, 0))) ∧ Aside0 (Below w.heap.size w wr)) (fun _ v _ => l.length - (intOf v).toNat)
  case atStart => exact ⟨0, _, by omega, rfl, rfl, ⟨World.ownsRow_nil _ _ _ _⟩, HQ1, HB1⟩
  case round =>
    clear HQ1 HB1 q0
    obtain ⟨j, vr, hj, hv7, rfl, HR, HQ2, HB⟩ := hrel
    obtain rfl := hv7.symm
    by_cases hlt : j < l.length
    · obtain ⟨g, cg, cur, hvg, hgb, _⟩ := row_pos HO.out (by omega)
      injection hvg with hA _ hcg
      subst hA
      clear hcg
      obtain ⟨x, hx⟩ : ∃ x, l[j]? = some x := ⟨_, List.getElem?_eq_getElem hlt⟩
      obtain ⟨k0, k1, k2, k3, k4⟩ := row31_at HO.out hx
      have u0 := bread HB.out k0
      have u1 := bread HB.out k1
      have u2 := bread HB.out k2
      have u3 := bread HB.out k3
      have u4 := bread HB.out k4
      have hjl : (j : Int) < (l.length : Int) := by omega
      obtain ⟨W, hW⟩ : ∃ W, W = wr.alloc (.cells #[.int .i64 x.f0, .int .i64 x.f1, .int .i64 x.f2, .int .i64 x.f3, .int .i64 x.f4] 31) := ⟨_, rfl⟩
      obtain ⟨X, hX⟩ : ∃ X, X = wr.heap.size := ⟨_, rfl⟩
      have hWb : Below w.heap.size w W := by rw [hW]; exact HB.out.alloc HB.out.size _
      have HBW := Aside0.mk hWb
      have HRW := Aside0.mk (show W.ownsRow w.heap.size 31 5 vr (againP 300 c0 c1 ofw (l.take j)).length ((againP 300 c0 c1 ofw (l.take j)).flatMap aggP) by rw [hW]; exact HR.out.alloc _)
      have hWX : W.heap[X]? = some (.cells #[.int .i64 x.f0, .int .i64 x.f1, .int .i64 x.f2, .int .i64 x.f3, .int .i64 x.f4] 31 (0, 0)) := by rw [hW, hX]; exact blk_new wr _
      have hWQ : W.heap[Q]? = some (.cells #[.int .i64 c0, .int .i64 c1] 42 (0, 0)) := by rw [hW]; exact blk_alloc HQ2.out _
      have HX7 := Aside0.mk hWX
      have HQ7 := Aside0.mk hWQ
      have HX := Aside0.mk hx
      have HLE := Aside0.mk (show (againP 300 c0 c1 ofw (l.take j)).length ≤ 256 from Nat.le_trans (againP_le _ _ _ _ _) (by rw [List.length_take]; omega))
      have hxt := HT.out x (List.mem_of_getElem? hx)
      have HOF := Lib.hid (fun W => window_Of.calls 10 1 x.f0 _ _ W (wOf_is (t := 1) (.inl rfl) hxt.1 hxt.2))
      rw [H300.out] at HOF
      have HIN := Lib.hid (fun W => window_In.calls c0 c1 x.f0 _ W (wIn_is _ _ _))
      obtain ⟨tb, htb⟩ : ∃ tb, tb = (decide (c0 ≤ x.f0) && decide (x.f0 < c1)) := ⟨_, rfl⟩
      rw [← htb] at HIN
      have HTB := Aside0.mk htb
      obtain ⟨n, hnn⟩ : ∃ n, n = (againP 300 c0 c1 ofw (l.take j)).length := ⟨_, rfl⟩
      have hle := HLE.out
      rw [← hnn] at HRW hle
      have HNN := Aside0.mk hnn
      clear hWb hWX hWQ hx k0 k1 k2 k3 k4 hgb HR HB HQ2 htb hxt hnn
      go_upto_region 6 with (fail)
      rw [← hW, ← hX]
      clear hW hX u0 u1 u2 u3 u4
      have c0_ : W.cell? ⟨Q, 0, none⟩ = some (.int .i64 c0) := blk_cell HQ7.out 0
      have c1_ : W.cell? ⟨Q, 1, none⟩ = some (.int .i64 c1) := blk_cell HQ7.out 1
      have r0 : W.cell? ⟨X, 0, none⟩ = some (.int .i64 x.f0) := blk_cell HX7.out 0
      go_wp2_with fail
      refine (HIN.out W).mono ?_
      rintro e w7 ⟨rfl, h7⟩
      have HR7 := Aside0.mk (own_kept (w' := w7) HRW.out fun q hq => h7.block q (HRW.out.lt q hq).2)
      have HB7 := Aside0.mk (HBW.out.trans (h7.mono HBW.out.size))
      have HQ7 := Aside0.mk (show w7.heap[Q]? = _ from (h7.block Q (blk_lt HQ7.out)).trans HQ7.out)
      have HX7 := Aside0.mk (show w7.heap[X]? = _ from (h7.block X (blk_lt HX7.out)).trans HX7.out)
      have r0 : w7.cell? ⟨X, 0, none⟩ = some (.int .i64 x.f0) := blk_cell HX7.out 0
      clear h7 HRW HBW c0_ c1_
      cases tb with
      | false =>
        have r1 : w7.cell? ⟨X, 1, none⟩ = some (.int .i64 x.f1) := blk_cell HX7.out 1
        have r2 : w7.cell? ⟨X, 2, none⟩ = some (.int .i64 x.f2) := blk_cell HX7.out 2
        have r3 : w7.cell? ⟨X, 3, none⟩ = some (.int .i64 x.f3) := blk_cell HX7.out 3
        have r4 : w7.cell? ⟨X, 4, none⟩ = some (.int .i64 x.f4) := blk_cell HX7.out 4
        have HNX := Aside0.mk (show againP 300 c0 c1 ofw (l.take (j + 1)) = againP 300 c0 c1 ofw (l.take j) ++ [x] by
          rw [take_snoc31 HX.out, againP_snoc, if_neg (by rw [← HTB.out]; simp)])
        go_wp2_with (first | (at_builtin; refine wpList_append_own _ rfl _ _ 24 rfl w.heap.size 31 i31 (.agg #[.int .i64 0, .int .i64 0, .int .i64 0, .int .i64 0, .int .i64 0]) 5 40 Try.underlying24 hi31 z0 z1 z2 rfl (by decide) _ n _ rfl (HR7.out.alloc _) ⟨w7.heap.size, 0, none⟩ 1 1 [.int .i64 x.f0, .int .i64 x.f1, .int .i64 x.f2, .int .i64 x.f3, .int .i64 x.f4] rfl rfl (cells_new w7 [.int .i64 x.f0, .int .i64 x.f1, .int .i64 x.f2, .int .i64 x.f3, .int .i64 x.f4] 31) (by simp [Value.oneCell']) (by unfold maxLen; omega) (by omega) (by have := HB7.out.size; simp; omega) ?_) | go_in)
        intro v10 w10 ho hg _
        have HR10 := Aside0.mk (show w10.ownsRow w.heap.size 31 5 v10 (againP 300 c0 c1 ofw (l.take (j + 1))).length ((againP 300 c0 c1 ofw (l.take (j + 1))).flatMap aggP) by
          rw [HNX.out, List.length_append, flat31, ← HNN.out]
          exact ho)
        have HB10 := Aside0.mk ((HB7.out.alloc HB7.out.size (.cells #[.int .i64 x.f0, .int .i64 x.f1, .int .i64 x.f2, .int .i64 x.f3, .int .i64 x.f4] 31)).grown hg (by have := HB7.out.size; simp; omega) (fun q hq => (HR7.out.lt q hq).1))
        have HQ10 := Aside0.mk (show w10.heap[Q]? = some (.cells #[.int .i64 c0, .int .i64 c1] 42 (0, 0)) from (hg.block Q (by have := blk_lt HQ7.out; simp; omega) (fun e => row_ne HR7.out HQ7.out (by decide) e.symm)).trans (blk_alloc HQ7.out _))
        clear ho hg HR7 HB7 HQ7 r0 r1 r2 r3 r4
        go_wp2_with fail
        go_roundw
        case rel => exact ⟨j + 1, _, by omega, rfl, by go_num, HR10, HQ10, HB10⟩
        case measure => simp [intOf]; omega
      | true =>
        go_wp2_with fail
        refine (HOF.out w7).mono ?_
        rintro e w8 ⟨rfl, h8⟩
        have HR8 := Aside0.mk (own_kept (w' := w8) HR7.out fun q hq => h8.block q (HR7.out.lt q hq).2)
        have HB8 := Aside0.mk (HB7.out.trans (h8.mono HB7.out.size))
        have HQ8 := Aside0.mk (show w8.heap[Q]? = _ from (h8.block Q (blk_lt HQ7.out)).trans HQ7.out)
        clear h8 HR7 HB7 HQ7 HX7 r0
        go_wp2_with fail
        have HCO := Aside0.mk (HOFW.out (stW 300 x.f0) w8 HB8.out)
        obtain ⟨y, hy⟩ : ∃ y, y = ofw (stW 300 x.f0) := ⟨_, rfl⟩
        rw [← hy] at HCO
        have HY := Aside0.mk hy
        clear hy
        refine HCO.out.mono ?_
        rintro e w9 ⟨rfl, h9⟩
        obtain ⟨W9, hW9⟩ : ∃ W, W = w9.alloc (.cells #[.int .i64 y.1.f0, .int .i64 y.1.f1, .int .i64 y.1.f2, .int .i64 y.1.f3, .int .i64 y.1.f4] 31) := ⟨_, rfl⟩
        obtain ⟨Y, hY⟩ : ∃ Y, Y = w9.heap.size := ⟨_, rfl⟩
        have h9b : Below w8.heap.size w8 W9 := by rw [hW9]; exact h9.alloc h9.size _
        have HR9 := Aside0.mk (own_kept (w' := W9) HR8.out fun q hq => h9b.block q (HR8.out.lt q hq).2)
        have HB9 := Aside0.mk (HB8.out.trans (h9b.mono HB8.out.size))
        have HQ9 := Aside0.mk (show W9.heap[Q]? = _ from (h9b.block Q (blk_lt HQ8.out)).trans HQ8.out)
        have HY9 := Aside0.mk (show W9.heap[Y]? = some (.cells #[.int .i64 y.1.f0, .int .i64 y.1.f1, .int .i64 y.1.f2, .int .i64 y.1.f3, .int .i64 y.1.f4] 31 (0, 0)) by rw [hW9, hY]; exact blk_new w9 _)
        clear h9 h9b HR8 HB8 HQ8 HCO
        go_upto_region 9 with (fail)
        rw [← hW9, ← hY]
        clear hW9 hY
        obtain ⟨⟨z0_, z1_, z2_, z3_, z4_⟩, zb⟩ := y
        dsimp only at HY9 ⊢
        cases zb with
        | true =>
          have r0 : W9.cell? ⟨Y, 0, none⟩ = some (.int .i64 z0_) := blk_cell HY9.out 0
          have r1 : W9.cell? ⟨Y, 1, none⟩ = some (.int .i64 z1_) := blk_cell HY9.out 1
          have r2 : W9.cell? ⟨Y, 2, none⟩ = some (.int .i64 z2_) := blk_cell HY9.out 2
          have r3 : W9.cell? ⟨Y, 3, none⟩ = some (.int .i64 z3_) := blk_cell HY9.out 3
          have r4 : W9.cell? ⟨Y, 4, none⟩ = some (.int .i64 z4_) := blk_cell HY9.out 4
          have HNX := Aside0.mk (show againP 300 c0 c1 ofw (l.take (j + 1)) = againP 300 c0 c1 ofw (l.take j) ++ [⟨z0_, z1_, z2_, z3_, z4_⟩] by
            rw [take_snoc31 HX.out, againP_snoc, if_pos HTB.out.symm, ← HY.out]
            rfl)
          go_wp2_with (first | (at_builtin; refine wpList_append_own _ rfl _ _ 24 rfl w.heap.size 31 i31 (.agg #[.int .i64 0, .int .i64 0, .int .i64 0, .int .i64 0, .int .i64 0]) 5 40 Try.underlying24 hi31 z0 z1 z2 rfl (by decide) _ n _ rfl (HR9.out.alloc _) ⟨W9.heap.size, 0, none⟩ 1 1 [.int .i64 z0_, .int .i64 z1_, .int .i64 z2_, .int .i64 z3_, .int .i64 z4_] rfl rfl (cells_new W9 [.int .i64 z0_, .int .i64 z1_, .int .i64 z2_, .int .i64 z3_, .int .i64 z4_] 31) (by simp [Value.oneCell']) (by unfold maxLen; omega) (by omega) (by have := HB9.out.size; simp; omega) ?_) | go_in)
          intro v10 w10 ho hg _
          have HR10 := Aside0.mk (show w10.ownsRow w.heap.size 31 5 v10 (againP 300 c0 c1 ofw (l.take (j + 1))).length ((againP 300 c0 c1 ofw (l.take (j + 1))).flatMap aggP) by
            rw [HNX.out, List.length_append, flat31, ← HNN.out]
            exact ho)
          have HB10 := Aside0.mk ((HB9.out.alloc HB9.out.size (.cells #[.int .i64 z0_, .int .i64 z1_, .int .i64 z2_, .int .i64 z3_, .int .i64 z4_] 31)).grown hg (by have := HB9.out.size; simp; omega) (fun q hq => (HR9.out.lt q hq).1))
          have HQ10 := Aside0.mk (show w10.heap[Q]? = some (.cells #[.int .i64 c0, .int .i64 c1] 42 (0, 0)) from (hg.block Q (by have := blk_lt HQ9.out; simp; omega) (fun e => row_ne HR9.out HQ9.out (by decide) e.symm)).trans (blk_alloc HQ9.out _))
          clear ho hg HR9 HB9 HQ9 r0 r1 r2 r3 r4
          go_wp2_with fail
          go_roundw
          case rel => exact ⟨j + 1, _, by omega, rfl, by go_num, HR10, HQ10, HB10⟩
          case measure => simp [intOf]; omega
        | false =>
          have HNX := Aside0.mk (show againP 300 c0 c1 ofw (l.take (j + 1)) = againP 300 c0 c1 ofw (l.take j) by
            rw [take_snoc31 HX.out, againP_snoc, if_pos HTB.out.symm, ← HY.out]
            simp)
          have HR10 := Aside0.mk (show W9.ownsRow w.heap.size 31 5 vr (againP 300 c0 c1 ofw (l.take (j + 1))).length ((againP 300 c0 c1 ofw (l.take (j + 1))).flatMap aggP) by
            rw [HNX.out, ← HNN.out]
            exact HR9.out)
          clear HR9
          go_wp2_with fail
          go_roundw
          case rel => exact ⟨j + 1, _, by omega, rfl, by go_num, HR10, HQ9, HB9⟩
          case measure => simp [intOf]; omega
    · have hje : j = l.length := by omega
      subst hje
      have HR2 := HR.out
      rw [List.take_length] at HR2
      obtain ⟨Ar, cr, hvr⟩ := row_form HR2
      subst hvr
      have HP2 := Aside0.mk (show wr.heap[p]? = some (.cells (stkCells pr (.slice A s.a1.length ca) v2 s) 100 (0, 0)) from (HB.out.block p (blk_lt HP.out)).trans HP.out)
      have y0 : wr.cell? ⟨p, 2, none⟩ = some (.slice A l.length ca) := bread HB.out (by have := blk_cell HP.out 2; exact this.trans (by rw [HLL.out]; rfl))
      have x0 : wr.frozen? ⟨p, 2, none⟩ = false := blk_frozen HP2.out 2
      have hle : (againP 300 c0 c1 ofw l).length ≤ 256 := Nat.le_trans (againP_le _ _ _ _ _) hlen
      have hfin := (HS.out.below HB.out).lay1 HF.out HR2 hle
      have hkf : Keep F w (wr.setCell ⟨p, 2, none⟩ (.slice Ar (againP 300 c0 c1 ofw l).length cr)) := (Keep.of_below' (S := F) HB.out).setCell (p := ⟨p, 2, none⟩) (fun _ => HS.out.own) _
      have HFIN := Aside0.mk (show IsStk (More F w (wr.setCell ⟨p, 2, none⟩ (.slice Ar (againP 300 c0 c1 ofw l).length cr))) p { s with a1 := againP 300 c0 c1 ofw l } (wr.setCell ⟨p, 2, none⟩ (.slice Ar (againP 300 c0 c1 ofw l).length cr)) from hfin.mono fun b hb => by
        rcases hb with hb | hb
        · exact .inl hb
        · exact .inr (by simpa [World.setCell] using hb))
      have HKF := Aside0.mk hkf
      clear HR2 HR hlt hj hfin hkf hle
      go_wp2
      go_end0
      exact ⟨⟨_, rfl⟩, by rw [HG.out]; exact HFIN.out, HKF.out⟩
set_option maxRecDepth 100000 in
set_option maxHeartbeats 32000000 in
theorem tagain2_calls (F : Nat → Prop) (p : Nat) (s : Stk) (a b : Int) (w : World) (hS : IsStk F p s w) (hF : ∀ b, F b → b < w.heap.size) (ht : Tk s.a2) (ht1 : Tk s.a1) (hr : rightR a b = true) :
    Calls Try.prog 72 #[.pointer (some ⟨p, 0, none⟩), .int .i64 2, .agg #[.int .i64 a, .int .i64 b]] w (StkEnd F p { s with a2 := again2 s.a1 a b s.a2 } w) := by
  have hlen := hS.l2
  obtain ⟨pr, v1, v2, hp, _, ho1, ho2, _⟩ := hS.row
  obtain ⟨A, ca, hv⟩ := row_form ho2
  subst hv
  obtain ⟨l, hl⟩ : ∃ l, l = s.a2 := ⟨_, rfl⟩
  obtain ⟨ofw, hofw⟩ : ∃ f, f = (fun f => joinP f (aggR 300 f (f + 3600) s.a1)) := ⟨_, rfl⟩
  obtain ⟨c0, hc0⟩ : ∃ c, c = stW 3600 a := ⟨_, rfl⟩
  obtain ⟨c1, hc1⟩ : ∃ c, c = stW 3600 (b - 1) + 3600 := ⟨_, rfl⟩
  have HG := Aside0.mk (show again2 s.a1 a b s.a2 = againP 3600 c0 c1 ofw l by rw [hofw, hc0, hc1, hl]; rfl)
  have HLL := Aside0.mk (show s.a2.length = l.length by rw [hl])
  rw [← hl] at ho2 hlen ht
  have hu42 := Try.underlying42
  have hu100 := Try.underlying100
  have hu98 := Try.underlying98
  have hu31 := Try.underlying31
  have q0 : w.cell? ⟨p, 3, none⟩ = some (.slice A l.length ca) := by rw [hl]; exact blk_cell hp 3
  have HO := Aside0.mk ho2
  have HT := Lib.hid ht
  have HS := Aside0.mk hS
  have HF := Lib.hid hF
  have HP := Aside0.mk hp
  have HOFW := Lib.hid (fun (f : Int) (W : World) (hb : Below w.heap.size w W) => (show Calls Try.prog 83 #[.pointer (some ⟨p, 0, none⟩), .int .i64 2, .agg #[.int .i64 f, .int .i64 (f + 3600)]] W (OfPost (ofw f) W) by rw [hofw]; exact tof2_calls F p s f (f + 3600) W (hS.below hb) ht1))
  have HCV := Lib.hid (fun W => window_Cover.calls 20 2 a b _ _ W (wCover_is (t := 2) (.inr rfl) hr))
  have hwd : widthT 2 = 3600 := by decide
  rw [hwd, ← hc0, ← hc1] at HCV
  obtain ⟨W0, hW0⟩ : ∃ W, W = w.alloc (.cells #[.int .i64 a, .int .i64 b] 42) := ⟨_, rfl⟩
  have HB0 := Aside0.mk (show Below w.heap.size w W0 by rw [hW0]; exact (Below.refl _ _).alloc (Nat.le_refl _) _)
  have HQ0 := Aside0.mk (show W0.heap[w.heap.size]? = some (.cells #[.int .i64 a, .int .i64 b] 42 (0, 0)) by rw [hW0]; exact blk_new w _)
  have Q0 := Aside0.mk q0
  obtain ⟨i31, hi31, z0, z1, z2⟩ := info_parts info31
  have H3600 := Aside0.mk hwd
  clear hS hp ho1 ho2 ht q0 hl hofw hc0 hc1 hF hr hwd
  go_enter Try.func72, Try.ntmps72
  go_upto_region 1 with (fail)
  rw [← hW0]
  clear hW0
  have t0 : W0.cell? ⟨w.heap.size, 0, none⟩ = some (.int .i64 a) := blk_cell HQ0.out 0
  have t1 : W0.cell? ⟨w.heap.size, 1, none⟩ = some (.int .i64 b) := blk_cell HQ0.out 1
  go_wp2_with fail
  refine (HCV.out W0).mono ?_
  rintro e w1 ⟨rfl, h1⟩
  obtain ⟨W1, hW1⟩ : ∃ W, W = w1.alloc (.cells #[.int .i64 c0, .int .i64 c1] 42) := ⟨_, rfl⟩
  obtain ⟨Q, hQ⟩ : ∃ Q, Q = w1.heap.size := ⟨_, rfl⟩
  have HB1 := Aside0.mk (show Below w.heap.size w W1 by rw [hW1]; exact (HB0.out.trans (h1.mono HB0.out.size)).alloc (HB0.out.trans (h1.mono HB0.out.size)).size _)
  have HQ1 := Aside0.mk (show W1.heap[Q]? = some (.cells #[.int .i64 c0, .int .i64 c1] 42 (0, 0)) by rw [hW1, hQ]; exact blk_new w1 _)
  have q0 : W1.cell? ⟨p, 3, none⟩ = some (.slice A l.length ca) := bread HB1.out Q0.out
  clear h1 HB0 HQ0 HCV Q0 t0 t1
  go_upto_region 2 with (fail)
  rw [← hW1, ← hQ]
  clear hW1 hQ
  go_wp2_with fail
  go_loopw [7, 22] (fun v7 v22 wr => ∃ (j : Nat) (vr : Value), j ≤ l.length ∧ v7 = vr ∧ v22 = .int .i64 (j : Int) ∧ Aside0 (wr.ownsRow w.heap.size 31 5 vr (againP 3600 c0 c1 ofw (l.take j)).length ((againP 3600 c0 c1 ofw (l.take j)).flatMap aggP)) ∧ Aside0 (wr.heap[Q]? = some (.cells #[.int .i64 c0, .int .i64 c1] 42 (0, 0))) ∧ Aside0 (Below w.heap.size w wr)) (fun _ v _ => l.length - (intOf v).toNat)
  case atStart => exact ⟨0, _, by omega, rfl, rfl, ⟨World.ownsRow_nil _ _ _ _⟩, HQ1, HB1⟩
  case round =>
    clear HQ1 HB1 q0
    obtain ⟨j, vr, hj, hv7, rfl, HR, HQ2, HB⟩ := hrel
    obtain rfl := hv7.symm
    by_cases hlt : j < l.length
    · obtain ⟨g, cg, cur, hvg, hgb, _⟩ := row_pos HO.out (by omega)
      injection hvg with hA _ hcg
      subst hA
      clear hcg
      obtain ⟨x, hx⟩ : ∃ x, l[j]? = some x := ⟨_, List.getElem?_eq_getElem hlt⟩
      obtain ⟨k0, k1, k2, k3, k4⟩ := row31_at HO.out hx
      have u0 := bread HB.out k0
      have u1 := bread HB.out k1
      have u2 := bread HB.out k2
      have u3 := bread HB.out k3
      have u4 := bread HB.out k4
      have hjl : (j : Int) < (l.length : Int) := by omega
      obtain ⟨W, hW⟩ : ∃ W, W = wr.alloc (.cells #[.int .i64 x.f0, .int .i64 x.f1, .int .i64 x.f2, .int .i64 x.f3, .int .i64 x.f4] 31) := ⟨_, rfl⟩
      obtain ⟨X, hX⟩ : ∃ X, X = wr.heap.size := ⟨_, rfl⟩
      have hWb : Below w.heap.size w W := by rw [hW]; exact HB.out.alloc HB.out.size _
      have HBW := Aside0.mk hWb
      have HRW := Aside0.mk (show W.ownsRow w.heap.size 31 5 vr (againP 3600 c0 c1 ofw (l.take j)).length ((againP 3600 c0 c1 ofw (l.take j)).flatMap aggP) by rw [hW]; exact HR.out.alloc _)
      have hWX : W.heap[X]? = some (.cells #[.int .i64 x.f0, .int .i64 x.f1, .int .i64 x.f2, .int .i64 x.f3, .int .i64 x.f4] 31 (0, 0)) := by rw [hW, hX]; exact blk_new wr _
      have hWQ : W.heap[Q]? = some (.cells #[.int .i64 c0, .int .i64 c1] 42 (0, 0)) := by rw [hW]; exact blk_alloc HQ2.out _
      have HX7 := Aside0.mk hWX
      have HQ7 := Aside0.mk hWQ
      have HX := Aside0.mk hx
      have HLE := Aside0.mk (show (againP 3600 c0 c1 ofw (l.take j)).length ≤ 256 from Nat.le_trans (againP_le _ _ _ _ _) (by rw [List.length_take]; omega))
      have hxt := HT.out x (List.mem_of_getElem? hx)
      have HOF := Lib.hid (fun W => window_Of.calls 10 2 x.f0 _ _ W (wOf_is (t := 2) (.inr rfl) hxt.1 hxt.2))
      rw [H3600.out] at HOF
      have HIN := Lib.hid (fun W => window_In.calls c0 c1 x.f0 _ W (wIn_is _ _ _))
      obtain ⟨tb, htb⟩ : ∃ tb, tb = (decide (c0 ≤ x.f0) && decide (x.f0 < c1)) := ⟨_, rfl⟩
      rw [← htb] at HIN
      have HTB := Aside0.mk htb
      obtain ⟨n, hnn⟩ : ∃ n, n = (againP 3600 c0 c1 ofw (l.take j)).length := ⟨_, rfl⟩
      have hle := HLE.out
      rw [← hnn] at HRW hle
      have HNN := Aside0.mk hnn
      clear hWb hWX hWQ hx k0 k1 k2 k3 k4 hgb HR HB HQ2 htb hxt hnn
      go_upto_region 6 with (fail)
      rw [← hW, ← hX]
      clear hW hX u0 u1 u2 u3 u4
      have c0_ : W.cell? ⟨Q, 0, none⟩ = some (.int .i64 c0) := blk_cell HQ7.out 0
      have c1_ : W.cell? ⟨Q, 1, none⟩ = some (.int .i64 c1) := blk_cell HQ7.out 1
      have r0 : W.cell? ⟨X, 0, none⟩ = some (.int .i64 x.f0) := blk_cell HX7.out 0
      go_wp2_with fail
      refine (HIN.out W).mono ?_
      rintro e w7 ⟨rfl, h7⟩
      have HR7 := Aside0.mk (own_kept (w' := w7) HRW.out fun q hq => h7.block q (HRW.out.lt q hq).2)
      have HB7 := Aside0.mk (HBW.out.trans (h7.mono HBW.out.size))
      have HQ7 := Aside0.mk (show w7.heap[Q]? = _ from (h7.block Q (blk_lt HQ7.out)).trans HQ7.out)
      have HX7 := Aside0.mk (show w7.heap[X]? = _ from (h7.block X (blk_lt HX7.out)).trans HX7.out)
      have r0 : w7.cell? ⟨X, 0, none⟩ = some (.int .i64 x.f0) := blk_cell HX7.out 0
      clear h7 HRW HBW c0_ c1_
      cases tb with
      | false =>
        have r1 : w7.cell? ⟨X, 1, none⟩ = some (.int .i64 x.f1) := blk_cell HX7.out 1
        have r2 : w7.cell? ⟨X, 2, none⟩ = some (.int .i64 x.f2) := blk_cell HX7.out 2
        have r3 : w7.cell? ⟨X, 3, none⟩ = some (.int .i64 x.f3) := blk_cell HX7.out 3
        have r4 : w7.cell? ⟨X, 4, none⟩ = some (.int .i64 x.f4) := blk_cell HX7.out 4
        have HNX := Aside0.mk (show againP 3600 c0 c1 ofw (l.take (j + 1)) = againP 3600 c0 c1 ofw (l.take j) ++ [x] by
          rw [take_snoc31 HX.out, againP_snoc, if_neg (by rw [← HTB.out]; simp)])
        go_wp2_with (first | (at_builtin; refine wpList_append_own _ rfl _ _ 24 rfl w.heap.size 31 i31 (.agg #[.int .i64 0, .int .i64 0, .int .i64 0, .int .i64 0, .int .i64 0]) 5 40 Try.underlying24 hi31 z0 z1 z2 rfl (by decide) _ n _ rfl (HR7.out.alloc _) ⟨w7.heap.size, 0, none⟩ 1 1 [.int .i64 x.f0, .int .i64 x.f1, .int .i64 x.f2, .int .i64 x.f3, .int .i64 x.f4] rfl rfl (cells_new w7 [.int .i64 x.f0, .int .i64 x.f1, .int .i64 x.f2, .int .i64 x.f3, .int .i64 x.f4] 31) (by simp [Value.oneCell']) (by unfold maxLen; omega) (by omega) (by have := HB7.out.size; simp; omega) ?_) | go_in)
        intro v10 w10 ho hg _
        have HR10 := Aside0.mk (show w10.ownsRow w.heap.size 31 5 v10 (againP 3600 c0 c1 ofw (l.take (j + 1))).length ((againP 3600 c0 c1 ofw (l.take (j + 1))).flatMap aggP) by
          rw [HNX.out, List.length_append, flat31, ← HNN.out]
          exact ho)
        have HB10 := Aside0.mk ((HB7.out.alloc HB7.out.size (.cells #[.int .i64 x.f0, .int .i64 x.f1, .int .i64 x.f2, .int .i64 x.f3, .int .i64 x.f4] 31)).grown hg (by have := HB7.out.size; simp; omega) (fun q hq => (HR7.out.lt q hq).1))
        have HQ10 := Aside0.mk (show w10.heap[Q]? = some (.cells #[.int .i64 c0, .int .i64 c1] 42 (0, 0)) from (hg.block Q (by have := blk_lt HQ7.out; simp; omega) (fun e => row_ne HR7.out HQ7.out (by decide) e.symm)).trans (blk_alloc HQ7.out _))
        clear ho hg HR7 HB7 HQ7 r0 r1 r2 r3 r4
        go_wp2_with fail
        go_roundw
        case rel => exact ⟨j + 1, _, by omega, rfl, by go_num, HR10, HQ10, HB10⟩
        case measure => simp [intOf]; omega
      | true =>
        go_wp2_with fail
        refine (HOF.out w7).mono ?_
        rintro e w8 ⟨rfl, h8⟩
        have HR8 := Aside0.mk (own_kept (w' := w8) HR7.out fun q hq => h8.block q (HR7.out.lt q hq).2)
        have HB8 := Aside0.mk (HB7.out.trans (h8.mono HB7.out.size))
        have HQ8 := Aside0.mk (show w8.heap[Q]? = _ from (h8.block Q (blk_lt HQ7.out)).trans HQ7.out)
        clear h8 HR7 HB7 HQ7 HX7 r0
        go_wp2_with fail
        have HCO := Aside0.mk (HOFW.out (stW 3600 x.f0) w8 HB8.out)
        obtain ⟨y, hy⟩ : ∃ y, y = ofw (stW 3600 x.f0) := ⟨_, rfl⟩
        rw [← hy] at HCO
        have HY := Aside0.mk hy
        clear hy
        refine HCO.out.mono ?_
        rintro e w9 ⟨rfl, h9⟩
        obtain ⟨W9, hW9⟩ : ∃ W, W = w9.alloc (.cells #[.int .i64 y.1.f0, .int .i64 y.1.f1, .int .i64 y.1.f2, .int .i64 y.1.f3, .int .i64 y.1.f4] 31) := ⟨_, rfl⟩
        obtain ⟨Y, hY⟩ : ∃ Y, Y = w9.heap.size := ⟨_, rfl⟩
        have h9b : Below w8.heap.size w8 W9 := by rw [hW9]; exact h9.alloc h9.size _
        have HR9 := Aside0.mk (own_kept (w' := W9) HR8.out fun q hq => h9b.block q (HR8.out.lt q hq).2)
        have HB9 := Aside0.mk (HB8.out.trans (h9b.mono HB8.out.size))
        have HQ9 := Aside0.mk (show W9.heap[Q]? = _ from (h9b.block Q (blk_lt HQ8.out)).trans HQ8.out)
        have HY9 := Aside0.mk (show W9.heap[Y]? = some (.cells #[.int .i64 y.1.f0, .int .i64 y.1.f1, .int .i64 y.1.f2, .int .i64 y.1.f3, .int .i64 y.1.f4] 31 (0, 0)) by rw [hW9, hY]; exact blk_new w9 _)
        clear h9 h9b HR8 HB8 HQ8 HCO
        go_upto_region 9 with (fail)
        rw [← hW9, ← hY]
        clear hW9 hY
        obtain ⟨⟨z0_, z1_, z2_, z3_, z4_⟩, zb⟩ := y
        dsimp only at HY9 ⊢
        cases zb with
        | true =>
          have r0 : W9.cell? ⟨Y, 0, none⟩ = some (.int .i64 z0_) := blk_cell HY9.out 0
          have r1 : W9.cell? ⟨Y, 1, none⟩ = some (.int .i64 z1_) := blk_cell HY9.out 1
          have r2 : W9.cell? ⟨Y, 2, none⟩ = some (.int .i64 z2_) := blk_cell HY9.out 2
          have r3 : W9.cell? ⟨Y, 3, none⟩ = some (.int .i64 z3_) := blk_cell HY9.out 3
          have r4 : W9.cell? ⟨Y, 4, none⟩ = some (.int .i64 z4_) := blk_cell HY9.out 4
          have HNX := Aside0.mk (show againP 3600 c0 c1 ofw (l.take (j + 1)) = againP 3600 c0 c1 ofw (l.take j) ++ [⟨z0_, z1_, z2_, z3_, z4_⟩] by
            rw [take_snoc31 HX.out, againP_snoc, if_pos HTB.out.symm, ← HY.out]
            rfl)
          go_wp2_with (first | (at_builtin; refine wpList_append_own _ rfl _ _ 24 rfl w.heap.size 31 i31 (.agg #[.int .i64 0, .int .i64 0, .int .i64 0, .int .i64 0, .int .i64 0]) 5 40 Try.underlying24 hi31 z0 z1 z2 rfl (by decide) _ n _ rfl (HR9.out.alloc _) ⟨W9.heap.size, 0, none⟩ 1 1 [.int .i64 z0_, .int .i64 z1_, .int .i64 z2_, .int .i64 z3_, .int .i64 z4_] rfl rfl (cells_new W9 [.int .i64 z0_, .int .i64 z1_, .int .i64 z2_, .int .i64 z3_, .int .i64 z4_] 31) (by simp [Value.oneCell']) (by unfold maxLen; omega) (by omega) (by have := HB9.out.size; simp; omega) ?_) | go_in)
          intro v10 w10 ho hg _
          have HR10 := Aside0.mk (show w10.ownsRow w.heap.size 31 5 v10 (againP 3600 c0 c1 ofw (l.take (j + 1))).length ((againP 3600 c0 c1 ofw (l.take (j + 1))).flatMap aggP) by
            rw [HNX.out, List.length_append, flat31, ← HNN.out]
            exact ho)
          have HB10 := Aside0.mk ((HB9.out.alloc HB9.out.size (.cells #[.int .i64 z0_, .int .i64 z1_, .int .i64 z2_, .int .i64 z3_, .int .i64 z4_] 31)).grown hg (by have := HB9.out.size; simp; omega) (fun q hq => (HR9.out.lt q hq).1))
          have HQ10 := Aside0.mk (show w10.heap[Q]? = some (.cells #[.int .i64 c0, .int .i64 c1] 42 (0, 0)) from (hg.block Q (by have := blk_lt HQ9.out; simp; omega) (fun e => row_ne HR9.out HQ9.out (by decide) e.symm)).trans (blk_alloc HQ9.out _))
          clear ho hg HR9 HB9 HQ9 r0 r1 r2 r3 r4
          go_wp2_with fail
          go_roundw
          case rel => exact ⟨j + 1, _, by omega, rfl, by go_num, HR10, HQ10, HB10⟩
          case measure => simp [intOf]; omega
        | false =>
          have HNX := Aside0.mk (show againP 3600 c0 c1 ofw (l.take (j + 1)) = againP 3600 c0 c1 ofw (l.take j) by
            rw [take_snoc31 HX.out, againP_snoc, if_pos HTB.out.symm, ← HY.out]
            simp)
          have HR10 := Aside0.mk (show W9.ownsRow w.heap.size 31 5 vr (againP 3600 c0 c1 ofw (l.take (j + 1))).length ((againP 3600 c0 c1 ofw (l.take (j + 1))).flatMap aggP) by
            rw [HNX.out, ← HNN.out]
            exact HR9.out)
          clear HR9
          go_wp2_with fail
          go_roundw
          case rel => exact ⟨j + 1, _, by omega, rfl, by go_num, HR10, HQ9, HB9⟩
          case measure => simp [intOf]; omega
    · have hje : j = l.length := by omega
      subst hje
      have HR2 := HR.out
      rw [List.take_length] at HR2
      obtain ⟨Ar, cr, hvr⟩ := row_form HR2
      subst hvr
      have HP2 := Aside0.mk (show wr.heap[p]? = some (.cells (stkCells pr v1 (.slice A s.a2.length ca) s) 100 (0, 0)) from (HB.out.block p (blk_lt HP.out)).trans HP.out)
      have y0 : wr.cell? ⟨p, 3, none⟩ = some (.slice A l.length ca) := bread HB.out (by have := blk_cell HP.out 3; exact this.trans (by rw [HLL.out]; rfl))
      have x0 : wr.frozen? ⟨p, 3, none⟩ = false := blk_frozen HP2.out 3
      have hle : (againP 3600 c0 c1 ofw l).length ≤ 256 := Nat.le_trans (againP_le _ _ _ _ _) hlen
      have hfin := (HS.out.below HB.out).lay2 HF.out HR2 hle
      have hkf : Keep F w (wr.setCell ⟨p, 3, none⟩ (.slice Ar (againP 3600 c0 c1 ofw l).length cr)) := (Keep.of_below' (S := F) HB.out).setCell (p := ⟨p, 3, none⟩) (fun _ => HS.out.own) _
      have HFIN := Aside0.mk (show IsStk (More F w (wr.setCell ⟨p, 3, none⟩ (.slice Ar (againP 3600 c0 c1 ofw l).length cr))) p { s with a2 := againP 3600 c0 c1 ofw l } (wr.setCell ⟨p, 3, none⟩ (.slice Ar (againP 3600 c0 c1 ofw l).length cr)) from hfin.mono fun b hb => by
        rcases hb with hb | hb
        · exact .inl hb
        · exact .inr (by simpa [World.setCell] using hb))
      have HKF := Aside0.mk hkf
      clear HR2 HR hlt hj hfin hkf hle
      go_wp2
      go_end0
      exact ⟨⟨_, rfl⟩, by rw [HG.out]; exact HFIN.out, HKF.out⟩
end Go.Proofs.Ytnjdngjlbonieaa
