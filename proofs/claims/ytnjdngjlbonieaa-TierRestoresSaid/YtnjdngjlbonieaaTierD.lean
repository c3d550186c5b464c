/- A stock's aggregates in a range; what a window comes to; marks; walked. -/
import Derived.Test.YtnjdngjlbonieaaTierC
import Derived.Lib.Hide
import Derived.LoopTactic
import Derived.Outline
import Derived.Laws.Rows
import Derived.Laws.CopyOwn
import Derived.WalkKit
set_option linter.unusedVariables false
set_option linter.unusedSimpArgs false
namespace Go.Proofs.Ytnjdngjlbonieaa
open Go.RowKit Go.Proofs.YtnjdngjlbonieaaW.PrintWords Go.Proofs.YtnjdngjlbonieaaW.PrintLast Go.Proofs.YtnjdngjlbonieaaW.PrintMore
open Go.Proofs.Ytnjdngjlbonieaa.PTierForgets
attribute [local go_sem] max2_int min2_int max_two min_two max_three min_three max_four min_four

theorem row31_at {w : World} {B g cap j : Nat} {l : List S31} {x : S31} (h : w.ownsRow B 31 5 (.slice (some ⟨g, 0, none⟩) l.length cap) l.length (l.flatMap aggP)) (hx : l[j]? = some x) :
    w.cell? ⟨g, j * 5, none⟩ = some (.int .i64 x.f0) ∧ w.cell? ⟨g, j * 5 + 1, none⟩ = some (.int .i64 x.f1) ∧ w.cell? ⟨g, j * 5 + 2, none⟩ = some (.int .i64 x.f2) ∧ w.cell? ⟨g, j * 5 + 3, none⟩ = some (.int .i64 x.f3) ∧ w.cell? ⟨g, j * 5 + 4, none⟩ = some (.int .i64 x.f4) := by
  have hj := (List.getElem?_eq_some_iff.1 hx).1
  have key : ∀ i, i < 5 → w.cell? ⟨g, j * 5 + i, none⟩ = (aggP x)[i]? := fun i hi => by
    rw [h.cellAt (j * 5 + i) (by omega), flat_at aggP 5 (fun _ => rfl) l j x i hx hi]
  exact ⟨key 0 (by decide), key 1 (by decide), key 2 (by decide), key 3 (by decide), key 4 (by decide)⟩
theorem flat_len31 (l : List S31) : (l.flatMap aggP).length = l.length * 5 := by
  induction l with
  | nil => rfl
  | cons a r ih => rw [List.flatMap_cons, List.length_append, ih]; simp; omega
theorem take_snoc31 {l : List S31} {j : Nat} {x : S31} (hx : l[j]? = some x) : l.take (j + 1) = l.take j ++ [x] := by
  obtain ⟨hj2, he⟩ := List.getElem?_eq_some_iff.1 hx
  rw [List.take_succ_eq_append_getElem hj2, he]
/-- Those whose window has some of a range. -/
def aggR (wd a b : Int) (l : List S31) : List S31 := l.filter (fun x => decide (mx (stW wd x.f0) a < mn (stW wd x.f0 + wd) b))
/-- Ticks that may be asked for. -/
def Tk (l : List S31) : Prop := ∀ x ∈ l, 0 ≤ x.f0 ∧ x.f0 ≤ 4611686018427380000
/-- A new row of aggregates. -/
def New31 (l : List S31) (w : World) (e : Ending) (w' : World) : Prop := ∃ v', e = .returned v' ∧ w'.ownsRow w.heap.size 31 5 v' l.length (l.flatMap aggP) ∧ Below w.heap.size w w'
set_option maxRecDepth 100000 in
set_option maxHeartbeats 32000000 in
theorem taggs1_calls (F : Nat → Prop) (p : Nat) (s : Stk) (a b : Int) (w : World) (hS : IsStk F p s w) (ht : Tk s.a1) :
    Calls Try.prog 35 #[.pointer (some ⟨p, 0, none⟩), .int .i64 1, .agg #[.int .i64 a, .int .i64 b]] w (New31 (aggR 300 a b s.a1) w) := by
  have hlen := hS.l1
  obtain ⟨pr, v1, v2, hp, _, ho1, ho2, _⟩ := hS.row
  obtain ⟨A, ca, hv⟩ := row_form ho1
  subst hv
  obtain ⟨l, hl⟩ : ∃ l, l = s.a1 := ⟨_, rfl⟩
  rw [← hl] at ho1 hlen ht ⊢
  have hn := nn57 p
  have hu42 := Try.underlying42
  have hu100 := Try.underlying100
  have hu98 := Try.underlying98
  have hu31 := Try.underlying31
  have q0 : w.cell? ⟨p, 2, none⟩ = some (.slice A l.length ca) := by rw [hl]; exact blk_cell hp 2
  have HO := Aside0.mk ho1
  have HT := Lib.hid ht
  have H300 := Lib.hid (tier_wide.calls 1 true)
  obtain ⟨W0, hW0⟩ : ∃ W, W = w.alloc (.cells #[.int .i64 a, .int .i64 b] 42) := ⟨_, rfl⟩
  obtain ⟨Q, hQ⟩ : ∃ Q, Q = w.heap.size := ⟨_, rfl⟩
  have HB0 := Aside0.mk (show Below w.heap.size w W0 by rw [hW0]; exact (Below.refl _ _).alloc (Nat.le_refl _) _)
  have HQ0 := Aside0.mk (show W0.heap[Q]? = some (.cells #[.int .i64 a, .int .i64 b] 42 (0, 0)) by rw [hW0, hQ]; exact blk_new w _)
  have HQW := Aside0.mk (show w.heap.size ≤ Q by rw [hQ]; exact Nat.le_refl _)
  have Q0 := Aside0.mk q0
  obtain ⟨i31, hi31, z0, z1, z2⟩ := info_parts info31
  clear hS hp ho1 ho2 ht q0 hl
  go_enter Try.func35, Try.ntmps35
  go_upto_region 1 with (fail)
  rw [← hW0, ← hQ]
  clear hW0 hQ
  go_wp2_with fail
  refine (H300.out W0 rfl).mono ?_
  rintro e w1 ⟨rfl, h1d⟩
  have h1 := below_drewN0 h1d
  clear h1d
  have HB1 := Aside0.mk (HB0.out.trans (h1.mono HB0.out.size))
  have HQ1 := Aside0.mk (show w1.heap[Q]? = _ from (h1.block Q (blk_lt HQ0.out)).trans HQ0.out)
  have q0 : w1.cell? ⟨p, 2, none⟩ = some (.slice A l.length ca) := bread HB1.out Q0.out
  clear h1 HB0 HQ0 H300 Q0
  go_wp2_with fail
  go_loopw [7, 24] (fun v7 v24 wr => ∃ (j : Nat) (vr : Value), j ≤ l.length ∧ v7 = vr ∧ v24 = .int .i64 (j : Int) ∧ Aside0 (wr.ownsRow w.heap.size 31 5 vr (aggR 300 a b (l.take j)).length ((aggR 300 a b (l.take j)).flatMap aggP)) ∧ Aside0 (wr.heap[Q]? = some (.cells #[.int .i64 a, .int .i64 b] 42 (0, 0))) ∧ Aside0 (Below w.heap.size w wr)) (fun _ v _ => l.length - (intOf v).toNat)
  case atStart => exact ⟨0, _, by omega, rfl, rfl, ⟨World.ownsRow_nil _ _ _ _⟩, HQ1, HB1⟩
  case round =>
    clear HQ1 HB1 q0
    obtain ⟨j, vr, hj, hv7, rfl, HR, HQ2, HB⟩ := hrel
    obtain rfl := hv7.symm
    by_cases hlt : j < l.length
    · obtain ⟨g, cg, cur, hvg, hgb, _⟩ := row_pos HO.out (by omega)
      injection hvg with hA _ hcg
      subst hA
      clear hcg
      obtain ⟨x, hx⟩ : ∃ x, l[j]? = some x := ⟨_, List.getElem?_eq_getElem hlt⟩
      obtain ⟨c0, c1, c2, c3, c4⟩ := row31_at HO.out hx
      have u0 := bread HB.out c0
      have u1 := bread HB.out c1
      have u2 := bread HB.out c2
      have u3 := bread HB.out c3
      have u4 := bread HB.out c4
      have hjl : (j : Int) < (l.length : Int) := by omega
      obtain ⟨W, hW⟩ : ∃ W, W = wr.alloc (.cells #[.int .i64 x.f0, .int .i64 x.f1, .int .i64 x.f2, .int .i64 x.f3, .int .i64 x.f4] 31) := ⟨_, rfl⟩
      obtain ⟨X, hX⟩ : ∃ X, X = wr.heap.size := ⟨_, rfl⟩
      have hWb : Below w.heap.size w W := by rw [hW]; exact HB.out.alloc HB.out.size _
      have HBW := Aside0.mk hWb
      have HRW := Aside0.mk (show W.ownsRow w.heap.size 31 5 vr (aggR 300 a b (l.take j)).length ((aggR 300 a b (l.take j)).flatMap aggP) by rw [hW]; exact HR.out.alloc _)
      have hWX : W.heap[X]? = some (.cells #[.int .i64 x.f0, .int .i64 x.f1, .int .i64 x.f2, .int .i64 x.f3, .int .i64 x.f4] 31 (0, 0)) := by rw [hW, hX]; exact blk_new wr _
      have hWQ : W.heap[Q]? = some (.cells #[.int .i64 a, .int .i64 b] 42 (0, 0)) := by rw [hW]; exact blk_alloc HQ2.out _
      have q1 := hWX
      have q2 := hWQ
      have HX := Aside0.mk hx
      have HLE := Aside0.mk (show (aggR 300 a b (l.take j)).length ≤ 256 from Nat.le_trans (List.length_filter_le _ _) (by rw [List.length_take]; omega))
      have hxt := HT.out x (List.mem_of_getElem? hx)
      have HOF := Lib.hid (fun W => window_Of.calls 10 1 x.f0 _ _ W (wOf_is (t := 1) (.inl rfl) hxt.1 hxt.2))
      have HME := Lib.hid (fun W => window_Meets.calls (stW (widthT 1) x.f0) (stW (widthT 1) x.f0 + widthT 1) a b _ W (wMeets_is _ _ _ _))
      have HVX := Aside0.mk (show vr.ownBlock ≠ some X from fun e => by have := (HR.out.lt X e).2; omega)
      clear hWb hWX hWQ hx c0 c1 c2 c3 c4 hgb HR HB HQ2
      go_wp2_with fail
      rw [← hW, ← hX]
      clear hW hX u0 u1 u2 u3 u4
      refine start_ (n := 6) (S := fun w' => (w'.heap[X]? = some (.cells #[.int .i64 x.f0, .int .i64 x.f1, .int .i64 x.f2, .int .i64 x.f3, .int .i64 x.f4] 31 (0, 0))) ∧ (w'.heap[Q]? = some (.cells #[.int .i64 a, .int .i64 b] 42 (0, 0)))) (ds := []) #[false, false, false, false, false, false] (by kernel_rfl) rfl rfl ⟨q1, q2⟩ (fun hHeld => ?_)
      refine pure_ (i := 0) (N := some 28) (v := ?_) (a' := ?_) #[true, false, false, false, false, false] rfl rfl (by kernel_rfl) (fun _ _ _ h => h) (Or.inl ⟨by rfl, ?_⟩) ?_ ?_
      rotate_left
      · intro w'
        go_simp
        with_reducible rfl
      rotate_left
      · simp only [Act.put, List.setIfInBounds_toArray, List.set_cons_zero, List.set_cons_succ, i64_w, i32_w]
        rfl
      refine pure_ (i := 1) (N := some 29) (v := ?_) (a' := ?_) #[true, true, false, false, false, false] rfl rfl (by kernel_rfl) (fun _ _ _ h => h) (Or.inl ⟨by rfl, ?_⟩) ?_ ?_
      rotate_left
      · intro w'
        go_simp
        with_reducible rfl
      rotate_left
      · simp only [Act.put, List.setIfInBounds_toArray, List.set_cons_zero, List.set_cons_succ, i64_w, i32_w]
        rfl
      refine take_ (i := 2) (N := some 30) (v := ?_) (a' := ?_) #[true, true, true, false, false, false] rfl rfl (by kernel_rfl) (fun _ _ _ h => h) (Or.inl ⟨by rfl, ?_⟩) hHeld ?_ ?_
      rotate_left
      · rintro w' ⟨s0, s1⟩
        have t0 : w'.cell? ⟨X, 0, none⟩ = some (.int .i64 x.f0) := blk_cell s0 0
        have t1 : w'.cell? ⟨Q, 0, none⟩ = some (.int .i64 a) := blk_cell s1 0
        have t2 : w'.cell? ⟨Q, 1, none⟩ = some (.int .i64 b) := blk_cell s1 1
        go_simp
        with_reducible rfl
      rotate_left
      · simp only [Act.put, List.setIfInBounds_toArray, List.set_cons_zero, List.set_cons_succ, i64_w, i32_w]
        rfl
      refine take_ (i := 4) (N := some 32) (v := ?_) (a' := ?_) #[true, true, true, false, true, false] rfl rfl (by kernel_rfl) (fun _ _ _ h => h) (Or.inl ⟨by rfl, ?_⟩) hHeld ?_ ?_
      rotate_left
      · rintro w' ⟨s0, s1⟩
        have t0 : w'.cell? ⟨X, 0, none⟩ = some (.int .i64 x.f0) := blk_cell s0 0
        have t1 : w'.cell? ⟨Q, 0, none⟩ = some (.int .i64 a) := blk_cell s1 0
        have t2 : w'.cell? ⟨Q, 1, none⟩ = some (.int .i64 b) := blk_cell s1 1
        go_simp
        with_reducible rfl
      rotate_left
      · simp only [Act.put, List.setIfInBounds_toArray, List.set_cons_zero, List.set_cons_succ, i64_w, i32_w]
        rfl
      refine one_ (i := 3) (N := some 31) #[true, true, true, true, true, false] rfl rfl (by kernel_rfl) (by decide) (fun K hK => ?_)
      refine goes_ Try.func71 (by kernel_rfl) rfl #[.int .i64 1, .int .i64 x.f0] (by rfl) rfl rfl (by simp only [List.map_toArray, List.map_cons, List.map_nil]; rfl) ?_
      with_reducible refine (HOF.out _).mono ?_
      rintro e w6 ⟨rfl, h6⟩
      have k0 := (h6.block _ (blk_lt hHeld.1)).trans hHeld.1
      have k1 := (h6.block _ (blk_lt hHeld.2)).trans hHeld.2
      have HK6 := Aside0.mk (show Below W.heap.size W w6 from pw_below_drewN (Below.refl _ _) 1 |>.trans h6)
      clear h6
      refine ⟨_, rfl, ?_⟩
      refine hK.out _ _ ⟨k0, k1⟩ (fun hHeld => ?_)
      clear hK K
      refine norm_ (a' := ?_) ?_ ?_
      rotate_left
      · show Act.put _ (some 31) _ = _
        simp only [Act.put, List.setIfInBounds_toArray, List.set_cons_zero, List.set_cons_succ, i64_w, i32_w]
        rfl
      refine one_ (i := 5) (N := some 33) #[true, true, true, true, true, true] rfl rfl (by kernel_rfl) (by decide) (fun K hK => ?_)
      refine goes_ Try.func70 (by kernel_rfl) rfl #[.agg #[.int .i64 (stW (widthT 1) x.f0), .int .i64 (stW (widthT 1) x.f0 + widthT 1)], .agg #[.int .i64 a, .int .i64 b]] (by rfl) rfl rfl (by simp only [List.map_toArray, List.map_cons, List.map_nil]; rfl) ?_
      with_reducible refine (HME.out _).mono ?_
      rintro e w7 ⟨rfl, h7⟩
      have k0 := (h7.block _ (blk_lt hHeld.1)).trans hHeld.1
      have k1 := (h7.block _ (blk_lt hHeld.2)).trans hHeld.2
      have HK7 := Aside0.mk (HK6.out.trans (h7.mono HK6.out.size))
      clear h7
      refine ⟨_, rfl, ?_⟩
      refine hK.out _ _ ⟨k0, k1⟩ (fun hHeld => ?_)
      clear hK K
      refine norm_ (a' := ?_) ?_ ?_
      rotate_left
      · show Act.put _ (some 33) _ = _
        simp only [Act.put, List.setIfInBounds_toArray, List.set_cons_zero, List.set_cons_succ, i64_w, i32_w]
        rfl
      refine done_ (by kernel_rfl) ?_
      obtain ⟨tb, htb⟩ : ∃ tb, tb = decide (mx (stW 300 x.f0) a < mn (stW 300 x.f0 + 300) b) := ⟨_, rfl⟩
      have HTB := Aside0.mk htb
      have hwd : widthT 1 = 300 := by decide
      rw [hwd, ← htb]
      have HR7 := Aside0.mk (own_kept (w' := w7) HRW.out fun q hq => HK7.out.block q (HRW.out.lt q hq).2)
      have HB7 := Aside0.mk (HBW.out.trans (HK7.out.mono HBW.out.size))
      have q1 := k0
      have r0 : w7.cell? ⟨X, 0, none⟩ = some (.int .i64 x.f0) := blk_cell k0 0
      have r1 : w7.cell? ⟨X, 1, none⟩ = some (.int .i64 x.f1) := blk_cell k0 1
      have r2 : w7.cell? ⟨X, 2, none⟩ = some (.int .i64 x.f2) := blk_cell k0 2
      have r3 : w7.cell? ⟨X, 3, none⟩ = some (.int .i64 x.f3) := blk_cell k0 3
      have r4 : w7.cell? ⟨X, 4, none⟩ = some (.int .i64 x.f4) := blk_cell k0 4
      have HQ7 := Aside0.mk k1
      clear htb hwd HRW HBW HOF HME hHeld k0 k1
      cases tb with
      | true =>
        have HNX := Aside0.mk (show aggR 300 a b (l.take (j + 1)) = aggR 300 a b (l.take j) ++ [x] by
          unfold aggR
          rw [take_snoc31 HX.out, List.filter_append, List.filter_cons, if_pos HTB.out.symm]
          rfl)
        obtain ⟨n, hnn⟩ : ∃ n, n = (aggR 300 a b (l.take j)).length := ⟨_, rfl⟩
        have hle := HLE.out
        rw [← hnn] at HR7 hle
        have HNN := Aside0.mk hnn
        clear hnn
        go_wp2_with (first | (at_builtin; refine wpList_append_own _ rfl _ _ 24 rfl w.heap.size 31 i31 (.agg #[.int .i64 0, .int .i64 0, .int .i64 0, .int .i64 0, .int .i64 0]) 5 40 Try.underlying24 hi31 z0 z1 z2 rfl (by decide) _ n _ rfl (HR7.out.alloc _) ⟨w7.heap.size, 0, none⟩ 1 1 [.int .i64 x.f0, .int .i64 x.f1, .int .i64 x.f2, .int .i64 x.f3, .int .i64 x.f4] rfl rfl (cells_new w7 [.int .i64 x.f0, .int .i64 x.f1, .int .i64 x.f2, .int .i64 x.f3, .int .i64 x.f4] 31) (by simp [Value.oneCell']) (by unfold maxLen; omega) (by omega) (by have := HB7.out.size; simp; omega) ?_) | go_in)
        intro v8 w8 ho hg _
        have HR8 := Aside0.mk (show w8.ownsRow w.heap.size 31 5 v8 (aggR 300 a b (l.take (j + 1))).length ((aggR 300 a b (l.take (j + 1))).flatMap aggP) by
          rw [HNX.out, List.length_append, List.flatMap_append, ← HNN.out]
          exact ho)
        have HB8 := Aside0.mk ((HB7.out.alloc HB7.out.size (.cells #[.int .i64 x.f0, .int .i64 x.f1, .int .i64 x.f2, .int .i64 x.f3, .int .i64 x.f4] 31)).grown hg (by have := HB7.out.size; simp; omega) (fun q hq => (HR7.out.lt q hq).1))
        have HQ8 := Aside0.mk (show w8.heap[Q]? = some (.cells #[.int .i64 a, .int .i64 b] 42 (0, 0)) from (hg.block Q (by have := blk_lt HQ7.out; simp; omega) (fun e => row_ne HR7.out HQ7.out (by decide) e.symm)).trans (blk_alloc HQ7.out _))
        clear ho hg HR7 HB7 HQ7 r0 r1 r2 r3 r4
        go_wp2_with fail
        go_roundw
        case rel => exact ⟨j + 1, _, by omega, rfl, by go_num, HR8, HQ8, HB8⟩
        case measure => simp [intOf]; omega
      | false =>
        have HNX := Aside0.mk (show aggR 300 a b (l.take (j + 1)) = aggR 300 a b (l.take j) by
          unfold aggR
          rw [take_snoc31 HX.out, List.filter_append, List.filter_cons, if_neg (by rw [← HTB.out]; simp)]
          simp)
        have HR8 := Aside0.mk (show w7.ownsRow w.heap.size 31 5 vr (aggR 300 a b (l.take (j + 1))).length ((aggR 300 a b (l.take (j + 1))).flatMap aggP) by
          rw [HNX.out]
          exact HR7.out)
        clear HR7 r0 r1 r2 r3 r4
        go_wp2_with fail
        go_roundw
        case rel => exact ⟨j + 1, _, by omega, rfl, by go_num, HR8, HQ7, HB7⟩
        case measure => simp [intOf]; omega
    · have hje : j = l.length := by omega
      subst hje
      have HR2 := HR.out
      rw [List.take_length] at HR2
      have HR3 := Aside0.mk HR2
      clear HR2 HR hlt hj
      go_wp2
      go_ret
      exact ⟨_, rfl, HR3.out, HB.out⟩
set_option maxRecDepth 100000 in
set_option maxHeartbeats 32000000 in
theorem taggs2_calls (F : Nat → Prop) (p : Nat) (s : Stk) (a b : Int) (w : World) (hS : IsStk F p s w) (ht : Tk s.a2) :
    Calls Try.prog 35 #[.pointer (some ⟨p, 0, none⟩), .int .i64 2, .agg #[.int .i64 a, .int .i64 b]] w (New31 (aggR 3600 a b s.a2) w) := by
  have hlen := hS.l2
  obtain ⟨pr, v1, v2, hp, _, ho1, ho2, _⟩ := hS.row
  obtain ⟨A, ca, hv⟩ := row_form ho2
  subst hv
  obtain ⟨l, hl⟩ : ∃ l, l = s.a2 := ⟨_, rfl⟩
  rw [← hl] at ho2 hlen ht ⊢
  have hn := nn57 p
  have hu42 := Try.underlying42
  have hu100 := Try.underlying100
  have hu98 := Try.underlying98
  have hu31 := Try.underlying31
  have q0 : w.cell? ⟨p, 3, none⟩ = some (.slice A l.length ca) := by rw [hl]; exact blk_cell hp 3
  have HO := Aside0.mk ho2
  have HT := Lib.hid ht
  have H3600 := Lib.hid (tier_wide.calls 2 true)
  obtain ⟨W0, hW0⟩ : ∃ W, W = w.alloc (.cells #[.int .i64 a, .int .i64 b] 42) := ⟨_, rfl⟩
  obtain ⟨Q, hQ⟩ : ∃ Q, Q = w.heap.size := ⟨_, rfl⟩
  have HB0 := Aside0.mk (show Below w.heap.size w W0 by rw [hW0]; exact (Below.refl _ _).alloc (Nat.le_refl _) _)
  have HQ0 := Aside0.mk (show W0.heap[Q]? = some (.cells #[.int .i64 a, .int .i64 b] 42 (0, 0)) by rw [hW0, hQ]; exact blk_new w _)
  have HQW := Aside0.mk (show w.heap.size ≤ Q by rw [hQ]; exact Nat.le_refl _)
  have Q0 := Aside0.mk q0
  obtain ⟨i31, hi31, z0, z1, z2⟩ := info_parts info31
  clear hS hp ho1 ho2 ht q0 hl
  go_enter Try.func35, Try.ntmps35
  go_upto_region 1 with (fail)
  rw [← hW0, ← hQ]
  clear hW0 hQ
  go_wp2_with fail
  refine (H3600.out W0 rfl).mono ?_
  rintro e w1 ⟨rfl, h1d⟩
  have h1 := below_drewN0 h1d
  clear h1d
  have HB1 := Aside0.mk (HB0.out.trans (h1.mono HB0.out.size))
  have HQ1 := Aside0.mk (show w1.heap[Q]? = _ from (h1.block Q (blk_lt HQ0.out)).trans HQ0.out)
  have q0 : w1.cell? ⟨p, 3, none⟩ = some (.slice A l.length ca) := bread HB1.out Q0.out
  clear h1 HB0 HQ0 H3600 Q0
  go_wp2_with fail
  go_loopw [7, 24] (fun v7 v24 wr => ∃ (j : Nat) (vr : Value), j ≤ l.length ∧ v7 = vr ∧ v24 = .int .i64 (j : Int) ∧ Aside0 (wr.ownsRow w.heap.size 31 5 vr (aggR 3600 a b (l.take j)).length ((aggR 3600 a b (l.take j)).flatMap aggP)) ∧ Aside0 (wr.heap[Q]? = some (.cells #[.int .i64 a, .int .i64 b] 42 (0, 0))) ∧ Aside0 (Below w.heap.size w wr)) (fun _ v _ => l.length - (intOf v).toNat)
  case atStart => exact ⟨0, _, by omega, rfl, rfl, ⟨World.ownsRow_nil _ _ _ _⟩, HQ1, HB1⟩
  case round =>
    clear HQ1 HB1 q0
    obtain ⟨j, vr, hj, hv7, rfl, HR, HQ2, HB⟩ := hrel
    obtain rfl := hv7.symm
    by_cases hlt : j < l.length
    · obtain ⟨g, cg, cur, hvg, hgb, _⟩ := row_pos HO.out (by omega)
      injection hvg with hA _ hcg
      subst hA
      clear hcg
      obtain ⟨x, hx⟩ : ∃ x, l[j]? = some x := ⟨_, List.getElem?_eq_getElem hlt⟩
      obtain ⟨c0, c1, c2, c3, c4⟩ := row31_at HO.out hx
      have u0 := bread HB.out c0
      have u1 := bread HB.out c1
      have u2 := bread HB.out c2
      have u3 := bread HB.out c3
      have u4 := bread HB.out c4
      have hjl : (j : Int) < (l.length : Int) := by omega
      obtain ⟨W, hW⟩ : ∃ W, W = wr.alloc (.cells #[.int .i64 x.f0, .int .i64 x.f1, .int .i64 x.f2, .int .i64 x.f3, .int .i64 x.f4] 31) := ⟨_, rfl⟩
      obtain ⟨X, hX⟩ : ∃ X, X = wr.heap.size := ⟨_, rfl⟩
      have hWb : Below w.heap.size w W := by rw [hW]; exact HB.out.alloc HB.out.size _
      have HBW := Aside0.mk hWb
      have HRW := Aside0.mk (show W.ownsRow w.heap.size 31 5 vr (aggR 3600 a b (l.take j)).length ((aggR 3600 a b (l.take j)).flatMap aggP) by rw [hW]; exact HR.out.alloc _)
      have hWX : W.heap[X]? = some (.cells #[.int .i64 x.f0, .int .i64 x.f1, .int .i64 x.f2, .int .i64 x.f3, .int .i64 x.f4] 31 (0, 0)) := by rw [hW, hX]; exact blk_new wr _
      have hWQ : W.heap[Q]? = some (.cells #[.int .i64 a, .int .i64 b] 42 (0, 0)) := by rw [hW]; exact blk_alloc HQ2.out _
      have q1 := hWX
      have q2 := hWQ
      have HX := Aside0.mk hx
      have HLE := Aside0.mk (show (aggR 3600 a b (l.take j)).length ≤ 256 from Nat.le_trans (List.length_filter_le _ _) (by rw [List.length_take]; omega))
      have hxt := HT.out x (List.mem_of_getElem? hx)
      have HOF := Lib.hid (fun W => window_Of.calls 10 2 x.f0 _ _ W (wOf_is (t := 2) (.inr rfl) hxt.1 hxt.2))
      have HME := Lib.hid (fun W => window_Meets.calls (stW (widthT 2) x.f0) (stW (widthT 2) x.f0 + widthT 2) a b _ W (wMeets_is _ _ _ _))
      have HVX := Aside0.mk (show vr.ownBlock ≠ some X from fun e => by have := (HR.out.lt X e).2; omega)
      clear hWb hWX hWQ hx c0 c1 c2 c3 c4 hgb HR HB HQ2
      go_wp2_with fail
      rw [← hW, ← hX]
      clear hW hX u0 u1 u2 u3 u4
      refine start_ (n := 6) (S := fun w' => (w'.heap[X]? = some (.cells #[.int .i64 x.f0, .int .i64 x.f1, .int .i64 x.f2, .int .i64 x.f3, .int .i64 x.f4] 31 (0, 0))) ∧ (w'.heap[Q]? = some (.cells #[.int .i64 a, .int .i64 b] 42 (0, 0)))) (ds := []) #[false, false, false, false, false, false] (by kernel_rfl) rfl rfl ⟨q1, q2⟩ (fun hHeld => ?_)
      refine pure_ (i := 0) (N := some 28) (v := ?_) (a' := ?_) #[true, false, false, false, false, false] rfl rfl (by kernel_rfl) (fun _ _ _ h => h) (Or.inl ⟨by rfl, ?_⟩) ?_ ?_
      rotate_left
      · intro w'
        go_simp
        with_reducible rfl
      rotate_left
      · simp only [Act.put, List.setIfInBounds_toArray, List.set_cons_zero, List.set_cons_succ, i64_w, i32_w]
        rfl
      refine pure_ (i := 1) (N := some 29) (v := ?_) (a' := ?_) #[true, true, false, false, false, false] rfl rfl (by kernel_rfl) (fun _ _ _ h => h) (Or.inl ⟨by rfl, ?_⟩) ?_ ?_
      rotate_left
      · intro w'
        go_simp
        with_reducible rfl
      rotate_left
      · simp only [Act.put, List.setIfInBounds_toArray, List.set_cons_zero, List.set_cons_succ, i64_w, i32_w]
        rfl
      refine take_ (i := 2) (N := some 30) (v := ?_) (a' := ?_) #[true, true, true, false, false, false] rfl rfl (by kernel_rfl) (fun _ _ _ h => h) (Or.inl ⟨by rfl, ?_⟩) hHeld ?_ ?_
      rotate_left
      · rintro w' ⟨s0, s1⟩
        have t0 : w'.cell? ⟨X, 0, none⟩ = some (.int .i64 x.f0) := blk_cell s0 0
        have t1 : w'.cell? ⟨Q, 0, none⟩ = some (.int .i64 a) := blk_cell s1 0
        have t2 : w'.cell? ⟨Q, 1, none⟩ = some (.int .i64 b) := blk_cell s1 1
        go_simp
        with_reducible rfl
      rotate_left
      · simp only [Act.put, List.setIfInBounds_toArray, List.set_cons_zero, List.set_cons_succ, i64_w, i32_w]
        rfl
      refine take_ (i := 4) (N := some 32) (v := ?_) (a' := ?_) #[true, true, true, false, true, false] rfl rfl (by kernel_rfl) (fun _ _ _ h => h) (Or.inl ⟨by rfl, ?_⟩) hHeld ?_ ?_
      rotate_left
      · rintro w' ⟨s0, s1⟩
        have t0 : w'.cell? ⟨X, 0, none⟩ = some (.int .i64 x.f0) := blk_cell s0 0
        have t1 : w'.cell? ⟨Q, 0, none⟩ = some (.int .i64 a) := blk_cell s1 0
        have t2 : w'.cell? ⟨Q, 1, none⟩ = some (.int .i64 b) := blk_cell s1 1
        go_simp
        with_reducible rfl
      rotate_left
      · simp only [Act.put, List.setIfInBounds_toArray, List.set_cons_zero, List.set_cons_succ, i64_w, i32_w]
        rfl
      refine one_ (i := 3) (N := some 31) #[true, true, true, true, true, false] rfl rfl (by kernel_rfl) (by decide) (fun K hK => ?_)
      refine goes_ Try.func71 (by kernel_rfl) rfl #[.int .i64 2, .int .i64 x.f0] (by rfl) rfl rfl (by simp only [List.map_toArray, List.map_cons, List.map_nil]; rfl) ?_
      with_reducible refine (HOF.out _).mono ?_
      rintro e w6 ⟨rfl, h6⟩
      have k0 := (h6.block _ (blk_lt hHeld.1)).trans hHeld.1
      have k1 := (h6.block _ (blk_lt hHeld.2)).trans hHeld.2
      have HK6 := Aside0.mk (show Below W.heap.size W w6 from pw_below_drewN (Below.refl _ _) 1 |>.trans h6)
      clear h6
      refine ⟨_, rfl, ?_⟩
      refine hK.out _ _ ⟨k0, k1⟩ (fun hHeld => ?_)
      clear hK K
      refine norm_ (a' := ?_) ?_ ?_
      rotate_left
      · show Act.put _ (some 31) _ = _
        simp only [Act.put, List.setIfInBounds_toArray, List.set_cons_zero, List.set_cons_succ, i64_w, i32_w]
        rfl
      refine one_ (i := 5) (N := some 33) #[true, true, true, true, true, true] rfl rfl (by kernel_rfl) (by decide) (fun K hK => ?_)
      refine goes_ Try.func70 (by kernel_rfl) rfl #[.agg #[.int .i64 (stW (widthT 2) x.f0), .int .i64 (stW (widthT 2) x.f0 + widthT 2)], .agg #[.int .i64 a, .int .i64 b]] (by rfl) rfl rfl (by simp only [List.map_toArray, List.map_cons, List.map_nil]; rfl) ?_
      with_reducible refine (HME.out _).mono ?_
      rintro e w7 ⟨rfl, h7⟩
      have k0 := (h7.block _ (blk_lt hHeld.1)).trans hHeld.1
      have k1 := (h7.block _ (blk_lt hHeld.2)).trans hHeld.2
      have HK7 := Aside0.mk (HK6.out.trans (h7.mono HK6.out.size))
      clear h7
      refine ⟨_, rfl, ?_⟩
      refine hK.out _ _ ⟨k0, k1⟩ (fun hHeld => ?_)
      clear hK K
      refine norm_ (a' := ?_) ?_ ?_
      rotate_left
      · show Act.put _ (some 33) _ = _
        simp only [Act.put, List.setIfInBounds_toArray, List.set_cons_zero, List.set_cons_succ, i64_w, i32_w]
        rfl
      refine done_ (by kernel_rfl) ?_
      obtain ⟨tb, htb⟩ : ∃ tb, tb = decide (mx (stW 3600 x.f0) a < mn (stW 3600 x.f0 + 3600) b) := ⟨_, rfl⟩
      have HTB := Aside0.mk htb
      have hwd : widthT 2 = 3600 := by decide
      rw [hwd, ← htb]
      have HR7 := Aside0.mk (own_kept (w' := w7) HRW.out fun q hq => HK7.out.block q (HRW.out.lt q hq).2)
      have HB7 := Aside0.mk (HBW.out.trans (HK7.out.mono HBW.out.size))
      have q1 := k0
      have r0 : w7.cell? ⟨X, 0, none⟩ = some (.int .i64 x.f0) := blk_cell k0 0
      have r1 : w7.cell? ⟨X, 1, none⟩ = some (.int .i64 x.f1) := blk_cell k0 1
      have r2 : w7.cell? ⟨X, 2, none⟩ = some (.int .i64 x.f2) := blk_cell k0 2
      have r3 : w7.cell? ⟨X, 3, none⟩ = some (.int .i64 x.f3) := blk_cell k0 3
      have r4 : w7.cell? ⟨X, 4, none⟩ = some (.int .i64 x.f4) := blk_cell k0 4
      have HQ7 := Aside0.mk k1
      clear htb hwd HRW HBW HOF HME hHeld k0 k1
      cases tb with
      | true =>
        have HNX := Aside0.mk (show aggR 3600 a b (l.take (j + 1)) = aggR 3600 a b (l.take j) ++ [x] by
          unfold aggR
          rw [take_snoc31 HX.out, List.filter_append, List.filter_cons, if_pos HTB.out.symm]
          rfl)
        obtain ⟨n, hnn⟩ : ∃ n, n = (aggR 3600 a b (l.take j)).length := ⟨_, rfl⟩
        have hle := HLE.out
        rw [← hnn] at HR7 hle
        have HNN := Aside0.mk hnn
        clear hnn
        go_wp2_with (first | (at_builtin; refine wpList_append_own _ rfl _ _ 24 rfl w.heap.size 31 i31 (.agg #[.int .i64 0, .int .i64 0, .int .i64 0, .int .i64 0, .int .i64 0]) 5 40 Try.underlying24 hi31 z0 z1 z2 rfl (by decide) _ n _ rfl (HR7.out.alloc _) ⟨w7.heap.size, 0, none⟩ 1 1 [.int .i64 x.f0, .int .i64 x.f1, .int .i64 x.f2, .int .i64 x.f3, .int .i64 x.f4] rfl rfl (cells_new w7 [.int .i64 x.f0, .int .i64 x.f1, .int .i64 x.f2, .int .i64 x.f3, .int .i64 x.f4] 31) (by simp [Value.oneCell']) (by unfold maxLen; omega) (by omega) (by have := HB7.out.size; simp; omega) ?_) | go_in)
        intro v8 w8 ho hg _
        have HR8 := Aside0.mk (show w8.ownsRow w.heap.size 31 5 v8 (aggR 3600 a b (l.take (j + 1))).length ((aggR 3600 a b (l.take (j + 1))).flatMap aggP) by
          rw [HNX.out, List.length_append, List.flatMap_append, ← HNN.out]
          exact ho)
        have HB8 := Aside0.mk ((HB7.out.alloc HB7.out.size (.cells #[.int .i64 x.f0, .int .i64 x.f1, .int .i64 x.f2, .int .i64 x.f3, .int .i64 x.f4] 31)).grown hg (by have := HB7.out.size; simp; omega) (fun q hq => (HR7.out.lt q hq).1))
        have HQ8 := Aside0.mk (show w8.heap[Q]? = some (.cells #[.int .i64 a, .int .i64 b] 42 (0, 0)) from (hg.block Q (by have := blk_lt HQ7.out; simp; omega) (fun e => row_ne HR7.out HQ7.out (by decide) e.symm)).trans (blk_alloc HQ7.out _))
        clear ho hg HR7 HB7 HQ7 r0 r1 r2 r3 r4
        go_wp2_with fail
        go_roundw
        case rel => exact ⟨j + 1, _, by omega, rfl, by go_num, HR8, HQ8, HB8⟩
        case measure => simp [intOf]; omega
      | false =>
        have HNX := Aside0.mk (show aggR 3600 a b (l.take (j + 1)) = aggR 3600 a b (l.take j) by
          unfold aggR
          rw [take_snoc31 HX.out, List.filter_append, List.filter_cons, if_neg (by rw [← HTB.out]; simp)]
          simp)
        have HR8 := Aside0.mk (show w7.ownsRow w.heap.size 31 5 vr (aggR 3600 a b (l.take (j + 1))).length ((aggR 3600 a b (l.take (j + 1))).flatMap aggP) by
          rw [HNX.out]
          exact HR7.out)
        clear HR7 r0 r1 r2 r3 r4
        go_wp2_with fail
        go_roundw
        case rel => exact ⟨j + 1, _, by omega, rfl, by go_num, HR8, HQ7, HB7⟩
        case measure => simp [intOf]; omega
    · have hje : j = l.length := by omega
      subst hje
      have HR2 := HR.out
      rw [List.take_length] at HR2
      have HR3 := Aside0.mk HR2
      clear HR2 HR hlt hj
      go_wp2
      go_ret
      exact ⟨_, rfl, HR3.out, HB.out⟩
end Go.Proofs.Ytnjdngjlbonieaa
