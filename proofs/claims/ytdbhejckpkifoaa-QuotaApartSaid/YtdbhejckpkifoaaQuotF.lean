/- quota.Ledger: Change, walked. -/
import Derived.Test.YtdbhejckpkifoaaQuotE
import Derived.Lib.Hide
import Derived.LoopTactic
import Derived.Outline
import Derived.Laws.Rows
import Derived.Laws.CopyOwn
import Derived.WalkKit
set_option linter.unusedVariables false
set_option linter.unusedSimpArgs false
namespace Go.Proofs.Ytdbhejckpkifoaa
open Go.RowKit Go.Proofs.YtdbhejckpkifoaaW.PrintWords Go.Proofs.YtdbhejckpkifoaaW.PrintLast Go.Proofs.YtdbhejckpkifoaaW.PrintMore
open Go.Proofs.Ytdbhejckpkifoaa.PSlotsBack
attribute [local go_sem] max2_int min2_int max_two min_two max_three min_three max_four min_four

set_option maxRecDepth 100000 in
set_option maxHeartbeats 16000000 in
theorem qchange_calls (p b : Nat) (cap : Int) (M : Mdl) (s : ByteArray) (hs : s.size ≤ 1000) (by_ se : Int) (hby : -9223372036854775808 ≤ by_ ∧ by_ ≤ 9223372036854775807) (hse : -9223372036854775808 ≤ se ∧ se ≤ 9223372036854775807) (w : World) (h : IsLed p b cap M w) (hG : GoodM cap M) :
    Calls Try.prog 34 #[.pointer (some ⟨p, 0, none⟩), .string s, .int .i64 by_, .int .i64 se] w (QPost p b cap w (changeM cap M s by_ se)) := by
  have HH := Aside0.mk h
  have HLN := Aside0.mk (show M.length < maxLen by have := hG.len; unfold maxLen; omega)
  cases hg : getM s M with
  | none =>
    have HN := Lib.hid (qown_none p b cap M s hs w h hg)
    rw [show changeM cap M s by_ se = (7, M) by unfold changeM; rw [hg]]
    clear h hg hG
    go_enter Try.func34, Try.ntmps34
    go_wp2_with fail
    refine HN.out.mono ?_
    rintro e w2 ⟨rfl, h2⟩
    have B2 := Aside0.mk h2
    clear h2
    go_wp2
    go_ret
    exact QPost.same HH.out (B2.out.alloc B2.out.size _) 7
  | some a =>
    have HN := Lib.hid (qown_some p b cap M s hs w h a hg)
    have HE := Aside0.mk hg
    have HK := Aside0.mk (keyS s hs)
    have hga := hG.get hg
    obtain ⟨a1, a2, a3, a4⟩ := a
    have g0 : 0 ≤ a3 := hga.1
    have g1 : a3 ≤ a1 := hga.2.1
    have g2 : a1 ≤ 1099511627776 := hga.2.2.1
    have g3 : 0 ≤ a4 := hga.2.2.2.1
    have g4 : a4 ≤ a2 := hga.2.2.2.2.1
    have g5 : a2 ≤ 16 := hga.2.2.2.2.2
    rw [show changeM cap M s by_ se = if rightQ by_ se = false then (1, M) else if by_ < a3 ∨ se < a4 then (10, M) else if cap - sumB M < by_ - a1 then (6, M) else (0, setM s ⟨by_, se, a3, a4⟩ M) by unfold changeM; rw [hg]]
    have HGM := Aside0.mk hG
    clear h hg hG hga
    have HQR := Lib.hid (fun W => qright_calls by_ se W)
    obtain ⟨q, hq⟩ : ∃ q, q = rightQ by_ se := ⟨_, rfl⟩
    rw [← hq] at HQR ⊢
    cases q with
    | false =>
      rw [if_pos rfl]
      clear hq
      go_enter Try.func34, Try.ntmps34
      go_wp2_with fail
      refine HN.out.mono ?_
      rintro e w2 ⟨rfl, h2⟩
      have B2 := Aside0.mk h2
      clear h2
      go_wp2_with fail
      refine (HQR.out _).mono ?_
      rintro e w3 ⟨rfl, rfl⟩
      go_wp2
      go_ret
      exact QPost.same HH.out (B2.out.alloc B2.out.size _) 1
    | true =>
      rw [if_neg (by simp)]
      obtain ⟨i0, i1, i2, i3⟩ := of_decide_eq_true hq.symm
      clear hq hby hse
      by_cases h1 : by_ < a3
      · rw [if_pos (Or.inl h1)]
        have d1 : decide (by_ < a3) = true := decide_eq_true h1
        go_enter Try.func34, Try.ntmps34
        go_wp2_with fail
        refine HN.out.mono ?_
        rintro e w2 ⟨rfl, h2⟩
        have B2 := Aside0.mk h2
        clear h2
        go_wp2_with fail
        refine (HQR.out _).mono ?_
        rintro e w3 ⟨rfl, rfl⟩
        go_wp2
        go_ret
        exact QPost.same HH.out (B2.out.alloc B2.out.size _) 10
      have d1 : decide (by_ < a3) = false := decide_eq_false h1
      by_cases h2 : se < a4
      · rw [if_pos (Or.inr h2)]
        have d2 : decide (se < a4) = true := decide_eq_true h2
        go_enter Try.func34, Try.ntmps34
        go_wp2_with fail
        refine HN.out.mono ?_
        rintro e w2 ⟨rfl, h2⟩
        have B2 := Aside0.mk h2
        clear h2
        go_wp2_with fail
        refine (HQR.out _).mono ?_
        rintro e w3 ⟨rfl, rfl⟩
        go_wp2
        go_ret
        exact QPost.same HH.out (B2.out.alloc B2.out.size _) 10
      have d2 : decide (se < a4) = false := decide_eq_false h2
      rw [if_neg (by omega)]
      have hw : IntKind.i64.wrap (by_ - a1) = by_ - a1 := by rw [IntKind.wrap_i64]; omega
      have hdif : by_ - a1 ≤ 1099511627776 ∧ -1099511627776 ≤ by_ - a1 := by omega
      have HV := Lib.hid (fun W (h : IsLed p b cap M W) => qleft_calls p b cap M W h HGM.out)
      obtain ⟨V, hV⟩ : ∃ V, V = cap - sumB M := ⟨_, rfl⟩
      rw [← hV] at HV ⊢
      clear hV h1 h2
      by_cases h5 : V < by_ - a1
      · rw [if_pos h5]
        have d5 : decide (V < by_ - a1) = true := decide_eq_true h5
        clear h5
        go_enter Try.func34, Try.ntmps34
        go_wp2_with fail
        refine HN.out.mono ?_
        rintro e w2 ⟨rfl, h2⟩
        have B2 := Aside0.mk h2
        clear h2
        go_wp2_with fail
        refine (HQR.out _).mono ?_
        rintro e w3 ⟨rfl, rfl⟩
        have HB3 := Aside0.mk (B2.out.alloc B2.out.size (.cells #[.int .i64 a1, .int .i64 a2, .int .i64 a3, .int .i64 a4] 65))
        have HH3 := Aside0.mk ((HH.out.below HB3.out).drew)
        have b3 := blk_new w2 (.cells #[.int .i64 a1, .int .i64 a2, .int .i64 a3, .int .i64 a4] 65 (0, 0))
        have x0 : (w2.alloc (.cells #[.int .i64 a1, .int .i64 a2, .int .i64 a3, .int .i64 a4] 65)).drew.cell? ⟨w2.heap.size, 0, none⟩ = some (.int .i64 a1) := by go_simp
        have HBK := Aside0.mk b3
        clear b3
        go_wp2_with fail
        refine start_ (n := 8) (S := fun w' => (w'.cell? ⟨w2.heap.size, 0, none⟩ = some (.int .i64 a1))) (ds := []) #[false, false, false, false, false, false, false, false] (by kernel_rfl) rfl rfl (x0) (fun hHeld => ?_)
        refine pure_ (i := 0) (N := some 38) (v := ?_) (a' := ?_) #[true, false, false, false, false, false, false, false] rfl rfl (by kernel_rfl) (fun _ _ _ h => h) (Or.inl ⟨by rfl, ?_⟩) ?_ ?_
        rotate_left
        · intro w'
          go_simp
          with_reducible rfl
        rotate_left
        · simp only [Act.put, List.setIfInBounds_toArray, List.set_cons_zero, List.set_cons_succ, i64_w, i32_w]
          rfl
        refine pure_ (i := 1) (N := some 39) (v := ?_) (a' := ?_) #[true, true, false, false, false, false, false, false] rfl rfl (by kernel_rfl) (fun _ _ _ h => h) (Or.inl ⟨by rfl, ?_⟩) ?_ ?_
        rotate_left
        · intro w'
          go_simp
          with_reducible rfl
        rotate_left
        · simp only [Act.put, List.setIfInBounds_toArray, List.set_cons_zero, List.set_cons_succ, i64_w, i32_w]
          rfl
        refine pure_ (i := 4) (N := some 42) (v := ?_) (a' := ?_) #[true, true, false, false, true, false, false, false] rfl rfl (by kernel_rfl) (fun _ _ _ h => h) (Or.inl ⟨by rfl, ?_⟩) ?_ ?_
        rotate_left
        · intro w'
          go_simp
          with_reducible rfl
        rotate_left
        · simp only [Act.put, List.setIfInBounds_toArray, List.set_cons_zero, List.set_cons_succ, i64_w, i32_w]
          rfl
        refine take_ (i := 2) (N := some 40) (v := ?_) (a' := ?_) #[true, true, true, false, true, false, false, false] rfl rfl (by kernel_rfl) (fun _ _ _ h => h) (Or.inl ⟨by rfl, ?_⟩) hHeld ?_ ?_
        rotate_left
        · rintro w' s0
          go_simp
          with_reducible rfl
        rotate_left
        · simp only [Act.put, List.setIfInBounds_toArray, List.set_cons_zero, List.set_cons_succ, i64_w, i32_w]
          rfl
        refine pure_ (i := 3) (N := some 41) (v := ?_) (a' := ?_) #[true, true, true, true, true, false, false, false] rfl rfl (by kernel_rfl) (fun _ _ _ h => h) (Or.inl ⟨by rfl, ?_⟩) ?_ ?_
        rotate_left
        · intro w'
          go_simp
          with_reducible rfl
        rotate_left
        · simp only [Act.put, List.setIfInBounds_toArray, List.set_cons_zero, List.set_cons_succ, i64_w, i32_w]
          rfl
        refine one_ (i := 5) (N := some 43) #[true, true, true, true, true, true, false, false] rfl rfl (by kernel_rfl) (by decide) (fun K hK => ?_)
        refine goes_ Try.func25 (by kernel_rfl) rfl #[.pointer (some ⟨p, 0, none⟩)] (by rfl) rfl rfl (by simp only [List.map_toArray, List.map_cons, List.map_nil]; rfl) ?_
        with_reducible refine ((HV.out _ HH3.out)).mono ?_
        rintro e w4 ⟨rfl, h4⟩
        have k0 := bread h4 hHeld
        have HB4 := Aside0.mk ((pw_below_drewN HB3.out 1).trans (h4.mono HB3.out.size))
        have HBK4 := Aside0.mk (show w4.heap[w2.heap.size]? = some (.cells #[.int .i64 a1, .int .i64 a2, .int .i64 a3, .int .i64 a4] 65 (0, 0)) from (h4.block w2.heap.size (by show _ < (w2.alloc _).heap.size; simp)).trans HBK.out)
        clear h4
        refine ⟨_, rfl, ?_⟩
        refine hK.out _ _ (k0) (fun hHeld => ?_)
        clear hK K
        refine norm_ (a' := ?_) ?_ ?_
        rotate_left
        · show Act.put _ (some 43) _ = _
          simp only [Act.put, List.setIfInBounds_toArray, List.set_cons_zero, List.set_cons_succ, i64_w, i32_w]
          rfl
        refine pure_ (i := 6) (N := some 44) (v := ?_) (a' := ?_) #[true, true, true, true, true, true, true, false] rfl rfl (by kernel_rfl) (fun _ _ _ h => h) (Or.inl ⟨by rfl, ?_⟩) ?_ ?_
        rotate_left
        · intro w'
          go_simp
          with_reducible rfl
        rotate_left
        · simp only [Act.put, List.setIfInBounds_toArray, List.set_cons_zero, List.set_cons_succ, i64_w, i32_w]
          rfl
        refine pure_ (i := 7) (N := some 37) (v := ?_) (a' := ?_) #[true, true, true, true, true, true, true, true] rfl rfl (by kernel_rfl) (fun _ _ _ h => h) (Or.inl ⟨by rfl, ?_⟩) ?_ ?_
        rotate_left
        · intro w'
          go_simp
          with_reducible rfl
        rotate_left
        · simp only [Act.put, List.setIfInBounds_toArray, List.set_cons_zero, List.set_cons_succ, i64_w, i32_w]
          rfl
        refine done_ (by kernel_rfl) ?_
        go_wp2
        go_ret
        exact QPost.same HH.out HB4.out 6
      · rw [if_neg h5]
        have d5 : decide (V < by_ - a1) = false := decide_eq_false h5
        clear h5
        go_enter Try.func34, Try.ntmps34
        go_wp2_with fail
        refine HN.out.mono ?_
        rintro e w2 ⟨rfl, h2⟩
        have B2 := Aside0.mk h2
        clear h2
        go_wp2_with fail
        refine (HQR.out _).mono ?_
        rintro e w3 ⟨rfl, rfl⟩
        have HB3 := Aside0.mk (B2.out.alloc B2.out.size (.cells #[.int .i64 a1, .int .i64 a2, .int .i64 a3, .int .i64 a4] 65))
        have HH3 := Aside0.mk ((HH.out.below HB3.out).drew)
        have b3 := blk_new w2 (.cells #[.int .i64 a1, .int .i64 a2, .int .i64 a3, .int .i64 a4] 65 (0, 0))
        have x0 : (w2.alloc (.cells #[.int .i64 a1, .int .i64 a2, .int .i64 a3, .int .i64 a4] 65)).drew.cell? ⟨w2.heap.size, 0, none⟩ = some (.int .i64 a1) := by go_simp
        have HBK := Aside0.mk b3
        clear b3
        go_wp2_with fail
        refine start_ (n := 8) (S := fun w' => (w'.cell? ⟨w2.heap.size, 0, none⟩ = some (.int .i64 a1))) (ds := []) #[false, false, false, false, false, false, false, false] (by kernel_rfl) rfl rfl (x0) (fun hHeld => ?_)
        refine pure_ (i := 0) (N := some 38) (v := ?_) (a' := ?_) #[true, false, false, false, false, false, false, false] rfl rfl (by kernel_rfl) (fun _ _ _ h => h) (Or.inl ⟨by rfl, ?_⟩) ?_ ?_
        rotate_left
        · intro w'
          go_simp
          with_reducible rfl
        rotate_left
        · simp only [Act.put, List.setIfInBounds_toArray, List.set_cons_zero, List.set_cons_succ, i64_w, i32_w]
          rfl
        refine pure_ (i := 1) (N := some 39) (v := ?_) (a' := ?_) #[true, true, false, false, false, false, false, false] rfl rfl (by kernel_rfl) (fun _ _ _ h => h) (Or.inl ⟨by rfl, ?_⟩) ?_ ?_
        rotate_left
        · intro w'
          go_simp
          with_reducible rfl
        rotate_left
        · simp only [Act.put, List.setIfInBounds_toArray, List.set_cons_zero, List.set_cons_succ, i64_w, i32_w]
          rfl
        refine pure_ (i := 4) (N := some 42) (v := ?_) (a' := ?_) #[true, true, false, false, true, false, false, false] rfl rfl (by kernel_rfl) (fun _ _ _ h => h) (Or.inl ⟨by rfl, ?_⟩) ?_ ?_
        rotate_left
        · intro w'
          go_simp
          with_reducible rfl
        rotate_left
        · simp only [Act.put, List.setIfInBounds_toArray, List.set_cons_zero, List.set_cons_succ, i64_w, i32_w]
          rfl
        refine take_ (i := 2) (N := some 40) (v := ?_) (a' := ?_) #[true, true, true, false, true, false, false, false] rfl rfl (by kernel_rfl) (fun _ _ _ h => h) (Or.inl ⟨by rfl, ?_⟩) hHeld ?_ ?_
        rotate_left
        · rintro w' s0
          go_simp
          with_reducible rfl
        rotate_left
        · simp only [Act.put, List.setIfInBounds_toArray, List.set_cons_zero, List.set_cons_succ, i64_w, i32_w]
          rfl
        refine pure_ (i := 3) (N := some 41) (v := ?_) (a' := ?_) #[true, true, true, true, true, false, false, false] rfl rfl (by kernel_rfl) (fun _ _ _ h => h) (Or.inl ⟨by rfl, ?_⟩) ?_ ?_
        rotate_left
        · intro w'
          go_simp
          with_reducible rfl
        rotate_left
        · simp only [Act.put, List.setIfInBounds_toArray, List.set_cons_zero, List.set_cons_succ, i64_w, i32_w]
          rfl
        refine one_ (i := 5) (N := some 43) #[true, true, true, true, true, true, false, false] rfl rfl (by kernel_rfl) (by decide) (fun K hK => ?_)
        refine goes_ Try.func25 (by kernel_rfl) rfl #[.pointer (some ⟨p, 0, none⟩)] (by rfl) rfl rfl (by simp only [List.map_toArray, List.map_cons, List.map_nil]; rfl) ?_
        with_reducible refine ((HV.out _ HH3.out)).mono ?_
        rintro e w4 ⟨rfl, h4⟩
        have k0 := bread h4 hHeld
        have HB4 := Aside0.mk ((pw_below_drewN HB3.out 1).trans (h4.mono HB3.out.size))
        have HBK4 := Aside0.mk (show w4.heap[w2.heap.size]? = some (.cells #[.int .i64 a1, .int .i64 a2, .int .i64 a3, .int .i64 a4] 65 (0, 0)) from (h4.block w2.heap.size (by show _ < (w2.alloc _).heap.size; simp)).trans HBK.out)
        clear h4
        refine ⟨_, rfl, ?_⟩
        refine hK.out _ _ (k0) (fun hHeld => ?_)
        clear hK K
        refine norm_ (a' := ?_) ?_ ?_
        rotate_left
        · show Act.put _ (some 43) _ = _
          simp only [Act.put, List.setIfInBounds_toArray, List.set_cons_zero, List.set_cons_succ, i64_w, i32_w]
          rfl
        refine pure_ (i := 6) (N := some 44) (v := ?_) (a' := ?_) #[true, true, true, true, true, true, true, false] rfl rfl (by kernel_rfl) (fun _ _ _ h => h) (Or.inl ⟨by rfl, ?_⟩) ?_ ?_
        rotate_left
        · intro w'
          go_simp
          with_reducible rfl
        rotate_left
        · simp only [Act.put, List.setIfInBounds_toArray, List.set_cons_zero, List.set_cons_succ, i64_w, i32_w]
          rfl
        refine pure_ (i := 7) (N := some 37) (v := ?_) (a' := ?_) #[true, true, true, true, true, true, true, true] rfl rfl (by kernel_rfl) (fun _ _ _ h => h) (Or.inl ⟨by rfl, ?_⟩) ?_ ?_
        rotate_left
        · intro w'
          go_simp
          with_reducible rfl
        rotate_left
        · simp only [Act.put, List.setIfInBounds_toArray, List.set_cons_zero, List.set_cons_succ, i64_w, i32_w]
          rfl
        refine done_ (by kernel_rfl) ?_
        have HW2 := Aside0.mk (show w.heap.size ≤ w2.heap.size from B2.out.size)
        have y0 := blk_cell HBK4.out 0
        have y1 := blk_cell HBK4.out 1
        have y2 := blk_cell HBK4.out 2
        have y3 := blk_cell HBK4.out 3
        simp only [List.getElem?_toArray, List.getElem?_cons_zero, List.getElem?_cons_succ] at y0 y1 y2 y3
        have z0 := blk_frozen HBK4.out 0
        have z1 := blk_frozen HBK4.out 1
        have HH4 := Aside0.mk (HH.out.below HB4.out)
        have hpb := HH.out.plt
        have hbb := HH.out.blt
        have HB5 := Aside0.mk ((HB4.out.setCell (p := ⟨w2.heap.size, 0, none⟩) HW2.out (.int .i64 by_)).setCell (p := ⟨w2.heap.size, 1, none⟩) HW2.out (.int .i64 se))
        have HH5 := Aside0.mk (((HH4.out.setCell (q := ⟨w2.heap.size, 0, none⟩) (by have := HW2.out; show w2.heap.size ≠ p; omega) (by have := HW2.out; show w2.heap.size ≠ b; omega) (.int .i64 by_)).setCell (q := ⟨w2.heap.size, 1, none⟩) (by have := HW2.out; show w2.heap.size ≠ p; omega) (by have := HW2.out; show w2.heap.size ≠ b; omega) (.int .i64 se)).drew)
        obtain ⟨D, ho, hrp⟩ := HH5.out.map
        have HRP := Aside0.mk hrp
        obtain ⟨w6, hrun, hown6, hgr6⟩ := ho.update (Maps.string_keyed Try.underlying9) Try.underlying84 HLN.out HK.out (show RA (.agg #[.int .i64 by_, .int .i64 se, .int .i64 a3, .int .i64 a4]) = some (acctD ⟨by_, se, a3, a4⟩, []) from rfl)
        have HF := Aside0.mk (QPost.put HH.out (pw_below_drewN HB5.out 1) hgr6 hown6 (HRP.out.set HE.out ⟨by_, se, a3, a4⟩) 0)
        have k1 := HH5.out.c1
        have x1 : ((w4.setCell ⟨w2.heap.size, 0, none⟩ (.int .i64 by_)).setCell ⟨w2.heap.size, 1, none⟩ (.int .i64 se)).drew.cell? ⟨w2.heap.size, 0, none⟩ = some (.int .i64 by_) := by go_simp
        have x2 : ((w4.setCell ⟨w2.heap.size, 0, none⟩ (.int .i64 by_)).setCell ⟨w2.heap.size, 1, none⟩ (.int .i64 se)).drew.cell? ⟨w2.heap.size, 1, none⟩ = some (.int .i64 se) := by go_simp
        have x3 : ((w4.setCell ⟨w2.heap.size, 0, none⟩ (.int .i64 by_)).setCell ⟨w2.heap.size, 1, none⟩ (.int .i64 se)).drew.cell? ⟨w2.heap.size, 2, none⟩ = some (.int .i64 a3) := by go_simp
        have x4 : ((w4.setCell ⟨w2.heap.size, 0, none⟩ (.int .i64 by_)).setCell ⟨w2.heap.size, 1, none⟩ (.int .i64 se)).drew.cell? ⟨w2.heap.size, 3, none⟩ = some (.int .i64 a4) := by go_simp
        clear ho hrp hown6 hgr6
        go_wp2_with fail
        refine start_ (n := 7) (S := fun w' => (w'.cell? ⟨p, 1, none⟩ = some (.map (some b))) ∧ (w'.cell? ⟨w2.heap.size, 0, none⟩ = some (.int .i64 by_)) ∧ (w'.cell? ⟨w2.heap.size, 1, none⟩ = some (.int .i64 se)) ∧ (w'.cell? ⟨w2.heap.size, 2, none⟩ = some (.int .i64 a3)) ∧ (w'.cell? ⟨w2.heap.size, 3, none⟩ = some (.int .i64 a4))) (ds := [6]) #[false, false, false, false, false, false, false] (by kernel_rfl) rfl rfl ⟨k1, x1, x2, x3, x4⟩ (fun hHeld => ?_)
        refine pure_ (i := 0) (N := some 49) (v := ?_) (a' := ?_) #[true, false, false, false, false, false, false] rfl rfl (by kernel_rfl) (fun _ _ _ h => h) (Or.inl ⟨by rfl, ?_⟩) ?_ ?_
        rotate_left
        · intro w'
          go_simp
          with_reducible rfl
        rotate_left
        · simp only [Act.put, List.setIfInBounds_toArray, List.set_cons_zero, List.set_cons_succ, i64_w, i32_w]
          rfl
        refine pure_ (i := 1) (N := some 50) (v := ?_) (a' := ?_) #[true, true, false, false, false, false, false] rfl rfl (by kernel_rfl) (fun _ _ _ h => h) (Or.inl ⟨by rfl, ?_⟩) ?_ ?_
        rotate_left
        · intro w'
          go_simp
          with_reducible rfl
        rotate_left
        · simp only [Act.put, List.setIfInBounds_toArray, List.set_cons_zero, List.set_cons_succ, i64_w, i32_w]
          rfl
        refine pure_ (i := 2) (N := some 51) (v := ?_) (a' := ?_) #[true, true, true, false, false, false, false] rfl rfl (by kernel_rfl) (fun _ _ _ h => h) (Or.inl ⟨by rfl, ?_⟩) ?_ ?_
        rotate_left
        · intro w'
          go_simp
          with_reducible rfl
        rotate_left
        · simp only [Act.put, List.setIfInBounds_toArray, List.set_cons_zero, List.set_cons_succ, i64_w, i32_w]
          rfl
        refine pure_ (i := 4) (N := some 53) (v := ?_) (a' := ?_) #[true, true, true, false, true, false, false] rfl rfl (by kernel_rfl) (fun _ _ _ h => h) (Or.inl ⟨by rfl, ?_⟩) ?_ ?_
        rotate_left
        · intro w'
          go_simp
          with_reducible rfl
        rotate_left
        · simp only [Act.put, List.setIfInBounds_toArray, List.set_cons_zero, List.set_cons_succ, i64_w, i32_w]
          rfl
        refine take_ (i := 3) (N := some 52) (v := ?_) (a' := ?_) #[true, true, true, true, true, false, false] rfl rfl (by kernel_rfl) (fun _ _ _ h => h) (Or.inl ⟨by rfl, ?_⟩) hHeld ?_ ?_
        rotate_left
        · rintro w' ⟨s0, s1, s2, s3, s4⟩
          go_simp
          with_reducible rfl
        rotate_left
        · simp only [Act.put, List.setIfInBounds_toArray, List.set_cons_zero, List.set_cons_succ, i64_w, i32_w]
          rfl
        refine take_ (i := 5) (N := some 54) (v := ?_) (a' := ?_) #[true, true, true, true, true, true, false] rfl rfl (by kernel_rfl) (fun _ _ _ h => h) (Or.inl ⟨by rfl, ?_⟩) hHeld ?_ ?_
        rotate_left
        · rintro w' ⟨s0, s1, s2, s3, s4⟩
          go_simp
          with_reducible rfl
        rotate_left
        · simp only [Act.put, List.setIfInBounds_toArray, List.set_cons_zero, List.set_cons_succ, i64_w, i32_w]
          rfl
        refine last_ (i := 6) (N := none) #[true, true, true, true, true, true, true] rfl rfl (by kernel_rfl) (by decide) (fun K hK => ?_)
        refine skip_ (w1 := ?_) (by rfl) rfl ?_ ?_
        rotate_left
        · go_simp
          rfl
        refine hK.out _ _ ?_
        clear hK K
        refine done_ (by kernel_rfl) ?_
        go_wp2
        go_ret
        exact HF.out
end Go.Proofs.Ytdbhejckpkifoaa
