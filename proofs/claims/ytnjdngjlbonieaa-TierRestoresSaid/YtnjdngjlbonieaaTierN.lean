/- Purge of a stock, walked. -/
import Derived.Test.YtnjdngjlbonieaaTierM
import Derived.Lib.Hide
import Derived.LoopTactic
import Derived.Outline
import Derived.Laws.Rows
import Derived.Laws.CopyOwn
import Derived.WalkKit
set_option linter.unusedVariables false
set_option linter.unusedSimpArgs false
namespace Go.Proofs.Ytnjdngjlbonieaa
open Go.RowKit Go.Proofs.YtnjdngjlbonieaaW.PrintWords Go.Proofs.YtnjdngjlbonieaaW.PrintLast Go.Proofs.YtnjdngjlbonieaaW.PrintMore
open Go.Proofs.Ytnjdngjlbonieaa.PTierForgets
attribute [local go_sem] max2_int min2_int max_two min_two max_three min_three max_four min_four

theorem againP_sub (wd c0 c1 : Int) (ofw : Int → S31 × Bool) (hofw : ∀ f, (ofw f).2 = true → okA (ofw f).1 ∧ (ofw f).1.f0 = f) : ∀ A : List S31, (∀ x ∈ A, stW wd x.f0 = x.f0) → ((againP wd c0 c1 ofw A).map S31.f0).Sublist (A.map S31.f0) ∧ ∀ y ∈ againP wd c0 c1 ofw A, y ∈ A ∨ okA y
  | [], _ => ⟨List.Sublist.refl _, fun y hy => (by cases hy)⟩
  | x :: r, h => by
    obtain ⟨h1, h2⟩ := againP_sub wd c0 c1 ofw hofw r (fun y hy => h y (List.mem_cons_of_mem _ hy))
    have hx := h x List.mem_cons_self
    have e : againP wd c0 c1 ofw (x :: r) = (if (decide (c0 ≤ x.f0) && decide (x.f0 < c1)) = true then (if (ofw (stW wd x.f0)).2 = true then [(ofw (stW wd x.f0)).1] else []) else [x]) ++ againP wd c0 c1 ofw r := by unfold againP; rw [List.flatMap_cons]
    rw [e, hx]
    by_cases c : (decide (c0 ≤ x.f0) && decide (x.f0 < c1)) = true
    · rw [if_pos c]
      by_cases d : (ofw x.f0).2 = true
      · rw [if_pos d]
        obtain ⟨h3, h4⟩ := hofw x.f0 d
        refine ⟨?_, fun y hy => ?_⟩
        · rw [List.map_append, List.map_cons, List.map_nil, h4, List.map_cons]
          exact h1.cons_cons _
        · rcases List.mem_append.1 hy with hy | hy
          · rw [List.mem_singleton.1 hy]; exact .inr h3
          · rcases h2 y hy with h5 | h5
            · exact .inl (List.mem_cons_of_mem _ h5)
            · exact .inr h5
      · rw [if_neg d]
        refine ⟨?_, fun y hy => ?_⟩
        · rw [List.nil_append, List.map_cons]
          exact h1.cons _
        · rcases h2 y hy with h5 | h5
          · exact .inl (List.mem_cons_of_mem _ h5)
          · exact .inr h5
    · rw [if_neg c]
      refine ⟨?_, fun y hy => ?_⟩
      · rw [List.map_append, List.map_cons, List.map_nil, List.map_cons]
        exact h1.cons_cons _
      · rcases List.mem_append.1 hy with hy | hy
        · rw [List.mem_singleton.1 hy]; exact .inl List.mem_cons_self
        · rcases h2 y hy with h5 | h5
          · exact .inl (List.mem_cons_of_mem _ h5)
          · exact .inr h5
theorem againP_good {wd m c0 c1 : Int} (hw : wd = 300 ∨ wd = 3600) {ofw : Int → S31 × Bool} (hofw : ∀ f, (ofw f).2 = true → okA (ofw f).1 ∧ (ofw f).1.f0 = f) {A : List S31} (h : GA wd m A) : GA wd m (againP wd c0 c1 ofw A) := by
  obtain ⟨h1, h2⟩ := againP_sub wd c0 c1 ofw hofw A (fun x hx => by have := h.ok x hx; unfold stW; rcases hw with rfl | rfl <;> omega)
  refine ⟨fun y hy => ?_, ?_, Nat.le_trans (againP_le _ _ _ _ _) h.len⟩
  · have h3 : y.f0 ∈ A.map S31.f0 := h1.subset (List.mem_map_of_mem hy)
    obtain ⟨x, hx, he⟩ := List.mem_map.1 h3
    have h4 := h.ok x hx
    rw [he] at h4
    refine ⟨?_, h4.2⟩
    rcases h2 y hy with h5 | h5
    · exact (h.ok y h5).1
    · exact h5
  · have h3 : (A.map S31.f0).Pairwise (· < ·) := List.pairwise_map.2 h.ris
    exact List.pairwise_map.1 (h3.sublist h1)
theorem ofw1_ok (L : Int → List S29) : ∀ f, (ofP f (L f)).2 = true → okA (ofP f (L f)).1 ∧ (ofP f (L f)).1.f0 = f := by
  intro f h
  by_cases hn : L f = []
  · rw [hn] at h; cases h
  · have := ofP_ok f hn
    exact ⟨this.1, this.2.1⟩
theorem ofw2_ok {a1 : List S31} (ha : ∀ x ∈ a1, okA x) (L : Int → List S31) (hL : ∀ f, ∀ x ∈ L f, x ∈ a1) : ∀ f, (joinP f (L f)).2 = true → okA (joinP f (L f)).1 ∧ (joinP f (L f)).1.f0 = f := by
  intro f h
  by_cases hn : L f = []
  · rw [hn] at h; cases h
  · have := joinP_ok f (l := L f) (fun x hx => ha x (hL f x hx)) hn
    exact ⟨this.1, this.2.1⟩
theorem again1_good {raw : List S29} {a b m : Int} {A : List S31} (h : GA 300 m A) : GA 300 m (again1 raw a b A) := againP_good (.inl rfl) (ofw1_ok _) h
theorem again2_good {a1 : List S31} {a b m m1 : Int} {A : List S31} (h1 : GA 300 m1 a1) (h : GA 3600 m A) : GA 3600 m (again2 a1 a b A) :=
  againP_good (.inr rfl) (ofw2_ok (fun x hx => (h1.ok x hx).1) _ (fun _ x hx => (List.mem_filter.1 hx).1)) h
/-- A stock without a range. -/
def purgeT (s : Stk) (a b : Int) : Stk × Int := if rightR a b = true then (⟨outR a b s.raw, again1 (outR a b s.raw) a b s.a1, again2 (again1 (outR a b s.raw) a b s.a1) a b s.a2, s.m1, s.m2⟩, ((inR a b s.raw).length : Int)) else (s, 0)
theorem purgeT_good {s : Stk} (h : GoodT s) (a b : Int) : GoodT (purgeT s a b).1 := by
  unfold purgeT
  split
  · have h1 := again1_good (raw := outR a b s.raw) (a := a) (b := b) h.g1
    exact ⟨outR_ris h.ris a b, fun x hx => h.tick x (List.mem_filter.1 hx).1, Nat.le_trans (outR_len a b s.raw) h.len, h1, again2_good h1 h.g2, h.d1, h.d2, h.low, h.le, h.up⟩
  · exact h
theorem putT_good {s : Stk} (h : GoodT s) (ps : List S29) : GoodT (putT s ps).1 := by
  unfold putT
  split
  · exact h
  · rcases putS_cases s.raw ps with ⟨h3, _⟩ | ⟨h3, _, _⟩ | ⟨h3, h4, h5⟩
    · rw [h3]; exact h
    · rw [h3]; exact h
    · rw [h5]
      refine ⟨ris_putA h.ris, fun x hx => ?_, h4, h.g1, h.g2, h.d1, h.d2, h.low, h.le, h.up⟩
      rcases mem_putA.1 hx with hx | hx
      · exact h3 x (mem_of_putA hx)
      · exact h.tick x hx.1
set_option maxRecDepth 100000 in
set_option maxHeartbeats 16000000 in
theorem tpurge_calls (F : Nat → Prop) (p : Nat) (s : Stk) (a b : Int) (w : World) (hS : IsStk F p s w) (hF : ∀ b, F b → b < w.heap.size) (hG : GoodT s) :
    Calls Try.prog 43 #[.pointer (some ⟨p, 0, none⟩), .agg #[.int .i64 a, .int .i64 b]] w (StkPost F p (purgeT s a b).1 (.int .i64 (purgeT s a b).2) w) := by
  have hn := nn57 p
  have hu42 := Try.underlying42
  have hu100 := Try.underlying100
  obtain ⟨W, hW⟩ : ∃ W, W = w.alloc (.cells #[.int .i64 a, .int .i64 b] 42) := ⟨_, rfl⟩
  obtain ⟨Q, hQ⟩ : ∃ Q, Q = w.heap.size := ⟨_, rfl⟩
  have HQL := Aside0.mk (show Q = w.heap.size from hQ)
  have HW := Aside0.mk (show Below w.heap.size w W by rw [hW]; exact (Below.refl _ _).alloc (Nat.le_refl _) _)
  have HQ0 := Aside0.mk (show W.heap[Q]? = some (.cells #[.int .i64 a, .int .i64 b] 42 (0, 0)) by rw [hW, hQ]; exact blk_new w _)
  have HR := Lib.hid (fun W => window_Right.calls a b _ W (wRight_is a b))
  obtain ⟨rb, hrb⟩ : ∃ f, f = rightR a b := ⟨_, rfl⟩
  rw [← hrb] at HR
  have HRB := Aside0.mk hrb
  have HS := Aside0.mk hS
  have HF := Lib.hid hF
  have HG := Aside0.mk hG
  clear hrb hS hF hG
  go_enter Try.func43, Try.ntmps43
  go_upto_region 1 with (fail)
  rw [← hW, ← hQ]
  clear hW hQ
  have q1 : W.cell? ⟨Q, 0, none⟩ = some (.int .i64 a) := blk_cell HQ0.out 0
  have q2 : W.cell? ⟨Q, 1, none⟩ = some (.int .i64 b) := blk_cell HQ0.out 1
  go_wp2_with fail
  refine (HR.out W).mono ?_
  rintro e w1 ⟨rfl, h1⟩
  have HB1 := Aside0.mk (HW.out.trans (h1.mono HW.out.size))
  have HQ1 := Aside0.mk (show w1.heap[Q]? = _ from (h1.block Q (blk_lt HQ0.out)).trans HQ0.out)
  clear h1 HW HQ0 HR q1 q2
  cases rb with
  | false =>
    have HE := Aside0.mk (show purgeT s a b = (s, 0) by unfold purgeT; rw [← HRB.out]; rfl)
    go_wp2
    go_ret
    rw [HE.out]
    exact ⟨rfl, (HS.out.below HB1.out).mono fun b hb => Or.inl hb, Keep.of_below' HB1.out⟩
  | true =>
    have HE := Aside0.mk (show purgeT s a b = (⟨outR a b s.raw, again1 (outR a b s.raw) a b s.a1, again2 (again1 (outR a b s.raw) a b s.a1) a b s.a2, s.m1, s.m2⟩, ((inR a b s.raw).length : Int)) by unfold purgeT; rw [← HRB.out]; rfl)
    have HG1 := Aside0.mk (again1_good (raw := outR a b s.raw) (a := a) (b := b) HG.out.g1).tk
    have HG2 := Aside0.mk HG.out.g1.tk
    have HG3 := Aside0.mk HG.out.g2.tk
    have HS1 := Aside0.mk (HS.out.below HB1.out)
    obtain ⟨pr, v1, v2, hp, hsr, ho1, ho2, hf1, hf2, hap⟩ := HS1.out.row
    have HPR := Lib.hid (And.intro hp (And.intro hsr (And.intro ho1 (And.intro ho2 (And.intro hf1 (And.intro hf2 hap))))))
    have q0 : w1.cell? ⟨p, 0, none⟩ = some (.pointer (some ⟨pr, 0, none⟩)) := blk_cell hp 0
    have q1 : w1.cell? ⟨Q, 0, none⟩ = some (.int .i64 a) := blk_cell HQ1.out 0
    have q2 : w1.cell? ⟨Q, 1, none⟩ = some (.int .i64 b) := blk_cell HQ1.out 1
    have HC := Aside0.mk (cut_calls F pr s.raw a b w1.drew (hsr.below (pw_below_drewN (Below.refl _ _) 1)))
    have HNE := Aside0.mk (show Q ≠ pr from fun e => by have := HF.out pr hsr.own; have := HQL.out; omega)
    have HNP := Aside0.mk (show p ≠ pr from fun e => by
      obtain ⟨v, hv, _⟩ := hsr.row
      rw [e, hv] at hp
      injection hp with hp
      injection hp with _ hp
      cases hp)
    clear hp hsr ho1 ho2 hf1 hf2 hap HG HS
    go_wp2_with fail
    refine start_ (n := 7) (S := fun w' => (w'.cell? ⟨p, 0, none⟩ = some (.pointer (some ⟨pr, 0, none⟩))) ∧ (w'.cell? ⟨Q, 0, none⟩ = some (.int .i64 a)) ∧ (w'.cell? ⟨Q, 1, none⟩ = some (.int .i64 b))) (ds := []) #[false, false, false, false, false, false, false] (by kernel_rfl) rfl rfl ⟨q0, q1, q2⟩ (fun hHeld => ?_)
    refine pure_ (i := 0) (N := some 13) (v := ?_) (a' := ?_) #[true, false, false, false, false, false, false] rfl rfl (by kernel_rfl) (fun _ _ _ h => h) (Or.inl ⟨by rfl, ?_⟩) ?_ ?_
    rotate_left
    · intro w'
      go_simp
      with_reducible rfl
    rotate_left
    · simp only [Act.put, List.setIfInBounds_toArray, List.set_cons_zero, List.set_cons_succ, i64_w, i32_w]
      rfl
    refine pure_ (i := 1) (N := some 14) (v := ?_) (a' := ?_) #[true, true, false, false, false, false, false] rfl rfl (by kernel_rfl) (fun _ _ _ h => h) (Or.inl ⟨by rfl, ?_⟩) ?_ ?_
    rotate_left
    · intro w'
      go_simp
      with_reducible rfl
    rotate_left
    · simp only [Act.put, List.setIfInBounds_toArray, List.set_cons_zero, List.set_cons_succ, i64_w, i32_w]
      rfl
    refine pure_ (i := 2) (N := some 15) (v := ?_) (a' := ?_) #[true, true, true, false, false, false, false] rfl rfl (by kernel_rfl) (fun _ _ _ h => h) (Or.inl ⟨by rfl, ?_⟩) ?_ ?_
    rotate_left
    · intro w'
      go_simp
      with_reducible rfl
    rotate_left
    · simp only [Act.put, List.setIfInBounds_toArray, List.set_cons_zero, List.set_cons_succ, i64_w, i32_w]
      rfl
    refine take_ (i := 3) (N := some 16) (v := ?_) (a' := ?_) #[true, true, true, true, false, false, false] rfl rfl (by kernel_rfl) (fun _ _ _ h => h) (Or.inl ⟨by rfl, ?_⟩) hHeld ?_ ?_
    rotate_left
    · rintro w' ⟨s0, s1, s2⟩
      go_simp
      with_reducible rfl
    rotate_left
    · simp only [Act.put, List.setIfInBounds_toArray, List.set_cons_zero, List.set_cons_succ, i64_w, i32_w]
      rfl
    refine take_ (i := 4) (N := some 17) (v := ?_) (a' := ?_) #[true, true, true, true, true, false, false] rfl rfl (by kernel_rfl) (fun _ _ _ h => h) (Or.inl ⟨by rfl, ?_⟩) hHeld ?_ ?_
    rotate_left
    · rintro w' ⟨s0, s1, s2⟩
      go_simp
      with_reducible rfl
    rotate_left
    · simp only [Act.put, List.setIfInBounds_toArray, List.set_cons_zero, List.set_cons_succ, i64_w, i32_w]
      rfl
    refine one_ (i := 5) (N := some 18) #[true, true, true, true, true, true, false] rfl rfl (by kernel_rfl) (by decide) (fun K hK => ?_)
    refine goes_ Try.func23 (by kernel_rfl) rfl #[.pointer (some ⟨pr, 0, none⟩), .agg #[.int .i64 a, .int .i64 b]] (by rfl) rfl rfl (by simp only [List.map_toArray, List.map_cons, List.map_nil]; rfl) ?_
    with_reducible refine (HC.out).mono ?_
    rintro e w2 hh
    obtain ⟨rfl, hsr2, hk2⟩ := hh
    have HSR2 := Aside0.mk hsr2
    have HK2 := Aside0.mk hk2
    have k1 := (Keep.cell hk2 hHeld.2.1 HNE.out)
    have k2 := (Keep.cell hk2 hHeld.2.2 HNE.out)
    have k0 := (Keep.cell hk2 hHeld.1 HNP.out)
    clear hsr2 hk2
    refine ⟨_, rfl, ?_⟩
    refine hK.out _ _ ⟨k0, k1, k2⟩ (fun hHeld => ?_)
    clear hK K
    refine norm_ (a' := ?_) ?_ ?_
    rotate_left
    · show Act.put _ (some 18) _ = _
      simp only [Act.put, List.setIfInBounds_toArray, List.set_cons_zero, List.set_cons_succ, i64_w, i32_w]
      rfl
    refine pure_ (i := 6) (N := some 5) (v := ?_) (a' := ?_) #[true, true, true, true, true, true, true] rfl rfl (by kernel_rfl) (fun _ _ _ h => h) (Or.inl ⟨by rfl, ?_⟩) ?_ ?_
    rotate_left
    · intro w'
      go_simp
      with_reducible rfl
    rotate_left
    · simp only [Act.put, List.setIfInBounds_toArray, List.set_cons_zero, List.set_cons_succ, i64_w, i32_w]
      rfl
    refine done_ (by kernel_rfl) ?_
    obtain ⟨hp, hsr, ho1, ho2, hf1, hf2, hap⟩ := HPR.out
    have hkd : Keep (fun b => b = pr) w1 w2 := (Keep.of_below' (S := fun b => b = pr) (pw_below_drewN (Below.refl _ _) 1)).trans' HK2.out (fun b _ h => h)
    have hnr := HS1.out.newraw hp hsr ho1 ho2 hf1 hf2 hap hkd (HSR2.out.mono fun b hb => by
      rcases hb with hb | hb
      · exact .inl hb
      · exact .inr hb)
    have HK3 := Aside0.mk (show Keep F w w2 from (Keep.of_below' (S := F) HB1.out).trans' hnr.2 (fun b _ h => h))
    have HS3 := Aside0.mk (show IsStk (More F w1 w2) p { s with raw := outR a b s.raw } w2 from hnr.1)
    have HFL := Lib.hid (show ∀ b, F b → b < w1.heap.size from fun b hb => Nat.lt_of_lt_of_le (HF.out b hb) HB1.out.size)
    have HS21 := Aside0.mk (show w1.heap.size ≤ w2.heap.size from hkd.size)
    have HS10 := Aside0.mk (show w.heap.size ≤ w1.heap.size from HB1.out.size)
    have HQN := Lib.hid (show ∀ W : World, ¬ More F w1 W Q from fun W h => by
      have h1 := blk_lt HQ1.out
      have h2 := HQL.out
      rcases h with h | h
      · have := HF.out Q h; omega
      · omega)
    have HQ3 := Aside0.mk (show w2.heap[Q]? = some (.cells #[.int .i64 a, .int .i64 b] 42 (0, 0)) from hkd.blk HQ1.out HNE.out)
    clear hp hsr ho1 ho2 hf1 hf2 hap hkd hnr HK2 HSR2 HPR HS1 HQ1 HB1 hHeld
    have q1 : w2.cell? ⟨Q, 0, none⟩ = some (.int .i64 a) := blk_cell HQ3.out 0
    have q2 : w2.cell? ⟨Q, 1, none⟩ = some (.int .i64 b) := blk_cell HQ3.out 1
    go_wp2_with fail
    refine (tagain1_calls _ p { s with raw := outR a b s.raw } a b w2 HS3.out (More.lt HFL.out HS21.out) HG2.out HRB.out.symm).mono ?_
    rintro e w4 ⟨⟨v4, rfl⟩, hs4, hk4⟩
    have HS4 := Aside0.mk (hs4.mono (More.trans HS21.out hk4.size))
    have HS41 := Aside0.mk (Nat.le_trans HS21.out hk4.size)
    have HQ4 := Aside0.mk (show w4.heap[Q]? = some (.cells #[.int .i64 a, .int .i64 b] 42 (0, 0)) from hk4.blk HQ3.out (HQN.out _))
    have HK4 := Aside0.mk (HK3.out.trans' hk4 (fun b hb h => h.low (Nat.lt_of_lt_of_le hb HS10.out)))
    clear hs4 hk4 HS3 HQ3 HK3 q1 q2
    have q1 : w4.cell? ⟨Q, 0, none⟩ = some (.int .i64 a) := blk_cell HQ4.out 0
    have q2 : w4.cell? ⟨Q, 1, none⟩ = some (.int .i64 b) := blk_cell HQ4.out 1
    go_wp2_with fail
    refine (tagain2_calls _ p { s with raw := outR a b s.raw, a1 := again1 (outR a b s.raw) a b s.a1 } a b w4 HS4.out (More.lt HFL.out HS41.out) HG3.out HG1.out HRB.out.symm).mono ?_
    rintro e w5 ⟨⟨v5, rfl⟩, hs5, hk5⟩
    have HS5 := Aside0.mk ((hs5.mono (More.trans HS41.out hk5.size)).mono (show ∀ b, More F w1 w5 b → More F w w5 b from fun b hb => by
      have := HS10.out
      rcases hb with hb | hb
      · exact .inl hb
      · exact .inr ⟨by omega, hb.2⟩))
    have HK5 := Aside0.mk (HK4.out.trans' hk5 (fun b hb h => h.low (Nat.lt_of_lt_of_le hb HS10.out)))
    clear hs5 hk5 HS4 HQ4 HK4 q1 q2
    go_wp2
    go_ret
    rw [HE.out]
    exact ⟨rfl, HS5.out, HK5.out⟩
set_option maxRecDepth 100000 in
theorem tpurge_nil (a b : Int) (w : World) : Calls Try.prog 43 #[.pointer none, .agg #[.int .i64 a, .int .i64 b]] w fun e w' => e = .returned (.int .i64 0) ∧ Below w.heap.size w w' := by
  have hn := nil57
  go_enter Try.func43, Try.ntmps43
  go_wp2
  go_ret
  exact ⟨rfl, (Below.refl _ _).alloc (Nat.le_refl _) _⟩
end Go.Proofs.Ytnjdngjlbonieaa
