/- quota.Ledger: Change, Use, Free, walked; what they do, plain. -/
import Derived.Test.YtdbhejckpkifoaaQuotD
import Derived.Deep.RegionWith
import Derived.Lib.Hide
import Derived.LoopTactic
import Derived.Outline
import Derived.Laws.Rows
import Derived.Laws.CopyOwn
import Derived.WalkKit
set_option linter.unusedVariables false
set_option linter.unusedSimpArgs false
namespace Go.Proofs.Ytdbhejckpkifoaa
open Go.RowKit Go.Proofs.YtdbhejckpkifoaaW.PrintWords Go.Proofs.YtdbhejckpkifoaaW.PrintLast Go.Proofs.YtdbhejckpkifoaaW.PrintMore
open Go.Proofs.Ytdbhejckpkifoaa.PSlotsBack
attribute [local go_sem] max2_int min2_int max_two min_two max_three min_three max_four min_four

section
variable {P : Program} {ops : Array Oper} {Q : Exit → Act → World → Prop} {md : Region.Mode} {S S' : World → Prop}
theorem raise0 (hs : ∀ w, S' w → S w) : ∀ (fuel : Nat) (l : Array Bool) (a : Act) (w : World), S' w → wpAnyLast P md ops Q S' [] fuel l a w → wpAnyLast P md ops Q S [] fuel l a w
  | 0, _, _, _, _, h => h
  | fuel + 1, l, a, w, h0, h => ⟨h.1, fun i hi => wpOp_mono (fun a' w' hh => ⟨fun hn _ => hs w' (hh.1 hn h0), raise0 hs fuel _ a' w' (hh.1 (by simp) h0) hh.2⟩) (h.2 i hi)⟩
/-- From here on S' is known. -/
theorem raise_ {fuel : Nat} {l : Array Bool} {a : Act} {w : World} (hs : ∀ w, S' w → S w) (h0 : S' w) (h : S' w → wpAnyLast P md ops Q S' [] fuel l a w) : wpAnyLast P md ops Q S [] fuel l a w :=
  raise0 hs fuel l a w h0 (h h0)
end
theorem bread {w w1 : World} (h : Below w.heap.size w w1) {p : Addr} {v : Value} (hc : w.cell? p = some v) : w1.cell? p = some v := by
  rw [h.cell (World.block_lt_of_cell? w _ hc)]
  exact hc
theorem IsLed.setCell {p b : Nat} {cap : Int} {M : Mdl} {w : World} (h : IsLed p b cap M w) {q : Addr} (h1 : q.block ≠ p) (h2 : q.block ≠ b) (u : Value) : IsLed p b cap M (w.setCell q u) := by
  obtain ⟨D, ho, hr⟩ := h.map
  exact ⟨blk_far h.led h1 u, D, ho.setCell (Ne.symm h2) u, hr⟩
def useM (M : Mdl) (s : ByteArray) (by_ se : Int) : Int × Mdl :=
  match getM s M with
  | none => (7, M)
  | some a => if by_ < 0 ∨ se < 0 then (1, M) else if a.b - a.ub < by_ ∨ a.s - a.us < se then (10, M) else (0, setM s ⟨a.b, a.s, a.ub + by_, a.us + se⟩ M)
def freeM (M : Mdl) (s : ByteArray) (by_ se : Int) : Int × Mdl :=
  match getM s M with
  | none => (7, M)
  | some a => if by_ < 0 ∨ se < 0 ∨ a.ub < by_ ∨ a.us < se then (1, M) else (0, setM s ⟨a.b, a.s, a.ub - by_, a.us - se⟩ M)
def changeM (cap : Int) (M : Mdl) (s : ByteArray) (by_ se : Int) : Int × Mdl :=
  match getM s M with
  | none => (7, M)
  | some a => if rightQ by_ se = false then (1, M) else if by_ < a.ub ∨ se < a.us then (10, M) else if cap - sumB M < by_ - a.b then (6, M) else (0, setM s ⟨by_, se, a.ub, a.us⟩ M)
theorem useM_good {cap : Int} {M : Mdl} {s : ByteArray} {by_ se : Int} (h : GoodM cap M) : GoodM cap (useM M s by_ se).2 := by
  unfold useM
  cases hg : getM s M with
  | none => exact h
  | some a =>
    have := h.get hg
    simp only
    split
    · exact h
    · split
      · exact h
      · exact h.set hg (by simp only; omega) (by have := h.sum; simp only; omega)
theorem freeM_good {cap : Int} {M : Mdl} {s : ByteArray} {by_ se : Int} (h : GoodM cap M) : GoodM cap (freeM M s by_ se).2 := by
  unfold freeM
  cases hg : getM s M with
  | none => exact h
  | some a =>
    have := h.get hg
    simp only
    split
    · exact h
    · exact h.set hg (by simp only; omega) (by have := h.sum; simp only; omega)
theorem changeM_good {cap : Int} {M : Mdl} {s : ByteArray} {by_ se : Int} (h : GoodM cap M) : GoodM cap (changeM cap M s by_ se).2 := by
  unfold changeM
  cases hg : getM s M with
  | none => exact h
  | some a =>
    have := h.get hg
    simp only
    split
    · exact h
    · rename_i hr
      have hr' : rightQ by_ se = true := by simpa using hr
      have hr2 := of_decide_eq_true hr'
      split
      · exact h
      · split
        · exact h
        · exact h.set hg (by simp only; omega) (by simp only; omega)
set_option maxRecDepth 100000 in
set_option maxHeartbeats 16000000 in
theorem quse_calls (p b : Nat) (cap : Int) (M : Mdl) (s : ByteArray) (hs : s.size ≤ 1000) (by_ se : Int) (hby : -9223372036854775808 ≤ by_ ∧ by_ ≤ 9223372036854775807) (hse : -9223372036854775808 ≤ se ∧ se ≤ 9223372036854775807) (w : World) (h : IsLed p b cap M w) (hG : GoodM cap M) :
    Calls Try.prog 35 #[.pointer (some ⟨p, 0, none⟩), .string s, .int .i64 by_, .int .i64 se] w (QPost p b cap w (useM M s by_ se)) := by
  have HH := Aside0.mk h
  have HLN := Aside0.mk (show M.length < maxLen by have := hG.len; unfold maxLen; omega)
  cases hg : getM s M with
  | none =>
    have HN := Lib.hid (qown_none p b cap M s hs w h hg)
    rw [show useM M s by_ se = (7, M) by unfold useM; rw [hg]]
    clear h hg hG
    go_enter Try.func35, Try.ntmps35
    go_wp2_with fail
    refine HN.out.mono ?_
    rintro e w2 ⟨rfl, h2⟩
    have B2 := Aside0.mk h2
    clear h2
    go_wp2
    go_ret
    exact QPost.same HH.out (B2.out.alloc B2.out.size _) 7
  | some a =>
    have HN := Lib.hid (qown_some p b cap M s hs w h a hg)
    have HE := Aside0.mk hg
    have HK := Aside0.mk (keyS s hs)
    have hga := hG.get hg
    obtain ⟨a1, a2, a3, a4⟩ := a
    have g0 : 0 ≤ a3 := hga.1
    have g1 : a3 ≤ a1 := hga.2.1
    have g2 : a1 ≤ 1099511627776 := hga.2.2.1
    have g3 : 0 ≤ a4 := hga.2.2.2.1
    have g4 : a4 ≤ a2 := hga.2.2.2.2.1
    have g5 : a2 ≤ 16 := hga.2.2.2.2.2
    rw [show useM M s by_ se = if by_ < 0 ∨ se < 0 then (1, M) else if a1 - a3 < by_ ∨ a2 - a4 < se then (10, M) else (0, setM s ⟨a1, a2, a3 + by_, a4 + se⟩ M) by unfold useM; rw [hg]]
    have HGM := Aside0.mk hG
    clear h hg hG hga
    by_cases h1 : by_ < 0
    · rw [if_pos (Or.inl h1)]
      have d1 : decide (by_ < 0) = true := decide_eq_true h1
      go_enter Try.func35, Try.ntmps35
      go_wp2_with fail
      refine HN.out.mono ?_
      rintro e w2 ⟨rfl, h2⟩
      have B2 := Aside0.mk h2
      clear h2
      go_wp2
      go_ret
      exact QPost.same HH.out (B2.out.alloc B2.out.size _) 1
    have d1 : decide (by_ < 0) = false := decide_eq_false h1
    by_cases h2 : se < 0
    · rw [if_pos (Or.inr h2)]
      have d2 : decide (se < 0) = true := decide_eq_true h2
      go_enter Try.func35, Try.ntmps35
      go_wp2_with fail
      refine HN.out.mono ?_
      rintro e w2 ⟨rfl, h2⟩
      have B2 := Aside0.mk h2
      clear h2
      go_wp2
      go_ret
      exact QPost.same HH.out (B2.out.alloc B2.out.size _) 1
    have d2 : decide (se < 0) = false := decide_eq_false h2
    rw [if_neg (by omega)]
    by_cases h3 : a1 - a3 < by_
    · rw [if_pos (Or.inl h3)]
      have d3 : decide (a1 - a3 < by_) = true := decide_eq_true h3
      go_enter Try.func35, Try.ntmps35
      go_wp2_with fail
      refine HN.out.mono ?_
      rintro e w2 ⟨rfl, h2⟩
      have B2 := Aside0.mk h2
      clear h2
      go_wp2
      go_ret
      exact QPost.same HH.out (B2.out.alloc B2.out.size _) 10
    have d3 : decide (a1 - a3 < by_) = false := decide_eq_false h3
    by_cases h4 : a2 - a4 < se
    · rw [if_pos (Or.inr h4)]
      have d4 : decide (a2 - a4 < se) = true := decide_eq_true h4
      go_enter Try.func35, Try.ntmps35
      go_wp2_with fail
      refine HN.out.mono ?_
      rintro e w2 ⟨rfl, h2⟩
      have B2 := Aside0.mk h2
      clear h2
      go_wp2
      go_ret
      exact QPost.same HH.out (B2.out.alloc B2.out.size _) 10
    have d4 : decide (a2 - a4 < se) = false := decide_eq_false h4
    rw [if_neg (by omega)]
    have i0 : 0 ≤ by_ := by omega
    have i1 : by_ ≤ 1099511627776 := by omega
    have i2 : 0 ≤ se := by omega
    have i3 : se ≤ 16 := by omega
    clear h1 h2 h3 h4 hby hse
    go_enter Try.func35, Try.ntmps35
    go_wp2_with fail
    refine HN.out.mono ?_
    rintro e w2 ⟨rfl, h2⟩
    have B2 := Aside0.mk h2
    clear h2
    have HB5 := Aside0.mk (B2.out.alloc B2.out.size (.cells #[.int .i64 a1, .int .i64 a2, .int .i64 (a3 + by_), .int .i64 (a4 + se)] 65))
    have HH5 := Aside0.mk ((HH.out.below HB5.out).drew)
    obtain ⟨D, ho, hrp⟩ := HH5.out.map
    have HRP := Aside0.mk hrp
    obtain ⟨w6, hrun, hown6, hgr6⟩ := ho.update (Maps.string_keyed Try.underlying9) Try.underlying84 HLN.out HK.out (show RA (.agg #[.int .i64 a1, .int .i64 a2, .int .i64 (a3 + by_), .int .i64 (a4 + se)]) = some (acctD ⟨a1, a2, a3 + by_, a4 + se⟩, []) from rfl)
    have HF := Aside0.mk (QPost.put HH.out (pw_below_drewN HB5.out 1) hgr6 hown6 (HRP.out.set HE.out ⟨a1, a2, a3 + by_, a4 + se⟩) 0)
    have k1 := HH5.out.c1
    have x0 : (w2.alloc (.cells #[.int .i64 a1, .int .i64 a2, .int .i64 (a3 + by_), .int .i64 (a4 + se)] 65)).drew.cell? ⟨w2.heap.size, 0, none⟩ = some (.int .i64 a1) := by go_simp
    have x1 : (w2.alloc (.cells #[.int .i64 a1, .int .i64 a2, .int .i64 (a3 + by_), .int .i64 (a4 + se)] 65)).drew.cell? ⟨w2.heap.size, 1, none⟩ = some (.int .i64 a2) := by go_simp
    have x2 : (w2.alloc (.cells #[.int .i64 a1, .int .i64 a2, .int .i64 (a3 + by_), .int .i64 (a4 + se)] 65)).drew.cell? ⟨w2.heap.size, 2, none⟩ = some (.int .i64 (a3 + by_)) := by go_simp
    have x3 : (w2.alloc (.cells #[.int .i64 a1, .int .i64 a2, .int .i64 (a3 + by_), .int .i64 (a4 + se)] 65)).drew.cell? ⟨w2.heap.size, 3, none⟩ = some (.int .i64 (a4 + se)) := by go_simp
    clear ho hrp hown6 hgr6
    go_wp2_with fail
    refine start_ (n := 7) (S := fun w' => (w'.cell? ⟨p, 1, none⟩ = some (.map (some b))) ∧ (w'.cell? ⟨w2.heap.size, 0, none⟩ = some (.int .i64 a1)) ∧ (w'.cell? ⟨w2.heap.size, 1, none⟩ = some (.int .i64 a2)) ∧ (w'.cell? ⟨w2.heap.size, 2, none⟩ = some (.int .i64 (a3 + by_))) ∧ (w'.cell? ⟨w2.heap.size, 3, none⟩ = some (.int .i64 (a4 + se)))) (ds := [6]) #[false, false, false, false, false, false, false] (by kernel_rfl) rfl rfl ⟨k1, x0, x1, x2, x3⟩ (fun hHeld => ?_)
    refine pure_ (i := 0) (N := some 55) (v := ?_) (a' := ?_) #[true, false, false, false, false, false, false] rfl rfl (by kernel_rfl) (fun _ _ _ h => h) (Or.inl ⟨by rfl, ?_⟩) ?_ ?_
    rotate_left
    · intro w'
      go_simp
      with_reducible rfl
    rotate_left
    · simp only [Act.put, List.setIfInBounds_toArray, List.set_cons_zero, List.set_cons_succ, i64_w, i32_w]
      rfl
    refine pure_ (i := 1) (N := some 56) (v := ?_) (a' := ?_) #[true, true, false, false, false, false, false] rfl rfl (by kernel_rfl) (fun _ _ _ h => h) (Or.inl ⟨by rfl, ?_⟩) ?_ ?_
    rotate_left
    · intro w'
      go_simp
      with_reducible rfl
    rotate_left
    · simp only [Act.put, List.setIfInBounds_toArray, List.set_cons_zero, List.set_cons_succ, i64_w, i32_w]
      rfl
    refine pure_ (i := 2) (N := some 57) (v := ?_) (a' := ?_) #[true, true, true, false, false, false, false] rfl rfl (by kernel_rfl) (fun _ _ _ h => h) (Or.inl ⟨by rfl, ?_⟩) ?_ ?_
    rotate_left
    · intro w'
      go_simp
      with_reducible rfl
    rotate_left
    · simp only [Act.put, List.setIfInBounds_toArray, List.set_cons_zero, List.set_cons_succ, i64_w, i32_w]
      rfl
    refine pure_ (i := 4) (N := some 59) (v := ?_) (a' := ?_) #[true, true, true, false, true, false, false] rfl rfl (by kernel_rfl) (fun _ _ _ h => h) (Or.inl ⟨by rfl, ?_⟩) ?_ ?_
    rotate_left
    · intro w'
      go_simp
      with_reducible rfl
    rotate_left
    · simp only [Act.put, List.setIfInBounds_toArray, List.set_cons_zero, List.set_cons_succ, i64_w, i32_w]
      rfl
    refine take_ (i := 3) (N := some 58) (v := ?_) (a' := ?_) #[true, true, true, true, true, false, false] rfl rfl (by kernel_rfl) (fun _ _ _ h => h) (Or.inl ⟨by rfl, ?_⟩) hHeld ?_ ?_
    rotate_left
    · rintro w' ⟨s0, s1, s2, s3, s4⟩
      go_simp
      with_reducible rfl
    rotate_left
    · simp only [Act.put, List.setIfInBounds_toArray, List.set_cons_zero, List.set_cons_succ, i64_w, i32_w]
      rfl
    refine take_ (i := 5) (N := some 60) (v := ?_) (a' := ?_) #[true, true, true, true, true, true, false] rfl rfl (by kernel_rfl) (fun _ _ _ h => h) (Or.inl ⟨by rfl, ?_⟩) hHeld ?_ ?_
    rotate_left
    · rintro w' ⟨s0, s1, s2, s3, s4⟩
      go_simp
      with_reducible rfl
    rotate_left
    · simp only [Act.put, List.setIfInBounds_toArray, List.set_cons_zero, List.set_cons_succ, i64_w, i32_w]
      rfl
    refine last_ (i := 6) (N := none) #[true, true, true, true, true, true, true] rfl rfl (by kernel_rfl) (by decide) (fun K hK => ?_)
    refine skip_ (w1 := ?_) (by rfl) rfl ?_ ?_
    rotate_left
    · go_simp
      rfl
    refine hK.out _ _ ?_
    clear hK K
    refine done_ (by kernel_rfl) ?_
    go_wp2
    go_ret
    exact HF.out
set_option maxRecDepth 100000 in
set_option maxHeartbeats 16000000 in
theorem qfree_calls (p b : Nat) (cap : Int) (M : Mdl) (s : ByteArray) (hs : s.size ≤ 1000) (by_ se : Int) (hby : -9223372036854775808 ≤ by_ ∧ by_ ≤ 9223372036854775807) (hse : -9223372036854775808 ≤ se ∧ se ≤ 9223372036854775807) (w : World) (h : IsLed p b cap M w) (hG : GoodM cap M) :
    Calls Try.prog 36 #[.pointer (some ⟨p, 0, none⟩), .string s, .int .i64 by_, .int .i64 se] w (QPost p b cap w (freeM M s by_ se)) := by
  have HH := Aside0.mk h
  have HLN := Aside0.mk (show M.length < maxLen by have := hG.len; unfold maxLen; omega)
  cases hg : getM s M with
  | none =>
    have HN := Lib.hid (qown_none p b cap M s hs w h hg)
    rw [show freeM M s by_ se = (7, M) by unfold freeM; rw [hg]]
    clear h hg hG
    go_enter Try.func36, Try.ntmps36
    go_wp2_with fail
    refine HN.out.mono ?_
    rintro e w2 ⟨rfl, h2⟩
    have B2 := Aside0.mk h2
    clear h2
    go_wp2
    go_ret
    exact QPost.same HH.out (B2.out.alloc B2.out.size _) 7
  | some a =>
    have HN := Lib.hid (qown_some p b cap M s hs w h a hg)
    have HE := Aside0.mk hg
    have HK := Aside0.mk (keyS s hs)
    have hga := hG.get hg
    obtain ⟨a1, a2, a3, a4⟩ := a
    have g0 : 0 ≤ a3 := hga.1
    have g1 : a3 ≤ a1 := hga.2.1
    have g2 : a1 ≤ 1099511627776 := hga.2.2.1
    have g3 : 0 ≤ a4 := hga.2.2.2.1
    have g4 : a4 ≤ a2 := hga.2.2.2.2.1
    have g5 : a2 ≤ 16 := hga.2.2.2.2.2
    rw [show freeM M s by_ se = if by_ < 0 ∨ se < 0 ∨ a3 < by_ ∨ a4 < se then (1, M) else (0, setM s ⟨a1, a2, a3 - by_, a4 - se⟩ M) by unfold freeM; rw [hg]]
    have HGM := Aside0.mk hG
    clear h hg hG hga
    by_cases h1 : by_ < 0
    · rw [if_pos (Or.inl h1)]
      have d1 : decide (by_ < 0) = true := decide_eq_true h1
      go_enter Try.func36, Try.ntmps36
      go_wp2_with fail
      refine HN.out.mono ?_
      rintro e w2 ⟨rfl, h2⟩
      have B2 := Aside0.mk h2
      clear h2
      go_wp2
      go_ret
      exact QPost.same HH.out (B2.out.alloc B2.out.size _) 1
    have d1 : decide (by_ < 0) = false := decide_eq_false h1
    by_cases h2 : se < 0
    · rw [if_pos (Or.inr (Or.inl h2))]
      have d2 : decide (se < 0) = true := decide_eq_true h2
      go_enter Try.func36, Try.ntmps36
      go_wp2_with fail
      refine HN.out.mono ?_
      rintro e w2 ⟨rfl, h2⟩
      have B2 := Aside0.mk h2
      clear h2
      go_wp2
      go_ret
      exact QPost.same HH.out (B2.out.alloc B2.out.size _) 1
    have d2 : decide (se < 0) = false := decide_eq_false h2
    by_cases h3 : a3 < by_
    · rw [if_pos (Or.inr (Or.inr (Or.inl h3)))]
      have d3 : decide (a3 < by_) = true := decide_eq_true h3
      go_enter Try.func36, Try.ntmps36
      go_wp2_with fail
      refine HN.out.mono ?_
      rintro e w2 ⟨rfl, h2⟩
      have B2 := Aside0.mk h2
      clear h2
      go_wp2
      go_ret
      exact QPost.same HH.out (B2.out.alloc B2.out.size _) 1
    have d3 : decide (a3 < by_) = false := decide_eq_false h3
    by_cases h4 : a4 < se
    · rw [if_pos (Or.inr (Or.inr (Or.inr h4)))]
      have d4 : decide (a4 < se) = true := decide_eq_true h4
      go_enter Try.func36, Try.ntmps36
      go_wp2_with fail
      refine HN.out.mono ?_
      rintro e w2 ⟨rfl, h2⟩
      have B2 := Aside0.mk h2
      clear h2
      go_wp2
      go_ret
      exact QPost.same HH.out (B2.out.alloc B2.out.size _) 1
    have d4 : decide (a4 < se) = false := decide_eq_false h4
    rw [if_neg (by omega)]
    have i0 : 0 ≤ by_ := by omega
    have i1 : by_ ≤ 1099511627776 := by omega
    have i2 : 0 ≤ se := by omega
    have i3 : se ≤ 16 := by omega
    clear h1 h2 h3 h4 hby hse
    go_enter Try.func36, Try.ntmps36
    go_wp2_with fail
    refine HN.out.mono ?_
    rintro e w2 ⟨rfl, h2⟩
    have B2 := Aside0.mk h2
    clear h2
    have HB5 := Aside0.mk (B2.out.alloc B2.out.size (.cells #[.int .i64 a1, .int .i64 a2, .int .i64 (a3 - by_), .int .i64 (a4 - se)] 65))
    have HH5 := Aside0.mk ((HH.out.below HB5.out).drew)
    obtain ⟨D, ho, hrp⟩ := HH5.out.map
    have HRP := Aside0.mk hrp
    obtain ⟨w6, hrun, hown6, hgr6⟩ := ho.update (Maps.string_keyed Try.underlying9) Try.underlying84 HLN.out HK.out (show RA (.agg #[.int .i64 a1, .int .i64 a2, .int .i64 (a3 - by_), .int .i64 (a4 - se)]) = some (acctD ⟨a1, a2, a3 - by_, a4 - se⟩, []) from rfl)
    have HF := Aside0.mk (QPost.put HH.out (pw_below_drewN HB5.out 1) hgr6 hown6 (HRP.out.set HE.out ⟨a1, a2, a3 - by_, a4 - se⟩) 0)
    have k1 := HH5.out.c1
    have x0 : (w2.alloc (.cells #[.int .i64 a1, .int .i64 a2, .int .i64 (a3 - by_), .int .i64 (a4 - se)] 65)).drew.cell? ⟨w2.heap.size, 0, none⟩ = some (.int .i64 a1) := by go_simp
    have x1 : (w2.alloc (.cells #[.int .i64 a1, .int .i64 a2, .int .i64 (a3 - by_), .int .i64 (a4 - se)] 65)).drew.cell? ⟨w2.heap.size, 1, none⟩ = some (.int .i64 a2) := by go_simp
    have x2 : (w2.alloc (.cells #[.int .i64 a1, .int .i64 a2, .int .i64 (a3 - by_), .int .i64 (a4 - se)] 65)).drew.cell? ⟨w2.heap.size, 2, none⟩ = some (.int .i64 (a3 - by_)) := by go_simp
    have x3 : (w2.alloc (.cells #[.int .i64 a1, .int .i64 a2, .int .i64 (a3 - by_), .int .i64 (a4 - se)] 65)).drew.cell? ⟨w2.heap.size, 3, none⟩ = some (.int .i64 (a4 - se)) := by go_simp
    clear ho hrp hown6 hgr6
    go_wp2_with fail
    refine start_ (n := 7) (S := fun w' => (w'.cell? ⟨p, 1, none⟩ = some (.map (some b))) ∧ (w'.cell? ⟨w2.heap.size, 0, none⟩ = some (.int .i64 a1)) ∧ (w'.cell? ⟨w2.heap.size, 1, none⟩ = some (.int .i64 a2)) ∧ (w'.cell? ⟨w2.heap.size, 2, none⟩ = some (.int .i64 (a3 - by_))) ∧ (w'.cell? ⟨w2.heap.size, 3, none⟩ = some (.int .i64 (a4 - se)))) (ds := [6]) #[false, false, false, false, false, false, false] (by kernel_rfl) rfl rfl ⟨k1, x0, x1, x2, x3⟩ (fun hHeld => ?_)
    refine pure_ (i := 0) (N := some 50) (v := ?_) (a' := ?_) #[true, false, false, false, false, false, false] rfl rfl (by kernel_rfl) (fun _ _ _ h => h) (Or.inl ⟨by rfl, ?_⟩) ?_ ?_
    rotate_left
    · intro w'
      go_simp
      with_reducible rfl
    rotate_left
    · simp only [Act.put, List.setIfInBounds_toArray, List.set_cons_zero, List.set_cons_succ, i64_w, i32_w]
      rfl
    refine pure_ (i := 1) (N := some 51) (v := ?_) (a' := ?_) #[true, true, false, false, false, false, false] rfl rfl (by kernel_rfl) (fun _ _ _ h => h) (Or.inl ⟨by rfl, ?_⟩) ?_ ?_
    rotate_left
    · intro w'
      go_simp
      with_reducible rfl
    rotate_left
    · simp only [Act.put, List.setIfInBounds_toArray, List.set_cons_zero, List.set_cons_succ, i64_w, i32_w]
      rfl
    refine pure_ (i := 2) (N := some 52) (v := ?_) (a' := ?_) #[true, true, true, false, false, false, false] rfl rfl (by kernel_rfl) (fun _ _ _ h => h) (Or.inl ⟨by rfl, ?_⟩) ?_ ?_
    rotate_left
    · intro w'
      go_simp
      with_reducible rfl
    rotate_left
    · simp only [Act.put, List.setIfInBounds_toArray, List.set_cons_zero, List.set_cons_succ, i64_w, i32_w]
      rfl
    refine pure_ (i := 4) (N := some 54) (v := ?_) (a' := ?_) #[true, true, true, false, true, false, false] rfl rfl (by kernel_rfl) (fun _ _ _ h => h) (Or.inl ⟨by rfl, ?_⟩) ?_ ?_
    rotate_left
    · intro w'
      go_simp
      with_reducible rfl
    rotate_left
    · simp only [Act.put, List.setIfInBounds_toArray, List.set_cons_zero, List.set_cons_succ, i64_w, i32_w]
      rfl
    refine take_ (i := 3) (N := some 53) (v := ?_) (a' := ?_) #[true, true, true, true, true, false, false] rfl rfl (by kernel_rfl) (fun _ _ _ h => h) (Or.inl ⟨by rfl, ?_⟩) hHeld ?_ ?_
    rotate_left
    · rintro w' ⟨s0, s1, s2, s3, s4⟩
      go_simp
      with_reducible rfl
    rotate_left
    · simp only [Act.put, List.setIfInBounds_toArray, List.set_cons_zero, List.set_cons_succ, i64_w, i32_w]
      rfl
    refine take_ (i := 5) (N := some 55) (v := ?_) (a' := ?_) #[true, true, true, true, true, true, false] rfl rfl (by kernel_rfl) (fun _ _ _ h => h) (Or.inl ⟨by rfl, ?_⟩) hHeld ?_ ?_
    rotate_left
    · rintro w' ⟨s0, s1, s2, s3, s4⟩
      go_simp
      with_reducible rfl
    rotate_left
    · simp only [Act.put, List.setIfInBounds_toArray, List.set_cons_zero, List.set_cons_succ, i64_w, i32_w]
      rfl
    refine last_ (i := 6) (N := none) #[true, true, true, true, true, true, true] rfl rfl (by kernel_rfl) (by decide) (fun K hK => ?_)
    refine skip_ (w1 := ?_) (by rfl) rfl ?_ ?_
    rotate_left
    · go_simp
      rfl
    refine hK.out _ _ ?_
    clear hK K
    refine done_ (by kernel_rfl) ?_
    go_wp2
    go_ret
    exact HF.out
end Go.Proofs.Ytdbhejckpkifoaa
