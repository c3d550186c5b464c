/- SHA-256's state: Write, Copy, walked. -/
import Derived.Test.YtjlnbklendkflaaHashD
import Derived.Deep.LoopGhost
import Derived.Lib.Hide
import Derived.LoopTactic
import Derived.Outline
import Derived.Laws.Rows
import Derived.Laws.CopyOwn
import Derived.WalkKit
set_option linter.unusedVariables false
set_option linter.unusedSimpArgs false
namespace Go.Proofs.Ytjlnbklendkflaa
open Go.RowKit Go.Proofs.YtjlnbklendkflaaW.PrintWords Go.Proofs.YtjlnbklendkflaaW.PrintLast Go.Proofs.YtjlnbklendkflaaW.PrintMore
open Go.Proofs.Ytjlnbklendkflaa.PHashSums


theorem stC_nth (hs : List Int) (vr : Value) (n x : Int) (hl : hs.length = 8) : (stC hs vr n).setIfInBounds 9 (.int .u64 x) = stC hs vr x := by
  obtain ⟨a, b, c, d, e, f, g, i, rfl⟩ := eight hl
  rfl
theorem stC_rest (hs : List Int) (vr vr' : Value) (n : Int) (hl : hs.length = 8) : (stC hs vr n).setIfInBounds 8 vr' = stC hs vr' n := by
  obtain ⟨a, b, c, d, e, f, g, i, rfl⟩ := eight hl
  rfl
theorem st_rest {w : World} {p : Nat} {hs : List Int} {vr : Value} {n : Int} (h : w.heap[p]? = some (.cells (stC hs vr n) 54 (0, 0))) (hl : hs.length = 8) : w.cell? ⟨p, 8, none⟩ = some vr := by
  obtain ⟨a, b, c, d, e, f, g, i, rfl⟩ := eight hl
  rw [blk_cell h]; rfl
theorem st_n {w : World} {p : Nat} {hs : List Int} {vr : Value} {n : Int} (h : w.heap[p]? = some (.cells (stC hs vr n) 54 (0, 0))) (hl : hs.length = 8) : w.cell? ⟨p, 9, none⟩ = some (.int .u64 n) := by
  obtain ⟨a, b, c, d, e, f, g, i, rfl⟩ := eight hl
  rw [blk_cell h]; rfl
/-- Between two blocks of a Write. -/
structure WInv (p : Nat) (w : World) (M : List Int) (j : Nat) (wr : World) : Prop where
  keep : Keep (fun i => i = p) w wr
  st : ∃ vr, wr.heap[p]? = some (.cells (stC (blocks M j) vr (M.length : Int)) 54 (0, 0)) ∧ RdV p wr vr (M.drop (64 * j)) ∧ ∀ g, (g < w.heap.size ∨ wr.heap.size ≤ g) → Apart p w g → vr.ownBlock ≠ some g
theorem Apart.of {p : Nat} {w : World} {g : Nat} {hs : List Int} {vr : Value} {n : Int} (h : Apart p w g) (hst : w.heap[p]? = some (.cells (stC hs vr n) 54 (0, 0))) (hl : hs.length = 8) : vr.ownBlock ≠ some g := by
  obtain ⟨hs', vr', n', h1, h2, h3⟩ := h
  have e1 := st_rest hst hl
  have e2 := st_rest h2 h1
  rw [e1] at e2
  injection e2 with e2
  rw [e2]
  exact h3
theorem RdV.cut {p : Nat} {w : World} {ad : Addr} {n c : Nat} {l : List Int} (h : RdV p w (.slice (some ad) n c) l) (k : Nat) (hk : k ≤ n) (hk0 : 0 < k) : RdV p w (.slice (if c = k then some ad else some ⟨ad.block, ad.off + k, none⟩) (n - k) (c - k)) (l.drop k) := by
  have e0 : (⟨ad.block, ad.off + k, none⟩ : Addr) = ad.add k := by
    have := (add_field ad 0 k hk0).symm
    rw [Nat.zero_add] at this
    exact this
  rw [e0]
  obtain ⟨A, n', c', e, hn, hc, hc2, hsr, hob, hno⟩ := h
  injection e with e1 e2 e3
  subst e1 e2 e3
  have hb : ∀ ad' : Addr, ad'.block = ad.block → ∀ a b, (Value.slice (some ad') a b).ownBlock ≠ some p := fun ad' h1 a b e => hob (by
    have : ad'.block = p := by simpa [Value.ownBlock] using e
    show some ad.block = some p
    rw [← h1, this])
  rcases hsr with ⟨c2, e, _⟩ | ⟨ad2, c2, e, h2⟩
  · cases e
  · injection e with e1 e2 e3
    injection e1 with e1
    subst e1
    by_cases hck : c = k
    · rw [if_pos hck]
      have hl0 : l.drop k = [] := List.drop_of_length_le (by omega)
      rw [hl0]
      exact ⟨some ad, _, _, rfl, by simp; omega, by omega, by omega, .inr ⟨ad, _, by rw [show n - k = 0 by omega]; rfl, fun j x hx => by cases hx⟩, hb ad rfl _ _, fun h => by cases h⟩
    · rw [if_neg hck]
      refine ⟨some (ad.add k), _, _, rfl, by rw [List.length_drop, hn], by omega, by omega, .inr ⟨ad.add k, _, by rw [List.length_drop, hn], fun j x hx => ?_⟩, hb _ (by unfold Addr.add; split <;> rfl) _ _, fun h => by cases h⟩
      rw [List.getElem?_drop] at hx
      have := h2 (k + j) x hx
      rw [Addr.add_add]
      exact this
set_option maxRecDepth 100000 in
set_option maxHeartbeats 8000000 in
theorem write_calls (p : Nat) (m b : List Int) (v : Value) (w : World) (h : IsH p m w) (hv : SrcB w v b) (hvp : b.length ≠ 0 → v.ownBlock ≠ some p) (hl : m.length + b.length ≤ 1000000) :
    Calls Try.prog 14 #[.pointer (some ⟨p, 0, none⟩), v] w fun e w' => e = .returned (.tuple #[]) ∧ IsH p (m ++ b) w' ∧ Keep (fun i => i = p) w w' ∧ ∀ g, (g < w.heap.size ∨ w'.heap.size ≤ g) → Apart p w g → Apart p w' g := by
  have hpl := h.lt
  obtain ⟨vr, hst, hrd⟩ := h
  obtain ⟨A, L, c0, rfl, hL, hLc, hc9, hsr, hob, hno⟩ := hrd
  have hLm : L = m.length - 64 * (m.length / 64) := by rw [hL, List.length_drop]
  have HRD := Aside0.mk (show RdV p w (.slice A L c0) (m.drop (64 * (m.length / 64))) from ⟨A, L, c0, rfl, hL, hLc, hc9, hsr, hob, hno⟩)
  have HST := Aside0.mk hst
  have HAP0 := Aside0.mk (show ∀ g, Apart p w g → (Value.slice A L c0).ownBlock ≠ some g from fun g h => h.of hst (blocks_length m _))
  have hbl := blocks_length m (m.length / 64)
  have HBL := Aside0.mk hbl
  obtain ⟨B, cb, rfl⟩ : ∃ B cb, v = .slice B b.length cb := by
    rcases hv with ⟨c', rfl, rfl⟩ | ⟨ad, c', rfl, _⟩
    · exact ⟨_, _, rfl⟩
    · exact ⟨_, _, rfl⟩
  have HV := Aside0.mk hv
  have HVP := Aside0.mk hvp
  have c9 := st_n hst hbl
  have f9 := blk_frozen hst 9
  have hw1 : IntKind.u64.wrap (b.length : Int) = (b.length : Int) := by rw [IntKind.wrap_u64]; omega
  have hw2 : IntKind.u64.wrap ((m.length : Int) + (b.length : Int)) = (m.length : Int) + (b.length : Int) := by rw [IntKind.wrap_u64]; omega
  have HLM := Aside0.mk hLm
  clear hst hsr hob hno hv hvp hL hbl hLm
  go_enter Try.func14, Try.ntmps14
  go_wp2_with fail
  obtain ⟨w1, hw1e⟩ : ∃ w1, w1 = w.setCell ⟨p, 9, none⟩ (.int .u64 ((m.length : Int) + (b.length : Int))) := ⟨_, rfl⟩
  have hst1 : w1.heap[p]? = some (.cells (stC (blocks m (m.length / 64)) (.slice A L c0) ((m.length : Int) + (b.length : Int))) 54 (0, 0)) := by
    rw [hw1e, ← stC_nth _ _ (m.length : Int) _ HBL.out]; exact blk_set HST.out 9 _
  have HST1 := Aside0.mk hst1
  have HK1 := Aside0.mk (show Keep (fun i => i = p) w w1 by rw [hw1e]; exact (Keep.refl (fun i => i = p) w).setCell (p := ⟨p, 9, none⟩) (fun _ => rfl) _)
  have HRD1 := Aside0.mk (show RdV p w1.drew (.slice A L c0) (m.drop (64 * (m.length / 64))) from HRD.out.keep HK1.out.drew)
  have HV1 := Aside0.mk (show SrcB w1.drew (.slice B b.length cb) b by
    rcases HV.out with h | ⟨ad, c', e, hc⟩
    · exact .inl h
    · refine .inr ⟨ad, c', e, fun j x hx => HK1.out.drew.cell (hc j x hx) ?_⟩
      have hab : (ad.add j).block = ad.block := by unfold Addr.add; split <;> rfl
      rw [hab]
      intro e2
      exact HVP.out (by have := (List.getElem?_eq_some_iff.1 hx).1; omega) (by rw [e, ← e2]; rfl))
  have HPL1 := Aside0.mk (show p < w1.drew.heap.size from blk_lt hst1)
  have g8 := st_rest hst1 HBL.out
  rw [← hw1e]
  have HW1 := Aside0.mk hw1e
  clear hst1 hw1e c9 f9 hw1 hw2
  refine start_ (n := 21) (S := fun w' => (w'.cell? ⟨p, 8, none⟩ = some (.slice A L c0))) (ds := [20]) #[false, false, false, false, false, false, false, false, false, false, false, false, false, false, false, false, false, false, false, false, false] (by kernel_rfl) rfl rfl (g8) (fun hHeld => ?_)
  refine pure_ (i := 0) (N := some 16) (v := ?_) (a' := ?_) #[true, false, false, false, false, false, false, false, false, false, false, false, false, false, false, false, false, false, false, false, false] rfl rfl (by kernel_rfl) (fun _ _ _ h => h) (Or.inl ⟨by rfl, ?_⟩) ?_ ?_
  rotate_left
  · intro w'
    go_simp
    with_reducible rfl
  rotate_left
  · simp only [Act.put, List.setIfInBounds_toArray, List.set_cons_zero, List.set_cons_succ, i64_w, i32_w]
    rfl
  refine pure_ (i := 1) (N := some 17) (v := ?_) (a' := ?_) #[true, true, false, false, false, false, false, false, false, false, false, false, false, false, false, false, false, false, false, false, false] rfl rfl (by kernel_rfl) (fun _ _ _ h => h) (Or.inl ⟨by rfl, ?_⟩) ?_ ?_
  rotate_left
  · intro w'
    go_simp
    with_reducible rfl
  rotate_left
  · simp only [Act.put, List.setIfInBounds_toArray, List.set_cons_zero, List.set_cons_succ, i64_w, i32_w]
    rfl
  refine pure_ (i := 2) (N := some 18) (v := ?_) (a' := ?_) #[true, true, true, false, false, false, false, false, false, false, false, false, false, false, false, false, false, false, false, false, false] rfl rfl (by kernel_rfl) (fun _ _ _ h => h) (Or.inl ⟨by rfl, ?_⟩) ?_ ?_
  rotate_left
  · intro w'
    go_simp
    with_reducible rfl
  rotate_left
  · simp only [Act.put, List.setIfInBounds_toArray, List.set_cons_zero, List.set_cons_succ, i64_w, i32_w]
    rfl
  refine pure_ (i := 3) (N := some 19) (v := ?_) (a' := ?_) #[true, true, true, true, false, false, false, false, false, false, false, false, false, false, false, false, false, false, false, false, false] rfl rfl (by kernel_rfl) (fun _ _ _ h => h) (Or.inl ⟨by rfl, ?_⟩) ?_ ?_
  rotate_left
  · intro w'
    go_simp
    with_reducible rfl
  rotate_left
  · simp only [Act.put, List.setIfInBounds_toArray, List.set_cons_zero, List.set_cons_succ, i64_w, i32_w]
    rfl
  refine pure_ (i := 5) (N := some 21) (v := ?_) (a' := ?_) #[true, true, true, true, false, true, false, false, false, false, false, false, false, false, false, false, false, false, false, false, false] rfl rfl (by kernel_rfl) (fun _ _ _ h => h) (Or.inl ⟨by rfl, ?_⟩) ?_ ?_
  rotate_left
  · intro w'
    go_simp
    with_reducible rfl
  rotate_left
  · simp only [Act.put, List.setIfInBounds_toArray, List.set_cons_zero, List.set_cons_succ, i64_w, i32_w]
    rfl
  refine pure_ (i := 6) (N := some 22) (v := ?_) (a' := ?_) #[true, true, true, true, false, true, true, false, false, false, false, false, false, false, false, false, false, false, false, false, false] rfl rfl (by kernel_rfl) (fun _ _ _ h => h) (Or.inl ⟨by rfl, ?_⟩) ?_ ?_
  rotate_left
  · intro w'
    go_simp
    with_reducible rfl
  rotate_left
  · simp only [Act.put, List.setIfInBounds_toArray, List.set_cons_zero, List.set_cons_succ, i64_w, i32_w]
    rfl
  refine pure_ (i := 7) (N := some 23) (v := ?_) (a' := ?_) #[true, true, true, true, false, true, true, true, false, false, false, false, false, false, false, false, false, false, false, false, false] rfl rfl (by kernel_rfl) (fun _ _ _ h => h) (Or.inl ⟨by rfl, ?_⟩) ?_ ?_
  rotate_left
  · intro w'
    go_simp
    with_reducible rfl
  rotate_left
  · simp only [Act.put, List.setIfInBounds_toArray, List.set_cons_zero, List.set_cons_succ, i64_w, i32_w]
    rfl
  refine pure_ (i := 10) (N := some 26) (v := ?_) (a' := ?_) #[true, true, true, true, false, true, true, true, false, false, true, false, false, false, false, false, false, false, false, false, false] rfl rfl (by kernel_rfl) (fun _ _ _ h => h) (Or.inl ⟨by rfl, ?_⟩) ?_ ?_
  rotate_left
  · intro w'
    go_simp
    with_reducible rfl
  rotate_left
  · simp only [Act.put, List.setIfInBounds_toArray, List.set_cons_zero, List.set_cons_succ, i64_w, i32_w]
    rfl
  refine pure_ (i := 11) (N := some 27) (v := ?_) (a' := ?_) #[true, true, true, true, false, true, true, true, false, false, true, true, false, false, false, false, false, false, false, false, false] rfl rfl (by kernel_rfl) (fun _ _ _ h => h) (Or.inl ⟨by rfl, ?_⟩) ?_ ?_
  rotate_left
  · intro w'
    go_simp
    with_reducible rfl
  rotate_left
  · simp only [Act.put, List.setIfInBounds_toArray, List.set_cons_zero, List.set_cons_succ, i64_w, i32_w]
    rfl
  refine pure_ (i := 12) (N := some 28) (v := ?_) (a' := ?_) #[true, true, true, true, false, true, true, true, false, false, true, true, true, false, false, false, false, false, false, false, false] rfl rfl (by kernel_rfl) (fun _ _ _ h => h) (Or.inl ⟨by rfl, ?_⟩) ?_ ?_
  rotate_left
  · intro w'
    go_simp
    with_reducible rfl
  rotate_left
  · simp only [Act.put, List.setIfInBounds_toArray, List.set_cons_zero, List.set_cons_succ, i64_w, i32_w]
    rfl
  refine pure_ (i := 16) (N := some 32) (v := ?_) (a' := ?_) #[true, true, true, true, false, true, true, true, false, false, true, true, true, false, false, false, true, false, false, false, false] rfl rfl (by kernel_rfl) (fun _ _ _ h => h) (Or.inl ⟨by rfl, ?_⟩) ?_ ?_
  rotate_left
  · intro w'
    go_simp
    with_reducible rfl
  rotate_left
  · simp only [Act.put, List.setIfInBounds_toArray, List.set_cons_zero, List.set_cons_succ, i64_w, i32_w]
    rfl
  refine take_ (i := 4) (N := some 20) (v := ?_) (a' := ?_) #[true, true, true, true, true, true, true, true, false, false, true, true, true, false, false, false, true, false, false, false, false] rfl rfl (by kernel_rfl) (fun _ _ _ h => h) (Or.inl ⟨by rfl, ?_⟩) hHeld ?_ ?_
  rotate_left
  · rintro w' s0
    go_simp
    with_reducible rfl
  rotate_left
  · simp only [Act.put, List.setIfInBounds_toArray, List.set_cons_zero, List.set_cons_succ, i64_w, i32_w]
    rfl
  refine take_ (i := 8) (N := some 24) (v := ?_) (a' := ?_) #[true, true, true, true, true, true, true, true, true, false, true, true, true, false, false, false, true, false, false, false, false] rfl rfl (by kernel_rfl) (fun _ _ _ h => h) (Or.inl ⟨by rfl, ?_⟩) hHeld ?_ ?_
  rotate_left
  · rintro w' s0
    go_simp
    with_reducible rfl
  rotate_left
  · simp only [Act.put, List.setIfInBounds_toArray, List.set_cons_zero, List.set_cons_succ, i64_w, i32_w]
    rfl
  refine pure_ (i := 9) (N := some 25) (v := ?_) (a' := ?_) #[true, true, true, true, true, true, true, true, true, true, true, true, true, false, false, false, true, false, false, false, false] rfl rfl (by kernel_rfl) (fun _ _ _ h => h) (Or.inl ⟨by rfl, ?_⟩) ?_ ?_
  rotate_left
  · intro w'
    go_simp
    with_reducible rfl
  rotate_left
  · simp only [Act.put, List.setIfInBounds_toArray, List.set_cons_zero, List.set_cons_succ, i64_w, i32_w]
    rfl
  refine take_ (i := 13) (N := some 29) (v := ?_) (a' := ?_) #[true, true, true, true, true, true, true, true, true, true, true, true, true, true, false, false, true, false, false, false, false] rfl rfl (by kernel_rfl) (fun _ _ _ h => h) (Or.inl ⟨by rfl, ?_⟩) hHeld ?_ ?_
  rotate_left
  · rintro w' s0
    go_simp
    with_reducible rfl
  rotate_left
  · simp only [Act.put, List.setIfInBounds_toArray, List.set_cons_zero, List.set_cons_succ, i64_w, i32_w]
    rfl
  refine pure_ (i := 14) (N := some 30) (v := ?_) (a' := ?_) #[true, true, true, true, true, true, true, true, true, true, true, true, true, true, true, false, true, false, false, false, false] rfl rfl (by kernel_rfl) (fun _ _ _ h => h) (Or.inl ⟨by rfl, ?_⟩) ?_ ?_
  rotate_left
  · intro w'
    go_simp
    with_reducible rfl
  rotate_left
  · simp only [Act.put, List.setIfInBounds_toArray, List.set_cons_zero, List.set_cons_succ, i64_w, i32_w]
    rfl
  refine pure_ (i := 15) (N := some 31) (v := ?_) (a' := ?_) #[true, true, true, true, true, true, true, true, true, true, true, true, true, true, true, true, true, false, false, false, false] rfl rfl (by kernel_rfl) (fun _ _ _ h => h) (Or.inl ⟨by rfl, ?_⟩) ?_ ?_
  rotate_left
  · intro w'
    go_simp
    with_reducible rfl
  rotate_left
  · simp only [Act.put, List.setIfInBounds_toArray, List.set_cons_zero, List.set_cons_succ, i64_w, i32_w]
    rfl
  refine one_ (i := 17) (N := some 33) #[true, true, true, true, true, true, true, true, true, true, true, true, true, true, true, true, true, true, false, false, false] rfl rfl (by kernel_rfl) (by decide) (fun K hK => ?_)
  refine step_append_rest p rfl (.tmp 31) (.tmp 32) rfl A L c0 (m.drop (64 * (m.length / 64))) b B b.length cb rfl rfl HRD1.out HV1.out rfl HPL1.out (by rw [List.length_drop]; omega) ?_
  intro v1 w2 hr2 hb2 hap2
  obtain ⟨A2, n2, c2, rfl, hr2r⟩ := hr2
  have HR2 := Aside0.mk (show RdV p w2 (.slice A2 n2 c2) (m.drop (64 * (m.length / 64)) ++ b) from ⟨A2, n2, c2, rfl, hr2r⟩)
  have HB2 := Aside0.mk hb2
  have g8b := bread hb2 g8
  have f8b : w2.frozen? ⟨p, 8, none⟩ = false := blk_frozen ((hb2.block p HPL1.out).trans HST1.out) 8
  have HAP2 := Aside0.mk (show ∀ g, (g < w.heap.size ∨ w2.heap.size ≤ g) → Apart p w g → (Value.slice A2 n2 c2).ownBlock ≠ some g from fun g hg h => hap2 g (hg.imp (fun hg => by have := HK1.out.size; simpa using Nat.lt_of_lt_of_le hg this) id) (HAP0.out g h))
  clear hr2r hb2 hap2
  refine hK.out _ _ (g8b) (fun hHeld => ?_)
  clear hK K
  refine norm_ (a' := ?_) ?_ ?_
  rotate_left
  · show Act.put _ (some 33) _ = _
    simp only [Act.put, List.setIfInBounds_toArray, List.set_cons_zero, List.set_cons_succ, i64_w, i32_w]
    rfl
  refine pure_ (i := 18) (N := some 34) (v := ?_) (a' := ?_) #[true, true, true, true, true, true, true, true, true, true, true, true, true, true, true, true, true, true, true, false, false] rfl rfl (by kernel_rfl) (fun _ _ _ h => h) (Or.inl ⟨by rfl, ?_⟩) ?_ ?_
  rotate_left
  · intro w'
    go_simp
    with_reducible rfl
  rotate_left
  · simp only [Act.put, List.setIfInBounds_toArray, List.set_cons_zero, List.set_cons_succ, i64_w, i32_w]
    rfl
  refine pure_ (i := 19) (N := some 35) (v := ?_) (a' := ?_) #[true, true, true, true, true, true, true, true, true, true, true, true, true, true, true, true, true, true, true, true, false] rfl rfl (by kernel_rfl) (fun _ _ _ h => h) (Or.inl ⟨by rfl, ?_⟩) ?_ ?_
  rotate_left
  · intro w'
    go_simp
    with_reducible rfl
  rotate_left
  · simp only [Act.put, List.setIfInBounds_toArray, List.set_cons_zero, List.set_cons_succ, i64_w, i32_w]
    rfl
  refine last_ (i := 20) (N := none) #[true, true, true, true, true, true, true, true, true, true, true, true, true, true, true, true, true, true, true, true, true] rfl rfl (by kernel_rfl) (by decide) (fun K hK => ?_)
  refine skip_ (w1 := ?_) (by rfl) rfl ?_ ?_
  rotate_left
  · go_simp
    rfl
  refine hK.out _ _ ?_
  clear hK K
  refine done_ (by kernel_rfl) ?_
  have HST3 := Aside0.mk (show (w2.setCell ⟨p, 8, none⟩ (.slice A2 n2 c2)).heap[p]? = some (.cells (stC (blocks m (m.length / 64)) (.slice A2 n2 c2) ((m.length : Int) + (b.length : Int))) 54 (0, 0)) by
    rw [← stC_rest _ (.slice A L c0) _ _ HBL.out]; exact blk_set ((HB2.out.block p HPL1.out).trans HST1.out) 8 _)
  have HK3 := Aside0.mk (show Keep (fun i => i = p) w (w2.setCell ⟨p, 8, none⟩ (.slice A2 n2 c2)) from ((HK1.out.drew.trans ((Keep.of_below HB2.out).mono (S' := fun i => i = p) (fun i h1 h2 => by omega)) (fun _ _ h => h)).setCell (p := ⟨p, 8, none⟩) (fun _ => rfl) _))
  have HR3 := Aside0.mk (show RdV p (w2.setCell ⟨p, 8, none⟩ (.slice A2 n2 c2)) (.slice A2 n2 c2) (m.drop (64 * (m.length / 64)) ++ b) from HR2.out.keep ((Keep.refl (fun i => i = p) w2).setCell (p := ⟨p, 8, none⟩) (fun _ => rfl) _))
  have HI0 := Aside0.mk (show WInv p w (m ++ b) (m.length / 64) (w2.setCell ⟨p, 8, none⟩ (.slice A2 n2 c2)) from ⟨HK3.out, _, by rw [blocks_more _ _ _ (by omega), List.length_append]; exact HST3.out, by rw [List.drop_append_of_le_length (by omega)]; exact HR3.out, fun g hg h => HAP2.out g (by simpa using hg) h⟩)
  obtain ⟨M, hM⟩ : ∃ M, M = m ++ b := ⟨_, rfl⟩
  have hMl : M.length = m.length + b.length := by rw [hM, List.length_append]
  rw [← hM] at HI0
  have HM := Aside0.mk hM
  clear hM g8 g8b f8b
  go_wp2_with fail
  go_loopg [] (M.length / 64 - m.length / 64) (fun kq wr => ∃ j : Nat, kq = M.length / 64 - j ∧ j ≤ M.length / 64 ∧ Aside0 (WInv p w M j wr))
  case atStart => exact ⟨m.length / 64, rfl, by omega, ⟨HI0.out⟩⟩
  case round =>
    obtain ⟨j, hkq, hj, HI⟩ := hrel
    obtain ⟨vj, hsj, hrj, hapj⟩ := HI.out.st
    have HAPJ := Aside0.mk hapj
    clear hapj
    have hbl := blocks_length M j
    have g8 := st_rest hsj hbl
    by_cases hlt : j < M.length / 64
    · obtain ⟨A, n, c, e, hn, hnc, hc9, hsr, hob, hno⟩ := hrj
      rw [List.length_drop] at hn
      have hrj' : RdV p wr vj (M.drop (64 * j)) := ⟨A, n, c, e, by rw [List.length_drop]; exact hn, hnc, hc9, hsr, hob, hno⟩
      obtain ⟨ad, rfl⟩ : ∃ ad, A = some ad := by
        cases A with
        | none => have := hno rfl; omega
        | some ad => exact ⟨ad, rfl⟩
      subst e
      have hcells : ∀ (i : Nat) (x : Int), ((M.drop (64 * j)).take 64)[i]? = some x → wr.cell? (ad.add i) = some (.int .u8 x) := by
        intro i x hx
        have hi : i < 64 := by have := (List.getElem?_eq_some_iff.1 hx).1; rw [List.length_take] at this; omega
        rw [List.getElem?_take_of_lt hi] at hx
        rcases hsr with ⟨c2, e, _⟩ | ⟨ad2, c2, e, h2⟩
        · cases e
        · injection e with e1 e2 e3
          injection e1 with e1
          subst e1
          exact h2 i x hx
      have HC := Lib.hid (one_calls p (blocks M j) (.slice (some ad) n c) (M.length : Int) ad c ((M.drop (64 * j)).take 64) wr hbl hsj (by rw [List.length_take, List.length_drop]; omega) hcells)
      have HRJ := Aside0.mk hrj'
      have h64 : (64 : Int) ≤ (n : Int) := by omega
      have h64c : 64 ≤ c := by omega
      have h64n : 64 ≤ n := by omega
      have HSJ := Aside0.mk hsj
      have HBLJ := Aside0.mk hbl
      have HBLK := Aside0.mk (show oneF (blocks M j) ((M.drop (64 * j)).take 64) = blocks M (j + 1) from rfl)
      clear hrj' hcells hsj hbl hn hno hob hsr
      go_wp2_with fail
      refine HC.out.mono ?_
      rintro e w4 ⟨rfl, hk4, hs4⟩
      rw [HBLK.out] at hs4
      have g8c := st_rest hs4 (blocks_length M (j + 1))
      have f8c := blk_frozen hs4 8
      have HK4 := Aside0.mk hk4
      have HS4 := Aside0.mk hs4
      have hrc := (HRJ.out.keep hk4).cut 64 h64n (by omega)
      obtain ⟨D, hD⟩ : ∃ D, (if c = 64 then some ad else some ⟨ad.block, ad.off + 64, none⟩) = D := ⟨_, rfl⟩
      rw [hD, List.drop_drop] at hrc
      have HRC := Aside0.mk hrc
      have HNEW := Aside0.mk (show WInv p w M (j + 1) (w4.setCell ⟨p, 8, none⟩ (.slice D (n - 64) (c - 64))) from ⟨(HI.out.keep.trans hk4 (fun _ _ h => h)).setCell (p := ⟨p, 8, none⟩) (fun _ => rfl) _, _, by rw [← stC_rest _ (.slice (some ad) n c) _ _ (blocks_length M (j + 1))]; exact blk_set hs4 8 _, by
        have := hrc.keep (w1 := w4.setCell ⟨p, 8, none⟩ (.slice D (n - 64) (c - 64))) ((Keep.refl (fun i => i = p) w4).setCell (p := ⟨p, 8, none⟩) (fun _ => rfl) _)
        rw [show 64 * (j + 1) = 64 * j + 64 by omega]
        exact this, fun g hg h => by
        have hg2 : g < w.heap.size ∨ w4.heap.size ≤ g := by simpa using hg
        have h1 := HAPJ.out g (by have := hk4.size; omega) h
        rw [← hD]
        intro e
        apply h1
        by_cases hc : c = 64
        · rw [if_pos hc] at e; exact e
        · rw [if_neg hc] at e; exact e⟩)
      clear hk4 hs4 hrc g8
      go_wp2
      go_roundg (M.length / 64 - (j + 1))
      case rel => exact ⟨j + 1, rfl, by omega, HNEW⟩
      case measure => omega
    · have hje : j = M.length / 64 := by omega
      have hlen : (M.drop (64 * j)).length = M.length - 64 * j := List.length_drop ..
      obtain ⟨A, n, c, rfl, hn, hnc, hc9, hsr, hob, hno⟩ := hrj
      have h64 : (n : Int) < 64 := by omega
      have HAPF := Aside0.mk (show ∀ g, (g < w.heap.size ∨ wr.heap.size ≤ g) → Apart p w g → Apart p wr g from fun g hg h => ⟨_, _, _, blocks_length M j, hsj, HAPJ.out g hg h⟩)
      have HFIN := Aside0.mk (show IsH p M wr from ⟨_, by rw [← hje]; exact hsj, by rw [← hje]; exact ⟨A, n, c, rfl, hn, hnc, hc9, hsr, hob, hno⟩⟩)
      clear hsj hn hno hob hsr hlen
      go_wp2
      go_end0
      exact ⟨rfl, by rw [← HM.out]; exact HFIN.out, HI.out.keep, HAPF.out⟩
theorem RdV.of_row2 {p : Nat} {w : World} {base : Nat} {v : Value} {l : List Int} (h : w.ownsRow base 5 1 v l.length (nums .u8 l)) (hp : w.heap.size ≤ p) : RdV p w v l := by
  have hs := SrcB.of_row h
  have hlt := fun g hg => (h.lt g hg).2
  rcases h.2 with ⟨rfl, h0⟩ | ⟨g, cap, cur, rfl, hg, _, hn, hc, _⟩
  · exact ⟨none, 0, 0, rfl, by omega, by omega, by omega, hs, by simp [Value.ownBlock], fun _ => rfl⟩
  · refine ⟨_, _, _, rfl, rfl, hn, by unfold maxLen at hc; exact hc, hs, ?_, fun h => by cases h⟩
    intro e
    have := hlt p e
    omega
theorem copy_nil (w : World) : Calls Try.prog 16 #[.pointer none] w fun e w' => e = .returned (.pointer none) ∧ w = w' := by
  go_enter Try.func16, Try.ntmps16
  go_wp2
  go_ret
  exact ⟨rfl, rfl⟩
set_option maxRecDepth 100000 in
set_option maxHeartbeats 8000000 in
theorem copy_calls (p : Nat) (m : List Int) (w : World) (h : IsH p m w) :
    Calls Try.prog 16 #[.pointer (some ⟨p, 0, none⟩)] w fun e w' => ∃ q, e = .returned (.pointer (some ⟨q, 0, none⟩)) ∧ w.heap.size ≤ q ∧ IsH q m w' ∧ Below w.heap.size w w' := by
  obtain ⟨vr, hst, hrd⟩ := h
  obtain ⟨h0, h1, h2, h3, h4, h5, h6, h7, he⟩ := eight (blocks_length m (m.length / 64))
  obtain ⟨A, n, c, rfl, hn, hnc, hc9, hsr, hob, hno⟩ := hrd
  obtain ⟨vr, hvr⟩ : ∃ vr, vr = Value.slice A n c := ⟨_, rfl⟩
  have hl1 : (m.drop (64 * (m.length / 64))).length ≤ 1000000000 := by rw [List.length_drop]; omega
  rw [← hvr] at hst hsr
  have HC := Lib.hid (clone_calls vr (m.drop (64 * (m.length / 64))) w.drew hsr hl1)
  have g8 := st_rest hst (blocks_length m (m.length / 64))
  have g9 := st_n hst (blocks_length m (m.length / 64))
  have HE := Aside0.mk he
  rw [he] at hst
  have s0 : w.cell? ⟨p, 0, none⟩ = some (.int .u32 h0) := by rw [blk_cell hst]; rfl
  have s1 : w.cell? ⟨p, 1, none⟩ = some (.int .u32 h1) := by rw [blk_cell hst]; rfl
  have s2 : w.cell? ⟨p, 2, none⟩ = some (.int .u32 h2) := by rw [blk_cell hst]; rfl
  have s3 : w.cell? ⟨p, 3, none⟩ = some (.int .u32 h3) := by rw [blk_cell hst]; rfl
  have s4 : w.cell? ⟨p, 4, none⟩ = some (.int .u32 h4) := by rw [blk_cell hst]; rfl
  have s5 : w.cell? ⟨p, 5, none⟩ = some (.int .u32 h5) := by rw [blk_cell hst]; rfl
  have s6 : w.cell? ⟨p, 6, none⟩ = some (.int .u32 h6) := by rw [blk_cell hst]; rfl
  have s7 : w.cell? ⟨p, 7, none⟩ = some (.int .u32 h7) := by rw [blk_cell hst]; rfl
  have HST := Aside0.mk hst
  clear hst hsr hob hno hn hvr he hl1
  go_enter Try.func16, Try.ntmps16
  go_wp2_with fail
  refine start_ (n := 16) (S := fun w' => (w'.cell? ⟨p, 0, none⟩ = some (.int .u32 h0)) ∧ (w'.cell? ⟨p, 1, none⟩ = some (.int .u32 h1)) ∧ (w'.cell? ⟨p, 2, none⟩ = some (.int .u32 h2)) ∧ (w'.cell? ⟨p, 3, none⟩ = some (.int .u32 h3)) ∧ (w'.cell? ⟨p, 4, none⟩ = some (.int .u32 h4)) ∧ (w'.cell? ⟨p, 5, none⟩ = some (.int .u32 h5)) ∧ (w'.cell? ⟨p, 6, none⟩ = some (.int .u32 h6)) ∧ (w'.cell? ⟨p, 7, none⟩ = some (.int .u32 h7)) ∧ (w'.cell? ⟨p, 8, none⟩ = some vr) ∧ (w'.cell? ⟨p, 9, none⟩ = some (.int .u64 (m.length : Int)))) (ds := [14]) #[false, false, false, false, false, false, false, false, false, false, false, false, false, false, false, false] (by kernel_rfl) rfl rfl ⟨s0, s1, s2, s3, s4, s5, s6, s7, g8, g9⟩ (fun hHeld => ?_)
  refine pure_ (i := 0) (N := some 5) (v := ?_) (a' := ?_) #[true, false, false, false, false, false, false, false, false, false, false, false, false, false, false, false] rfl rfl (by kernel_rfl) (fun _ _ _ h => h) (Or.inl ⟨by rfl, ?_⟩) ?_ ?_
  rotate_left
  · intro w'
    go_simp
    with_reducible rfl
  rotate_left
  · simp only [Act.put, List.setIfInBounds_toArray, List.set_cons_zero, List.set_cons_succ, i64_w, i32_w]
    rfl
  refine pure_ (i := 1) (N := some 6) (v := ?_) (a' := ?_) #[true, true, false, false, false, false, false, false, false, false, false, false, false, false, false, false] rfl rfl (by kernel_rfl) (fun _ _ _ h => h) (Or.inl ⟨by rfl, ?_⟩) ?_ ?_
  rotate_left
  · intro w'
    go_simp
    with_reducible rfl
  rotate_left
  · simp only [Act.put, List.setIfInBounds_toArray, List.set_cons_zero, List.set_cons_succ, i64_w, i32_w]
    rfl
  refine pure_ (i := 2) (N := some 7) (v := ?_) (a' := ?_) #[true, true, true, false, false, false, false, false, false, false, false, false, false, false, false, false] rfl rfl (by kernel_rfl) (fun _ _ _ h => h) (Or.inl ⟨by rfl, ?_⟩) ?_ ?_
  rotate_left
  · intro w'
    go_simp
    with_reducible rfl
  rotate_left
  · simp only [Act.put, List.setIfInBounds_toArray, List.set_cons_zero, List.set_cons_succ, i64_w, i32_w]
    rfl
  refine pure_ (i := 4) (N := some 9) (v := ?_) (a' := ?_) #[true, true, true, false, true, false, false, false, false, false, false, false, false, false, false, false] rfl rfl (by kernel_rfl) (fun _ _ _ h => h) (Or.inl ⟨by rfl, ?_⟩) ?_ ?_
  rotate_left
  · intro w'
    go_simp
    with_reducible rfl
  rotate_left
  · simp only [Act.put, List.setIfInBounds_toArray, List.set_cons_zero, List.set_cons_succ, i64_w, i32_w]
    rfl
  refine pure_ (i := 5) (N := some 10) (v := ?_) (a' := ?_) #[true, true, true, false, true, true, false, false, false, false, false, false, false, false, false, false] rfl rfl (by kernel_rfl) (fun _ _ _ h => h) (Or.inl ⟨by rfl, ?_⟩) ?_ ?_
  rotate_left
  · intro w'
    go_simp
    with_reducible rfl
  rotate_left
  · simp only [Act.put, List.setIfInBounds_toArray, List.set_cons_zero, List.set_cons_succ, i64_w, i32_w]
    rfl
  refine pure_ (i := 6) (N := some 11) (v := ?_) (a' := ?_) #[true, true, true, false, true, true, true, false, false, false, false, false, false, false, false, false] rfl rfl (by kernel_rfl) (fun _ _ _ h => h) (Or.inl ⟨by rfl, ?_⟩) ?_ ?_
  rotate_left
  · intro w'
    go_simp
    with_reducible rfl
  rotate_left
  · simp only [Act.put, List.setIfInBounds_toArray, List.set_cons_zero, List.set_cons_succ, i64_w, i32_w]
    rfl
  refine pure_ (i := 9) (N := some 14) (v := ?_) (a' := ?_) #[true, true, true, false, true, true, true, false, false, true, false, false, false, false, false, false] rfl rfl (by kernel_rfl) (fun _ _ _ h => h) (Or.inl ⟨by rfl, ?_⟩) ?_ ?_
  rotate_left
  · intro w'
    go_simp
    with_reducible rfl
  rotate_left
  · simp only [Act.put, List.setIfInBounds_toArray, List.set_cons_zero, List.set_cons_succ, i64_w, i32_w]
    rfl
  refine pure_ (i := 10) (N := some 15) (v := ?_) (a' := ?_) #[true, true, true, false, true, true, true, false, false, true, true, false, false, false, false, false] rfl rfl (by kernel_rfl) (fun _ _ _ h => h) (Or.inl ⟨by rfl, ?_⟩) ?_ ?_
  rotate_left
  · intro w'
    go_simp
    with_reducible rfl
  rotate_left
  · simp only [Act.put, List.setIfInBounds_toArray, List.set_cons_zero, List.set_cons_succ, i64_w, i32_w]
    rfl
  refine pure_ (i := 11) (N := some 16) (v := ?_) (a' := ?_) #[true, true, true, false, true, true, true, false, false, true, true, true, false, false, false, false] rfl rfl (by kernel_rfl) (fun _ _ _ h => h) (Or.inl ⟨by rfl, ?_⟩) ?_ ?_
  rotate_left
  · intro w'
    go_simp
    with_reducible rfl
  rotate_left
  · simp only [Act.put, List.setIfInBounds_toArray, List.set_cons_zero, List.set_cons_succ, i64_w, i32_w]
    rfl
  refine take_ (i := 3) (N := some 8) (v := ?_) (a' := ?_) #[true, true, true, true, true, true, true, false, false, true, true, true, false, false, false, false] rfl rfl (by kernel_rfl) (fun _ _ _ h => h) (Or.inl ⟨by rfl, ?_⟩) hHeld ?_ ?_
  rotate_left
  · rintro w' ⟨s0, s1, s2, s3, s4, s5, s6, s7, s8, s9⟩
    go_simp
    with_reducible rfl
  rotate_left
  · simp only [Act.put, List.setIfInBounds_toArray, List.set_cons_zero, List.set_cons_succ, i64_w, i32_w]
    rfl
  refine take_ (i := 7) (N := some 12) (v := ?_) (a' := ?_) #[true, true, true, true, true, true, true, true, false, true, true, true, false, false, false, false] rfl rfl (by kernel_rfl) (fun _ _ _ h => h) (Or.inl ⟨by rfl, ?_⟩) hHeld ?_ ?_
  rotate_left
  · rintro w' ⟨s0, s1, s2, s3, s4, s5, s6, s7, s8, s9⟩
    go_simp
    with_reducible rfl
  rotate_left
  · simp only [Act.put, List.setIfInBounds_toArray, List.set_cons_zero, List.set_cons_succ, i64_w, i32_w]
    rfl
  refine take_ (i := 12) (N := some 17) (v := ?_) (a' := ?_) #[true, true, true, true, true, true, true, true, false, true, true, true, true, false, false, false] rfl rfl (by kernel_rfl) (fun _ _ _ h => h) (Or.inl ⟨by rfl, ?_⟩) hHeld ?_ ?_
  rotate_left
  · rintro w' ⟨s0, s1, s2, s3, s4, s5, s6, s7, s8, s9⟩
    go_simp
    with_reducible rfl
  rotate_left
  · simp only [Act.put, List.setIfInBounds_toArray, List.set_cons_zero, List.set_cons_succ, i64_w, i32_w]
    rfl
  refine one_ (i := 8) (N := some 13) #[true, true, true, true, true, true, true, true, true, true, true, true, true, false, false, false] rfl rfl (by kernel_rfl) (by decide) (fun K hK => ?_)
  refine goes_ Try.func28 (by kernel_rfl) rfl #[vr] (by rfl) rfl rfl (by simp only [List.map_toArray, List.map_cons, List.map_nil]; rfl) ?_
  with_reducible refine (HC.out).mono ?_
  rintro e w2 ⟨v2, rfl, hrow, hb2⟩
  have HB2 := Aside0.mk (show Below w.heap.size w w2 from ⟨hb2.os, hb2.tape, hb2.output, hb2.size, hb2.block⟩)
  obtain ⟨A2, c2, e2⟩ := row_form hrow
  obtain ⟨n2, hn2⟩ : ∃ x, x = (m.drop (64 * (m.length / 64))).length := ⟨_, rfl⟩
  rw [← hn2] at e2
  subst e2
  have HROW := Aside0.mk hrow
  have t0 := bread HB2.out s0
  have t1 := bread HB2.out s1
  have t2 := bread HB2.out s2
  have t3 := bread HB2.out s3
  have t4 := bread HB2.out s4
  have t5 := bread HB2.out s5
  have t6 := bread HB2.out s6
  have t7 := bread HB2.out s7
  have t8 := bread HB2.out g8
  have t9 := bread HB2.out g9
  clear hrow hb2 hn2
  refine ⟨_, rfl, ?_⟩
  refine hK.out _ _ ⟨t0, t1, t2, t3, t4, t5, t6, t7, t8, t9⟩ (fun hHeld => ?_)
  clear hK K
  refine norm_ (a' := ?_) ?_ ?_
  rotate_left
  · show Act.put _ (some 13) _ = _
    simp only [Act.put, List.setIfInBounds_toArray, List.set_cons_zero, List.set_cons_succ, i64_w, i32_w]
    rfl
  refine pure_ (i := 13) (N := some 18) (v := ?_) (a' := ?_) #[true, true, true, true, true, true, true, true, true, true, true, true, true, true, false, false] rfl rfl (by kernel_rfl) (fun _ _ _ h => h) (Or.inl ⟨by rfl, ?_⟩) ?_ ?_
  rotate_left
  · intro w'
    go_simp
    with_reducible rfl
  rotate_left
  · simp only [Act.put, List.setIfInBounds_toArray, List.set_cons_zero, List.set_cons_succ, i64_w, i32_w]
    rfl
  refine last_ (i := 14) (N := some 19) #[true, true, true, true, true, true, true, true, true, true, true, true, true, true, true, false] rfl rfl (by kernel_rfl) (by decide) (fun K hK => ?_)
  refine value_ (w1 := ?_) (v := ?_) (by rfl) rfl ?_ ?_
  rotate_left 2
  · go_simp
    constructor
    · rfl
    · rfl
  refine hK.out _ _ ?_
  clear hK K
  refine norm_ (a' := ?_) ?_ ?_
  rotate_left
  · show Act.put _ (some 19) _ = _
    simp only [Act.put, List.setIfInBounds_toArray, List.set_cons_zero, List.set_cons_succ, i64_w, i32_w]
    rfl
  refine pure_ (i := 15) (N := some 2) (v := ?_) (a' := ?_) #[true, true, true, true, true, true, true, true, true, true, true, true, true, true, true, true] rfl rfl (by kernel_rfl) (fun _ _ _ h => h) (Or.inl ⟨by rfl, ?_⟩) ?_ ?_
  rotate_left
  · intro w'
    go_simp
    with_reducible rfl
  rotate_left
  · simp only [Act.put, List.setIfInBounds_toArray, List.set_cons_zero, List.set_cons_succ, i64_w, i32_w]
    rfl
  refine done_ (by kernel_rfl) ?_
  go_wp2
  go_ret
  refine ⟨_, rfl, ?_, ⟨.slice A2 n2 c2, ?_, ?_⟩, ?_⟩
  · have := HB2.out.size; simp; omega
  · rw [HE.out]; exact blk_new w2 _
  · exact (RdV.of_row2 HROW.out (Nat.le_refl _)).below ((Below.refl _ _).alloc (Nat.le_refl _) _)
  · exact (HB2.out.alloc HB2.out.size _)
end Go.Proofs.Ytjlnbklendkflaa
