/- chunk.next: the point behind one, walked. -/
import Derived.Test.YtfanomllfgoakaaChunkB
set_option linter.unusedVariables false
set_option linter.unusedSimpArgs false
namespace Go.Proofs.Ytfanomllfgoakaa
open Go.RowKit Go.Proofs.YtfanomllfgoakaaW.PrintWords Go.Proofs.YtfanomllfgoakaaW.PrintLast Go.Proofs.YtfanomllfgoakaaW.PrintMore
open Go.Proofs.Ytfanomllfgoakaa.BitsMath Go.Proofs.Ytfanomllfgoakaa.ChunkMath

theorem RStep.drew {p : Nat} {l : List Int} {w w1 : World} {m : Nat} (h : RStep p l w w1 m) : RStep p l w w1.drew m := ⟨h.is, h.keep.drew, h.foot⟩
def getN (r : Except Nat (Nat × List Bool)) : Nat := match r with | .error c => 0 | .ok (x, _) => x
def getE (r : Except Nat (Nat × List Bool)) : Int := match r with | .error c => (c : Int) | .ok (x, _) => 0
theorem getR_is (r : Except Nat (Nat × List Bool)) : getR r = ((getN r : Int), getE r) := by cases r <;> rfl
theorem get_err {s : List Bool} {c : Nat} (h : ChunkMath.get s = .error c) : c = 2 ∨ c = 4 := by
  unfold ChunkMath.get ChunkMath.take at h
  split at h
  · rename_i e h1
    split at h1
    · injection h1 with h1; injection h with h; omega
    · cases h1
  · split at h
    · injection h with h; omega
    · split at h
      · rename_i e h1
        split at h1
        · injection h1 with h1; injection h with h; omega
        · cases h1
      · split at h
        · cases h
        · injection h with h; omega
theorem getN_lt (l : List Int) (m : Nat) : getN (ChunkMath.get (bs_ l m)) < 18446744073709551616 := by
  cases h : ChunkMath.get (bs_ l m) with
  | error c => show 0 < _; decide
  | ok x => obtain ⟨x, s⟩ := x; exact (ChunkMath.get_ok h).2
theorem wadd (v d : Int) (hv : I64 v) (hd : I64 d) : wrap64 (IntKind.u64.wrap (IntKind.u64.wrap v + IntKind.u64.wrap d)) = w64 (v + d) := by
  unfold I64 at hv hd
  rw [u64w, u64w, u64w]; unfold wrap64 w64; omega
set_option maxHeartbeats 4000000 in
theorem next_calls (p n : Nat) (a v : Int) (l : List Int) (w : World) (h : IsR p l n w) (hl : l.length ≤ 1000000) (hb : ∀ x ∈ l, 0 ≤ x ∧ x ≤ 255) (hn : n ≤ 8 * l.length) (ha0 : 0 ≤ a) (ha1 : a ≤ 1099511627776) (hv : I64 v) :
    Calls Try.prog 37 #[.pointer (some ⟨p, 0, none⟩), .agg #[.int .i64 a, .int .i64 v]] w fun e w' => ∃ x y c, e = .returned (.tuple #[.agg #[.int .i64 x, .int .i64 y], .int .i64 c]) ∧ Tells (ChunkMath.next ⟨a, v⟩ (bs_ l n)) x y c ∧ ∃ m, Lands l m (ChunkMath.next ⟨a, v⟩ (bs_ l n)) ∧ RStep p l w w' m := by
  have HR := Aside0.mk h
  have HB := Aside0.mk hb
  have HV := Aside0.mk hv
  have hR0 := (RStep.start h (Obj.cells #[.int .i64 a, .int .i64 v] 68))
  have hR1 := hR0.trans (RStep.start hR0.is (Obj.cells #[.int .i64 0, .int .i64 0] 68))
  have HR1 := Aside0.mk hR1
  have hpz : p < w.heap.size := h.foot_lt (.inl rfl)
  have hcall := cget_calls p n l _ hR1.is hl hb hn
  rw [getR_is] at hcall
  have hv0 := hv.1
  have hv1 := hv.2
  cases hg : ChunkMath.get (bs_ l n) with
  | error c =>
    have hc := get_err hg
    rw [hg] at hcall
    simp only [getN, getE] at hcall
    have HC := Lib.hid hcall
    have HG := Aside0.mk (show ChunkMath.next ⟨a, v⟩ (bs_ l n) = .error c by unfold ChunkMath.next; rw [hg])
    clear h hb hv hR0 hR1 hcall hg
    have hne : ((c : Int) != 0) = true := by simp; omega
    clear hc
    go_enter Try.func37, Try.ntmps37
    go_wp2_with fail
    refine HC.out.mono ?_
    rintro e w1 ⟨rfl, m, hm, h1⟩
    have fr : w1.heap[w.heap.size + 1]? = some (.cells #[.int .i64 0, .int .i64 0] 68 (0, 0)) := h1.keep.blk (by have := blk_new (w.alloc (Obj.cells #[.int .i64 a, .int .i64 v] 68)) (Obj.cells #[.int .i64 0, .int .i64 0] 68); simpa using this) (by omega)
    have cr0 : w1.cell? ⟨w.heap.size + 1, 0, none⟩ = some (.int .i64 0) := blk_cell fr 0
    have cr1 : w1.cell? ⟨w.heap.size + 1, 1, none⟩ = some (.int .i64 0) := blk_cell fr 1
    have fr0 : w1.frozen? ⟨w.heap.size + 1, 0, none⟩ = false := blk_frozen fr 0
    have fr1 : w1.frozen? ⟨w.heap.size + 1, 1, none⟩ = false := blk_frozen fr 1
    have H1 := Aside0.mk (HR1.out.trans h1)
    have HM := Aside0.mk hm.1
    clear h1 fr hm
    go_wp2
    refine bodyPost_ret (v := .tuple #[.agg #[.int .i64 0, .int .i64 0], .int .i64 c]) (by simp [results, Try.results37, go_sem, cr0, cr1]) rfl ⟨0, 0, c, rfl, Tells.err HG.out, m, ⟨HM.out, fun _ _ h => by rw [HG.out] at h; cases h⟩, ?_⟩
    exact (H1.out.setNew HR.out (Nat.le_succ _) _).setNew HR.out (Nat.le_succ _) _
  | ok r =>
    obtain ⟨st, s1⟩ := r
    rw [hg] at hcall
    simp only [getN, getE] at hcall
    have HC := Lib.hid hcall
    have HG0 := Aside0.mk hg
    have hst := (ChunkMath.get_ok hg).2
    clear h hb hv hR0 hR1 hcall hg
    by_cases c1 : 1099511627776 - a ≤ (st : Int)
    · have d1 : decide (1099511627776 - a ≤ (st : Int)) = true := decide_eq_true c1
      have HG := Aside0.mk (show ChunkMath.next ⟨a, v⟩ (bs_ l n) = .error 3 by unfold ChunkMath.next; rw [HG0.out]; simp only; exact if_pos c1)
      clear c1
      go_enter Try.func37, Try.ntmps37
      go_wp2_with fail
      refine HC.out.mono ?_
      rintro e w1 ⟨rfl, m, hm, h1⟩
      have fr : w1.heap[w.heap.size + 1]? = some (.cells #[.int .i64 0, .int .i64 0] 68 (0, 0)) := h1.keep.blk (by have := blk_new (w.alloc (Obj.cells #[.int .i64 a, .int .i64 v] 68)) (Obj.cells #[.int .i64 0, .int .i64 0] 68); simpa using this) (by omega)
      have ca0 : w1.cell? ⟨w.heap.size, 0, none⟩ = some (.int .i64 a) := h1.keep.cell (p := ⟨w.heap.size, 0, none⟩) (by simp) (by simp; omega)
      have cr0 : w1.cell? ⟨w.heap.size + 1, 0, none⟩ = some (.int .i64 0) := blk_cell fr 0
      have cr1 : w1.cell? ⟨w.heap.size + 1, 1, none⟩ = some (.int .i64 0) := blk_cell fr 1
      have fr0 : w1.frozen? ⟨w.heap.size + 1, 0, none⟩ = false := blk_frozen fr 0
      have fr1 : w1.frozen? ⟨w.heap.size + 1, 1, none⟩ = false := blk_frozen fr 1
      have H1 := Aside0.mk (HR1.out.trans h1)
      have HM := Aside0.mk hm.1
      clear h1 fr hm
      go_wp2
      refine bodyPost_ret (v := .tuple #[.agg #[.int .i64 0, .int .i64 0], .int .i64 3]) (by simp [results, Try.results37, go_sem, cr0, cr1]) rfl ⟨0, 0, 3, rfl, Tells.err (k := 3) HG.out, m, ⟨HM.out, fun _ _ h => by rw [HG.out] at h; cases h⟩, ?_⟩
      exact (H1.out.setNew HR.out (Nat.le_succ _) _).setNew HR.out (Nat.le_succ _) _
    · have d1 : decide (1099511627776 - a ≤ (st : Int)) = false := decide_eq_false c1
      have hst2 : (st : Int) < 1099511627776 - a := by omega
      have HG1 := Aside0.mk (show ChunkMath.next ⟨a, v⟩ (bs_ l n) = match ChunkMath.get s1 with | .error e => .error e | .ok (d, s2) => .ok (⟨a + st + 1, w64 (v + zag d)⟩, s2) by unfold ChunkMath.next; rw [HG0.out]; simp only; exact if_neg c1)
      clear c1
      go_enter Try.func37, Try.ntmps37
      go_wp2_with fail
      refine HC.out.mono ?_
      rintro e w1 ⟨rfl, m, hm, h1⟩
      have hr0 : w1.heap[w.heap.size]? = some (.cells #[.int .i64 a, .int .i64 v] 68 (0, 0)) := h1.keep.blk (blk_alloc (blk_new w _) _) (by omega)
      have fr : w1.heap[w.heap.size + 1]? = some (.cells #[.int .i64 0, .int .i64 0] 68 (0, 0)) := h1.keep.blk (by have := blk_new (w.alloc (Obj.cells #[.int .i64 a, .int .i64 v] 68)) (Obj.cells #[.int .i64 0, .int .i64 0] 68); simpa using this) (by omega)
      have ca0 : w1.cell? ⟨w.heap.size, 0, none⟩ = some (.int .i64 a) := blk_cell hr0 0
      have HM := Aside0.mk hm
      have HBL0 := Aside0.mk hr0
      have HBL1 := Aside0.mk fr
      have H1 := Aside0.mk (HR1.out.trans h1)
      have hm8 := hm.1
      have hsm := hm.2 _ _ rfl
      have hcall := cget_calls p m l w1 h1.is hl HB.out hm8
      rw [getR_is, hsm] at hcall
      have HC2 := Lib.hid hcall
      have HD := Aside0.mk (show getN (ChunkMath.get s1) < 18446744073709551616 by rw [← hsm]; exact getN_lt l m)
      clear h1 fr hm hr0 hcall hsm hm8
      go_wp2_with fail
      refine HC2.out.mono ?_
      rintro e w2 ⟨rfl, m2, hm2, h2⟩
      have hk0 := h2.keep.blk HBL0.out (by omega)
      have hk1 := h2.keep.blk HBL1.out (by omega)
      have H2 := Aside0.mk (H1.out.trans h2)
      have HM2 := Aside0.mk hm2
      have ca0 : w2.cell? ⟨w.heap.size, 0, none⟩ = some (.int .i64 a) := blk_cell hk0 0
      have ca1 : w2.cell? ⟨w.heap.size, 1, none⟩ = some (.int .i64 v) := blk_cell hk0 1
      have cr0 : w2.cell? ⟨w.heap.size + 1, 0, none⟩ = some (.int .i64 0) := blk_cell hk1 0
      have cr1 : w2.cell? ⟨w.heap.size + 1, 1, none⟩ = some (.int .i64 0) := blk_cell hk1 1
      have fr0 : w2.frozen? ⟨w.heap.size + 1, 0, none⟩ = false := blk_frozen hk1 0
      have fr1 : w2.frozen? ⟨w.heap.size + 1, 1, none⟩ = false := blk_frozen hk1 1
      clear h2 hk0 hk1 hm2
      obtain ⟨D, hD⟩ : ∃ D, D = getN (ChunkMath.get s1) := ⟨_, rfl⟩
      obtain ⟨E, hE⟩ : ∃ E, E = getE (ChunkMath.get s1) := ⟨_, rfl⟩
      rw [← hD] at HD ⊢
      rw [← hE]
      have HDE := Aside0.mk hD
      have HEE := Aside0.mk hE
      clear hD hE
      go_wp2_with fail
      refine start_ (n := 18) (S := fun w' => (w'.cell? ⟨w.heap.size, 0, none⟩ = some (.int .i64 a)) ∧ (w'.cell? ⟨w.heap.size, 1, none⟩ = some (.int .i64 v))) (ds := []) #[false, false, false, false, false, false, false, false, false, false, false, false, false, false, false, false, false, false] (by kernel_rfl) rfl rfl ⟨ca0, ca1⟩ (fun hHeld => ?_)
      refine pure_ (i := 0) (N := some 32) (v := ?_) (a' := ?_) #[true, false, false, false, false, false, false, false, false, false, false, false, false, false, false, false, false, false] rfl rfl (by kernel_rfl) (fun _ _ _ h => h) (Or.inl ⟨by rfl, ?_⟩) ?_ ?_
      rotate_left
      · intro w'
        go_simp
        with_reducible rfl
      rotate_left
      · simp only [Act.put, List.setIfInBounds_toArray, List.set_cons_zero, List.set_cons_succ, i64_w, i32_w]
        rfl
      refine pure_ (i := 2) (N := some 34) (v := ?_) (a' := ?_) #[true, false, true, false, false, false, false, false, false, false, false, false, false, false, false, false, false, false] rfl rfl (by kernel_rfl) (fun _ _ _ h => h) (Or.inl ⟨by rfl, ?_⟩) ?_ ?_
      rotate_left
      · intro w'
        go_simp
        with_reducible rfl
      rotate_left
      · simp only [Act.put, List.setIfInBounds_toArray, List.set_cons_zero, List.set_cons_succ, i64_w, i32_w]
        rfl
      refine pure_ (i := 3) (N := some 35) (v := ?_) (a' := ?_) #[true, false, true, true, false, false, false, false, false, false, false, false, false, false, false, false, false, false] rfl rfl (by kernel_rfl) (fun _ _ _ h => h) (Or.inl ⟨by rfl, ?_⟩) ?_ ?_
      rotate_left
      · intro w'
        go_simp
        with_reducible rfl
      rotate_left
      · simp only [Act.put, List.setIfInBounds_toArray, List.set_cons_zero, List.set_cons_succ, i64_w, i32_w]
        rfl
      refine pure_ (i := 6) (N := some 38) (v := ?_) (a' := ?_) #[true, false, true, true, false, false, true, false, false, false, false, false, false, false, false, false, false, false] rfl rfl (by kernel_rfl) (fun _ _ _ h => h) (Or.inl ⟨by rfl, ?_⟩) ?_ ?_
      rotate_left
      · intro w'
        go_simp
        with_reducible rfl
      rotate_left
      · simp only [Act.put, List.setIfInBounds_toArray, List.set_cons_zero, List.set_cons_succ, i64_w, i32_w]
        rfl
      refine pure_ (i := 9) (N := some 41) (v := ?_) (a' := ?_) #[true, false, true, true, false, false, true, false, false, true, false, false, false, false, false, false, false, false] rfl rfl (by kernel_rfl) (fun _ _ _ h => h) (Or.inl ⟨by rfl, ?_⟩) ?_ ?_
      rotate_left
      · intro w'
        go_simp
        with_reducible rfl
      rotate_left
      · simp only [Act.put, List.setIfInBounds_toArray, List.set_cons_zero, List.set_cons_succ, i64_w, i32_w]
        rfl
      refine pure_ (i := 15) (N := some 47) (v := ?_) (a' := ?_) #[true, false, true, true, false, false, true, false, false, true, false, false, false, false, false, true, false, false] rfl rfl (by kernel_rfl) (fun _ _ _ h => h) (Or.inl ⟨by rfl, ?_⟩) ?_ ?_
      rotate_left
      · intro w'
        go_simp
        with_reducible rfl
      rotate_left
      · simp only [Act.put, List.setIfInBounds_toArray, List.set_cons_zero, List.set_cons_succ, i64_w, i32_w]
        rfl
      refine take_ (i := 1) (N := some 33) (v := ?_) (a' := ?_) #[true, true, true, true, false, false, true, false, false, true, false, false, false, false, false, true, false, false] rfl rfl (by kernel_rfl) (fun _ _ _ h => h) (Or.inl ⟨by rfl, ?_⟩) hHeld ?_ ?_
      rotate_left
      · rintro w' ⟨s0, s1⟩
        go_simp
        with_reducible rfl
      rotate_left
      · simp only [Act.put, List.setIfInBounds_toArray, List.set_cons_zero, List.set_cons_succ, i64_w, i32_w]
        rfl
      refine pure_ (i := 4) (N := some 36) (v := ?_) (a' := ?_) #[true, true, true, true, true, false, true, false, false, true, false, false, false, false, false, true, false, false] rfl rfl (by kernel_rfl) (fun _ _ _ h => h) (Or.inl ⟨by rfl, ?_⟩) ?_ ?_
      rotate_left
      · intro w'
        go_simp
        with_reducible rfl
      rotate_left
      · simp only [Act.put, List.setIfInBounds_toArray, List.set_cons_zero, List.set_cons_succ, i64_w, i32_w]
        rfl
      refine pure_ (i := 5) (N := some 37) (v := ?_) (a' := ?_) #[true, true, true, true, true, true, true, false, false, true, false, false, false, false, false, true, false, false] rfl rfl (by kernel_rfl) (fun _ _ _ h => h) (Or.inl ⟨by rfl, ?_⟩) ?_ ?_
      rotate_left
      · intro w'
        go_simp
        with_reducible rfl
      rotate_left
      · simp only [Act.put, List.setIfInBounds_toArray, List.set_cons_zero, List.set_cons_succ, i64_w, i32_w]
        rfl
      refine take_ (i := 7) (N := some 39) (v := ?_) (a' := ?_) #[true, true, true, true, true, true, true, true, false, true, false, false, false, false, false, true, false, false] rfl rfl (by kernel_rfl) (fun _ _ _ h => h) (Or.inl ⟨by rfl, ?_⟩) hHeld ?_ ?_
      rotate_left
      · rintro w' ⟨s0, s1⟩
        go_simp
        with_reducible rfl
      rotate_left
      · simp only [Act.put, List.setIfInBounds_toArray, List.set_cons_zero, List.set_cons_succ, i64_w, i32_w]
        rfl
      refine pure_ (i := 8) (N := some 40) (v := ?_) (a' := ?_) #[true, true, true, true, true, true, true, true, true, true, false, false, false, false, false, true, false, false] rfl rfl (by kernel_rfl) (fun _ _ _ h => h) (Or.inl ⟨by rfl, ?_⟩) ?_ ?_
      rotate_left
      · intro w'
        go_simp
        with_reducible rfl
      rotate_left
      · simp only [Act.put, List.setIfInBounds_toArray, List.set_cons_zero, List.set_cons_succ, i64_w, i32_w]
        rfl
      refine one_ (i := 10) (N := some 42) #[true, true, true, true, true, true, true, true, true, true, true, false, false, false, false, true, false, false] rfl rfl (by kernel_rfl) (by decide) (fun K hK => ?_)
      refine goes_ Try.func46 (by kernel_rfl) rfl #[.int .u64 (D : Int)] (by rfl) rfl rfl (by simp only [List.map_toArray, List.map_cons, List.map_nil]; rfl) ?_
      with_reducible refine (nunfold_calls D _ HD.out).mono ?_
      rintro e w' ⟨rfl, rfl⟩
      refine ⟨_, rfl, ?_⟩
      refine hK.out _ _ ⟨hHeld.1, hHeld.2⟩ (fun hHeld => ?_)
      clear hK K
      refine norm_ (a' := ?_) ?_ ?_
      rotate_left
      · show Act.put _ (some 42) _ = _
        simp only [Act.put, List.setIfInBounds_toArray, List.set_cons_zero, List.set_cons_succ, i64_w, i32_w]
        rfl
      refine pure_ (i := 11) (N := some 43) (v := ?_) (a' := ?_) #[true, true, true, true, true, true, true, true, true, true, true, true, false, false, false, true, false, false] rfl rfl (by kernel_rfl) (fun _ _ _ h => h) (Or.inl ⟨by rfl, ?_⟩) ?_ ?_
      rotate_left
      · intro w'
        go_simp
        with_reducible rfl
      rotate_left
      · simp only [Act.put, List.setIfInBounds_toArray, List.set_cons_zero, List.set_cons_succ, i64_w, i32_w]
        rfl
      refine pure_ (i := 12) (N := some 44) (v := ?_) (a' := ?_) #[true, true, true, true, true, true, true, true, true, true, true, true, true, false, false, true, false, false] rfl rfl (by kernel_rfl) (fun _ _ _ h => h) (Or.inl ⟨by rfl, ?_⟩) ?_ ?_
      rotate_left
      · intro w'
        go_simp
        with_reducible rfl
      rotate_left
      · simp only [Act.put, List.setIfInBounds_toArray, List.set_cons_zero, List.set_cons_succ, i64_w, i32_w]
        rfl
      refine pure_ (i := 13) (N := some 45) (v := ?_) (a' := ?_) #[true, true, true, true, true, true, true, true, true, true, true, true, true, true, false, true, false, false] rfl rfl (by kernel_rfl) (fun _ _ _ h => h) (Or.inl ⟨by rfl, ?_⟩) ?_ ?_
      rotate_left
      · intro w'
        go_simp
        with_reducible rfl
      rotate_left
      · simp only [Act.put, List.setIfInBounds_toArray, List.set_cons_zero, List.set_cons_succ, i64_w, i32_w]
        rfl
      refine pure_ (i := 14) (N := some 46) (v := ?_) (a' := ?_) #[true, true, true, true, true, true, true, true, true, true, true, true, true, true, true, true, false, false] rfl rfl (by kernel_rfl) (fun _ _ _ h => h) (Or.inl ⟨by rfl, ?_⟩) ?_ ?_
      rotate_left
      · intro w'
        go_simp
        with_reducible rfl
      rotate_left
      · simp only [Act.put, List.setIfInBounds_toArray, List.set_cons_zero, List.set_cons_succ, i64_w, i32_w]
        rfl
      refine one_ (i := 16) (N := none) #[true, true, true, true, true, true, true, true, true, true, true, true, true, true, true, true, true, false] rfl rfl (by kernel_rfl) (by decide) (fun K hK => ?_)
      refine skip_ (w1 := ?_) (by rfl) rfl ?_ ?_
      rotate_left
      · go_simp
        rfl
      refine hK.out _ _ ⟨(by go_simp), (by go_simp)⟩ (fun hHeld => ?_)
      clear hK K
      refine pure_ (i := 17) (N := some 5) (v := ?_) (a' := ?_) #[true, true, true, true, true, true, true, true, true, true, true, true, true, true, true, true, true, true] rfl rfl (by kernel_rfl) (fun _ _ _ h => h) (Or.inl ⟨by rfl, ?_⟩) ?_ ?_
      rotate_left
      · intro w'
        go_simp
        with_reducible rfl
      rotate_left
      · simp only [Act.put, List.setIfInBounds_toArray, List.set_cons_zero, List.set_cons_succ, i64_w, i32_w]
        rfl
      refine done_ (by kernel_rfl) ?_
      go_wp2
      have ex : wrap64 (wrap64 (a + wrap64 (st : Int)) + 1) = a + st + 1 := by unfold wrap64; omega
      have ey := wadd v (zag D) HV.out (zag_in D HD.out)
      refine bodyPost_ret (v := .tuple #[.agg #[.int .i64 (wrap64 (wrap64 (a + wrap64 (st : Int)) + 1)), .int .i64 (wrap64 (IntKind.u64.wrap (IntKind.u64.wrap v + IntKind.u64.wrap (zag D))))], .int .i64 E]) (by simp [results, Try.results37, go_sem, cr0, cr1]) rfl ⟨_, _, E, rfl, ?_, m2, ⟨HM2.out.1, ?_⟩, ?_⟩
      · rw [ex, ey, HG1.out]
        cases hg2 : ChunkMath.get s1 with
        | error c => show E = (c : Int); rw [HEE.out, hg2]; rfl
        | ok r =>
          obtain ⟨d, s2⟩ := r
          refine ⟨rfl, ?_, ?_⟩
          · show w64 (v + zag D) = w64 (v + zag d)
            rw [HDE.out, hg2]; rfl
          · rw [HEE.out, hg2]; rfl
      · intro x s h
        rw [HG1.out] at h
        cases hg2 : ChunkMath.get s1 with
        | error c => rw [hg2] at h; cases h
        | ok r =>
          obtain ⟨d, s2⟩ := r
          rw [hg2] at h
          injection h with h
          injection h with _ h
          rw [← h]
          exact HM2.out.2 _ _ hg2
      · first | exact (H2.out.drew.setNew HR.out (Nat.le_succ _) _).setNew HR.out (Nat.le_succ _) _ | (trace_state; exact (H2.out.drew.setNew HR.out (Nat.le_succ _) _).setNew HR.out (Nat.le_succ _) _)
end Go.Proofs.Ytfanomllfgoakaa
