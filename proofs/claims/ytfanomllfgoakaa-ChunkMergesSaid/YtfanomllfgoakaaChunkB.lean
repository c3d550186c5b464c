/- chunk.get, first, next: what a reader's bits tell, walked. -/
import Derived.Test.YtfanomllfgoakaaChunkA
set_option linter.unusedVariables false
set_option linter.unusedSimpArgs false
namespace Go.Proofs.Ytfanomllfgoakaa
open Go.RowKit Go.Proofs.YtfanomllfgoakaaW.PrintWords Go.Proofs.YtfanomllfgoakaaW.PrintLast Go.Proofs.YtfanomllfgoakaaW.PrintMore
open Go.Proofs.Ytfanomllfgoakaa.BitsMath Go.Proofs.Ytfanomllfgoakaa.ChunkMath

theorem bs_length (l : List Int) (n : Nat) : (bs_ l n).length = 8 * l.length - n := by unfold bs_; rw [List.length_drop, unpack_length]
theorem bs_drop (l : List Int) (n k : Nat) : bs_ l (n + k) = (bs_ l n).drop k := by unfold bs_; rw [List.drop_drop]
theorem take_short {k : Nat} {s : List Bool} (h : s.length < k) : ChunkMath.take k s = .error 4 := by unfold ChunkMath.take; rw [if_pos h]
theorem take_long {k : Nat} {s : List Bool} (h : k ≤ s.length) : ChunkMath.take k s = .ok (val (s.take k), s.drop k) := by unfold ChunkMath.take; rw [if_neg (by omega)]
def getR (r : Except Nat (Nat × List Bool)) : Int × Int := match r with | .error c => (0, (c : Int)) | .ok (x, _) => ((x : Int), 0)
def Lands {α : Type} (l : List Int) (m : Nat) (r : Except Nat (α × List Bool)) : Prop := m ≤ 8 * l.length ∧ ∀ x s, r = .ok (x, s) → bs_ l m = s
set_option maxHeartbeats 2000000 in
theorem cget_calls (p n : Nat) (l : List Int) (w : World) (h : IsR p l n w) (hl : l.length ≤ 1000000) (hb : ∀ x ∈ l, 0 ≤ x ∧ x ≤ 255) (hn : n ≤ 8 * l.length) :
    Calls Try.prog 47 #[.pointer (some ⟨p, 0, none⟩)] w fun e w' => e = .returned (.tuple #[.int .u64 (getR (ChunkMath.get (bs_ l n))).1, .int .i64 (getR (ChunkMath.get (bs_ l n))).2]) ∧ ∃ m, Lands l m (ChunkMath.get (bs_ l n)) ∧ RStep p l w w' m := by
  have HR := Aside0.mk h
  have HB := Aside0.mk hb
  have hlen := bs_length l n
  clear h hb
  by_cases c1 : (bs_ l n).length < 7
  · have HG := Aside0.mk (show ChunkMath.get (bs_ l n) = .error 4 by unfold ChunkMath.get; rw [take_short c1])
    have hcall := get_short p n l 7 w HR.out (by omega) hn (by omega) (by omega) (by omega)
    have HC := Lib.hid hcall
    clear hcall hlen c1
    go_enter Try.func47, Try.ntmps47
    go_wp2_with fail
    refine HC.out.mono ?_
    rintro e w1 ⟨rfl, k1, rfl⟩
    go_wp2
    go_ret2
    rw [HG.out]
    exact ⟨rfl, n, ⟨hn, fun _ _ h => by cases h⟩, (RStep.refl HR.out).drewN _⟩
  · have hT := take_long (k := 7) (s := bs_ l n) (by omega)
    obtain ⟨N, hN⟩ : ∃ N, N = val ((bs_ l n).take 7) := ⟨_, rfl⟩
    have hcall := get_ok p n l 7 w HR.out (by omega) HB.out hn (by omega) (by omega) (by omega)
    rw [show (7 : Int).toNat = 7 from rfl, ← hN] at hcall
    rw [← hN, ← bs_drop] at hT
    have HC := Lib.hid hcall
    have HT := Aside0.mk hT
    have hN1 : N < 128 := by rw [hN]; exact val_lt 7 _ (by rw [List.length_take]; omega)
    have hlen7 := bs_length l (n + 7)
    have hn7 : n + 7 ≤ 8 * l.length := by omega
    clear hcall hT hN
    by_cases c2 : 64 < N
    · have HG := Aside0.mk (show ChunkMath.get (bs_ l n) = .error 2 by unfold ChunkMath.get; rw [HT.out]; simp only; rw [if_pos c2])
      clear hlen hlen7 c1
      go_enter Try.func47, Try.ntmps47
      go_wp2_with fail
      refine HC.out.mono ?_
      rintro e w1 ⟨rfl, h1⟩
      have H1 := Aside0.mk h1
      clear h1
      go_wp2
      go_ret2
      rw [HG.out]
      exact ⟨rfl, n + 7, ⟨hn7, fun _ _ h => by cases h⟩, H1.out⟩
    · by_cases c3 : (bs_ l (n + 7)).length < N
      · have HG := Aside0.mk (show ChunkMath.get (bs_ l n) = .error 4 by unfold ChunkMath.get; rw [HT.out]; simp only; rw [if_neg c2, take_short c3])
        have hlt : 8 * (l.length : Int) - ((n + 7 : Nat) : Int) < (N : Int) := by omega
        have HLT := Aside0.mk hlt
        clear hlen hlen7 c1 c3 hlt
        go_enter Try.func47, Try.ntmps47
        go_wp2_with fail
        refine HC.out.mono ?_
        rintro e w1 ⟨rfl, h1⟩
        have H1 := Aside0.mk h1
        clear h1
        have hcall := get_short p (n + 7) l (N : Int) w1 H1.out.is (by omega) hn7 (by omega) (by omega) HLT.out
        have HC2 := Lib.hid hcall
        clear hcall
        go_wp2_with fail
        refine HC2.out.mono ?_
        rintro e w2 ⟨rfl, k2, rfl⟩
        go_wp2
        go_ret2
        rw [HG.out]
        exact ⟨rfl, n + 7, ⟨hn7, fun _ _ h => by cases h⟩, H1.out.drewN _⟩
      · have hT2 := take_long (k := N) (s := bs_ l (n + 7)) (by omega)
        have hX64 : val ((bs_ l (n + 7)).take N) < 18446744073709551616 := (got_facts (bs_ l (n + 7)) N (by omega) (by omega)).1
        obtain ⟨X, hX⟩ : ∃ X, X = val ((bs_ l (n + 7)).take N) := ⟨_, rfl⟩
        rw [← hX, ← bs_drop] at hT2
        rw [← hX] at hX64
        have HT2 := Aside0.mk hT2
        have HX := Aside0.mk hX
        have hnN : n + 7 + N ≤ 8 * l.length := by omega
        have HLE := Aside0.mk (show (N : Int) ≤ 8 * (l.length : Int) - ((n + 7 : Nat) : Int) by omega)
        have HG0 := Aside0.mk (show ChunkMath.get (bs_ l n) = if blen X = N then .ok (X, bs_ l (n + 7 + N)) else .error 2 by unfold ChunkMath.get; rw [HT.out]; simp only; rw [if_neg c2, HT2.out])
        clear hlen hlen7 c1 c3 hT2 hX
        by_cases c4 : blen X = N
        · have HG := Aside0.mk (show ChunkMath.get (bs_ l n) = .ok (X, bs_ l (n + 7 + N)) by rw [HG0.out, if_pos c4])
          have dne : ((blen X : Int) != (N : Int)) = false := by rw [c4]; simp
          clear c4
          go_enter Try.func47, Try.ntmps47
          go_wp2_with fail
          refine HC.out.mono ?_
          rintro e w1 ⟨rfl, h1⟩
          have H1 := Aside0.mk h1
          clear h1
          have hcall := get_ok p (n + 7) l (N : Int) w1 H1.out.is (by omega) HB.out hn7 (by omega) (by omega) HLE.out
          rw [Int.toNat_natCast, ← HX.out] at hcall
          have HC2 := Lib.hid hcall
          clear hcall
          go_wp2_with fail
          refine HC2.out.mono ?_
          rintro e w2 ⟨rfl, h2⟩
          have H2 := Aside0.mk (H1.out.trans h2)
          clear h2
          go_wp2_with fail
          refine (width_blen X hX64 _).mono ?_
          rintro e w3 ⟨rfl, rfl⟩
          go_wp2
          go_ret2
          rw [HG.out]
          exact ⟨rfl, n + 7 + N, ⟨hnN, fun _ _ h => by injection h with h; injection h⟩, H2.out⟩
        · have HG := Aside0.mk (show ChunkMath.get (bs_ l n) = .error 2 by rw [HG0.out, if_neg c4])
          have dne : ((blen X : Int) != (N : Int)) = true := by simp; omega
          clear c4
          go_enter Try.func47, Try.ntmps47
          go_wp2_with fail
          refine HC.out.mono ?_
          rintro e w1 ⟨rfl, h1⟩
          have H1 := Aside0.mk h1
          clear h1
          have hcall := get_ok p (n + 7) l (N : Int) w1 H1.out.is (by omega) HB.out hn7 (by omega) (by omega) HLE.out
          rw [Int.toNat_natCast, ← HX.out] at hcall
          have HC2 := Lib.hid hcall
          clear hcall
          go_wp2_with fail
          refine HC2.out.mono ?_
          rintro e w2 ⟨rfl, h2⟩
          have H2 := Aside0.mk (H1.out.trans h2)
          clear h2
          go_wp2_with fail
          refine (width_blen X hX64 _).mono ?_
          rintro e w3 ⟨rfl, rfl⟩
          go_wp2
          go_ret2
          rw [HG.out]
          exact ⟨rfl, n + 7 + N, ⟨hnN, fun _ _ h => by cases h⟩, H2.out⟩
theorem RStep.start {p n : Nat} {l : List Int} {w : World} (h : IsR p l n w) (ob : Obj) : RStep p l w (w.alloc ob) n := by
  have k : Keep (fun _ => False) w (w.alloc ob) := (Keep.refl _ _).alloc ob
  have h2 := h.kept k fun _ _ h => h
  exact ⟨h2.1, (Keep.refl _ _).alloc ob, h2.2⟩
theorem RStep.setNew {p n m : Nat} {l : List Int} {w w1 : World} (h0 : IsR p l n w) (h : RStep p l w w1 m) {R k : Nat} (hR : w.heap.size ≤ R) (u : Value) : RStep p l w (w1.setCell ⟨R, k, none⟩ u) m := by
  have kk : Keep (fun i => i = R) w1 (w1.setCell ⟨R, k, none⟩ u) := (Keep.refl (fun i => i = R) w1).setCell (p := ⟨R, k, none⟩) (fun _ => rfl) u
  have h2 := h.is.kept kk fun i hi hc => by have := h0.foot_lt ((h.foot i).1 hi); omega
  exact ⟨h2.1, h.keep.trans kk fun i hi hc => by omega, fun i => (h2.2 i).trans (h.foot i)⟩
/-- What a point's reading tells: a point, and an error's number. -/
def Tells (r : Except Nat (Pt × List Bool)) (a b c : Int) : Prop := match r with | .error k => c = (k : Int) | .ok (q, _) => a = q.at_ ∧ b = q.v ∧ c = 0
theorem Tells.err {k : Nat} {r : Except Nat (Pt × List Bool)} {a b : Int} (h : r = .error k) : Tells r a b (k : Int) := by rw [h]; rfl
set_option maxHeartbeats 2000000 in
theorem first_calls (p n : Nat) (l : List Int) (w : World) (h : IsR p l n w) (hl : l.length ≤ 1000000) (hb : ∀ x ∈ l, 0 ≤ x ∧ x ≤ 255) (hn : n ≤ 8 * l.length) :
    Calls Try.prog 36 #[.pointer (some ⟨p, 0, none⟩)] w fun e w' => ∃ a b c, e = .returned (.tuple #[.agg #[.int .i64 a, .int .i64 b], .int .i64 c]) ∧ Tells (ChunkMath.first (bs_ l n)) a b c ∧ ∃ m, Lands l m (ChunkMath.first (bs_ l n)) ∧ RStep p l w w' m := by
  have HR := Aside0.mk h
  have HB := Aside0.mk hb
  have hlen := bs_length l n
  have hR0 := RStep.start h (Obj.cells #[.int .i64 0, .int .i64 0] 68)
  have HR0 := Aside0.mk hR0
  have hpz : p < w.heap.size := h.foot_lt (.inl rfl)
  clear h hb hR0
  by_cases c1 : (bs_ l n).length < 41
  · have HG := Aside0.mk (show ChunkMath.first (bs_ l n) = .error 4 by unfold ChunkMath.first; rw [take_short c1])
    have hcall := get_short p n l 41 _ HR0.out.is (by omega) hn (by omega) (by omega) (by omega)
    have HC := Lib.hid hcall
    clear hcall hlen c1
    go_enter Try.func36, Try.ntmps36
    go_wp2_with fail
    refine HC.out.mono ?_
    rintro e w1 ⟨rfl, k1, rfl⟩
    go_wp2
    refine bodyPost_ret (v := .tuple #[.agg #[.int .i64 0, .int .i64 0], .int .i64 4]) (by simp [results, Try.results36, go_sem]) rfl ⟨0, 0, 4, rfl, Tells.err (k := 4) HG.out, n, ⟨hn, fun _ _ h => by rw [HG.out] at h; cases h⟩, ?_⟩
    exact ((HR0.out.drewN k1).setNew HR.out (Nat.le_refl _) _).setNew HR.out (Nat.le_refl _) _
  · have hT := take_long (k := 41) (s := bs_ l n) (by omega)
    have hN1 := val_lt 41 ((bs_ l n).take 41) (by rw [List.length_take]; omega)
    obtain ⟨A, hA⟩ : ∃ N, N = val ((bs_ l n).take 41) := ⟨_, rfl⟩
    have hcall := get_ok p n l 41 _ HR0.out.is (by omega) HB.out hn (by omega) (by omega) (by omega)
    rw [show (41 : Int).toNat = 41 from rfl, ← hA] at hcall
    rw [← hA, ← bs_drop] at hT
    rw [← hA] at hN1
    have hA1 : A < 2199023255552 := by omega
    have HC := Lib.hid hcall
    have HT := Aside0.mk hT
    have hlen7 := bs_length l (n + 41)
    have hn7 : n + 41 ≤ 8 * l.length := by omega
    clear hcall hT hA hN1
    by_cases c2 : maxT < (A : Int)
    · have HG := Aside0.mk (show ChunkMath.first (bs_ l n) = .error 3 by unfold ChunkMath.first; rw [HT.out]; simp only; rw [if_pos c2])
      have hA2 : 1099511627776 < (A : Int) := c2
      have hd : decide (1099511627776 < (A : Int)) = true := decide_eq_true hA2
      clear hlen hlen7 c1 c2 hA2
      go_enter Try.func36, Try.ntmps36
      go_wp2_with fail
      refine HC.out.mono ?_
      rintro e w1 ⟨rfl, h1⟩
      have cr0 : w1.cell? ⟨w.heap.size, 0, none⟩ = some (.int .i64 0) := h1.keep.cell (p := ⟨w.heap.size, 0, none⟩) (by simp) (by simp; omega)
      have cr1 : w1.cell? ⟨w.heap.size, 1, none⟩ = some (.int .i64 0) := h1.keep.cell (p := ⟨w.heap.size, 1, none⟩) (by simp) (by simp; omega)
      have fr : w1.heap[w.heap.size]? = some (.cells #[.int .i64 0, .int .i64 0] 68 (0, 0)) := h1.keep.blk (blk_new w _) (by omega)
      have fr0 : w1.frozen? ⟨w.heap.size, 0, none⟩ = false := blk_frozen fr 0
      have fr1 : w1.frozen? ⟨w.heap.size, 1, none⟩ = false := blk_frozen fr 1
      have H1 := Aside0.mk (HR0.out.trans h1)
      clear h1 fr
      go_wp2
      refine bodyPost_ret (v := .tuple #[.agg #[.int .i64 0, .int .i64 0], .int .i64 3]) (by simp [results, Try.results36, go_sem, cr0, cr1]) rfl ⟨0, 0, 3, rfl, Tells.err (k := 3) HG.out, n + 41, ⟨hn7, fun _ _ h => by rw [HG.out] at h; cases h⟩, ?_⟩
      exact (H1.out.setNew HR.out (Nat.le_refl _) _).setNew HR.out (Nat.le_refl _) _
    · have hA2 : (A : Int) ≤ 1099511627776 := by unfold maxT at c2; omega
      have hd : decide (1099511627776 < (A : Int)) = false := decide_eq_false (by omega)
      by_cases c3 : (bs_ l (n + 41)).length < 64
      · have HG := Aside0.mk (show ChunkMath.first (bs_ l n) = .error 4 by unfold ChunkMath.first; rw [HT.out]; simp only; rw [if_neg c2, take_short c3])
        have HLT := Aside0.mk (show 8 * (l.length : Int) - ((n + 41 : Nat) : Int) < 64 by omega)
        clear hlen hlen7 c1 c2 c3
        go_enter Try.func36, Try.ntmps36
        go_wp2_with fail
        refine HC.out.mono ?_
        rintro e w1 ⟨rfl, h1⟩
        have H1 := Aside0.mk (HR0.out.trans h1)
        have fr : w1.heap[w.heap.size]? = some (.cells #[.int .i64 0, .int .i64 0] 68 (0, 0)) := h1.keep.blk (blk_new w _) (by omega)
        have HFR := Aside0.mk fr
        clear h1 fr
        have hcall := get_short p (n + 41) l 64 w1 H1.out.is (by omega) hn7 (by omega) (by omega) HLT.out
        have HC2 := Lib.hid hcall
        clear hcall
        go_wp2_with fail
        refine HC2.out.mono ?_
        rintro e w2 ⟨rfl, k2, rfl⟩
        have cr0 : (w1.drewN k2).cell? ⟨w.heap.size, 0, none⟩ = some (.int .i64 0) := blk_cell HFR.out 0
        have cr1 : (w1.drewN k2).cell? ⟨w.heap.size, 1, none⟩ = some (.int .i64 0) := blk_cell HFR.out 1
        have fr0 : (w1.drewN k2).frozen? ⟨w.heap.size, 0, none⟩ = false := blk_frozen HFR.out 0
        have fr1 : (w1.drewN k2).frozen? ⟨w.heap.size, 1, none⟩ = false := blk_frozen HFR.out 1
        go_wp2_with fail
        refine (nunfold_calls 0 _ (by decide)).mono ?_
        rintro e w3 ⟨rfl, rfl⟩
        go_wp2
        refine bodyPost_ret (v := .tuple #[.agg #[.int .i64 (A : Int), .int .i64 (zag 0)], .int .i64 4]) (by simp [results, Try.results36, go_sem, cr0, cr1]) rfl ⟨A, zag 0, 4, rfl, Tells.err (k := 4) HG.out, n + 41, ⟨hn7, fun _ _ h => by rw [HG.out] at h; cases h⟩, ?_⟩
        exact ((H1.out.drewN k2).setNew HR.out (Nat.le_refl _) _).setNew HR.out (Nat.le_refl _) _
      · have hT2 := take_long (k := 64) (s := bs_ l (n + 41)) (by omega)
        have hX64 : val ((bs_ l (n + 41)).take 64) < 18446744073709551616 := (got_facts (bs_ l (n + 41)) 64 (by omega) (by omega)).1
        obtain ⟨X, hX⟩ : ∃ X, X = val ((bs_ l (n + 41)).take 64) := ⟨_, rfl⟩
        rw [← hX, ← bs_drop] at hT2
        rw [← hX] at hX64
        have HG := Aside0.mk (show ChunkMath.first (bs_ l n) = .ok (⟨A, zag X⟩, bs_ l (n + 41 + 64)) by unfold ChunkMath.first; rw [HT.out]; simp only; rw [if_neg c2, hT2])
        have HX := Aside0.mk hX
        have HLE := Aside0.mk (show (64 : Int) ≤ 8 * (l.length : Int) - ((n + 41 : Nat) : Int) by omega)
        have hnN : n + 41 + 64 ≤ 8 * l.length := by omega
        clear hlen hlen7 c1 c2 c3 hT2 hX
        go_enter Try.func36, Try.ntmps36
        go_wp2_with fail
        refine HC.out.mono ?_
        rintro e w1 ⟨rfl, h1⟩
        have H1 := Aside0.mk (HR0.out.trans h1)
        have fr : w1.heap[w.heap.size]? = some (.cells #[.int .i64 0, .int .i64 0] 68 (0, 0)) := h1.keep.blk (blk_new w _) (by omega)
        have HFR := Aside0.mk fr
        clear h1 fr
        have hcall := get_ok p (n + 41) l 64 w1 H1.out.is (by omega) HB.out hn7 (by omega) (by omega) HLE.out
        rw [show (64 : Int).toNat = 64 from rfl, ← HX.out] at hcall
        have HC2 := Lib.hid hcall
        clear hcall
        go_wp2_with fail
        refine HC2.out.mono ?_
        rintro e w2 ⟨rfl, h2⟩
        have hb2 := h2.keep.blk HFR.out (by omega)
        have cr0 : w2.cell? ⟨w.heap.size, 0, none⟩ = some (.int .i64 0) := blk_cell hb2 0
        have cr1 : w2.cell? ⟨w.heap.size, 1, none⟩ = some (.int .i64 0) := blk_cell hb2 1
        have fr0 : w2.frozen? ⟨w.heap.size, 0, none⟩ = false := blk_frozen hb2 0
        have fr1 : w2.frozen? ⟨w.heap.size, 1, none⟩ = false := blk_frozen hb2 1
        have H2 := Aside0.mk (H1.out.trans h2)
        clear h2 hb2
        go_wp2_with fail
        refine (nunfold_calls X _ hX64).mono ?_
        rintro e w3 ⟨rfl, rfl⟩
        go_wp2
        refine bodyPost_ret (v := .tuple #[.agg #[.int .i64 (A : Int), .int .i64 (zag X)], .int .i64 0]) (by simp [results, Try.results36, go_sem, cr0, cr1]) rfl ⟨A, zag X, 0, rfl, ?_, n + 41 + 64, ⟨hnN, fun _ _ h => by rw [HG.out] at h; injection h with h; injection h⟩, ?_⟩
        · rw [HG.out]; exact ⟨rfl, rfl, rfl⟩
        · exact (H2.out.setNew HR.out (Nat.le_refl _) _).setNew HR.out (Nat.le_refl _) _
end Go.Proofs.Ytfanomllfgoakaa
