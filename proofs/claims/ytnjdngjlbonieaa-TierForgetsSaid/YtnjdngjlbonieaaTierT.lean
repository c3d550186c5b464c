/- TierForgets, walked. -/
import Derived.Test.YtnjdngjlbonieaaTierS
import Derived.Deep.Cut
import Derived.Deep.CutRange
import Derived.Deep.DeepCutAuto
import Derived.Lib.Hide
import Derived.LoopTactic
import Derived.Outline
import Derived.Laws.Rows
import Derived.Laws.CopyOwn
import Derived.WalkKit
set_option linter.unusedVariables false
set_option linter.unusedSimpArgs false
namespace Go.Proofs.Ytnjdngjlbonieaa
open Go.RowKit Go.Proofs.YtnjdngjlbonieaaW.PrintWords Go.Proofs.YtnjdngjlbonieaaW.PrintLast Go.Proofs.YtnjdngjlbonieaaW.PrintMore
open Go.Proofs.Ytnjdngjlbonieaa.PTierForgets
attribute [local go_sem] max2_int min2_int max_two min_two max_three min_three max_four min_four

theorem sameP_rows (B B2 : Nat) (v v' : Value) (l : List S29) (w : World) (h : w.ownsRow B 29 2 v l.length (l.flatMap cellsP)) (h2 : w.ownsRow B2 29 2 v' l.length (l.flatMap cellsP)) (hl : l.length ≤ 1000) :
    Calls Try.prog 44 #[v, v'] w fun e w' => e = .returned (.bool true) ∧ Below w.heap.size w w' := by
  obtain ⟨A, ca, rfl⟩ := row_form h
  obtain ⟨A2, ca2, rfl⟩ := row_form h2
  exact samePoints_true A A2 ca ca2 l w (kdC_of h hl).1 (kdC_of h2 hl).1 hl
theorem OwnS.mono {B B' p : Nat} {s : Stk} {w : World} (h : OwnS B p s w) (hB : B' ≤ B) : OwnS B' p s w := by
  obtain ⟨F, h1, h2⟩ := h
  exact ⟨F, h1, fun b hb => by have := h2 b hb; omega⟩
theorem Two.of {B p q : Nat} {s t : Stk} {w w' : World} (h : OwnS B p s w) (h2 : OwnS w.heap.size q t w') (hk : Below w.heap.size w w') (hB : B ≤ w.heap.size) : Two B p q s t w' := by
  obtain ⟨F, h3, h4⟩ := h
  obtain ⟨G, h5, h6⟩ := h2
  have := hk.size
  exact ⟨F, G, h3.below hk, h5, fun b hb => by have := h4 b hb; omega, fun b hb => by have := h6 b hb; omega, fun b hb hg => by have := h4 b hb; have := h6 b hg; omega⟩
/-- Two stocks of the call's own, apart, and apart from the blocks X. -/
def TwoX (B p q : Nat) (X : Nat → Prop) (s t : Stk) (w : World) : Prop := ∃ F G, IsStk F p s w ∧ IsStk G q t w ∧ (∀ b, F b → B ≤ b ∧ b < w.heap.size ∧ ¬ X b) ∧ (∀ b, G b → B ≤ b ∧ b < w.heap.size ∧ ¬ X b) ∧ (∀ b, F b → ¬ G b) ∧ ∀ b, X b → b < w.heap.size
section
variable {B p q : Nat} {X Y : Nat → Prop} {s t : Stk} {w w' : World}
theorem TwoX.of (h : Two B p q s t w) : TwoX B p q (fun _ => False) s t w := by
  obtain ⟨F, G, h1, h2, h3, h4, h5⟩ := h
  exact ⟨F, G, h1, h2, fun b hb => ⟨(h3 b hb).1, (h3 b hb).2, id⟩, fun b hb => ⟨(h4 b hb).1, (h4 b hb).2, id⟩, h5, fun b hb => hb.elim⟩
theorem TwoX.new (h : TwoX B p q X s t w) (o : Obj) : TwoX B p q (fun b => X b ∨ b = w.heap.size) s t (w.alloc o) := by
  obtain ⟨F, G, h1, h2, h3, h4, h5, h6⟩ := h
  have hk : Below w.heap.size w (w.alloc o) := (Below.refl _ _).alloc (Nat.le_refl _) _
  refine ⟨F, G, h1.below hk, h2.below hk, fun b hb => ?_, fun b hb => ?_, h5, fun b hb => ?_⟩
  · have := h3 b hb; refine ⟨this.1, by simp; omega, fun hx => ?_⟩
    rcases hx with hx | hx
    · exact this.2.2 hx
    · omega
  · have := h4 b hb; refine ⟨this.1, by simp; omega, fun hx => ?_⟩
    rcases hx with hx | hx
    · exact this.2.2 hx
    · omega
  · rcases hb with hb | hb
    · have := h6 b hb; simp; omega
    · simp; omega
theorem TwoX.less (h : TwoX B p q X s t w) (hY : ∀ b, Y b → X b) : TwoX B p q Y s t w := by
  obtain ⟨F, G, h1, h2, h3, h4, h5, h6⟩ := h
  exact ⟨F, G, h1, h2, fun b hb => ⟨(h3 b hb).1, (h3 b hb).2.1, fun hy => (h3 b hb).2.2 (hY b hy)⟩, fun b hb => ⟨(h4 b hb).1, (h4 b hb).2.1, fun hy => (h4 b hb).2.2 (hY b hy)⟩, h5, fun b hb => h6 b (hY b hb)⟩
theorem TwoX.swap (h : TwoX B p q X s t w) : TwoX B q p X t s w := by
  obtain ⟨F, G, h1, h2, h3, h4, h5, h6⟩ := h
  exact ⟨G, F, h2, h1, h4, h3, fun b hG hF => h5 b hF hG, h6⟩
theorem TwoX.fst (h : TwoX B p q X s t w) : ∃ F, IsStk F p s w := by
  obtain ⟨F, G, h1, _⟩ := h
  exact ⟨F, h1⟩
theorem TwoX.below (h : TwoX B p q X s t w) (hk : Below w.heap.size w w') : TwoX B p q X s t w' := by
  obtain ⟨F, G, h1, h2, h3, h4, h5, h6⟩ := h
  have := hk.size
  exact ⟨F, G, h1.below hk, h2.below hk, fun b hb => ⟨(h3 b hb).1, by have := h3 b hb; omega, (h3 b hb).2.2⟩, fun b hb => ⟨(h4 b hb).1, by have := h4 b hb; omega, (h4 b hb).2.2⟩, h5, fun b hb => by have := h6 b hb; omega⟩
theorem TwoX.step (h : TwoX B p q X s t w) : ∃ F, IsStk F p s w ∧ (∀ b, F b → b < w.heap.size) ∧ ∀ s' w', B ≤ w.heap.size → IsStk (More F w w') p s' w' → Keep F w w' → TwoX B p q X s' t w' ∧ (∀ b, X b → w'.heap[b]? = w.heap[b]?) ∧ ∀ w0, Below B w0 w → B ≤ w0.heap.size → Below B w0 w' := by
  obtain ⟨F, G, h1, h2, h3, h4, h5, hX⟩ := h
  refine ⟨F, h1, fun b hb => (h3 b hb).2.1, fun s' w' hB h6 h7 => ⟨⟨_, G, h6, h2.keep h7 (fun b hg hf => h5 b hf hg), fun b hb => ?_, fun b hb => ?_, fun b hb hg => ?_, fun b hb => Nat.lt_of_lt_of_le (hX b hb) h7.size⟩, fun b hb => h7.block b (hX b hb) (fun hf => (h3 b hf).2.2 hb), fun w0 hb hB0 => Keep.below_trans hb h7 (fun b _ hF => (h3 b hF).1) hB0⟩⟩
  · have := h7.size
    rcases hb with hb | hb
    · have h8 := h3 b hb; exact ⟨h8.1, by omega, h8.2.2⟩
    · exact ⟨by omega, hb.2, fun hx => by have := hX b hx; omega⟩
  · have := h7.size
    have h8 := h4 b hb
    exact ⟨h8.1, by omega, h8.2.2⟩
  · rcases hb with hb | hb
    · exact h5 b hb hg
    · have := h4 b hg; omega
end
def law9r.T27 : Bool × List (List Nat × List Nat) := (true, [([], []), ([], []), ([0, 1], [0, 1]), ([], []), ([], []), ([3, 4, 2], [3, 4]), ([2, 5, 5], [2, 5]), ([6], [6]), ([7, 6], [7]), ([8], [8]), ([8], [8]), ([9, 10, 8, 8], [8, 9, 10]), ([8], [8]), ([8], [8]), ([12, 13, 11, 8], [8, 12, 13]), ([11, 14, 14, 8], [8, 11, 14]), ([15, 8], [8, 15]), ([8, 16], [8, 16]), ([17, 15], [17]), ([18], [18]), ([18], [18]), ([19, 20, 18, 18], [18, 19, 20]), ([18], [18]), ([18], [18]), ([22, 23, 21, 18], [18, 22, 23]), ([21, 24, 24, 18], [18, 21, 24]), ([25, 18], [18, 25]), ([18, 26], [18, 26])])
def law9r.B27 : List Nat := [0, 0, 3, 0, 0, 31, 63, 127, 255, 511, 511, 2047, 511, 511, 16383, 32767, 65535, 131071, 262143, 524287, 524287, 2097151, 524287, 524287, 16777215, 33554431, 67108863, 134217727]
theorem law9r.tab27 : rtab .any (opsOf Try.f9 27) = law9r.T27 := by kernel_rfl
theorem law9r.bits27 : waitsOk law9r.T27.2 law9r.B27 = true := by kernel_rfl
set_option maxRecDepth 100000 in
set_option maxHeartbeats 64000000 in
theorem law9_calls (A : Option Addr) (ca : Nat) (L : List ActT) (A2 : Option Addr) (ca2 : Nat) (L2 : List ActT) (r0 r1 by_ : Int) (w : World) (h : SrcT A L w) (h2 : SrcT A2 L2 w) :
    Calls Try.prog 9 #[.slice A L.length ca, .slice A2 L2.length ca2, .agg #[.int .i64 r0, .int .i64 r1], .int .i64 by_] w fun e w' => e = .returned (.bool true) ∧ Below w.heap.size w w' := by
  have HLV := Lib.hid (fun W => lives16_calls W)
  have hu42 := Try.underlying42
  have hu70 := Try.underlying70
  have HL := Aside0.mk h
  have HL2 := Aside0.mk h2
  obtain ⟨W, hW⟩ : ∃ W, W = (w.alloc (.cells #[.int .i64 r0, .int .i64 r1] 42)).alloc (.cells #[.int .i64 by_] 2) := ⟨_, rfl⟩
  obtain ⟨R, hR⟩ : ∃ R, R = w.heap.size := ⟨_, rfl⟩
  have HBW := Aside0.mk (show Below w.heap.size w W by rw [hW]; exact ((Below.refl _ _).alloc (Nat.le_refl _) _).alloc (by simp) _)
  have HWR := Aside0.mk (show W.heap[R]? = some (.cells #[.int .i64 r0, .int .i64 r1] 42 (0, 0)) by rw [hW, hR]; exact blk_alloc (blk_new w _) _)
  have HWB := Aside0.mk (show W.heap[R + 1]? = some (.cells #[.int .i64 by_] 2 (0, 0)) by rw [hW, hR]; exact heap_alloc2_new w _ _)
  obtain ⟨B, hB⟩ : ∃ B, B = W.heap.size := ⟨_, rfl⟩
  have HBB := Aside0.mk (show B = W.heap.size ∧ w.heap.size ≤ B ∧ R < B ∧ R + 1 < B by
    have := blk_lt HWR.out
    have := blk_lt HWB.out
    have := HBW.out.size
    omega)
  have HW0 := Aside0.mk (Below.refl B W)
  clear h h2 hB
  go_enter Try.func9, Try.ntmps9
  go_upto_region 1 with (fail)
  rw [← hW, ← hR]
  clear hW hR
  go_wp2_with fail
  refine (HLV.out _).mono ?_
  rintro e w1 ⟨rfl, h1⟩
  have HB1 := Aside0.mk (show Below B W w1 by rw [HBB.out.1]; exact h1)
  clear h1
  have HF1 := Aside0.mk (few_calls A ca L w1 ((HL.out.below HBW.out).below (by rw [← HBB.out.1]; exact HB1.out)))
  obtain ⟨f1, hf1⟩ : ∃ f, f = fewB L := ⟨_, rfl⟩
  rw [← hf1] at HF1
  have HFE1 := Aside0.mk hf1
  clear hf1
  go_wp2_with fail
  refine HF1.out.mono ?_
  rintro e w2 ⟨rfl, h2⟩
  have HB2 := Aside0.mk (HB1.out.trans (h2.mono (by rw [HBB.out.1]; exact (show Below W.heap.size W w1 by rw [← HBB.out.1]; exact HB1.out).size)))
  clear h2 HF1 HB1
  cases f1 with
  | false =>
    go_wp2_with fail
    refine (HLV.out _).mono ?_
    rintro e w9 ⟨rfl, h9⟩
    have HB9 := Aside0.mk (HB2.out.trans (h9.mono (by rw [HBB.out.1]; exact HB2.out.size)))
    clear h9
    go_wp2
    go_ret
    exact ⟨rfl, HBW.out.trans (HB9.out.mono HBB.out.2.1)⟩
  | true =>
    have HF2 := Aside0.mk (few_calls A2 ca2 L2 w2 ((HL2.out.below HBW.out).below (by rw [← HBB.out.1]; exact HB2.out)))
    obtain ⟨f2, hf2⟩ : ∃ f, f = fewB L2 := ⟨_, rfl⟩
    rw [← hf2] at HF2
    have HFE2 := Aside0.mk hf2
    clear hf2
    go_wp2_with fail
    refine HF2.out.mono ?_
    rintro e w3 ⟨rfl, h3⟩
    have HB3 := Aside0.mk (HB2.out.trans (h3.mono (by rw [HBB.out.1]; exact HB2.out.size)))
    clear h3 HF2 HB2
    cases f2 with
    | false =>
      go_wp2_with fail
      refine (HLV.out _).mono ?_
      rintro e w9 ⟨rfl, h9⟩
      have HB9 := Aside0.mk (HB3.out.trans (h9.mono (by rw [HBB.out.1]; exact HB3.out.size)))
      clear h9
      go_wp2
      go_ret
      exact ⟨rfl, HBW.out.trans (HB9.out.mono HBB.out.2.1)⟩
    | true =>
      have q0 : w3.cell? ⟨R, 0, none⟩ = some (.int .i64 r0) := (HB3.out.cell (p := ⟨R, 0, none⟩) HBB.out.2.2.1).trans (blk_cell HWR.out 0)
      have q1 : w3.cell? ⟨R, 1, none⟩ = some (.int .i64 r1) := (HB3.out.cell (p := ⟨R, 1, none⟩) HBB.out.2.2.1).trans (blk_cell HWR.out 1)
      have HRT := Aside0.mk (window_Right.calls r0 r1 _ w3 (wRight_is r0 r1))
      obtain ⟨f3, hf3⟩ : ∃ f, f = rightR r0 r1 := ⟨_, rfl⟩
      rw [← hf3] at HRT
      have HFE3 := Aside0.mk hf3
      clear hf3
      go_wp2_with fail
      refine HRT.out.mono ?_
      rintro e w4 ⟨rfl, h4⟩
      have HB4 := Aside0.mk (HB3.out.trans (h4.mono (by rw [HBB.out.1]; exact HB3.out.size)))
      clear h4 HRT HB3 q0 q1
      cases f3 with
      | false =>
        go_wp2_with fail
        refine (HLV.out _).mono ?_
        rintro e w9 ⟨rfl, h9⟩
        have HB9 := Aside0.mk (HB4.out.trans (h9.mono (by rw [HBB.out.1]; exact HB4.out.size)))
        clear h9
        go_wp2
        go_ret
        exact ⟨rfl, HBW.out.trans (HB9.out.mono HBB.out.2.1)⟩
      | true =>
        have HPL1 := Aside0.mk (play_calls A ca L 40 #[] (fun p => p) w4 ((HL.out.below HBW.out).below (by rw [← HBB.out.1]; exact HB4.out)) HFE1.out.symm (fun W _ p => by simpa using idK_calls p W) run40)
        go_wp2_with fail
        refine HPL1.out.mono ?_
        rintro e w5 ⟨p, rfl, ho5, h5⟩
        have HB5 := Aside0.mk (HB4.out.trans (h5.mono (by rw [HBB.out.1]; exact HB4.out.size)))
        have HO5 := Aside0.mk (ho5.mono (show B ≤ w4.heap.size by rw [HBB.out.1]; exact HB4.out.size))
        have HS5 := Aside0.mk (show B ≤ w5.heap.size by rw [HBB.out.1]; exact HB5.out.size)
        clear ho5 h5 HPL1 HB4
        have HPL2 := Aside0.mk (play_calls A ca L 41 #[.pointer (some ⟨R, 0, none⟩), .pointer (some ⟨R + 1, 0, none⟩)] (valX r0 r1 by_) w5 ((HL.out.below HBW.out).below (by rw [← HBB.out.1]; exact HB5.out)) HFE1.out.symm (fun W' hb p => by
          have c0 := (hb.block R (by have := HS5.out; have := HBB.out; omega)).trans ((HB5.out.block R HBB.out.2.2.1).trans HWR.out)
          have c1 := (hb.block (R + 1) (by have := HS5.out; have := HBB.out; omega)).trans ((HB5.out.block (R + 1) HBB.out.2.2.2).trans HWB.out)
          simpa using xor41_calls p r0 r1 by_ R (R + 1) W' c0 c1) run41)
        go_wp2_with fail
        refine HPL2.out.mono ?_
        rintro e w6 ⟨q, rfl, ho6, h6⟩
        have HB6 := Aside0.mk (HB5.out.trans (h6.mono (by rw [HBB.out.1]; exact HB5.out.size)))
        have HT6 := Aside0.mk ((Two.of HO5.out ho6 h6 HS5.out).below ((Below.refl w6.heap.size w6).drew))
        clear ho6 h6 HPL2 HB5 HO5 HS5
        have hpe := forgets_law (a := r0) (b := r1) (v := valX r0 r1 by_) (valX_mk r0 r1 by_) L HFE3.out.symm
        have HG1 := Aside0.mk (play_good (fun p => p) L)
        have HG2 := Aside0.mk (play_good (valX r0 r1 by_) L)
        have hgp := purgeT_good HG1.out r0 r1
        obtain ⟨s1, hs1⟩ : ∃ s, s = playT (fun p => p) L := ⟨_, rfl⟩
        obtain ⟨s2, hs2⟩ : ∃ s, s = playT (valX r0 r1 by_) L := ⟨_, rfl⟩
        rw [← hs1] at hpe HG1 hgp HT6
        rw [← hs2] at hpe HG2 HT6
        obtain ⟨⟨u, n⟩, hun⟩ : ∃ u, u = purgeT s1 r0 r1 := ⟨_, rfl⟩
        rw [← hun] at hpe hgp
        have HP1 := Aside0.mk hun.symm
        have HP2 := Aside0.mk hpe
        have HGU := Aside0.mk (show GoodT u from hgp)
        have q0 : w6.cell? ⟨R, 0, none⟩ = some (.int .i64 r0) := (HB6.out.cell (p := ⟨R, 0, none⟩) HBB.out.2.2.1).trans (blk_cell HWR.out 0)
        have q1 : w6.cell? ⟨R, 1, none⟩ = some (.int .i64 r1) := (HB6.out.cell (p := ⟨R, 1, none⟩) HBB.out.2.2.1).trans (blk_cell HWR.out 1)
        have HBD := Aside0.mk (show Below B W w6.drew from HB6.out.drew)
        have hnn : (n != n) = false := by simp
        clear hpe hgp hs1 hs2 hun HB6
        go_wp2_with fail
        refine start_ (n := 7) (S := fun w' => (w'.cell? ⟨R, 0, none⟩ = some (.int .i64 r0)) ∧ (w'.cell? ⟨R, 1, none⟩ = some (.int .i64 r1))) (ds := []) #[false, false, false, false, false, false, false] (by kernel_rfl) rfl rfl ⟨q0, q1⟩ (fun hHeld => ?_)
        refine pure_ (i := 0) (N := some 41) (v := ?_) (a' := ?_) #[true, false, false, false, false, false, false] rfl rfl (by kernel_rfl) (fun _ _ _ h => h) (Or.inl ⟨by rfl, ?_⟩) ?_ ?_
        rotate_left
        · intro w'
          go_simp
          with_reducible rfl
        rotate_left
        · simp only [Act.put, List.setIfInBounds_toArray, List.set_cons_zero, List.set_cons_succ, i64_w, i32_w]
          rfl
        refine pure_ (i := 3) (N := some 44) (v := ?_) (a' := ?_) #[true, false, false, true, false, false, false] rfl rfl (by kernel_rfl) (fun _ _ _ h => h) (Or.inl ⟨by rfl, ?_⟩) ?_ ?_
        rotate_left
        · intro w'
          go_simp
          with_reducible rfl
        rotate_left
        · simp only [Act.put, List.setIfInBounds_toArray, List.set_cons_zero, List.set_cons_succ, i64_w, i32_w]
          rfl
        refine take_ (i := 1) (N := some 42) (v := ?_) (a' := ?_) #[true, true, false, true, false, false, false] rfl rfl (by kernel_rfl) (fun _ _ _ h => h) (Or.inl ⟨by rfl, ?_⟩) hHeld ?_ ?_
        rotate_left
        · rintro w' ⟨s0, s1⟩
          go_simp
          with_reducible rfl
        rotate_left
        · simp only [Act.put, List.setIfInBounds_toArray, List.set_cons_zero, List.set_cons_succ, i64_w, i32_w]
          rfl
        refine take_ (i := 4) (N := some 45) (v := ?_) (a' := ?_) #[true, true, false, true, true, false, false] rfl rfl (by kernel_rfl) (fun _ _ _ h => h) (Or.inl ⟨by rfl, ?_⟩) hHeld ?_ ?_
        rotate_left
        · rintro w' ⟨s0, s1⟩
          go_simp
          with_reducible rfl
        rotate_left
        · simp only [Act.put, List.setIfInBounds_toArray, List.set_cons_zero, List.set_cons_succ, i64_w, i32_w]
          rfl
        refine one_ (i := 2) (N := some 43) #[true, true, true, true, true, false, false] rfl rfl (by kernel_rfl) (by decide) (fun K hK => ?_)
        obtain ⟨F_, hA1, hA2, hA3⟩ := HT6.out.step
        refine goes_ Try.func43 (by kernel_rfl) rfl #[.pointer (some ⟨p, 0, none⟩), .agg #[.int .i64 r0, .int .i64 r1]] (by rfl) rfl rfl (by simp only [List.map_toArray, List.map_cons, List.map_nil]; rfl) ?_
        with_reducible refine (tpurge_calls F_ p s1 r0 r1 w6.drew hA1 hA2 HG1.out).mono ?_
        rintro e w7 hh
        obtain ⟨rfl, hs7, hk7⟩ := hh
        rw [HP1.out] at hs7 ⊢
        have hz7 := hA3 _ _ (by rw [HBB.out.1]; exact HBD.out.size) hs7 hk7
        have HT7 := Aside0.mk hz7.1.swap
        have HB7 := Aside0.mk (hz7.2 W HBD.out (by rw [HBB.out.1]; exact Nat.le_refl _))
        clear hs7 hk7 hz7 hA1 hA2 hA3
        refine ⟨_, rfl, ?_⟩
        refine hK.out _ _ ⟨((HB7.out.cell (p := ⟨R, 0, none⟩) HBB.out.2.2.1).trans (blk_cell HWR.out 0)), ((HB7.out.cell (p := ⟨R, 1, none⟩) HBB.out.2.2.1).trans (blk_cell HWR.out 1))⟩ (fun hHeld => ?_)
        clear hK K
        refine norm_ (a' := ?_) ?_ ?_
        rotate_left
        · show Act.put _ (some 43) _ = _
          simp only [Act.put, List.setIfInBounds_toArray, List.set_cons_zero, List.set_cons_succ, i64_w, i32_w]
          rfl
        refine one_ (i := 5) (N := some 46) #[true, true, true, true, true, true, false] rfl rfl (by kernel_rfl) (by decide) (fun K hK => ?_)
        obtain ⟨F_, hA1, hA2, hA3⟩ := HT7.out.step
        refine goes_ Try.func43 (by kernel_rfl) rfl #[.pointer (some ⟨q, 0, none⟩), .agg #[.int .i64 r0, .int .i64 r1]] (by rfl) rfl rfl (by simp only [List.map_toArray, List.map_cons, List.map_nil]; rfl) ?_
        with_reducible refine (tpurge_calls F_ q s2 r0 r1 w7 hA1 hA2 HG2.out).mono ?_
        rintro e w8 hh
        obtain ⟨rfl, hs8, hk8⟩ := hh
        rw [HP2.out] at hs8 ⊢
        have hz8 := hA3 _ _ (by rw [HBB.out.1]; exact HB7.out.size) hs8 hk8
        have HT8 := Aside0.mk hz8.1.swap
        have HB8 := Aside0.mk (hz8.2 W HB7.out (by rw [HBB.out.1]; exact Nat.le_refl _))
        clear hs8 hk8 hz8 hA1 hA2 hA3
        refine ⟨_, rfl, ?_⟩
        refine hK.out _ _ ⟨((HB8.out.cell (p := ⟨R, 0, none⟩) HBB.out.2.2.1).trans (blk_cell HWR.out 0)), ((HB8.out.cell (p := ⟨R, 1, none⟩) HBB.out.2.2.1).trans (blk_cell HWR.out 1))⟩ (fun hHeld => ?_)
        clear hK K
        refine norm_ (a' := ?_) ?_ ?_
        rotate_left
        · show Act.put _ (some 46) _ = _
          simp only [Act.put, List.setIfInBounds_toArray, List.set_cons_zero, List.set_cons_succ, i64_w, i32_w]
          rfl
        refine pure_ (i := 6) (N := some 47) (v := ?_) (a' := ?_) #[true, true, true, true, true, true, true] rfl rfl (by kernel_rfl) (fun _ _ _ h => h) (Or.inl ⟨by rfl, ?_⟩) ?_ ?_
        rotate_left
        · intro w'
          go_simp
          with_reducible rfl
        rotate_left
        · simp only [Act.put, List.setIfInBounds_toArray, List.set_cons_zero, List.set_cons_succ, i64_w, i32_w]
          rfl
        refine done_ (by kernel_rfl) ?_
        obtain ⟨W8, hW8⟩ : ∃ W8, W8 = w8.alloc (.cells #[.int .i64 0, .int .i64 1099511627777] 42) := ⟨_, rfl⟩
        obtain ⟨E, hE⟩ : ∃ E, E = w8.heap.size := ⟨_, rfl⟩
        have HT9 := Aside0.mk (show TwoX B p q (fun b => b = E) u u W8 by rw [hW8, hE]; exact ((TwoX.of HT8.out).new _).less (fun b hb => .inr hb))
        have HB9 := Aside0.mk (show Below B W W8 by rw [hW8]; exact HB8.out.alloc (by rw [HBB.out.1]; exact HB8.out.size) _)
        have HE9 := Aside0.mk (show W8.heap[E]? = some (.cells #[.int .i64 0, .int .i64 1099511627777] 42 (0, 0)) by rw [hW8, hE]; exact blk_new w8 _)
        clear HT8 HB8 hHeld HT6 HBD HP1 HP2 HG1 HG2 q0 q1
        go_upto_region 8 with (fail)
        rw [← hW8, ← hE]
        clear hW8 hE
        have hl30 : L2.length ≤ 30 := (few_le HFE2.out.symm).1
        have HFW2 := Lib.hid (few_le HFE2.out.symm).2
        go_wp2_with fail
        go_loopw [12] (fun v12 wr => ∃ (j : Nat) (u : Stk), j ≤ L2.length + 1 ∧ v12 = .int .i64 ((j : Int) - 1) ∧ Aside0 (GoodT u) ∧ Aside0 (TwoX B p q (fun b => b = E) u u wr) ∧ Aside0 (Below B W wr) ∧ Aside0 (wr.heap[E]? = some (.cells #[.int .i64 0, .int .i64 1099511627777] 42 (0, 0)))) (fun v _ => (L2.length + 1) - ((intOf v) + 1).toNat)
        case atStart => exact ⟨0, u, by omega, rfl, HGU, HT9, HB9, HE9⟩
        case round =>
          clear HGU HT9 HB9 HE9
          obtain ⟨j, u, hj, rfl, HGU, HT, HB, HE⟩ := hrel
          by_cases hlt : j < L2.length + 1
          · have d1 : decide ((j : Int) - 1 < (L2.length : Int)) = true := decide_eq_true (by omega)
            obtain ⟨vi, hvi⟩ : ∃ v : Int, v = (j : Int) - 1 := ⟨_, rfl⟩
            rw [← hvi] at d1 ⊢
            have hw1 : wrap64 (vi + 1) = ((j + 1 : Nat) : Int) - 1 := by unfold wrap64; omega
            go_upto_if 56 with (fail)
            go_cut [] (fun wx => ∃ u : Stk, Aside0 (GoodT u) ∧ Aside0 (TwoX B p q (fun b => b = E) u u wx) ∧ Aside0 (Below B W wx) ∧ Aside0 (wx.heap[E]? = some (.cells #[.int .i64 0, .int .i64 1099511627777] 42 (0, 0))))
            case first =>
              by_cases hj0 : j = 0
              · have d2 : decide (vi ≥ 0) = false := decide_eq_false (by omega)
                have d3 : decide (0 ≤ vi) = false := decide_eq_false (by omega)
                go_wp2_with fail
                go_meet
                exact ⟨u, HGU, HT, HB, HE⟩
              · obtain ⟨i, rfl⟩ : ∃ i, j = i + 1 := ⟨j - 1, by omega⟩
                have d2 : decide ((i : Int) ≥ 0) = true := decide_eq_true (by omega)
                have d3 : decide (0 ≤ (i : Int)) = true := decide_eq_true (by omega)
                have hj1 : vi = (i : Int) := by omega
                subst hj1
                have hil : (i : Int) < (L2.length : Int) := by omega
                obtain ⟨x, hx⟩ : ∃ x, L2[i]? = some x := ⟨_, List.getElem?_eq_getElem (by omega)⟩
                have hsr := (HL2.out.below HBW.out).below (w' := wr) (by rw [← HBB.out.1]; exact HB.out)
                obtain ⟨ad, hAe, c0, c1, c2, c3, c4⟩ := hsr.cells hx
                subst hAe
                have hxl := HFW2.out x (List.mem_of_getElem? hx)
                have hkd := hsr.rows x (List.mem_of_getElem? hx)
                have HX := Aside0.mk hx
                obtain ⟨kind, at_, Ax, cx, lx, s0_, s1_⟩ := x
                dsimp only at hxl hkd c0 c1 c2 c3 c4
                have hl40 : lx.length ≤ 40 := hxl.1
                obtain ⟨V, hV⟩ : ∃ V, V = wr.alloc (.cells #[.int .i64 kind, .int .i64 at_, .slice Ax lx.length cx, .int .i64 s0_, .int .i64 s1_] 70) := ⟨_, rfl⟩
                obtain ⟨Z, hZ⟩ : ∃ Z, Z = wr.heap.size := ⟨_, rfl⟩
                have HTV := Aside0.mk (show TwoX B p q (fun b => b = E ∨ b = Z) u u V by rw [hV, hZ]; exact HT.out.new _)
                have HBV := Aside0.mk (show Below B W V by rw [hV]; exact HB.out.alloc (by rw [HBB.out.1]; exact HB.out.size) _)
                have HEV := Aside0.mk (show V.heap[E]? = some (.cells #[.int .i64 0, .int .i64 1099511627777] 42 (0, 0)) by rw [hV]; exact blk_alloc HE.out _)
                have HZV := Aside0.mk (show V.heap[Z]? = some (.cells #[.int .i64 kind, .int .i64 at_, .slice Ax lx.length cx, .int .i64 s0_, .int .i64 s1_] 70 (0, 0)) by rw [hV, hZ]; exact blk_new wr _)
                have HKD := Aside0.mk (show Kd.C k29 V Ax lx.length lx by rw [hV]; exact Kd.C_below hkd ((Below.refl _ _).alloc (Nat.le_refl _) _))
                have HSV := Aside0.mk (show B ≤ V.heap.size by rw [HBB.out.1]; exact HBV.out.size)
                obtain ⟨F1, hA1, hA2, hA3⟩ := HTV.out.step
                have HA3 := Lib.hid hA3
                by_cases hput : kind = 0 ∨ kind = 1 ∨ kind = 2
                · have hn1 : ((putT u lx).2.1 != (putT u lx).2.1) = false := by simp
                  have hn2 : ((putT u lx).2.2 != (putT u lx).2.2) = false := by simp
                  have HC := Aside0.mk (tput_calls F1 p u lx Ax cx V hA1 HKD.out (by omega))
                  obtain ⟨rp, hrp⟩ : ∃ r, r = putT u lx := ⟨_, rfl⟩
                  have HG2 := Aside0.mk (show GoodT rp.1 by rw [hrp]; exact putT_good HGU.out lx)
                  have HRP := Aside0.mk hrp
                  rw [← hrp] at hn1 hn2 HC
                  obtain ⟨ru, rn, re⟩ := rp
                  dsimp only at hn1 hn2
                  clear hx hxl hkd hsr hA1 hA2 hA3 HT HE hrp hj hlt hj0 hw1 hvi
                  rcases hput with rfl | rfl | rfl
                  all_goals
                    go_upto_region 13 with (fail)
                    rw [← hV, ← hZ]
                    clear hV hZ c0 c1 c2 c3 c4
                    have e0 : V.cell? ⟨Z, 0, none⟩ = some (.int .i64 _) := blk_cell HZV.out 0
                    have e2 : V.cell? ⟨Z, 2, none⟩ = some (.slice Ax lx.length cx) := blk_cell HZV.out 2
                    go_wp2_with fail
                    refine HC.out.mono ?_
                    rintro e w5 ⟨rfl, hs5, hk5⟩
                    have hz := HA3.out _ _ HSV.out hs5 hk5
                    have HT5 := Aside0.mk hz.1.swap
                    have HB5 := Aside0.mk (hz.2.2 W HBV.out (by rw [HBB.out.1]; exact Nat.le_refl _))
                    have HE5 := Aside0.mk ((hz.2.1 E (.inl rfl)).trans HEV.out)
                    have HZ5 := Aside0.mk ((hz.2.1 Z (.inr rfl)).trans HZV.out)
                    have HS5 := Aside0.mk (show B ≤ w5.heap.size by rw [HBB.out.1]; exact HB5.out.size)
                    have HK5 := Aside0.mk (show Kd.C k29 w5 Ax lx.length lx from (((HL2.out.below HBW.out).below (w' := w5) (by rw [← HBB.out.1]; exact HB5.out)).rows _ (List.mem_of_getElem? HX.out)))
                    obtain ⟨F2, hD1, hD2, hD3⟩ := HT5.out.step
                    have HD3 := Lib.hid hD3
                    have HC2 := Aside0.mk (show Calls Try.prog 32 #[.pointer (some ⟨q, 0, none⟩), .slice Ax lx.length cx] w5 (StkPost F2 q ru (.tuple #[.int .i64 rn, .int .i64 re]) w5) by
                      have := tput_calls F2 q u lx Ax cx w5 hD1 HK5.out (by omega)
                      rw [← HRP.out] at this
                      exact this)
                    have e2' : w5.cell? ⟨Z, 2, none⟩ = some (.slice Ax lx.length cx) := blk_cell HZ5.out 2
                    clear hs5 hk5 hz HC e0 e2 hD1 hD2 hD3 HA3 HT5 HTV HZV HEV HKD
                    go_wp2_with fail
                    refine HC2.out.mono ?_
                    rintro e w6 ⟨rfl, hs6, hk6⟩
                    have hz := HD3.out _ _ HS5.out hs6 hk6
                    have HT6 := Aside0.mk (hz.1.swap.less (show ∀ b, b = E → (b = E ∨ b = Z) from fun b hb => .inl hb))
                    have HB6 := Aside0.mk (hz.2.2 W HB5.out (by rw [HBB.out.1]; exact Nat.le_refl _))
                    have HE6 := Aside0.mk ((hz.2.1 E (.inl rfl)).trans HE5.out)
                    clear hs6 hk6 hz HC2 e2' HD3
                    go_wp2_with fail
                    go_meet
                    exact ⟨ru, HG2, HT6, HB6, HE6⟩
                · have k0 : (kind == 0) = false := beq_eq_false_iff_ne.2 fun e => hput (.inl e)
                  have k1 : (kind == 1) = false := beq_eq_false_iff_ne.2 fun e => hput (.inr (.inl e))
                  have k2 : (kind == 2) = false := beq_eq_false_iff_ne.2 fun e => hput (.inr (.inr e))
                  clear hput
                  by_cases hroll : kind = 3 ∨ kind = 4
                  · have HC := Aside0.mk (trollS_calls F1 p u at_ V hA1 hA2 HGU.out)
                    obtain ⟨rp, hrp⟩ : ∃ r, r = rollS u at_ := ⟨_, rfl⟩
                    have HG2 := Aside0.mk (show GoodT rp.1 by rw [hrp]; exact rollS_good HGU.out at_)
                    have HRP := Aside0.mk hrp
                    rw [← hrp] at HC
                    obtain ⟨ru, rn, re⟩ := rp
                    clear hx hxl hkd hsr hA1 hA2 hA3 HT HE hrp hj hlt hj0 hw1 hvi
                    rcases hroll with rfl | rfl
                    all_goals
                      go_upto_region 13 with (fail)
                      rw [← hV, ← hZ]
                      clear hV hZ c0 c1 c2 c3 c4
                      have e0 : V.cell? ⟨Z, 0, none⟩ = some (.int .i64 _) := blk_cell HZV.out 0
                      have e2 : V.cell? ⟨Z, 1, none⟩ = some (.int .i64 at_) := blk_cell HZV.out 1
                      go_wp2_with fail
                      refine HC.out.mono ?_
                      rintro e w5 ⟨rfl, hs5, hk5⟩
                      have hz := HA3.out _ _ HSV.out hs5 hk5
                      have HT5 := Aside0.mk hz.1.swap
                      have HB5 := Aside0.mk (hz.2.2 W HBV.out (by rw [HBB.out.1]; exact Nat.le_refl _))
                      have HE5 := Aside0.mk ((hz.2.1 E (.inl rfl)).trans HEV.out)
                      have HZ5 := Aside0.mk ((hz.2.1 Z (.inr rfl)).trans HZV.out)
                      have HS5 := Aside0.mk (show B ≤ w5.heap.size by rw [HBB.out.1]; exact HB5.out.size)
                      obtain ⟨F2, hD1, hD2, hD3⟩ := HT5.out.step
                      have HD3 := Lib.hid hD3
                      have HC2 := Aside0.mk (show Calls Try.prog 33 #[.pointer (some ⟨q, 0, none⟩), .int .i64 at_] w5 (StkPost F2 q ru (.tuple #[.int .i64 rn, .int .i64 re]) w5) by
                        have := trollS_calls F2 q u at_ w5 hD1 hD2 HGU.out
                        rw [← HRP.out] at this
                        exact this)
                      have e2' : w5.cell? ⟨Z, 1, none⟩ = some (.int .i64 at_) := blk_cell HZ5.out 1
                      clear hs5 hk5 hz HC e0 e2 hD1 hD2 hD3 HA3 HT5 HTV HZV HEV HKD
                      go_wp2_with fail
                      refine HC2.out.mono ?_
                      rintro e w6 ⟨rfl, hs6, hk6⟩
                      have hz := HD3.out _ _ HS5.out hs6 hk6
                      have HT6 := Aside0.mk (hz.1.swap.less (show ∀ b, b = E → (b = E ∨ b = Z) from fun b hb => .inl hb))
                      have HB6 := Aside0.mk (hz.2.2 W HB5.out (by rw [HBB.out.1]; exact Nat.le_refl _))
                      have HE6 := Aside0.mk ((hz.2.1 E (.inl rfl)).trans HE5.out)
                      clear hs6 hk6 hz HC2 e2' HD3
                      go_wp2_with fail
                      go_meet
                      exact ⟨ru, HG2, HT6, HB6, HE6⟩
                  · have k3 : (kind == 3) = false := beq_eq_false_iff_ne.2 fun e => hroll (.inl e)
                    have k4 : (kind == 4) = false := beq_eq_false_iff_ne.2 fun e => hroll (.inr e)
                    clear hroll
                    have HC := Aside0.mk (tpurge_calls F1 p u s0_ s1_ V hA1 hA2 HGU.out)
                    obtain ⟨rp, hrp⟩ : ∃ r, r = purgeT u s0_ s1_ := ⟨_, rfl⟩
                    have HG2 := Aside0.mk (show GoodT rp.1 by rw [hrp]; exact purgeT_good HGU.out s0_ s1_)
                    have HRP := Aside0.mk hrp
                    rw [← hrp] at HC
                    obtain ⟨ru, rn⟩ := rp
                    clear hx hxl hkd hsr hA1 hA2 hA3 HT HE hrp hj hlt hj0 hw1 hvi
                    iterate 1
                      go_upto_region 13 with (fail)
                      rw [← hV, ← hZ]
                      clear hV hZ c0 c1 c2 c3 c4
                      have e0 : V.cell? ⟨Z, 0, none⟩ = some (.int .i64 _) := blk_cell HZV.out 0
                      have e2 : V.cell? ⟨Z, 3, none⟩ = some (.int .i64 s0_) := blk_cell HZV.out 3
                      have e3 : V.cell? ⟨Z, 4, none⟩ = some (.int .i64 s1_) := blk_cell HZV.out 4
                      go_wp2_with fail
                      refine HC.out.mono ?_
                      rintro e w5 ⟨rfl, hs5, hk5⟩
                      have hz := HA3.out _ _ HSV.out hs5 hk5
                      have HT5 := Aside0.mk hz.1.swap
                      have HB5 := Aside0.mk (hz.2.2 W HBV.out (by rw [HBB.out.1]; exact Nat.le_refl _))
                      have HE5 := Aside0.mk ((hz.2.1 E (.inl rfl)).trans HEV.out)
                      have HZ5 := Aside0.mk ((hz.2.1 Z (.inr rfl)).trans HZV.out)
                      have HS5 := Aside0.mk (show B ≤ w5.heap.size by rw [HBB.out.1]; exact HB5.out.size)
                      obtain ⟨F2, hD1, hD2, hD3⟩ := HT5.out.step
                      have HD3 := Lib.hid hD3
                      have HC2 := Aside0.mk (show Calls Try.prog 43 #[.pointer (some ⟨q, 0, none⟩), .agg #[.int .i64 s0_, .int .i64 s1_]] w5 (StkPost F2 q ru (.int .i64 rn) w5) by
                        have := tpurge_calls F2 q u s0_ s1_ w5 hD1 hD2 HGU.out
                        rw [← HRP.out] at this
                        exact this)
                      have e2' : w5.cell? ⟨Z, 3, none⟩ = some (.int .i64 s0_) := blk_cell HZ5.out 3
                      have e3' : w5.cell? ⟨Z, 4, none⟩ = some (.int .i64 s1_) := blk_cell HZ5.out 4
                      clear hs5 hk5 hz HC e0 e2 hD1 hD2 hD3 HA3 HT5 HTV HZV HEV HKD
                      go_wp2_with fail
                      refine HC2.out.mono ?_
                      rintro e w6 ⟨rfl, hs6, hk6⟩
                      have hz := HD3.out _ _ HS5.out hs6 hk6
                      have HT6 := Aside0.mk (hz.1.swap.less (show ∀ b, b = E → (b = E ∨ b = Z) from fun b hb => .inl hb))
                      have HB6 := Aside0.mk (hz.2.2 W HB5.out (by rw [HBB.out.1]; exact Nat.le_refl _))
                      have HE6 := Aside0.mk ((hz.2.1 E (.inl rfl)).trans HE5.out)
                      clear hs6 hk6 hz HC2 e2' HD3
                      go_wp2_with fail
                      go_meet
                      exact ⟨ru, HG2, HT6, HB6, HE6⟩
            case rest =>
              clear HGU HT HB HE
              obtain ⟨u, HGU, HT, HB, HE⟩ := hcut
              have q0 : wc.cell? ⟨E, 0, none⟩ = some (.int .i64 0) := blk_cell HE.out 0
              have q1 : wc.cell? ⟨E, 1, none⟩ = some (.int .i64 1099511627777) := blk_cell HE.out 1
              have HTW := Aside0.mk (HT.out.below ((Below.refl wc.heap.size wc).drew))
              have HTK1 := Aside0.mk HGU.out.g1.tk
              have HTK2 := Aside0.mk HGU.out.g2.tk
              have HLN := Aside0.mk (show (inR 0 1099511627777 u.raw).length ≤ 1000 ∧ (aggR 300 0 1099511627777 u.a1).length ≤ 1000 ∧ (aggR 3600 0 1099511627777 u.a2).length ≤ 1000 by
                have h1 := inR_len 0 1099511627777 u.raw
                have h2 := HGU.out.len
                have h3 : (aggR 300 0 1099511627777 u.a1).length ≤ u.a1.length := List.length_filter_le _ _
                have h4 : (aggR 3600 0 1099511627777 u.a2).length ≤ u.a2.length := List.length_filter_le _ _
                have h5 := HGU.out.g1.len
                have h6 := HGU.out.g2.len
                omega)
              go_wp2_with fail
              refine start_ (n := 28) (S := fun w' => (w'.cell? ⟨E, 0, none⟩ = some (.int .i64 0)) ∧ (w'.cell? ⟨E, 1, none⟩ = some (.int .i64 1099511627777))) (ds := []) #[false, false, false, false, false, false, false, false, false, false, false, false, false, false, false, false, false, false, false, false, false, false, false, false, false, false, false, false] (by kernel_rfl) rfl rfl ⟨q0, q1⟩ (fun hHeld => ?_)
              refine with_tabW law9r.tab27 law9r.bits27 (fun HT_ HW_ => ?_)
              refine pure_ (i := 0) (N := some 108) (v := ?_) (a' := ?_) #[true, false, false, false, false, false, false, false, false, false, false, false, false, false, false, false, false, false, false, false, false, false, false, false, false, false, false, false] rfl rfl (any_of HT_.out (by kernel_rfl)) (fun _ _ _ h => h) (Or.inl ⟨by rfl, ?_⟩) ?_ ?_
              rotate_left
              · intro w'
                go_simp
                with_reducible rfl
              rotate_left
              · simp only [Act.put, List.setIfInBounds_toArray, List.set_cons_zero, List.set_cons_succ, i64_w, i32_w]
                rfl
              refine pure_ (i := 3) (N := some 111) (v := ?_) (a' := ?_) #[true, false, false, true, false, false, false, false, false, false, false, false, false, false, false, false, false, false, false, false, false, false, false, false, false, false, false, false] rfl rfl (any_of HT_.out (by kernel_rfl)) (fun _ _ _ h => h) (Or.inl ⟨by rfl, ?_⟩) ?_ ?_
              rotate_left
              · intro w'
                go_simp
                with_reducible rfl
              rotate_left
              · simp only [Act.put, List.setIfInBounds_toArray, List.set_cons_zero, List.set_cons_succ, i64_w, i32_w]
                rfl
              refine take_ (i := 1) (N := some 109) (v := ?_) (a' := ?_) #[true, true, false, true, false, false, false, false, false, false, false, false, false, false, false, false, false, false, false, false, false, false, false, false, false, false, false, false] rfl rfl (take_ofW HT_.out HW_.out (by kernel_rfl)) (fun _ _ _ h => h) (Or.inl ⟨by rfl, ?_⟩) hHeld ?_ ?_
              rotate_left
              · rintro w' ⟨s0, s1⟩
                go_simp
                with_reducible rfl
              rotate_left
              · simp only [Act.put, List.setIfInBounds_toArray, List.set_cons_zero, List.set_cons_succ, i64_w, i32_w]
                rfl
              refine take_ (i := 4) (N := some 112) (v := ?_) (a' := ?_) #[true, true, false, true, true, false, false, false, false, false, false, false, false, false, false, false, false, false, false, false, false, false, false, false, false, false, false, false] rfl rfl (take_ofW HT_.out HW_.out (by kernel_rfl)) (fun _ _ _ h => h) (Or.inl ⟨by rfl, ?_⟩) hHeld ?_ ?_
              rotate_left
              · rintro w' ⟨s0, s1⟩
                go_simp
                with_reducible rfl
              rotate_left
              · simp only [Act.put, List.setIfInBounds_toArray, List.set_cons_zero, List.set_cons_succ, i64_w, i32_w]
                rfl
              refine one_ (i := 2) (N := some 110) #[true, true, true, true, true, false, false, false, false, false, false, false, false, false, false, false, false, false, false, false, false, false, false, false, false, false, false, false] rfl rfl (one_of HT_.out (by kernel_rfl)) (by decide) (fun K hK => ?_)
              obtain ⟨G_, hG_⟩ := HTW.out.fst
              refine goes_ Try.func45 (by kernel_rfl) rfl #[.pointer (some ⟨p, 0, none⟩), .agg #[.int .i64 0, .int .i64 1099511627777]] (by rfl) rfl rfl (by simp only [List.map_toArray, List.map_cons, List.map_nil]; rfl) ?_
              with_reducible refine (tpoints_calls G_ p u 0 1099511627777 wc.drew hG_).mono ?_
              rintro e v1 hh
              obtain ⟨u1_, rfl, ho, hv1⟩ := hh
              have HT_1 := Aside0.mk (HTW.out.below hv1)
              have HV1 := Aside0.mk (show Below wc.drew.heap.size wc.drew v1 from hv1)
              have k0 := bread hv1 hHeld.1
              have k1 := bread hv1 hHeld.2
              have HR_1 := Aside0.mk ho
              clear ho
              clear hv1
              refine ⟨_, rfl, ?_⟩
              refine hK.out _ _ ⟨k0, k1⟩ (fun hHeld => ?_)
              clear hK K
              refine norm_ (a' := ?_) ?_ ?_
              rotate_left
              · show Act.put _ (some 110) _ = _
                simp only [Act.put, List.setIfInBounds_toArray, List.set_cons_zero, List.set_cons_succ, i64_w, i32_w]
                rfl
              refine one_ (i := 5) (N := some 113) #[true, true, true, true, true, true, false, false, false, false, false, false, false, false, false, false, false, false, false, false, false, false, false, false, false, false, false, false] rfl rfl (one_of HT_.out (by kernel_rfl)) (by decide) (fun K hK => ?_)
              obtain ⟨G_, hG_⟩ := HT_1.out.swap.fst
              refine goes_ Try.func45 (by kernel_rfl) rfl #[.pointer (some ⟨q, 0, none⟩), .agg #[.int .i64 0, .int .i64 1099511627777]] (by rfl) rfl rfl (by simp only [List.map_toArray, List.map_cons, List.map_nil]; rfl) ?_
              with_reducible refine (tpoints_calls G_ q u 0 1099511627777 v1 hG_).mono ?_
              rintro e v2 hh
              obtain ⟨u2_, rfl, ho, hv2⟩ := hh
              have HT_2 := Aside0.mk (HT_1.out.below hv2)
              have HV2 := Aside0.mk (show Below wc.drew.heap.size wc.drew v2 from HV1.out.trans (hv2.mono HV1.out.size))
              have k0 := bread hv2 hHeld.1
              have k1 := bread hv2 hHeld.2
              have HR_2 := Aside0.mk ho
              have HR_1 := Aside0.mk (own_kept (w' := v2) HR_1.out fun b hb => hv2.block b (HR_1.out.lt b hb).2)
              clear ho
              clear hv2
              clear HV1 HT_1
              refine ⟨_, rfl, ?_⟩
              refine hK.out _ _ ⟨k0, k1⟩ (fun hHeld => ?_)
              clear hK K
              refine norm_ (a' := ?_) ?_ ?_
              rotate_left
              · show Act.put _ (some 113) _ = _
                simp only [Act.put, List.setIfInBounds_toArray, List.set_cons_zero, List.set_cons_succ, i64_w, i32_w]
                rfl
              refine one_ (i := 6) (N := some 114) #[true, true, true, true, true, true, true, false, false, false, false, false, false, false, false, false, false, false, false, false, false, false, false, false, false, false, false, false] rfl rfl (one_of HT_.out (by kernel_rfl)) (by decide) (fun K hK => ?_)
              obtain ⟨G_, hG_⟩ := HT_2.out.fst
              refine goes_ Try.func44 (by kernel_rfl) rfl #[u1_, u2_] (by rfl) rfl rfl (by simp only [List.map_toArray, List.map_cons, List.map_nil]; rfl) ?_
              with_reducible refine (sameP_rows _ _ u1_ u2_ _ v2 HR_1.out HR_2.out HLN.out.1).mono ?_
              rintro e v3 hh
              obtain ⟨rfl, hv3⟩ := hh
              have HT_3 := Aside0.mk (HT_2.out.below hv3)
              have HV3 := Aside0.mk (show Below wc.drew.heap.size wc.drew v3 from HV2.out.trans (hv3.mono HV2.out.size))
              have k0 := bread hv3 hHeld.1
              have k1 := bread hv3 hHeld.2
              clear HR_1 HR_2
              clear hv3
              clear HV2 HT_2
              refine ⟨_, rfl, ?_⟩
              refine hK.out _ _ ⟨k0, k1⟩ (fun hHeld => ?_)
              clear hK K
              refine norm_ (a' := ?_) ?_ ?_
              rotate_left
              · show Act.put _ (some 114) _ = _
                simp only [Act.put, List.setIfInBounds_toArray, List.set_cons_zero, List.set_cons_succ, i64_w, i32_w]
                rfl
              refine pure_ (i := 7) (N := some 115) (v := ?_) (a' := ?_) #[true, true, true, true, true, true, true, true, false, false, false, false, false, false, false, false, false, false, false, false, false, false, false, false, false, false, false, false] rfl rfl (any_of HT_.out (by kernel_rfl)) (fun _ _ _ h => h) (Or.inl ⟨by rfl, ?_⟩) ?_ ?_
              rotate_left
              · intro w'
                go_simp
                with_reducible rfl
              rotate_left
              · simp only [Act.put, List.setIfInBounds_toArray, List.set_cons_zero, List.set_cons_succ, i64_w, i32_w]
                rfl
              refine pure_ (i := 8) (N := some 116) (v := ?_) (a' := ?_) #[true, true, true, true, true, true, true, true, true, false, false, false, false, false, false, false, false, false, false, false, false, false, false, false, false, false, false, false] rfl rfl (any_of HT_.out (by kernel_rfl)) (fun _ _ _ h => h) (Or.inl ⟨by rfl, ?_⟩) ?_ ?_
              rotate_left
              · intro w'
                go_simp
                with_reducible rfl
              rotate_left
              · simp only [Act.put, List.setIfInBounds_toArray, List.set_cons_zero, List.set_cons_succ, i64_w, i32_w]
                rfl
              refine pure_ (i := 9) (N := some 117) (v := ?_) (a' := ?_) #[true, true, true, true, true, true, true, true, true, true, false, false, false, false, false, false, false, false, false, false, false, false, false, false, false, false, false, false] rfl rfl (any_of HT_.out (by kernel_rfl)) (fun _ _ _ h => h) (Or.inl ⟨by rfl, ?_⟩) ?_ ?_
              rotate_left
              · intro w'
                go_simp
                with_reducible rfl
              rotate_left
              · simp only [Act.put, List.setIfInBounds_toArray, List.set_cons_zero, List.set_cons_succ, i64_w, i32_w]
                rfl
              refine pure_ (i := 12) (N := some 120) (v := ?_) (a' := ?_) #[true, true, true, true, true, true, true, true, true, true, false, false, true, false, false, false, false, false, false, false, false, false, false, false, false, false, false, false] rfl rfl (any_of HT_.out (by kernel_rfl)) (fun _ _ _ h => h) (Or.inl ⟨by rfl, ?_⟩) ?_ ?_
              rotate_left
              · intro w'
                go_simp
                with_reducible rfl
              rotate_left
              · simp only [Act.put, List.setIfInBounds_toArray, List.set_cons_zero, List.set_cons_succ, i64_w, i32_w]
                rfl
              refine take_ (i := 10) (N := some 118) (v := ?_) (a' := ?_) #[true, true, true, true, true, true, true, true, true, true, true, false, true, false, false, false, false, false, false, false, false, false, false, false, false, false, false, false] rfl rfl (take_ofW HT_.out HW_.out (by kernel_rfl)) (fun _ _ _ h => h) (Or.inl ⟨by rfl, ?_⟩) hHeld ?_ ?_
              rotate_left
              · rintro w' ⟨s0, s1⟩
                go_simp
                with_reducible rfl
              rotate_left
              · simp only [Act.put, List.setIfInBounds_toArray, List.set_cons_zero, List.set_cons_succ, i64_w, i32_w]
                rfl
              refine take_ (i := 13) (N := some 121) (v := ?_) (a' := ?_) #[true, true, true, true, true, true, true, true, true, true, true, false, true, true, false, false, false, false, false, false, false, false, false, false, false, false, false, false] rfl rfl (take_ofW HT_.out HW_.out (by kernel_rfl)) (fun _ _ _ h => h) (Or.inl ⟨by rfl, ?_⟩) hHeld ?_ ?_
              rotate_left
              · rintro w' ⟨s0, s1⟩
                go_simp
                with_reducible rfl
              rotate_left
              · simp only [Act.put, List.setIfInBounds_toArray, List.set_cons_zero, List.set_cons_succ, i64_w, i32_w]
                rfl
              refine one_ (i := 11) (N := some 119) #[true, true, true, true, true, true, true, true, true, true, true, true, true, true, false, false, false, false, false, false, false, false, false, false, false, false, false, false] rfl rfl (one_of HT_.out (by kernel_rfl)) (by decide) (fun K hK => ?_)
              obtain ⟨G_, hG_⟩ := HT_3.out.fst
              refine goes_ Try.func35 (by kernel_rfl) rfl #[.pointer (some ⟨p, 0, none⟩), .int .i64 1, .agg #[.int .i64 0, .int .i64 1099511627777]] (by rfl) rfl rfl (by simp only [List.map_toArray, List.map_cons, List.map_nil]; rfl) ?_
              with_reducible refine (taggs1_calls G_ p u 0 1099511627777 v3 hG_ HTK1.out).mono ?_
              rintro e v4 hh
              obtain ⟨u4_, rfl, ho, hv4⟩ := hh
              have HT_4 := Aside0.mk (HT_3.out.below hv4)
              have HV4 := Aside0.mk (show Below wc.drew.heap.size wc.drew v4 from HV3.out.trans (hv4.mono HV3.out.size))
              have k0 := bread hv4 hHeld.1
              have k1 := bread hv4 hHeld.2
              have HR_4 := Aside0.mk ho
              clear ho
              clear hv4
              clear HV3 HT_3
              refine ⟨_, rfl, ?_⟩
              refine hK.out _ _ ⟨k0, k1⟩ (fun hHeld => ?_)
              clear hK K
              refine norm_ (a' := ?_) ?_ ?_
              rotate_left
              · show Act.put _ (some 119) _ = _
                simp only [Act.put, List.setIfInBounds_toArray, List.set_cons_zero, List.set_cons_succ, i64_w, i32_w]
                rfl
              refine one_ (i := 14) (N := some 122) #[true, true, true, true, true, true, true, true, true, true, true, true, true, true, true, false, false, false, false, false, false, false, false, false, false, false, false, false] rfl rfl (one_of HT_.out (by kernel_rfl)) (by decide) (fun K hK => ?_)
              obtain ⟨G_, hG_⟩ := HT_4.out.swap.fst
              refine goes_ Try.func35 (by kernel_rfl) rfl #[.pointer (some ⟨q, 0, none⟩), .int .i64 1, .agg #[.int .i64 0, .int .i64 1099511627777]] (by rfl) rfl rfl (by simp only [List.map_toArray, List.map_cons, List.map_nil]; rfl) ?_
              with_reducible refine (taggs1_calls G_ q u 0 1099511627777 v4 hG_ HTK1.out).mono ?_
              rintro e v5 hh
              obtain ⟨u5_, rfl, ho, hv5⟩ := hh
              have HT_5 := Aside0.mk (HT_4.out.below hv5)
              have HV5 := Aside0.mk (show Below wc.drew.heap.size wc.drew v5 from HV4.out.trans (hv5.mono HV4.out.size))
              have k0 := bread hv5 hHeld.1
              have k1 := bread hv5 hHeld.2
              have HR_5 := Aside0.mk ho
              have HR_4 := Aside0.mk (own_kept (w' := v5) HR_4.out fun b hb => hv5.block b (HR_4.out.lt b hb).2)
              clear ho
              clear hv5
              clear HV4 HT_4
              refine ⟨_, rfl, ?_⟩
              refine hK.out _ _ ⟨k0, k1⟩ (fun hHeld => ?_)
              clear hK K
              refine norm_ (a' := ?_) ?_ ?_
              rotate_left
              · show Act.put _ (some 122) _ = _
                simp only [Act.put, List.setIfInBounds_toArray, List.set_cons_zero, List.set_cons_succ, i64_w, i32_w]
                rfl
              refine one_ (i := 15) (N := some 123) #[true, true, true, true, true, true, true, true, true, true, true, true, true, true, true, true, false, false, false, false, false, false, false, false, false, false, false, false] rfl rfl (one_of HT_.out (by kernel_rfl)) (by decide) (fun K hK => ?_)
              obtain ⟨G_, hG_⟩ := HT_5.out.fst
              refine goes_ Try.func34 (by kernel_rfl) rfl #[u4_, u5_] (by rfl) rfl rfl (by simp only [List.map_toArray, List.map_cons, List.map_nil]; rfl) ?_
              with_reducible refine (sameAggs_true _ _ u4_ u5_ _ v5 HR_4.out HR_5.out HLN.out.2.1).mono ?_
              rintro e v6 hh
              obtain ⟨rfl, hv6⟩ := hh
              have HT_6 := Aside0.mk (HT_5.out.below hv6)
              have HV6 := Aside0.mk (show Below wc.drew.heap.size wc.drew v6 from HV5.out.trans (hv6.mono HV5.out.size))
              have k0 := bread hv6 hHeld.1
              have k1 := bread hv6 hHeld.2
              clear HR_4 HR_5
              clear hv6
              clear HV5 HT_5
              refine ⟨_, rfl, ?_⟩
              refine hK.out _ _ ⟨k0, k1⟩ (fun hHeld => ?_)
              clear hK K
              refine norm_ (a' := ?_) ?_ ?_
              rotate_left
              · show Act.put _ (some 123) _ = _
                simp only [Act.put, List.setIfInBounds_toArray, List.set_cons_zero, List.set_cons_succ, i64_w, i32_w]
                rfl
              refine pure_ (i := 16) (N := some 124) (v := ?_) (a' := ?_) #[true, true, true, true, true, true, true, true, true, true, true, true, true, true, true, true, true, false, false, false, false, false, false, false, false, false, false, false] rfl rfl (any_of HT_.out (by kernel_rfl)) (fun _ _ _ h => h) (Or.inl ⟨by rfl, ?_⟩) ?_ ?_
              rotate_left
              · intro w'
                go_simp
                with_reducible rfl
              rotate_left
              · simp only [Act.put, List.setIfInBounds_toArray, List.set_cons_zero, List.set_cons_succ, i64_w, i32_w]
                rfl
              refine pure_ (i := 17) (N := some 125) (v := ?_) (a' := ?_) #[true, true, true, true, true, true, true, true, true, true, true, true, true, true, true, true, true, true, false, false, false, false, false, false, false, false, false, false] rfl rfl (any_of HT_.out (by kernel_rfl)) (fun _ _ _ h => h) (Or.inl ⟨by rfl, ?_⟩) ?_ ?_
              rotate_left
              · intro w'
                go_simp
                with_reducible rfl
              rotate_left
              · simp only [Act.put, List.setIfInBounds_toArray, List.set_cons_zero, List.set_cons_succ, i64_w, i32_w]
                rfl
              refine pure_ (i := 18) (N := some 126) (v := ?_) (a' := ?_) #[true, true, true, true, true, true, true, true, true, true, true, true, true, true, true, true, true, true, true, false, false, false, false, false, false, false, false, false] rfl rfl (any_of HT_.out (by kernel_rfl)) (fun _ _ _ h => h) (Or.inl ⟨by rfl, ?_⟩) ?_ ?_
              rotate_left
              · intro w'
                go_simp
                with_reducible rfl
              rotate_left
              · simp only [Act.put, List.setIfInBounds_toArray, List.set_cons_zero, List.set_cons_succ, i64_w, i32_w]
                rfl
              refine pure_ (i := 19) (N := some 127) (v := ?_) (a' := ?_) #[true, true, true, true, true, true, true, true, true, true, true, true, true, true, true, true, true, true, true, true, false, false, false, false, false, false, false, false] rfl rfl (any_of HT_.out (by kernel_rfl)) (fun _ _ _ h => h) (Or.inl ⟨by rfl, ?_⟩) ?_ ?_
              rotate_left
              · intro w'
                go_simp
                with_reducible rfl
              rotate_left
              · simp only [Act.put, List.setIfInBounds_toArray, List.set_cons_zero, List.set_cons_succ, i64_w, i32_w]
                rfl
              refine pure_ (i := 22) (N := some 130) (v := ?_) (a' := ?_) #[true, true, true, true, true, true, true, true, true, true, true, true, true, true, true, true, true, true, true, true, false, false, true, false, false, false, false, false] rfl rfl (any_of HT_.out (by kernel_rfl)) (fun _ _ _ h => h) (Or.inl ⟨by rfl, ?_⟩) ?_ ?_
              rotate_left
              · intro w'
                go_simp
                with_reducible rfl
              rotate_left
              · simp only [Act.put, List.setIfInBounds_toArray, List.set_cons_zero, List.set_cons_succ, i64_w, i32_w]
                rfl
              refine take_ (i := 20) (N := some 128) (v := ?_) (a' := ?_) #[true, true, true, true, true, true, true, true, true, true, true, true, true, true, true, true, true, true, true, true, true, false, true, false, false, false, false, false] rfl rfl (take_ofW HT_.out HW_.out (by kernel_rfl)) (fun _ _ _ h => h) (Or.inl ⟨by rfl, ?_⟩) hHeld ?_ ?_
              rotate_left
              · rintro w' ⟨s0, s1⟩
                go_simp
                with_reducible rfl
              rotate_left
              · simp only [Act.put, List.setIfInBounds_toArray, List.set_cons_zero, List.set_cons_succ, i64_w, i32_w]
                rfl
              refine take_ (i := 23) (N := some 131) (v := ?_) (a' := ?_) #[true, true, true, true, true, true, true, true, true, true, true, true, true, true, true, true, true, true, true, true, true, false, true, true, false, false, false, false] rfl rfl (take_ofW HT_.out HW_.out (by kernel_rfl)) (fun _ _ _ h => h) (Or.inl ⟨by rfl, ?_⟩) hHeld ?_ ?_
              rotate_left
              · rintro w' ⟨s0, s1⟩
                go_simp
                with_reducible rfl
              rotate_left
              · simp only [Act.put, List.setIfInBounds_toArray, List.set_cons_zero, List.set_cons_succ, i64_w, i32_w]
                rfl
              refine one_ (i := 21) (N := some 129) #[true, true, true, true, true, true, true, true, true, true, true, true, true, true, true, true, true, true, true, true, true, true, true, true, false, false, false, false] rfl rfl (one_of HT_.out (by kernel_rfl)) (by decide) (fun K hK => ?_)
              obtain ⟨G_, hG_⟩ := HT_6.out.fst
              refine goes_ Try.func35 (by kernel_rfl) rfl #[.pointer (some ⟨p, 0, none⟩), .int .i64 2, .agg #[.int .i64 0, .int .i64 1099511627777]] (by rfl) rfl rfl (by simp only [List.map_toArray, List.map_cons, List.map_nil]; rfl) ?_
              with_reducible refine (taggs2_calls G_ p u 0 1099511627777 v6 hG_ HTK2.out).mono ?_
              rintro e v7 hh
              obtain ⟨u7_, rfl, ho, hv7⟩ := hh
              have HT_7 := Aside0.mk (HT_6.out.below hv7)
              have HV7 := Aside0.mk (show Below wc.drew.heap.size wc.drew v7 from HV6.out.trans (hv7.mono HV6.out.size))
              have k0 := bread hv7 hHeld.1
              have k1 := bread hv7 hHeld.2
              have HR_7 := Aside0.mk ho
              clear ho
              clear hv7
              clear HV6 HT_6
              refine ⟨_, rfl, ?_⟩
              refine hK.out _ _ ⟨k0, k1⟩ (fun hHeld => ?_)
              clear hK K
              refine norm_ (a' := ?_) ?_ ?_
              rotate_left
              · show Act.put _ (some 129) _ = _
                simp only [Act.put, List.setIfInBounds_toArray, List.set_cons_zero, List.set_cons_succ, i64_w, i32_w]
                rfl
              refine one_ (i := 24) (N := some 132) #[true, true, true, true, true, true, true, true, true, true, true, true, true, true, true, true, true, true, true, true, true, true, true, true, true, false, false, false] rfl rfl (one_of HT_.out (by kernel_rfl)) (by decide) (fun K hK => ?_)
              obtain ⟨G_, hG_⟩ := HT_7.out.swap.fst
              refine goes_ Try.func35 (by kernel_rfl) rfl #[.pointer (some ⟨q, 0, none⟩), .int .i64 2, .agg #[.int .i64 0, .int .i64 1099511627777]] (by rfl) rfl rfl (by simp only [List.map_toArray, List.map_cons, List.map_nil]; rfl) ?_
              with_reducible refine (taggs2_calls G_ q u 0 1099511627777 v7 hG_ HTK2.out).mono ?_
              rintro e v8 hh
              obtain ⟨u8_, rfl, ho, hv8⟩ := hh
              have HT_8 := Aside0.mk (HT_7.out.below hv8)
              have HV8 := Aside0.mk (show Below wc.drew.heap.size wc.drew v8 from HV7.out.trans (hv8.mono HV7.out.size))
              have k0 := bread hv8 hHeld.1
              have k1 := bread hv8 hHeld.2
              have HR_8 := Aside0.mk ho
              have HR_7 := Aside0.mk (own_kept (w' := v8) HR_7.out fun b hb => hv8.block b (HR_7.out.lt b hb).2)
              clear ho
              clear hv8
              clear HV7 HT_7
              refine ⟨_, rfl, ?_⟩
              refine hK.out _ _ ⟨k0, k1⟩ (fun hHeld => ?_)
              clear hK K
              refine norm_ (a' := ?_) ?_ ?_
              rotate_left
              · show Act.put _ (some 132) _ = _
                simp only [Act.put, List.setIfInBounds_toArray, List.set_cons_zero, List.set_cons_succ, i64_w, i32_w]
                rfl
              refine one_ (i := 25) (N := some 133) #[true, true, true, true, true, true, true, true, true, true, true, true, true, true, true, true, true, true, true, true, true, true, true, true, true, true, false, false] rfl rfl (one_of HT_.out (by kernel_rfl)) (by decide) (fun K hK => ?_)
              obtain ⟨G_, hG_⟩ := HT_8.out.fst
              refine goes_ Try.func34 (by kernel_rfl) rfl #[u7_, u8_] (by rfl) rfl rfl (by simp only [List.map_toArray, List.map_cons, List.map_nil]; rfl) ?_
              with_reducible refine (sameAggs_true _ _ u7_ u8_ _ v8 HR_7.out HR_8.out HLN.out.2.2).mono ?_
              rintro e v9 hh
              obtain ⟨rfl, hv9⟩ := hh
              have HT_9 := Aside0.mk (HT_8.out.below hv9)
              have HV9 := Aside0.mk (show Below wc.drew.heap.size wc.drew v9 from HV8.out.trans (hv9.mono HV8.out.size))
              have k0 := bread hv9 hHeld.1
              have k1 := bread hv9 hHeld.2
              clear HR_7 HR_8
              clear hv9
              clear HV8 HT_8
              refine ⟨_, rfl, ?_⟩
              refine hK.out _ _ ⟨k0, k1⟩ (fun hHeld => ?_)
              clear hK K
              refine norm_ (a' := ?_) ?_ ?_
              rotate_left
              · show Act.put _ (some 133) _ = _
                simp only [Act.put, List.setIfInBounds_toArray, List.set_cons_zero, List.set_cons_succ, i64_w, i32_w]
                rfl
              refine pure_ (i := 26) (N := some 134) (v := ?_) (a' := ?_) #[true, true, true, true, true, true, true, true, true, true, true, true, true, true, true, true, true, true, true, true, true, true, true, true, true, true, true, false] rfl rfl (any_of HT_.out (by kernel_rfl)) (fun _ _ _ h => h) (Or.inl ⟨by rfl, ?_⟩) ?_ ?_
              rotate_left
              · intro w'
                go_simp
                with_reducible rfl
              rotate_left
              · simp only [Act.put, List.setIfInBounds_toArray, List.set_cons_zero, List.set_cons_succ, i64_w, i32_w]
                rfl
              refine pure_ (i := 27) (N := some 135) (v := ?_) (a' := ?_) #[true, true, true, true, true, true, true, true, true, true, true, true, true, true, true, true, true, true, true, true, true, true, true, true, true, true, true, true] rfl rfl (any_of HT_.out (by kernel_rfl)) (fun _ _ _ h => h) (Or.inl ⟨by rfl, ?_⟩) ?_ ?_
              rotate_left
              · intro w'
                go_simp
                with_reducible rfl
              rotate_left
              · simp only [Act.put, List.setIfInBounds_toArray, List.set_cons_zero, List.set_cons_succ, i64_w, i32_w]
                rfl
              refine done_ (done_of HT_.out (by kernel_rfl)) ?_
              have HTE := Aside0.mk (HT.out.below (show Below wc.heap.size wc v9 from ((Below.refl _ _).drew).trans HV9.out))
              have HBE := Aside0.mk (HB.out.trans ((((Below.refl wc.heap.size wc).drew).trans HV9.out).mono (by rw [HBB.out.1]; exact HB.out.size)))
              have HEE := Aside0.mk (show v9.heap[E]? = some (.cells #[.int .i64 0, .int .i64 1099511627777] 42 (0, 0)) from (HV9.out.block E (blk_lt HE.out)).trans HE.out)
              clear HT HB HE HV9 HTW q0 q1 hHeld
              go_wp2_with fail
              go_roundw
              case rel => exact ⟨j + 1, u, by omega, by first | (rw [← hw1]; done) | (congr 1; omega) | (rw [hvi]; congr 1; omega), HGU, HTE, HBE, HEE⟩
              case measure => simp [intOf]; omega
          · have d1 : decide ((j : Int) - 1 < (L2.length : Int)) = false := decide_eq_false (by omega)
            go_wp2
            go_ret
            exact ⟨rfl, HBW.out.trans (HB.out.mono HBB.out.2.1)⟩
end Go.Proofs.Ytnjdngjlbonieaa
