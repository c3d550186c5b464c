/- TierRestores, walked. -/
import Derived.Test.YtnjdngjlbonieaaTierZ
import Derived.Deep.Cut
import Derived.Deep.CutRange
import Derived.Deep.DeepCutAuto
import Derived.Deep.CutBlock
import Derived.Lib.Hide
import Derived.LoopTactic
import Derived.Outline
import Derived.Laws.Rows
import Derived.Laws.CopyOwn
import Derived.WalkKit
set_option linter.unusedVariables false
set_option linter.unusedSimpArgs false
namespace Go.Proofs.Ytnjdngjlbonieaa
open Go.RowKit Go.Proofs.YtnjdngjlbonieaaW.PrintWords Go.Proofs.YtnjdngjlbonieaaW.PrintLast Go.Proofs.YtnjdngjlbonieaaW.PrintMore
open Go.Proofs.Ytnjdngjlbonieaa.PTierForgets
attribute [local go_sem] max2_int min2_int max_two min_two max_three min_three max_four min_four

theorem TwoX.lt {B p q : Nat} {X : Nat → Prop} {s t : Stk} {w : World} (h : TwoX B p q X s t w) {b : Nat} (hb : X b) : b < w.heap.size := by
  obtain ⟨F, G, _, _, _, _, _, h6⟩ := h
  exact h6 b hb
def law10r.T25 : Bool × List (List Nat × List Nat) := (true, [([], []), ([], []), ([0, 1], [0, 1]), ([2], [2]), ([3], [3]), ([3], [3]), ([4, 5, 3, 3], [3, 4, 5]), ([3], [3]), ([3], [3]), ([7, 8, 6, 3], [3, 7, 8]), ([6, 9, 9, 3], [3, 6, 9]), ([10, 3], [3, 10]), ([3, 11], [3, 11]), ([12, 10], [12]), ([13], [13]), ([13], [13]), ([14, 15, 13, 13], [13, 14, 15]), ([13], [13]), ([13], [13]), ([17, 18, 16, 13], [13, 17, 18]), ([16, 19, 19, 13], [13, 16, 19]), ([20, 13], [13, 20]), ([13, 21], [13, 21]), ([22, 20], [22]), ([23], [23]), ([23], [23]), ([24, 25, 23, 23], [23, 24, 25]), ([23], [23]), ([23], [23]), ([27, 28, 26, 23], [23, 27, 28]), ([26, 29, 29, 23], [23, 26, 29]), ([30, 23], [23, 30]), ([23, 31], [23, 31])])
def law10r.B25 : List Nat := [0, 0, 3, 7, 15, 15, 63, 15, 15, 511, 1023, 2047, 4095, 8191, 16383, 16383, 65535, 16383, 16383, 524287, 1048575, 2097151, 4194303, 8388607, 16777215, 16777215, 67108863, 16777215, 16777215, 536870911, 1073741823, 2147483647, 4294967295]
theorem law10r.tab25 : rtab .any (opsOf Try.f10 25) = law10r.T25 := by kernel_rfl
theorem law10r.bits25 : waitsOk law10r.T25.2 law10r.B25 = true := by kernel_rfl
def law10s.T40 : Bool × List (List Nat × List Nat) := (true, [([], []), ([0], [0]), ([], []), ([1, 2], [1, 2]), ([3], [3]), ([4], [4]), ([5, 4], [4, 5]), ([4, 6], [4, 6]), ([7, 4], [7]), ([8], [8]), ([9, 8], [8, 9]), ([8, 10], [8, 10]), ([11, 8], [11]), ([12], [12]), ([13, 12, 12], [12, 13]), ([12], [12]), ([15, 14, 12], [12, 15]), ([14, 16, 12], [12, 14, 16]), ([12], [12]), ([12], [12]), ([18, 19, 16, 12], [12, 18, 19]), ([17, 20, 12], [12, 17, 20]), ([12], [12]), ([12], [12]), ([22, 23, 20, 12], [12, 22, 23]), ([24, 12], [12, 24]), ([21, 25, 12], [12, 21, 25]), ([12], [12]), ([12], [12]), ([27, 28, 24, 12], [12, 27, 28]), ([29, 12], [12, 29]), ([26, 30, 12], [12, 26, 30]), ([31, 12], [12, 31]), ([12, 32], [12, 32]), ([33, 29], [33]), ([34], [34]), ([35, 34, 34], [34, 35]), ([36, 34], [34, 36]), ([34, 37], [34, 37]), ([38, 36, 0, 1, 2, 3, 4, 5, 6, 7, 8, 9, 10, 11, 12, 13, 14, 15, 16, 17, 18, 19, 20, 21, 22, 23, 24, 25, 26, 27, 28, 29, 30, 31, 32, 33, 34, 35, 36, 37, 38], [38])])
def law10s.B40 : List Nat := [0, 1, 0, 7, 15, 31, 63, 127, 255, 511, 1023, 2047, 4095, 8191, 16383, 8191, 65535, 131071, 8191, 8191, 917503, 2097151, 8191, 8191, 14548991, 31326207, 67108863, 8191, 8191, 433979391, 970850303, 2147483647, 4294967295, 8589934591, 17179869183, 34359738367, 68719476735, 137438953471, 274877906943, 549755813887]
theorem law10s.tab40 : rtab .any (opsOf Try.f10 40) = law10s.T40 := by kernel_rfl
theorem law10s.bits40 : waitsOk law10s.T40.2 law10s.B40 = true := by kernel_rfl
set_option maxRecDepth 100000 in
set_option maxHeartbeats 64000000 in
theorem law10_calls (A : Option Addr) (ca : Nat) (L : List ActT) (A2 : Option Addr) (ca2 : Nat) (L2 : List ActT) (mk : Int) (hmk : -9223372036854775808 ≤ mk ∧ mk ≤ 9223372036854775807) (w : World) (h : SrcT A L w) (h2 : SrcT A2 L2 w) :
    Calls Try.prog 10 #[.slice A L.length ca, .slice A2 L2.length ca2, .int .i64 mk] w fun e w' => e = .returned (.bool true) ∧ Below w.heap.size w w' := by
  have HLV := Lib.hid (fun W => lives16_calls W)
  have hu42 := Try.underlying42
  have hu70 := Try.underlying70
  have hu72 := Try.underlying72
  have hu31 := Try.underlying31
  have HL := Aside0.mk h
  have HL2 := Aside0.mk h2
  have HMK := Aside0.mk hmk
  clear h h2 hmk
  go_enter Try.func10, Try.ntmps10
  go_wp2_with fail
  refine (HLV.out _).mono ?_
  rintro e w1 ⟨rfl, h1⟩
  have HB1 := Aside0.mk h1
  clear h1
  have HF1 := Aside0.mk (few_calls A ca L w1 (HL.out.below HB1.out))
  obtain ⟨f1, hf1⟩ : ∃ f, f = fewB L := ⟨_, rfl⟩
  rw [← hf1] at HF1
  have HFE1 := Aside0.mk hf1
  clear hf1
  go_wp2_with fail
  refine HF1.out.mono ?_
  rintro e w2 ⟨rfl, h2⟩
  have HB2 := Aside0.mk (HB1.out.trans (h2.mono HB1.out.size))
  clear h2 HF1 HB1
  cases f1 with
  | false =>
    go_wp2_with fail
    refine (HLV.out _).mono ?_
    rintro e w9 ⟨rfl, h9⟩
    have HB9 := Aside0.mk (HB2.out.trans (h9.mono HB2.out.size))
    clear h9
    go_wp2
    go_ret
    exact ⟨rfl, HB9.out⟩
  | true =>
    have HF2 := Aside0.mk (few_calls A2 ca2 L2 w2 (HL2.out.below HB2.out))
    obtain ⟨f2, hf2⟩ : ∃ f, f = fewB L2 := ⟨_, rfl⟩
    rw [← hf2] at HF2
    have HFE2 := Aside0.mk hf2
    clear hf2
    go_wp2_with fail
    refine HF2.out.mono ?_
    rintro e w3 ⟨rfl, h3⟩
    have HB3 := Aside0.mk (HB2.out.trans (h3.mono HB2.out.size))
    clear h3 HF2 HB2
    cases f2 with
    | false =>
      go_wp2_with fail
      refine (HLV.out _).mono ?_
      rintro e w9 ⟨rfl, h9⟩
      have HB9 := Aside0.mk (HB3.out.trans (h9.mono HB3.out.size))
      clear h9
      go_wp2
      go_ret
      exact ⟨rfl, HB9.out⟩
    | true =>
      have HPL1 := Aside0.mk (play_calls A ca L 46 #[] (fun p => p) w3 (HL.out.below HB3.out) HFE1.out.symm (fun W _ p => by simpa using idK46_calls p W) run46)
      go_wp2_with fail
      refine HPL1.out.mono ?_
      rintro e w4 ⟨p, rfl, ho4, h4⟩
      have HB4 := Aside0.mk (HB3.out.trans (h4.mono HB3.out.size))
      have HO4 := Aside0.mk (ho4.mono HB3.out.size)
      have hgd := play_good (fun p => p) L
      obtain ⟨s, hs⟩ : ∃ s, s = playT (fun p => p) L := ⟨_, rfl⟩
      rw [← hs] at HO4 hgd
      have HG := Aside0.mk hgd
      clear ho4 h4 HPL1 HB3 hs hgd
      obtain ⟨W5, hW5⟩ : ∃ W, W = w4.alloc (.cells #[.int .i64 0, .int .i64 1099511627777] 42) := ⟨_, rfl⟩
      obtain ⟨E, hE⟩ : ∃ E, E = w4.heap.size := ⟨_, rfl⟩
      have HK5 := Aside0.mk (show Below w4.heap.size w4 W5 by rw [hW5]; exact (Below.refl _ _).alloc (Nat.le_refl _) _)
      have HE5 := Aside0.mk (show W5.heap[E]? = some (.cells #[.int .i64 0, .int .i64 1099511627777] 42 (0, 0)) by rw [hW5, hE]; exact blk_new w4 _)
      have HEB := Aside0.mk (show w4.heap.size ≤ E by rw [hE]; exact Nat.le_refl _)
      go_upto_region 5 with (fail)
      rw [← hW5, ← hE]
      clear hW5 hE
      obtain ⟨F, hF1, hF4⟩ := HO4.out
      have HF := Lib.hid (And.intro hF1 hF4)
      have HMA := Aside0.mk (tmark1_calls F p s W5 (hF1.below HK5.out))
      clear hF1 hF4
      go_wp2_with fail
      refine HMA.out.mono ?_
      rintro e w6 ⟨rfl, h6⟩
      have HK6 := Aside0.mk (HK5.out.trans (h6.mono HK5.out.size))
      have HE6 := Aside0.mk (show w6.heap[E]? = _ from (h6.block E (blk_lt HE5.out)).trans HE5.out)
      clear h6 HK5 HE5 HMA
      have HMA := Aside0.mk (tmark2_calls F p s w6 (HF.out.1.below HK6.out))
      go_wp2_with fail
      refine HMA.out.mono ?_
      rintro e w7 ⟨rfl, h7⟩
      obtain ⟨W8, hW8⟩ : ∃ W, W = w7.alloc (.cells #[.int .i64 0, .int .i64 s.m1, .int .i64 s.m2] 72) := ⟨_, rfl⟩
      obtain ⟨M, hM⟩ : ∃ M, M = w7.heap.size := ⟨_, rfl⟩
      have hk7 : Below w4.heap.size w4 w7 := HK6.out.trans (h7.mono HK6.out.size)
      have HK8 := Aside0.mk (show Below w4.heap.size w4 W8 by rw [hW8]; exact hk7.alloc hk7.size _)
      have HE8 := Aside0.mk (show W8.heap[E]? = some (.cells #[.int .i64 0, .int .i64 1099511627777] 42 (0, 0)) by rw [hW8]; exact blk_alloc ((h7.block E (blk_lt HE6.out)).trans HE6.out) _)
      have HM8 := Aside0.mk (show W8.heap[M]? = some (.cells #[.int .i64 0, .int .i64 s.m1, .int .i64 s.m2] 72 (0, 0)) by rw [hW8, hM]; exact blk_new w7 _)
      have HMB := Aside0.mk (show w4.heap.size ≤ M by rw [hM]; exact hk7.size)
      clear h7 hk7 HK6 HE6 HMA
      go_upto_region 6 with (fail)
      rw [← hW8, ← hM]
      clear hW8 hM
      have q0 : W8.cell? ⟨E, 0, none⟩ = some (.int .i64 0) := blk_cell HE8.out 0
      have q1 : W8.cell? ⟨E, 1, none⟩ = some (.int .i64 1099511627777) := blk_cell HE8.out 1
      have q2 := HE8.out
      have q3 := HM8.out
      have e1 : inR 0 1099511627777 s.raw = s.raw := inR_all HG.out.tick (by decide)
      have e2 : aggR 300 0 1099511627777 s.a1 = s.a1 := aggR_all (.inl rfl) HG.out.g1
      have e3 : aggR 3600 0 1099511627777 s.a2 = s.a2 := aggR_all (.inr rfl) HG.out.g2
      have HP1 := Lib.hid (fun (W : World) (h : IsStk F p s W) => tpoints_calls F p s 0 1099511627777 W h)
      have HP2 := Lib.hid (fun (W : World) (h : IsStk F p s W) => taggs1_calls F p s 0 1099511627777 W h HG.out.g1.tk)
      have HP3 := Lib.hid (fun (W : World) (h : IsStk F p s W) => taggs2_calls F p s 0 1099511627777 W h HG.out.g2.tk)
      rw [e1] at HP1
      rw [e2] at HP2
      rw [e3] at HP3
      have HK8D := Aside0.mk HK8.out.drew
      clear e1 e2 e3 q2 q3
      go_wp2_with fail
      refine start_ (n := 12) (S := fun w' => (w'.cell? ⟨E, 0, none⟩ = some (.int .i64 0)) ∧ (w'.cell? ⟨E, 1, none⟩ = some (.int .i64 1099511627777)) ∧ (w'.heap[E]? = some (.cells #[.int .i64 0, .int .i64 1099511627777] 42 (0, 0))) ∧ (w'.heap[M]? = some (.cells #[.int .i64 0, .int .i64 s.m1, .int .i64 s.m2] 72 (0, 0)))) (ds := []) (bA 12 0) (by kernel_rfl) rfl (by kernel_rfl) ⟨q0, q1, HE8.out, HM8.out⟩ (fun hHeld => ?_)
      refine pure_ (i := 0) (N := some 51) (v := ?_) (a' := ?_) (bA 12 1) rfl rfl (by kernel_rfl) (fun _ _ _ h => h) (Or.inl ⟨by rfl, ?_⟩) ?_ ?_
      rotate_left; · intro w'; go_simp; with_reducible rfl
      rotate_left; · simp only [Act.put, List.setIfInBounds_toArray, List.set_cons_zero, List.set_cons_succ, i64_w, i32_w]; rfl
      refine pure_ (i := 3) (N := some 54) (v := ?_) (a' := ?_) (bA 12 9) rfl rfl (by kernel_rfl) (fun _ _ _ h => h) (Or.inl ⟨by rfl, ?_⟩) ?_ ?_
      rotate_left; · intro w'; go_simp; with_reducible rfl
      rotate_left; · simp only [Act.put, List.setIfInBounds_toArray, List.set_cons_zero, List.set_cons_succ, i64_w, i32_w]; rfl
      refine pure_ (i := 6) (N := some 57) (v := ?_) (a' := ?_) (bA 12 73) rfl rfl (by kernel_rfl) (fun _ _ _ h => h) (Or.inl ⟨by rfl, ?_⟩) ?_ ?_
      rotate_left; · intro w'; go_simp; with_reducible rfl
      rotate_left; · simp only [Act.put, List.setIfInBounds_toArray, List.set_cons_zero, List.set_cons_succ, i64_w, i32_w]; rfl
      refine take_ (i := 1) (N := some 52) (v := ?_) (a' := ?_) (bA 12 75) rfl rfl (by kernel_rfl) (fun _ _ _ h => h) (Or.inl ⟨by rfl, ?_⟩) hHeld ?_ ?_
      rotate_left; · rintro w' ⟨s0, s1, s2, s3⟩; go_simp; with_reducible rfl
      rotate_left; · simp only [Act.put, List.setIfInBounds_toArray, List.set_cons_zero, List.set_cons_succ, i64_w, i32_w]; rfl
      refine take_ (i := 4) (N := some 55) (v := ?_) (a' := ?_) (bA 12 91) rfl rfl (by kernel_rfl) (fun _ _ _ h => h) (Or.inl ⟨by rfl, ?_⟩) hHeld ?_ ?_
      rotate_left; · rintro w' ⟨s0, s1, s2, s3⟩; go_simp; with_reducible rfl
      rotate_left; · simp only [Act.put, List.setIfInBounds_toArray, List.set_cons_zero, List.set_cons_succ, i64_w, i32_w]; rfl
      refine take_ (i := 7) (N := some 58) (v := ?_) (a' := ?_) (bA 12 219) rfl rfl (by kernel_rfl) (fun _ _ _ h => h) (Or.inl ⟨by rfl, ?_⟩) hHeld ?_ ?_
      rotate_left; · rintro w' ⟨s0, s1, s2, s3⟩; go_simp; with_reducible rfl
      rotate_left; · simp only [Act.put, List.setIfInBounds_toArray, List.set_cons_zero, List.set_cons_succ, i64_w, i32_w]; rfl
      refine one_ (i := 2) (N := some 53) (bA 12 223) rfl rfl (by kernel_rfl) (by decide) (fun K hK => ?_)
      refine goes_ Try.func45 (by kernel_rfl) rfl #[.pointer (some ⟨p, 0, none⟩), .agg #[.int .i64 0, .int .i64 1099511627777]] (by rfl) rfl rfl (by simp only [List.map_toArray, List.map_cons, List.map_nil]; rfl) ?_
      with_reducible refine (HP1.out W8.drew (HF.out.1.below HK8D.out)).mono ?_
      rintro e w9 hh
      obtain ⟨u9, rfl, ho, hv⟩ := hh
      have HK9 := Aside0.mk (HK8D.out.trans (hv.mono HK8D.out.size))
      have HU9 := Aside0.mk (row_mono ho HK8D.out.size)
      have k0 := bread hv hHeld.1
      have k1 := bread hv hHeld.2.1
      have k2 := (hv.block E (blk_lt hHeld.2.2.1)).trans hHeld.2.2.1
      have k3 := (hv.block M (blk_lt hHeld.2.2.2)).trans hHeld.2.2.2
      clear ho hv
      refine ⟨_, rfl, ?_⟩
      refine hK.out _ _ ⟨k0, k1, k2, k3⟩ (fun hHeld => ?_)
      clear hK K
      refine norm_ (a' := ?_) ?_ ?_
      rotate_left; · show Act.put _ (some 53) _ = _; simp only [Act.put, List.setIfInBounds_toArray, List.set_cons_zero, List.set_cons_succ, i64_w, i32_w]; rfl
      refine one_ (i := 5) (N := some 56) (bA 12 255) rfl rfl (by kernel_rfl) (by decide) (fun K hK => ?_)
      refine goes_ Try.func35 (by kernel_rfl) rfl #[.pointer (some ⟨p, 0, none⟩), .int .i64 1, .agg #[.int .i64 0, .int .i64 1099511627777]] (by rfl) rfl rfl (by simp only [List.map_toArray, List.map_cons, List.map_nil]; rfl) ?_
      with_reducible refine (HP2.out w9 (HF.out.1.below HK9.out)).mono ?_
      rintro e w10 hh
      obtain ⟨u10, rfl, ho, hv⟩ := hh
      have HK10 := Aside0.mk (HK9.out.trans (hv.mono HK9.out.size))
      have HU10 := Aside0.mk (row_mono ho HK9.out.size)
      have HU9 := Aside0.mk (own_kept (w' := w10) HU9.out fun b hb => hv.block b (HU9.out.lt b hb).2)
      have k0 := bread hv hHeld.1
      have k1 := bread hv hHeld.2.1
      have k2 := (hv.block E (blk_lt hHeld.2.2.1)).trans hHeld.2.2.1
      have k3 := (hv.block M (blk_lt hHeld.2.2.2)).trans hHeld.2.2.2
      clear ho hv
      refine ⟨_, rfl, ?_⟩
      refine hK.out _ _ ⟨k0, k1, k2, k3⟩ (fun hHeld => ?_)
      clear hK K
      refine norm_ (a' := ?_) ?_ ?_
      rotate_left; · show Act.put _ (some 56) _ = _; simp only [Act.put, List.setIfInBounds_toArray, List.set_cons_zero, List.set_cons_succ, i64_w, i32_w]; rfl
      refine one_ (i := 8) (N := some 59) (bA 12 511) rfl rfl (by kernel_rfl) (by decide) (fun K hK => ?_)
      refine goes_ Try.func35 (by kernel_rfl) rfl #[.pointer (some ⟨p, 0, none⟩), .int .i64 2, .agg #[.int .i64 0, .int .i64 1099511627777]] (by rfl) rfl rfl (by simp only [List.map_toArray, List.map_cons, List.map_nil]; rfl) ?_
      with_reducible refine (HP3.out w10 (HF.out.1.below HK10.out)).mono ?_
      rintro e w11 hh
      obtain ⟨u11, rfl, ho, hv⟩ := hh
      have HK11 := Aside0.mk (HK10.out.trans (hv.mono HK10.out.size))
      have HU11 := Aside0.mk (row_mono ho HK10.out.size)
      have HU9 := Aside0.mk (own_kept (w' := w11) HU9.out fun b hb => hv.block b (HU9.out.lt b hb).2)
      have HU10 := Aside0.mk (own_kept (w' := w11) HU10.out fun b hb => hv.block b (HU10.out.lt b hb).2)
      have k0 := bread hv hHeld.1
      have k1 := bread hv hHeld.2.1
      have k2 := (hv.block E (blk_lt hHeld.2.2.1)).trans hHeld.2.2.1
      have k3 := (hv.block M (blk_lt hHeld.2.2.2)).trans hHeld.2.2.2
      clear ho hv
      refine ⟨_, rfl, ?_⟩
      refine hK.out _ _ ⟨k0, k1, k2, k3⟩ (fun hHeld => ?_)
      clear hK K
      refine norm_ (a' := ?_) ?_ ?_
      rotate_left; · show Act.put _ (some 59) _ = _; simp only [Act.put, List.setIfInBounds_toArray, List.set_cons_zero, List.set_cons_succ, i64_w, i32_w]; rfl
      refine pure_ (i := 9) (N := some 10) (v := ?_) (a' := ?_) (bA 12 1023) rfl rfl (by kernel_rfl) (fun _ _ _ h => h) (Or.inl ⟨by rfl, ?_⟩) ?_ ?_
      rotate_left; · intro w'; go_simp; with_reducible rfl
      rotate_left; · simp only [Act.put, List.setIfInBounds_toArray, List.set_cons_zero, List.set_cons_succ, i64_w, i32_w]; rfl
      refine pure_ (i := 10) (N := some 11) (v := ?_) (a' := ?_) (bA 12 2047) rfl rfl (by kernel_rfl) (fun _ _ _ h => h) (Or.inl ⟨by rfl, ?_⟩) ?_ ?_
      rotate_left; · intro w'; go_simp; with_reducible rfl
      rotate_left; · simp only [Act.put, List.setIfInBounds_toArray, List.set_cons_zero, List.set_cons_succ, i64_w, i32_w]; rfl
      refine pure_ (i := 11) (N := some 12) (v := ?_) (a' := ?_) (bA 12 4095) rfl rfl (by kernel_rfl) (fun _ _ _ h => h) (Or.inl ⟨by rfl, ?_⟩) ?_ ?_
      rotate_left; · intro w'; go_simp; with_reducible rfl
      rotate_left; · simp only [Act.put, List.setIfInBounds_toArray, List.set_cons_zero, List.set_cons_succ, i64_w, i32_w]; rfl
      refine done_ (by kernel_rfl) ?_
      have hc0 := hHeld.2.2.1
      have hcm := hHeld.2.2.2
      have HE11 := Aside0.mk hc0
      have HM11 := Aside0.mk hcm
      have t0 : w11.cell? ⟨M, 0, none⟩ = some (.int .i64 0) := blk_cell hcm 0
      have t1 : w11.cell? ⟨M, 1, none⟩ = some (.int .i64 s.m1) := blk_cell hcm 1
      have t2 : w11.cell? ⟨M, 2, none⟩ = some (.int .i64 s.m2) := blk_cell hcm 2
      obtain ⟨Ap, cp, rfl⟩ := row_form HU9.out
      obtain ⟨Am, cm, rfl⟩ := row_form HU10.out
      have HKP := Aside0.mk (kdC_of HU9.out (by have := HG.out.len; omega)).1
      have HRS := Aside0.mk (restore_calls s HG.out Ap cp _ _ _ u11 s.m1 (by have := HG.out.low; have := HG.out.le; have := HG.out.up; omega) w11 HKP.out HU10.out HU11.out)
      have HB11 := Aside0.mk (HB4.out.trans (HK11.out.mono HB4.out.size))
      have HO11 := Aside0.mk (show OwnS w.heap.size p s w4 from ⟨F, HF.out⟩)
      clear hc0 hcm hHeld q0 q1 HK8 HK8D HK9 HK10 HE8 HM8 HP1 HP2 HP3 HO4
      go_wp2_with fail
      refine HRS.out.mono ?_
      rintro e w12 hr
      obtain ⟨q, rfl, ho12, h12⟩ : ∃ q, e = .returned (.tuple #[.pointer (some ⟨q, 0, none⟩), .int .i64 0]) ∧ OwnS w11.heap.size q s w12 ∧ Below w11.heap.size w11 w12 := by
        rcases hr with ⟨_, q, rfl, ho12, h12⟩ | ⟨hf, _, _⟩
        · exact ⟨q, rfl, ho12, h12⟩
        · rw [fine_self HG.out] at hf; cases hf
      obtain ⟨C, hC⟩ : ∃ C, C = w4.heap.size := ⟨_, rfl⟩
      obtain ⟨D, hD⟩ : ∃ D, D = w11.heap.size := ⟨_, rfl⟩
      have HT12 := Aside0.mk (show TwoX w.heap.size p q (fun b => C ≤ b ∧ b < D) s s w12 by rw [hC, hD]; exact TwoX.of2 HO11.out HK11.out ho12 h12 HB4.out.size)
      have HB12 := Aside0.mk (HB11.out.trans (h12.mono HB11.out.size))
      have HX12 := Lib.hid (show ∀ b, C ≤ b → b < D → w12.heap[b]? = w11.heap[b]? from fun b _ hb => h12.block b (by rw [← hD]; exact hb))
      have HCD := Aside0.mk (show C ≤ E ∧ E < D ∧ C ≤ M ∧ M < D by
        have h3 := blk_lt HE11.out
        have h4 := blk_lt HM11.out
        have h5 := HEB.out
        have h6 := HMB.out
        omega)
      rw [← hC] at HU9 HU10 HU11
      have HUD := Lib.hid (show (∀ g, (Value.slice Ap s.raw.length cp).ownBlock = some g → g < D) ∧ (∀ g, (Value.slice Am s.a1.length cm).ownBlock = some g → g < D) ∧ (∀ g, u11.ownBlock = some g → g < D) by
        rw [hD]
        exact ⟨fun g hg => (HU9.out.lt g hg).2, fun g hg => (HU10.out.lt g hg).2, fun g hg => (HU11.out.lt g hg).2⟩)
      have HSS := Aside0.mk HG.out
      clear ho12 h12 hr HRS HKP HK11 HF HO11 HB11 HEB HMB hC hD t0 t1 t2 HB4
      have hl30 : L2.length ≤ 30 := (few_le HFE2.out.symm).1
      have HFW2 := Lib.hid (few_le HFE2.out.symm).2
      go_wp2_with fail
      go_loopw [72] (fun v72 wr => ∃ (j : Nat) (u : Stk), j ≤ L2.length ∧ v72 = .int .i64 (j : Int) ∧ Aside0 (GoodT u) ∧ Aside0 (TwoX w.heap.size p q (fun b => C ≤ b ∧ b < D) u u wr) ∧ Aside0 (Below w.heap.size w wr) ∧ Aside0 (∀ b, C ≤ b → b < D → wr.heap[b]? = w11.heap[b]?)) (fun v _ => L2.length - (intOf v).toNat)
      case atStart => exact ⟨0, s, by omega, rfl, HG, HT12, HB12, ⟨HX12.out⟩⟩
      case round =>
        clear HT12 HB12 HX12
        obtain ⟨j, u, hj, rfl, HGU, HT, HB, HXD⟩ := hrel
        by_cases hlt : j < L2.length
        · obtain ⟨x, hx⟩ : ∃ x, L2[j]? = some x := ⟨_, List.getElem?_eq_getElem hlt⟩
          have hsr := HL2.out.below HB.out
          obtain ⟨ad, hAe, c0, c1, c2, c3, c4⟩ := hsr.cells hx
          subst hAe
          have hxl := HFW2.out x (List.mem_of_getElem? hx)
          have hkd := hsr.rows x (List.mem_of_getElem? hx)
          have HX := Aside0.mk hx
          obtain ⟨kind, at_, Ax, cx, lx, s0_, s1_⟩ := x
          dsimp only at hxl hkd c0 c1 c2 c3 c4
          have hl40 : lx.length ≤ 40 := hxl.1
          have hjl : (j : Int) < (L2.length : Int) := by omega
          obtain ⟨V, hV⟩ : ∃ V, V = wr.alloc (.cells #[.int .i64 kind, .int .i64 at_, .slice Ax lx.length cx, .int .i64 s0_, .int .i64 s1_] 70) := ⟨_, rfl⟩
          obtain ⟨Z, hZ⟩ : ∃ Z, Z = wr.heap.size := ⟨_, rfl⟩
          have HTV := Aside0.mk (show TwoX w.heap.size p q (fun b => (C ≤ b ∧ b < D) ∨ b = Z) u u V by rw [hV, hZ]; exact HT.out.new _)
          have HBV := Aside0.mk (show Below w.heap.size w V by rw [hV]; exact HB.out.alloc HB.out.size _)
          have HXV := Lib.hid (show ∀ b, C ≤ b → b < D → V.heap[b]? = w11.heap[b]? from fun b h1 h2 => by
            have h3 := HXD.out b h1 h2
            have h4 : b < wr.heap.size := HT.out.lt ⟨h1, h2⟩
            rw [hV]
            exact (Below.heap_alloc wr _ b h4).trans h3)
          have HZV := Aside0.mk (show V.heap[Z]? = some (.cells #[.int .i64 kind, .int .i64 at_, .slice Ax lx.length cx, .int .i64 s0_, .int .i64 s1_] 70 (0, 0)) by rw [hV, hZ]; exact blk_new wr _)
          have HKD := Aside0.mk (show Kd.C k29 V Ax lx.length lx by rw [hV]; exact Kd.C_below hkd ((Below.refl _ _).alloc (Nat.le_refl _) _))
          have HSV := Aside0.mk (show w.heap.size ≤ V.heap.size from HBV.out.size)
          go_upto_region 13 with (fail)
          rw [← hV, ← hZ]
          clear hV hZ c0 c1 c2 c3 c4 hx hxl hkd hsr HT HXD HB
          have e0 : V.cell? ⟨Z, 0, none⟩ = some (.int .i64 kind) := blk_cell HZV.out 0
          go_upto_block 2 with (fail)
          go_cut [17, 18] (fun v17 v18 wx => ∃ (u : Stk) (n : Int), v17 = .int .i64 n ∧ v18 = .int .i64 n ∧ Aside0 (GoodT u) ∧ Aside0 (TwoX w.heap.size p q (fun b => C ≤ b ∧ b < D) u u wx) ∧ Aside0 (Below w.heap.size w wx) ∧ Aside0 (∀ b, C ≤ b → b < D → wx.heap[b]? = w11.heap[b]?))
          case first =>
            obtain ⟨F1, hA1, hA2, hA3⟩ := HTV.out.step
            have HA3 := Lib.hid hA3
            by_cases hput : kind = 0 ∨ kind = 1 ∨ kind = 2
            · have HC := Aside0.mk (tput_calls F1 p u lx Ax cx V hA1 HKD.out (by omega))
              obtain ⟨rp, hrp⟩ : ∃ r, r = putT u lx := ⟨_, rfl⟩
              have HG2 := Aside0.mk (show GoodT rp.1 by rw [hrp]; exact putT_good HGU.out lx)
              have HRP := Aside0.mk hrp
              rw [← hrp] at HC
              obtain ⟨ru, rn, re⟩ := rp
              clear hA1 hA2 hA3 hrp hj hlt
              rcases hput with rfl | rfl | rfl
              all_goals
                have e2 : V.cell? ⟨Z, 2, none⟩ = some (.slice Ax lx.length cx) := blk_cell HZV.out 2
                go_wp2_with fail
                refine HC.out.mono ?_
                rintro e w5 ⟨rfl, hs5, hk5⟩
                have hz := HA3.out _ _ HSV.out hs5 hk5
                have HT5 := Aside0.mk hz.1.swap
                have HB5 := Aside0.mk (hz.2.2 w HBV.out (Nat.le_refl _))
                have HX5 := Lib.hid (show ∀ b, C ≤ b → b < D → w5.heap[b]? = w11.heap[b]? from fun b h1 h2 => (hz.2.1 b (.inl ⟨h1, h2⟩)).trans (HXV.out b h1 h2))
                have HZ5 := Aside0.mk ((hz.2.1 Z (.inr rfl)).trans HZV.out)
                obtain ⟨F2, hD1, hD2, hD3⟩ := HT5.out.step
                have HD3 := Lib.hid hD3
                have HC2 := Aside0.mk (show Calls Try.prog 32 #[.pointer (some ⟨q, 0, none⟩), .slice Ax lx.length cx] w5 (StkPost F2 q ru (.tuple #[.int .i64 rn, .int .i64 re]) w5) by
                  have := tput_calls F2 q u lx Ax cx w5 hD1 (((HL2.out.below HB5.out)).rows _ (List.mem_of_getElem? HX.out)) (by omega)
                  rw [← HRP.out] at this
                  exact this)
                have e2' : w5.cell? ⟨Z, 2, none⟩ = some (.slice Ax lx.length cx) := blk_cell HZ5.out 2
                clear hs5 hk5 hz HC e2 hD1 hD2 hD3 HA3 HT5 HTV HZV HXV HKD
                go_wp2_with fail
                refine HC2.out.mono ?_
                rintro e w6 ⟨rfl, hs6, hk6⟩
                have hz := HD3.out _ _ HB5.out.size hs6 hk6
                have HT6 := Aside0.mk (hz.1.swap.less (show ∀ b, (C ≤ b ∧ b < D) → ((C ≤ b ∧ b < D) ∨ b = Z) from fun b hb => .inl hb))
                have HB6 := Aside0.mk (hz.2.2 w HB5.out (Nat.le_refl _))
                have HX6 := Lib.hid (show ∀ b, C ≤ b → b < D → w6.heap[b]? = w11.heap[b]? from fun b h1 h2 => (hz.2.1 b (.inl ⟨h1, h2⟩)).trans (HX5.out b h1 h2))
                clear hs6 hk6 hz HC2 e2' HD3 HX5
                go_wp2_with fail
                go_meet
                exact ⟨ru, rn, rfl, rfl, HG2, HT6, HB6, ⟨HX6.out⟩⟩
            · have k0 : (kind == 0) = false := beq_eq_false_iff_ne.2 fun e => hput (.inl e)
              have k1 : (kind == 1) = false := beq_eq_false_iff_ne.2 fun e => hput (.inr (.inl e))
              have k2 : (kind == 2) = false := beq_eq_false_iff_ne.2 fun e => hput (.inr (.inr e))
              clear hput
              by_cases hroll : kind = 3 ∨ kind = 4
              · have HC := Aside0.mk (trollS_calls F1 p u at_ V hA1 hA2 HGU.out)
                obtain ⟨rp, hrp⟩ : ∃ r, r = rollS u at_ := ⟨_, rfl⟩
                have HG2 := Aside0.mk (show GoodT rp.1 by rw [hrp]; exact rollS_good HGU.out at_)
                have HRP := Aside0.mk hrp
                rw [← hrp] at HC
                obtain ⟨ru, rn, re⟩ := rp
                clear hA1 hA2 hA3 hrp hj hlt
                rcases hroll with rfl | rfl
                all_goals
                  have e2 : V.cell? ⟨Z, 1, none⟩ = some (.int .i64 at_) := blk_cell HZV.out 1
                  go_wp2_with fail
                  refine HC.out.mono ?_
                  rintro e w5 ⟨rfl, hs5, hk5⟩
                  have hz := HA3.out _ _ HSV.out hs5 hk5
                  have HT5 := Aside0.mk hz.1.swap
                  have HB5 := Aside0.mk (hz.2.2 w HBV.out (Nat.le_refl _))
                  have HX5 := Lib.hid (show ∀ b, C ≤ b → b < D → w5.heap[b]? = w11.heap[b]? from fun b h1 h2 => (hz.2.1 b (.inl ⟨h1, h2⟩)).trans (HXV.out b h1 h2))
                  have HZ5 := Aside0.mk ((hz.2.1 Z (.inr rfl)).trans HZV.out)
                  obtain ⟨F2, hD1, hD2, hD3⟩ := HT5.out.step
                  have HD3 := Lib.hid hD3
                  have HC2 := Aside0.mk (show Calls Try.prog 33 #[.pointer (some ⟨q, 0, none⟩), .int .i64 at_] w5 (StkPost F2 q ru (.tuple #[.int .i64 rn, .int .i64 re]) w5) by
                    have := trollS_calls F2 q u at_ w5 hD1 hD2 HGU.out
                    rw [← HRP.out] at this
                    exact this)
                  have e2' : w5.cell? ⟨Z, 1, none⟩ = some (.int .i64 at_) := blk_cell HZ5.out 1
                  clear hs5 hk5 hz HC e2 hD1 hD2 hD3 HA3 HT5 HTV HZV HXV HKD
                  go_wp2_with fail
                  refine HC2.out.mono ?_
                  rintro e w6 ⟨rfl, hs6, hk6⟩
                  have hz := HD3.out _ _ HB5.out.size hs6 hk6
                  have HT6 := Aside0.mk (hz.1.swap.less (show ∀ b, (C ≤ b ∧ b < D) → ((C ≤ b ∧ b < D) ∨ b = Z) from fun b hb => .inl hb))
                  have HB6 := Aside0.mk (hz.2.2 w HB5.out (Nat.le_refl _))
                  have HX6 := Lib.hid (show ∀ b, C ≤ b → b < D → w6.heap[b]? = w11.heap[b]? from fun b h1 h2 => (hz.2.1 b (.inl ⟨h1, h2⟩)).trans (HX5.out b h1 h2))
                  clear hs6 hk6 hz HC2 e2' HD3 HX5
                  go_wp2_with fail
                  go_meet
                  exact ⟨ru, rn, rfl, rfl, HG2, HT6, HB6, ⟨HX6.out⟩⟩
              · have k3 : (kind == 3) = false := beq_eq_false_iff_ne.2 fun e => hroll (.inl e)
                have k4 : (kind == 4) = false := beq_eq_false_iff_ne.2 fun e => hroll (.inr e)
                clear hroll hA1 hA2 hA3 HA3
                obtain ⟨rp, hrp⟩ : ∃ r, r = purgeT u s0_ s1_ := ⟨_, rfl⟩
                have HG2 := Aside0.mk (show GoodT rp.1 by rw [hrp]; exact purgeT_good HGU.out s0_ s1_)
                have HRP := Aside0.mk hrp
                obtain ⟨ru, rn⟩ := rp
                have HTV2 := Aside0.mk (HTV.out.below ((Below.refl V.heap.size V).drew))
                have HBV2 := Aside0.mk (show Below w.heap.size w V.drew from HBV.out.drew)
                have HXV2 := Lib.hid (show ∀ b, C ≤ b → b < D → V.drew.heap[b]? = w11.heap[b]? from HXV.out)
                have z0 : V.cell? ⟨Z, 3, none⟩ = some (.int .i64 s0_) := blk_cell HZV.out 3
                have z1 : V.cell? ⟨Z, 4, none⟩ = some (.int .i64 s1_) := blk_cell HZV.out 4
                have hz3 := HZV.out
                clear hrp hj hlt
                go_wp2_with fail
                refine start_ (n := 10) (S := fun w' => (w'.heap[Z]? = some (.cells #[.int .i64 kind, .int .i64 at_, .slice Ax lx.length cx, .int .i64 s0_, .int .i64 s1_] 70 (0, 0)))) (ds := []) (bA 10 0) (by kernel_rfl) rfl (by kernel_rfl) (hz3) (fun hHeld => ?_)
                refine pure_ (i := 0) (N := some 78) (v := ?_) (a' := ?_) (bA 10 1) rfl rfl (by kernel_rfl) (fun _ _ _ h => h) (Or.inl ⟨by rfl, ?_⟩) ?_ ?_
                rotate_left; · intro w'; go_simp; with_reducible rfl
                rotate_left; · simp only [Act.put, List.setIfInBounds_toArray, List.set_cons_zero, List.set_cons_succ, i64_w, i32_w]; rfl
                refine pure_ (i := 1) (N := some 79) (v := ?_) (a' := ?_) (bA 10 3) rfl rfl (by kernel_rfl) (fun _ _ _ h => h) (Or.inl ⟨by rfl, ?_⟩) ?_ ?_
                rotate_left; · intro w'; go_simp; with_reducible rfl
                rotate_left; · simp only [Act.put, List.setIfInBounds_toArray, List.set_cons_zero, List.set_cons_succ, i64_w, i32_w]; rfl
                refine pure_ (i := 4) (N := some 82) (v := ?_) (a' := ?_) (bA 10 19) rfl rfl (by kernel_rfl) (fun _ _ _ h => h) (Or.inl ⟨by rfl, ?_⟩) ?_ ?_
                rotate_left; · intro w'; go_simp; with_reducible rfl
                rotate_left; · simp only [Act.put, List.setIfInBounds_toArray, List.set_cons_zero, List.set_cons_succ, i64_w, i32_w]; rfl
                refine pure_ (i := 5) (N := some 83) (v := ?_) (a' := ?_) (bA 10 51) rfl rfl (by kernel_rfl) (fun _ _ _ h => h) (Or.inl ⟨by rfl, ?_⟩) ?_ ?_
                rotate_left; · intro w'; go_simp; with_reducible rfl
                rotate_left; · simp only [Act.put, List.setIfInBounds_toArray, List.set_cons_zero, List.set_cons_succ, i64_w, i32_w]; rfl
                refine take_ (i := 2) (N := some 80) (v := ?_) (a' := ?_) (bA 10 55) rfl rfl (by kernel_rfl) (fun _ _ _ h => h) (Or.inl ⟨by rfl, ?_⟩) hHeld ?_ ?_
                rotate_left; · rintro w' s0; have z3 : w'.cell? ⟨Z, 3, none⟩ = some (.int .i64 s0_) := blk_cell s0 3; have z4 : w'.cell? ⟨Z, 4, none⟩ = some (.int .i64 s1_) := blk_cell s0 4; go_simp; with_reducible rfl
                rotate_left; · simp only [Act.put, List.setIfInBounds_toArray, List.set_cons_zero, List.set_cons_succ, i64_w, i32_w]; rfl
                refine take_ (i := 6) (N := some 84) (v := ?_) (a' := ?_) (bA 10 119) rfl rfl (by kernel_rfl) (fun _ _ _ h => h) (Or.inl ⟨by rfl, ?_⟩) hHeld ?_ ?_
                rotate_left; · rintro w' s0; have z3 : w'.cell? ⟨Z, 3, none⟩ = some (.int .i64 s0_) := blk_cell s0 3; have z4 : w'.cell? ⟨Z, 4, none⟩ = some (.int .i64 s1_) := blk_cell s0 4; go_simp; with_reducible rfl
                rotate_left; · simp only [Act.put, List.setIfInBounds_toArray, List.set_cons_zero, List.set_cons_succ, i64_w, i32_w]; rfl
                refine one_ (i := 3) (N := some 81) (bA 10 127) rfl rfl (by kernel_rfl) (by decide) (fun K hK => ?_)
                obtain ⟨F_, hA1, hA2, hA3⟩ := HTV2.out.step
                refine goes_ Try.func43 (by kernel_rfl) rfl #[.pointer (some ⟨p, 0, none⟩), .agg #[.int .i64 s0_, .int .i64 s1_]] (by rfl) rfl rfl (by simp only [List.map_toArray, List.map_cons, List.map_nil]; rfl) ?_
                with_reducible refine (tpurge_calls F_ p u s0_ s1_ V.drew hA1 hA2 HGU.out).mono ?_
                rintro e w7 hh
                obtain ⟨rfl, hs, hk⟩ := hh
                rw [← HRP.out] at hs ⊢
                have hz := hA3 _ _ HBV2.out.size hs hk
                have HT7 := Aside0.mk hz.1.swap
                have HB7 := Aside0.mk (hz.2.2 w HBV2.out (Nat.le_refl _))
                have HX7 := Lib.hid (show ∀ b, C ≤ b → b < D → w7.heap[b]? = w11.heap[b]? from fun b h1 h2 => (hz.2.1 b (.inl ⟨h1, h2⟩)).trans (HXV2.out b h1 h2))
                have k0 := (hz.2.1 Z (.inr rfl)).trans hHeld
                clear hs hk hz hA1 hA2 hA3
                refine ⟨_, rfl, ?_⟩
                refine hK.out _ _ (k0) (fun hHeld => ?_)
                clear hK K
                refine norm_ (a' := ?_) ?_ ?_
                rotate_left; · show Act.put _ (some 81) _ = _; simp only [Act.put, List.setIfInBounds_toArray, List.set_cons_zero, List.set_cons_succ, i64_w, i32_w]; rfl
                refine one_ (i := 7) (N := some 85) (bA 10 255) rfl rfl (by kernel_rfl) (by decide) (fun K hK => ?_)
                obtain ⟨F_, hA1, hA2, hA3⟩ := HT7.out.step
                refine goes_ Try.func43 (by kernel_rfl) rfl #[.pointer (some ⟨q, 0, none⟩), .agg #[.int .i64 s0_, .int .i64 s1_]] (by rfl) rfl rfl (by simp only [List.map_toArray, List.map_cons, List.map_nil]; rfl) ?_
                with_reducible refine (tpurge_calls F_ q u s0_ s1_ w7 hA1 hA2 HGU.out).mono ?_
                rintro e w8 hh
                obtain ⟨rfl, hs, hk⟩ := hh
                rw [← HRP.out] at hs ⊢
                have hz := hA3 _ _ HB7.out.size hs hk
                have HT8 := Aside0.mk hz.1.swap
                have HB8 := Aside0.mk (hz.2.2 w HB7.out (Nat.le_refl _))
                have HX8 := Lib.hid (show ∀ b, C ≤ b → b < D → w8.heap[b]? = w11.heap[b]? from fun b h1 h2 => (hz.2.1 b (.inl ⟨h1, h2⟩)).trans (HX7.out b h1 h2))
                have k0 := (hz.2.1 Z (.inr rfl)).trans hHeld
                clear hs hk hz hA1 hA2 hA3
                refine ⟨_, rfl, ?_⟩
                refine hK.out _ _ (k0) (fun hHeld => ?_)
                clear hK K
                refine norm_ (a' := ?_) ?_ ?_
                rotate_left; · show Act.put _ (some 85) _ = _; simp only [Act.put, List.setIfInBounds_toArray, List.set_cons_zero, List.set_cons_succ, i64_w, i32_w]; rfl
                refine pure_ (i := 8) (N := some 17) (v := ?_) (a' := ?_) (bA 10 511) rfl rfl (by kernel_rfl) (fun _ _ _ h => h) (Or.inl ⟨by rfl, ?_⟩) ?_ ?_
                rotate_left; · intro w'; go_simp; with_reducible rfl
                rotate_left; · simp only [Act.put, List.setIfInBounds_toArray, List.set_cons_zero, List.set_cons_succ, i64_w, i32_w]; rfl
                refine pure_ (i := 9) (N := some 18) (v := ?_) (a' := ?_) (bA 10 1023) rfl rfl (by kernel_rfl) (fun _ _ _ h => h) (Or.inl ⟨by rfl, ?_⟩) ?_ ?_
                rotate_left; · intro w'; go_simp; with_reducible rfl
                rotate_left; · simp only [Act.put, List.setIfInBounds_toArray, List.set_cons_zero, List.set_cons_succ, i64_w, i32_w]; rfl
                refine done_ (by kernel_rfl) ?_
                go_wp2_with fail
                go_meet
                exact ⟨ru, rn, rfl, rfl, HG2, ⟨HT8.out.less (fun b hb => .inl hb)⟩, HB8, ⟨HX8.out⟩⟩
          case rest =>
            clear HGU HTV HBV HXV HZV HKD HSV e0
            obtain ⟨u, n, rfl, rfl, HGU, HT, HB, HXD⟩ := hcut
            have HCE := Aside0.mk ((HXD.out E HCD.out.1 HCD.out.2.1).trans HE11.out)
            have q0 : wc.cell? ⟨E, 0, none⟩ = some (.int .i64 0) := blk_cell HCE.out 0
            have q1 : wc.cell? ⟨E, 1, none⟩ = some (.int .i64 1099511627777) := blk_cell HCE.out 1
            have HTW := Aside0.mk (HT.out.below ((Below.refl wc.heap.size wc).drew))
            have HTK1 := Aside0.mk HGU.out.g1.tk
            have HTK2 := Aside0.mk HGU.out.g2.tk
            have hnn : (n != n) = false := by simp
            have HLN := Aside0.mk (show (inR 0 1099511627777 u.raw).length ≤ 1000 ∧ (aggR 300 0 1099511627777 u.a1).length ≤ 1000 ∧ (aggR 3600 0 1099511627777 u.a2).length ≤ 1000 by
              have h1 := inR_len 0 1099511627777 u.raw
              have h2 := HGU.out.len
              have h3 : (aggR 300 0 1099511627777 u.a1).length ≤ u.a1.length := List.length_filter_le _ _
              have h4 : (aggR 3600 0 1099511627777 u.a2).length ≤ u.a2.length := List.length_filter_le _ _
              have h5 := HGU.out.g1.len
              have h6 := HGU.out.g2.len
              omega)
            go_wp2_with fail
            refine start_ (n := 33) (S := fun w' => (w'.cell? ⟨E, 0, none⟩ = some (.int .i64 0)) ∧ (w'.cell? ⟨E, 1, none⟩ = some (.int .i64 1099511627777))) (ds := []) (bA 33 0) (by kernel_rfl) rfl (by kernel_rfl) ⟨q0, q1⟩ (fun hHeld => ?_)
            refine with_tabW law10r.tab25 law10r.bits25 (fun HT_ HW_ => ?_)
            refine pure_ (i := 0) (N := some 121) (v := ?_) (a' := ?_) (bA 33 1) rfl rfl (any_of HT_.out (by kernel_rfl)) (fun _ _ _ h => h) (Or.inl ⟨by rfl, ?_⟩) ?_ ?_
            rotate_left; · intro w'; go_simp; with_reducible rfl
            rotate_left; · simp only [Act.put, List.setIfInBounds_toArray, List.set_cons_zero, List.set_cons_succ, i64_w, i32_w]; rfl
            refine pure_ (i := 1) (N := some 122) (v := ?_) (a' := ?_) (bA 33 3) rfl rfl (any_of HT_.out (by kernel_rfl)) (fun _ _ _ h => h) (Or.inl ⟨by rfl, ?_⟩) ?_ ?_
            rotate_left; · intro w'; go_simp; with_reducible rfl
            rotate_left; · simp only [Act.put, List.setIfInBounds_toArray, List.set_cons_zero, List.set_cons_succ, i64_w, i32_w]; rfl
            refine pure_ (i := 2) (N := some 123) (v := ?_) (a' := ?_) (bA 33 7) rfl rfl (any_of HT_.out (by kernel_rfl)) (fun _ _ _ h => h) (Or.inl ⟨by rfl, ?_⟩) ?_ ?_
            rotate_left; · intro w'; go_simp; with_reducible rfl
            rotate_left; · simp only [Act.put, List.setIfInBounds_toArray, List.set_cons_zero, List.set_cons_succ, i64_w, i32_w]; rfl
            refine pure_ (i := 3) (N := some 124) (v := ?_) (a' := ?_) (bA 33 15) rfl rfl (any_of HT_.out (by kernel_rfl)) (fun _ _ _ h => h) (Or.inl ⟨by rfl, ?_⟩) ?_ ?_
            rotate_left; · intro w'; go_simp; with_reducible rfl
            rotate_left; · simp only [Act.put, List.setIfInBounds_toArray, List.set_cons_zero, List.set_cons_succ, i64_w, i32_w]; rfl
            refine pure_ (i := 4) (N := some 125) (v := ?_) (a' := ?_) (bA 33 31) rfl rfl (any_of HT_.out (by kernel_rfl)) (fun _ _ _ h => h) (Or.inl ⟨by rfl, ?_⟩) ?_ ?_
            rotate_left; · intro w'; go_simp; with_reducible rfl
            rotate_left; · simp only [Act.put, List.setIfInBounds_toArray, List.set_cons_zero, List.set_cons_succ, i64_w, i32_w]; rfl
            refine pure_ (i := 7) (N := some 128) (v := ?_) (a' := ?_) (bA 33 159) rfl rfl (any_of HT_.out (by kernel_rfl)) (fun _ _ _ h => h) (Or.inl ⟨by rfl, ?_⟩) ?_ ?_
            rotate_left; · intro w'; go_simp; with_reducible rfl
            rotate_left; · simp only [Act.put, List.setIfInBounds_toArray, List.set_cons_zero, List.set_cons_succ, i64_w, i32_w]; rfl
            refine take_ (i := 5) (N := some 126) (v := ?_) (a' := ?_) (bA 33 191) rfl rfl (take_ofW HT_.out HW_.out (by kernel_rfl)) (fun _ _ _ h => h) (Or.inl ⟨by rfl, ?_⟩) hHeld ?_ ?_
            rotate_left; · rintro w' ⟨s0, s1⟩; go_simp; with_reducible rfl
            rotate_left; · simp only [Act.put, List.setIfInBounds_toArray, List.set_cons_zero, List.set_cons_succ, i64_w, i32_w]; rfl
            refine take_ (i := 8) (N := some 129) (v := ?_) (a' := ?_) (bA 33 447) rfl rfl (take_ofW HT_.out HW_.out (by kernel_rfl)) (fun _ _ _ h => h) (Or.inl ⟨by rfl, ?_⟩) hHeld ?_ ?_
            rotate_left; · rintro w' ⟨s0, s1⟩; go_simp; with_reducible rfl
            rotate_left; · simp only [Act.put, List.setIfInBounds_toArray, List.set_cons_zero, List.set_cons_succ, i64_w, i32_w]; rfl
            refine one_ (i := 6) (N := some 127) (bA 33 511) rfl rfl (one_of HT_.out (by kernel_rfl)) (by decide) (fun K hK => ?_)
            obtain ⟨G_, hG_⟩ := HTW.out.fst
            refine goes_ Try.func45 (by kernel_rfl) rfl #[.pointer (some ⟨p, 0, none⟩), .agg #[.int .i64 0, .int .i64 1099511627777]] (by rfl) rfl rfl (by simp only [List.map_toArray, List.map_cons, List.map_nil]; rfl) ?_
            with_reducible refine (tpoints_calls G_ p u 0 1099511627777 wc.drew hG_).mono ?_
            rintro e v1 hh
            obtain ⟨u1_, rfl, ho, hv1⟩ := hh
            have HT_1 := Aside0.mk (HTW.out.below hv1)
            have HV1 := Aside0.mk (show Below wc.drew.heap.size wc.drew v1 from hv1)
            have k0 := bread hv1 hHeld.1
            have k1 := bread hv1 hHeld.2
            have HR_1 := Aside0.mk ho
            clear ho
            clear hv1
            refine ⟨_, rfl, ?_⟩
            refine hK.out _ _ ⟨k0, k1⟩ (fun hHeld => ?_)
            clear hK K
            refine norm_ (a' := ?_) ?_ ?_
            rotate_left; · show Act.put _ (some 127) _ = _; simp only [Act.put, List.setIfInBounds_toArray, List.set_cons_zero, List.set_cons_succ, i64_w, i32_w]; rfl
            refine one_ (i := 9) (N := some 130) (bA 33 1023) rfl rfl (one_of HT_.out (by kernel_rfl)) (by decide) (fun K hK => ?_)
            obtain ⟨G_, hG_⟩ := HT_1.out.swap.fst
            refine goes_ Try.func45 (by kernel_rfl) rfl #[.pointer (some ⟨q, 0, none⟩), .agg #[.int .i64 0, .int .i64 1099511627777]] (by rfl) rfl rfl (by simp only [List.map_toArray, List.map_cons, List.map_nil]; rfl) ?_
            with_reducible refine (tpoints_calls G_ q u 0 1099511627777 v1 hG_).mono ?_
            rintro e v2 hh
            obtain ⟨u2_, rfl, ho, hv2⟩ := hh
            have HT_2 := Aside0.mk (HT_1.out.below hv2)
            have HV2 := Aside0.mk (show Below wc.drew.heap.size wc.drew v2 from HV1.out.trans (hv2.mono HV1.out.size))
            have k0 := bread hv2 hHeld.1
            have k1 := bread hv2 hHeld.2
            have HR_2 := Aside0.mk ho
            have HR_1 := Aside0.mk (own_kept (w' := v2) HR_1.out fun b hb => hv2.block b (HR_1.out.lt b hb).2)
            clear ho
            clear hv2
            clear HV1 HT_1
            refine ⟨_, rfl, ?_⟩
            refine hK.out _ _ ⟨k0, k1⟩ (fun hHeld => ?_)
            clear hK K
            refine norm_ (a' := ?_) ?_ ?_
            rotate_left; · show Act.put _ (some 130) _ = _; simp only [Act.put, List.setIfInBounds_toArray, List.set_cons_zero, List.set_cons_succ, i64_w, i32_w]; rfl
            refine one_ (i := 10) (N := some 131) (bA 33 2047) rfl rfl (one_of HT_.out (by kernel_rfl)) (by decide) (fun K hK => ?_)
            obtain ⟨G_, hG_⟩ := HT_2.out.fst
            refine goes_ Try.func44 (by kernel_rfl) rfl #[u1_, u2_] (by rfl) rfl rfl (by simp only [List.map_toArray, List.map_cons, List.map_nil]; rfl) ?_
            with_reducible refine (sameP_rows _ _ u1_ u2_ _ v2 HR_1.out HR_2.out HLN.out.1).mono ?_
            rintro e v3 hh
            obtain ⟨rfl, hv3⟩ := hh
            have HT_3 := Aside0.mk (HT_2.out.below hv3)
            have HV3 := Aside0.mk (show Below wc.drew.heap.size wc.drew v3 from HV2.out.trans (hv3.mono HV2.out.size))
            have k0 := bread hv3 hHeld.1
            have k1 := bread hv3 hHeld.2
            clear HR_1 HR_2
            clear hv3
            clear HV2 HT_2
            refine ⟨_, rfl, ?_⟩
            refine hK.out _ _ ⟨k0, k1⟩ (fun hHeld => ?_)
            clear hK K
            refine norm_ (a' := ?_) ?_ ?_
            rotate_left; · show Act.put _ (some 131) _ = _; simp only [Act.put, List.setIfInBounds_toArray, List.set_cons_zero, List.set_cons_succ, i64_w, i32_w]; rfl
            refine pure_ (i := 11) (N := some 132) (v := ?_) (a' := ?_) (bA 33 4095) rfl rfl (any_of HT_.out (by kernel_rfl)) (fun _ _ _ h => h) (Or.inl ⟨by rfl, ?_⟩) ?_ ?_
            rotate_left; · intro w'; go_simp; with_reducible rfl
            rotate_left; · simp only [Act.put, List.setIfInBounds_toArray, List.set_cons_zero, List.set_cons_succ, i64_w, i32_w]; rfl
            refine pure_ (i := 12) (N := some 133) (v := ?_) (a' := ?_) (bA 33 8191) rfl rfl (any_of HT_.out (by kernel_rfl)) (fun _ _ _ h => h) (Or.inl ⟨by rfl, ?_⟩) ?_ ?_
            rotate_left; · intro w'; go_simp; with_reducible rfl
            rotate_left; · simp only [Act.put, List.setIfInBounds_toArray, List.set_cons_zero, List.set_cons_succ, i64_w, i32_w]; rfl
            refine pure_ (i := 13) (N := some 134) (v := ?_) (a' := ?_) (bA 33 16383) rfl rfl (any_of HT_.out (by kernel_rfl)) (fun _ _ _ h => h) (Or.inl ⟨by rfl, ?_⟩) ?_ ?_
            rotate_left; · intro w'; go_simp; with_reducible rfl
            rotate_left; · simp only [Act.put, List.setIfInBounds_toArray, List.set_cons_zero, List.set_cons_succ, i64_w, i32_w]; rfl
            refine pure_ (i := 14) (N := some 135) (v := ?_) (a' := ?_) (bA 33 32767) rfl rfl (any_of HT_.out (by kernel_rfl)) (fun _ _ _ h => h) (Or.inl ⟨by rfl, ?_⟩) ?_ ?_
            rotate_left; · intro w'; go_simp; with_reducible rfl
            rotate_left; · simp only [Act.put, List.setIfInBounds_toArray, List.set_cons_zero, List.set_cons_succ, i64_w, i32_w]; rfl
            refine pure_ (i := 17) (N := some 138) (v := ?_) (a' := ?_) (bA 33 163839) rfl rfl (any_of HT_.out (by kernel_rfl)) (fun _ _ _ h => h) (Or.inl ⟨by rfl, ?_⟩) ?_ ?_
            rotate_left; · intro w'; go_simp; with_reducible rfl
            rotate_left; · simp only [Act.put, List.setIfInBounds_toArray, List.set_cons_zero, List.set_cons_succ, i64_w, i32_w]; rfl
            refine take_ (i := 15) (N := some 136) (v := ?_) (a' := ?_) (bA 33 196607) rfl rfl (take_ofW HT_.out HW_.out (by kernel_rfl)) (fun _ _ _ h => h) (Or.inl ⟨by rfl, ?_⟩) hHeld ?_ ?_
            rotate_left; · rintro w' ⟨s0, s1⟩; go_simp; with_reducible rfl
            rotate_left; · simp only [Act.put, List.setIfInBounds_toArray, List.set_cons_zero, List.set_cons_succ, i64_w, i32_w]; rfl
            refine take_ (i := 18) (N := some 139) (v := ?_) (a' := ?_) (bA 33 458751) rfl rfl (take_ofW HT_.out HW_.out (by kernel_rfl)) (fun _ _ _ h => h) (Or.inl ⟨by rfl, ?_⟩) hHeld ?_ ?_
            rotate_left; · rintro w' ⟨s0, s1⟩; go_simp; with_reducible rfl
            rotate_left; · simp only [Act.put, List.setIfInBounds_toArray, List.set_cons_zero, List.set_cons_succ, i64_w, i32_w]; rfl
            refine one_ (i := 16) (N := some 137) (bA 33 524287) rfl rfl (one_of HT_.out (by kernel_rfl)) (by decide) (fun K hK => ?_)
            obtain ⟨G_, hG_⟩ := HT_3.out.fst
            refine goes_ Try.func35 (by kernel_rfl) rfl #[.pointer (some ⟨p, 0, none⟩), .int .i64 1, .agg #[.int .i64 0, .int .i64 1099511627777]] (by rfl) rfl rfl (by simp only [List.map_toArray, List.map_cons, List.map_nil]; rfl) ?_
            with_reducible refine (taggs1_calls G_ p u 0 1099511627777 v3 hG_ HTK1.out).mono ?_
            rintro e v4 hh
            obtain ⟨u4_, rfl, ho, hv4⟩ := hh
            have HT_4 := Aside0.mk (HT_3.out.below hv4)
            have HV4 := Aside0.mk (show Below wc.drew.heap.size wc.drew v4 from HV3.out.trans (hv4.mono HV3.out.size))
            have k0 := bread hv4 hHeld.1
            have k1 := bread hv4 hHeld.2
            have HR_4 := Aside0.mk ho
            clear ho
            clear hv4
            clear HV3 HT_3
            refine ⟨_, rfl, ?_⟩
            refine hK.out _ _ ⟨k0, k1⟩ (fun hHeld => ?_)
            clear hK K
            refine norm_ (a' := ?_) ?_ ?_
            rotate_left; · show Act.put _ (some 137) _ = _; simp only [Act.put, List.setIfInBounds_toArray, List.set_cons_zero, List.set_cons_succ, i64_w, i32_w]; rfl
            refine one_ (i := 19) (N := some 140) (bA 33 1048575) rfl rfl (one_of HT_.out (by kernel_rfl)) (by decide) (fun K hK => ?_)
            obtain ⟨G_, hG_⟩ := HT_4.out.swap.fst
            refine goes_ Try.func35 (by kernel_rfl) rfl #[.pointer (some ⟨q, 0, none⟩), .int .i64 1, .agg #[.int .i64 0, .int .i64 1099511627777]] (by rfl) rfl rfl (by simp only [List.map_toArray, List.map_cons, List.map_nil]; rfl) ?_
            with_reducible refine (taggs1_calls G_ q u 0 1099511627777 v4 hG_ HTK1.out).mono ?_
            rintro e v5 hh
            obtain ⟨u5_, rfl, ho, hv5⟩ := hh
            have HT_5 := Aside0.mk (HT_4.out.below hv5)
            have HV5 := Aside0.mk (show Below wc.drew.heap.size wc.drew v5 from HV4.out.trans (hv5.mono HV4.out.size))
            have k0 := bread hv5 hHeld.1
            have k1 := bread hv5 hHeld.2
            have HR_5 := Aside0.mk ho
            have HR_4 := Aside0.mk (own_kept (w' := v5) HR_4.out fun b hb => hv5.block b (HR_4.out.lt b hb).2)
            clear ho
            clear hv5
            clear HV4 HT_4
            refine ⟨_, rfl, ?_⟩
            refine hK.out _ _ ⟨k0, k1⟩ (fun hHeld => ?_)
            clear hK K
            refine norm_ (a' := ?_) ?_ ?_
            rotate_left; · show Act.put _ (some 140) _ = _; simp only [Act.put, List.setIfInBounds_toArray, List.set_cons_zero, List.set_cons_succ, i64_w, i32_w]; rfl
            refine one_ (i := 20) (N := some 141) (bA 33 2097151) rfl rfl (one_of HT_.out (by kernel_rfl)) (by decide) (fun K hK => ?_)
            obtain ⟨G_, hG_⟩ := HT_5.out.fst
            refine goes_ Try.func34 (by kernel_rfl) rfl #[u4_, u5_] (by rfl) rfl rfl (by simp only [List.map_toArray, List.map_cons, List.map_nil]; rfl) ?_
            with_reducible refine (sameAggs_true _ _ u4_ u5_ _ v5 HR_4.out HR_5.out HLN.out.2.1).mono ?_
            rintro e v6 hh
            obtain ⟨rfl, hv6⟩ := hh
            have HT_6 := Aside0.mk (HT_5.out.below hv6)
            have HV6 := Aside0.mk (show Below wc.drew.heap.size wc.drew v6 from HV5.out.trans (hv6.mono HV5.out.size))
            have k0 := bread hv6 hHeld.1
            have k1 := bread hv6 hHeld.2
            clear HR_4 HR_5
            clear hv6
            clear HV5 HT_5
            refine ⟨_, rfl, ?_⟩
            refine hK.out _ _ ⟨k0, k1⟩ (fun hHeld => ?_)
            clear hK K
            refine norm_ (a' := ?_) ?_ ?_
            rotate_left; · show Act.put _ (some 141) _ = _; simp only [Act.put, List.setIfInBounds_toArray, List.set_cons_zero, List.set_cons_succ, i64_w, i32_w]; rfl
            refine pure_ (i := 21) (N := some 142) (v := ?_) (a' := ?_) (bA 33 4194303) rfl rfl (any_of HT_.out (by kernel_rfl)) (fun _ _ _ h => h) (Or.inl ⟨by rfl, ?_⟩) ?_ ?_
            rotate_left; · intro w'; go_simp; with_reducible rfl
            rotate_left; · simp only [Act.put, List.setIfInBounds_toArray, List.set_cons_zero, List.set_cons_succ, i64_w, i32_w]; rfl
            refine pure_ (i := 22) (N := some 143) (v := ?_) (a' := ?_) (bA 33 8388607) rfl rfl (any_of HT_.out (by kernel_rfl)) (fun _ _ _ h => h) (Or.inl ⟨by rfl, ?_⟩) ?_ ?_
            rotate_left; · intro w'; go_simp; with_reducible rfl
            rotate_left; · simp only [Act.put, List.setIfInBounds_toArray, List.set_cons_zero, List.set_cons_succ, i64_w, i32_w]; rfl
            refine pure_ (i := 23) (N := some 144) (v := ?_) (a' := ?_) (bA 33 16777215) rfl rfl (any_of HT_.out (by kernel_rfl)) (fun _ _ _ h => h) (Or.inl ⟨by rfl, ?_⟩) ?_ ?_
            rotate_left; · intro w'; go_simp; with_reducible rfl
            rotate_left; · simp only [Act.put, List.setIfInBounds_toArray, List.set_cons_zero, List.set_cons_succ, i64_w, i32_w]; rfl
            refine pure_ (i := 24) (N := some 145) (v := ?_) (a' := ?_) (bA 33 33554431) rfl rfl (any_of HT_.out (by kernel_rfl)) (fun _ _ _ h => h) (Or.inl ⟨by rfl, ?_⟩) ?_ ?_
            rotate_left; · intro w'; go_simp; with_reducible rfl
            rotate_left; · simp only [Act.put, List.setIfInBounds_toArray, List.set_cons_zero, List.set_cons_succ, i64_w, i32_w]; rfl
            refine pure_ (i := 27) (N := some 148) (v := ?_) (a' := ?_) (bA 33 167772159) rfl rfl (any_of HT_.out (by kernel_rfl)) (fun _ _ _ h => h) (Or.inl ⟨by rfl, ?_⟩) ?_ ?_
            rotate_left; · intro w'; go_simp; with_reducible rfl
            rotate_left; · simp only [Act.put, List.setIfInBounds_toArray, List.set_cons_zero, List.set_cons_succ, i64_w, i32_w]; rfl
            refine take_ (i := 25) (N := some 146) (v := ?_) (a' := ?_) (bA 33 201326591) rfl rfl (take_ofW HT_.out HW_.out (by kernel_rfl)) (fun _ _ _ h => h) (Or.inl ⟨by rfl, ?_⟩) hHeld ?_ ?_
            rotate_left; · rintro w' ⟨s0, s1⟩; go_simp; with_reducible rfl
            rotate_left; · simp only [Act.put, List.setIfInBounds_toArray, List.set_cons_zero, List.set_cons_succ, i64_w, i32_w]; rfl
            refine take_ (i := 28) (N := some 149) (v := ?_) (a' := ?_) (bA 33 469762047) rfl rfl (take_ofW HT_.out HW_.out (by kernel_rfl)) (fun _ _ _ h => h) (Or.inl ⟨by rfl, ?_⟩) hHeld ?_ ?_
            rotate_left; · rintro w' ⟨s0, s1⟩; go_simp; with_reducible rfl
            rotate_left; · simp only [Act.put, List.setIfInBounds_toArray, List.set_cons_zero, List.set_cons_succ, i64_w, i32_w]; rfl
            refine one_ (i := 26) (N := some 147) (bA 33 536870911) rfl rfl (one_of HT_.out (by kernel_rfl)) (by decide) (fun K hK => ?_)
            obtain ⟨G_, hG_⟩ := HT_6.out.fst
            refine goes_ Try.func35 (by kernel_rfl) rfl #[.pointer (some ⟨p, 0, none⟩), .int .i64 2, .agg #[.int .i64 0, .int .i64 1099511627777]] (by rfl) rfl rfl (by simp only [List.map_toArray, List.map_cons, List.map_nil]; rfl) ?_
            with_reducible refine (taggs2_calls G_ p u 0 1099511627777 v6 hG_ HTK2.out).mono ?_
            rintro e v7 hh
            obtain ⟨u7_, rfl, ho, hv7⟩ := hh
            have HT_7 := Aside0.mk (HT_6.out.below hv7)
            have HV7 := Aside0.mk (show Below wc.drew.heap.size wc.drew v7 from HV6.out.trans (hv7.mono HV6.out.size))
            have k0 := bread hv7 hHeld.1
            have k1 := bread hv7 hHeld.2
            have HR_7 := Aside0.mk ho
            clear ho
            clear hv7
            clear HV6 HT_6
            refine ⟨_, rfl, ?_⟩
            refine hK.out _ _ ⟨k0, k1⟩ (fun hHeld => ?_)
            clear hK K
            refine norm_ (a' := ?_) ?_ ?_
            rotate_left; · show Act.put _ (some 147) _ = _; simp only [Act.put, List.setIfInBounds_toArray, List.set_cons_zero, List.set_cons_succ, i64_w, i32_w]; rfl
            refine one_ (i := 29) (N := some 150) (bA 33 1073741823) rfl rfl (one_of HT_.out (by kernel_rfl)) (by decide) (fun K hK => ?_)
            obtain ⟨G_, hG_⟩ := HT_7.out.swap.fst
            refine goes_ Try.func35 (by kernel_rfl) rfl #[.pointer (some ⟨q, 0, none⟩), .int .i64 2, .agg #[.int .i64 0, .int .i64 1099511627777]] (by rfl) rfl rfl (by simp only [List.map_toArray, List.map_cons, List.map_nil]; rfl) ?_
            with_reducible refine (taggs2_calls G_ q u 0 1099511627777 v7 hG_ HTK2.out).mono ?_
            rintro e v8 hh
            obtain ⟨u8_, rfl, ho, hv8⟩ := hh
            have HT_8 := Aside0.mk (HT_7.out.below hv8)
            have HV8 := Aside0.mk (show Below wc.drew.heap.size wc.drew v8 from HV7.out.trans (hv8.mono HV7.out.size))
            have k0 := bread hv8 hHeld.1
            have k1 := bread hv8 hHeld.2
            have HR_8 := Aside0.mk ho
            have HR_7 := Aside0.mk (own_kept (w' := v8) HR_7.out fun b hb => hv8.block b (HR_7.out.lt b hb).2)
            clear ho
            clear hv8
            clear HV7 HT_7
            refine ⟨_, rfl, ?_⟩
            refine hK.out _ _ ⟨k0, k1⟩ (fun hHeld => ?_)
            clear hK K
            refine norm_ (a' := ?_) ?_ ?_
            rotate_left; · show Act.put _ (some 150) _ = _; simp only [Act.put, List.setIfInBounds_toArray, List.set_cons_zero, List.set_cons_succ, i64_w, i32_w]; rfl
            refine one_ (i := 30) (N := some 151) (bA 33 2147483647) rfl rfl (one_of HT_.out (by kernel_rfl)) (by decide) (fun K hK => ?_)
            obtain ⟨G_, hG_⟩ := HT_8.out.fst
            refine goes_ Try.func34 (by kernel_rfl) rfl #[u7_, u8_] (by rfl) rfl rfl (by simp only [List.map_toArray, List.map_cons, List.map_nil]; rfl) ?_
            with_reducible refine (sameAggs_true _ _ u7_ u8_ _ v8 HR_7.out HR_8.out HLN.out.2.2).mono ?_
            rintro e v9 hh
            obtain ⟨rfl, hv9⟩ := hh
            have HT_9 := Aside0.mk (HT_8.out.below hv9)
            have HV9 := Aside0.mk (show Below wc.drew.heap.size wc.drew v9 from HV8.out.trans (hv9.mono HV8.out.size))
            have k0 := bread hv9 hHeld.1
            have k1 := bread hv9 hHeld.2
            clear HR_7 HR_8
            clear hv9
            clear HV8 HT_8
            refine ⟨_, rfl, ?_⟩
            refine hK.out _ _ ⟨k0, k1⟩ (fun hHeld => ?_)
            clear hK K
            refine norm_ (a' := ?_) ?_ ?_
            rotate_left; · show Act.put _ (some 151) _ = _; simp only [Act.put, List.setIfInBounds_toArray, List.set_cons_zero, List.set_cons_succ, i64_w, i32_w]; rfl
            refine pure_ (i := 31) (N := some 152) (v := ?_) (a' := ?_) (bA 33 4294967295) rfl rfl (any_of HT_.out (by kernel_rfl)) (fun _ _ _ h => h) (Or.inl ⟨by rfl, ?_⟩) ?_ ?_
            rotate_left; · intro w'; go_simp; with_reducible rfl
            rotate_left; · simp only [Act.put, List.setIfInBounds_toArray, List.set_cons_zero, List.set_cons_succ, i64_w, i32_w]; rfl
            refine pure_ (i := 32) (N := some 153) (v := ?_) (a' := ?_) (bA 33 8589934591) rfl rfl (any_of HT_.out (by kernel_rfl)) (fun _ _ _ h => h) (Or.inl ⟨by rfl, ?_⟩) ?_ ?_
            rotate_left; · intro w'; go_simp; with_reducible rfl
            rotate_left; · simp only [Act.put, List.setIfInBounds_toArray, List.set_cons_zero, List.set_cons_succ, i64_w, i32_w]; rfl
            refine done_ (done_of HT_.out (by kernel_rfl)) ?_
            have HTE := Aside0.mk (HT.out.below (show Below wc.heap.size wc v9 from ((Below.refl _ _).drew).trans HV9.out))
            have HBE := Aside0.mk (HB.out.trans ((((Below.refl wc.heap.size wc).drew).trans HV9.out).mono HB.out.size))
            have HXE := Lib.hid (show ∀ b, C ≤ b → b < D → v9.heap[b]? = w11.heap[b]? from fun b h1 h2 => (HV9.out.block b (HT.out.lt ⟨h1, h2⟩)).trans (HXD.out b h1 h2))
            clear HT HB HXD HV9 HTW q0 q1 hHeld HCE
            go_wp2_with fail
            go_roundw
            case rel => exact ⟨j + 1, u, by omega, by go_num, HGU, HTE, HBE, ⟨HXE.out⟩⟩
            case measure => simp [intOf]; omega
        · have g1 : decide ((j : Int) < (L2.length : Int)) = false := decide_eq_false (by omega)
          have g2 : decide (j < L2.length) = false := decide_eq_false hlt
          have HCM := Aside0.mk ((HXD.out M HCD.out.2.2.1 HCD.out.2.2.2).trans HM11.out)
          have t0 : wr.cell? ⟨M, 0, none⟩ = some (.int .i64 0) := blk_cell HCM.out 0
          have t1 : wr.cell? ⟨M, 1, none⟩ = some (.int .i64 s.m1) := blk_cell HCM.out 1
          have t2 : wr.cell? ⟨M, 2, none⟩ = some (.int .i64 s.m2) := blk_cell HCM.out 2
          obtain ⟨V, hV⟩ : ∃ V, V = wr.alloc (.cells #[.int .i64 0, .int .i64 s.m1, .int .i64 s.m2] 72) := ⟨_, rfl⟩
          obtain ⟨N, hN⟩ : ∃ N, N = wr.heap.size := ⟨_, rfl⟩
          have HNV := Aside0.mk (show V.heap[N]? = some (.cells #[.int .i64 0, .int .i64 s.m1, .int .i64 s.m2] 72 (0, 0)) by rw [hV, hN]; exact blk_new wr _)
          have HBV := Aside0.mk (show Below w.heap.size w V by rw [hV]; exact HB.out.alloc HB.out.size _)
          have HNB := Aside0.mk (show w.heap.size ≤ N ∧ ∀ b, C ≤ b → b < D → b < N by
            rw [hN]
            exact ⟨HB.out.size, fun b h1 h2 => HT.out.lt ⟨h1, h2⟩⟩)
          have HXV := Lib.hid (show ∀ b, C ≤ b → b < D → V.heap[b]? = w11.heap[b]? from fun b h1 h2 => by
            rw [hV]
            exact (Below.heap_alloc wr _ b (HT.out.lt ⟨h1, h2⟩)).trans (HXD.out b h1 h2))
          clear hj hlt HGU HT
          go_upto_region 29 with (fail)
          rw [← hV, ← hN]
          clear hV hN t0 t1 t2 HCM HB HXD g1 g2
          obtain ⟨Z, hZ⟩ : ∃ Z, Z = V.setCell ⟨N, 1, none⟩ (.int .i64 mk) := ⟨_, rfl⟩
          have y1 : V.cell? ⟨N, 1, none⟩ = some (.int .i64 s.m1) := blk_cell HNV.out 1
          have x1 : V.frozen? ⟨N, 1, none⟩ = false := blk_frozen HNV.out 1
          have HNZ := Aside0.mk (show Z.heap[N]? = some (.cells #[.int .i64 0, .int .i64 mk, .int .i64 s.m2] 72 (0, 0)) by rw [hZ]; exact blk_set HNV.out 1 _)
          have HBZ := Aside0.mk (show Below w.heap.size w Z by rw [hZ]; exact HBV.out.setCell (p := ⟨N, 1, none⟩) HNB.out.1 _)
          have HXZ := Lib.hid (show ∀ b, C ≤ b → b < D → Z.heap[b]? = w11.heap[b]? from fun b h1 h2 => by
            rw [hZ]
            exact (Below.heap_setCell V _ _ b (by have := HNB.out.2 b h1 h2; show b ≠ N; omega)).trans (HXV.out b h1 h2))
          go_upto_region 30 with (fail)
          rw [← hZ]
          clear hZ y1 x1 HNV HBV HXV
          have t0 : Z.cell? ⟨N, 0, none⟩ = some (.int .i64 0) := blk_cell HNZ.out 0
          have t1 : Z.cell? ⟨N, 1, none⟩ = some (.int .i64 mk) := blk_cell HNZ.out 1
          have t2 : Z.cell? ⟨N, 2, none⟩ = some (.int .i64 s.m2) := blk_cell HNZ.out 2
          have hr9 := own_kept (w' := Z) HU9.out fun g hg => HXZ.out g (HU9.out.lt g hg).1 (HUD.out.1 g hg)
          have hr10 := own_kept (w' := Z) HU10.out fun g hg => HXZ.out g (HU10.out.lt g hg).1 (HUD.out.2.1 g hg)
          have hr11 := own_kept (w' := Z) HU11.out fun g hg => HXZ.out g (HU11.out.lt g hg).1 (HUD.out.2.2 g hg)
          have HRS := Aside0.mk (restore_calls s HSS.out Ap cp _ _ _ u11 mk HMK.out Z (kdC_of hr9 (by have := HSS.out.len; omega)).1 hr10 hr11)
          clear hr9 hr10 hr11
          go_wp2_with fail
          refine HRS.out.mono ?_
          rintro e w13 hr
          obtain ⟨v, err, rfl, herr, h13⟩ := rest_err hr
          have HB13 := Aside0.mk (HBZ.out.trans (h13.mono HBZ.out.size))
          have HX13 := Lib.hid (show ∀ b, C ≤ b → b < D → w13.heap[b]? = w11.heap[b]? from fun b h1 h2 => (h13.block b (by have := HNB.out.2 b h1 h2; have := blk_lt HNZ.out; omega)).trans (HXZ.out b h1 h2))
          have HER := Aside0.mk herr
          clear hr herr h13 HRS HBZ HXZ HNZ HNB t0 t1 t2
          have HCM := Aside0.mk ((HX13.out M HCD.out.2.2.1 HCD.out.2.2.2).trans HM11.out)
          have t2 : w13.cell? ⟨M, 2, none⟩ = some (.int .i64 s.m2) := blk_cell HCM.out 2
          go_upto_region 31 with (fail)
          go_cut [22] (fun v22 wx => v22 = .bool (markB 300 mk && decide (s.m2 ≤ mk)) ∧ wx = w13)
          case first =>
            by_cases a1 : 0 ≤ mk
            · have a1' : decide (0 ≤ mk) = true := decide_eq_true a1
              have a1n : decide (mk ≥ 0) = true := decide_eq_true a1
              by_cases a2 : mk ≤ 1099511631376
              · have a2' : decide (mk ≤ 1099511631376) = true := decide_eq_true a2
                have hmod : mk.tmod 300 = mk % 300 := Int.tmod_eq_emod_of_nonneg a1
                by_cases a3 : mk % 300 = 0
                · have a3' : (mk % 300 == 0) = true := beq_iff_eq.2 a3
                  have a3t : (mk.tmod 300 == 0) = true := by rw [hmod]; exact a3'
                  have HV := Aside0.mk (show (markB 300 mk && decide (s.m2 ≤ mk)) = decide (s.m2 ≤ mk) by unfold markB; rw [a1', a2', decide_eq_true a3]; rfl)
                  clear a1 a2 a3 hmod
                  go_wp2_with fail
                  go_meet
                  exact ⟨by rw [HV.out], rfl⟩
                · have a3' : (mk % 300 == 0) = false := beq_eq_false_iff_ne.2 a3
                  have a3t : (mk.tmod 300 == 0) = false := by rw [hmod]; exact a3'
                  have HV := Aside0.mk (show (markB 300 mk && decide (s.m2 ≤ mk)) = false by unfold markB; rw [decide_eq_false a3, Bool.and_false, Bool.false_and])
                  clear a1 a2 a3 hmod
                  go_wp2_with fail
                  go_meet
                  exact ⟨by rw [HV.out], rfl⟩
              · have a2' : decide (mk ≤ 1099511631376) = false := decide_eq_false a2
                have HV := Aside0.mk (show (markB 300 mk && decide (s.m2 ≤ mk)) = false by unfold markB; rw [a2', Bool.and_false, Bool.false_and, Bool.false_and])
                clear a1 a2
                go_wp2_with fail
                go_meet
                exact ⟨by rw [HV.out], rfl⟩
            · have a1' : decide (0 ≤ mk) = false := decide_eq_false a1
              have a1n : decide (mk ≥ 0) = false := decide_eq_false a1
              have HV := Aside0.mk (show (markB 300 mk && decide (s.m2 ≤ mk)) = false by unfold markB; rw [a1', Bool.false_and, Bool.false_and, Bool.false_and])
              clear a1
              go_wp2_with fail
              go_meet
              exact ⟨by rw [HV.out], rfl⟩
          case rest =>
            obtain ⟨h22, hwc⟩ := hcut
            subst h22
            obtain rfl := hwc.symm
            clear t2 HCM
            have hl1 := HSS.out.g1.len
            have hr10 := own_kept (w' := w13) HU10.out fun g hg => HX13.out g (HU10.out.lt g hg).1 (HUD.out.2.1 g hg)
            obtain ⟨A1, hA1⟩ : ∃ l, l = s.a1 := ⟨_, rfl⟩
            have hfb : fineB s mk = (markB 300 mk && decide (s.m2 ≤ mk) && belowB A1 mk) := by rw [hA1]; rfl
            rw [← hA1] at hl1 hr10
            obtain ⟨cb, hcb⟩ : ∃ c, c = (markB 300 mk && decide (s.m2 ≤ mk)) := ⟨_, rfl⟩
            rw [← hcb] at hfb
            have hlA : s.a1.length = A1.length := by rw [hA1]
            have HRM := Aside0.mk hr10
            have HFB := Aside0.mk hfb
            rw [← hcb, hlA]
            have HHL := Aside0.mk hlA
            clear hr10 hfb hcb hA1 HU9 HU10 HU11 HUD hlA
            go_wp2_with fail
            go_loopw [22, 185] (fun v22 v185 wy => ∃ j : Nat, j ≤ A1.length ∧ v22 = .bool (cb && belowB (A1.take j) mk) ∧ v185 = .int .i64 (j : Int) ∧ Aside0 (Below w13.heap.size w13 wy)) (fun _ v _ => A1.length - (intOf v).toNat)
            case atStart => exact ⟨0, by omega, by simp [belowB], rfl, ⟨Below.refl _ _⟩⟩
            case round =>
              obtain ⟨j, hj, hv22, rfl, HY⟩ := hrel
              by_cases hlt : j < A1.length
              · obtain ⟨g, cg, cur, hvg, hgb, _⟩ := row_pos HRM.out (by omega)
                have hA : Am = some ⟨g, 0, none⟩ := by injection hvg
                subst hA
                clear hgb hvg
                obtain ⟨x, hx⟩ : ∃ x, A1[j]? = some x := ⟨_, List.getElem?_eq_getElem hlt⟩
                have hrr := HRM.out
                obtain ⟨c0, c1, c2, c3, c4⟩ := row31_at hrr hx
                have u0 := bread HY.out c0
                have u1 := bread HY.out c1
                have u2 := bread HY.out c2
                have u3 := bread HY.out c3
                have u4 := bread HY.out c4
                have hjl : (j : Int) < (A1.length : Int) := by omega
                have HX := Aside0.mk hx
                have HYA := Aside0.mk (HY.out.alloc HY.out.size (.cells #[.int .i64 x.f0, .int .i64 x.f1, .int .i64 x.f2, .int .i64 x.f3, .int .i64 x.f4] 31))
                have HNX := Aside0.mk (show (cb && belowB (A1.take (j + 1)) mk) = ((cb && belowB (A1.take j) mk) && decide (x.f0 < mk)) by rw [take_snoc31 HX.out, belowB_snoc, Bool.and_assoc])
                obtain ⟨bo, hbo⟩ : ∃ b, b = (cb && belowB (A1.take j) mk) := ⟨_, rfl⟩
                rw [← hbo] at hv22 HNX
                subst hv22
                obtain ⟨xb, hxb⟩ : ∃ b, b = decide (x.f0 < mk) := ⟨_, rfl⟩
                rw [← hxb] at HNX
                have hxb' : decide (x.f0 < mk) = xb := hxb.symm
                clear hx c0 c1 c2 c3 c4 hbo hrr hxb
                cases bo with
                | true =>
                  go_wp2_with fail
                  go_roundw
                  case rel => exact ⟨j + 1, by omega, by rw [HNX.out]; rfl, by go_num, HYA⟩
                  case measure => simp [intOf]; omega
                | false =>
                  go_wp2_with fail
                  go_roundw
                  case rel => exact ⟨j + 1, by omega, by rw [HNX.out]; rfl, by go_num, HYA⟩
                  case measure => simp [intOf]; omega
              · have hje : j = A1.length := by omega
                subst hje
                rw [List.take_length, ← HFB.out] at hv22
                subst hv22
                have herr := HER.out
                obtain ⟨fb, hfb⟩ : ∃ f, f = fineB s mk := ⟨_, rfl⟩
                rw [← hfb] at herr ⊢
                have HEY := Aside0.mk (show wr.heap[E]? = some (.cells #[.int .i64 0, .int .i64 1099511627777] 42 (0, 0)) from (HY.out.block E (by
                  have h1 := HX13.out E HCD.out.1 HCD.out.2.1
                  rw [HE11.out] at h1
                  exact blk_lt h1)).trans ((HX13.out E HCD.out.1 HCD.out.2.1).trans HE11.out))
                have HBY := Aside0.mk (HB13.out.trans (HY.out.mono HB13.out.size))
                clear hlt hj hfb HY HB13 HX13 HRM HER HFB
                go_wp2_with fail
                refine (tput_nil _ wr).mono ?_
                rintro e w14 ⟨rfl, h14⟩
                have HBZ := Aside0.mk (HBY.out.trans (h14.mono HBY.out.size))
                have HEZ := Aside0.mk ((h14.block E (blk_lt HEY.out)).trans HEY.out)
                clear h14 HBY HEY
                go_wp2_with fail
                refine (troll_nil 1 w14).mono ?_
                rintro e w15 ⟨rfl, h15⟩
                have HBF := Aside0.mk (HBZ.out.trans (h15.mono HBZ.out.size))
                have HEF := Aside0.mk (show w15.heap[E]? = some (.cells #[.int .i64 0, .int .i64 1099511627777] 42 (0, 0)) from (h15.block E (blk_lt HEZ.out)).trans HEZ.out)
                clear h15 HBZ HEZ
                have q0 : w15.cell? ⟨E, 0, none⟩ = some (.int .i64 0) := blk_cell HEF.out 0
                have q1 : w15.cell? ⟨E, 1, none⟩ = some (.int .i64 1099511627777) := blk_cell HEF.out 1
                have hn := nil57
                have hbb : (fb == fb) = true := by simp
                have W0 := Aside0.mk (show wrap64 (0 : Int) = 0 by unfold wrap64; omega)
                go_wp2_with fail
                refine start_ (n := 40) (S := fun w' => (w'.cell? ⟨E, 0, none⟩ = some (.int .i64 0)) ∧ (w'.cell? ⟨E, 1, none⟩ = some (.int .i64 1099511627777))) (ds := []) (bA 40 0) (by kernel_rfl) rfl (by kernel_rfl) ⟨q0, q1⟩ (fun hHeld => ?_)
                refine with_tabW law10s.tab40 law10s.bits40 (fun HT_ HW_ => ?_)
                refine pure_ (i := 0) (N := some 207) (v := ?_) (a' := ?_) (bA 40 1) rfl rfl (any_of HT_.out (by kernel_rfl)) (fun _ _ _ h => h) (Or.inl ⟨by rfl, ?_⟩) ?_ ?_
                rotate_left; · intro w'; go_simp; with_reducible rfl
                rotate_left; · simp only [Act.put, List.setIfInBounds_toArray, List.set_cons_zero, List.set_cons_succ, i64_w, i32_w]; rfl
                refine pure_ (i := 1) (N := some 208) (v := ?_) (a' := ?_) (bA 40 3) rfl rfl (any_of HT_.out (by kernel_rfl)) (fun _ _ _ h => h) (Or.inl ⟨by rfl, ?_⟩) ?_ ?_
                rotate_left; · intro w'; go_simp; with_reducible rfl
                rotate_left; · simp only [Act.put, List.setIfInBounds_toArray, List.set_cons_zero, List.set_cons_succ, i64_w, i32_w]; rfl
                refine pure_ (i := 2) (N := some 209) (v := ?_) (a' := ?_) (bA 40 7) rfl rfl (any_of HT_.out (by kernel_rfl)) (fun _ _ _ h => h) (Or.inl ⟨by rfl, ?_⟩) ?_ ?_
                rotate_left; · intro w'; go_simp; with_reducible rfl
                rotate_left; · simp only [Act.put, List.setIfInBounds_toArray, List.set_cons_zero, List.set_cons_succ, i64_w, i32_w]; rfl
                refine pure_ (i := 3) (N := some 210) (v := ?_) (a' := ?_) (bA 40 15) rfl rfl (any_of HT_.out (by kernel_rfl)) (fun _ _ _ h => h) (Or.inl ⟨by rfl, ?_⟩) ?_ ?_
                rotate_left; · intro w'; go_simp; with_reducible rfl
                rotate_left; · simp only [Act.put, List.setIfInBounds_toArray, List.set_cons_zero, List.set_cons_succ, i64_w, i32_w]; rfl
                refine pure_ (i := 4) (N := some 211) (v := ?_) (a' := ?_) (bA 40 31) rfl rfl (any_of HT_.out (by kernel_rfl)) (fun _ _ _ h => h) (Or.inl ⟨by rfl, ?_⟩) ?_ ?_
                rotate_left; · intro w'; go_simp; with_reducible rfl
                rotate_left; · simp only [Act.put, List.setIfInBounds_toArray, List.set_cons_zero, List.set_cons_succ, i64_w, i32_w]; rfl
                refine pure_ (i := 5) (N := some 212) (v := ?_) (a' := ?_) (bA 40 63) rfl rfl (any_of HT_.out (by kernel_rfl)) (fun _ _ _ h => h) (Or.inl ⟨by rfl, ?_⟩) ?_ ?_
                rotate_left; · intro w'; go_simp; with_reducible rfl
                rotate_left; · simp only [Act.put, List.setIfInBounds_toArray, List.set_cons_zero, List.set_cons_succ, i64_w, i32_w]; rfl
                refine pure_ (i := 6) (N := some 213) (v := ?_) (a' := ?_) (bA 40 127) rfl rfl (any_of HT_.out (by kernel_rfl)) (fun _ _ _ h => h) (Or.inl ⟨by rfl, ?_⟩) ?_ ?_
                rotate_left; · intro w'; go_simp; with_reducible rfl
                rotate_left; · simp only [Act.put, List.setIfInBounds_toArray, List.set_cons_zero, List.set_cons_succ, i64_w, i32_w]; rfl
                refine pure_ (i := 7) (N := some 214) (v := ?_) (a' := ?_) (bA 40 255) rfl rfl (any_of HT_.out (by kernel_rfl)) (fun _ _ _ h => h) (Or.inl ⟨by rfl, ?_⟩) ?_ ?_
                rotate_left; · intro w'; go_simp; with_reducible rfl
                rotate_left; · simp only [Act.put, List.setIfInBounds_toArray, List.set_cons_zero, List.set_cons_succ, i64_w, i32_w]; rfl
                refine pure_ (i := 8) (N := some 215) (v := ?_) (a' := ?_) (bA 40 511) rfl rfl (any_of HT_.out (by kernel_rfl)) (fun _ _ _ h => h) (Or.inl ⟨by rfl, ?_⟩) ?_ ?_
                rotate_left; · intro w'; go_simp; with_reducible rfl
                rotate_left; · simp only [Act.put, List.setIfInBounds_toArray, List.set_cons_zero, List.set_cons_succ, i64_w, i32_w]; rfl
                refine pure_ (i := 9) (N := some 216) (v := ?_) (a' := ?_) (bA 40 1023) rfl rfl (any_of HT_.out (by kernel_rfl)) (fun _ _ _ h => h) (Or.inl ⟨by rfl, ?_⟩) ?_ ?_
                rotate_left; · intro w'; go_simp; with_reducible rfl
                rotate_left; · simp only [Act.put, List.setIfInBounds_toArray, List.set_cons_zero, List.set_cons_succ, i64_w, i32_w]; rfl
                refine pure_ (i := 10) (N := some 217) (v := ?_) (a' := ?_) (bA 40 2047) rfl rfl (any_of HT_.out (by kernel_rfl)) (fun _ _ _ h => h) (Or.inl ⟨by rfl, ?_⟩) ?_ ?_
                rotate_left; · intro w'; go_simp; with_reducible rfl
                rotate_left; · simp only [Act.put, List.setIfInBounds_toArray, List.set_cons_zero, List.set_cons_succ, i64_w, i32_w]; rfl
                refine pure_ (i := 11) (N := some 218) (v := ?_) (a' := ?_) (bA 40 4095) rfl rfl (any_of HT_.out (by kernel_rfl)) (fun _ _ _ h => h) (Or.inl ⟨by rfl, ?_⟩) ?_ ?_
                rotate_left; · intro w'; go_simp; with_reducible rfl
                rotate_left; · simp only [Act.put, List.setIfInBounds_toArray, List.set_cons_zero, List.set_cons_succ, i64_w, i32_w]; rfl
                refine pure_ (i := 12) (N := some 219) (v := ?_) (a' := ?_) (bA 40 8191) rfl rfl (any_of HT_.out (by kernel_rfl)) (fun _ _ _ h => h) (Or.inl ⟨by rfl, ?_⟩) ?_ ?_
                rotate_left; · intro w'; go_simp; with_reducible rfl
                rotate_left; · simp only [Act.put, List.setIfInBounds_toArray, List.set_cons_zero, List.set_cons_succ, i64_w, i32_w]; rfl
                refine pure_ (i := 13) (N := some 220) (v := ?_) (a' := ?_) (bA 40 16383) rfl rfl (any_of HT_.out (by kernel_rfl)) (fun _ _ _ h => h) (Or.inl ⟨by rfl, ?_⟩) ?_ ?_
                rotate_left; · intro w'; go_simp; with_reducible rfl
                rotate_left; · simp only [Act.put, List.setIfInBounds_toArray, List.set_cons_zero, List.set_cons_succ, i64_w, i32_w]; rfl
                refine pure_ (i := 15) (N := some 222) (v := ?_) (a' := ?_) (bA 40 49151) rfl rfl (any_of HT_.out (by kernel_rfl)) (fun _ _ _ h => h) (Or.inl ⟨by rfl, ?_⟩) ?_ ?_
                rotate_left; · intro w'; go_simp; with_reducible rfl
                rotate_left; · simp only [Act.put, List.setIfInBounds_toArray, List.set_cons_zero, List.set_cons_succ, i64_w, i32_w]; rfl
                refine pure_ (i := 18) (N := some 225) (v := ?_) (a' := ?_) (bA 40 311295) rfl rfl (any_of HT_.out (by kernel_rfl)) (fun _ _ _ h => h) (Or.inl ⟨by rfl, ?_⟩) ?_ ?_
                rotate_left; · intro w'; go_simp; with_reducible rfl
                rotate_left; · simp only [Act.put, List.setIfInBounds_toArray, List.set_cons_zero, List.set_cons_succ, i64_w, i32_w]; rfl
                refine pure_ (i := 22) (N := some 229) (v := ?_) (a' := ?_) (bA 40 4505599) rfl rfl (any_of HT_.out (by kernel_rfl)) (fun _ _ _ h => h) (Or.inl ⟨by rfl, ?_⟩) ?_ ?_
                rotate_left; · intro w'; go_simp; with_reducible rfl
                rotate_left; · simp only [Act.put, List.setIfInBounds_toArray, List.set_cons_zero, List.set_cons_succ, i64_w, i32_w]; rfl
                refine pure_ (i := 27) (N := some 234) (v := ?_) (a' := ?_) (bA 40 138723327) rfl rfl (any_of HT_.out (by kernel_rfl)) (fun _ _ _ h => h) (Or.inl ⟨by rfl, ?_⟩) ?_ ?_
                rotate_left; · intro w'; go_simp; with_reducible rfl
                rotate_left; · simp only [Act.put, List.setIfInBounds_toArray, List.set_cons_zero, List.set_cons_succ, i64_w, i32_w]; rfl
                refine take_ (i := 19) (N := some 226) (v := ?_) (a' := ?_) (bA 40 139247615) rfl rfl (take_ofW HT_.out HW_.out (by kernel_rfl)) (fun _ _ _ h => h) (Or.inl ⟨by rfl, ?_⟩) hHeld ?_ ?_
                rotate_left; · rintro w' ⟨s0, s1⟩; go_simp; with_reducible rfl
                rotate_left; · simp only [Act.put, List.setIfInBounds_toArray, List.set_cons_zero, List.set_cons_succ, i64_w, i32_w]; rfl
                refine take_ (i := 23) (N := some 230) (v := ?_) (a' := ?_) (bA 40 147636223) rfl rfl (take_ofW HT_.out HW_.out (by kernel_rfl)) (fun _ _ _ h => h) (Or.inl ⟨by rfl, ?_⟩) hHeld ?_ ?_
                rotate_left; · rintro w' ⟨s0, s1⟩; go_simp; with_reducible rfl
                rotate_left; · simp only [Act.put, List.setIfInBounds_toArray, List.set_cons_zero, List.set_cons_succ, i64_w, i32_w]; rfl
                refine take_ (i := 28) (N := some 235) (v := ?_) (a' := ?_) (bA 40 416071679) rfl rfl (take_ofW HT_.out HW_.out (by kernel_rfl)) (fun _ _ _ h => h) (Or.inl ⟨by rfl, ?_⟩) hHeld ?_ ?_
                rotate_left; · rintro w' ⟨s0, s1⟩; go_simp; with_reducible rfl
                rotate_left; · simp only [Act.put, List.setIfInBounds_toArray, List.set_cons_zero, List.set_cons_succ, i64_w, i32_w]; rfl
                refine one_ (i := 14) (N := some 221) (bA 40 416088063) rfl rfl (one_of HT_.out (by kernel_rfl)) (by decide) (fun K hK => ?_)
                refine goes_ Try.func48 (by kernel_rfl) rfl #[.pointer none] (by rfl) rfl rfl (by simp only [List.map_toArray, List.map_cons, List.map_nil]; rfl) ?_
                with_reducible refine (tbytes_nil _).mono ?_
                rintro e v1 ⟨rfl, hv1⟩
                have HV1 := Aside0.mk (show Below w15.drew.heap.size w15.drew v1 from hv1)
                have k0 := bread hv1 hHeld.1
                have k1 := bread hv1 hHeld.2
                clear hv1
                refine ⟨_, rfl, ?_⟩
                refine hK.out _ _ ⟨k0, k1⟩ (fun hHeld => ?_)
                clear hK K
                refine norm_ (a' := ?_) ?_ ?_
                rotate_left; · show Act.put _ (some 221) _ = _; simp only [Act.put, List.setIfInBounds_toArray, List.set_cons_zero, List.set_cons_succ, i64_w, i32_w]; rfl
                refine one_ (i := 16) (N := some 223) (bA 40 416153599) rfl rfl (one_of HT_.out (by kernel_rfl)) (by decide) (fun K hK => ?_)
                refine goes_ Try.func49 (by kernel_rfl) rfl #[.pointer none, .int .i64 0] (by rfl) rfl rfl (by simp only [List.map_toArray, List.map_cons, List.map_nil]; rfl) ?_
                with_reducible refine (tlen_nil 0 _).mono ?_
                rintro e v2 ⟨rfl, hv2⟩
                have HV2 := Aside0.mk (show Below w15.drew.heap.size w15.drew v2 from HV1.out.trans (hv2.mono HV1.out.size))
                have k0 := bread hv2 hHeld.1
                have k1 := bread hv2 hHeld.2
                clear hv2
                refine ⟨_, rfl, ?_⟩
                refine hK.out _ _ ⟨k0, k1⟩ (fun hHeld => ?_)
                clear hK K
                refine norm_ (a' := ?_) ?_ ?_
                rotate_left; · show Act.put _ (some 223) _ = _; simp only [Act.put, List.setIfInBounds_toArray, List.set_cons_zero, List.set_cons_succ, i64_w, i32_w]; rfl
                refine pure_ (i := 17) (N := some 224) (v := ?_) (a' := ?_) (bA 40 416284671) rfl rfl (any_of HT_.out (by kernel_rfl)) (fun _ _ _ h => h) (Or.inl ⟨by rfl, ?_⟩) ?_ ?_
                rotate_left; · intro w'; go_simp; with_reducible rfl
                rotate_left; · simp only [Act.put, List.setIfInBounds_toArray, List.set_cons_zero, List.set_cons_succ, i64_w, i32_w]; rfl
                refine one_ (i := 20) (N := some 227) (bA 40 417333247) rfl rfl (one_of HT_.out (by kernel_rfl)) (by decide) (fun K hK => ?_)
                refine goes_ Try.func43 (by kernel_rfl) rfl #[.pointer none, .agg #[.int .i64 0, .int .i64 1099511627777]] (by rfl) rfl rfl (by simp only [List.map_toArray, List.map_cons, List.map_nil]; rfl) ?_
                with_reducible refine (tpurge_nil 0 1099511627777 _).mono ?_
                rintro e v3 ⟨rfl, hv3⟩
                have HV3 := Aside0.mk (show Below w15.drew.heap.size w15.drew v3 from HV2.out.trans (hv3.mono HV2.out.size))
                have k0 := bread hv3 hHeld.1
                have k1 := bread hv3 hHeld.2
                clear hv3
                refine ⟨_, rfl, ?_⟩
                refine hK.out _ _ ⟨k0, k1⟩ (fun hHeld => ?_)
                clear hK K
                refine norm_ (a' := ?_) ?_ ?_
                rotate_left; · show Act.put _ (some 227) _ = _; simp only [Act.put, List.setIfInBounds_toArray, List.set_cons_zero, List.set_cons_succ, i64_w, i32_w]; rfl
                refine pure_ (i := 21) (N := some 228) (v := ?_) (a' := ?_) (bA 40 419430399) rfl rfl (any_of HT_.out (by kernel_rfl)) (fun _ _ _ h => h) (Or.inl ⟨by rfl, ?_⟩) ?_ ?_
                rotate_left; · intro w'; go_simp; with_reducible rfl
                rotate_left; · simp only [Act.put, List.setIfInBounds_toArray, List.set_cons_zero, List.set_cons_succ, i64_w, i32_w]; rfl
                refine one_ (i := 24) (N := some 231) (bA 40 436207615) rfl rfl (one_of HT_.out (by kernel_rfl)) (by decide) (fun K hK => ?_)
                refine goes_ Try.func45 (by kernel_rfl) rfl #[.pointer none, .agg #[.int .i64 0, .int .i64 1099511627777]] (by rfl) rfl rfl (by simp only [List.map_toArray, List.map_cons, List.map_nil]; rfl) ?_
                with_reducible refine (tpoints_nil 0 1099511627777 _).mono ?_
                rintro e v4 ⟨rfl, hv4⟩
                have HV4 := Aside0.mk (show Below w15.drew.heap.size w15.drew v4 from HV3.out.trans (hv4.mono HV3.out.size))
                have k0 := bread hv4 hHeld.1
                have k1 := bread hv4 hHeld.2
                clear hv4
                refine ⟨_, rfl, ?_⟩
                refine hK.out _ _ ⟨k0, k1⟩ (fun hHeld => ?_)
                clear hK K
                refine norm_ (a' := ?_) ?_ ?_
                rotate_left; · show Act.put _ (some 231) _ = _; simp only [Act.put, List.setIfInBounds_toArray, List.set_cons_zero, List.set_cons_succ, i64_w, i32_w]; rfl
                refine pure_ (i := 25) (N := some 232) (v := ?_) (a' := ?_) (bA 40 469762047) rfl rfl (any_of HT_.out (by kernel_rfl)) (fun _ _ _ h => h) (Or.inl ⟨by rfl, ?_⟩) ?_ ?_
                rotate_left; · intro w'; go_simp; with_reducible rfl
                rotate_left; · simp only [Act.put, List.setIfInBounds_toArray, List.set_cons_zero, List.set_cons_succ, i64_w, i32_w]; rfl
                refine pure_ (i := 26) (N := some 233) (v := ?_) (a' := ?_) (bA 40 536870911) rfl rfl (any_of HT_.out (by kernel_rfl)) (fun _ _ _ h => h) (Or.inl ⟨by rfl, ?_⟩) ?_ ?_
                rotate_left; · intro w'; go_simp; with_reducible rfl
                rotate_left; · simp only [Act.put, List.setIfInBounds_toArray, List.set_cons_zero, List.set_cons_succ, i64_w, i32_w]; rfl
                refine one_ (i := 29) (N := some 236) (bA 40 1073741823) rfl rfl (one_of HT_.out (by kernel_rfl)) (by decide) (fun K hK => ?_)
                refine goes_ Try.func35 (by kernel_rfl) rfl #[.pointer none, .int .i64 1, .agg #[.int .i64 0, .int .i64 1099511627777]] (by rfl) rfl rfl (by simp only [List.map_toArray, List.map_cons, List.map_nil]; rfl) ?_
                with_reducible refine (taggs_nil 1 0 1099511627777 _).mono ?_
                rintro e v5 ⟨rfl, hv5⟩
                have HV5 := Aside0.mk (show Below w15.drew.heap.size w15.drew v5 from HV4.out.trans (hv5.mono HV4.out.size))
                have k0 := bread hv5 hHeld.1
                have k1 := bread hv5 hHeld.2
                clear hv5
                refine ⟨_, rfl, ?_⟩
                refine hK.out _ _ ⟨k0, k1⟩ (fun hHeld => ?_)
                clear hK K
                refine norm_ (a' := ?_) ?_ ?_
                rotate_left; · show Act.put _ (some 236) _ = _; simp only [Act.put, List.setIfInBounds_toArray, List.set_cons_zero, List.set_cons_succ, i64_w, i32_w]; rfl
                refine pure_ (i := 30) (N := some 237) (v := ?_) (a' := ?_) (bA 40 2147483647) rfl rfl (any_of HT_.out (by kernel_rfl)) (fun _ _ _ h => h) (Or.inl ⟨by rfl, ?_⟩) ?_ ?_
                rotate_left; · intro w'; go_simp; with_reducible rfl
                rotate_left; · simp only [Act.put, List.setIfInBounds_toArray, List.set_cons_zero, List.set_cons_succ, i64_w, i32_w]; rfl
                refine pure_ (i := 31) (N := some 238) (v := ?_) (a' := ?_) (bA 40 4294967295) rfl rfl (any_of HT_.out (by kernel_rfl)) (fun _ _ _ h => h) (Or.inl ⟨by rfl, ?_⟩) ?_ ?_
                rotate_left; · intro w'; go_simp; with_reducible rfl
                rotate_left; · simp only [Act.put, List.setIfInBounds_toArray, List.set_cons_zero, List.set_cons_succ, i64_w, i32_w]; rfl
                rw [W0.out, W0.out, W0.out, W0.out]
                refine pure_ (i := 32) (N := some 239) (v := ?_) (a' := ?_) (bA 40 8589934591) rfl rfl (any_of HT_.out (by kernel_rfl)) (fun _ _ _ h => h) (Or.inl ⟨by rfl, ?_⟩) ?_ ?_
                rotate_left; · intro w'; go_simp; with_reducible rfl
                rotate_left; · simp only [Act.put, List.setIfInBounds_toArray, List.set_cons_zero, List.set_cons_succ, i64_w, i32_w]; rfl
                refine pure_ (i := 33) (N := some 240) (v := ?_) (a' := ?_) (bA 40 17179869183) rfl rfl (any_of HT_.out (by kernel_rfl)) (fun _ _ _ h => h) (Or.inl ⟨by rfl, ?_⟩) ?_ ?_
                rotate_left; · intro w'; go_simp; with_reducible rfl
                rotate_left; · simp only [Act.put, List.setIfInBounds_toArray, List.set_cons_zero, List.set_cons_succ, i64_w, i32_w]; rfl
                refine pure_ (i := 34) (N := some 241) (v := ?_) (a' := ?_) (bA 40 34359738367) rfl rfl (any_of HT_.out (by kernel_rfl)) (fun _ _ _ h => h) (Or.inl ⟨by rfl, ?_⟩) ?_ ?_
                rotate_left; · intro w'; go_simp; with_reducible rfl
                rotate_left; · simp only [Act.put, List.setIfInBounds_toArray, List.set_cons_zero, List.set_cons_succ, i64_w, i32_w]; rfl
                refine pure_ (i := 35) (N := some 242) (v := ?_) (a' := ?_) (bA 40 68719476735) rfl rfl (any_of HT_.out (by kernel_rfl)) (fun _ _ _ h => h) (Or.inl ⟨by rfl, ?_⟩) ?_ ?_
                rotate_left; · intro w'; go_simp; with_reducible rfl
                rotate_left; · simp only [Act.put, List.setIfInBounds_toArray, List.set_cons_zero, List.set_cons_succ, i64_w, i32_w]; rfl
                refine one_ (i := 36) (N := some 243) (bA 40 137438953471) rfl rfl (one_of HT_.out (by kernel_rfl)) (by decide) (fun K hK => ?_)
                refine goes_ Try.func50 (by kernel_rfl) rfl #[.pointer none] (by rfl) rfl rfl (by simp only [List.map_toArray, List.map_cons, List.map_nil]; rfl) ?_
                with_reducible refine (tcopy_nil _).mono ?_
                rintro e v6 ⟨rfl, hv6⟩
                have HV6 := Aside0.mk (show Below w15.drew.heap.size w15.drew v6 from HV5.out.trans (hv6.mono HV5.out.size))
                have k0 := bread hv6 hHeld.1
                have k1 := bread hv6 hHeld.2
                clear hv6
                refine ⟨_, rfl, ?_⟩
                refine hK.out _ _ ⟨k0, k1⟩ (fun hHeld => ?_)
                clear hK K
                refine norm_ (a' := ?_) ?_ ?_
                rotate_left; · show Act.put _ (some 243) _ = _; simp only [Act.put, List.setIfInBounds_toArray, List.set_cons_zero, List.set_cons_succ, i64_w, i32_w]; rfl
                refine pure_ (i := 37) (N := some 244) (v := ?_) (a' := ?_) (bA 40 274877906943) rfl rfl (any_of HT_.out (by kernel_rfl)) (fun _ _ _ h => h) (Or.inl ⟨by rfl, ?_⟩) ?_ ?_
                rotate_left; · intro w'; go_simp; with_reducible rfl
                rotate_left; · simp only [Act.put, List.setIfInBounds_toArray, List.set_cons_zero, List.set_cons_succ, i64_w, i32_w]; rfl
                refine pure_ (i := 38) (N := some 245) (v := ?_) (a' := ?_) (bA 40 549755813887) rfl rfl (any_of HT_.out (by kernel_rfl)) (fun _ _ _ h => h) (Or.inl ⟨by rfl, ?_⟩) ?_ ?_
                rotate_left; · intro w'; go_simp; with_reducible rfl
                rotate_left; · simp only [Act.put, List.setIfInBounds_toArray, List.set_cons_zero, List.set_cons_succ, i64_w, i32_w]; rfl
                refine pure_ (i := 39) (N := some 6) (v := ?_) (a' := ?_) (bA 40 1099511627775) rfl rfl (any_of HT_.out (by kernel_rfl)) (fun _ _ _ h => h) (Or.inl ⟨by rfl, ?_⟩) ?_ ?_
                rotate_left; · intro w'; go_simp; with_reducible rfl
                rotate_left; · simp only [Act.put, List.setIfInBounds_toArray, List.set_cons_zero, List.set_cons_succ, i64_w, i32_w]; rfl
                refine done_ (done_of HT_.out (by kernel_rfl)) ?_
                go_wp2
                go_ret
                exact ⟨rfl, HBF.out.trans ((((Below.refl w15.heap.size w15).drew).trans HV6.out).mono HBF.out.size)⟩
theorem TierRestoresWalk.walk (A1 : Option Addr) (cap1 : Nat) (L1 : List ActT) (A2 : Option Addr) (cap2 : Nat) (L2 : List ActT) (c : Int) (W : World) (h1 : SrcT A1 L1 W) (h2 : SrcT A2 L2 W) (h3 : (Lit.int .i64 c).wf = true) :
    Calls Try.prog 10 #[.slice A1 L1.length cap1, .slice A2 L2.length cap2, .int .i64 c] W fun e w' => e = .returned (.bool true) ∧ Below W.heap.size W w' := by
  have h := h3
  simp [Lit.wf, IntKind.min, IntKind.max, IntKind.signed, IntKind.bits] at h
  exact law10_calls A1 cap1 L1 A2 cap2 L2 c (by omega) W h1 h2
end Go.Proofs.Ytnjdngjlbonieaa
