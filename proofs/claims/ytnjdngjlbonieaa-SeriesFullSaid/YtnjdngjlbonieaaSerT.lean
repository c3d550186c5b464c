/- The law SeriesFull, walked. -/
import Derived.Test.YtnjdngjlbonieaaSerS
import Derived.RangeFuncNested
import Derived.RangeFuncBound
import Derived.RangeFuncCalls
import Derived.RangeFuncLeaves
import Derived.RangeFuncFrom
import Derived.Shelf.Abstract
import Derived.Shelf.RegionOpen
import Derived.OwnWalkIn
import Derived.TacticsInMore
import Derived.LoopNIn
import Derived.LoopIn
import Derived.Deep.RegionHeld3
import Derived.Lib.Hide
import Derived.LoopTactic
import Derived.Outline
import Derived.Laws.Rows
import Derived.Laws.CopyOwn
import Derived.WalkKit
set_option linter.unusedVariables false
set_option linter.unusedSimpArgs false
namespace Go.Proofs.Ytnjdngjlbonieaa
open Go.RowKit Go.Proofs.YtnjdngjlbonieaaW.PrintWords Go.Proofs.YtnjdngjlbonieaaW.PrintLast Go.Proofs.YtnjdngjlbonieaaW.PrintMore
open Go.Proofs.Ytnjdngjlbonieaa.PRollWindows
attribute [local go_sem] max2_int min2_int max_two min_two max_three min_three max_four min_four

open RollOfPure
open Go.Shelf
attribute [local go_sem] Oper.semAt_some
set_option maxRecDepth 100000 in
theorem all_calls (v : Value) (w : World) (hv : v = .pointer none ∨ ∃ a, v = .pointer (some a)) : Calls Try.prog 27 #[v] w fun e w' => e = .returned (.func (.func 65) #[] #[.pointer (some ⟨w.heap.size, 0, none⟩)]) ∧ w' = w.alloc (.cells #[v] 35) := by
  rcases hv with rfl | ⟨a, rfl⟩
  · go_enter Try.func27, Try.ntmps27
    go_wp2
    go_ret
    exact ⟨rfl, rfl⟩
  · go_enter Try.func27, Try.ntmps27
    go_wp2
    go_ret
    exact ⟨rfl, rfl⟩
set_option maxRecDepth 100000 in
theorem all_nil_stops (n Bs n₀ : Nat) (w : World) (hc : w.cell? ⟨Bs, 0, none⟩ = some (.pointer none)) :
    SeqStopsK Fence.wide n Try.prog 65 #[.pointer (some ⟨Bs, 0, none⟩)] (fun x : S29 => #[Value.agg #[.int .i64 x.f0, .int .i64 x.f1]]) (Below n₀) (fun xs => xs = []) (fun _ => False) 0 w := fun l J Jx W hW _ _ hY h0 => by
  have hc' : W.cell? ⟨Bs, 0, none⟩ = some (.pointer none) := (hW.cell (World.block_lt_of_cell? w _ hc)).trans hc
  have hn := nilp
  have HJ := Aside0.mk h0
  refine callsIn_wide.2 ?_
  simp only [List.push_toArray, List.append_toArray, List.nil_append, List.cons_append]
  clear hY h0 hc hW
  go_enter Try.func65, Try.ntmps65
  go_wp2
  refine bodyPost_ret (results_none rfl _ _ _) rfl ?_
  exact ⟨⟨_, rfl⟩, .inl ⟨[], rfl, HJ.out⟩⟩
/-- n points, three ticks apart. -/
def pts (v : Int) (n : Nat) : List S29 := (List.range n).map (fun (i : Nat) => (⟨3 * (i : Int), v⟩ : S29))
theorem pts_len (v : Int) (n : Nat) : (pts v n).length = n := by simp [pts]
theorem pts_snoc (v : Int) (n : Nat) : pts v (n + 1) = pts v n ++ [⟨3 * (n : Int), v⟩] := by simp [pts, List.range_succ]
theorem mem_pts {v : Int} {n : Nat} {x : S29} (h : x ∈ pts v n) : ∃ i : Nat, i < n ∧ x = ⟨3 * (i : Int), v⟩ := by
  simp only [pts, List.mem_map, List.mem_range] at h
  obtain ⟨i, hi, rfl⟩ := h
  exact ⟨i, hi, rfl⟩
theorem pts_ris (v : Int) (n : Nat) : Ris (pts v n) := by
  induction n with
  | zero => exact List.Pairwise.nil
  | succ n ih =>
    rw [pts_snoc]
    unfold Ris
    rw [List.pairwise_append]
    refine ⟨ih, List.pairwise_singleton _ _, fun x hx y hy => ?_⟩
    obtain ⟨i, hi, rfl⟩ := mem_pts hx
    rw [List.mem_singleton.1 hy]
    show (3 : Int) * (i : Int) < 3 * (n : Int)
    omega
theorem pts_tick (v : Int) {n : Nat} (hn : n ≤ 256) : TickOk (pts v n) := fun x hx => by
  obtain ⟨i, hi, rfl⟩ := mem_pts hx
  show 0 ≤ (3 : Int) * (i : Int) ∧ (3 : Int) * (i : Int) ≤ 1099511627776
  omega
theorem putA_sub {L ps : List S29} (h : Ris L) (hs : ∀ p ∈ ps, p ∈ L) : putA L ps = L := by
  refine ris_ext (ris_putA h) h fun x => ?_
  rw [mem_putA]
  constructor
  · rintro (h1 | h1)
    · exact hs x (mem_of_putA h1)
    · exact h1.1
  · intro hx
    by_cases hc : ∃ p ∈ ps, p.f0 = x.f0
    · obtain ⟨p, hp, hpx⟩ := hc
      have hpL := hs p hp
      have e : p = x := by
        obtain ⟨i, hi⟩ := List.mem_iff_getElem?.1 hpL
        obtain ⟨j, hj⟩ := List.mem_iff_getElem?.1 hx
        rcases Nat.lt_trichotomy i j with h1 | h1 | h1
        · have := ris_get h i j p x h1 hi hj; omega
        · subst h1; rw [hi] at hj; injection hj
        · have := ris_get h j i x p h1 hj hi; omega
      subst e
      refine .inl ?_
      have key : ∀ (ps : List S29), (∀ q ∈ ps, q ∈ L) → p ∈ ps → p ∈ putA [] ps := by
        intro ps
        induction ps using snoc_ind with
        | h0 => exact fun _ h => h
        | h1 ps q ih =>
          intro hL hm
          rw [mem_putA_snoc]
          by_cases hq : p = q
          · exact .inl hq
          · refine .inr ⟨ih (fun r hr => hL r (List.mem_append_left _ hr)) ?_, fun e => hq ?_⟩
            · rcases List.mem_append.1 hm with h1 | h1
              · exact h1
              · exact absurd (List.mem_singleton.1 h1) hq
            · obtain ⟨i, hi⟩ := List.mem_iff_getElem?.1 hpL
              obtain ⟨j, hj⟩ := List.mem_iff_getElem?.1 (hL q (List.mem_append_right _ List.mem_cons_self))
              rcases Nat.lt_trichotomy i j with h1 | h1 | h1
              · have := ris_get h i j p q h1 hi hj; omega
              · subst h1; rw [hi] at hj; injection hj
              · have := ris_get h j i q p h1 hj hi; omega
      exact key ps hs hp
    · exact .inr ⟨hx, fun p hp e => hc ⟨p, hp, e⟩⟩
theorem putL_grow {l : List S29} {p : S29} (h : ∀ x ∈ l, x.f0 ≠ p.f0) : (putL l p).length = l.length + 1 := by
  unfold putL
  have key : ∀ (k : List S29), (∀ x ∈ k, x.f0 ≠ p.f0) → (k.filter (fun x => decide (x.f0 < p.f0))).length + (k.filter (fun x => decide (p.f0 < x.f0))).length = k.length := by
    intro k
    induction k with
    | nil => simp
    | cons a r ih =>
      intro hk
      have h1 := ih fun x hx => hk x (List.mem_cons_of_mem _ hx)
      have h2 := hk a List.mem_cons_self
      rw [List.filter_cons, List.filter_cons]
      by_cases h3 : a.f0 < p.f0
      · rw [if_pos (by simpa using h3), if_neg (by simp; omega)]
        simp only [List.length_cons]; omega
      · rw [if_neg (by simpa using h3), if_pos (by simp; omega)]
        simp only [List.length_cons]; omega
  have := key l h
  simp only [List.length_append, List.length_cons]
  omega
theorem full1 (v : Int) : putS [] (pts v 256) = (pts v 256, 256, 0) := by
  rw [putS_ok (pts_tick v (Nat.le_refl _)) (by rw [putA_ris (pts_ris v 256), pts_len]; exact Nat.le_refl _), putA_ris (pts_ris v 256), pts_len]
  rfl
theorem full2 (v : Int) : putS (pts v 256) [⟨1, 0⟩] = (pts v 256, 0, 6) := by
  rcases putS_cases (pts v 256) [⟨1, 0⟩] with ⟨_, h⟩ | ⟨h, _⟩ | ⟨_, h, _⟩
  · exact absurd (fun x hx => by rw [List.mem_singleton.1 hx]; decide) h
  · exact h
  · have e : (putA (pts v 256) [⟨1, 0⟩]).length = 257 := by
      show (putL (pts v 256) ⟨1, 0⟩).length = 257
      rw [putL_grow fun x hx => ?_, pts_len]
      obtain ⟨i, _, rfl⟩ := mem_pts hx
      show (3 : Int) * (i : Int) ≠ 1
      omega
    omega
theorem full3 (v : Int) (k : Nat) : putS (pts v 256) ((pts v 256).take k) = (pts v 256, 0, 0) := by
  have e : putA (pts v 256) ((pts v 256).take k) = pts v 256 := putA_sub (pts_ris v 256) fun p hp => List.mem_of_mem_take hp
  rw [putS_ok (fun x hx => pts_tick v (Nat.le_refl _) x (List.mem_of_mem_take hx)) (by rw [e, pts_len]; exact Nat.le_refl _), e, Int.sub_self]
def law7r.T20 : Bool × List (List Nat × List Nat) := (true, [([], []), ([0], [0]), ([1], [1]), ([2], [2]), ([3, 2], [2, 3]), ([2, 4], [2, 4]), ([5, 2], [5]), ([6], [6]), ([7, 6], [6, 7]), ([6, 8], [6, 8]), ([9, 6], [9]), ([10], [10]), ([11, 10], [10, 11]), ([10, 12], [10, 12]), ([13, 10], [13]), ([14], [14]), ([15, 14], [14, 15]), ([14, 16], [14, 16]), ([17, 14], [17]), ([18], [18]), ([19, 18, 18], [18, 19]), ([20, 18], [18, 20]), ([18, 21], [18, 21]), ([22, 20], [22]), ([23], [23]), ([24, 23], [23, 24]), ([23, 25], [23, 25]), ([26, 23], [26]), ([27], [27]), ([28, 27], [27, 28]), ([27, 29], [27, 29]), ([30, 27], [30]), ([31], [31]), ([32, 31], [31, 32]), ([31, 33], [31, 33]), ([34, 31], [34]), ([35], [35]), ([36, 35, 35], [35, 36]), ([35], [35]), ([35], [35]), ([38, 39, 37, 35], [35, 38, 39]), ([37, 40, 35], [35, 37, 40]), ([35], [35]), ([35], [35]), ([42, 43, 40, 35], [35, 42, 43]), ([41, 44, 35], [35, 41, 44]), ([35], [35]), ([35], [35]), ([46, 47, 44, 35], [35, 46, 47]), ([48, 35], [35, 48]), ([45, 49, 35], [35, 45, 49]), ([35], [35]), ([35], [35]), ([51, 52, 48, 35], [35, 51, 52]), ([50, 53, 35], [35, 50, 53]), ([54, 35], [35, 54]), ([35, 55], [35, 55]), ([56, 53], [56]), ([57], [57]), ([58, 57, 57], [57, 58]), ([59, 57], [57, 59]), ([57, 60], [57, 60]), ([61, 59, 0, 1, 2, 3, 4, 5, 6, 7, 8, 9, 10, 11, 12, 13, 14, 15, 16, 17, 18, 19, 20, 21, 22, 23, 24, 25, 26, 27, 28, 29, 30, 31, 32, 33, 34, 35, 36, 37, 38, 39, 40, 41, 42, 43, 44, 45, 46, 47, 48, 49, 50, 51, 52, 53, 54, 55, 56, 57, 58, 59, 60, 61], [61])])
def law7r.B20 : List Nat := [0, 1, 3, 7, 15, 31, 63, 127, 255, 511, 1023, 2047, 4095, 8191, 16383, 32767, 65535, 131071, 262143, 524287, 1048575, 2097151, 4194303, 8388607, 16777215, 33554431, 67108863, 134217727, 268435455, 536870911, 1073741823, 2147483647, 4294967295, 8589934591, 17179869183, 34359738367, 68719476735, 137438953471, 68719476735, 68719476735, 1099511627775, 2199023255551, 68719476735, 68719476735, 15393162788863, 35184372088831, 68719476735, 68719476735, 244091581366271, 525566558076927, 1125899906842623, 68719476735, 68719476735, 7280965999132671, 18014398509481983, 36028797018963967, 72057594037927935, 144115188075855871, 288230376151711743, 576460752303423487, 1152921504606846975, 2305843009213693951, 4611686018427387903]
theorem law7r.tab20 : rtab .any (opsOf Try.f7 20) = law7r.T20 := by kernel_rfl
theorem law7r.bits20 : waitsOk law7r.T20.2 law7r.B20 = true := by kernel_rfl
set_option maxRecDepth 100000 in
set_option maxHeartbeats 64000000 in
theorem law7_calls (n : Nat) (v : Int) (hn : n ≤ 65535) (w : World) : Calls Try.prog 7 #[.int .u16 (n : Int), .int .i64 v] w (TPost5 w) := by
  have HLV := Lib.hid lives14_calls
  have hu42 := Try.underlying42
  have hu29 := Try.underlying29
  obtain ⟨i29, hi29, z0, z1, z2⟩ := info_parts info29
  refine (callsIn_wide (n := 6)).1 (callsIn_of_wp_marks Try.func7 rfl trivial (wpIn_wide.2 ?_))
  simp only [Try.ntmps7, List.size_toArray, List.length_cons, List.length_nil, Nat.reduceAdd, Nat.reduceSub, Array.replicate_succ, Array.replicate_zero, List.push_toArray, List.append_toArray, List.nil_append, List.cons_append]
  have HT0 := Aside0.mk (blk_new w (.cells #[.bool false] 4))
  have HB0 := Aside0.mk ((Below.refl w.heap.size w).alloc (Nat.le_refl _) (.cells #[.bool false] 4))
  go_wp2_with fail
  refine (HLV.out _).mono ?_
  rintro e w1 ⟨rfl, h1⟩
  have HB1 := Aside0.mk (HB0.out.trans (h1.mono HB0.out.size))
  have HT1 := Aside0.mk (show w1.heap[w.heap.size]? = some (.cells #[.bool false] 4 (0, 0)) from (h1.block _ (by simp)).trans HT0.out)
  clear h1 HB0 HT0 HLV
  go_wp2_with fail
  go_loopw [5, 24] (fun v5 v24 wr => ∃ (j : Nat) (vr : Value), j ≤ 256 ∧ v5 = vr ∧ v24 = .int .i64 (j : Int) ∧ Aside0 (wr.ownsRow w.heap.size 29 2 vr j ((pts v j).flatMap cellsP)) ∧ Aside0 (wr.heap[w.heap.size]? = some (.cells #[.bool false] 4 (0, 0))) ∧ Aside0 (Below w.heap.size w wr)) (fun _ v _ => 256 - (intOf v).toNat)
  case atStart => exact ⟨0, _, by omega, rfl, rfl, ⟨World.ownsRow_nil _ _ _ _⟩, HT1, HB1⟩
  case round =>
    clear HT1 HB1
    obtain ⟨j, vr, hj, hv5, rfl, HO, HT, HB⟩ := hrel
    obtain rfl := hv5.symm
    by_cases hlt : j < 256
    · have hw3 : wrap64 (3 * (j : Int)) = 3 * (j : Int) := by unfold wrap64; omega
      have HSN := Aside0.mk (show (pts v (j + 1)).flatMap cellsP = (pts v j).flatMap cellsP ++ [.int .i64 (3 * (j : Int)), .int .i64 v] by rw [pts_snoc, List.flatMap_append]; rfl)
      have HTN := Aside0.mk (row_ne HO.out HT.out (by decide))
      go_wp2_with (first | (at_builtin; refine wpList_append_own _ rfl _ _ 22 rfl w.heap.size 29 i29 (.agg #[.int .i64 0, .int .i64 0]) 2 16 Try.underlying22 hi29 z0 z1 z2 rfl (by decide) _ j _ rfl (HO.out.alloc _) ⟨wr.heap.size, 0, none⟩ 1 1 [.int .i64 (3 * (j : Int)), .int .i64 v] rfl rfl (cells_new wr [.int .i64 (3 * (j : Int)), .int .i64 v] 29) (by simp [Value.oneCell']) (by unfold maxLen; omega) (by omega) (by have := HB.out.size; simp; omega) ?_) | go_in)
      intro v1 w2 ho hg _
      have HO2 := Aside0.mk (show w2.ownsRow w.heap.size 29 2 v1 (j + 1) ((pts v (j + 1)).flatMap cellsP) by rw [HSN.out]; exact ho)
      have HB2 := Aside0.mk ((HB.out.alloc HB.out.size (.cells #[.int .i64 (3 * (j : Int)), .int .i64 v] 29)).grown hg (by have := HB.out.size; simp; omega) (fun q hq => (HO.out.lt q hq).1))
      have HT2 := Aside0.mk (show w2.heap[w.heap.size]? = some (.cells #[.bool false] 4 (0, 0)) from (hg.block _ (by have := blk_lt HT.out; simp; omega) (fun e => HTN.out e.symm)).trans (blk_alloc HT.out _))
      clear ho hg HO HB HT HSN HTN
      go_wp2_with fail
      go_roundw
      case rel => exact ⟨j + 1, _, by omega, rfl, by go_num, HO2, HT2, HB2⟩
      case measure => simp [intOf]; omega
    · obtain rfl : j = 256 := by omega
      clear hlt hj
      obtain ⟨g, cap, cur, hvr, hg0, hcap, hcm, _⟩ := row_pos HO.out (by decide)
      subst hvr
      have hcap63 : cap ≤ 9223372036854775807 := by unfold maxLen at hcm; omega
      clear hg0 hcm
      have hol := HO.out
      rw [show (256 : Nat) = (pts v 256).length from (pts_len v 256).symm] at hol
      have HPRE := Lib.hid (fun (k : Nat) (hk : k ≤ 256) (W : World) (hW : Below wr.heap.size wr W) => show Kd.C k29 W (some ⟨g, 0, none⟩) ((pts v 256).take k).length ((pts v 256).take k) from by
        have hl : ((pts v 256).take k).length = k := by rw [List.length_take, pts_len]; omega
        have h1 : wr.ownsRow w.heap.size 29 2 (.slice (some ⟨g, 0, none⟩) ((pts v 256).take k).length cap) ((pts v 256).take k).length (((pts v 256).take k).flatMap cellsP) := by
          rw [hl]
          rcases HO.out.2 with ⟨h1, _⟩ | ⟨g3, c3, cur1, he3, hB3, hg3, h4, h5, h6, h7⟩
          · injection h1 with h1; cases h1
          · injection he3 with e1 e2 e3
            injection e1 with e1
            injection e1 with e1
            subst e1
            subst e3
            refine ⟨by rw [flat_len, hl], .inr ⟨g, cap, cur1, rfl, hB3, hg3, by omega, h5, h6, ?_⟩⟩
            rw [← flat_take, ← h7, List.take_take, Nat.min_eq_left (by omega)]
        exact Kd.C_below (kdC_of h1 (by rw [hl]; omega)).1 hW)
      have HKD := Lib.hid (fun (W : World) (hW : Below wr.heap.size wr W) => show Kd.C k29 W (some ⟨g, 0, none⟩) 256 (pts v 256) from by
        have h := Kd.C_below (kdC_of hol (by rw [pts_len]; omega)).1 hW
        rw [pts_len] at h
        exact h)
      have HPL := Aside0.mk (pts_len v 256)
      clear hol
      go_wp2_with fail
      refine (new_calls _).mono ?_
      rintro e w3 ⟨rfl, hs, hb, hz⟩
      obtain ⟨p, hp⟩ : ∃ p, p = wr.heap.size := ⟨_, rfl⟩
      rw [← hp] at hs ⊢
      have HPW := Aside0.mk (show w.heap.size < p by rw [hp]; exact blk_lt HT.out)
      have HBR3 := Aside0.mk hb
      have HB3 := Aside0.mk (HB.out.trans (hb.mono HB.out.size))
      have HT3 := Aside0.mk (show w3.heap[w.heap.size]? = some (.cells #[.bool false] 4 (0, 0)) from (hb.block _ (blk_lt HT.out)).trans HT.out)
      have HPUT := Aside0.mk (show Calls Try.prog 19 #[.pointer (some ⟨p, 0, none⟩), .slice (some ⟨g, 0, none⟩) 256 cap] w3 (PutPost _ p [] (pts v 256) w3) from by
        have h := put_calls _ p [] (pts v 256) (some ⟨g, 0, none⟩) cap w3 hs (by rw [HPL.out]; exact HKD.out w3 hb) (by rw [HPL.out]; exact Nat.le_refl _)
        rw [HPL.out] at h
        exact h)
      have HPR := Aside0.mk hp
      clear hs hb hz HB hp HT
      go_wp2_with fail
      refine HPUT.out.mono ?_
      rintro e w4 ⟨rfl, hs, hk⟩
      rw [full1] at hs ⊢
      have HS4 := Aside0.mk hs
      have HB4 := Aside0.mk (Keep.below_trans HB3.out hk (fun b _ hb => by rw [hb]; exact Nat.le_of_lt HPW.out) (Nat.le_refl _))
      have HBR4 := Aside0.mk (Keep.below_trans HBR3.out hk (fun b _ hb => by rw [hb, HPR.out]; exact Nat.le_refl _) (Nat.le_refl _))
      have HT4 := Aside0.mk (show w4.heap[w.heap.size]? = some (.cells #[.bool false] 4 (0, 0)) from hk.blk HT3.out (by have := HPW.out; omega))
      clear hs hk HPUT HB3 HT3 HBR3
      have HPUT : Aside0 (Calls Try.prog 19 #[.pointer (some ⟨p, 0, none⟩), .slice (some ⟨w4.heap.size, 0, none⟩) 1 1] (w4.alloc (.cells #[.int .i64 1, .int .i64 0] 29)) (PutPost _ p (pts v 256) [⟨1, 0⟩] (w4.alloc (.cells #[.int .i64 1, .int .i64 0] 29)))) :=
        ⟨put_calls _ p (pts v 256) [⟨1, 0⟩] (some ⟨w4.heap.size, 0, none⟩) 1 _ (HS4.out.below ((Below.refl _ _).alloc (Nat.le_refl _) _)) (lit_C w4 [⟨1, 0⟩] (by decide)) (by decide)⟩
      have HB5 := Aside0.mk (HB4.out.alloc HB4.out.size (.cells #[.int .i64 1, .int .i64 0] 29))
      have HBR5 := Aside0.mk (HBR4.out.alloc HBR4.out.size (.cells #[.int .i64 1, .int .i64 0] 29))
      have HT5 := Aside0.mk (blk_alloc HT4.out (.cells #[.int .i64 1, .int .i64 0] 29))
      clear HB4 HT4 HBR4 HS4
      go_wp2_with fail
      refine HPUT.out.mono ?_
      rintro e w6 ⟨rfl, hs, hk⟩
      rw [full2] at hs ⊢
      have HS6 := Aside0.mk hs
      have HB6 := Aside0.mk (Keep.below_trans HB5.out hk (fun b _ hb => by rw [hb]; exact Nat.le_of_lt HPW.out) (Nat.le_refl _))
      have HBR6 := Aside0.mk (Keep.below_trans HBR5.out hk (fun b _ hb => by rw [hb, HPR.out]; exact Nat.le_refl _) (Nat.le_refl _))
      have HT6 := Aside0.mk (show w6.heap[w.heap.size]? = some (.cells #[.bool false] 4 (0, 0)) from hk.blk HT5.out (by have := HPW.out; omega))
      clear hs hk HPUT HB5 HT5 HBR5
      obtain ⟨k, hk⟩ : ∃ k, k = n % 257 := ⟨_, rfl⟩
      have hk256 : k ≤ 256 := by omega
      have hkI : (n : Int) % 257 = (k : Int) := by omega
      have hkT : (n : Int).tmod 257 = (k : Int) := by rw [Int.tmod_eq_emod_of_nonneg (by omega)]; exact hkI
      have hkcap : k ≤ cap := by omega
      have hLK : ((pts v 256).take k).length = k := by rw [List.length_take, HPL.out]; omega
      have HPUT := Aside0.mk (show Calls Try.prog 19 #[.pointer (some ⟨p, 0, none⟩), .slice (some ⟨g, 0, none⟩) k cap] w6 (PutPost _ p (pts v 256) ((pts v 256).take k) w6) from by
        have h := put_calls _ p (pts v 256) ((pts v 256).take k) (some ⟨g, 0, none⟩) cap w6 HS6.out (HPRE.out k hk256 w6 HBR6.out) (by omega)
        rw [hLK] at h
        exact h)
      clear hk hLK HPRE HKD HS6
      go_wp2_with fail
      refine HPUT.out.mono ?_
      rintro e w7 ⟨rfl, hs, hk⟩
      rw [full3] at hs ⊢
      have HS7 := Aside0.mk hs
      have HB7 := Aside0.mk (Keep.below_trans HB6.out hk (fun b _ hb => by rw [hb]; exact Nat.le_of_lt HPW.out) (Nat.le_refl _))
      have HT7 := Aside0.mk (show w7.heap[w.heap.size]? = some (.cells #[.bool false] 4 (0, 0)) from hk.blk HT6.out (by have := HPW.out; omega))
      clear hs hk HPUT HB6 HT6 HBR6 hkI hkT
      go_wp2_with fail
      refine (put_nil _ _).mono ?_
      rintro e w8 ⟨rfl, rfl⟩
      go_wp2_with fail
      refine (first_nil _).mono ?_
      rintro e w9 ⟨rfl, h9⟩
      have HB9 := Aside0.mk (HB7.out.trans (h9.mono HB7.out.size))
      have HT9 := Aside0.mk (show w9.heap[w.heap.size]? = some (.cells #[.bool false] 4 (0, 0)) from (h9.block _ (blk_lt HT7.out)).trans HT7.out)
      have HS9 := Aside0.mk (HS7.out.below h9)
      clear h9 HB7 HT7 HS7
      go_wp2_with fail
      refine (last_nil _).mono ?_
      rintro e w10 ⟨rfl, h10⟩
      have HB10 := Aside0.mk ((HB9.out.alloc HB9.out.size (.cells #[.int .i64 0, .int .i64 0] 29)).trans (h10.mono (by have := HB9.out.size; simp; omega)))
      have HT10 := Aside0.mk (show w10.heap[w.heap.size]? = some (.cells #[.bool false] 4 (0, 0)) from (h10.block _ (by have := blk_lt HT9.out; simp; omega)).trans (blk_alloc HT9.out _))
      have HS10 := Aside0.mk ((HS9.out.below ((Below.refl _ _).alloc (Nat.le_refl _) (.cells #[.int .i64 0, .int .i64 0] 29))).below h10)
      clear h10 HB9 HT9 HS9
      obtain ⟨W, hW⟩ : ∃ W, W = w10.alloc (.cells #[.int .i64 0, .int .i64 0] 29) := ⟨_, rfl⟩
      have HB11 := Aside0.mk (show Below w.heap.size w W by rw [hW]; exact HB10.out.alloc HB10.out.size _)
      have HT11 := Aside0.mk (show W.heap[w.heap.size]? = some (.cells #[.bool false] 4 (0, 0)) by rw [hW]; exact blk_alloc HT10.out _)
      have HS11 := Aside0.mk (show IsSer _ p (pts v 256) W by rw [hW]; exact HS10.out.below ((Below.refl _ _).alloc (Nat.le_refl _) _))
      have hz11 : w10.heap.size + 1 = W.heap.size := by rw [hW]; simp
      clear HB10 HT10 HS10
      go_wp2_with fail
      rw [← hW]
      refine (all_calls _ W (.inl rfl)).mono ?_
      rintro e w12 ⟨rfl, rfl⟩
      clear hW
      go_wp2_with fail
      have hc12 : (W.alloc (.cells #[.pointer none] 35)).cell? ⟨W.heap.size, 0, none⟩ = some (.pointer none) := blk_cell (blk_new W _) 0
      have HS12 := Aside0.mk (HS11.out.below ((Below.refl _ _).alloc (Nat.le_refl _) (.cells #[.pointer none] 35)))
      have HB12 := Aside0.mk (HB11.out.alloc HB11.out.size (.cells #[.pointer none] 35))
      have HT12 := Aside0.mk (blk_alloc HT11.out (.cells #[.pointer none] 35))
      clear HB11 HT11 HS11
      refine (wpIn_wide (n := 6)).1 (wpIn_rangeFunc_ownF (F := Fence.wide) (n := 6) rfl (by decide) (gf := 65) (lb := #[.pointer (some ⟨W.heap.size, 0, none⟩)]) rfl trivial (enters_of Try.func65 (by kernel_rfl) rfl)
        (all_nil_stops 5 W.heap.size (W.heap.size + 1) (W.alloc (.cells #[.pointer none] 35)) hc12) belowK_t (belowK_b (by simp)) (Below.refl _ _) (fun _ => rfl)
        (fun pre W' => Below (W.heap.size + 1) (W.alloc (.cells #[.pointer none] 35)) W') (fun _ _ _ => False)
        (ownFrom_below (by simp) (by simp)) (fun _ _ _ _ _ hs _ _ => hs) (Below.refl _ _) ?a1 ?assign ?body ?done ?stop)
      case assign =>
        intro l x W' K hK
        gi_wp2
        exact hK
      case body =>
        rintro l pre x W' _ h
        omega
      case stop =>
        rintro D c pre W' _ h _ _
        exact h.elim
      case done =>
        rintro D xs W' hD _ hB' hK
        have hbW : Below (W.alloc (.cells #[.pointer none] 35)).heap.size (W.alloc (.cells #[.pointer none] 35)) W' := by rw [World.size_alloc]; exact hB'
        have HS13 := Aside0.mk (HS12.out.below hbW)
        have HB13 := Aside0.mk (HB12.out.trans (hbW.mono HB12.out.size))
        have HT13 := Aside0.mk (show W'.heap[w.heap.size]? = some (.cells #[.bool false] 4 (0, 0)) from (hbW.block _ (blk_lt HT12.out)).trans HT12.out)
        have HK13 := Aside0.mk hK
        have HDD := Aside0.mk (show w.heap.size < D by have h1 := blk_lt HT12.out; omega)
        clear hbW hB' hK hD HS12 HB12 HT12 hc12
        obtain ⟨X, hX⟩ : ∃ X, X = W'.alloc (.cells #[.int .i64 0, .int .i64 1099511627776] 42) := ⟨_, rfl⟩
        obtain ⟨R, hR⟩ : ∃ R, R = W'.heap.size := ⟨_, rfl⟩
        have q0 : X.cell? ⟨R, 0, none⟩ = some (.int .i64 0) := by rw [hX, hR]; exact blk_cell (blk_new W' _) 0
        have q1 : X.cell? ⟨R, 1, none⟩ = some (.int .i64 1099511627776) := by rw [hX, hR]; exact blk_cell (blk_new W' _) 1
        have q2 : X.heap[w.heap.size]? = some (.cells #[.bool false] 4 (0, 0)) := by rw [hX]; exact blk_alloc HT13.out _
        have HKX := Aside0.mk (show X.heap[D]? = some (.deferred (some [])) by rw [hX]; exact blk_alloc HK13.out _)
        have HSX := Aside0.mk (show IsSer _ p (pts v 256) X.drew by rw [hX]; exact (HS13.out.below ((Below.refl _ _).alloc (Nat.le_refl _) _)).below (pw_below_drewN (Below.refl _ _) 1))
        have HBX := Aside0.mk (show Below w.heap.size w X.drew by rw [hX]; exact pw_below_drewN (HB13.out.alloc HB13.out.size _) 1)
        have HLEN := Aside0.mk (show Calls Try.prog 22 #[.pointer (some ⟨p, 0, none⟩)] X.drew (TPostI (.int .i64 256) X.drew) from by
          have h := len_ser _ p (pts v 256) X.drew HSX.out
          rw [HPL.out] at h
          exact h)
        clear HS13 HB13 HT13 HK13
        go_wp2_with fail
        rw [← hX, ← hR]
        have HRT := Aside0.mk (show R ≠ w.heap.size by have h1 := HDD.out; have h2 := blk_lt q2; have h3 := q0; intro e; rw [e] at h3; rw [blk_cell q2 0] at h3; simp at h3)
        clear hX hR
        have hw0 : wrap64 0 = 0 := by unfold wrap64; omega
        refine wp_region_noPanic ?_
        refine start_ (n := 63) (S := fun w' => (w'.cell? ⟨R, 0, none⟩ = some (.int .i64 0)) ∧ (w'.cell? ⟨R, 1, none⟩ = some (.int .i64 1099511627776)) ∧ (∃ b, w'.heap[w.heap.size]? = some (.cells #[.bool b] 4 (0, 0)))) (ds := []) #[false, false, false, false, false, false, false, false, false, false, false, false, false, false, false, false, false, false, false, false, false, false, false, false, false, false, false, false, false, false, false, false, false, false, false, false, false, false, false, false, false, false, false, false, false, false, false, false, false, false, false, false, false, false, false, false, false, false, false, false, false, false, false] (by kernel_rfl) rfl rfl ⟨q0, q1, ⟨false, q2⟩⟩ (fun hHeld => ?_)
        refine with_tabW law7r.tab20 law7r.bits20 (fun HT_ HW_ => ?_)
        refine pure_ (i := 0) (N := some 79) (v := ?_) (a' := ?_) #[true, false, false, false, false, false, false, false, false, false, false, false, false, false, false, false, false, false, false, false, false, false, false, false, false, false, false, false, false, false, false, false, false, false, false, false, false, false, false, false, false, false, false, false, false, false, false, false, false, false, false, false, false, false, false, false, false, false, false, false, false, false, false] rfl rfl (any_of HT_.out (by kernel_rfl)) (fun _ _ _ h => h) (Or.inl ⟨by rfl, ?_⟩) ?_ ?_
        rotate_left
        · intro w'
          go_simp
          with_reducible rfl
        rotate_left
        · simp only [Act.put, List.setIfInBounds_toArray, List.set_cons_zero, List.set_cons_succ, i64_w, i32_w]
          rfl
        refine pure_ (i := 1) (N := some 80) (v := ?_) (a' := ?_) #[true, true, false, false, false, false, false, false, false, false, false, false, false, false, false, false, false, false, false, false, false, false, false, false, false, false, false, false, false, false, false, false, false, false, false, false, false, false, false, false, false, false, false, false, false, false, false, false, false, false, false, false, false, false, false, false, false, false, false, false, false, false, false] rfl rfl (any_of HT_.out (by kernel_rfl)) (fun _ _ _ h => h) (Or.inl ⟨by rfl, ?_⟩) ?_ ?_
        rotate_left
        · intro w'
          go_simp
          with_reducible rfl
        rotate_left
        · simp only [Act.put, List.setIfInBounds_toArray, List.set_cons_zero, List.set_cons_succ, i64_w, i32_w]
          rfl
        refine pure_ (i := 2) (N := some 81) (v := ?_) (a' := ?_) #[true, true, true, false, false, false, false, false, false, false, false, false, false, false, false, false, false, false, false, false, false, false, false, false, false, false, false, false, false, false, false, false, false, false, false, false, false, false, false, false, false, false, false, false, false, false, false, false, false, false, false, false, false, false, false, false, false, false, false, false, false, false, false] rfl rfl (any_of HT_.out (by kernel_rfl)) (fun _ _ _ h => h) (Or.inl ⟨by rfl, ?_⟩) ?_ ?_
        rotate_left
        · intro w'
          go_simp
          with_reducible rfl
        rotate_left
        · simp only [Act.put, List.setIfInBounds_toArray, List.set_cons_zero, List.set_cons_succ, i64_w, i32_w]
          rfl
        refine pure_ (i := 3) (N := some 82) (v := ?_) (a' := ?_) #[true, true, true, true, false, false, false, false, false, false, false, false, false, false, false, false, false, false, false, false, false, false, false, false, false, false, false, false, false, false, false, false, false, false, false, false, false, false, false, false, false, false, false, false, false, false, false, false, false, false, false, false, false, false, false, false, false, false, false, false, false, false, false] rfl rfl (any_of HT_.out (by kernel_rfl)) (fun _ _ _ h => h) (Or.inl ⟨by rfl, ?_⟩) ?_ ?_
        rotate_left
        · intro w'
          go_simp
          with_reducible rfl
        rotate_left
        · simp only [Act.put, List.setIfInBounds_toArray, List.set_cons_zero, List.set_cons_succ, i64_w, i32_w]
          rfl
        refine pure_ (i := 4) (N := some 83) (v := ?_) (a' := ?_) #[true, true, true, true, true, false, false, false, false, false, false, false, false, false, false, false, false, false, false, false, false, false, false, false, false, false, false, false, false, false, false, false, false, false, false, false, false, false, false, false, false, false, false, false, false, false, false, false, false, false, false, false, false, false, false, false, false, false, false, false, false, false, false] rfl rfl (any_of HT_.out (by kernel_rfl)) (fun _ _ _ h => h) (Or.inl ⟨by rfl, ?_⟩) ?_ ?_
        rotate_left
        · intro w'
          go_simp
          with_reducible rfl
        rotate_left
        · simp only [Act.put, List.setIfInBounds_toArray, List.set_cons_zero, List.set_cons_succ, i64_w, i32_w]
          rfl
        refine pure_ (i := 5) (N := some 84) (v := ?_) (a' := ?_) #[true, true, true, true, true, true, false, false, false, false, false, false, false, false, false, false, false, false, false, false, false, false, false, false, false, false, false, false, false, false, false, false, false, false, false, false, false, false, false, false, false, false, false, false, false, false, false, false, false, false, false, false, false, false, false, false, false, false, false, false, false, false, false] rfl rfl (any_of HT_.out (by kernel_rfl)) (fun _ _ _ h => h) (Or.inl ⟨by rfl, ?_⟩) ?_ ?_
        rotate_left
        · intro w'
          go_simp
          with_reducible rfl
        rotate_left
        · simp only [Act.put, List.setIfInBounds_toArray, List.set_cons_zero, List.set_cons_succ, i64_w, i32_w]
          rfl
        refine pure_ (i := 6) (N := some 85) (v := ?_) (a' := ?_) #[true, true, true, true, true, true, true, false, false, false, false, false, false, false, false, false, false, false, false, false, false, false, false, false, false, false, false, false, false, false, false, false, false, false, false, false, false, false, false, false, false, false, false, false, false, false, false, false, false, false, false, false, false, false, false, false, false, false, false, false, false, false, false] rfl rfl (any_of HT_.out (by kernel_rfl)) (fun _ _ _ h => h) (Or.inl ⟨by rfl, ?_⟩) ?_ ?_
        rotate_left
        · intro w'
          go_simp
          with_reducible rfl
        rotate_left
        · simp only [Act.put, List.setIfInBounds_toArray, List.set_cons_zero, List.set_cons_succ, i64_w, i32_w]
          rfl
        refine pure_ (i := 7) (N := some 86) (v := ?_) (a' := ?_) #[true, true, true, true, true, true, true, true, false, false, false, false, false, false, false, false, false, false, false, false, false, false, false, false, false, false, false, false, false, false, false, false, false, false, false, false, false, false, false, false, false, false, false, false, false, false, false, false, false, false, false, false, false, false, false, false, false, false, false, false, false, false, false] rfl rfl (any_of HT_.out (by kernel_rfl)) (fun _ _ _ h => h) (Or.inl ⟨by rfl, ?_⟩) ?_ ?_
        rotate_left
        · intro w'
          go_simp
          with_reducible rfl
        rotate_left
        · simp only [Act.put, List.setIfInBounds_toArray, List.set_cons_zero, List.set_cons_succ, i64_w, i32_w]
          rfl
        refine pure_ (i := 8) (N := some 87) (v := ?_) (a' := ?_) #[true, true, true, true, true, true, true, true, true, false, false, false, false, false, false, false, false, false, false, false, false, false, false, false, false, false, false, false, false, false, false, false, false, false, false, false, false, false, false, false, false, false, false, false, false, false, false, false, false, false, false, false, false, false, false, false, false, false, false, false, false, false, false] rfl rfl (any_of HT_.out (by kernel_rfl)) (fun _ _ _ h => h) (Or.inl ⟨by rfl, ?_⟩) ?_ ?_
        rotate_left
        · intro w'
          go_simp
          with_reducible rfl
        rotate_left
        · simp only [Act.put, List.setIfInBounds_toArray, List.set_cons_zero, List.set_cons_succ, i64_w, i32_w]
          rfl
        refine pure_ (i := 9) (N := some 88) (v := ?_) (a' := ?_) #[true, true, true, true, true, true, true, true, true, true, false, false, false, false, false, false, false, false, false, false, false, false, false, false, false, false, false, false, false, false, false, false, false, false, false, false, false, false, false, false, false, false, false, false, false, false, false, false, false, false, false, false, false, false, false, false, false, false, false, false, false, false, false] rfl rfl (any_of HT_.out (by kernel_rfl)) (fun _ _ _ h => h) (Or.inl ⟨by rfl, ?_⟩) ?_ ?_
        rotate_left
        · intro w'
          go_simp
          with_reducible rfl
        rotate_left
        · simp only [Act.put, List.setIfInBounds_toArray, List.set_cons_zero, List.set_cons_succ, i64_w, i32_w]
          rfl
        refine pure_ (i := 10) (N := some 89) (v := ?_) (a' := ?_) #[true, true, true, true, true, true, true, true, true, true, true, false, false, false, false, false, false, false, false, false, false, false, false, false, false, false, false, false, false, false, false, false, false, false, false, false, false, false, false, false, false, false, false, false, false, false, false, false, false, false, false, false, false, false, false, false, false, false, false, false, false, false, false] rfl rfl (any_of HT_.out (by kernel_rfl)) (fun _ _ _ h => h) (Or.inl ⟨by rfl, ?_⟩) ?_ ?_
        rotate_left
        · intro w'
          go_simp
          with_reducible rfl
        rotate_left
        · simp only [Act.put, List.setIfInBounds_toArray, List.set_cons_zero, List.set_cons_succ, i64_w, i32_w]
          rfl
        refine pure_ (i := 11) (N := some 90) (v := ?_) (a' := ?_) #[true, true, true, true, true, true, true, true, true, true, true, true, false, false, false, false, false, false, false, false, false, false, false, false, false, false, false, false, false, false, false, false, false, false, false, false, false, false, false, false, false, false, false, false, false, false, false, false, false, false, false, false, false, false, false, false, false, false, false, false, false, false, false] rfl rfl (any_of HT_.out (by kernel_rfl)) (fun _ _ _ h => h) (Or.inl ⟨by rfl, ?_⟩) ?_ ?_
        rotate_left
        · intro w'
          go_simp
          with_reducible rfl
        rotate_left
        · simp only [Act.put, List.setIfInBounds_toArray, List.set_cons_zero, List.set_cons_succ, i64_w, i32_w]
          rfl
        refine pure_ (i := 12) (N := some 91) (v := ?_) (a' := ?_) #[true, true, true, true, true, true, true, true, true, true, true, true, true, false, false, false, false, false, false, false, false, false, false, false, false, false, false, false, false, false, false, false, false, false, false, false, false, false, false, false, false, false, false, false, false, false, false, false, false, false, false, false, false, false, false, false, false, false, false, false, false, false, false] rfl rfl (any_of HT_.out (by kernel_rfl)) (fun _ _ _ h => h) (Or.inl ⟨by rfl, ?_⟩) ?_ ?_
        rotate_left
        · intro w'
          go_simp
          with_reducible rfl
        rotate_left
        · simp only [Act.put, List.setIfInBounds_toArray, List.set_cons_zero, List.set_cons_succ, i64_w, i32_w]
          rfl
        refine pure_ (i := 13) (N := some 92) (v := ?_) (a' := ?_) #[true, true, true, true, true, true, true, true, true, true, true, true, true, true, false, false, false, false, false, false, false, false, false, false, false, false, false, false, false, false, false, false, false, false, false, false, false, false, false, false, false, false, false, false, false, false, false, false, false, false, false, false, false, false, false, false, false, false, false, false, false, false, false] rfl rfl (any_of HT_.out (by kernel_rfl)) (fun _ _ _ h => h) (Or.inl ⟨by rfl, ?_⟩) ?_ ?_
        rotate_left
        · intro w'
          go_simp
          with_reducible rfl
        rotate_left
        · simp only [Act.put, List.setIfInBounds_toArray, List.set_cons_zero, List.set_cons_succ, i64_w, i32_w]
          rfl
        refine pure_ (i := 14) (N := some 93) (v := ?_) (a' := ?_) #[true, true, true, true, true, true, true, true, true, true, true, true, true, true, true, false, false, false, false, false, false, false, false, false, false, false, false, false, false, false, false, false, false, false, false, false, false, false, false, false, false, false, false, false, false, false, false, false, false, false, false, false, false, false, false, false, false, false, false, false, false, false, false] rfl rfl (any_of HT_.out (by kernel_rfl)) (fun _ _ _ h => h) (Or.inl ⟨by rfl, ?_⟩) ?_ ?_
        rotate_left
        · intro w'
          go_simp
          with_reducible rfl
        rotate_left
        · simp only [Act.put, List.setIfInBounds_toArray, List.set_cons_zero, List.set_cons_succ, i64_w, i32_w]
          rfl
        refine pure_ (i := 15) (N := some 94) (v := ?_) (a' := ?_) #[true, true, true, true, true, true, true, true, true, true, true, true, true, true, true, true, false, false, false, false, false, false, false, false, false, false, false, false, false, false, false, false, false, false, false, false, false, false, false, false, false, false, false, false, false, false, false, false, false, false, false, false, false, false, false, false, false, false, false, false, false, false, false] rfl rfl (any_of HT_.out (by kernel_rfl)) (fun _ _ _ h => h) (Or.inl ⟨by rfl, ?_⟩) ?_ ?_
        rotate_left
        · intro w'
          go_simp
          with_reducible rfl
        rotate_left
        · simp only [Act.put, List.setIfInBounds_toArray, List.set_cons_zero, List.set_cons_succ, i64_w, i32_w]
          rfl
        refine pure_ (i := 16) (N := some 95) (v := ?_) (a' := ?_) #[true, true, true, true, true, true, true, true, true, true, true, true, true, true, true, true, true, false, false, false, false, false, false, false, false, false, false, false, false, false, false, false, false, false, false, false, false, false, false, false, false, false, false, false, false, false, false, false, false, false, false, false, false, false, false, false, false, false, false, false, false, false, false] rfl rfl (any_of HT_.out (by kernel_rfl)) (fun _ _ _ h => h) (Or.inl ⟨by rfl, ?_⟩) ?_ ?_
        rotate_left
        · intro w'
          go_simp
          with_reducible rfl
        rotate_left
        · simp only [Act.put, List.setIfInBounds_toArray, List.set_cons_zero, List.set_cons_succ, i64_w, i32_w]
          rfl
        refine pure_ (i := 17) (N := some 96) (v := ?_) (a' := ?_) #[true, true, true, true, true, true, true, true, true, true, true, true, true, true, true, true, true, true, false, false, false, false, false, false, false, false, false, false, false, false, false, false, false, false, false, false, false, false, false, false, false, false, false, false, false, false, false, false, false, false, false, false, false, false, false, false, false, false, false, false, false, false, false] rfl rfl (any_of HT_.out (by kernel_rfl)) (fun _ _ _ h => h) (Or.inl ⟨by rfl, ?_⟩) ?_ ?_
        rotate_left
        · intro w'
          go_simp
          with_reducible rfl
        rotate_left
        · simp only [Act.put, List.setIfInBounds_toArray, List.set_cons_zero, List.set_cons_succ, i64_w, i32_w]
          rfl
        refine pure_ (i := 18) (N := some 97) (v := ?_) (a' := ?_) #[true, true, true, true, true, true, true, true, true, true, true, true, true, true, true, true, true, true, true, false, false, false, false, false, false, false, false, false, false, false, false, false, false, false, false, false, false, false, false, false, false, false, false, false, false, false, false, false, false, false, false, false, false, false, false, false, false, false, false, false, false, false, false] rfl rfl (any_of HT_.out (by kernel_rfl)) (fun _ _ _ h => h) (Or.inl ⟨by rfl, ?_⟩) ?_ ?_
        rotate_left
        · intro w'
          go_simp
          with_reducible rfl
        rotate_left
        · simp only [Act.put, List.setIfInBounds_toArray, List.set_cons_zero, List.set_cons_succ, i64_w, i32_w]
          rfl
        refine pure_ (i := 19) (N := some 98) (v := ?_) (a' := ?_) #[true, true, true, true, true, true, true, true, true, true, true, true, true, true, true, true, true, true, true, true, false, false, false, false, false, false, false, false, false, false, false, false, false, false, false, false, false, false, false, false, false, false, false, false, false, false, false, false, false, false, false, false, false, false, false, false, false, false, false, false, false, false, false] rfl rfl (any_of HT_.out (by kernel_rfl)) (fun _ _ _ h => h) (Or.inl ⟨by rfl, ?_⟩) ?_ ?_
        rotate_left
        · intro w'
          go_simp
          with_reducible rfl
        rotate_left
        · simp only [Act.put, List.setIfInBounds_toArray, List.set_cons_zero, List.set_cons_succ, i64_w, i32_w]
          rfl
        refine one_ (i := 20) (N := some 99) #[true, true, true, true, true, true, true, true, true, true, true, true, true, true, true, true, true, true, true, true, true, false, false, false, false, false, false, false, false, false, false, false, false, false, false, false, false, false, false, false, false, false, false, false, false, false, false, false, false, false, false, false, false, false, false, false, false, false, false, false, false, false, false] rfl rfl (one_of HT_.out (by kernel_rfl)) (by decide) (fun K hK => ?_)
        refine goes_ Try.func22 (by kernel_rfl) rfl #[.pointer (some ⟨p, 0, none⟩)] (by rfl) rfl rfl (by simp only [List.map_toArray, List.map_cons, List.map_nil]; rfl) ?_
        with_reducible refine (HLEN.out).mono ?_
        rintro e w20 ⟨rfl, h20⟩
        have k0 := bread h20 hHeld.1
        have k1 := bread h20 hHeld.2.1
        obtain ⟨bt20, hbt20⟩ := hHeld.2.2
        have k2 : ∃ b, w20.heap[w.heap.size]? = some (.cells #[.bool b] 4 (0, 0)) := ⟨bt20, (h20.block _ (blk_lt hbt20)).trans hbt20⟩
        have HKD20 := Aside0.mk (show w20.heap[D]? = some (.deferred (some [])) from (h20.block D (blk_lt HKX.out)).trans HKX.out)
        have HBN20 := Aside0.mk (HBX.out.trans (h20.mono HBX.out.size))
        clear h20
        refine ⟨_, rfl, ?_⟩
        refine hK.out _ _ ⟨k0, k1, k2⟩ (fun hHeld => ?_)
        clear hK K
        refine norm_ (a' := ?_) ?_ ?_
        rotate_left
        · show Act.put _ (some 99) _ = _
          simp only [Act.put, List.setIfInBounds_toArray, List.set_cons_zero, List.set_cons_succ, i64_w, i32_w]
          rfl
        refine pure_ (i := 21) (N := some 100) (v := ?_) (a' := ?_) #[true, true, true, true, true, true, true, true, true, true, true, true, true, true, true, true, true, true, true, true, true, true, false, false, false, false, false, false, false, false, false, false, false, false, false, false, false, false, false, false, false, false, false, false, false, false, false, false, false, false, false, false, false, false, false, false, false, false, false, false, false, false, false] rfl rfl (any_of HT_.out (by kernel_rfl)) (fun _ _ _ h => h) (Or.inl ⟨by rfl, ?_⟩) ?_ ?_
        rotate_left
        · intro w'
          go_simp
          with_reducible rfl
        rotate_left
        · simp only [Act.put, List.setIfInBounds_toArray, List.set_cons_zero, List.set_cons_succ, i64_w, i32_w]
          rfl
        refine pure_ (i := 22) (N := some 101) (v := ?_) (a' := ?_) #[true, true, true, true, true, true, true, true, true, true, true, true, true, true, true, true, true, true, true, true, true, true, true, false, false, false, false, false, false, false, false, false, false, false, false, false, false, false, false, false, false, false, false, false, false, false, false, false, false, false, false, false, false, false, false, false, false, false, false, false, false, false, false] rfl rfl (any_of HT_.out (by kernel_rfl)) (fun _ _ _ h => h) (Or.inl ⟨by rfl, ?_⟩) ?_ ?_
        rotate_left
        · intro w'
          go_simp
          with_reducible rfl
        rotate_left
        · simp only [Act.put, List.setIfInBounds_toArray, List.set_cons_zero, List.set_cons_succ, i64_w, i32_w]
          rfl
        refine pure_ (i := 23) (N := some 102) (v := ?_) (a' := ?_) #[true, true, true, true, true, true, true, true, true, true, true, true, true, true, true, true, true, true, true, true, true, true, true, true, false, false, false, false, false, false, false, false, false, false, false, false, false, false, false, false, false, false, false, false, false, false, false, false, false, false, false, false, false, false, false, false, false, false, false, false, false, false, false] rfl rfl (any_of HT_.out (by kernel_rfl)) (fun _ _ _ h => h) (Or.inl ⟨by rfl, ?_⟩) ?_ ?_
        rotate_left
        · intro w'
          go_simp
          with_reducible rfl
        rotate_left
        · simp only [Act.put, List.setIfInBounds_toArray, List.set_cons_zero, List.set_cons_succ, i64_w, i32_w]
          rfl
        refine pure_ (i := 24) (N := some 103) (v := ?_) (a' := ?_) #[true, true, true, true, true, true, true, true, true, true, true, true, true, true, true, true, true, true, true, true, true, true, true, true, true, false, false, false, false, false, false, false, false, false, false, false, false, false, false, false, false, false, false, false, false, false, false, false, false, false, false, false, false, false, false, false, false, false, false, false, false, false, false] rfl rfl (any_of HT_.out (by kernel_rfl)) (fun _ _ _ h => h) (Or.inl ⟨by rfl, ?_⟩) ?_ ?_
        rotate_left
        · intro w'
          go_simp
          with_reducible rfl
        rotate_left
        · simp only [Act.put, List.setIfInBounds_toArray, List.set_cons_zero, List.set_cons_succ, i64_w, i32_w]
          rfl
        refine pure_ (i := 25) (N := some 104) (v := ?_) (a' := ?_) #[true, true, true, true, true, true, true, true, true, true, true, true, true, true, true, true, true, true, true, true, true, true, true, true, true, true, false, false, false, false, false, false, false, false, false, false, false, false, false, false, false, false, false, false, false, false, false, false, false, false, false, false, false, false, false, false, false, false, false, false, false, false, false] rfl rfl (any_of HT_.out (by kernel_rfl)) (fun _ _ _ h => h) (Or.inl ⟨by rfl, ?_⟩) ?_ ?_
        rotate_left
        · intro w'
          go_simp
          with_reducible rfl
        rotate_left
        · simp only [Act.put, List.setIfInBounds_toArray, List.set_cons_zero, List.set_cons_succ, i64_w, i32_w]
          rfl
        refine pure_ (i := 26) (N := some 105) (v := ?_) (a' := ?_) #[true, true, true, true, true, true, true, true, true, true, true, true, true, true, true, true, true, true, true, true, true, true, true, true, true, true, true, false, false, false, false, false, false, false, false, false, false, false, false, false, false, false, false, false, false, false, false, false, false, false, false, false, false, false, false, false, false, false, false, false, false, false, false] rfl rfl (any_of HT_.out (by kernel_rfl)) (fun _ _ _ h => h) (Or.inl ⟨by rfl, ?_⟩) ?_ ?_
        rotate_left
        · intro w'
          go_simp
          with_reducible rfl
        rotate_left
        · simp only [Act.put, List.setIfInBounds_toArray, List.set_cons_zero, List.set_cons_succ, i64_w, i32_w]
          rfl
        refine pure_ (i := 27) (N := some 106) (v := ?_) (a' := ?_) #[true, true, true, true, true, true, true, true, true, true, true, true, true, true, true, true, true, true, true, true, true, true, true, true, true, true, true, true, false, false, false, false, false, false, false, false, false, false, false, false, false, false, false, false, false, false, false, false, false, false, false, false, false, false, false, false, false, false, false, false, false, false, false] rfl rfl (any_of HT_.out (by kernel_rfl)) (fun _ _ _ h => h) (Or.inl ⟨by rfl, ?_⟩) ?_ ?_
        rotate_left
        · intro w'
          go_simp
          with_reducible rfl
        rotate_left
        · simp only [Act.put, List.setIfInBounds_toArray, List.set_cons_zero, List.set_cons_succ, i64_w, i32_w]
          rfl
        refine pure_ (i := 28) (N := some 107) (v := ?_) (a' := ?_) #[true, true, true, true, true, true, true, true, true, true, true, true, true, true, true, true, true, true, true, true, true, true, true, true, true, true, true, true, true, false, false, false, false, false, false, false, false, false, false, false, false, false, false, false, false, false, false, false, false, false, false, false, false, false, false, false, false, false, false, false, false, false, false] rfl rfl (any_of HT_.out (by kernel_rfl)) (fun _ _ _ h => h) (Or.inl ⟨by rfl, ?_⟩) ?_ ?_
        rotate_left
        · intro w'
          go_simp
          with_reducible rfl
        rotate_left
        · simp only [Act.put, List.setIfInBounds_toArray, List.set_cons_zero, List.set_cons_succ, i64_w, i32_w]
          rfl
        refine pure_ (i := 29) (N := some 108) (v := ?_) (a' := ?_) #[true, true, true, true, true, true, true, true, true, true, true, true, true, true, true, true, true, true, true, true, true, true, true, true, true, true, true, true, true, true, false, false, false, false, false, false, false, false, false, false, false, false, false, false, false, false, false, false, false, false, false, false, false, false, false, false, false, false, false, false, false, false, false] rfl rfl (any_of HT_.out (by kernel_rfl)) (fun _ _ _ h => h) (Or.inl ⟨by rfl, ?_⟩) ?_ ?_
        rotate_left
        · intro w'
          go_simp
          with_reducible rfl
        rotate_left
        · simp only [Act.put, List.setIfInBounds_toArray, List.set_cons_zero, List.set_cons_succ, i64_w, i32_w]
          rfl
        refine pure_ (i := 30) (N := some 109) (v := ?_) (a' := ?_) #[true, true, true, true, true, true, true, true, true, true, true, true, true, true, true, true, true, true, true, true, true, true, true, true, true, true, true, true, true, true, true, false, false, false, false, false, false, false, false, false, false, false, false, false, false, false, false, false, false, false, false, false, false, false, false, false, false, false, false, false, false, false, false] rfl rfl (any_of HT_.out (by kernel_rfl)) (fun _ _ _ h => h) (Or.inl ⟨by rfl, ?_⟩) ?_ ?_
        rotate_left
        · intro w'
          go_simp
          with_reducible rfl
        rotate_left
        · simp only [Act.put, List.setIfInBounds_toArray, List.set_cons_zero, List.set_cons_succ, i64_w, i32_w]
          rfl
        refine pure_ (i := 31) (N := some 110) (v := ?_) (a' := ?_) #[true, true, true, true, true, true, true, true, true, true, true, true, true, true, true, true, true, true, true, true, true, true, true, true, true, true, true, true, true, true, true, true, false, false, false, false, false, false, false, false, false, false, false, false, false, false, false, false, false, false, false, false, false, false, false, false, false, false, false, false, false, false, false] rfl rfl (any_of HT_.out (by kernel_rfl)) (fun _ _ _ h => h) (Or.inl ⟨by rfl, ?_⟩) ?_ ?_
        rotate_left
        · intro w'
          go_simp
          with_reducible rfl
        rotate_left
        · simp only [Act.put, List.setIfInBounds_toArray, List.set_cons_zero, List.set_cons_succ, i64_w, i32_w]
          rfl
        refine pure_ (i := 32) (N := some 111) (v := ?_) (a' := ?_) #[true, true, true, true, true, true, true, true, true, true, true, true, true, true, true, true, true, true, true, true, true, true, true, true, true, true, true, true, true, true, true, true, true, false, false, false, false, false, false, false, false, false, false, false, false, false, false, false, false, false, false, false, false, false, false, false, false, false, false, false, false, false, false] rfl rfl (any_of HT_.out (by kernel_rfl)) (fun _ _ _ h => h) (Or.inl ⟨by rfl, ?_⟩) ?_ ?_
        rotate_left
        · intro w'
          go_simp
          with_reducible rfl
        rotate_left
        · simp only [Act.put, List.setIfInBounds_toArray, List.set_cons_zero, List.set_cons_succ, i64_w, i32_w]
          rfl
        refine pure_ (i := 33) (N := some 112) (v := ?_) (a' := ?_) #[true, true, true, true, true, true, true, true, true, true, true, true, true, true, true, true, true, true, true, true, true, true, true, true, true, true, true, true, true, true, true, true, true, true, false, false, false, false, false, false, false, false, false, false, false, false, false, false, false, false, false, false, false, false, false, false, false, false, false, false, false, false, false] rfl rfl (any_of HT_.out (by kernel_rfl)) (fun _ _ _ h => h) (Or.inl ⟨by rfl, ?_⟩) ?_ ?_
        rotate_left
        · intro w'
          go_simp
          with_reducible rfl
        rotate_left
        · simp only [Act.put, List.setIfInBounds_toArray, List.set_cons_zero, List.set_cons_succ, i64_w, i32_w]
          rfl
        refine pure_ (i := 34) (N := some 113) (v := ?_) (a' := ?_) #[true, true, true, true, true, true, true, true, true, true, true, true, true, true, true, true, true, true, true, true, true, true, true, true, true, true, true, true, true, true, true, true, true, true, true, false, false, false, false, false, false, false, false, false, false, false, false, false, false, false, false, false, false, false, false, false, false, false, false, false, false, false, false] rfl rfl (any_of HT_.out (by kernel_rfl)) (fun _ _ _ h => h) (Or.inl ⟨by rfl, ?_⟩) ?_ ?_
        rotate_left
        · intro w'
          go_simp
          with_reducible rfl
        rotate_left
        · simp only [Act.put, List.setIfInBounds_toArray, List.set_cons_zero, List.set_cons_succ, i64_w, i32_w]
          rfl
        refine pure_ (i := 35) (N := some 114) (v := ?_) (a' := ?_) #[true, true, true, true, true, true, true, true, true, true, true, true, true, true, true, true, true, true, true, true, true, true, true, true, true, true, true, true, true, true, true, true, true, true, true, true, false, false, false, false, false, false, false, false, false, false, false, false, false, false, false, false, false, false, false, false, false, false, false, false, false, false, false] rfl rfl (any_of HT_.out (by kernel_rfl)) (fun _ _ _ h => h) (Or.inl ⟨by rfl, ?_⟩) ?_ ?_
        rotate_left
        · intro w'
          go_simp
          with_reducible rfl
        rotate_left
        · simp only [Act.put, List.setIfInBounds_toArray, List.set_cons_zero, List.set_cons_succ, i64_w, i32_w]
          rfl
        refine pure_ (i := 36) (N := some 115) (v := ?_) (a' := ?_) #[true, true, true, true, true, true, true, true, true, true, true, true, true, true, true, true, true, true, true, true, true, true, true, true, true, true, true, true, true, true, true, true, true, true, true, true, true, false, false, false, false, false, false, false, false, false, false, false, false, false, false, false, false, false, false, false, false, false, false, false, false, false, false] rfl rfl (any_of HT_.out (by kernel_rfl)) (fun _ _ _ h => h) (Or.inl ⟨by rfl, ?_⟩) ?_ ?_
        rotate_left
        · intro w'
          go_simp
          with_reducible rfl
        rotate_left
        · simp only [Act.put, List.setIfInBounds_toArray, List.set_cons_zero, List.set_cons_succ, i64_w, i32_w]
          rfl
        refine pure_ (i := 38) (N := some 117) (v := ?_) (a' := ?_) #[true, true, true, true, true, true, true, true, true, true, true, true, true, true, true, true, true, true, true, true, true, true, true, true, true, true, true, true, true, true, true, true, true, true, true, true, true, false, true, false, false, false, false, false, false, false, false, false, false, false, false, false, false, false, false, false, false, false, false, false, false, false, false] rfl rfl (any_of HT_.out (by kernel_rfl)) (fun _ _ _ h => h) (Or.inl ⟨by rfl, ?_⟩) ?_ ?_
        rotate_left
        · intro w'
          go_simp
          with_reducible rfl
        rotate_left
        · simp only [Act.put, List.setIfInBounds_toArray, List.set_cons_zero, List.set_cons_succ, i64_w, i32_w]
          rfl
        refine pure_ (i := 42) (N := some 121) (v := ?_) (a' := ?_) #[true, true, true, true, true, true, true, true, true, true, true, true, true, true, true, true, true, true, true, true, true, true, true, true, true, true, true, true, true, true, true, true, true, true, true, true, true, false, true, false, false, false, true, false, false, false, false, false, false, false, false, false, false, false, false, false, false, false, false, false, false, false, false] rfl rfl (any_of HT_.out (by kernel_rfl)) (fun _ _ _ h => h) (Or.inl ⟨by rfl, ?_⟩) ?_ ?_
        rotate_left
        · intro w'
          go_simp
          with_reducible rfl
        rotate_left
        · simp only [Act.put, List.setIfInBounds_toArray, List.set_cons_zero, List.set_cons_succ, i64_w, i32_w]
          rfl
        refine pure_ (i := 46) (N := some 125) (v := ?_) (a' := ?_) #[true, true, true, true, true, true, true, true, true, true, true, true, true, true, true, true, true, true, true, true, true, true, true, true, true, true, true, true, true, true, true, true, true, true, true, true, true, false, true, false, false, false, true, false, false, false, true, false, false, false, false, false, false, false, false, false, false, false, false, false, false, false, false] rfl rfl (any_of HT_.out (by kernel_rfl)) (fun _ _ _ h => h) (Or.inl ⟨by rfl, ?_⟩) ?_ ?_
        rotate_left
        · intro w'
          go_simp
          with_reducible rfl
        rotate_left
        · simp only [Act.put, List.setIfInBounds_toArray, List.set_cons_zero, List.set_cons_succ, i64_w, i32_w]
          rfl
        refine pure_ (i := 51) (N := some 130) (v := ?_) (a' := ?_) #[true, true, true, true, true, true, true, true, true, true, true, true, true, true, true, true, true, true, true, true, true, true, true, true, true, true, true, true, true, true, true, true, true, true, true, true, true, false, true, false, false, false, true, false, false, false, true, false, false, false, false, true, false, false, false, false, false, false, false, false, false, false, false] rfl rfl (any_of HT_.out (by kernel_rfl)) (fun _ _ _ h => h) (Or.inl ⟨by rfl, ?_⟩) ?_ ?_
        rotate_left
        · intro w'
          go_simp
          with_reducible rfl
        rotate_left
        · simp only [Act.put, List.setIfInBounds_toArray, List.set_cons_zero, List.set_cons_succ, i64_w, i32_w]
          rfl
        refine pure_ (i := 52) (N := some 131) (v := ?_) (a' := ?_) #[true, true, true, true, true, true, true, true, true, true, true, true, true, true, true, true, true, true, true, true, true, true, true, true, true, true, true, true, true, true, true, true, true, true, true, true, true, false, true, false, false, false, true, false, false, false, true, false, false, false, false, true, true, false, false, false, false, false, false, false, false, false, false] rfl rfl (any_of HT_.out (by kernel_rfl)) (fun _ _ _ h => h) (Or.inl ⟨by rfl, ?_⟩) ?_ ?_
        rotate_left
        · intro w'
          go_simp
          with_reducible rfl
        rotate_left
        · simp only [Act.put, List.setIfInBounds_toArray, List.set_cons_zero, List.set_cons_succ, i64_w, i32_w]
          rfl
        refine take_ (i := 39) (N := some 118) (v := ?_) (a' := ?_) #[true, true, true, true, true, true, true, true, true, true, true, true, true, true, true, true, true, true, true, true, true, true, true, true, true, true, true, true, true, true, true, true, true, true, true, true, true, false, true, true, false, false, true, false, false, false, true, false, false, false, false, true, true, false, false, false, false, false, false, false, false, false, false] rfl rfl (take_ofW HT_.out HW_.out (by kernel_rfl)) (fun _ _ _ h => h) (Or.inl ⟨by rfl, ?_⟩) hHeld ?_ ?_
        rotate_left
        · rintro w' ⟨s0, s1, s2⟩
          go_simp
          with_reducible rfl
        rotate_left
        · simp only [Act.put, List.setIfInBounds_toArray, List.set_cons_zero, List.set_cons_succ, i64_w, i32_w]
          rfl
        refine take_ (i := 43) (N := some 122) (v := ?_) (a' := ?_) #[true, true, true, true, true, true, true, true, true, true, true, true, true, true, true, true, true, true, true, true, true, true, true, true, true, true, true, true, true, true, true, true, true, true, true, true, true, false, true, true, false, false, true, true, false, false, true, false, false, false, false, true, true, false, false, false, false, false, false, false, false, false, false] rfl rfl (take_ofW HT_.out HW_.out (by kernel_rfl)) (fun _ _ _ h => h) (Or.inl ⟨by rfl, ?_⟩) hHeld ?_ ?_
        rotate_left
        · rintro w' ⟨s0, s1, s2⟩
          go_simp
          with_reducible rfl
        rotate_left
        · simp only [Act.put, List.setIfInBounds_toArray, List.set_cons_zero, List.set_cons_succ, i64_w, i32_w]
          rfl
        refine take_ (i := 47) (N := some 126) (v := ?_) (a' := ?_) #[true, true, true, true, true, true, true, true, true, true, true, true, true, true, true, true, true, true, true, true, true, true, true, true, true, true, true, true, true, true, true, true, true, true, true, true, true, false, true, true, false, false, true, true, false, false, true, true, false, false, false, true, true, false, false, false, false, false, false, false, false, false, false] rfl rfl (take_ofW HT_.out HW_.out (by kernel_rfl)) (fun _ _ _ h => h) (Or.inl ⟨by rfl, ?_⟩) hHeld ?_ ?_
        rotate_left
        · rintro w' ⟨s0, s1, s2⟩
          go_simp
          with_reducible rfl
        rotate_left
        · simp only [Act.put, List.setIfInBounds_toArray, List.set_cons_zero, List.set_cons_succ, i64_w, i32_w]
          rfl
        refine one_ (i := 37) (N := some 116) #[true, true, true, true, true, true, true, true, true, true, true, true, true, true, true, true, true, true, true, true, true, true, true, true, true, true, true, true, true, true, true, true, true, true, true, true, true, true, true, true, false, false, true, true, false, false, true, true, false, false, false, true, true, false, false, false, false, false, false, false, false, false, false] rfl rfl (one_of HT_.out (by kernel_rfl)) (by decide) (fun K hK => ?_)
        refine goes_ Try.func22 (by kernel_rfl) rfl #[.pointer none] (by rfl) rfl rfl (by simp only [List.map_toArray, List.map_cons, List.map_nil]; rfl) ?_
        with_reducible refine (len_nil _).mono ?_
        rintro e w21 ⟨rfl, h21⟩
        have k0 := bread h21 hHeld.1
        have k1 := bread h21 hHeld.2.1
        obtain ⟨bt21, hbt21⟩ := hHeld.2.2
        have k2 : ∃ b, w21.heap[w.heap.size]? = some (.cells #[.bool b] 4 (0, 0)) := ⟨bt21, (h21.block _ (blk_lt hbt21)).trans hbt21⟩
        have HKD21 := Aside0.mk (show w21.heap[D]? = some (.deferred (some [])) from (h21.block D (blk_lt HKD20.out)).trans HKD20.out)
        have HBN21 := Aside0.mk (HBN20.out.trans (h21.mono HBN20.out.size))
        clear h21
        refine ⟨_, rfl, ?_⟩
        refine hK.out _ _ ⟨k0, k1, k2⟩ (fun hHeld => ?_)
        clear hK K
        refine norm_ (a' := ?_) ?_ ?_
        rotate_left
        · show Act.put _ (some 116) _ = _
          simp only [Act.put, List.setIfInBounds_toArray, List.set_cons_zero, List.set_cons_succ, i64_w, i32_w]
          rfl
        refine one_ (i := 40) (N := some 119) #[true, true, true, true, true, true, true, true, true, true, true, true, true, true, true, true, true, true, true, true, true, true, true, true, true, true, true, true, true, true, true, true, true, true, true, true, true, true, true, true, true, false, true, true, false, false, true, true, false, false, false, true, true, false, false, false, false, false, false, false, false, false, false] rfl rfl (one_of HT_.out (by kernel_rfl)) (by decide) (fun K hK => ?_)
        refine goes_ Try.func23 (by kernel_rfl) rfl #[.pointer none, .agg #[.int .i64 0, .int .i64 1099511627776]] (by rfl) rfl rfl (by simp only [List.map_toArray, List.map_cons, List.map_nil]; rfl) ?_
        with_reducible refine (cut_nil _ _ _).mono ?_
        rintro e w22 ⟨rfl, h22⟩
        have k0 := bread h22 hHeld.1
        have k1 := bread h22 hHeld.2.1
        obtain ⟨bt22, hbt22⟩ := hHeld.2.2
        have k2 : ∃ b, w22.heap[w.heap.size]? = some (.cells #[.bool b] 4 (0, 0)) := ⟨bt22, (h22.block _ (blk_lt hbt22)).trans hbt22⟩
        have HKD22 := Aside0.mk (show w22.heap[D]? = some (.deferred (some [])) from (h22.block D (blk_lt HKD21.out)).trans HKD21.out)
        have HBN22 := Aside0.mk (HBN21.out.trans (h22.mono HBN21.out.size))
        clear h22
        refine ⟨_, rfl, ?_⟩
        refine hK.out _ _ ⟨k0, k1, k2⟩ (fun hHeld => ?_)
        clear hK K
        refine norm_ (a' := ?_) ?_ ?_
        rotate_left
        · show Act.put _ (some 119) _ = _
          simp only [Act.put, List.setIfInBounds_toArray, List.set_cons_zero, List.set_cons_succ, i64_w, i32_w]
          rfl
        refine pure_ (i := 41) (N := some 120) (v := ?_) (a' := ?_) #[true, true, true, true, true, true, true, true, true, true, true, true, true, true, true, true, true, true, true, true, true, true, true, true, true, true, true, true, true, true, true, true, true, true, true, true, true, true, true, true, true, true, true, true, false, false, true, true, false, false, false, true, true, false, false, false, false, false, false, false, false, false, false] rfl rfl (any_of HT_.out (by kernel_rfl)) (fun _ _ _ h => h) (Or.inl ⟨by rfl, ?_⟩) ?_ ?_
        rotate_left
        · intro w'
          go_simp
          with_reducible rfl
        rotate_left
        · simp only [Act.put, List.setIfInBounds_toArray, List.set_cons_zero, List.set_cons_succ, i64_w, i32_w]
          rfl
        refine one_ (i := 44) (N := some 123) #[true, true, true, true, true, true, true, true, true, true, true, true, true, true, true, true, true, true, true, true, true, true, true, true, true, true, true, true, true, true, true, true, true, true, true, true, true, true, true, true, true, true, true, true, true, false, true, true, false, false, false, true, true, false, false, false, false, false, false, false, false, false, false] rfl rfl (one_of HT_.out (by kernel_rfl)) (by decide) (fun K hK => ?_)
        refine goes_ Try.func28 (by kernel_rfl) rfl #[.pointer none, .agg #[.int .i64 0, .int .i64 1099511627776]] (by rfl) rfl rfl (by simp only [List.map_toArray, List.map_cons, List.map_nil]; rfl) ?_
        with_reducible refine (count_nil _ _ _).mono ?_
        rintro e w23 ⟨rfl, h23⟩
        have k0 := bread h23 hHeld.1
        have k1 := bread h23 hHeld.2.1
        obtain ⟨bt23, hbt23⟩ := hHeld.2.2
        have k2 : ∃ b, w23.heap[w.heap.size]? = some (.cells #[.bool b] 4 (0, 0)) := ⟨bt23, (h23.block _ (blk_lt hbt23)).trans hbt23⟩
        have HKD23 := Aside0.mk (show w23.heap[D]? = some (.deferred (some [])) from (h23.block D (blk_lt HKD22.out)).trans HKD22.out)
        have HBN23 := Aside0.mk (HBN22.out.trans (h23.mono HBN22.out.size))
        clear h23
        refine ⟨_, rfl, ?_⟩
        refine hK.out _ _ ⟨k0, k1, k2⟩ (fun hHeld => ?_)
        clear hK K
        refine norm_ (a' := ?_) ?_ ?_
        rotate_left
        · show Act.put _ (some 123) _ = _
          simp only [Act.put, List.setIfInBounds_toArray, List.set_cons_zero, List.set_cons_succ, i64_w, i32_w]
          rfl
        refine pure_ (i := 45) (N := some 124) (v := ?_) (a' := ?_) #[true, true, true, true, true, true, true, true, true, true, true, true, true, true, true, true, true, true, true, true, true, true, true, true, true, true, true, true, true, true, true, true, true, true, true, true, true, true, true, true, true, true, true, true, true, true, true, true, false, false, false, true, true, false, false, false, false, false, false, false, false, false, false] rfl rfl (any_of HT_.out (by kernel_rfl)) (fun _ _ _ h => h) (Or.inl ⟨by rfl, ?_⟩) ?_ ?_
        rotate_left
        · intro w'
          go_simp
          with_reducible rfl
        rotate_left
        · simp only [Act.put, List.setIfInBounds_toArray, List.set_cons_zero, List.set_cons_succ, i64_w, i32_w]
          rfl
        refine one_ (i := 48) (N := some 127) #[true, true, true, true, true, true, true, true, true, true, true, true, true, true, true, true, true, true, true, true, true, true, true, true, true, true, true, true, true, true, true, true, true, true, true, true, true, true, true, true, true, true, true, true, true, true, true, true, true, false, false, true, true, false, false, false, false, false, false, false, false, false, false] rfl rfl (one_of HT_.out (by kernel_rfl)) (by decide) (fun K hK => ?_)
        refine goes_ Try.func20 (by kernel_rfl) rfl #[.pointer none, .agg #[.int .i64 0, .int .i64 1099511627776]] (by rfl) rfl rfl (by simp only [List.map_toArray, List.map_cons, List.map_nil]; rfl) ?_
        with_reducible refine (get_nil _ _ _).mono ?_
        rintro e w24 ⟨rfl, h24⟩
        have k0 := bread h24 hHeld.1
        have k1 := bread h24 hHeld.2.1
        obtain ⟨bt24, hbt24⟩ := hHeld.2.2
        have k2 : ∃ b, w24.heap[w.heap.size]? = some (.cells #[.bool b] 4 (0, 0)) := ⟨bt24, (h24.block _ (blk_lt hbt24)).trans hbt24⟩
        have HKD24 := Aside0.mk (show w24.heap[D]? = some (.deferred (some [])) from (h24.block D (blk_lt HKD23.out)).trans HKD23.out)
        have HBN24 := Aside0.mk (HBN23.out.trans (h24.mono HBN23.out.size))
        clear h24
        refine ⟨_, rfl, ?_⟩
        refine hK.out _ _ ⟨k0, k1, k2⟩ (fun hHeld => ?_)
        clear hK K
        refine norm_ (a' := ?_) ?_ ?_
        rotate_left
        · show Act.put _ (some 127) _ = _
          simp only [Act.put, List.setIfInBounds_toArray, List.set_cons_zero, List.set_cons_succ, i64_w, i32_w]
          rfl
        refine pure_ (i := 49) (N := some 128) (v := ?_) (a' := ?_) #[true, true, true, true, true, true, true, true, true, true, true, true, true, true, true, true, true, true, true, true, true, true, true, true, true, true, true, true, true, true, true, true, true, true, true, true, true, true, true, true, true, true, true, true, true, true, true, true, true, true, false, true, true, false, false, false, false, false, false, false, false, false, false] rfl rfl (any_of HT_.out (by kernel_rfl)) (fun _ _ _ h => h) (Or.inl ⟨by rfl, ?_⟩) ?_ ?_
        rotate_left
        · intro w'
          go_simp
          with_reducible rfl
        rotate_left
        · simp only [Act.put, List.setIfInBounds_toArray, List.set_cons_zero, List.set_cons_succ, i64_w, i32_w]
          rfl
        refine pure_ (i := 50) (N := some 129) (v := ?_) (a' := ?_) #[true, true, true, true, true, true, true, true, true, true, true, true, true, true, true, true, true, true, true, true, true, true, true, true, true, true, true, true, true, true, true, true, true, true, true, true, true, true, true, true, true, true, true, true, true, true, true, true, true, true, true, true, true, false, false, false, false, false, false, false, false, false, false] rfl rfl (any_of HT_.out (by kernel_rfl)) (fun _ _ _ h => h) (Or.inl ⟨by rfl, ?_⟩) ?_ ?_
        rotate_left
        · intro w'
          go_simp
          with_reducible rfl
        rotate_left
        · simp only [Act.put, List.setIfInBounds_toArray, List.set_cons_zero, List.set_cons_succ, i64_w, i32_w]
          rfl
        refine one_ (i := 53) (N := some 132) #[true, true, true, true, true, true, true, true, true, true, true, true, true, true, true, true, true, true, true, true, true, true, true, true, true, true, true, true, true, true, true, true, true, true, true, true, true, true, true, true, true, true, true, true, true, true, true, true, true, true, true, true, true, true, false, false, false, false, false, false, false, false, false] rfl rfl (one_of HT_.out (by kernel_rfl)) (by decide) (fun K hK => ?_)
        refine goes_ Try.func24 (by kernel_rfl) rfl #[.pointer none, .slice (some ⟨g, 0, none⟩) 256 cap] (by rfl) rfl rfl (by simp only [List.map_toArray, List.map_cons, List.map_nil]; rfl) ?_
        with_reducible refine (free_nil _ _).mono ?_
        rintro e w25 ⟨rfl, h25⟩
        have k0 := bread h25 hHeld.1
        have k1 := bread h25 hHeld.2.1
        obtain ⟨bt25, hbt25⟩ := hHeld.2.2
        have k2 : ∃ b, w25.heap[w.heap.size]? = some (.cells #[.bool b] 4 (0, 0)) := ⟨bt25, (h25.block _ (blk_lt hbt25)).trans hbt25⟩
        have HKD25 := Aside0.mk (show w25.heap[D]? = some (.deferred (some [])) from (h25.block D (blk_lt HKD24.out)).trans HKD24.out)
        have HBN25 := Aside0.mk (HBN24.out.trans (h25.mono HBN24.out.size))
        clear h25
        refine ⟨_, rfl, ?_⟩
        refine hK.out _ _ ⟨k0, k1, k2⟩ (fun hHeld => ?_)
        clear hK K
        refine norm_ (a' := ?_) ?_ ?_
        rotate_left
        · show Act.put _ (some 132) _ = _
          simp only [Act.put, List.setIfInBounds_toArray, List.set_cons_zero, List.set_cons_succ, i64_w, i32_w]
          rfl
        refine pure_ (i := 54) (N := some 133) (v := ?_) (a' := ?_) #[true, true, true, true, true, true, true, true, true, true, true, true, true, true, true, true, true, true, true, true, true, true, true, true, true, true, true, true, true, true, true, true, true, true, true, true, true, true, true, true, true, true, true, true, true, true, true, true, true, true, true, true, true, true, true, false, false, false, false, false, false, false, false] rfl rfl (any_of HT_.out (by kernel_rfl)) (fun _ _ _ h => h) (Or.inl ⟨by rfl, ?_⟩) ?_ ?_
        rotate_left
        · intro w'
          go_simp
          with_reducible rfl
        rotate_left
        · simp only [Act.put, List.setIfInBounds_toArray, List.set_cons_zero, List.set_cons_succ, i64_w, i32_w]
          rfl
        refine pure_ (i := 55) (N := some 134) (v := ?_) (a' := ?_) #[true, true, true, true, true, true, true, true, true, true, true, true, true, true, true, true, true, true, true, true, true, true, true, true, true, true, true, true, true, true, true, true, true, true, true, true, true, true, true, true, true, true, true, true, true, true, true, true, true, true, true, true, true, true, true, true, false, false, false, false, false, false, false] rfl rfl (any_of HT_.out (by kernel_rfl)) (fun _ _ _ h => h) (Or.inl ⟨by rfl, ?_⟩) ?_ ?_
        rotate_left
        · intro w'
          go_simp
          with_reducible rfl
        rotate_left
        · simp only [Act.put, List.setIfInBounds_toArray, List.set_cons_zero, List.set_cons_succ, i64_w, i32_w]
          rfl
        refine pure_ (i := 56) (N := some 135) (v := ?_) (a' := ?_) #[true, true, true, true, true, true, true, true, true, true, true, true, true, true, true, true, true, true, true, true, true, true, true, true, true, true, true, true, true, true, true, true, true, true, true, true, true, true, true, true, true, true, true, true, true, true, true, true, true, true, true, true, true, true, true, true, true, false, false, false, false, false, false] rfl rfl (any_of HT_.out (by kernel_rfl)) (fun _ _ _ h => h) (Or.inl ⟨by rfl, ?_⟩) ?_ ?_
        rotate_left
        · intro w'
          go_simp
          with_reducible rfl
        rotate_left
        · simp only [Act.put, List.setIfInBounds_toArray, List.set_cons_zero, List.set_cons_succ, i64_w, i32_w]
          rfl
        refine pure_ (i := 57) (N := some 136) (v := ?_) (a' := ?_) #[true, true, true, true, true, true, true, true, true, true, true, true, true, true, true, true, true, true, true, true, true, true, true, true, true, true, true, true, true, true, true, true, true, true, true, true, true, true, true, true, true, true, true, true, true, true, true, true, true, true, true, true, true, true, true, true, true, true, false, false, false, false, false] rfl rfl (any_of HT_.out (by kernel_rfl)) (fun _ _ _ h => h) (Or.inl ⟨by rfl, ?_⟩) ?_ ?_
        rotate_left
        · intro w'
          go_simp
          with_reducible rfl
        rotate_left
        · simp only [Act.put, List.setIfInBounds_toArray, List.set_cons_zero, List.set_cons_succ, i64_w, i32_w]
          rfl
        refine pure_ (i := 58) (N := some 137) (v := ?_) (a' := ?_) #[true, true, true, true, true, true, true, true, true, true, true, true, true, true, true, true, true, true, true, true, true, true, true, true, true, true, true, true, true, true, true, true, true, true, true, true, true, true, true, true, true, true, true, true, true, true, true, true, true, true, true, true, true, true, true, true, true, true, true, false, false, false, false] rfl rfl (any_of HT_.out (by kernel_rfl)) (fun _ _ _ h => h) (Or.inl ⟨by rfl, ?_⟩) ?_ ?_
        rotate_left
        · intro w'
          go_simp
          with_reducible rfl
        rotate_left
        · simp only [Act.put, List.setIfInBounds_toArray, List.set_cons_zero, List.set_cons_succ, i64_w, i32_w]
          rfl
        refine one_ (i := 59) (N := some 138) #[true, true, true, true, true, true, true, true, true, true, true, true, true, true, true, true, true, true, true, true, true, true, true, true, true, true, true, true, true, true, true, true, true, true, true, true, true, true, true, true, true, true, true, true, true, true, true, true, true, true, true, true, true, true, true, true, true, true, true, true, false, false, false] rfl rfl (one_of HT_.out (by kernel_rfl)) (by decide) (fun K hK => ?_)
        refine goes_ Try.func29 (by kernel_rfl) rfl #[.pointer none] (by rfl) rfl rfl (by simp only [List.map_toArray, List.map_cons, List.map_nil]; rfl) ?_
        with_reducible refine (copy_nil _).mono ?_
        rintro e w26 ⟨rfl, h26⟩
        have k0 := bread h26 hHeld.1
        have k1 := bread h26 hHeld.2.1
        obtain ⟨bt26, hbt26⟩ := hHeld.2.2
        have k2 : ∃ b, w26.heap[w.heap.size]? = some (.cells #[.bool b] 4 (0, 0)) := ⟨bt26, (h26.block _ (blk_lt hbt26)).trans hbt26⟩
        have HKD26 := Aside0.mk (show w26.heap[D]? = some (.deferred (some [])) from (h26.block D (blk_lt HKD25.out)).trans HKD25.out)
        have HBN26 := Aside0.mk (HBN25.out.trans (h26.mono HBN25.out.size))
        clear h26
        refine ⟨_, rfl, ?_⟩
        refine hK.out _ _ ⟨k0, k1, k2⟩ (fun hHeld => ?_)
        clear hK K
        refine norm_ (a' := ?_) ?_ ?_
        rotate_left
        · show Act.put _ (some 138) _ = _
          simp only [Act.put, List.setIfInBounds_toArray, List.set_cons_zero, List.set_cons_succ, i64_w, i32_w]
          rfl
        refine pure_ (i := 60) (N := some 139) (v := ?_) (a' := ?_) #[true, true, true, true, true, true, true, true, true, true, true, true, true, true, true, true, true, true, true, true, true, true, true, true, true, true, true, true, true, true, true, true, true, true, true, true, true, true, true, true, true, true, true, true, true, true, true, true, true, true, true, true, true, true, true, true, true, true, true, true, true, false, false] rfl rfl (any_of HT_.out (by kernel_rfl)) (fun _ _ _ h => h) (Or.inl ⟨by rfl, ?_⟩) ?_ ?_
        rotate_left
        · intro w'
          go_simp
          with_reducible rfl
        rotate_left
        · simp only [Act.put, List.setIfInBounds_toArray, List.set_cons_zero, List.set_cons_succ, i64_w, i32_w]
          rfl
        refine pure_ (i := 61) (N := some 140) (v := ?_) (a' := ?_) #[true, true, true, true, true, true, true, true, true, true, true, true, true, true, true, true, true, true, true, true, true, true, true, true, true, true, true, true, true, true, true, true, true, true, true, true, true, true, true, true, true, true, true, true, true, true, true, true, true, true, true, true, true, true, true, true, true, true, true, true, true, true, false] rfl rfl (any_of HT_.out (by kernel_rfl)) (fun _ _ _ h => h) (Or.inl ⟨by rfl, ?_⟩) ?_ ?_
        rotate_left
        · intro w'
          go_simp
          with_reducible rfl
        rotate_left
        · simp only [Act.put, List.setIfInBounds_toArray, List.set_cons_zero, List.set_cons_succ, i64_w, i32_w]
          rfl
        refine one_ (i := 62) (N := none) #[true, true, true, true, true, true, true, true, true, true, true, true, true, true, true, true, true, true, true, true, true, true, true, true, true, true, true, true, true, true, true, true, true, true, true, true, true, true, true, true, true, true, true, true, true, true, true, true, true, true, true, true, true, true, true, true, true, true, true, true, true, true, true] rfl rfl (one_of HT_.out (by kernel_rfl)) (by decide) (fun K hK => ?_)
        obtain ⟨bt, hbt⟩ := hHeld.2.2
        have x0 := blk_frozen hbt 0
        have y0 : w26.cell? ⟨w.heap.size, 0, none⟩ = some (.bool bt) := blk_cell hbt 0
        have HT26 := Aside0.mk hbt
        have hne := HRT.out
        refine skip_ (w1 := ?_) (by rfl) rfl ?_ ?_
        rotate_left
        · go_simp
          rfl
        refine hK.out _ _ ⟨(World.cell?_setCell_other _ _ _ _ (fun e => hne (congrArg Addr.block e).symm)).trans hHeld.1, (World.cell?_setCell_other _ _ _ _ (fun e => hne (congrArg Addr.block e).symm)).trans hHeld.2.1, ⟨true, blk_set hbt 0 _⟩⟩ (fun hHeld => ?_)
        clear hK K
        refine done_ (done_of HT_.out (by kernel_rfl)) ?_
        refine NoPanic.normal ?_
        have hTf : (w26.setCell ⟨w.heap.size, 0, none⟩ (.bool true)).heap[w.heap.size]? = some (.cells #[.bool true] 4 (0, 0)) := blk_set HT26.out 0 _
        have hKf : (w26.setCell ⟨w.heap.size, 0, none⟩ (.bool true)).heap[D]? = some (.deferred (some [])) := blk_far HKD26.out (by have := HDD.out; show w.heap.size ≠ D; omega) _
        have HBF := Aside0.mk (HBN26.out.setCell (p := ⟨w.heap.size, 0, none⟩) (Nat.le_refl _) (.bool true))
        have HTF := Aside0.mk hTf
        have HKF := Aside0.mk hKf
        clear hTf hKf hHeld x0 y0
        obtain ⟨Z, hZ⟩ : ∃ Z, Z = w26.setCell ⟨w.heap.size, 0, none⟩ (.bool true) := ⟨_, rfl⟩
        rw [← hZ] at HBF HTF HKF ⊢
        clear hZ
        go_wp2
        refine ⟨by simp, .inl ⟨_, _, rfl, run_takeDeferred HKF.out, ?_⟩⟩
        have hD2 := HDD.out
        have hT5 : (Z.putObj D (.deferred none)).heap[w.heap.size]? = some (.cells #[.bool true] 4 (0, 0)) := (World.putObj_heap_other (by omega)).trans HTF.out
        have hc5 : (Z.putObj D (.deferred none)).cell? ⟨w.heap.size, 0, none⟩ = some (.bool true) := blk_cell hT5 0
        refine ⟨.bool true, ?_, rfl, HBF.out.grown (grownBy_putObj' Z D (.deferred none)) HBF.out.size (fun q hq => by injection hq with hq; omega)⟩
        simp [results, Try.f7, go_sem, hc5]
theorem SeriesFullWalk.walk (a0 a1 : Int) (W : World) (h0 : (Lit.int .u16 a0).wf = true) (_ : (Lit.int .i64 a1).wf = true) :
    Calls Try.prog 7 #[.int .u16 a0, .int .i64 a1] W fun e w' => e = .returned (.bool true) ∧ Below W.heap.size W w' := by
  have h := h0
  simp [Lit.wf, IntKind.min, IntKind.max, IntKind.signed, IntKind.bits] at h
  obtain ⟨n, rfl⟩ : ∃ n : Nat, a0 = (n : Int) := ⟨a0.toNat, by omega⟩
  exact law7_calls n a1 (by omega) W
end Go.Proofs.Ytnjdngjlbonieaa
