/- mac.both, mac.padded, mac.Code, walked. -/
import Derived.Test.YtjlnbklendkflaaHashI
import Derived.Lib.Hide
import Derived.LoopTactic
import Derived.Outline
import Derived.Laws.Rows
import Derived.Laws.CopyOwn
import Derived.WalkKit
set_option linter.unusedVariables false
set_option linter.unusedSimpArgs false
namespace Go.Proofs.Ytjlnbklendkflaa
open Go.RowKit Go.Proofs.YtjlnbklendkflaaW.PrintWords Go.Proofs.YtjlnbklendkflaaW.PrintLast Go.Proofs.YtjlnbklendkflaaW.PrintMore
open Go.Proofs.Ytjlnbklendkflaa.PHashSums


set_option maxRecDepth 100000 in
set_option maxHeartbeats 8000000 in
theorem both_calls (v u : Value) (a b : List Int) (w : World) (hv : SrcB w v a) (hu : SrcB w u b) (hl : a.length + b.length ≤ 100000) :
    Calls Try.prog 29 #[v, u] w fun e w' => e = .returned (.agg (bytesA (digest (a ++ b)))) ∧ Below w.heap.size w w' := by
  have HV := Aside0.mk hv
  have HU := Aside0.mk hu
  clear hv hu
  go_enter Try.func29, Try.ntmps29
  go_wp2_with fail
  have HA := Aside0.mk ((Below.refl w.heap.size w).alloc (Nat.le_refl _) (Obj.cells #[.int .u8 0, .int .u8 0, .int .u8 0, .int .u8 0, .int .u8 0, .int .u8 0, .int .u8 0, .int .u8 0, .int .u8 0, .int .u8 0, .int .u8 0, .int .u8 0, .int .u8 0, .int .u8 0, .int .u8 0, .int .u8 0, .int .u8 0, .int .u8 0, .int .u8 0, .int .u8 0, .int .u8 0, .int .u8 0, .int .u8 0, .int .u8 0, .int .u8 0, .int .u8 0, .int .u8 0, .int .u8 0, .int .u8 0, .int .u8 0, .int .u8 0, .int .u8 0] 25))
  refine (new_any (w.alloc (Obj.cells #[.int .u8 0, .int .u8 0, .int .u8 0, .int .u8 0, .int .u8 0, .int .u8 0, .int .u8 0, .int .u8 0, .int .u8 0, .int .u8 0, .int .u8 0, .int .u8 0, .int .u8 0, .int .u8 0, .int .u8 0, .int .u8 0, .int .u8 0, .int .u8 0, .int .u8 0, .int .u8 0, .int .u8 0, .int .u8 0, .int .u8 0, .int .u8 0, .int .u8 0, .int .u8 0, .int .u8 0, .int .u8 0, .int .u8 0, .int .u8 0, .int .u8 0, .int .u8 0] 25))).mono ?_
  rintro e w0 ⟨p, rfl, hp, hN, hb0⟩
  have hpz : w.heap.size + 1 ≤ p := by simpa using hp
  have HA0 := Aside0.mk (HA.out.trans (hb0.mono (by simp)))
  have HC := Lib.hid (write_calls p [] a v w0 hN (HV.out.below HA0.out) (fun h0 e => by have := SrcB.lt HV.out h0 p e; omega) (by simp; omega))
  have HR00 := Aside0.mk (show ∃ cs : Array Value, w0.heap[w.heap.size]? = some (.cells cs 25 (0, 0)) ∧ cs.size = 32 from ⟨_, (hb0.block w.heap.size (by simp)).trans (blk_new w _), rfl⟩)
  have HZ0 := Aside0.mk (show w.heap.size + 1 ≤ w0.heap.size by have := hb0.size; simpa using this)
  clear hN hb0 hp
  go_wp2_with fail
  refine HC.out.mono ?_
  rintro e w1 ⟨rfl, hi, hk, _⟩
  rw [List.nil_append] at hi
  have HB1 := Aside0.mk (HA0.out.trans (hk.to_below (fun i h => by omega) HA0.out.size))
  have HR1 := Aside0.mk (show ∃ cs : Array Value, w1.heap[w.heap.size]? = some (.cells cs 25 (0, 0)) ∧ cs.size = 32 by
    obtain ⟨cs, h1, h2⟩ := HR00.out
    exact ⟨cs, (hk.block _ (blk_lt h1) (by omega)).trans h1, h2⟩)
  have HZ1 := Aside0.mk (show w.heap.size + 1 ≤ w1.heap.size by have := hk.size; have := HZ0.out; omega)
  have HCB := Lib.hid (write_calls p a b u w1 hi (HU.out.below HB1.out) (fun h0 e => by have := SrcB.lt HU.out h0 p e; omega) (by omega))
  clear hi hk
  go_wp2_with fail
  refine HCB.out.mono ?_
  rintro e w3 ⟨rfl, hi3, hk3, _⟩
  have HB3 := Aside0.mk (HB1.out.trans (hk3.to_below (fun i h => by omega) HB1.out.size))
  have HR3 := Aside0.mk (show ∃ cs : Array Value, w3.heap[w.heap.size]? = some (.cells cs 25 (0, 0)) ∧ cs.size = 32 by
    obtain ⟨cs, h1, h2⟩ := HR1.out
    exact ⟨cs, (hk3.block _ (blk_lt h1) (by omega)).trans h1, h2⟩)
  have HZ3 := Aside0.mk (show w.heap.size + 1 ≤ w3.heap.size by have := hk3.size; have := HZ1.out; omega)
  have HC2 := Lib.hid (sum_calls p (a ++ b) w3 hi3 (by rw [List.length_append]; exact hl))
  clear hi3 hk3
  go_wp2_with fail
  refine HC2.out.mono ?_
  rintro e w2 ⟨rfl, hb2⟩
  have HB2 := Aside0.mk (HB3.out.trans (hb2.mono HB3.out.size))
  obtain ⟨cs, hcs, hcz⟩ := HR3.out
  have HCS := Aside0.mk ((hb2.block _ (by have := HZ3.out; omega)).trans hcs)
  have hinfo : (Try.prog.info? 25).map (·.size) = some 32 := by kernel_rfl
  obtain ⟨ds, hds⟩ : ∃ ds, ds = digest (a ++ b) := ⟨_, rfl⟩
  have hwz : (bytesA ds).size = 32 := by rw [bytesA_size, hds]; exact digest_length _
  rw [← hds]
  have HDS := Aside0.mk hds
  have HWZ := Aside0.mk hwz
  have HCZ := Aside0.mk hcz
  have HIN := Aside0.mk hinfo
  clear hb2 hcs hcz hds hwz hinfo
  go_wp2_with (refine wpList_store_row rfl 25 (.tmp 4) (.tmp 14) rfl w.heap.size (bytesA ds) rfl rfl 25 cs HCS.out (by rw [HWZ.out]; exact HIN.out) (by rw [HWZ.out]; exact HCZ.out) (bytesA_one ds) ?_)
  refine bodyPost_ret (v := .agg (bytesA ds)) (results_cell_row (p := 4) (ty := 25) rfl _ _ w.heap.size 25 (bytesA ds) (0, 0) _ rfl (setRow_heap _ _ _ _ _ _ HCS.out) Try.underlying25 rfl (by rw [HWZ.out]; exact HIN.out)) rfl ⟨by rw [HDS.out], below_setRow HB2.out (Nat.le_refl _) _⟩
/-- A key of a block's length, each byte exclusive or x. -/
def padB (K : List Int) (x : Int) : List Int := (List.range 64).map fun i => Go.bits .xor .u8 (K.getD i 0) x
def keyOf (key : List Int) : List Int := if 64 < key.length then digest key else key
/-- Between two bytes. -/
structure KInv (w wm : World) (K : List Int) (x : Int) (i : Nat) (xs : List Int) (wr : World) : Prop where
  bel : Below wm.heap.size wm wr
  blk : wr.heap[wm.heap.size]? = some (.cells (bytesA xs) 5 (0, 0))
  len : xs.length = 64
  at_ : ∀ j, j < 64 → xs.getD j 0 = if j < i then Go.bits .xor .u8 (K.getD j 0) x else K.getD j 0
theorem pad_ext {K xs : List Int} {x : Int} (hl : xs.length = 64) (h : ∀ j, j < 64 → xs.getD j 0 = if j < 64 then Go.bits .xor .u8 (K.getD j 0) x else K.getD j 0) : xs = padB K x := by
  apply List.ext_getElem?
  intro j
  unfold padB
  by_cases hj : j < 64
  · have := h j hj
    rw [if_pos hj, List.getD_eq_getElem?_getD, List.getElem?_eq_getElem (by omega)] at this
    rw [List.getElem?_eq_getElem (by omega), List.getElem?_map, List.getElem?_range hj]
    simp only [Option.getD_some] at this
    rw [this]
    rfl
  · rw [List.getElem?_eq_none (by omega), List.getElem?_eq_none (by simp; omega)]
theorem splice_zero (K : List Int) (hK : K.length ≤ 64) : splice (nums .u8 (List.replicate 64 0)) 0 (nums .u8 K) = nums .u8 (K ++ List.replicate (64 - K.length) 0) := by
  unfold splice
  rw [nums_length]
  unfold nums
  rw [List.take_zero, List.nil_append, ← List.map_drop, List.drop_replicate, ← List.map_append, Nat.zero_add]
theorem filled_getD (K : List Int) (j : Nat) : (K ++ List.replicate (64 - K.length) 0).getD j 0 = K.getD j 0 := by
  rw [List.getD_eq_getElem?_getD, List.getD_eq_getElem?_getD]
  by_cases h : j < K.length
  · rw [List.getElem?_append_left h]
  · rw [List.getElem?_append_right (by omega), List.getElem?_replicate, List.getElem?_eq_none (show K.length ≤ j by omega)]
    split <;> rfl
theorem src_spread {w : World} {dp : Option Addr} {n c : Nat} {K : List Int} (h : SrcB w (.slice dp n c) K) : n = K.length ∧ (0 < K.length → ∃ ad, dp = some ad ∧ ∀ j v, (nums .u8 K)[j]? = some v → w.cell? (ad.add j) = some v) := by
  rcases h with ⟨c', e, h0⟩ | ⟨ad, c', e, hc⟩
  · injection e with e1 e2 e3
    subst h0
    exact ⟨e2, fun h => absurd h (by simp)⟩
  · injection e with e1 e2 e3
    exact ⟨e2, fun _ => ⟨ad, e1, fun j v hv => by
      unfold nums at hv
      rw [List.getElem?_map] at hv
      obtain ⟨x, hx, rfl⟩ := Option.map_eq_some_iff.1 hv
      exact hc j x hx⟩⟩
theorem made_is (m : Nat) : madeCells #[Value.int .u8 0] m = bytesA (List.replicate m 0) := by
  apply Array.toList_inj.1
  apply List.ext_getElem
  · simp [bytesA, nums, madeCells]
  · intro i h1 h2
    simp [bytesA, nums, madeCells, Nat.mod_one]
theorem make_bytes (m : Nat) (hm : m ≤ 1000000) (W : World) : (Instr.makeSlice 22 (.int .i64 (m : Int)) (.int .i64 (m : Int))).run Try.prog W = .ok (.slice (some ⟨W.heap.size, 0, none⟩) m m) (W.alloc (Obj.cells (bytesA (List.replicate m 0)) 5)) := by
  rw [← made_is]
  exact print_make (P := Try.prog) 22 5 .u8 1 Try.underlying22 infoByte (by decide) m (by omega) W
def zeros64 : List Int := List.replicate 64 0
theorem make64 (W : World) : (Instr.makeSlice 22 (.int .i64 64) (.int .i64 64)).run Try.prog W = .ok (.slice (some ⟨W.heap.size, 0, none⟩) 64 64) (W.alloc (Obj.cells (bytesA zeros64) 5)) := make_bytes 64 (by omega) W
theorem cells8 (l : List Int) : ∀ u ∈ nums .u8 l, u.oneCell' = true := fun u hu => by
  obtain ⟨x, _, rfl⟩ := List.mem_map.1 hu
  rfl
set_option maxRecDepth 100000 in
set_option maxHeartbeats 8000000 in
theorem padded_short (A : Option Addr) (c : Nat) (K : List Int) (x : Int) (w : World) (h : SrcB w (.slice A K.length c) K) (hl : K.length ≤ 64) :
    Calls Try.prog 30 #[.slice A K.length c, .int .u8 x] w fun e w' => ∃ v, e = .returned v ∧ SrcB w' v (padB K x) ∧ Below w.heap.size w w' := by
  have HS := Aside0.mk h
  have d1 : decide (64 < (K.length : Int)) = false := decide_eq_false (by omega)
  have hmk := make64
  have HMIN := Aside0.mk (show (nums .u8 K).length = Nat.min K.length 64 by rw [nums_length]; exact (Nat.min_eq_left hl).symm)
  have HFIT := Aside0.mk (show 0 + (nums .u8 K).length ≤ (nums .u8 zeros64).length by rw [nums_length, nums_length]; show 0 + K.length ≤ 64; omega)
  have HBW := Aside0.mk ((Below.refl w.heap.size w).alloc (Nat.le_refl _) (Obj.cells (bytesA zeros64) 5))
  have HSRC := Aside0.mk (show 0 < (nums .u8 K).length → ∃ ad, A = some ad ∧ ∀ j v, (nums .u8 K)[j]? = some v → (w.alloc (Obj.cells (bytesA zeros64) 5)).cell? (ad.add j) = some v from fun h0 => (src_spread (h.below HBW.out)).2 (by rw [nums_length] at h0; exact h0))
  clear h
  go_enter Try.func30, Try.ntmps30
  go_wp2_with (refine wpList_copy_splice rfl (.tmp 15) (.tmp 16) 22 22 rfl 5 Try.underlying22 (by kernel_rfl) (some ⟨(w).heap.size, 0, none⟩) A 64 64 K.length c rfl rfl (w).heap.size 0 (nums .u8 zeros64) 5 (blk_new (w) _) (nums .u8 K) HMIN.out (fun h0 => ⟨rfl, HSRC.out h0⟩) HFIT.out (cells8 K) (w).heap.size (w) HBW.out (Nat.le_refl _) ?_; intro w2 hg2 hb2)
  have hk0 : w2.heap[(w).heap.size]? = some (.cells (bytesA (K ++ List.replicate (64 - K.length) 0)) 5 (0, 0)) := by
    have h0 := hg2.out
    rw [show zeros64 = List.replicate 64 0 from rfl, splice_zero K hl] at h0
    exact h0
  have HK0 := Aside0.mk (show KInv w (w) K x 0 (K ++ List.replicate (64 - K.length) 0) w2 from ⟨hb2, hk0, by rw [List.length_append, List.length_replicate]; omega, fun j hj => by rw [if_neg (by omega), filled_getD]⟩)
  clear hg2 hb2 hk0 hmk
  go_loopw [20] (fun v20 wr => ∃ (i : Nat) (xs : List Int), i ≤ 64 ∧ v20 = .int .i64 (i : Int) ∧ Aside0 (KInv w (w) K x i xs wr)) (fun v _ => 64 - (intOf v).toNat)
  case atStart => exact ⟨0, _, by omega, rfl, HK0⟩
  case round =>
    obtain ⟨i, xs, hi, rfl, HI⟩ := hrel
    by_cases hlt : i < 64
    · obtain ⟨y, hy⟩ : ∃ y, xs[i]? = some y := ⟨_, List.getElem?_eq_getElem (by rw [HI.out.len]; exact hlt)⟩
      have cy := bytes_cell HI.out.blk hy
      have fz := blk_frozen HI.out.blk i
      have hi64 : (i : Int) < 64 := by omega
      have hyk : y = K.getD i 0 := by
        have := HI.out.at_ i hlt
        rw [if_neg (by omega), List.getD_eq_getElem?_getD, hy] at this
        exact this
      have HN := Aside0.mk (show KInv w (w) K x (i + 1) (xs.set i (Go.bits .xor .u8 y x)) (wr.setCell ⟨(w).heap.size, i, none⟩ (.int .u8 (Go.bits .xor .u8 y x))) from ⟨HI.out.bel.setCell (Nat.le_refl _) _, by rw [← bytesA_set]; exact blk_set HI.out.blk i _, by rw [List.length_set]; exact HI.out.len, fun j hj => by
        rw [getD_set _ _ _ _ (by rw [HI.out.len]; exact hlt)]
        by_cases hji : j = i
        · subst hji; rw [if_pos rfl, if_pos (by omega), hyk]
        · rw [if_neg hji, HI.out.at_ j hj]
          by_cases h2 : j < i
          · rw [if_pos h2, if_pos (by omega)]
          · rw [if_neg h2, if_neg (by omega)]⟩)
      clear hy hyk
      go_wp2
      go_roundw
      case rel => exact ⟨i + 1, _, by omega, by simp, HN⟩
      case measure => simp [intOf]; omega
    · have hie : i = 64 := by omega
      subst hie
      have HF := Aside0.mk (pad_ext HI.out.len HI.out.at_)
      have HBF := Aside0.mk (HI.out.bel)
      go_wp2
      go_ret
      refine ⟨.slice (some ⟨(w).heap.size, 0, none⟩) 64 64, rfl, ?_, HBF.out⟩
      rw [← HF.out]
      refine .inr ⟨⟨(w).heap.size, 0, none⟩, 64, by rw [HI.out.len], fun j u hu => ?_⟩
      have e : Addr.add ⟨(w).heap.size, 0, none⟩ j = ⟨(w).heap.size, j, none⟩ := by unfold Addr.add; split <;> simp_all
      rw [e]
      exact bytes_cell HI.out.blk hu
theorem arr_cells {w : World} {g : Nat} {t : TypeId} {K : List Int} (h : w.heap[g]? = some (.cells (bytesA K) t (0, 0))) (j : Nat) (v : Value) (hv : (nums .u8 K)[j]? = some v) : (w.alloc (Obj.cells (bytesA zeros64) 5)).cell? (Addr.add ⟨g, 0, none⟩ j) = some v := by
  have e : Addr.add ⟨g, 0, none⟩ j = ⟨g, j, none⟩ := by unfold Addr.add; split <;> simp_all
  unfold nums at hv
  rw [List.getElem?_map] at hv
  obtain ⟨x, hx, rfl⟩ := Option.map_eq_some_iff.1 hv
  rw [e, blk_cell (blk_alloc h _)]
  exact bytesA_get hx
set_option maxRecDepth 100000 in
set_option maxHeartbeats 8000000 in
theorem padded_long (A : Option Addr) (c : Nat) (key K : List Int) (x : Int) (w : World) (h : SrcB w (.slice A key.length c) key) (hl : 64 < key.length) (hl2 : key.length ≤ 100000) (hK : K = digest key) :
    Calls Try.prog 30 #[.slice A key.length c, .int .u8 x] w fun e w' => ∃ v, e = .returned v ∧ SrcB w' v (padB K x) ∧ Below w.heap.size w w' := by
  have hKL : K.length ≤ 64 := by rw [hK, digest_length]; omega
  have hK32 : K.length = 32 := by rw [hK, digest_length]
  have HC := Lib.hid (hsum_calls _ key w h hl2)
  rw [← hK] at HC
  have d1 : decide (64 < (key.length : Int)) = true := decide_eq_true (by omega)
  have hmk := make64
  have hinfo : (Try.prog.info? 25).map (·.size) = some 32 := by kernel_rfl
  have HIN := Aside0.mk hinfo
  have HZ := Aside0.mk (show (bytesA K).size = 32 by rw [bytesA_size]; exact hK32)
  have HK32 := Aside0.mk hK32
  clear h hinfo hK hK32
  go_enter Try.func30, Try.ntmps30
  go_wp2_with fail
  refine HC.out.mono ?_
  rintro e w1 ⟨rfl, hb1⟩
  have HB1 := Aside0.mk hb1
  clear hb1
  go_wp2_with (first | (refine store_new rfl 25 (.tmp 5) (.tmp 12) rfl w1 _ (bytesA K) 25 rfl rfl (by rw [HZ.out]; exact HIN.out) (by rw [HZ.out]; rfl) (bytesA_one K) ?_; intro w0 hb0 hg0 hz0; have HG0 := Aside0.mk hg0; have HB0 := Aside0.mk (HB1.out.trans (hb0.mono HB1.out.size)); have HMIN := Aside0.mk (show (nums .u8 K).length = Nat.min 32 64 from (by rw [nums_length, HK32.out]; rfl)); have HFIT := Aside0.mk (show 0 + (nums .u8 K).length ≤ (nums .u8 zeros64).length from (by rw [nums_length, nums_length, HK32.out]; decide)); have HBW := Aside0.mk ((Below.refl w0.heap.size w0).alloc (Nat.le_refl _) (Obj.cells (bytesA zeros64) 5)); have HSRC := Aside0.mk (show 0 < (nums .u8 K).length → ∃ ad, some (⟨w1.heap.size, 0, none⟩ : Addr) = some ad ∧ ∀ j v, (nums .u8 K)[j]? = some v → (w0.alloc (Obj.cells (bytesA zeros64) 5)).cell? (ad.add j) = some v from fun _ => ⟨_, rfl, arr_cells hg0⟩); clear hb0 hg0 hz0) | (refine wpList_copy_splice rfl (.tmp 15) (.tmp 16) 22 22 rfl 5 Try.underlying22 (by kernel_rfl) (some ⟨(w0).heap.size, 0, none⟩) (some ⟨w1.heap.size, 0, none⟩) 64 64 32 32 rfl rfl (w0).heap.size 0 (nums .u8 zeros64) 5 (blk_new (w0) _) (nums .u8 K) HMIN.out (fun h0 => ⟨rfl, HSRC.out h0⟩) HFIT.out (cells8 K) (w0).heap.size (w0) HBW.out (Nat.le_refl _) ?_; intro w2 hg2 hb2))
  have hk0 : w2.heap[(w0).heap.size]? = some (.cells (bytesA (K ++ List.replicate (64 - K.length) 0)) 5 (0, 0)) := by
    have h0 := hg2.out
    rw [show zeros64 = List.replicate 64 0 from rfl, splice_zero K hKL] at h0
    exact h0
  have HK0 := Aside0.mk (show KInv w (w0) K x 0 (K ++ List.replicate (64 - K.length) 0) w2 from ⟨hb2, hk0, by rw [List.length_append, List.length_replicate]; omega, fun j hj => by rw [if_neg (by omega), filled_getD]⟩)
  clear hg2 hb2 hk0 hmk
  go_loopw [20] (fun v20 wr => ∃ (i : Nat) (xs : List Int), i ≤ 64 ∧ v20 = .int .i64 (i : Int) ∧ Aside0 (KInv w (w0) K x i xs wr)) (fun v _ => 64 - (intOf v).toNat)
  case atStart => exact ⟨0, _, by omega, rfl, HK0⟩
  case round =>
    obtain ⟨i, xs, hi, rfl, HI⟩ := hrel
    by_cases hlt : i < 64
    · obtain ⟨y, hy⟩ : ∃ y, xs[i]? = some y := ⟨_, List.getElem?_eq_getElem (by rw [HI.out.len]; exact hlt)⟩
      have cy := bytes_cell HI.out.blk hy
      have fz := blk_frozen HI.out.blk i
      have hi64 : (i : Int) < 64 := by omega
      have hyk : y = K.getD i 0 := by
        have := HI.out.at_ i hlt
        rw [if_neg (by omega), List.getD_eq_getElem?_getD, hy] at this
        exact this
      have HN := Aside0.mk (show KInv w (w0) K x (i + 1) (xs.set i (Go.bits .xor .u8 y x)) (wr.setCell ⟨(w0).heap.size, i, none⟩ (.int .u8 (Go.bits .xor .u8 y x))) from ⟨HI.out.bel.setCell (Nat.le_refl _) _, by rw [← bytesA_set]; exact blk_set HI.out.blk i _, by rw [List.length_set]; exact HI.out.len, fun j hj => by
        rw [getD_set _ _ _ _ (by rw [HI.out.len]; exact hlt)]
        by_cases hji : j = i
        · subst hji; rw [if_pos rfl, if_pos (by omega), hyk]
        · rw [if_neg hji, HI.out.at_ j hj]
          by_cases h2 : j < i
          · rw [if_pos h2, if_pos (by omega)]
          · rw [if_neg h2, if_neg (by omega)]⟩)
      clear hy hyk
      go_wp2
      go_roundw
      case rel => exact ⟨i + 1, _, by omega, by simp, HN⟩
      case measure => simp [intOf]; omega
    · have hie : i = 64 := by omega
      subst hie
      have HF := Aside0.mk (pad_ext HI.out.len HI.out.at_)
      have HBF := Aside0.mk (HB0.out.trans (HI.out.bel.mono HB0.out.size))
      go_wp2
      go_ret
      refine ⟨.slice (some ⟨(w0).heap.size, 0, none⟩) 64 64, rfl, ?_, HBF.out⟩
      rw [← HF.out]
      refine .inr ⟨⟨(w0).heap.size, 0, none⟩, 64, by rw [HI.out.len], fun j u hu => ?_⟩
      have e : Addr.add ⟨(w0).heap.size, 0, none⟩ j = ⟨(w0).heap.size, j, none⟩ := by unfold Addr.add; split <;> simp_all
      rw [e]
      exact bytes_cell HI.out.blk hu
end Go.Proofs.Ytjlnbklendkflaa
