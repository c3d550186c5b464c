/- bits.Writer: its bits, walked: one, Put, Unary, Len, Bytes. -/
import Derived.Test.YtfanomllfgoakaaProg
import Derived.Test.YtfanomllfgoakaaFrame
import Derived.Test.YtfanomllfgoakaaBitsMath
import Derived.Test.YtfanomllfgoakaaWMore
import Derived.BigRegion
import Derived.Deep.LoopGhost
import Derived.LoopTactic
import Derived.BigQuiet
import Derived.Deep.QuietTactic
import Derived.Laws.BitsLemmas
import Derived.Outline
set_option linter.unusedVariables false
namespace Go.Proofs.Ytfanomllfgoakaa
open Go.RowKit Go.Proofs.YtfanomllfgoakaaW.PrintWords Go.Proofs.YtfanomllfgoakaaW.PrintLast Go.Proofs.YtfanomllfgoakaaW.PrintMore
open Go.Proofs.Ytfanomllfgoakaa.BitsMath

theorem infoByte : (Try.prog.info? 5).map (fun i => (i.zero, i.size, i.bytes)) = some (some (.int .u8 0), 1, 1) := by kernel_rfl
/-- A writer's blocks: its own, and its bytes'. -/
def WFoot (p : Nat) (w : World) (i : Nat) : Prop := i = p ∨ ∃ v n fr, w.heap[p]? = some (.cells #[v, n] 27 fr) ∧ v.ownBlock = some i
/-- A writer's cells: its bytes, and how many bits. -/
def RawW (p : Nat) (n : Int) (v : Value) (bytes : List Int) (w : World) : Prop :=
  w.heap[p]? = some (.cells #[v, .int .i64 n] 27 (0, 0)) ∧ w.ownsRow 0 5 1 v bytes.length (nums .u8 bytes)
/-- A writer has these bits. -/
def IsW (p : Nat) (bs : List Bool) (w : World) : Prop := ∃ v, RawW p bs.length v (pack bs) w
theorem RawW.foot {p : Nat} {n : Int} {v : Value} {bytes : List Int} {w : World} (h : RawW p n v bytes w) (i : Nat) : WFoot p w i ↔ i = p ∨ v.ownBlock = some i := by
  constructor
  · rintro (rfl | ⟨v', n', fr, h1, h2⟩)
    · exact .inl rfl
    · rw [h.1] at h1
      have : v = v' := by
        have e := Option.some.inj h1
        injection e with e
        exact (List.cons.inj (congrArg Array.toList e)).1
      subst this
      exact .inr h2
  · rintro (rfl | h2)
    · exact .inl rfl
    · exact .inr ⟨v, _, _, h.1, h2⟩
structure WStep (p : Nat) (w w' : World) (bs : List Bool) : Prop where
  is : IsW p bs w'
  keep : Keep (WFoot p w) w w'
  foot : ∀ i, WFoot p w' i → WFoot p w i ∨ w.heap.size ≤ i
theorem WStep.refl {p : Nat} {w : World} {bs : List Bool} (h : IsW p bs w) : WStep p w w bs := ⟨h, Keep.refl _ _, fun _ hi => .inl hi⟩
theorem WStep.trans {p : Nat} {w w1 w' : World} {a b : List Bool} (h : WStep p w w1 a) (k : WStep p w1 w' b) : WStep p w w' b :=
  ⟨k.is, h.keep.trans k.keep fun i hi hs => (h.foot i hs).elim id fun hc => absurd hi (by omega), fun i hi => (k.foot i hi).elim (h.foot i) fun hc => .inr (Nat.le_trans h.keep.size hc)⟩
theorem IsW.foot_lt {p : Nat} {w : World} {bs : List Bool} (h : IsW p bs w) {i : Nat} (hi : WFoot p w i) : i < w.heap.size := by
  obtain ⟨v, h⟩ := h
  rcases (h.foot i).1 hi with rfl | hi
  · exact blk_lt h.1
  · exact (h.2.lt i hi).2
/-- A writer is kept by what lies elsewhere. -/
theorem IsW.kept {p : Nat} {w w' : World} {bs : List Bool} {S : Nat → Prop} (h : IsW p bs w) (k : Keep S w w') (hn : ∀ i, WFoot p w i → ¬ S i) : IsW p bs w' ∧ ∀ i, WFoot p w' i ↔ WFoot p w i := by
  obtain ⟨v, h⟩ := h
  have h' : RawW p bs.length v (pack bs) w' := ⟨k.blk h.1 (hn p (.inl rfl)), k.row h.2 fun g hg => hn g ((h.foot g).2 (.inr hg))⟩
  exact ⟨⟨v, h'⟩, fun i => by rw [h.foot, h'.foot]⟩
theorem IsW.new (w : World) : IsW w.heap.size [] (w.alloc (.cells #[.slice none 0 0, .int .i64 0] 27)) := ⟨_, blk_new w _, World.ownsRow_nil _ _ _ _⟩
theorem WFoot.new (w : World) (i : Nat) (h : WFoot w.heap.size (w.alloc (.cells #[.slice none 0 0, .int .i64 0] 27)) i) : i = w.heap.size := by
  rcases h with h | ⟨v, n, fr, h1, h2⟩
  · exact h
  · rw [blk_new] at h1
    have : Value.slice none 0 0 = v := by
      have e := Option.some.inj h1
      injection e with e
      exact (List.cons.inj (congrArg Array.toList e)).1
    subst this
    simp [Value.ownBlock] at h2

/-! The numbers. -/
theorem and_u64_one (x : Int) (h0 : 0 ≤ x) (h : x < 18446744073709551616) : Go.bits .and .u64 x 1 = x % 2 := by
  obtain ⟨n, rfl⟩ := Int.eq_ofNat_of_zero_le h0
  have hb : (BitVec.ofInt 64 (n : Int)) = BitVec.ofNat 64 n := by rw [BitVec.ofInt_natCast]
  show IntKind.u64.wrap ((BitVec.ofInt 64 (n : Int) &&& BitVec.ofInt 64 1).toNat : Int) = _
  rw [hb, show BitVec.ofInt 64 1 = 1#64 from rfl, BitVec.toNat_and, BitVec.toNat_ofNat, Nat.mod_eq_of_lt (by omega), show (1#64).toNat = 1 from rfl, Nat.and_one_is_mod, IntKind.wrap_u64]
  omega
theorem or_u8 (a b : Nat) (ha : a < 256) (hb : b < 256) : Go.bits .or .u8 (a : Int) (b : Int) = ((a ||| b : Nat) : Int) := by
  have hx : a ||| b < 2 ^ 8 := Nat.or_lt_two_pow (by omega) (by omega)
  show IntKind.u8.wrap ((BitVec.ofInt 8 (a : Int) ||| BitVec.ofInt 8 (b : Int)).toNat : Int) = _
  rw [BitVec.toNat_or, BitVec.ofInt_natCast, BitVec.ofInt_natCast, BitVec.toNat_ofNat, BitVec.toNat_ofNat, Nat.mod_eq_of_lt (by omega), Nat.mod_eq_of_lt (by omega), IntKind.wrap_u8]
  omega
/-- A bit is put where there is room: it is added. -/
theorem or_add (y b : Int) (k : Nat) (hk : k ≤ 7) (hy0 : 0 ≤ y) (hy1 : y ≤ 255) (hm : y % (2 * 2 ^ k) = 0) (hb0 : 0 ≤ b) (hb1 : b ≤ 1) : Go.bits .or .u8 y (b * 2 ^ k % 256) = y + b * 2 ^ k := by
  obtain ⟨yn, rfl⟩ := Int.eq_ofNat_of_zero_le hy0
  obtain ⟨bn, rfl⟩ := Int.eq_ofNat_of_zero_le hb0
  have hp : (2 : Nat) ^ k ≤ 2 ^ 7 := Nat.pow_le_pow_right (by decide) hk
  have hp1 : 1 ≤ (2 : Nat) ^ k := Nat.pow_pos (by decide)
  have e1 : ((bn : Int) * 2 ^ k % 256) = ((bn * 2 ^ k : Nat) : Int) := by
    have : (bn : Int) * 2 ^ k = ((bn * 2 ^ k : Nat) : Int) := by simp
    rw [this]
    have h2 : bn * 2 ^ k ≤ 1 * 2 ^ k := Nat.mul_le_mul_right _ (by omega)
    omega
  have h2 : bn * 2 ^ k ≤ 1 * 2 ^ k := Nat.mul_le_mul_right _ (by omega)
  rw [e1, or_u8 _ _ (by omega) (by omega)]
  have e2 : (bn : Int) * 2 ^ k = ((bn * 2 ^ k : Nat) : Int) := by simp
  rw [e2]
  have hm' : yn % 2 ^ (k + 1) = 0 := by
    have : ((yn % 2 ^ (k + 1) : Nat) : Int) = 0 := by rw [← hm]; simp [Int.pow_succ, Int.mul_comm]
    omega
  have hd : yn = 2 ^ (k + 1) * (yn / 2 ^ (k + 1)) := by have := Nat.div_add_mod yn (2 ^ (k + 1)); omega
  have h3 : yn ||| bn * 2 ^ k = yn + bn * 2 ^ k := by
    conv => lhs; rw [hd]
    rw [← Nat.two_pow_add_eq_or_of_lt (by rw [Nat.pow_succ]; omega), ← hd]
  rw [h3]; simp
theorem store_val (bs : List Bool) (x : Int) (hx0 : 0 ≤ x) (hx1 : x < 18446744073709551616) (y : Int) (hy : 0 ≤ y ∧ y ≤ 255) (hr : y % (2 * wt bs.length) = 0) :
    Go.bits .or .u8 y (Go.bits .and .u64 x 1 % 256 * 2 ^ (7 - (bs.length : Int) % 8).toNat % 256) = y + bv (decide (x % 2 = 1)) * wt bs.length := by
  rw [and_u64_one x hx0 hx1, bv_ite]
  have e : (7 - (bs.length : Int) % 8).toNat = 7 - bs.length % 8 := by omega
  have e2 : x % 2 % 256 = x % 2 := by omega
  rw [e, e2]
  rw [wt_pow] at hr ⊢
  exact or_add y (x % 2) (7 - bs.length % 8) (by omega) hy.1 hy.2 hr (by omega) (by omega)

/-! one -/
def storedW (w : World) (p g : Nat) (n : Int) (y x : Int) : World :=
  ((w.setCell ⟨g, (n / 8).toNat, none⟩ (.int .u8 (Go.bits .or .u8 y (Go.bits .and .u64 x 1 % 256 * 2 ^ (7 - n % 8).toNat % 256)))).setCell ⟨p, 1, none⟩ (.int .i64 (n + 1))).drew
set_option maxHeartbeats 1000000 in
theorem one_in (p g cap nb : Nat) (n x y : Int) (w : World) (hn0 : 0 ≤ n) (hn1 : n ≤ 1099511627776) (hm : (n % 8 == 0) = false) (hx0 : 0 ≤ x) (hx1 : x < 18446744073709551616)
    (hb : n / 8 < (nb : Int)) (h0 : w.cell? ⟨p, 0, none⟩ = some (.slice (some ⟨g, 0, none⟩) nb cap)) (h1 : w.cell? ⟨p, 1, none⟩ = some (.int .i64 n))
    (h2 : w.cell? ⟨g, (n / 8).toNat, none⟩ = some (.int .u8 y)) (f1 : w.frozen? ⟨p, 1, none⟩ = false) (f2 : w.frozen? ⟨g, (n / 8).toNat, none⟩ = false) (hpg : p ≠ g) :
    Calls Try.prog 33 #[.pointer (some ⟨p, 0, none⟩), .int .u64 x] w fun e w' => e = .returned (.tuple #[]) ∧ w' = storedW w p g n y x := by
  have hb0 : 0 ≤ n / 8 := by omega
  unfold storedW
  go_enter Try.func33, Try.ntmps33
  go_wp2
  go_region
  all_goals go_wp2
  go_end0
  exact ⟨rfl, rfl⟩
set_option maxHeartbeats 2000000 in
theorem one_out (p nb : Nat) (v : Value) (n x : Int) (xs : List Value) (w : World) (hn0 : 0 ≤ n) (hn1 : n ≤ 1099511627776) (hm : (n % 8 == 0) = true) (hx0 : 0 ≤ x) (hx1 : x < 18446744073709551616)
    (hb : n / 8 = (nb : Int)) (hp : w.heap[p]? = some (.cells #[v, .int .i64 n] 27 (0, 0))) (hown : w.ownsRow 0 5 1 v nb xs) :
    Calls Try.prog 33 #[.pointer (some ⟨p, 0, none⟩), .int .u64 x] w fun e w' => e = .returned (.tuple #[]) ∧ ∃ (w1 : World) (g cap : Nat), w.grownBy w1 v.ownBlock ∧
      (some g = v.ownBlock ∨ w.heap.size ≤ g) ∧ w1.ownsRow 0 5 1 (.slice (some ⟨g, 0, none⟩) (nb + 1) cap) (nb + 1) (xs ++ [.int .u8 0]) ∧
      w' = storedW (w1.setCell ⟨p, 0, none⟩ (.slice (some ⟨g, 0, none⟩) (nb + 1) cap)) p g n 0 x := by
  obtain ⟨i0, hi, hz0, hz1, hz2⟩ := info_parts infoByte
  have hb0 : 0 ≤ n / 8 := by omega
  have h0 : w.cell? ⟨p, 0, none⟩ = some v := by rw [blk_cell hp]; rfl
  have h1 : w.cell? ⟨p, 1, none⟩ = some (.int .i64 n) := by rw [blk_cell hp]; rfl
  have HP := Aside0.mk hp
  have HNE := Aside0.mk (row_ne hown hp (by decide))
  have HB := Aside0.mk hb
  clear hp hb
  go_enter Try.func33, Try.ntmps33
  go_wp2_with (at_builtin; refine wpList_append_lies _ rfl _ _ 25 rfl 0 5 i0 (.int .u8 0) 1 1 Try.underlying25 hi hz0 hz1 hz2 rfl (by decide) _ _ _ rfl (hown.alloc _) ⟨w.heap.size, 0, none⟩ 1 1 [.int .u8 0] rfl rfl ?c1 ?c2 (by decide) ?c3 ?c4 (Nat.zero_le _) (w.heap.size + 1) ?c5 ?_)
  case c1 => exact World.news_of_block (blk_new w _)
  case c2 => intro u hu; simp at hu; subst hu; rfl
  case c3 => have := HB.out; unfold maxLen; omega
  case c4 => have := HB.out; omega
  case c5 => simp
  intro g cap w2 hown' hgrow hlies _
  have hb2 := blk_grown (blk_alloc HP.out _) hgrow HNE.out
  have HX := Aside0.mk (World.ownsRow.cellAt hown' nb (by omega))
  have hxs : xs.length = nb := by have := hown.1; omega
  rw [List.getElem?_append_right (by omega), hxs, Nat.sub_self] at HX
  have e2 : w2.cell? ⟨g, (n / 8).toNat, none⟩ = some (.int .u8 0) := by have hq := HX.out; rw [show (n / 8).toNat = nb by have := HB.out; omega]; exact hq
  have f2 : w2.frozen? ⟨g, (n / 8).toNat, none⟩ = false := World.ownsRow.frozenAt hown' _
  have d0 : w2.cell? ⟨p, 0, none⟩ = some v := by rw [blk_cell hb2]; rfl
  have d1 : w2.cell? ⟨p, 1, none⟩ = some (.int .i64 n) := by rw [blk_cell hb2]; rfl
  have g0 : w2.frozen? ⟨p, 0, none⟩ = false := blk_frozen hb2 0
  have g1 : w2.frozen? ⟨p, 1, none⟩ = false := blk_frozen hb2 1
  have hpg : p ≠ g := by
    have := row_ne hown' hb2 (by decide)
    simpa [Value.ownBlock, eq_comm] using this
  have hbb : n / 8 < (nb : Int) + 1 := by have := HB.out; omega
  have HO := Aside0.mk hown'
  have HH := Aside0.mk (p := some g = v.ownBlock ∨ w.heap.size ≤ g) (hlies.elim (fun h => .inl h.symm) fun h => .inr (by omega))
  have HGG := Aside0.mk (show w.grownBy w2 v.ownBlock from ⟨hgrow.os, hgrow.tape, hgrow.output, by have := hgrow.size; simp at this; omega, fun k hk hn => (hgrow.block k (by simp; omega) hn).trans (Below.heap_alloc w _ k hk)⟩)
  have HN := Aside0.mk hown
  clear hown hown' hgrow hlies hxs HX h0 h1
  go_wp2
  go_region
  all_goals go_wp2
  go_end0
  exact ⟨rfl, w2, g, cap, HGG.out, HH.out, HO.out, rfl⟩
theorem storedW_is {w : World} {p g cap nb : Nat} {n y x : Int} {n0 : Value} {xs : List Value} (hp : w.heap[p]? = some (.cells #[.slice (some ⟨g, 0, none⟩) nb cap, n0] 27 (0, 0)))
    (hown : w.ownsRow 0 5 1 (.slice (some ⟨g, 0, none⟩) nb cap) nb xs) :
    (storedW w p g n y x).heap[p]? = some (.cells #[.slice (some ⟨g, 0, none⟩) nb cap, .int .i64 (n + 1)] 27 (0, 0)) ∧
    (storedW w p g n y x).ownsRow 0 5 1 (.slice (some ⟨g, 0, none⟩) nb cap) nb (xs.set (n / 8).toNat (.int .u8 (Go.bits .or .u8 y (Go.bits .and .u64 x 1 % 256 * 2 ^ (7 - n % 8).toNat % 256)))) ∧
    Keep (fun i => i = p ∨ i = g) w (storedW w p g n y x) := by
  have hpg : g ≠ p := by
    have := row_ne hown hp (by decide)
    simpa [Value.ownBlock] using this
  unfold storedW
  generalize (Value.int .u8 (Go.bits .or .u8 y (Go.bits .and .u64 x 1 % 256 * 2 ^ (7 - n % 8).toNat % 256))) = u
  have h1 := hown.stored (n / 8).toNat u
  have k1 : Keep (fun i => i = p ∨ i = g) w (w.setCell ⟨g, (n / 8).toNat, none⟩ u) := (Keep.refl _ w).setCell (p := ⟨g, (n / 8).toNat, none⟩) (fun _ => .inr rfl) u
  have hp1 := blk_far hp (p := ⟨g, (n / 8).toNat, none⟩) hpg u
  refine ⟨?_, ?_, (k1.setCell (p := ⟨p, 1, none⟩) (fun _ => .inl rfl) _).drew⟩
  · exact blk_set hp1 1 _
  · have k2 : Keep (fun i => i = p) (w.setCell ⟨g, (n / 8).toNat, none⟩ u) ((w.setCell ⟨g, (n / 8).toNat, none⟩ u).setCell ⟨p, 1, none⟩ (.int .i64 (n + 1))) := (Keep.refl (fun i => i = p) _).setCell (p := ⟨p, 1, none⟩) (fun _ => rfl) _
    refine World.ownsRow.drew (k2.row h1.1 fun g' e => ?_)
    obtain rfl : g = g' := by simpa [Value.ownBlock] using e
    exact hpg
theorem nums_set (k : IntKind) (xs : List Int) (i : Nat) (v : Int) : (nums k xs).set i (.int k v) = nums k (xs.set i v) := by
  unfold nums; rw [List.map_set]
theorem one_calls (p : Nat) (bs : List Bool) (x : Int) (w : World) (hx0 : 0 ≤ x) (hx1 : x < 18446744073709551616) (h : IsW p bs w) (hn : bs.length ≤ 1099511627776) :
    Calls Try.prog 33 #[.pointer (some ⟨p, 0, none⟩), .int .u64 x] w fun e w' => e = .returned (.tuple #[]) ∧ WStep p w w' (bs ++ [decide (x % 2 = 1)]) := by
  obtain ⟨v, h⟩ := h
  have hlen := pack_length bs
  by_cases hm : bs.length % 8 = 0
  · refine (one_out p (pack bs).length v bs.length x _ w (by omega) (by omega) (by simp; omega) hx0 hx1 (by omega) h.1 h.2).mono ?_
    rintro e w' ⟨rfl, w1, g, cap, hg, hl, hr, rfl⟩
    have hb1 : w1.heap[p]? = some (.cells #[v, .int .i64 bs.length] 27 (0, 0)) := blk_grown h.1 hg (row_ne h.2 h.1 (by decide))
    have hpg : p ≠ g := by
      have := row_ne hr hb1 (by decide)
      simpa [Value.ownBlock, eq_comm] using this
    have k1 : Keep (fun i => some i = v.ownBlock) w w1 := (Keep.refl _ w).grown hg fun g e _ => e.symm
    have hb2 := blk_set hb1 0 (.slice (some ⟨g, 0, none⟩) ((pack bs).length + 1) cap)
    have k2 : Keep (fun i => i = p) w1 (w1.setCell ⟨p, 0, none⟩ (.slice (some ⟨g, 0, none⟩) ((pack bs).length + 1) cap)) := (Keep.refl (fun i => i = p) _).setCell (p := ⟨p, 0, none⟩) (fun _ => rfl) _
    have hr2 := k2.row hr (fun g' e => by
      obtain rfl : g = g' := by simpa [Value.ownBlock] using e
      exact Ne.symm hpg)
    obtain ⟨s1, s2, s3⟩ := storedW_is (n := bs.length) (y := 0) (x := x) hb2 hr2
    have hv : (Go.bits .or .u8 0 (Go.bits .and .u64 x 1 % 256 * 2 ^ (7 - (bs.length : Int) % 8).toNat % 256)) = bv (decide (x % 2 = 1)) * 128 := by
      have hw : wt bs.length = 128 := by unfold wt; simp [hm]
      rw [store_val bs x hx0 hx1 0 (by omega) (by rw [hw]; decide), hw, Int.zero_add]
    have hi : ((bs.length : Int) / 8).toNat = (pack bs).length := by omega
    rw [hv, hi] at s2
    have hraw : RawW p (bs ++ [decide (x % 2 = 1)]).length (.slice (some ⟨g, 0, none⟩) ((pack bs).length + 1) cap) (pack (bs ++ [decide (x % 2 = 1)])) (storedW (w1.setCell ⟨p, 0, none⟩ (.slice (some ⟨g, 0, none⟩) ((pack bs).length + 1) cap)) p g bs.length 0 x) := by
      refine ⟨by rw [List.length_append]; simpa using s1, ?_⟩
      rw [pack_snoc0 bs _ hm, nums_append]
      have e2 : (nums .u8 (pack bs) ++ [Value.int .u8 0]).set (pack bs).length (.int .u8 (bv (decide (x % 2 = 1)) * 128)) = nums .u8 (pack bs) ++ nums .u8 [bv (decide (x % 2 = 1)) * 128] := by
        rw [List.set_append_right _ _ (by rw [nums_length]; exact Nat.le_refl _), nums_length, Nat.sub_self]
        rfl
      rw [e2] at s2
      simpa using s2
    refine ⟨rfl, ⟨_, hraw⟩, ?_, ?_⟩
    · have k1' : Keep (WFoot p w) w w1 := k1.mono fun i _ hs => (h.foot i).2 (.inr hs.symm)
      refine (k1'.trans k2 fun i _ hs => .inl hs).trans s3 fun i hi hs => ?_
      rcases hs with hs | hs
      · exact .inl hs
      · subst hs
        rcases hl with hl | hl
        · exact (h.foot i).2 (.inr hl.symm)
        · omega
    · intro i hi
      rcases (hraw.foot i).1 hi with hi | hi
      · exact .inl (.inl hi)
      · obtain rfl : g = i := by simpa [Value.ownBlock] using hi
        rcases hl with hl | hl
        · exact .inl ((h.foot g).2 (.inr hl.symm))
        · exact .inr hl
  · obtain ⟨g, cap, cur, rfl, _⟩ := row_pos h.2 (by omega)
    have hpg : p ≠ g := by
      have := row_ne h.2 h.1 (by decide)
      simpa [Value.ownBlock, eq_comm] using this
    have hi : ((bs.length : Int) / 8).toNat = bs.length / 8 := by omega
    have hy : w.cell? ⟨g, ((bs.length : Int) / 8).toNat, none⟩ = some (.int .u8 (byteAt bs (bs.length / 8))) := by
      rw [hi, World.ownsRow.cellAt h.2 _ (by omega)]
      unfold nums
      rw [List.getElem?_map, pack_get? _ _ (by omega)]
      rfl
    refine (one_in p g cap (pack bs).length bs.length x (byteAt bs (bs.length / 8)) w (by omega) (by omega) (by simp; omega) hx0 hx1 (by omega) (by rw [blk_cell h.1]; rfl) (by rw [blk_cell h.1]; rfl) hy (blk_frozen h.1 1) (World.ownsRow.frozenAt h.2 _) hpg).mono ?_
    rintro e w' ⟨rfl, rfl⟩
    obtain ⟨s1, s2, s3⟩ := storedW_is (n := bs.length) (y := byteAt bs (bs.length / 8)) (x := x) h.1 h.2
    rw [store_val bs x hx0 hx1 _ (byteAt_range _ _) (byteAt_room bs hm), hi, nums_set, ← pack_snoc bs _ hm] at s2
    have hl2 : (pack (bs ++ [decide (x % 2 = 1)])).length = (pack bs).length := by rw [pack_length, pack_length]; simp; omega
    have hraw : RawW p (bs ++ [decide (x % 2 = 1)]).length (.slice (some ⟨g, 0, none⟩) (pack bs).length cap) (pack (bs ++ [decide (x % 2 = 1)])) (storedW w p g bs.length (byteAt bs (bs.length / 8)) x) :=
      ⟨by rw [List.length_append]; simpa using s1, by rw [hl2]; exact s2⟩
    refine ⟨rfl, ⟨_, hraw⟩, s3.mono fun i _ hs => ?_, fun i hi => .inl ?_⟩
    · rcases hs with hs | hs
      · exact .inl hs
      · exact (h.foot i).2 (.inr (by subst hs; rfl))
    · exact (h.foot i).2 ((hraw.foot i).1 hi)
end Go.Proofs.Ytfanomllfgoakaa
