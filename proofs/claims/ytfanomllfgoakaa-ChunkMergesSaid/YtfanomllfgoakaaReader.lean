/- bits.Writer.Bytes, bits.Read, and bits.Reader: Left, bit, Get, Unary, Rest: walked. -/
import Derived.Test.YtfanomllfgoakaaPut
set_option linter.unusedVariables false
namespace Go.Proofs.Ytfanomllfgoakaa
open Go.RowKit Go.Proofs.YtfanomllfgoakaaW.PrintWords Go.Proofs.YtfanomllfgoakaaW.PrintLast Go.Proofs.YtfanomllfgoakaaW.PrintMore
open Go.Proofs.Ytfanomllfgoakaa.BitsMath Go.Proofs.Ytfanomllfgoakaa.ChunkMath

/-- A slice that reads as these bytes. -/
def SrcB (w : World) (v : Value) (l : List Int) : Prop :=
  (∃ c, v = .slice none 0 c ∧ l = []) ∨ ∃ ad c, v = .slice (some ad) l.length c ∧ ∀ (j : Nat) (x : Int), l[j]? = some x → w.cell? (ad.add j) = some (.int .u8 x)
theorem SrcB.of_row {w : World} {base : Nat} {v : Value} {l : List Int} (h : w.ownsRow base 5 1 v l.length (nums .u8 l)) : SrcB w v l := by
  rcases h.2 with ⟨rfl, h0⟩ | ⟨g, cap, cur, rfl, _⟩
  · exact .inl ⟨0, rfl, List.eq_nil_of_length_eq_zero h0⟩
  · refine .inr ⟨⟨g, 0, none⟩, cap, rfl, fun j x hx => ?_⟩
    refine World.ownsRow.cells h rfl j _ ?_
    unfold nums
    rw [List.getElem?_map, hx]
    rfl
theorem clone_calls (v : Value) (l : List Int) (w : World) (h : SrcB w v l) (hn : l.length ≤ 1000000000) :
    Calls Try.prog 34 #[v] w fun e w' => ∃ v', e = .returned v' ∧ w'.ownsRow w.heap.size 5 1 v' l.length (nums .u8 l) ∧ Below w.heap.size w w' := by
  rcases h with ⟨c, rfl, rfl⟩ | ⟨ad, c, rfl, h⟩
  · refine (clone_nil c w).mono ?_
    rintro e w' ⟨rfl, rfl⟩
    exact ⟨_, rfl, World.ownsRow_nil _ _ _ _, Below.refl _ _⟩
  · exact clone_some ad c l w h hn
set_option maxHeartbeats 1000000 in
theorem bytesW_nil (w : World) : Calls Try.prog 14 #[.pointer none] w fun e w' => e = .returned (.slice none 0 0) ∧ w = w' := by
  go_enter Try.func14, Try.ntmps14
  go_wp2
  go_ret
  exact ⟨rfl, rfl⟩
set_option maxHeartbeats 1000000 in
theorem bytesW_calls (p : Nat) (bs : List Bool) (w : World) (hw : IsW p bs w) (hn : bs.length ≤ 1000000000) :
    Calls Try.prog 14 #[.pointer (some ⟨p, 0, none⟩)] w fun e w' => ∃ v, e = .returned v ∧ w'.ownsRow w.heap.size 5 1 v (pack bs).length (nums .u8 (pack bs)) ∧ Below w.heap.size w w' := by
  obtain ⟨v, hw⟩ := hw
  have h0 : w.cell? ⟨p, 0, none⟩ = some v := by rw [blk_cell hw.1]; rfl
  have HS := Aside0.mk (SrcB.of_row hw.2)
  have hlen := pack_length bs
  have HL := Aside0.mk (show (pack bs).length ≤ 1000000000 by omega)
  clear hw hlen hn
  go_enter Try.func14, Try.ntmps14
  go_wp2_with fail
  refine (clone_calls v (pack bs) _ HS.out HL.out).mono ?_
  rintro e w1 ⟨v', rfl, hr, hb⟩
  have HR := Aside0.mk hr
  have HB := Aside0.mk hb
  clear hr hb
  go_wp2
  go_ret
  exact ⟨_, rfl, HR.out, HB.out⟩

/-! The reader. -/
/-- A reader of these bytes, at this bit. -/
def IsR (p : Nat) (l : List Int) (at_ : Nat) (w : World) : Prop := ∃ v, w.heap[p]? = some (.cells #[v, .int .i64 (at_ : Int)] 74 (0, 0)) ∧ w.ownsRow 0 5 1 v l.length (nums .u8 l)
def RFoot (p : Nat) (w : World) (i : Nat) : Prop := i = p ∨ ∃ v n fr, w.heap[p]? = some (.cells #[v, n] 74 fr) ∧ v.ownBlock = some i
set_option maxHeartbeats 1000000 in
theorem read_calls (v : Value) (l : List Int) (w : World) (h : SrcB w v l) (hn : l.length ≤ 1000000000) :
    Calls Try.prog 16 #[v] w fun e w' => ∃ p, e = .returned (.pointer (some ⟨p, 0, none⟩)) ∧ w.heap.size ≤ p ∧ IsR p l 0 w' ∧ Below w.heap.size w w' := by
  have HS := Aside0.mk h
  clear h
  go_enter Try.func16, Try.ntmps16
  go_wp2_with fail
  refine (clone_calls v l _ HS.out hn).mono ?_
  rintro e w1 ⟨v', rfl, hr, hb⟩
  obtain ⟨A, cap, rfl⟩ := row_form hr
  have HR := Aside0.mk hr
  have HB := Aside0.mk hb
  clear hr hb
  go_wp2
  go_ret
  refine ⟨_, rfl, HB.out.size, ⟨_, blk_new _ _, World.ownsRow.alloc (row_mono HR.out (Nat.zero_le _)) _⟩, HB.out.alloc HB.out.size _⟩
set_option maxHeartbeats 1000000 in
theorem left_nil (w : World) : Calls Try.prog 17 #[.pointer none] w fun e w' => e = .returned (.int .i64 0) ∧ w = w' := by
  go_enter Try.func17, Try.ntmps17
  go_wp2
  go_ret
  exact ⟨rfl, rfl⟩
set_option maxHeartbeats 1000000 in
theorem left_calls (p at_ : Nat) (l : List Int) (w : World) (h : IsR p l at_ w) (hn : l.length ≤ 1000000000) (ha : at_ ≤ 8 * l.length) :
    Calls Try.prog 17 #[.pointer (some ⟨p, 0, none⟩)] w fun e w' => e = .returned (.int .i64 (8 * (l.length : Int) - at_)) ∧ ∃ n, w' = w.drewN n := by
  obtain ⟨v, h, hr⟩ := h
  obtain ⟨A, cap, rfl⟩ := row_form hr
  have h0 : w.cell? ⟨p, 0, none⟩ = some (.slice A l.length cap) := by rw [blk_cell h]; rfl
  have h1 : w.cell? ⟨p, 1, none⟩ = some (.int .i64 (at_ : Int)) := by rw [blk_cell h]; rfl
  clear h hr
  go_enter Try.func17, Try.ntmps17
  go_wp2
  go_quiet (fail)
  go_wp2
  go_ret
  exact ⟨rfl, _, rfl⟩
set_option maxHeartbeats 1000000 in
theorem bit_calls (p at_ : Nat) (l : List Int) (w : World) (h : IsR p l at_ w) (k : Int) (hk0 : 0 ≤ k) (hk1 : k < 8 * (l.length : Int)) (hb : ∀ x ∈ l, 0 ≤ x ∧ x ≤ 255) (hn : l.length ≤ 1000000000) :
    Calls Try.prog 35 #[.pointer (some ⟨p, 0, none⟩), .int .i64 k] w fun e w' => e = .returned (.int .u64 (bitOf l k.toNat)) ∧ w = w' := by
  obtain ⟨v, h, hr⟩ := h
  obtain ⟨g, cap, cur, rfl, _⟩ := row_pos hr (by omega)
  have h0 : w.cell? ⟨p, 0, none⟩ = some (.slice (some ⟨g, 0, none⟩) l.length cap) := by rw [blk_cell h]; rfl
  have hx : w.cell? ⟨g, (k / 8).toNat, none⟩ = some (.int .u8 (l.getD (k / 8).toNat 0)) := by
    rw [World.ownsRow.cellAt hr _ (by omega)]
    unfold nums
    rw [List.getElem?_map, List.getElem?_eq_getElem (by omega), List.getD_eq_getElem?_getD, List.getElem?_eq_getElem (by omega)]
    rfl
  have hxr := hb (l.getD (k / 8).toNat 0) (by rw [List.getD_eq_getElem?_getD, List.getElem?_eq_getElem (by omega)]; exact List.getElem_mem _)
  obtain ⟨y, hy⟩ : ∃ y, y = l.getD (k / 8).toNat 0 := ⟨_, rfl⟩
  rw [← hy] at hx hxr
  obtain ⟨L, hL⟩ : ∃ L : Nat, L = l.length := ⟨_, rfl⟩
  rw [← hL] at h0 hk1 hn
  have HY := Aside0.mk hy
  have hy0 := hxr.1
  have hy1 := hxr.2
  have hi0 : 0 ≤ k / 8 := by omega
  have hi1 : k / 8 < (L : Int) := by omega
  clear h hr hb hy hL hxr
  go_enter Try.func35, Try.ntmps35
  go_wp2
  go_ret
  refine ⟨?_, rfl⟩
  have e : Go.bits .and .u64 (IntKind.u64.wrap (y / 2 ^ (7 - k % 8).toNat)) 1 = bitOf l k.toNat := by
    have hw := wt_pow k.toNat
    have e1 : (7 - k % 8).toNat = 7 - k.toNat % 8 := by omega
    have hp := wt_pos k.toNat
    have hd0 : 0 ≤ y / wt k.toNat := Int.ediv_nonneg hy0 (by omega)
    have hd1 : y / wt k.toNat ≤ y := Int.ediv_le_self _ hy0
    rw [e1, ← hw, IntKind.wrap_u64, and_u64_one _ (by omega) (by omega)]
    unfold bitOf
    have e2 : (k / 8).toNat = k.toNat / 8 := by omega
    rw [← e2, ← HY.out]
    omega
  rw [← e]
  rfl

theorem IsR.foot {p at_ : Nat} {l : List Int} {w : World} {v : Value} (h : w.heap[p]? = some (.cells #[v, .int .i64 (at_ : Int)] 74 (0, 0))) (i : Nat) : RFoot p w i ↔ i = p ∨ v.ownBlock = some i := by
  constructor
  · rintro (rfl | ⟨v', n', fr, h1, h2⟩)
    · exact .inl rfl
    · rw [h] at h1
      have : v = v' := by
        have e := Option.some.inj h1
        injection e with e
        exact (List.cons.inj (congrArg Array.toList e)).1
      subst this
      exact .inr h2
  · rintro (rfl | h2)
    · exact .inl rfl
    · exact .inr ⟨v, _, _, h, h2⟩
/-- A reader that goes on to another bit. -/
theorem IsR.moved {p at_ : Nat} {l : List Int} {w : World} (h : IsR p l at_ w) (n : Nat) : IsR p l n (w.setCell ⟨p, 1, none⟩ (.int .i64 (n : Int))) ∧ Keep (fun i => i = p) w (w.setCell ⟨p, 1, none⟩ (.int .i64 (n : Int))) ∧ ∀ i, RFoot p (w.setCell ⟨p, 1, none⟩ (.int .i64 (n : Int))) i ↔ RFoot p w i := by
  obtain ⟨v, h, hr⟩ := h
  have k : Keep (fun i => i = p) w (w.setCell ⟨p, 1, none⟩ (.int .i64 (n : Int))) := (Keep.refl (fun i => i = p) w).setCell (p := ⟨p, 1, none⟩) (fun _ => rfl) _
  have h' : (w.setCell ⟨p, 1, none⟩ (.int .i64 (n : Int))).heap[p]? = some (.cells #[v, .int .i64 (n : Int)] 74 (0, 0)) := blk_set h 1 _
  refine ⟨⟨v, h', k.row hr fun g hg e => ?_⟩, k, fun i => ?_⟩
  · subst e
    exact row_ne hr h (by decide) hg
  · rw [IsR.foot (l := l) h, IsR.foot (l := l) h']
theorem IsR.kept {p at_ : Nat} {l : List Int} {w w' : World} {S : Nat → Prop} (h : IsR p l at_ w) (k : Keep S w w') (hn : ∀ i, RFoot p w i → ¬ S i) : IsR p l at_ w' ∧ ∀ i, RFoot p w' i ↔ RFoot p w i := by
  obtain ⟨v, h, hr⟩ := h
  have h' := k.blk h (hn p (.inl rfl))
  refine ⟨⟨v, h', k.row hr fun g hg => hn g ((IsR.foot (l := l) h g).2 (.inr hg))⟩, fun i => ?_⟩
  rw [IsR.foot (l := l) h, IsR.foot (l := l) h']
theorem IsR.drewN {p at_ : Nat} {l : List Int} {w : World} (h : IsR p l at_ w) (n : Nat) : IsR p l at_ (w.drewN n) := h
/-- What a step of a reader does: it is at another bit. -/
structure RStep (p : Nat) (l : List Int) (w w' : World) (at_ : Nat) : Prop where
  is : IsR p l at_ w'
  keep : Keep (fun i => i = p) w w'
  foot : ∀ i, RFoot p w' i ↔ RFoot p w i
theorem RStep.refl {p : Nat} {l : List Int} {w : World} {n : Nat} (h : IsR p l n w) : RStep p l w w n := ⟨h, Keep.refl _ _, fun _ => Iff.rfl⟩
theorem RStep.trans {p : Nat} {l : List Int} {w w1 w' : World} {m n : Nat} (h : RStep p l w w1 m) (k : RStep p l w1 w' n) : RStep p l w w' n :=
  ⟨k.is, h.keep.trans k.keep fun _ _ hs => hs, fun i => (k.foot i).trans (h.foot i)⟩
theorem RStep.drewN {p : Nat} {l : List Int} {w w1 : World} {m : Nat} (h : RStep p l w w1 m) (n : Nat) : RStep p l w (w1.drewN n) m := ⟨h.is, h.keep.drewN n, h.foot⟩
theorem RStep.moved {p : Nat} {l : List Int} {w w1 : World} {m : Nat} (h : RStep p l w w1 m) (n : Nat) : RStep p l w (w1.setCell ⟨p, 1, none⟩ (.int .i64 (n : Int))) n :=
  h.trans ⟨(h.is.moved n).1, (h.is.moved n).2.1, (h.is.moved n).2.2⟩

/-! Get -/
/-- The bits that are left. -/
def bs_ (l : List Int) (n : Nat) : List Bool := (unpack l).drop n
theorem bs_take (l : List Int) (n i : Nat) (h : i < (bs_ l n).length) : (bs_ l n).take (i + 1) = (bs_ l n).take i ++ [decide (bitOf l (n + i) = 1)] := by
  rw [List.take_succ_eq_append_getElem h]
  congr 2
  unfold bs_ at h ⊢
  rw [List.getElem_drop]
  rw [List.length_drop, unpack_length] at h
  have := unpack_get? l (n + i) (by omega)
  rw [List.getElem?_eq_getElem (by rw [unpack_length]; omega)] at this
  exact Option.some.inj this
theorem or_u64_bit (x b : Int) (hx0 : 0 ≤ x) (hx1 : x < 9223372036854775808) (hb0 : 0 ≤ b) (hb1 : b ≤ 1) : Go.bits .or .u64 (x * 2) b = 2 * x + b := by
  obtain ⟨xn, rfl⟩ := Int.eq_ofNat_of_zero_le hx0
  obtain ⟨bn, rfl⟩ := Int.eq_ofNat_of_zero_le hb0
  have hx : xn * 2 ||| bn < 2 ^ 64 := Nat.or_lt_two_pow (by omega) (by omega)
  have e1 : ((xn : Int) * 2) = ((xn * 2 : Nat) : Int) := by simp
  rw [e1]
  show IntKind.u64.wrap ((BitVec.ofInt 64 ((xn * 2 : Nat) : Int) ||| BitVec.ofInt 64 (bn : Int)).toNat : Int) = _
  rw [BitVec.toNat_or, BitVec.ofInt_natCast, BitVec.ofInt_natCast, BitVec.toNat_ofNat, BitVec.toNat_ofNat, Nat.mod_eq_of_lt (by omega), Nat.mod_eq_of_lt (by omega), IntKind.wrap_u64]
  have h3 : xn * 2 ||| bn = xn * 2 + bn := by
    have := Nat.two_pow_add_eq_or_of_lt (i := 1) (b := bn) (by omega) xn
    rw [show 2 ^ 1 * xn = xn * 2 by omega] at this
    exact this.symm
  rw [h3]
  omega
set_option maxHeartbeats 1000000 in
theorem get_nil (n : Int) (w : World) : Calls Try.prog 19 #[.pointer none, .int .i64 n] w fun e w' => e = .returned (.tuple #[.int .u64 0, .int .i64 1]) ∧ w = w' := by
  go_enter Try.func19, Try.ntmps19
  go_wp2
  go_ret2
  exact ⟨rfl, rfl⟩
set_option maxHeartbeats 1000000 in
theorem get_low (a : Addr) (n : Int) (w : World) (h : decide (n < 0) = true) : Calls Try.prog 19 #[.pointer (some a), .int .i64 n] w fun e w' => e = .returned (.tuple #[.int .u64 0, .int .i64 1]) ∧ w = w' := by
  go_enter Try.func19, Try.ntmps19
  go_wp2
  go_ret2
  exact ⟨rfl, rfl⟩
set_option maxHeartbeats 1000000 in
theorem get_high (a : Addr) (n : Int) (w : World) (h : decide (n < 0) = false) (h' : decide (64 < n) = true) : Calls Try.prog 19 #[.pointer (some a), .int .i64 n] w fun e w' => e = .returned (.tuple #[.int .u64 0, .int .i64 1]) ∧ w = w' := by
  go_enter Try.func19, Try.ntmps19
  go_wp2
  go_ret2
  exact ⟨rfl, rfl⟩
set_option maxHeartbeats 1000000 in
theorem get_short (p at_ : Nat) (l : List Int) (n : Int) (w : World) (h : IsR p l at_ w) (hn : l.length ≤ 1000000000) (ha : at_ ≤ 8 * l.length) (h0 : 0 ≤ n) (h1 : n ≤ 64) (hs : 8 * (l.length : Int) - at_ < n) :
    Calls Try.prog 19 #[.pointer (some ⟨p, 0, none⟩), .int .i64 n] w fun e w' => e = .returned (.tuple #[.int .u64 0, .int .i64 4]) ∧ ∃ k, w' = w.drewN k := by
  have d0 : decide (n < 0) = false := decide_eq_false (by omega)
  have d1 : decide (64 < n) = false := decide_eq_false (by omega)
  have d2 : decide (8 * (l.length : Int) - (at_ : Int) < n) = true := decide_eq_true hs
  have HR := Aside0.mk h
  clear h
  go_enter Try.func19, Try.ntmps19
  go_wp2_with fail
  refine (left_calls p at_ l _ HR.out hn ha).mono ?_
  rintro e w1 ⟨rfl, k1, rfl⟩
  go_wp2
  go_ret2
  exact ⟨rfl, _, rfl⟩
set_option maxHeartbeats 2000000 in
theorem get_ok (p at_ : Nat) (l : List Int) (n : Int) (w : World) (h : IsR p l at_ w) (hn : l.length ≤ 1000000000) (hb : ∀ x ∈ l, 0 ≤ x ∧ x ≤ 255) (ha : at_ ≤ 8 * l.length) (h0 : 0 ≤ n) (h1 : n ≤ 64) (hs : n ≤ 8 * (l.length : Int) - at_) :
    Calls Try.prog 19 #[.pointer (some ⟨p, 0, none⟩), .int .i64 n] w fun e w' => e = .returned (.tuple #[.int .u64 (val ((bs_ l at_).take n.toNat) : Int), .int .i64 0]) ∧ RStep p l w w' (at_ + n.toNat) := by
  have d0 : decide (n < 0) = false := decide_eq_false (by omega)
  have d1 : decide (64 < n) = false := decide_eq_false (by omega)
  have d2 : decide (8 * (l.length : Int) - (at_ : Int) < n) = false := decide_eq_false (by omega)
  have HR := Aside0.mk h
  have HB := Aside0.mk hb
  clear h hb
  go_enter Try.func19, Try.ntmps19
  go_wp2_with fail
  refine (left_calls p at_ l _ HR.out hn ha).mono ?_
  rintro e w1 ⟨rfl, k1, rfl⟩
  go_wp2_with fail
  have HS0 := Aside0.mk (show (bs_ l at_).length = 8 * l.length - at_ by unfold bs_; rw [List.length_drop, unpack_length])
  go_loopw [6, 24] (fun v6 v24 wr => ∃ (i x : Int) (q : Nat), 0 ≤ i ∧ i ≤ n ∧ v24 = .int .i64 i ∧ v6 = .int .u64 x ∧ Aside0 (x = (val ((bs_ l at_).take i.toNat) : Int)) ∧ Aside0 (q = at_ + i.toNat) ∧ Aside0 (RStep p l w wr q)) (fun _ v _ => (n - intOf v).toNat)
  case atStart =>
    exact ⟨0, 0, at_, by omega, by omega, rfl, rfl, ⟨by simp [val]⟩, ⟨by simp⟩, ⟨(RStep.refl HR.out).drewN _⟩⟩
  case round =>
    obtain ⟨i, x, q, hi0, hi1, rfl, rfl, HX, HQ, HS⟩ := hrel
    by_cases hlt : i < n
    · have hq1 : (q : Int) < 8 * (l.length : Int) := by have := HQ.out; omega
      have hxb : x < 9223372036854775808 := by
        rw [HX.out]
        have := val_lt _ ((bs_ l at_).take i.toNat) rfl
        have h2 : ((bs_ l at_).take i.toNat).length ≤ 63 := by rw [List.length_take]; omega
        have h3 := Nat.pow_le_pow_right (show 0 < 2 by decide) h2
        omega
      have hx0 : 0 ≤ x := by rw [HX.out]; exact Int.natCast_nonneg _
      have hbr := bitOf_range l (q : Int).toNat
      obtain ⟨v, hv, _⟩ := HS.out.is
      have c1 : wr.cell? ⟨p, 1, none⟩ = some (.int .i64 (q : Int)) := by rw [blk_cell hv]; rfl
      have f1 : wr.frozen? ⟨p, 1, none⟩ = false := blk_frozen hv 1
      clear hv
      go_wp2_with fail
      refine (bit_calls p q l _ HS.out.is (q : Int) (by omega) (by omega) HB.out hn).mono ?_
      rintro e w2 ⟨rfl, rfl⟩
      have HM := Aside0.mk (HS.out.moved (q + 1))
      obtain ⟨b, hbq⟩ : ∃ b, b = bitOf l (q : Int).toNat := ⟨_, rfl⟩
      have HBQ := Aside0.mk hbq
      rw [← hbq] at hbr ⊢
      clear hbq
      have hb0 := hbr.1
      have hb1 := hbr.2
      clear hbr
      go_wp2
      go_roundw
      case rel =>
        refine ⟨i + 1, 2 * x + b, q + 1, by omega, by omega, rfl, ?_, ⟨?_⟩, ⟨by have := HQ.out; omega⟩, ⟨?_⟩⟩
        · have := or_u64_bit x b hx0 hxb hb0 hb1
          first | exact congrArg (Value.int IntKind.u64) this | (simp; exact this)
        · have hb2 : bitOf l (q : Int).toNat = bitOf l (at_ + i.toNat) := by rw [HQ.out, Int.toNat_natCast]
          rw [show (i + 1).toNat = i.toNat + 1 by omega, bs_take l at_ i.toNat (by have := HS0.out; omega), val_snoc, HBQ.out, hb2, HX.out]
          have hr := bitOf_range l (at_ + i.toNat)
          split <;> simp_all <;> omega
        · exact HM.out
      case measure => simp [intOf]; omega
    · have HE := Aside0.mk (show i = n by omega)
      go_wp2
      go_ret2
      have h1 := HS.out
      have h2 := HQ.out
      have h3 := HX.out
      rw [HE.out] at h2 h3
      subst h2
      refine ⟨?_, h1⟩
      rw [h3]
      rfl

/-! Unary -/
def lead (s : List Bool) : Nat := (s.takeWhile id).length
theorem lead_le (s : List Bool) : lead s ≤ s.length := (List.takeWhile_sublist id).length_le
theorem lead_at : ∀ (s : List Bool) (i : Nat), i ≤ lead s → i < s.length → (s[i]? = some true ↔ i < lead s)
  | [], i, _, h => by simp at h
  | b :: r, 0, _, _ => by cases b <;> simp [lead]
  | b :: r, i + 1, h, h' => by
    cases b with
    | false => simp [lead] at h
    | true =>
      have e : lead (true :: r) = lead r + 1 := by simp [lead]
      rw [e] at h ⊢
      have := lead_at r i (by omega) (by simpa using h')
      simp only [List.getElem?_cons_succ]
      rw [this]
      omega
theorem bs_at (l : List Int) (n i : Nat) (h : i < (bs_ l n).length) : (bs_ l n)[i]? = some (decide (bitOf l (n + i) = 1)) := by
  unfold bs_ at h ⊢
  rw [List.length_drop, unpack_length] at h
  rw [List.getElem?_drop, unpack_get? l (n + i) (by omega)]
/-- What Unary tells: a number, an error, and the next bit. -/
def unaryOf (l : List Int) (at_ : Nat) (most : Int) : Int × Int × Nat :=
  if max most 0 < (lead (bs_ l at_) : Int) then (0, 12, at_) else if lead (bs_ l at_) = (bs_ l at_).length then (0, 4, at_) else (lead (bs_ l at_), 0, at_ + lead (bs_ l at_) + 1)
theorem unary_zero {l : List Int} {at_ i : Nat} {most : Int} (hi : i ≤ lead (bs_ l at_)) (hl : i < (bs_ l at_).length) (hb : bitOf l (at_ + i) = 0) (hm : (i : Int) ≤ max most 0) : unaryOf l at_ most = ((i : Int), 0, at_ + i + 1) := by
  have h1 := lead_at _ i hi hl
  rw [bs_at l at_ i hl, hb] at h1
  have : lead (bs_ l at_) = i := by simp at h1; omega
  unfold unaryOf
  rw [this, if_neg (by omega), if_neg (by omega)]
theorem lead_more {l : List Int} {at_ i : Nat} (hi : i ≤ lead (bs_ l at_)) (hl : i < (bs_ l at_).length) (hb : bitOf l (at_ + i) = 1) : i + 1 ≤ lead (bs_ l at_) := by
  have h1 := lead_at _ i hi hl
  rw [bs_at l at_ i hl, hb] at h1
  simp at h1
  omega
theorem unary_long {l : List Int} {at_ i : Nat} {most : Int} (hi : i ≤ lead (bs_ l at_)) (hl : i < (bs_ l at_).length) (hb : bitOf l (at_ + i) = 1) (hm : max most 0 ≤ (i : Int)) : unaryOf l at_ most = (0, 12, at_) := by
  have := lead_more hi hl hb
  unfold unaryOf
  rw [if_pos (by omega)]
theorem unary_short {l : List Int} {at_ i : Nat} {most : Int} (hi : i ≤ lead (bs_ l at_)) (hl : i = (bs_ l at_).length) (hm : (i : Int) ≤ max most 0) : unaryOf l at_ most = (0, 4, at_) := by
  have := lead_le (bs_ l at_)
  unfold unaryOf
  rw [if_neg (by omega), if_pos (by omega)]
set_option maxHeartbeats 1000000 in
theorem unaryR_nil (n : Int) (w : World) : Calls Try.prog 18 #[.pointer none, .int .i64 n] w fun e w' => e = .returned (.tuple #[.int .i64 0, .int .i64 1]) ∧ w = w' := by
  go_enter Try.func18, Try.ntmps18
  go_wp2
  go_ret2
  exact ⟨rfl, rfl⟩
set_option maxHeartbeats 4000000 in
theorem unaryR_calls (p at_ : Nat) (l : List Int) (most : Int) (w : World) (h : IsR p l at_ w) (hn : l.length ≤ 1000000000) (hb : ∀ x ∈ l, 0 ≤ x ∧ x ≤ 255) (ha : at_ ≤ 8 * l.length)
    (hmo0 : -9223372036854775808 ≤ most) (hmo1 : most ≤ 9223372036854775807) :
    Calls Try.prog 18 #[.pointer (some ⟨p, 0, none⟩), .int .i64 most] w fun e w' => e = .returned (.tuple #[.int .i64 (unaryOf l at_ most).1, .int .i64 (unaryOf l at_ most).2.1]) ∧ RStep p l w w' (unaryOf l at_ most).2.2 := by
  have HR := Aside0.mk h
  have HB := Aside0.mk hb
  have HS0 := Aside0.mk (show (bs_ l at_).length = 8 * l.length - at_ by unfold bs_; rw [List.length_drop, unpack_length])
  have HL := Aside0.mk (lead_le (bs_ l at_))
  clear h hb
  obtain ⟨M, hM⟩ : ∃ M, M = max most 0 := ⟨_, rfl⟩
  have HM := Aside0.mk hM
  have hM0 : 0 ≤ M := by omega
  have hM1 : M ≤ 9223372036854775807 := by omega
  have hif : (if most < 0 then 0 else most) = M := by rw [hM]; split <;> omega
  clear hM
  go_enter Try.func18, Try.ntmps18
  go_wp2_with fail
  go_loopw [6] (fun v6 wr => ∃ (i k : Nat), i ≤ 8 * l.length - at_ ∧ (i : Int) ≤ M ∧ v6 = .int .i64 (i : Int) ∧ Aside0 (i ≤ lead (bs_ l at_)) ∧ Aside0 (wr = w.drewN k)) (fun v _ => 8 * l.length - at_ - (intOf v).toNat)
  case atStart => exact ⟨0, 0, by omega, by omega, rfl, ⟨by omega⟩, ⟨rfl⟩⟩
  case round =>
    obtain ⟨i, k, hi0, hi1, rfl, HI, HW⟩ := hrel
    obtain rfl := HW.out
    clear HW
    by_cases hlt : i < 8 * l.length - at_
    · have d1 : decide ((i : Int) < 8 * (l.length : Int) - (at_ : Int)) = true := decide_eq_true (by omega)
      have HA := Aside0.mk ((bs_at l at_ i (by rw [HS0.out]; exact hlt)).symm.trans rfl)
      have hbr := bitOf_range l (at_ + i)
      obtain ⟨v, hv, _⟩ := HR.out
      have c1 : w.cell? ⟨p, 1, none⟩ = some (.int .i64 (at_ : Int)) := by rw [blk_cell hv]; rfl
      have f1 : w.frozen? ⟨p, 1, none⟩ = false := blk_frozen hv 1
      clear hv
      go_wp2_with fail
      refine (left_calls p at_ l _ (HR.out.drewN _) hn ha).mono ?_
      rintro e w1 ⟨rfl, k1, rfl⟩
      go_wp2_with fail
      refine (bit_calls p at_ l _ (HR.out.drewN _) _ (by omega) (by omega) HB.out hn).mono ?_
      rintro e w2 ⟨rfl, rfl⟩
      rw [show ((at_ : Int) + (i : Int)).toNat = at_ + i by omega]
      obtain ⟨b, hbq⟩ : ∃ b, b = bitOf l (at_ + i) := ⟨_, rfl⟩
      have HBQ := Aside0.mk hbq
      rw [← hbq] at hbr ⊢
      clear hbq
      by_cases hb0 : b = 0
      · have hbb : (b == 0) = true := by rw [hb0]; rfl
        have HB0 := Aside0.mk hb0
        clear hbr hb0
        go_wp2
        go_ret2
        have hu := unary_zero (most := most) HI.out (by rw [HS0.out]; exact hlt) (HBQ.out.symm.trans HB0.out) (by rw [← HM.out]; exact hi1)
        rw [hu]
        refine ⟨rfl, ?_⟩
        have e1 : ((at_ : Int) + ((i : Int) + 1)) = ((at_ + i + 1 : Nat) : Int) := by omega
        rw [e1]
        exact ((RStep.refl HR.out).drewN _).moved _
      · have hbb : (b == 0) = false := by simp [hb0]
        have HB1 := Aside0.mk (show b = 1 by omega)
        clear hbr hb0
        by_cases hm : M ≤ (i : Int)
        · have d2 : decide (M ≤ (i : Int)) = true := decide_eq_true hm
          go_wp2
          go_ret2
          have hu := unary_long (most := most) HI.out (by rw [HS0.out]; exact hlt) (HBQ.out.symm.trans HB1.out) (by rw [← HM.out]; exact hm)
          rw [hu]
          exact ⟨rfl, (RStep.refl HR.out).drewN _⟩
        · have d2 : decide (M ≤ (i : Int)) = false := decide_eq_false hm
          go_wp2
          have hmo := lead_more HI.out (by rw [HS0.out]; exact hlt) (HBQ.out.symm.trans HB1.out)
          go_roundw
          case rel => exact ⟨i + 1, k + k1, by omega, by omega, rfl, ⟨hmo⟩, ⟨rfl⟩⟩
          case measure => simp [intOf]; omega
    · have d1 : decide ((i : Int) < 8 * (l.length : Int) - (at_ : Int)) = false := decide_eq_false (by omega)
      go_wp2_with fail
      refine (left_calls p at_ l _ (HR.out.drewN _) hn ha).mono ?_
      rintro e w1 ⟨rfl, k1, rfl⟩
      go_wp2
      go_ret2
      have hu := unary_short (most := most) HI.out (by rw [HS0.out]; omega) (by rw [← HM.out]; exact hi1)
      rw [hu]
      exact ⟨rfl, (RStep.refl HR.out).drewN _⟩

/-! Rest -/
set_option maxHeartbeats 1000000 in
theorem rest_nil (w : World) : Calls Try.prog 20 #[.pointer none] w fun e w' => e = .returned (.int .i64 1) ∧ w = w' := by
  go_enter Try.func20, Try.ntmps20
  go_wp2
  go_ret
  exact ⟨rfl, rfl⟩
def restOf (s : List Bool) : Int := if rest s = true then 0 else 2
theorem restOf_no {s : List Bool} (h : rest s = false) : restOf s = 2 := by unfold restOf; rw [h]; rfl
theorem restOf_yes {s : List Bool} (h : rest s = true) : restOf s = 0 := by unfold restOf; rw [if_pos h]
theorem rest_no {s : List Bool} (h : 8 ≤ s.length) : rest s = false := by
  unfold rest
  simp only [decide_eq_false (show ¬ s.length < 8 by omega), Bool.false_and]
theorem rest_bit {s : List Bool} {i : Nat} (h : s[i]? = some true) : rest s = false := by
  unfold rest
  have : s.all (! ·) = false := by
    rw [List.all_eq_false]
    exact ⟨true, List.mem_of_getElem? h, by simp⟩
  rw [this, Bool.and_false]
theorem rest_yes {s : List Bool} (h : s.length < 8) (h' : ∀ i, i < s.length → s[i]? = some false) : rest s = true := by
  unfold rest
  rw [decide_eq_true h, Bool.true_and, List.all_eq_true]
  intro b hb
  obtain ⟨i, hi, rfl⟩ := List.getElem_of_mem hb
  have := h' i hi
  rw [List.getElem?_eq_getElem hi] at this
  injection this with this
  rw [this]; rfl
set_option maxHeartbeats 4000000 in
theorem rest_calls (p at_ : Nat) (l : List Int) (w : World) (h : IsR p l at_ w) (hn : l.length ≤ 1000000000) (hb : ∀ x ∈ l, 0 ≤ x ∧ x ≤ 255) (ha : at_ ≤ 8 * l.length) :
    Calls Try.prog 20 #[.pointer (some ⟨p, 0, none⟩)] w fun e w' => e = .returned (.int .i64 (restOf (bs_ l at_))) ∧ ∃ n, w' = w.drewN n := by
  have HR := Aside0.mk h
  have HB := Aside0.mk hb
  have HS0 := Aside0.mk (show (bs_ l at_).length = 8 * l.length - at_ by unfold bs_; rw [List.length_drop, unpack_length])
  obtain ⟨v, hv, hr⟩ := h
  obtain ⟨A, cap, rfl⟩ := row_form hr
  have c0 : w.cell? ⟨p, 0, none⟩ = some (.slice A l.length cap) := by rw [blk_cell hv]; rfl
  have c1 : w.cell? ⟨p, 1, none⟩ = some (.int .i64 (at_ : Int)) := by rw [blk_cell hv]; rfl
  clear hv hr hb
  by_cases h8 : 8 * (l.length : Int) - at_ ≥ 8
  · have d1 : decide (8 ≤ 8 * (l.length : Int) - (at_ : Int)) = true := decide_eq_true h8
    rw [restOf_no (rest_no (by rw [HS0.out]; omega))]
    go_enter Try.func20, Try.ntmps20
    go_wp2_with fail
    refine (left_calls p at_ l _ HR.out hn ha).mono ?_
    rintro e w1 ⟨rfl, k1, rfl⟩
    go_wp2
    go_ret
    exact ⟨rfl, _, rfl⟩
  · have d1 : decide (8 ≤ 8 * (l.length : Int) - (at_ : Int)) = false := decide_eq_false h8
    go_enter Try.func20, Try.ntmps20
    go_wp2_with fail
    refine (left_calls p at_ l _ HR.out hn ha).mono ?_
    rintro e w1 ⟨rfl, k1, rfl⟩
    go_wp2_with fail
    go_loopw [3] (fun v3 wr => ∃ (i k : Nat), i ≤ 8 * l.length - at_ ∧ v3 = .int .i64 ((at_ : Int) + i) ∧ Aside0 (∀ j, j < i → (bs_ l at_)[j]? = some false) ∧ Aside0 (wr = w.drewN k)) (fun v _ => 8 * l.length - (intOf v).toNat)
    case atStart => exact ⟨0, k1, by omega, by simp, ⟨by omega⟩, ⟨rfl⟩⟩
    case round =>
      obtain ⟨i, k, hi0, rfl, HI, HW⟩ := hrel
      obtain rfl := HW.out
      clear HW
      by_cases hlt : i < 8 * l.length - at_
      · have hbr := bitOf_range l (at_ + i)
        go_wp2_with fail
        refine (bit_calls p at_ l _ (HR.out.drewN _) _ (by omega) (by omega) HB.out hn).mono ?_
        rintro e w2 ⟨rfl, rfl⟩
        rw [show ((at_ : Int) + (i : Int)).toNat = at_ + i by omega]
        obtain ⟨b, hbq⟩ : ∃ b, b = bitOf l (at_ + i) := ⟨_, rfl⟩
        have HBQ := Aside0.mk hbq
        rw [← hbq] at hbr ⊢
        clear hbq
        by_cases hb0 : b = 1
        · have hbb : (b == 1) = true := by rw [hb0]; rfl
          have HB0 := Aside0.mk hb0
          clear hbr hb0
          go_wp2
          go_ret
          have hbit := bs_at l at_ i (by rw [HS0.out]; exact hlt)
          rw [← HBQ.out, HB0.out] at hbit
          rw [restOf_no (rest_bit (i := i) (by simpa using hbit))]
          exact ⟨rfl, _, rfl⟩
        · have hbb : (b == 1) = false := by simp [hb0]
          have HB0 := Aside0.mk (show b = 0 by omega)
          clear hbr hb0
          go_wp2
          go_roundw
          case rel =>
            refine ⟨i + 1, k, by omega, by simp; omega, ⟨fun j hj => ?_⟩, ⟨rfl⟩⟩
            by_cases e : j = i
            · subst e
              have hbit := bs_at l at_ j (by rw [HS0.out]; exact hlt)
              rw [← HBQ.out, HB0.out] at hbit
              simpa using hbit
            · exact HI.out j (by omega)
          case measure => simp [intOf]; omega
      · have HY := Aside0.mk (rest_yes (s := bs_ l at_) (by rw [HS0.out]; omega) (fun j hj => HI.out j (by rw [HS0.out] at hj; omega)))
        go_wp2
        go_ret
        rw [restOf_yes HY.out]
        exact ⟨rfl, _, rfl⟩
end Go.Proofs.Ytfanomllfgoakaa
