/- series.Cut and Free, walked. -/
import Derived.Test.YtnjdngjlbonieaaSerP
import Derived.Lib.Hide
import Derived.LoopTactic
import Derived.Outline
import Derived.Laws.Rows
import Derived.Laws.CopyOwn
import Derived.WalkKit
set_option linter.unusedVariables false
set_option linter.unusedSimpArgs false
namespace Go.Proofs.Ytnjdngjlbonieaa
open Go.RowKit Go.Proofs.YtnjdngjlbonieaaW.PrintWords Go.Proofs.YtnjdngjlbonieaaW.PrintLast Go.Proofs.YtnjdngjlbonieaaW.PrintMore
open Go.Proofs.Ytnjdngjlbonieaa.PRollWindows
attribute [local go_sem] max2_int min2_int max_two min_two max_three min_three max_four min_four

open RollOfPure
/-- Those that are not in a range. -/
def outR (a b : Int) (l : List S29) : List S29 := l.filter (fun x => !(decide (a ≤ x.f0) && decide (x.f0 < b)))
theorem outR_none {a b : Int} (h : b ≤ a) (l : List S29) : outR a b l = l := by
  unfold outR
  rw [List.filter_eq_self]
  intro x _
  simp
  omega
theorem outR_ris {l : List S29} (h : Ris l) (a b : Int) : Ris (outR a b l) := h.filter _
theorem outR_len (a b : Int) (l : List S29) : (outR a b l).length ≤ l.length := List.length_filter_le _ _
theorem outR_split {l : List S29} {a b : Int} {i k : Nat} (hi : IsPos l a i) (hk : IsPos l b k) (hab : a < b) : outR a b l = l.take i ++ l.drop k := by
  have hik := pos_le hab hi hk
  have hkl := hk.1
  unfold outR
  conv => lhs; rw [← List.take_append_drop i l]
  rw [List.filter_append, List.filter_eq_self.2 fun x hx => ?_]
  · congr 1
    have h1 := filter_split2 (l.drop i) (fun x => !(decide (a ≤ x.f0) && decide (x.f0 < b))) (k - i) (fun j x hj hx => by
      rw [List.getElem?_drop] at hx
      have h2 := hk.2.1 _ x (by omega) hx
      have h3 := hi.2.2 _ x (by omega) hx
      simp; omega) (fun j x hj hx => by
      rw [List.getElem?_drop] at hx
      have h2 := hk.2.2 _ x (by omega) hx
      simp; omega)
    rw [h1, List.drop_drop]
    congr 1
    omega
  · obtain ⟨j, hj⟩ := List.mem_iff_getElem?.1 hx
    rw [List.getElem?_take] at hj
    split at hj
    · have := hi.2.1 j x ‹_› hj
      simp; omega
    · cases hj
def CutPost (F : Nat → Prop) (p : Nat) (l : List S29) (a b : Int) (w : World) (e : Ending) (w' : World) : Prop :=
  e = .returned (.int .i64 ((inR a b l).length : Int)) ∧ IsSer (More F w w') p (outR a b l) w' ∧ Keep (fun b => b = p) w w'
set_option maxRecDepth 100000 in
set_option maxHeartbeats 16000000 in
theorem cut_calls (F : Nat → Prop) (p : Nat) (l : List S29) (a b : Int) (w : World) (hS : IsSer F p l w) :
    Calls Try.prog 23 #[.pointer (some ⟨p, 0, none⟩), .agg #[.int .i64 a, .int .i64 b]] w (CutPost F p l a b w) := by
  obtain ⟨A, ca, hp, ho, hC, hca⟩ := ser_parts hS
  have hl := hS.len
  have hu42 := Try.underlying42
  have hu91 := Try.underlying91
  have HSP := Lib.hid (fun W hc2 hC => span_calls p A ca l a b hS.ris W hc2 hC (by omega))
  have HS := Aside0.mk hS
  have HP := Aside0.mk hp
  have HC := Aside0.mk hC
  have HNIL := Lib.hid (show A = none → ca = 0 from fun e => by
    rcases ho.2 with ⟨e1, e2⟩ | ⟨g, c2, cur, e1, _⟩
    · injection e1
    · rw [e] at e1; injection e1 with e1; cases e1)
  clear hS hp ho hC hca
  go_enter Try.func23, Try.ntmps23
  go_wp2_with fail
  refine (HSP.out _ (bread_alloc (blk_cell HP.out 0) _) (Kd.C_alloc HC.out _)).mono ?_
  rintro e w1 ⟨i, k, hik, rfl, h1⟩
  have HIK := Aside0.mk hik
  have HB0 := Aside0.mk ((Below.refl w.heap.size w).alloc (Nat.le_refl _) (.cells #[.int .i64 a, .int .i64 b] 42))
  have HB1 := Aside0.mk (HB0.out.trans (h1.mono HB0.out.size))
  clear h1 hik HB0 HSP
  have hle : i ≤ k ∧ k ≤ l.length := by
    rcases HIK.out with ⟨_, h1, h2⟩ | ⟨h0, h1, h2⟩
    · omega
    · exact ⟨pos_le h0 h1 h2, h2.1⟩
  have hA : wrap64 ((k : Int) - (i : Int)) = (k : Int) - (i : Int) := by unfold wrap64; omega
  have HLEN := Aside0.mk (show ((inR a b l).length : Int) = (k : Int) - (i : Int) by
    rcases HIK.out with ⟨h1, rfl, rfl⟩ | ⟨h1, h2, h3⟩
    · rw [inR_none h1]; rfl
    · rw [inR_split h2 h3 h1, List.length_take, List.length_drop]; omega)
  by_cases hlt : i < k
  · have d1 : decide ((k : Int) > (i : Int)) = true := decide_eq_true (by omega)
    have d2 : decide (i < k) = true := decide_eq_true hlt
    have d3 : decide ((i : Int) < (k : Int)) = true := decide_eq_true (by omega)
    have HOUT := Aside0.mk (show outR a b l = l.take i ++ l.drop k by
      rcases HIK.out with ⟨h1, rfl, rfl⟩ | ⟨h1, h2, h3⟩
      · omega
      · exact outR_split h2 h3 h1)
    have HP1 := Aside0.mk (show w1.heap[p]? = _ from (HB1.out.block p (blk_lt HP.out)).trans HP.out)
    have q0 : w1.cell? ⟨p, 0, none⟩ = some (.slice A l.length ca) := blk_cell HP1.out 0
    have HCL := Aside0.mk (clone_calls A ca l w1 (Kd.C_below HC.out HB1.out) (by omega) HNIL.out)
    clear HC HP HNIL
    go_wp2_with fail
    refine HCL.out.mono ?_
    rintro e w2 ⟨v2, rfl, ho2, h2⟩
    obtain ⟨g, c2, cur, hv2, _⟩ := row_pos ho2 (by omega)
    subst hv2
    obtain ⟨L3, hL3⟩ : ∃ L, L = outR a b l := ⟨_, rfl⟩
    have hD := delete_calls w1.heap.size g c2 i k l w2 ho2 (by omega) hlt hle.2
    rw [← HOUT.out, ← hL3] at hD
    have HD := Aside0.mk hD
    have HL3 := Aside0.mk hL3
    clear hD hL3
    have HB2 := Aside0.mk (HB1.out.trans (h2.mono HB1.out.size))
    have HGW := Aside0.mk ((ho2.lt g rfl).1)
    have HP2 := Aside0.mk (show w2.heap[p]? = _ from (h2.block p (blk_lt HP1.out)).trans HP1.out)
    clear ho2 h2 HCL HP1 q0
    go_wp2_with fail
    refine HD.out.mono ?_
    rintro e w3 ⟨v3, rfl, ho3, hg3⟩
    obtain ⟨A3, c3, hv3⟩ := row_form ho3
    subst hv3
    have HB3 := Aside0.mk (HB2.out.grown hg3 HB2.out.size (fun q hq => by injection hq with hq; rw [← hq]; have := HGW.out; have := HB1.out.size; show w.heap.size ≤ g; omega))
    have HP3 := Aside0.mk (show w3.heap[p]? = some (.cells #[.slice A l.length ca] 91 (0, 0)) from (hg3.block p (blk_lt HP2.out) (fun e => by
      injection e with e
      have h1 := HGW.out
      have h2 : p < w.heap.size := by
        obtain ⟨v, h1, _⟩ := HS.out.row
        exact blk_lt h1
      have h3 := HB1.out.size
      have h4 : p = g := e
      omega)).trans HP2.out)
    have HO3 := Aside0.mk ho3
    have q0 : w3.cell? ⟨p, 0, none⟩ = some (.slice A l.length ca) := blk_cell HP3.out 0
    have x0 : w3.frozen? ⟨p, 0, none⟩ = false := blk_frozen HP3.out _
    clear ho3 hg3 HD HP2
    go_wp2
    go_ret
    refine ⟨by rw [HLEN.out]; rfl, ?_, ?_⟩
    · rw [← HL3.out]
      refine ⟨by rw [HL3.out]; exact outR_ris HS.out.ris _ _, by rw [HL3.out]; have := outR_len a b l; omega, .inl HS.out.own, _, by rw [show (#[Value.slice A3 L3.length c3] : Array Value) = (#[Value.slice A l.length ca] : Array Value).setIfInBounds 0 (Value.slice A3 L3.length c3) from rfl]; exact blk_set HP3.out 0 _, row_mono (own_cell HO3.out HP3.out (by decide) 0 _) (Nat.zero_le _), fun g hg => ?_⟩
      have h1 := HO3.out.lt g hg
      have h2 := HB1.out.size
      exact .inr ⟨by omega, by simpa [World.setCell] using h1.2⟩
    · exact Keep.setCell (S := fun b => b = p) ((Keep.of_below HB3.out).mono fun b hb h => by omega) (fun _ => rfl) _
  · have hik : i = k := by omega
    subst hik
    have d1 : decide ((i : Int) > (i : Int)) = false := decide_eq_false (by omega)
    have d2 : decide (i < i) = false := decide_eq_false hlt
    have d3 : decide ((i : Int) < (i : Int)) = false := decide_eq_false (by omega)
    have HOUT := Aside0.mk (show outR a b l = l by
      rcases HIK.out with ⟨h1, _, _⟩ | ⟨h1, h2, h3⟩
      · exact outR_none h1 l
      · rw [outR_split h2 h3 h1]; exact List.take_append_drop i l)
    go_wp2
    go_ret
    refine ⟨by rw [HLEN.out, Int.sub_self]; rfl, by rw [HOUT.out]; exact (HS.out.below HB1.out).mono fun b hb => .inl hb, (Keep.of_below HB1.out).mono fun b hb h => by omega⟩
set_option maxRecDepth 100000 in
set_option maxHeartbeats 16000000 in
theorem free_calls (F : Nat → Prop) (p : Nat) (l ps : List S29) (A2 : Option Addr) (ca2 : Nat) (w : World) (hS : IsSer F p l w) (hC : Kd.C k29 w A2 ps.length ps) (hps : ps.length ≤ 256) :
    Calls Try.prog 24 #[.pointer (some ⟨p, 0, none⟩), .slice A2 ps.length ca2] w fun e w' => e = .returned (.int .i64 (((putA l ps).length : Int) - (l.length : Int))) ∧ Below w.heap.size w w' := by
  obtain ⟨v, hp, ho, hv⟩ := hS.row
  have hle := putA_le ps l
  have hl := hS.len
  have HJ := Lib.hid (fun W (hb : Below w.heap.size w W) => joined_calls p v l ps A2 ca2 W ((hb.block p (blk_lt hp)).trans hp) (own_kept ho fun b hb2 => hb.block b (ho.lt b hb2).2) hS.ris hS.len (Kd.C_below hC hb) hps)
  obtain ⟨A, ca, rfl⟩ := row_form ho
  have q0 : w.cell? ⟨p, 0, none⟩ = some (.slice A l.length ca) := blk_cell hp 0
  have HB0 := Aside0.mk (show Below w.heap.size w w.drew from pw_below_drewN (Below.refl _ _) 1)
  have hn : ∀ W, (binOp .eql 35 (.pointer (some ⟨p, 0, none⟩)) (.pointer none)).run Try.prog W = .ok (.bool false) W := fun W => by go_simp
  have hw1 : wrap64 (((putA l ps).length : Int) - (l.length : Int)) = ((putA l ps).length : Int) - (l.length : Int) := by unfold wrap64; omega
  have hw2 : IntKind.i64.wrap (((putA l ps).length : Int) - (l.length : Int)) = ((putA l ps).length : Int) - (l.length : Int) := by rw [IntKind.wrap_i64]; omega
  have hu91 := Try.underlying91
  clear hS hC hp ho hv hle
  go_enter Try.func24, Try.ntmps24
  go_wp2_with fail
  refine start_ (n := 11) (S := fun w' => (w'.cell? ⟨p, 0, none⟩ = some (.slice A l.length ca))) (ds := []) #[false, false, false, false, false, false, false, false, false, false, false] (by kernel_rfl) rfl rfl (q0) (fun hHeld => ?_)
  refine pure_ (i := 0) (N := some 7) (v := ?_) (a' := ?_) #[true, false, false, false, false, false, false, false, false, false, false] rfl rfl (by kernel_rfl) (fun _ _ _ h => h) (Or.inl ⟨by rfl, ?_⟩) ?_ ?_
  rotate_left
  · intro w'
    go_simp
    with_reducible rfl
  rotate_left
  · simp only [Act.put, List.setIfInBounds_toArray, List.set_cons_zero, List.set_cons_succ, i64_w, i32_w]
    rfl
  refine pure_ (i := 1) (N := some 8) (v := ?_) (a' := ?_) #[true, true, false, false, false, false, false, false, false, false, false] rfl rfl (by kernel_rfl) (fun _ _ _ h => h) (Or.inl ⟨by rfl, ?_⟩) ?_ ?_
  rotate_left
  · intro w'
    go_simp
    with_reducible rfl
  rotate_left
  · simp only [Act.put, List.setIfInBounds_toArray, List.set_cons_zero, List.set_cons_succ, i64_w, i32_w]
    rfl
  refine pure_ (i := 4) (N := some 11) (v := ?_) (a' := ?_) #[true, true, false, false, true, false, false, false, false, false, false] rfl rfl (by kernel_rfl) (fun _ _ _ h => h) (Or.inl ⟨by rfl, ?_⟩) ?_ ?_
  rotate_left
  · intro w'
    go_simp
    with_reducible rfl
  rotate_left
  · simp only [Act.put, List.setIfInBounds_toArray, List.set_cons_zero, List.set_cons_succ, i64_w, i32_w]
    rfl
  refine pure_ (i := 5) (N := some 12) (v := ?_) (a' := ?_) #[true, true, false, false, true, true, false, false, false, false, false] rfl rfl (by kernel_rfl) (fun _ _ _ h => h) (Or.inl ⟨by rfl, ?_⟩) ?_ ?_
  rotate_left
  · intro w'
    go_simp
    with_reducible rfl
  rotate_left
  · simp only [Act.put, List.setIfInBounds_toArray, List.set_cons_zero, List.set_cons_succ, i64_w, i32_w]
    rfl
  refine pure_ (i := 6) (N := some 13) (v := ?_) (a' := ?_) #[true, true, false, false, true, true, true, false, false, false, false] rfl rfl (by kernel_rfl) (fun _ _ _ h => h) (Or.inl ⟨by rfl, ?_⟩) ?_ ?_
  rotate_left
  · intro w'
    go_simp
    with_reducible rfl
  rotate_left
  · simp only [Act.put, List.setIfInBounds_toArray, List.set_cons_zero, List.set_cons_succ, i64_w, i32_w]
    rfl
  refine take_ (i := 7) (N := some 14) (v := ?_) (a' := ?_) #[true, true, false, false, true, true, true, true, false, false, false] rfl rfl (by kernel_rfl) (fun _ _ _ h => h) (Or.inl ⟨by rfl, ?_⟩) hHeld ?_ ?_
  rotate_left
  · rintro w' s0
    go_simp
    with_reducible rfl
  rotate_left
  · simp only [Act.put, List.setIfInBounds_toArray, List.set_cons_zero, List.set_cons_succ, i64_w, i32_w]
    rfl
  refine pure_ (i := 8) (N := some 15) (v := ?_) (a' := ?_) #[true, true, false, false, true, true, true, true, true, false, false] rfl rfl (by kernel_rfl) (fun _ _ _ h => h) (Or.inl ⟨by rfl, ?_⟩) ?_ ?_
  rotate_left
  · intro w'
    go_simp
    with_reducible rfl
  rotate_left
  · simp only [Act.put, List.setIfInBounds_toArray, List.set_cons_zero, List.set_cons_succ, i64_w, i32_w]
    rfl
  refine one_ (i := 2) (N := some 9) #[true, true, true, false, true, true, true, true, true, false, false] rfl rfl (by kernel_rfl) (by decide) (fun K hK => ?_)
  refine goes_ Try.func61 (by kernel_rfl) rfl #[.pointer (some ⟨p, 0, none⟩), .slice A2 ps.length ca2] (by rfl) rfl rfl (by simp only [List.map_toArray, List.map_cons, List.map_nil]; rfl) ?_
  with_reducible refine (HJ.out _ HB0.out).mono ?_
  rintro e w2 ⟨v2, rfl, ho2, h2⟩
  have k0 := bread h2 hHeld
  have HO2 := Aside0.mk ho2
  have HB2 := Aside0.mk (HB0.out.trans (h2.mono HB0.out.size))
  obtain ⟨A2, c2, hA2⟩ := row_form HO2.out
  subst hA2
  clear ho2 h2
  refine ⟨_, rfl, ?_⟩
  refine hK.out _ _ (k0) (fun hHeld => ?_)
  clear hK K
  refine norm_ (a' := ?_) ?_ ?_
  rotate_left
  · show Act.put _ (some 9) _ = _
    simp only [Act.put, List.setIfInBounds_toArray, List.set_cons_zero, List.set_cons_succ, i64_w, i32_w]
    rfl
  refine pure_ (i := 3) (N := some 10) (v := ?_) (a' := ?_) #[true, true, true, true, true, true, true, true, true, false, false] rfl rfl (by kernel_rfl) (fun _ _ _ h => h) (Or.inl ⟨by rfl, ?_⟩) ?_ ?_
  rotate_left
  · intro w'
    go_simp
    with_reducible rfl
  rotate_left
  · simp only [Act.put, List.setIfInBounds_toArray, List.set_cons_zero, List.set_cons_succ, i64_w, i32_w]
    rfl
  refine pure_ (i := 9) (N := some 16) (v := ?_) (a' := ?_) #[true, true, true, true, true, true, true, true, true, true, false] rfl rfl (by kernel_rfl) (fun _ _ _ h => h) (Or.inl ⟨by rfl, ?_⟩) ?_ ?_
  rotate_left
  · intro w'
    go_simp
    with_reducible rfl
  rotate_left
  · simp only [Act.put, List.setIfInBounds_toArray, List.set_cons_zero, List.set_cons_succ, i64_w, i32_w]
    rfl
  refine pure_ (i := 10) (N := some 4) (v := ?_) (a' := ?_) #[true, true, true, true, true, true, true, true, true, true, true] rfl rfl (by kernel_rfl) (fun _ _ _ h => h) (Or.inl ⟨by rfl, ?_⟩) ?_ ?_
  rotate_left
  · intro w'
    go_simp
    with_reducible rfl
  rotate_left
  · simp only [Act.put, List.setIfInBounds_toArray, List.set_cons_zero, List.set_cons_succ, i64_w, i32_w]
    rfl
  refine done_ (by kernel_rfl) ?_
  go_wp2
  go_ret
  exact ⟨rfl, HB2.out⟩
end Go.Proofs.Ytnjdngjlbonieaa
