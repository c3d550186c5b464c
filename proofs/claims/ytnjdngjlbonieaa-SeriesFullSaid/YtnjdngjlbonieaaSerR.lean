/- The law SeriesAgain, walked. -/
import Derived.Test.YtnjdngjlbonieaaSerQ
import Derived.Lib.Hide
import Derived.LoopTactic
import Derived.Outline
import Derived.Laws.Rows
import Derived.Laws.CopyOwn
import Derived.WalkKit
set_option linter.unusedVariables false
set_option linter.unusedSimpArgs false
namespace Go.Proofs.Ytnjdngjlbonieaa
open Go.RowKit Go.Proofs.YtnjdngjlbonieaaW.PrintWords Go.Proofs.YtnjdngjlbonieaaW.PrintLast Go.Proofs.YtnjdngjlbonieaaW.PrintMore
open Go.Proofs.Ytnjdngjlbonieaa.PRollWindows
attribute [local go_sem] max2_int min2_int max_two min_two max_three min_three max_four min_four

open RollOfPure
theorem mem_putA_snoc {l ps : List S29} {p x : S29} : x ∈ putA l (ps ++ [p]) ↔ x = p ∨ (x ∈ putA l ps ∧ x.f0 ≠ p.f0) := by rw [putA_snoc]; exact mem_putL
theorem snoc_ind {α : Type} {P : List α → Prop} (h0 : P []) (h1 : ∀ l a, P l → P (l ++ [a])) (l : List α) : P l := by
  have : ∀ (n : Nat) (l : List α), l.length = n → P l := by
    intro n
    induction n with
    | zero => intro l hl; rw [List.length_eq_zero_iff.1 hl]; exact h0
    | succ n ih =>
      intro l hl
      have hne : l ≠ [] := by intro e; subst e; simp at hl
      rw [← List.dropLast_concat_getLast hne]
      exact h1 _ _ (ih _ (by simp [hl]))
  exact this _ _ rfl
theorem mem_putA {l ps : List S29} {x : S29} : x ∈ putA l ps ↔ x ∈ putA [] ps ∨ (x ∈ l ∧ ∀ p ∈ ps, p.f0 ≠ x.f0) := by
  induction ps using snoc_ind with
  | h0 => simp [putA]
  | h1 ps p ih =>
    rw [mem_putA_snoc, mem_putA_snoc, ih]
    constructor
    · rintro (h | ⟨h | ⟨h1, h2⟩, h3⟩)
      · exact .inl (.inl h)
      · exact .inl (.inr ⟨h, h3⟩)
      · refine .inr ⟨h1, fun q hq => ?_⟩
        rcases List.mem_append.1 hq with h | h
        · exact h2 q h
        · rw [List.mem_singleton.1 h]; exact fun e => h3 e.symm
    · rintro ((h | ⟨h, h3⟩) | ⟨h1, h2⟩)
      · exact .inl h
      · exact .inr ⟨.inl h, h3⟩
      · exact .inr ⟨.inr ⟨h1, fun q hq => h2 q (List.mem_append_left _ hq)⟩, fun e => h2 p (List.mem_append_right _ List.mem_cons_self) e.symm⟩
theorem mem_of_putA {ps : List S29} {x : S29} (h : x ∈ putA [] ps) : x ∈ ps := by
  induction ps using snoc_ind with
  | h0 => exact h
  | h1 ps p ih =>
    rw [mem_putA_snoc] at h
    rcases h with h | ⟨h, _⟩
    · subst h; simp
    · exact List.mem_append_left _ (ih h)
theorem putA_self (ps : List S29) : putA (putA [] ps) ps = putA [] ps := by
  refine ris_ext (ris_putA (ris_putA List.Pairwise.nil)) (ris_putA List.Pairwise.nil) fun x => ?_
  rw [mem_putA]
  constructor
  · rintro (h | ⟨h, _⟩) <;> exact h
  · exact fun h => .inl h
theorem putA_ris {ps : List S29} (h : Ris ps) : putA [] ps = ps := by
  refine ris_ext (ris_putA List.Pairwise.nil) h fun x => ⟨mem_of_putA, fun hx => ?_⟩
  induction ps using snoc_ind with
  | h0 => exact hx
  | h1 ps p ih =>
    have h2 := List.pairwise_append.1 h
    rw [mem_putA_snoc]
    rcases List.mem_append.1 hx with h1 | h1
    · exact .inr ⟨ih h2.1 h1, by have := h2.2.2 x h1 p List.mem_cons_self; omega⟩
    · exact .inl (List.mem_singleton.1 h1)
theorem putA_back {l : List S29} (h : Ris l) (a b : Int) : putA (outR a b l) (inR a b l) = l := by
  refine ris_ext (ris_putA (outR_ris h _ _)) h fun x => ?_
  rw [mem_putA, putA_ris (inR_ris h _ _)]
  unfold inR outR
  simp only [List.mem_filter, Bool.and_eq_true, decide_eq_true_eq, Bool.not_eq_true', Bool.and_eq_false_iff, decide_eq_false_iff_not]
  constructor
  · rintro (h | ⟨h, _⟩)
    · exact h.1
    · exact h.1
  · intro hx
    by_cases hc : a ≤ x.f0 ∧ x.f0 < b
    · exact .inl ⟨hx, hc⟩
    · refine .inr ⟨⟨hx, by omega⟩, fun p hp e => ?_⟩
      omega
theorem in_out_len (a b : Int) (l : List S29) : (inR a b l).length + (outR a b l).length = l.length := by
  unfold inR outR
  induction l with
  | nil => rfl
  | cons x r ih =>
    rw [List.filter_cons, List.filter_cons]
    cases hb : (decide (a ≤ x.f0) && decide (x.f0 < b)) with
    | true => rw [if_pos rfl, if_neg (by simp)]; simp only [List.length_cons]; omega
    | false => rw [if_neg (by simp), if_pos (by simp)]; simp only [List.length_cons]; omega
/-- Ticks that may be. -/
def TickOk (l : List S29) : Prop := ∀ x ∈ l, 0 ≤ x.f0 ∧ x.f0 ≤ 1099511627776
theorem out_iff {l : List S29} : (l.any fun x => outB x.f0) = false ↔ TickOk l := by
  rw [List.any_eq_false]
  unfold TickOk outB
  constructor
  · intro h x hx
    have := h x hx
    simp at this
    omega
  · intro h x hx
    have := h x hx
    simp
    omega
theorem inR_all {l : List S29} (h : TickOk l) {b : Int} (hb : 1099511627776 < b) : inR 0 b l = l := by
  unfold inR
  rw [List.filter_eq_self]
  intro x hx
  have := h x hx
  simp
  omega
theorem putS_ok {l ps : List S29} (h : TickOk ps) (hl : (putA l ps).length ≤ 256) : putS l ps = (putA l ps, ((putA l ps).length : Int) - (l.length : Int), 0) := by
  unfold putS
  rw [if_neg (by rw [out_iff.2 h]; simp), if_neg (by omega)]
theorem putS_cases (l ps : List S29) : (putS l ps = (l, 0, 3) ∧ ¬ TickOk ps) ∨ (putS l ps = (l, 0, 6) ∧ TickOk ps ∧ 256 < (putA l ps).length) ∨ (TickOk ps ∧ (putA l ps).length ≤ 256 ∧ putS l ps = (putA l ps, ((putA l ps).length : Int) - (l.length : Int), 0)) := by
  by_cases h : TickOk ps
  · by_cases hl : 256 < (putA l ps).length
    · refine .inr (.inl ⟨?_, h, hl⟩)
      unfold putS
      rw [if_neg (by rw [out_iff.2 h]; simp), if_pos hl]
    · exact .inr (.inr ⟨h, by omega, putS_ok h (by omega)⟩)
  · refine .inl ⟨?_, h⟩
    unfold putS
    rw [if_pos]
    cases hc : (ps.any fun x => outB x.f0) with
    | true => rfl
    | false => exact absurd (out_iff.1 hc) h
set_option maxRecDepth 100000 in
set_option maxHeartbeats 16000000 in
theorem law6_calls (A : Option Addr) (ca : Nat) (l : List S29) (a b : Int) (w : World) (h : Kd.C k29 w A l.length l) :
    Calls Try.prog 6 #[.slice A l.length ca, .agg #[.int .i64 a, .int .i64 b]] w (TPost5 w) := by
  have HL := Aside0.mk h
  have hlm := h.2.1
  have HLV := Lib.hid lives14_calls
  have hu42 := Try.underlying42
  obtain ⟨W0, hW0⟩ : ∃ W, W = w.alloc (.cells #[.int .i64 a, .int .i64 b] 42) := ⟨_, rfl⟩
  obtain ⟨Q, hQ⟩ : ∃ Q, Q = w.heap.size := ⟨_, rfl⟩
  have HB0 := Aside0.mk (show Below w.heap.size w W0 by rw [hW0]; exact (Below.refl _ _).alloc (Nat.le_refl _) _)
  have HQ0 := Aside0.mk (show W0.heap[Q]? = some (.cells #[.int .i64 a, .int .i64 b] 42 (0, 0)) by rw [hW0, hQ]; exact blk_new w _)
  have HQ := Aside0.mk hQ
  clear h
  by_cases hl : l.length ≤ 60
  · have d0 : decide ((60 : Int) < (l.length : Int)) = false := decide_eq_false (by omega)
    have d0' : decide ((l.length : Int) > (60 : Int)) = false := decide_eq_false (by omega)
    have d0n : decide (60 < l.length) = false := decide_eq_false (by omega)
    go_enter Try.func6, Try.ntmps6
    go_upto_region 1 with (fail)
    rw [← hW0, ← hQ]
    clear hW0 hQ
    go_wp2_with fail
    refine (HLV.out _).mono ?_
    rintro e w1 ⟨rfl, h1⟩
    have HB1 := Aside0.mk (HB0.out.trans (h1.mono HB0.out.size))
    have HQ1 := Aside0.mk (show w1.heap[Q]? = _ from (h1.block Q (blk_lt HQ0.out)).trans HQ0.out)
    clear h1 HB0 HQ0
    go_wp2_with fail
    refine (new_calls _).mono ?_
    rintro e w2 ⟨rfl, hs, hb, hz⟩
    have HB2 := Aside0.mk (HB1.out.trans (hb.mono HB1.out.size))
    have HQ2 := Aside0.mk (show w2.heap[Q]? = _ from (hb.block Q (blk_lt HQ1.out)).trans HQ1.out)
    obtain ⟨p, hp⟩ : ∃ p, p = w1.heap.size := ⟨_, rfl⟩
    have HPQ := Aside0.mk (show p ≠ Q by have := blk_lt HQ1.out; omega)
    have HPW := Aside0.mk (show w.heap.size ≤ p by rw [hp]; exact HB1.out.size)
    rw [← hp] at hs ⊢
    have HPUT := Aside0.mk (put_calls _ _ _ l A ca w2 hs (Kd.C_below HL.out HB2.out) (by omega))
    have HS2 := Aside0.mk hs
    clear hs hb hz HB1 HQ1 hp
    go_wp2_with fail
    refine HPUT.out.mono ?_
    rintro e w3 ⟨rfl, hs, hk⟩
    have HB3 := Aside0.mk (Keep.below_trans HB2.out hk (fun b _ hb => by rw [hb]; exact HPW.out) (Nat.le_refl _))
    have HQ3 := Aside0.mk (show w3.heap[Q]? = _ from hk.blk HQ2.out HPQ.out.symm)
    have HC3 := Aside0.mk (Kd.C_below HL.out HB3.out)
    have HS3 := Aside0.mk hs
    clear hs hk HPUT HQ2 HB2
    rcases putS_cases [] l with ⟨he, _⟩ | ⟨he, _⟩ | ⟨htk, hlen, he⟩
    · rw [he] at HS3 ⊢
      have HLN := Aside0.mk (len_ser _ p [] w3 HS3.out)
      clear he
      go_wp2_with fail
      refine HLN.out.mono ?_
      rintro e w4 ⟨rfl, h4⟩
      have HB4 := Aside0.mk (HB3.out.trans (h4.mono HB3.out.size))
      clear h4
      go_wp2
      go_ret
      exact ⟨rfl, HB4.out⟩
    · rw [he] at HS3 ⊢
      have HLN := Aside0.mk (len_ser _ p [] w3 HS3.out)
      clear he
      go_wp2_with fail
      refine HLN.out.mono ?_
      rintro e w4 ⟨rfl, h4⟩
      have HB4 := Aside0.mk (HB3.out.trans (h4.mono HB3.out.size))
      clear h4
      go_wp2
      go_ret
      exact ⟨rfl, HB4.out⟩
    · obtain ⟨L, hLe⟩ : ∃ L, L = putA [] l := ⟨_, rfl⟩
      have hLr : Ris L := by rw [hLe]; exact ris_putA List.Pairwise.nil
      have hLt : TickOk L := by rw [hLe]; exact fun x hx => htk x (mem_of_putA hx)
      have hLl : L.length ≤ 60 := by have := putA_le l []; rw [← hLe, List.length_nil] at this; omega
      rw [← hLe] at he hlen
      rw [he] at HS3 ⊢
      have e1 : ((L.length : Int) - (([] : List S29).length : Int)) = (L.length : Int) := by simp
      have HA2 := Aside0.mk (show putS L l = (L, 0, 0) by rw [putS_ok htk (by rw [hLe, putA_self, ← hLe]; exact hlen), hLe, putA_self, Int.sub_self])
      have HA3 := Aside0.mk (show putS (outR a b L) (inR a b L) = (L, ((inR a b L).length : Int), 0) by
        have := in_out_len a b L
        rw [putS_ok (l := outR a b L) (ps := inR a b L) (fun x hx => hLt x (List.mem_filter.1 hx).1) (by rw [putA_back hLr]; omega), putA_back hLr]
        have e : (L.length : Int) - ((outR a b L).length : Int) = ((inR a b L).length : Int) := by omega
        rw [e])
      have HA4 := Aside0.mk (show inR 0 2199023255552 L = L from inR_all hLt (by decide))
      have HA5 := Aside0.mk (show (putA L l).length = L.length by rw [hLe, putA_self])
      have hlin := inR_len a b L
      clear he hLr hLt hlen hLe
      simp only [e1]
      clear e1
      have HPUT := Aside0.mk (put_calls _ _ _ l A ca w3 HS3.out HC3.out (by omega))
      clear HS3 HC3 htk HS2
      go_wp2_with fail
      refine HPUT.out.mono ?_
      rintro e w4 ⟨rfl, hs, hk⟩
      rw [HA2.out] at hs ⊢
      have HS4 := Aside0.mk hs
      have HB4 := Aside0.mk (Keep.below_trans HB3.out hk (fun b _ hb => by rw [hb]; exact HPW.out) (Nat.le_refl _))
      have HQ4 := Aside0.mk (show w4.heap[Q]? = _ from hk.blk HQ3.out HPQ.out.symm)
      clear hs hk HPUT HQ3 HB3
      go_wp2_with fail
      refine (get_ser _ _ L 0 2199023255552 w4 HS4.out).mono ?_
      rintro e w5 ⟨v5, rfl, ho5, h5⟩
      rw [HA4.out] at ho5
      obtain ⟨A5, c5, hv5⟩ := row_form ho5
      subst hv5
      have HB5 := Aside0.mk (HB4.out.trans (h5.mono HB4.out.size))
      have HS5 := Aside0.mk (HS4.out.below h5)
      have HQ5 := Aside0.mk (show w5.heap[Q]? = _ from (h5.block Q (blk_lt HQ4.out)).trans HQ4.out)
      have HO5 := Aside0.mk (row_mono ho5 (Nat.zero_le _))
      have q0 : w5.cell? ⟨Q, 0, none⟩ = some (.int .i64 a) := blk_cell HQ5.out 0
      have q1 : w5.cell? ⟨Q, 1, none⟩ = some (.int .i64 b) := blk_cell HQ5.out 1
      clear ho5 h5 HQ4 HB4 HS4
      go_wp2_with fail
      refine (get_ser _ _ L a b w5 HS5.out).mono ?_
      rintro e w6 ⟨v6, rfl, ho6, h6⟩
      obtain ⟨A6, c6, hv6⟩ := row_form ho6
      subst hv6
      have HB6 := Aside0.mk (HB5.out.trans (h6.mono HB5.out.size))
      have HS6 := Aside0.mk (HS5.out.below h6)
      have HQ6 := Aside0.mk (show w6.heap[Q]? = _ from (h6.block Q (blk_lt HQ5.out)).trans HQ5.out)
      have HO6a := Aside0.mk (own_kept (w' := w6) HO5.out fun q hq => h6.block q (HO5.out.lt q hq).2)
      have HO6b := Aside0.mk (row_mono ho6 (Nat.zero_le _))
      clear ho6 h6 HQ5 HB5 HS5 HO5 q0 q1
      have q0 : w6.cell? ⟨Q, 0, none⟩ = some (.int .i64 a) := blk_cell HQ6.out 0
      have q1 : w6.cell? ⟨Q, 1, none⟩ = some (.int .i64 b) := blk_cell HQ6.out 1
      have HPT := Aside0.mk (show ∃ v, w6.heap[p]? = some (.cells #[v] 91 (0, 0)) from by obtain ⟨v, h, _⟩ := HS6.out.row; exact ⟨v, h⟩)
      go_wp2_with fail
      refine (cut_calls _ _ L a b w6 HS6.out).mono ?_
      rintro e w7 ⟨rfl, hs, hk⟩
      have HS7 := Aside0.mk hs
      have HB7 := Aside0.mk (Keep.below_trans HB6.out hk (fun b _ hb => by rw [hb]; exact HPW.out) (Nat.le_refl _))
      have HO7a := Aside0.mk (hk.row HO6a.out (fun g hg e => by obtain ⟨v, hv⟩ := HPT.out; exact row_ne HO6a.out hv (by decide) (by rw [hg, e])))
      have HO7b := Aside0.mk (hk.row HO6b.out (fun g hg e => by obtain ⟨v, hv⟩ := HPT.out; exact row_ne HO6b.out hv (by decide) (by rw [hg, e])))
      clear hs hk HQ6 HB6 HS6 HO6a HO6b q0 q1 HPT
      have HPUT := Aside0.mk (put_calls _ _ _ (inR a b L) A6 c6 w7 HS7.out (kdC_of HO7b.out (by omega)).1 (by omega))
      have HPT := Aside0.mk (show ∃ v, w7.heap[p]? = some (.cells #[v] 91 (0, 0)) from by obtain ⟨v, h, _⟩ := HS7.out.row; exact ⟨v, h⟩)
      clear HO7b HS7
      go_wp2_with fail
      refine HPUT.out.mono ?_
      rintro e w8 ⟨rfl, hs, hk⟩
      rw [HA3.out] at hs ⊢
      have HS8 := Aside0.mk hs
      have HB8 := Aside0.mk (Keep.below_trans HB7.out hk (fun b _ hb => by rw [hb]; exact HPW.out) (Nat.le_refl _))
      have HO8 := Aside0.mk (hk.row HO7a.out (fun g hg e => by obtain ⟨v, hv⟩ := HPT.out; exact row_ne HO7a.out hv (by decide) (by rw [hg, e])))
      clear hs hk HPUT HO7a HB7 HPT
      have t1 : ((L.length : Int) == (L.length : Int)) = true := beq_self_eq_true _
      have t2 : (((inR a b L).length : Int) == ((inR a b L).length : Int)) = true := beq_self_eq_true _
      go_wp2_with fail
      refine (get_ser _ _ L 0 2199023255552 w8 HS8.out).mono ?_
      rintro e w9 ⟨v9, rfl, ho9, h9⟩
      rw [HA4.out] at ho9
      obtain ⟨A9, c9, hv9⟩ := row_form ho9
      subst hv9
      have HB9 := Aside0.mk (HB8.out.trans (h9.mono HB8.out.size))
      have HS9 := Aside0.mk (HS8.out.below h9)
      have ho9b := own_kept (w' := w9) HO8.out fun q hq => h9.block q (HO8.out.lt q hq).2
      have HSAME := Aside0.mk (same_true A9 A5 c9 c5 L w9 (kdC_of ho9 (by omega)).1 (kdC_of ho9b (by omega)).1 (by omega))
      clear ho9 h9 HO8 HB8 HS8 ho9b
      go_wp2_with fail
      refine HSAME.out.mono ?_
      rintro e w10 ⟨rfl, h10⟩
      have HB10 := Aside0.mk (HB9.out.trans (h10.mono HB9.out.size))
      have HS10 := Aside0.mk (HS9.out.below h10)
      clear h10 HSAME HB9 HS9
      have HFR := Aside0.mk (free_calls _ _ L l A ca w10 HS10.out (Kd.C_below HL.out HB10.out) (by omega))
      go_wp2_with fail
      refine HFR.out.mono ?_
      rintro e w11 ⟨rfl, h11⟩
      rw [HA5.out, Int.sub_self]
      have HB11 := Aside0.mk (HB10.out.trans (h11.mono HB10.out.size))
      clear h11 HFR
      go_wp2
      go_ret
      exact ⟨rfl, HB11.out⟩
  · have d0 : decide ((60 : Int) < (l.length : Int)) = true := decide_eq_true (by omega)
    have d0' : decide ((l.length : Int) > (60 : Int)) = true := decide_eq_true (by omega)
    have d0n : decide (60 < l.length) = true := decide_eq_true (by omega)
    go_enter Try.func6, Try.ntmps6
    go_upto_region 1 with (fail)
    rw [← hW0]
    clear hW0 hQ
    go_wp2_with fail
    refine (HLV.out _).mono ?_
    rintro e w1 ⟨rfl, h1⟩
    have HB1 := Aside0.mk (HB0.out.trans (h1.mono HB0.out.size))
    clear h1
    go_wp2_with fail
    refine (HLV.out _).mono ?_
    rintro e w2 ⟨rfl, h2⟩
    have HB2 := Aside0.mk (HB1.out.trans (h2.mono HB1.out.size))
    clear h2
    go_wp2
    go_ret
    exact ⟨rfl, HB2.out⟩
theorem SeriesAgainWalk.walk (A1 : Option Addr) (len1 cap1 : Nat) (l1 : List S29) (a b : Int) (W : World)
    (hr1 : ReadsRow (fun (p : S29) c => c = [.int .i64 p.f0, .int .i64 p.f1]) 2 W A1 len1 l1) (hc1 : len1 ≤ cap1) (hq1 : ∀ p ∈ l1, (Lit.int .i64 p.f0).wf = true ∧ (Lit.int .i64 p.f1).wf = true) (_ : (Lit.int .i64 a).wf = true) (_ : (Lit.int .i64 b).wf = true) :
    Calls Try.prog 6 #[.slice A1 len1 cap1, .agg #[.int .i64 a, .int .i64 b]] W fun e w' => e = .returned (.bool true) ∧ Below W.heap.size W w' := by
  obtain ⟨rfl, hC⟩ := reads_C hr1
  exact law6_calls A1 cap1 l1 a b W hC
end Go.Proofs.Ytnjdngjlbonieaa
