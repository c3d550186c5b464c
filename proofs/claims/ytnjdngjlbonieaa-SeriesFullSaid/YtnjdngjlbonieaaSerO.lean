/- The law SeriesParts, walked. -/
import Derived.Test.YtnjdngjlbonieaaSerN
import Derived.Maps.AppendAt
import Derived.Lib.Hide
import Derived.LoopTactic
import Derived.Outline
import Derived.Laws.Rows
import Derived.Laws.CopyOwn
import Derived.WalkKit
set_option linter.unusedVariables false
set_option linter.unusedSimpArgs false
namespace Go.Proofs.Ytnjdngjlbonieaa
open Go.RowKit Go.Proofs.YtnjdngjlbonieaaW.PrintWords Go.Proofs.YtnjdngjlbonieaaW.PrintLast Go.Proofs.YtnjdngjlbonieaaW.PrintMore
open Go.Proofs.Ytnjdngjlbonieaa.PRollWindows
attribute [local go_sem] max2_int min2_int max_two min_two max_three min_three max_four min_four

open RollOfPure
/-- append of a row to a row of the call's own. -/
theorem app29 (W : World) (B B2 : Nat) (v u : Value) (l k : List S29) (hv : W.ownsRow B 29 2 v l.length (l.flatMap cellsP)) (hu : W.ownsRow B2 29 2 u k.length (k.flatMap cellsP)) (hs : l.length + k.length ≤ 1000) (hB : B ≤ W.heap.size) :
    ∃ v' w', (Builtin.append_ #[22, 22] 22 #[v, u]).run Try.prog W = .ok v' w' ∧ w'.ownsRow B 29 2 v' (l ++ k).length ((l ++ k).flatMap cellsP) ∧ W.grownBy w' v.ownBlock ∧ (v'.ownBlock = v.ownBlock ∨ v'.ownBlock = some W.heap.size) := by
  obtain ⟨i29, hi29, z0, z1, z2⟩ := info_parts info29
  rcases hu.2 with ⟨rfl, h0⟩ | ⟨g, c, cur, rfl, hg⟩
  · have hk : k = [] := List.length_eq_zero_iff.1 h0
    subst hk
    refine ⟨v, W, ?_, by simpa using hv, ⟨rfl, rfl, rfl, Nat.le_refl _, fun _ _ _ => rfl⟩, .inl rfl⟩
    rcases hv.2 with ⟨rfl, _⟩ | ⟨g, cap, cur, rfl, _, _, hnc, _⟩
    · simp [Builtin.append_, run_underlying Try.underlying22, sizeOf, typeInfo, hi29, Builtin.lenOf, Builtin.firstCells]
    · simp [Builtin.append_, run_underlying Try.underlying22, sizeOf, typeInfo, hi29, Builtin.lenOf, Builtin.firstCells, hnc, storeCells]
  · obtain ⟨v', w', h1, h2, h3, _, h5⟩ := run_append_own_at (P := Try.prog) W B 22 22 29 i29 _ 2 16 Try.underlying22 hi29 z0 z1 z2 rfl (by decide) v l.length (l.flatMap cellsP) hv ⟨g, 0, none⟩ k.length c (k.flatMap cellsP) (flat_len k) (hu.cells rfl) (one_cells k) (by unfold maxLen; omega) (by omega) hB
    exact ⟨v', w', h1, by rw [List.length_append, List.flatMap_append]; exact h2, h3, h5⟩
theorem parts_split {l : List S29} (hr : Ris l) {a b c : Int} (h1 : a ≤ b) (h2 : b ≤ c) : inR a b l ++ inR b c l = inR a c l := by
  refine ris_ext ?_ (inR_ris hr _ _) fun x => ?_
  · unfold Ris
    rw [List.pairwise_append]
    refine ⟨inR_ris hr _ _, inR_ris hr _ _, fun x hx y hy => ?_⟩
    have h3 := (List.mem_filter.1 hx).2
    have h4 := (List.mem_filter.1 hy).2
    simp at h3 h4
    omega
  · simp only [inR, List.mem_append, List.mem_filter, Bool.and_eq_true, decide_eq_true_eq]
    constructor
    · rintro (⟨h, h3⟩ | ⟨h, h3⟩)
      · exact ⟨h, by omega⟩
      · exact ⟨h, by omega⟩
    · rintro ⟨h, h3⟩
      by_cases h4 : x.f0 < b
      · exact .inl ⟨h, by omega⟩
      · exact .inr ⟨h, by omega⟩
/-- True, and nothing below has changed. -/
def TPost5 (w : World) (e : Ending) (w' : World) : Prop := e = .returned (.bool true) ∧ Below w.heap.size w w'
set_option maxRecDepth 100000 in
set_option maxHeartbeats 16000000 in
theorem law5_calls (A : Option Addr) (ca : Nat) (l : List S29) (a b c : Int) (w : World) (h : Kd.C k29 w A l.length l) :
    Calls Try.prog 5 #[.slice A l.length ca, .int .i64 a, .int .i64 b, .int .i64 c] w (TPost5 w) := by
  have HL := Aside0.mk h
  have hlm := h.2.1
  have HLV := Lib.hid lives14_calls
  have hu42 := Try.underlying42
  clear h
  by_cases hl : l.length ≤ 60
  · have d0 : decide ((60 : Int) < (l.length : Int)) = false := decide_eq_false (by omega)
    have d0' : decide ((l.length : Int) > (60 : Int)) = false := decide_eq_false (by omega)
    have d0n : decide (60 < l.length) = false := decide_eq_false (by omega)
    go_enter Try.func5, Try.ntmps5
    go_wp2_with fail
    refine (HLV.out _).mono ?_
    rintro e w1 ⟨rfl, h1⟩
    have HB1 := Aside0.mk (show Below w.heap.size w w1 from h1)
    clear h1
    go_wp2_with fail
    refine (new_calls _).mono ?_
    rintro e w2 ⟨rfl, hs, hb, hz⟩
    have HB2 := Aside0.mk (HB1.out.trans (hb.mono HB1.out.size))
    have HPUT := Aside0.mk (put_calls _ _ _ l A ca w2 hs (Kd.C_below HL.out HB2.out) (by omega))
    clear hs hb hz HL
    go_wp2_with fail
    refine HPUT.out.mono ?_
    rintro e w3 ⟨rfl, hs, hk⟩
    have HB3 := Aside0.mk (Keep.below_trans HB2.out hk (fun b _ hb => by rw [hb]; exact HB1.out.size) (Nat.le_refl _))
    have HS3 := Aside0.mk hs
    clear hs hk HPUT
    have hlen : (putS [] l).1.length ≤ 60 := by
      have h1 := putA_le l []
      rw [List.length_nil] at h1
      unfold putS
      split
      · exact Nat.zero_le _
      · split
        · exact Nat.zero_le _
        · show (putA [] l).length ≤ 60; omega
    obtain ⟨L, hL⟩ : ∃ L, L = (putS [] l).1 := ⟨_, rfl⟩
    obtain ⟨k, hk⟩ : ∃ k, k = (putS [] l).2.1 := ⟨_, rfl⟩
    obtain ⟨er, her⟩ : ∃ er, er = (putS [] l).2.2 := ⟨_, rfl⟩
    rw [← hL] at HS3 hlen
    rw [← hk, ← her]
    clear hL hk her
    by_cases her : er = 0
    · subst her
      by_cases hab : b < a
      · have d1 : decide (b < a) = true := decide_eq_true hab
        have d2 : decide (a > b) = true := decide_eq_true hab
        go_wp2
        go_ret
        exact ⟨rfl, HB3.out⟩
      · have d1 : decide (b < a) = false := decide_eq_false hab
        have d2 : decide (a > b) = false := decide_eq_false hab
        by_cases hbc : c < b
        · have d3 : decide (c < b) = true := decide_eq_true hbc
          have d4 : decide (b > c) = true := decide_eq_true hbc
          go_wp2
          go_ret
          exact ⟨rfl, HB3.out⟩
        · have d3 : decide (c < b) = false := decide_eq_false hbc
          have d4 : decide (b > c) = false := decide_eq_false hbc
          go_wp2_with fail
          refine (get_ser _ _ L a b w3 HS3.out).mono ?_
          rintro e w4 ⟨vx, rfl, hox, h4⟩
          have HB4 := Aside0.mk (HB3.out.trans (h4.mono HB3.out.size))
          have HS4 := Aside0.mk (HS3.out.below h4)
          have HX4 := Aside0.mk (row_mono hox HB3.out.size)
          clear hox h4 HS3
          go_wp2_with fail
          refine (get_ser _ _ L b c w4 HS4.out).mono ?_
          rintro e w5 ⟨vy, rfl, hoy, h5⟩
          have HB5 := Aside0.mk (HB4.out.trans (h5.mono HB4.out.size))
          have HS5 := Aside0.mk (HS4.out.below h5)
          have HX5 := Aside0.mk (show w5.ownsRow w.heap.size 29 2 vx (inR a b L).length ((inR a b L).flatMap cellsP) from own_kept HX4.out fun q hq => h5.block q (HX4.out.lt q hq).2)
          have HY5 := Aside0.mk (row_mono hoy HB4.out.size)
          clear hoy h5 HS4 HX4
          have hlx := inR_len a b L
          have hly := inR_len b c L
          have hsz := HB5.out.size
          have hO0 : (w5.alloc (.cells #[] 29)).ownsRow w.heap.size 29 2 (.slice (some ⟨w5.heap.size, 0, none⟩) 0 0) 0 [] := World.ownsRow_made (size := 2) (e := 29) (base := w.heap.size) w5 #[] 0 HB5.out.size (by unfold maxLen; omega) rfl
          have hb6 : Below w5.heap.size w5 (w5.alloc (.cells #[] 29)) := (Below.refl _ _).alloc (Nat.le_refl _) _
          obtain ⟨v7, w7, r7, o7, g7, b7⟩ := app29 (w5.alloc (.cells #[] 29)) w.heap.size w.heap.size (.slice (some ⟨w5.heap.size, 0, none⟩) 0 0) vx [] (inR a b L) hO0 (HX5.out.alloc _) (by simp; omega) (by simp; omega)
          have hb7 : Below w5.heap.size w5 w7 := hb6.grown g7 (by simp) (fun q hq => by injection hq with hq; rw [← hq]; exact Nat.le_refl _)
          have hy7 : w7.ownsRow w.heap.size 29 2 vy (inR b c L).length ((inR b c L).flatMap cellsP) := own_kept HY5.out fun q hq => hb7.block q (HY5.out.lt q hq).2
          obtain ⟨v8, w8, r8, o8, g8, b8⟩ := app29 w7 w.heap.size w.heap.size v7 vy ([] ++ inR a b L) (inR b c L) o7 hy7 (by simp; omega) (by have := hb7.size; omega)
          have hb8 : Below w5.heap.size w5 w8 := hb7.grown g8 hb7.size (fun q hq => by
            rcases b7 with e | e
            · rw [e] at hq; injection hq with hq; rw [← hq]; exact Nat.le_refl _
            · rw [e] at hq; injection hq with hq; rw [← hq]; simp)
          rw [List.nil_append, parts_split HS5.out.ris (by omega) (by omega)] at o8
          have HR7 := Aside0.mk r7
          have HR8 := Aside0.mk r8
          have HO8 := Aside0.mk o8
          have HS8 := Aside0.mk (HS5.out.below hb8)
          have HB8 := Aside0.mk (HB5.out.trans (hb8.mono HB5.out.size))
          clear hlx hly hsz hO0 hb6 r7 o7 g7 b7 hb7 hy7 r8 o8 g8 b8 hb8 HS5 HX5 HY5
          go_wp2_with (first
            | (at_builtin; refine Lib.wpList_append_run _ rfl _ _ _ _ rfl _ _ rfl rfl _ _ HR7.out ?_)
            | (at_builtin; refine Lib.wpList_append_run _ rfl _ _ _ _ rfl _ _ rfl rfl _ _ HR8.out ?_))
          refine (get_ser _ _ L a c w8 HS8.out).mono ?_
          rintro e w9 ⟨vz, rfl, hoz, h9⟩
          have HB9 := Aside0.mk (HB8.out.trans (h9.mono HB8.out.size))
          have ho8 := own_kept (w' := w9) HO8.out fun q hq => h9.block q (HO8.out.lt q hq).2
          have hlz := inR_len a c L
          obtain ⟨A8, c8, hA8⟩ := row_form ho8
          obtain ⟨Az, cz, hAz⟩ := row_form hoz
          subst hA8
          subst hAz
          have HSA := Aside0.mk (same_true A8 Az c8 cz (inR a c L) w9 (kdC_of ho8 (by omega)).1 (kdC_of hoz (by omega)).1 (by omega))
          clear hoz h9 ho8 hlz HO8 HS8
          go_wp2_with fail
          refine HSA.out.mono ?_
          rintro e w10 ⟨rfl, h10⟩
          have HB10 := Aside0.mk (HB9.out.trans (h10.mono HB9.out.size))
          clear h10 HSA
          go_wp2
          go_ret
          exact ⟨rfl, HB10.out⟩
    · have d1 : (er != 0) = true := bne_iff_ne.2 her
      have d2 : (er == 0) = false := beq_eq_false_iff_ne.2 her
      go_wp2
      go_ret
      exact ⟨rfl, HB3.out⟩
  · have d0 : decide ((60 : Int) < (l.length : Int)) = true := decide_eq_true (by omega)
    have d0' : decide ((l.length : Int) > (60 : Int)) = true := decide_eq_true (by omega)
    have d0n : decide (60 < l.length) = true := decide_eq_true (by omega)
    go_enter Try.func5, Try.ntmps5
    go_wp2_with fail
    refine (HLV.out _).mono ?_
    rintro e w1 ⟨rfl, h1⟩
    have HB1 := Aside0.mk (show Below w.heap.size w w1 from h1)
    clear h1
    go_wp2_with fail
    refine (HLV.out _).mono ?_
    rintro e w2 ⟨rfl, h2⟩
    have HB2 := Aside0.mk (HB1.out.trans (h2.mono HB1.out.size))
    clear h2
    go_wp2
    go_ret
    exact ⟨rfl, HB2.out⟩
theorem reads_C {A1 : Option Addr} {len1 : Nat} {l1 : List S29} {W : World} (hr1 : ReadsRow (fun (p : S29) c => c = [.int .i64 p.f0, .int .i64 p.f1]) 2 W A1 len1 l1) : len1 = l1.length ∧ Kd.C k29 W A1 l1.length l1 := by
  have hl := hr1.1
  subst hl
  exact ⟨rfl, rfl, hr1.2.1, fun h => by
    obtain ⟨ad, e, hc⟩ := hr1.2.2 h
    refine ⟨ad, e, fun j p hj => ?_⟩
    obtain ⟨c, h1, h2, h3⟩ := hc j p hj
    subst h2
    exact ⟨_, h1, k29_mk W p, h3⟩⟩
theorem SeriesPartsWalk.walk (A1 : Option Addr) (len1 cap1 : Nat) (l1 : List S29) (a b c : Int) (W : World)
    (hr1 : ReadsRow (fun (p : S29) c => c = [.int .i64 p.f0, .int .i64 p.f1]) 2 W A1 len1 l1) (hc1 : len1 ≤ cap1) (hq1 : ∀ p ∈ l1, (Lit.int .i64 p.f0).wf = true ∧ (Lit.int .i64 p.f1).wf = true) (_ : (Lit.int .i64 a).wf = true) (_ : (Lit.int .i64 b).wf = true) (_ : (Lit.int .i64 c).wf = true) :
    Calls Try.prog 5 #[.slice A1 len1 cap1, .int .i64 a, .int .i64 b, .int .i64 c] W fun e w' => e = .returned (.bool true) ∧ Below W.heap.size W w' := by
  obtain ⟨rfl, hC⟩ := reads_C hr1
  exact law5_calls A1 cap1 l1 a b c W hC
end Go.Proofs.Ytnjdngjlbonieaa
