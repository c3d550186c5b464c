/- slices.BinarySearchFunc over points, by their ticks; series.find. -/
import Derived.Test.YtnjdngjlbonieaaRollD
import Derived.Lib.Hide
import Derived.LoopTactic
import Derived.Outline
import Derived.Laws.Rows
import Derived.Laws.CopyOwn
import Derived.WalkKit
set_option linter.unusedVariables false
set_option linter.unusedSimpArgs false
namespace Go.Proofs.Ytnjdngjlbonieaa
open Go.RowKit Go.Proofs.YtnjdngjlbonieaaW.PrintWords Go.Proofs.YtnjdngjlbonieaaW.PrintLast Go.Proofs.YtnjdngjlbonieaaW.PrintMore
open Go.Proofs.Ytnjdngjlbonieaa.PRollWindows
attribute [local go_sem] max2_int min2_int max_two min_two max_three min_three max_four min_four

open RollOfPure
def cmpI (a v : Int) : Int := if a < v then -1 else if v < a then 1 else 0
set_option maxRecDepth 100000 in
set_option maxHeartbeats 8000000 in
theorem cmp_calls (a b v : Int) (w : World) : Calls Try.prog 91 #[.agg #[.int .i64 a, .int .i64 b], .int .i64 v] w fun e w' => e = .returned (.int .i64 (cmpI a v)) ∧ Below w.heap.size w w' := by
  have hu29 := Try.underlying29
  unfold cmpI
  by_cases h1 : a < v
  · have d1 : decide (a < v) = true := decide_eq_true h1
    rw [if_pos h1]
    go_enter Try.func91, Try.ntmps91
    go_wp2
    go_ret
    exact ⟨rfl, (Below.refl _ _).alloc (Nat.le_refl _) _⟩
  · have d1 : decide (a < v) = false := decide_eq_false h1
    rw [if_neg h1]
    by_cases h2 : v < a
    · have d2 : decide (v < a) = true := decide_eq_true h2
      have d3 : decide (a > v) = true := decide_eq_true h2
      rw [if_pos h2]
      go_enter Try.func91, Try.ntmps91
      go_wp2
      go_ret
      exact ⟨rfl, (Below.refl _ _).alloc (Nat.le_refl _) _⟩
    · have d2 : decide (v < a) = false := decide_eq_false h2
      have d3 : decide (a > v) = false := decide_eq_false h2
      rw [if_neg h2]
      go_enter Try.func91, Try.ntmps91
      go_wp2
      go_ret
      exact ⟨rfl, (Below.refl _ _).alloc (Nat.le_refl _) _⟩
/-- Where a tick is, or would be. -/
def IsPos (l : List S29) (v : Int) (i : Nat) : Prop := i ≤ l.length ∧ (∀ (j : Nat) (x : S29), j < i → l[j]? = some x → x.f0 < v) ∧ ∀ (j : Nat) (x : S29), i ≤ j → l[j]? = some x → v ≤ x.f0
def BPost (l : List S29) (v : Int) (w : World) (e : Ending) (w' : World) : Prop := ∃ i : Nat, IsPos l v i ∧ e = .returned (.tuple #[.int .i64 (i : Int), .bool (decide ((l[i]?).map S29.f0 = some v))]) ∧ Below w.heap.size w w'
set_option maxRecDepth 100000 in
set_option maxHeartbeats 16000000 in
theorem bs_calls (A : Option Addr) (ca : Nat) (l : List S29) (v : Int) (hp : l.Pairwise (fun x y => x.f0 < y.f0)) (w : World) (h : Kd.C k29 w A l.length l) (hl : l.length ≤ 1000) :
    Calls Try.prog 90 #[.slice A l.length ca, .int .i64 v, .func (.func 91) #[] #[]] w (BPost l v w) := by
  have HL := Aside0.mk h
  have hrise : ∀ (i j : Nat) (x y : S29), i < j → l[i]? = some x → l[j]? = some y → x.f0 < y.f0 := fun i j x y hij hx hy => by
    obtain ⟨hi, e1⟩ := List.getElem?_eq_some_iff.1 hx
    obtain ⟨hj, e2⟩ := List.getElem?_eq_some_iff.1 hy
    have := List.pairwise_iff_getElem.1 hp i j hi hj hij
    rw [e1, e2] at this
    exact this
  have HR := Lib.hid hrise
  have hu29 := Try.underlying29
  clear h hp hrise
  go_enter Try.func90, Try.ntmps90
  go_wp2_with fail
  go_loopw [9, 10] (fun v9 v10 wr => ∃ i k : Nat, i ≤ k ∧ k ≤ l.length ∧ v9 = .int .i64 (i : Int) ∧ v10 = .int .i64 (k : Int) ∧ Aside0 (∀ (j : Nat) (x : S29), j < i → l[j]? = some x → x.f0 < v) ∧ Aside0 (∀ (j : Nat) (x : S29), k ≤ j → l[j]? = some x → v ≤ x.f0) ∧ Aside0 (Below w.heap.size w wr)) (fun v9 v10 _ => (intOf v10).toNat - (intOf v9).toNat)
  case atStart => exact ⟨0, l.length, by omega, by omega, rfl, rfl, ⟨fun j x hj => by omega⟩, ⟨fun j x hj hx => by have := (List.getElem?_eq_some_iff.1 hx).1; omega⟩, ⟨Below.refl _ _⟩⟩
  case round =>
    obtain ⟨i, k, hik, hk, rfl, rfl, HLO, HHI, HB⟩ := hrel
    by_cases hlt : i < k
    · obtain ⟨m, hm⟩ : ∃ m, m = (i + k) / 2 := ⟨_, rfl⟩
      have hmk : m < k := by omega
      have him : i ≤ m := by omega
      go_upto_region 5 with (fail)
      have hmi : ((i : Int) + (k : Int)) / 2 = (m : Int) := by omega
      rw [hmi]
      obtain ⟨ad, hAe, hcell⟩ := cells29 HL.out (by omega)
      subst hAe
      obtain ⟨x, hx⟩ : ∃ x, l[m]? = some x := ⟨_, List.getElem?_eq_getElem (by omega)⟩
      have hcx := hcell m x hx
      have u0 : wr.cell? (ad.add (m * 2)) = some (.int .i64 x.f0) := by rw [HB.out.cell (World.block_lt_of_cell? w _ hcx.1)]; exact hcx.1
      have u1 : wr.cell? ⟨(ad.add (m * 2)).block, (ad.add (m * 2)).off + 1, none⟩ = some (.int .i64 x.f1) := by rw [HB.out.cell (World.block_lt_of_cell? w _ hcx.2)]; exact hcx.2
      have hml : (m : Int) < (l.length : Int) := by omega
      have HX := Aside0.mk hx
      obtain ⟨a, b⟩ := x
      clear hcell hcx hx hm hmi
      go_wp2_with fail
      refine (cmp_calls a b v _).mono ?_
      rintro e w2 ⟨rfl, h2⟩
      have HB2 := Aside0.mk (HB.out.trans (h2.mono HB.out.size))
      clear h2 u0 u1
      by_cases hav : a < v
      · have e1 : cmpI a v = -1 := by unfold cmpI; rw [if_pos hav]
        rw [e1]
        have HLO2 := Aside0.mk (show ∀ (j : Nat) (x : S29), j < m + 1 → l[j]? = some x → x.f0 < v from fun j x hj hx => by
          rcases Nat.lt_or_ge j m with h | h
          · have := HR.out j m x _ h hx HX.out
            have h3 : x.f0 < a := this
            omega
          · have : j = m := by omega
            subst this
            have h4 := HX.out
            rw [hx] at h4
            injection h4 with h4
            rw [h4]
            exact hav)
        go_wp2_with fail
        go_roundw
        case rel => exact ⟨m + 1, k, by omega, by omega, rfl, rfl, HLO2, HHI, HB2⟩
        case measure => simp [intOf]; omega
      · have e1 : (cmpI a v < 0) = False := by unfold cmpI; rw [if_neg hav]; split <;> simp
        have e2 : decide (cmpI a v < 0) = false := decide_eq_false (by rw [e1]; exact id)
        have HHI2 := Aside0.mk (show ∀ (j : Nat) (x : S29), m ≤ j → l[j]? = some x → v ≤ x.f0 from fun j x hj hx => by
          rcases Nat.lt_or_ge m j with h | h
          · have := HR.out m j _ x h HX.out hx
            have h3 : a < x.f0 := this
            omega
          · have : j = m := by omega
            subst this
            have h4 := HX.out
            rw [hx] at h4
            injection h4 with h4
            rw [h4]
            show v ≤ a
            omega)
        clear e1
        go_wp2_with fail
        go_roundw
        case rel => exact ⟨i, m, by omega, by omega, rfl, rfl, HLO, HHI2, HB2⟩
        case measure => simp [intOf]; omega
    · have hik2 : i = k := by omega
      subst hik2
      obtain ⟨fb, hfb⟩ : ∃ b, b = decide ((l[i]?).map S29.f0 = some v) := ⟨_, rfl⟩
      have HF := Aside0.mk hfb
      by_cases hil : i < l.length
      · obtain ⟨ad, hAe, hcell⟩ := cells29 HL.out (by omega)
        subst hAe
        obtain ⟨x, hx⟩ : ∃ x, l[i]? = some x := ⟨_, List.getElem?_eq_getElem hil⟩
        have hcx := hcell i x hx
        have u0 : wr.cell? (ad.add (i * 2)) = some (.int .i64 x.f0) := by rw [HB.out.cell (World.block_lt_of_cell? w _ hcx.1)]; exact hcx.1
        have u1 : wr.cell? ⟨(ad.add (i * 2)).block, (ad.add (i * 2)).off + 1, none⟩ = some (.int .i64 x.f1) := by rw [HB.out.cell (World.block_lt_of_cell? w _ hcx.2)]; exact hcx.2
        have hml : (i : Int) < (l.length : Int) := by omega
        have HX := Aside0.mk hx
        obtain ⟨a, b⟩ := x
        clear hcell hcx hx
        go_wp2_with fail
        refine (cmp_calls a b v _).mono ?_
        rintro e w2 ⟨rfl, h2⟩
        have HB2 := Aside0.mk (HB.out.trans (h2.mono HB.out.size))
        clear h2 u0 u1
        have e3 : (cmpI a v == 0) = fb := by
          rw [hfb, HX.out]
          show (cmpI a v == 0) = decide (some a = some v)
          have hva : v ≤ a := HHI.out i _ (Nat.le_refl _) HX.out
          unfold cmpI
          by_cases h : a = v
          · subst h; simp
          · have : v < a := by omega
            rw [if_neg (by omega), if_pos this]
            simp [h]
        clear hfb
        go_wp2
        go_ret2
        exact ⟨i, ⟨hk, HLO.out, HHI.out⟩, by rw [← HF.out]; rfl, HB2.out⟩
      · have e4 : fb = false := by rw [hfb, List.getElem?_eq_none (by omega)]; rfl
        subst e4
        clear hfb
        have e5 : decide ((i : Int) < (l.length : Int)) = false := decide_eq_false (by omega)
        have e5n : decide (i < l.length) = false := decide_eq_false hil
        go_wp2
        go_ret2
        exact ⟨i, ⟨hk, HLO.out, HHI.out⟩, by rw [← HF.out]; rfl, HB.out⟩
set_option maxRecDepth 100000 in
set_option maxHeartbeats 8000000 in
theorem find_calls (A : Option Addr) (ca : Nat) (l : List S29) (v : Int) (hp : l.Pairwise (fun x y => x.f0 < y.f0)) (w : World) (h : Kd.C k29 w A l.length l) (hl : l.length ≤ 1000) :
    Calls Try.prog 81 #[.slice A l.length ca, .int .i64 v] w (BPost l v w) := by
  have HBS := Aside0.mk (bs_calls A ca l v hp w h hl)
  clear h hp
  go_enter Try.func81, Try.ntmps81
  go_wp2_with fail
  refine HBS.out.mono ?_
  rintro e w2 ⟨i, hi, rfl, h2⟩
  have HI := Aside0.mk hi
  have HB := Aside0.mk h2
  obtain ⟨fb, hfb⟩ : ∃ b, b = decide ((l[i]?).map S29.f0 = some v) := ⟨_, rfl⟩
  have HF := Aside0.mk hfb
  rw [← hfb]
  clear hi h2 hfb HBS
  go_wp2
  go_ret2
  exact ⟨i, HI.out, by rw [← HF.out]; rfl, HB.out⟩
end Go.Proofs.Ytnjdngjlbonieaa
