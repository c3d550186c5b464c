/- policy: all, less, number, Of, Bound, Gone, walked. -/
import Derived.Test.YtdbhejckpkifoaaDoorRight
import Derived.Test.YtdbhejckpkifoaaDoorFrame
import Derived.Test.YtdbhejckpkifoaaDoorShelf
import Derived.Lib.LaidTab
import Derived.Lib.Hide
import Derived.LoopTactic
import Derived.Outline
import Derived.Laws.Rows
import Derived.Laws.CopyOwn
import Derived.WalkKit
set_option linter.unusedVariables false
set_option linter.unusedSimpArgs false
namespace Go.Proofs.YtdbhejckpkifoaaDoor
open Go.RowKit Go.Proofs.YtdbhejckpkifoaaDoorW.PrintWords Go.Proofs.YtdbhejckpkifoaaDoorW.PrintLast Go.Proofs.YtdbhejckpkifoaaDoorW.PrintMore
attribute [local go_sem] max2_int min2_int max_two min_two max_three min_three max_four min_four

open Go.Proofs.YtdbhejckpkifoaaDoor.PPolicyWider
def polV (a b c : Int) : Value := .agg #[.int .i64 a, .int .i64 b, .int .i64 c]
def ofP (a b c t : Int) : Int := if t = 0 then a else if t = 1 then b else if t = 2 then c else 0
def boundOk (n now : Int) : Bool := !(decide (n ≤ 0) || decide (now < n))
def boundTo (n now : Int) : Int := if boundOk n now then now - n else 0
def goneP (a b c t : Int) (to_ now : Int) : Bool := boundOk (ofP a b c t) now && decide (to_ ≤ boundTo (ofP a b c t) now)
/-- The library's table of powers of ten lies as its text lays it. -/
def Tab (w : World) : Prop := Lib.TabIs Tryd.prog w "internal/strconv.uint64pow10" .u64 Lib.pow10Tab
theorem tab_some : (Tryd.prog.globalNamed "internal/strconv.uint64pow10").isSome = true := by kernel_rfl
theorem tab_global : ∃ g, Tryd.prog.globalNamed "internal/strconv.uint64pow10" = some g := Option.isSome_iff_exists.1 tab_some
theorem Tab.below {w w' : World} (h : Tab w) (hb : Below w.heap.size w w') : Tab w' := by
  obtain ⟨g, hg⟩ := tab_global
  unfold Tab Lib.TabIs World.var? at h ⊢
  rw [hg] at h ⊢
  simp only [Option.bind_some] at h ⊢
  have hlt : g < w.heap.size := by
    rcases Nat.lt_or_ge g w.heap.size with h' | h'
    · exact h'
    · rw [Array.getElem?_eq_none h'] at h; cases h
  rw [hb.block g hlt]
  exact h
theorem Tab.alloc {w : World} (h : Tab w) (o : Obj) : Tab (w.alloc o) := h.below ((Below.refl _ _).alloc (Nat.le_refl _) _)
set_option maxRecDepth 100000 in
set_option maxHeartbeats 8000000 in
theorem all_calls (a b c : Int) (w : World) : Calls Tryd.prog 14 #[.agg #[.int .i64 a, .int .i64 b, .int .i64 c]] w fun e w' => e = .returned (.agg #[.int .i64 a, .int .i64 b, .int .i64 c]) ∧ Below w.heap.size w w' := by
  go_enter Tryd.func14, Tryd.ntmps14
  go_wp2
  refine bodyPost_ret (v := .agg #[.int .i64 a, .int .i64 b, .int .i64 c]) (by simp [results, Tryd.results14, go_sem]) rfl ⟨rfl, ?_⟩
  exact ((Below.refl _ _).alloc (Nat.le_refl _) _).alloc (by simp) _
set_option maxRecDepth 100000 in
set_option maxHeartbeats 8000000 in
theorem of_calls (a b c t : Int) (w : World) : Calls Tryd.prog 17 #[.agg #[.int .i64 a, .int .i64 b, .int .i64 c], .int .i64 t] w fun e w' => e = .returned (.int .i64 (ofP a b c t)) ∧ Below w.heap.size w w' := by
  by_cases h1 : t < 0 ∨ 3 ≤ t
  · have hr : ofP a b c t = 0 := by unfold ofP; rw [if_neg (by omega), if_neg (by omega), if_neg (by omega)]
    rw [hr]
    clear hr
    rcases h1 with h | h
    · have d1 : decide (t < 0) = true := decide_eq_true h
      go_enter Tryd.func17, Tryd.ntmps17
      go_wp2
      go_ret
      exact ⟨rfl, (Below.refl _ _).alloc (Nat.le_refl _) _⟩
    · have d1 : decide (t < 0) = false := decide_eq_false (by omega)
      have d2 : decide (3 ≤ t) = true := decide_eq_true h
      go_enter Tryd.func17, Tryd.ntmps17
      go_wp2
      go_ret
      exact ⟨rfl, (Below.refl _ _).alloc (Nat.le_refl _) _⟩
  · obtain ⟨h, h'⟩ := not_or.1 h1
    have i0 : ∀ w, (Instr.index 39 (.agg #[.int .i64 a, .int .i64 b, .int .i64 c]) (.int .i64 0)).run Tryd.prog w = .ok (.int .i64 a) w := fun _ => by kernel_rfl
    have i1 : ∀ w, (Instr.index 39 (.agg #[.int .i64 a, .int .i64 b, .int .i64 c]) (.int .i64 1)).run Tryd.prog w = .ok (.int .i64 b) w := fun _ => by kernel_rfl
    have i2 : ∀ w, (Instr.index 39 (.agg #[.int .i64 a, .int .i64 b, .int .i64 c]) (.int .i64 2)).run Tryd.prog w = .ok (.int .i64 c) w := fun _ => by kernel_rfl
    rcases (show t = 0 ∨ t = 1 ∨ t = 2 by omega) with rfl | rfl | rfl
    all_goals
      clear h1 h h'
      go_enter Tryd.func17, Tryd.ntmps17
      go_wp2_with fail
      refine (all_calls a b c _).mono ?_
      rintro e w1 ⟨rfl, h1⟩
      have H1 := Aside0.mk h1
      clear h1
      go_wp2
      go_ret
      exact ⟨rfl, ((Below.refl _ _).alloc (Nat.le_refl _) _).trans (H1.out.mono (by simp))⟩

/-- Is one kept for a shorter time? -/
def lessB (a b : Int) : Bool := decide (a ≠ 0 ∧ (b = 0 ∨ a < b))
set_option maxRecDepth 100000 in
set_option maxHeartbeats 8000000 in
theorem less_calls (a b : Int) (w : World) : Calls Tryd.prog 15 #[.int .i64 a, .int .i64 b] w fun e w' => e = .returned (.bool (lessB a b)) ∧ w = w' := by
  by_cases h1 : a = 0
  · rw [show lessB a b = false by unfold lessB; simp [h1]]
    have e1 : (a == 0) = true := beq_iff_eq.2 h1
    have e2 : (a != 0) = false := by simp [h1]
    go_enter Tryd.func15, Tryd.ntmps15
    go_wp2
    go_ret
    exact ⟨rfl, rfl⟩
  · have e1 : (a == 0) = false := beq_eq_false_iff_ne.2 h1
    have e2 : (a != 0) = true := by simp [h1]
    by_cases h2 : b = 0
    · rw [show lessB a b = true by unfold lessB; simp [h1, h2]]
      have e3 : (b == 0) = true := beq_iff_eq.2 h2
      go_enter Tryd.func15, Tryd.ntmps15
      go_wp2
      go_ret
      exact ⟨rfl, rfl⟩
    · have e3 : (b == 0) = false := beq_eq_false_iff_ne.2 h2
      by_cases h3 : a < b
      · rw [show lessB a b = true by unfold lessB; simp [h1, h3]]
        have e4 : decide (a < b) = true := decide_eq_true h3
        go_enter Tryd.func15, Tryd.ntmps15
        go_wp2
        go_ret
        exact ⟨rfl, rfl⟩
      · rw [show lessB a b = false by unfold lessB; simp [h2, h3]]
        have e4 : decide (a < b) = false := decide_eq_false h3
        go_enter Tryd.func15, Tryd.ntmps15
        go_wp2
        go_ret
        exact ⟨rfl, rfl⟩
set_option maxRecDepth 100000 in
set_option maxHeartbeats 8000000 in
theorem bound_calls (a b c t now : Int) (hn : -9223372036854775808 ≤ now ∧ now ≤ 9223372036854775807) (w : World) : Calls Tryd.prog 13 #[.agg #[.int .i64 a, .int .i64 b, .int .i64 c], .int .i64 t, .int .i64 now] w fun e w' => e = .returned (.tuple #[.int .i64 (boundTo (ofP a b c t) now), .bool (boundOk (ofP a b c t) now)]) ∧ Below w.heap.size w w' := by
  have HO := Lib.hid (fun W => of_calls a b c t W)
  obtain ⟨n, hnn⟩ : ∃ n, n = ofP a b c t := ⟨_, rfl⟩
  rw [← hnn] at HO ⊢
  clear hnn
  have hb := (Below.refl w.heap.size w).alloc (Nat.le_refl _) (.cells #[.int .i64 a, .int .i64 b, .int .i64 c] 23)
  have HB := Aside0.mk hb
  clear hb
  by_cases h1 : n ≤ 0
  · have hr : boundOk n now = false := by unfold boundOk; rw [decide_eq_true h1]; rfl
    have hr2 : boundTo n now = 0 := by unfold boundTo; rw [hr]; rfl
    rw [hr, hr2]
    have d1 : decide (n ≤ 0) = true := decide_eq_true h1
    clear hr hr2
    go_enter Tryd.func13, Tryd.ntmps13
    go_wp2_with fail
    refine (HO.out _).mono ?_
    rintro e w1 ⟨rfl, h⟩
    have H := Aside0.mk h
    clear h
    go_wp2
    go_ret2
    exact ⟨rfl, HB.out.trans (H.out.mono HB.out.size)⟩
  · have d1 : decide (n ≤ 0) = false := decide_eq_false h1
    by_cases h2 : now < n
    · have hr : boundOk n now = false := by unfold boundOk; rw [decide_eq_true h2, d1]; rfl
      have hr2 : boundTo n now = 0 := by unfold boundTo; rw [hr]; rfl
      rw [hr, hr2]
      have d2 : decide (now < n) = true := decide_eq_true h2
      clear hr hr2
      go_enter Tryd.func13, Tryd.ntmps13
      go_wp2_with fail
      refine (HO.out _).mono ?_
      rintro e w1 ⟨rfl, h⟩
      have H := Aside0.mk h
      clear h
      go_wp2
      go_ret2
      exact ⟨rfl, HB.out.trans (H.out.mono HB.out.size)⟩
    · have d2 : decide (now < n) = false := decide_eq_false h2
      have hr : boundOk n now = true := by unfold boundOk; rw [d1, d2]; rfl
      have hr2 : boundTo n now = now - n := by unfold boundTo; rw [hr]; rfl
      rw [hr, hr2]
      have hw : IntKind.i64.wrap (now - n) = now - n := by rw [IntKind.wrap_i64]; omega
      have hlo : -9223372036854775808 ≤ now - n := by omega
      have hhi : now - n ≤ 9223372036854775807 := by omega
      clear hr hr2
      go_enter Tryd.func13, Tryd.ntmps13
      go_wp2_with fail
      refine (HO.out _).mono ?_
      rintro e w1 ⟨rfl, h⟩
      have H := Aside0.mk h
      clear h
      go_wp2
      go_ret2
      exact ⟨rfl, HB.out.trans (H.out.mono HB.out.size)⟩
set_option maxRecDepth 100000 in
set_option maxHeartbeats 8000000 in
theorem gone_calls (a b c t fr to_ now : Int) (hn : -9223372036854775808 ≤ now ∧ now ≤ 9223372036854775807) (w : World) :
    Calls Tryd.prog 10 #[.agg #[.int .i64 a, .int .i64 b, .int .i64 c], .int .i64 t, .agg #[.int .i64 fr, .int .i64 to_], .int .i64 now] w fun e w' => e = .returned (.bool (goneP a b c t to_ now)) ∧ Below w.heap.size w w' := by
  have HO := Lib.hid (fun W => bound_calls a b c t now hn W)
  have hg : goneP a b c t to_ now = (boundOk (ofP a b c t) now && decide (to_ ≤ boundTo (ofP a b c t) now)) := rfl
  rw [hg]
  clear hg
  obtain ⟨k, hk⟩ : ∃ n, n = boundOk (ofP a b c t) now := ⟨_, rfl⟩
  obtain ⟨m, hm⟩ : ∃ n, n = boundTo (ofP a b c t) now := ⟨_, rfl⟩
  rw [← hk, ← hm] at HO ⊢
  clear hk hm
  have hb := ((Below.refl w.heap.size w).alloc (Nat.le_refl _) (.cells #[.int .i64 a, .int .i64 b, .int .i64 c] 23)).alloc (by simp) (.cells #[.int .i64 fr, .int .i64 to_] 29)
  have HB := Aside0.mk hb
  clear hb
  cases k with
  | false =>
    go_enter Tryd.func10, Tryd.ntmps10
    go_wp2_with fail
    refine (HO.out _).mono ?_
    rintro e w1 ⟨rfl, h⟩
    have H := Aside0.mk h
    clear h
    go_wp2
    go_ret
    exact ⟨rfl, HB.out.trans (H.out.mono HB.out.size)⟩
  | true =>
    go_enter Tryd.func10, Tryd.ntmps10
    go_wp2_with fail
    refine (HO.out _).mono ?_
    rintro e w1 ⟨rfl, h⟩
    have H := Aside0.mk h
    have c1 : w1.cell? ⟨w.heap.size + 1, 1, none⟩ = some (.int .i64 to_) := by rw [h.cell (by simp)]; go_simp
    clear h
    go_wp2
    go_ret
    exact ⟨by simp, HB.out.trans (H.out.mono HB.out.size)⟩
end Go.Proofs.YtdbhejckpkifoaaDoor
