/- quota.Ledger: New, right, Left, Capacity, Accounts, Get, own, walked. -/
import Derived.Test.YtdbhejckpkifoaaQuotA
import Derived.Lib.Hide
import Derived.LoopTactic
import Derived.Outline
import Derived.Laws.Rows
import Derived.Laws.CopyOwn
import Derived.WalkKit
set_option linter.unusedVariables false
set_option linter.unusedSimpArgs false
namespace Go.Proofs.Ytdbhejckpkifoaa
open Go.RowKit Go.Proofs.YtdbhejckpkifoaaW.PrintWords Go.Proofs.YtdbhejckpkifoaaW.PrintLast Go.Proofs.YtdbhejckpkifoaaW.PrintMore
open Go.Proofs.Ytdbhejckpkifoaa.PSlotsBack
attribute [local go_sem] max2_int min2_int max_two min_two max_three min_three max_four min_four

/-- A ledger lies at p: its capacity, and the map b of its accounts. -/
structure IsLed (p b : Nat) (cap : Int) (M : Mdl) (w : World) : Prop where
  led : w.heap[p]? = some (.cells #[.int .i64 cap, .map (some b)] 86 (0, 0))
  map : ∃ D, w.ownsMap Try.prog 9 RA b M.length D ∧ Rep D M
theorem IsLed.ne {p b : Nat} {cap : Int} {M : Mdl} {w : World} (h : IsLed p b cap M w) : p ≠ b := by
  rintro rfl
  obtain ⟨D, ⟨es, clock, hb, _⟩, _⟩ := h.map
  rw [h.led] at hb
  injection hb with hb
  cases hb
theorem IsLed.plt {p b : Nat} {cap : Int} {M : Mdl} {w : World} (h : IsLed p b cap M w) : p < w.heap.size := blk_lt h.led
theorem IsLed.blt {p b : Nat} {cap : Int} {M : Mdl} {w : World} (h : IsLed p b cap M w) : b < w.heap.size := by
  obtain ⟨D, ho, _⟩ := h.map
  exact ho.lt
theorem IsLed.kept {p b : Nat} {cap : Int} {M : Mdl} {w w' : World} {row : Option Nat} (h : IsLed p b cap M w) (hg : w.grownBy w' row) (h1 : some p ≠ row) (h2 : some b ≠ row) : IsLed p b cap M w' := by
  obtain ⟨D, ho, hr⟩ := h.map
  exact ⟨(hg.block p h.plt h1).trans h.led, D, ho.kept hg h2, hr⟩
theorem IsLed.below {p b : Nat} {cap : Int} {M : Mdl} {w w' : World} (h : IsLed p b cap M w) (hb : Below w.heap.size w w') : IsLed p b cap M w' := h.kept (grown_of_below hb none) (by simp) (by simp)
theorem IsLed.drew {p b : Nat} {cap : Int} {M : Mdl} {w : World} (h : IsLed p b cap M w) : IsLed p b cap M w.drew := by
  obtain ⟨D, ho, hr⟩ := h.map
  exact ⟨h.led, D, ho, hr⟩
theorem IsLed.c0 {p b : Nat} {cap : Int} {M : Mdl} {w : World} (h : IsLed p b cap M w) : w.cell? ⟨p, 0, none⟩ = some (.int .i64 cap) := by rw [blk_cell h.led]; rfl
theorem IsLed.c1 {p b : Nat} {cap : Int} {M : Mdl} {w : World} (h : IsLed p b cap M w) : w.cell? ⟨p, 1, none⟩ = some (.map (some b)) := by rw [blk_cell h.led]; rfl
theorem keyS (s : ByteArray) (hs : s.size ≤ 1000) : Go.keyOf Try.prog 9 (.string s) = some (litS s) := key9 hs
def zeroA : Acct := ⟨0, 0, 0, 0⟩
theorem zero65 (W : World) : (zeroValue 65).run Try.prog W = .ok (acctV zeroA) W := by kernel_rfl
theorem tight {w : World} {b n : Nat} {D : DataW Unit} (h : w.ownsMap Try.prog 9 RA b n D) {m : Nat} (hm : Maps.size D ≤ m) : w.ownsMap Try.prog 9 RA b m D := by
  obtain ⟨es, clock, hb, F, hs, hD⟩ := h
  refine ⟨es, clock, hb, F, ?_, hD⟩
  rw [hD] at hm
  simpa [Maps.size, length_sorted] using hm
/-- A look-up with 'ok'. -/
theorem IsLed.look {p b : Nat} {cap : Int} {M : Mdl} {w : World} (h : IsLed p b cap M w) (s : ByteArray) (hs : s.size ≤ 1000) :
    (Instr.lookup 84 (.map (some b)) (.string s) true).run Try.prog w = .ok (.tuple #[acctV ((getM s M).getD zeroA), .bool (getM s M).isSome]) w := by
  obtain ⟨D, ho, hr⟩ := h.map
  obtain ⟨v, ps, hrun, hv⟩ := ho.look_ok (Maps.string_keyed Try.underlying9) Try.underlying84 (zero65 w) (RA_mk zeroA) (keyS s hs)
  obtain ⟨a, rfl, hz⟩ := RA_inv hv
  rw [hrun, hr.has]
  rw [hr.at_] at hz
  cases hg : getM s M with
  | none =>
    rw [hg] at hz
    have := acctD_inj (congrArg Prod.fst hz)
    rw [← this]
    rfl
  | some c =>
    rw [hg] at hz
    have := acctD_inj (congrArg Prod.fst hz)
    rw [← this]
    rfl
theorem IsLed.len {p b : Nat} {cap : Int} {M : Mdl} {w : World} (h : IsLed p b cap M w) (ty : TypeId) : (Builtin.len_ #[84] ty #[.map (some b)]).run Try.prog w = .ok (.int .i64 (M.length : Int)) w := by
  obtain ⟨D, ho, hr⟩ := h.map
  rw [ho.len Try.underlying84, hr.size]
set_option maxRecDepth 100000 in
set_option maxHeartbeats 8000000 in
theorem qnew_calls (cap : Int) (h0 : 0 ≤ cap) (h1 : cap ≤ 1099511627776) (w : World) :
    Calls Try.prog 23 #[.int .i64 cap] w fun e w' => ∃ p b : Nat, e = .returned (.tuple #[.pointer (some ⟨p, 0, none⟩), .int .i64 0]) ∧ IsLed p b cap [] w' ∧ Below w.heap.size w w' ∧ w.heap.size ≤ p ∧ w.heap.size ≤ b := by
  have km : ∀ W, Sem.run Try.prog (Instr.makeMap 84 none) W = .ok (.map (some W.heap.size)) (W.alloc (.map #[] 0)) := fun W => by simp [Instr.makeMap, run_underlying Try.underlying84]
  have d1 : decide (cap < 0) = false := decide_eq_false (by omega)
  have d2 : decide (1099511627776 < cap) = false := decide_eq_false (by omega)
  go_enter Try.func23, Try.ntmps23
  go_wp2
  go_ret2
  refine ⟨w.heap.size + 1, w.heap.size, by simp, ⟨?_, .map [], ?_, rep_start⟩, ?_, by omega, by omega⟩
  · have := blk_new (w.alloc (.map #[] 0)) (.cells #[.int .i64 cap, .map (some w.heap.size)] 86 (0, 0))
    rw [World.size_alloc] at this
    exact this
  · exact (World.ownsMap_made (H := Unit) w Try.prog 9 RA).alloc _
  · exact ((Below.refl _ _).alloc (Nat.le_refl _) _).alloc (by simp) _
set_option maxRecDepth 100000 in
set_option maxHeartbeats 8000000 in
theorem qnew_bad (cap : Int) (h : cap < 0 ∨ 1099511627776 < cap) (w : World) : Calls Try.prog 23 #[.int .i64 cap] w fun e w' => e = .returned (.tuple #[.pointer none, .int .i64 1]) ∧ w = w' := by
  by_cases h1 : cap < 0
  · have d1 : decide (cap < 0) = true := decide_eq_true h1
    go_enter Try.func23, Try.ntmps23
    go_wp2
    go_ret2
    exact ⟨rfl, rfl⟩
  · have d1 : decide (cap < 0) = false := decide_eq_false h1
    have d2 : decide (1099511627776 < cap) = true := decide_eq_true (by omega)
    go_enter Try.func23, Try.ntmps23
    go_wp2
    go_ret2
    exact ⟨rfl, rfl⟩
/-- May so many be reserved? -/
def rightQ (by_ se : Int) : Bool := decide (0 ≤ by_ ∧ by_ ≤ 1099511627776 ∧ 0 ≤ se ∧ se ≤ 16)
set_option maxRecDepth 100000 in
set_option maxHeartbeats 8000000 in
theorem qright_calls (by_ se : Int) (w : World) : Calls Try.prog 42 #[.int .i64 by_, .int .i64 se] w fun e w' => e = .returned (.bool (rightQ by_ se)) ∧ w = w' := by
  by_cases h1 : 0 ≤ by_
  · have d1 : decide (0 ≤ by_) = true := decide_eq_true h1
    by_cases h2 : by_ ≤ 1099511627776
    · have d2 : decide (by_ ≤ 1099511627776) = true := decide_eq_true h2
      by_cases h3 : 0 ≤ se
      · have d3 : decide (0 ≤ se) = true := decide_eq_true h3
        by_cases h4 : se ≤ 16
        · rw [show rightQ by_ se = true from decide_eq_true (by omega)]
          have d4 : decide (se ≤ 16) = true := decide_eq_true h4
          go_enter Try.func42, Try.ntmps42
          go_wp2
          go_ret
          exact ⟨rfl, rfl⟩
        · rw [show rightQ by_ se = false from decide_eq_false (by omega)]
          have d4 : decide (se ≤ 16) = false := decide_eq_false h4
          go_enter Try.func42, Try.ntmps42
          go_wp2
          go_ret
          exact ⟨rfl, rfl⟩
      · rw [show rightQ by_ se = false from decide_eq_false (by omega)]
        have d3 : decide (0 ≤ se) = false := decide_eq_false h3
        go_enter Try.func42, Try.ntmps42
        go_wp2
        go_ret
        exact ⟨rfl, rfl⟩
    · rw [show rightQ by_ se = false from decide_eq_false (by omega)]
      have d2 : decide (by_ ≤ 1099511627776) = false := decide_eq_false h2
      go_enter Try.func42, Try.ntmps42
      go_wp2
      go_ret
      exact ⟨rfl, rfl⟩
  · rw [show rightQ by_ se = false from decide_eq_false (by omega)]
    have d1 : decide (0 ≤ by_) = false := decide_eq_false h1
    go_enter Try.func42, Try.ntmps42
    go_wp2
    go_ret
    exact ⟨rfl, rfl⟩
set_option maxRecDepth 100000 in
set_option maxHeartbeats 8000000 in
theorem qcap_calls (p b : Nat) (cap : Int) (M : Mdl) (w : World) (h : IsLed p b cap M w) : Calls Try.prog 33 #[.pointer (some ⟨p, 0, none⟩)] w fun e w' => e = .returned (.int .i64 cap) ∧ w = w' := by
  have c0 := h.c0
  clear h
  go_enter Try.func33, Try.ntmps33
  go_wp2
  go_ret
  exact ⟨rfl, rfl⟩
set_option maxRecDepth 100000 in
set_option maxHeartbeats 8000000 in
theorem qaccounts_calls (p b : Nat) (cap : Int) (M : Mdl) (w : World) (h : IsLed p b cap M w) : Calls Try.prog 27 #[.pointer (some ⟨p, 0, none⟩)] w fun e w' => e = .returned (.int .i64 (M.length : Int)) ∧ w = w' := by
  have c1 := h.c1
  have kl := h.len
  clear h
  go_enter Try.func27, Try.ntmps27
  go_wp2
  go_ret
  exact ⟨rfl, rfl⟩
set_option maxRecDepth 100000 in
set_option maxHeartbeats 8000000 in
theorem qget_calls (p b : Nat) (cap : Int) (M : Mdl) (s : ByteArray) (hs : s.size ≤ 1000) (w : World) (h : IsLed p b cap M w) :
    Calls Try.prog 26 #[.pointer (some ⟨p, 0, none⟩), .string s] w fun e w' => e = .returned (.tuple #[acctV ((getM s M).getD zeroA), .bool (getM s M).isSome]) ∧ Below w.heap.size w w' := by
  have c1 := h.c1
  have hb1 := h.blt
  have hlk := (h.below ((Below.refl _ _).alloc (Nat.le_refl _) (.cells #[.int .i64 0, .int .i64 0, .int .i64 0, .int .i64 0] 65))).look s hs
  obtain ⟨⟨a1, a2, a3, a4⟩, ha⟩ : ∃ a, a = (getM s M).getD zeroA := ⟨_, rfl⟩
  rw [← ha] at hlk ⊢
  obtain ⟨t, ht⟩ : ∃ t, t = (getM s M).isSome := ⟨_, rfl⟩
  rw [← ht] at hlk ⊢
  unfold acctV at hlk ⊢
  have hp := h.plt
  clear h ha ht
  go_enter Try.func26, Try.ntmps26
  go_wp2
  refine bodyPost_ret (v := .tuple #[.agg #[.int .i64 a1, .int .i64 a2, .int .i64 a3, .int .i64 a4], .bool t]) (by simp [results, Try.results26, go_sem]) rfl ⟨rfl, ?_⟩
  exact ((Below.refl _ _).alloc (Nat.le_refl _) _).alloc (by simp) _
end Go.Proofs.Ytdbhejckpkifoaa
