/- The law SlotsBack, walked. -/
import Derived.Test.YtdbhejckpkifoaaSlotC
import Derived.Maps.Own
import Derived.Maps.Views
import Derived.Maps.Keyed
import Derived.Lib.Hide
import Derived.LoopTactic
import Derived.Outline
import Derived.Laws.Rows
import Derived.Laws.CopyOwn
import Derived.WalkKit
set_option linter.unusedVariables false
set_option linter.unusedSimpArgs false
namespace Go.Proofs.Ytdbhejckpkifoaa
open Go.RowKit Go.Proofs.YtdbhejckpkifoaaW.PrintWords Go.Proofs.YtdbhejckpkifoaaW.PrintLast Go.Proofs.YtdbhejckpkifoaaW.PrintMore
open Go.Proofs.Ytdbhejckpkifoaa.PSlotsBack
attribute [local go_sem] max2_int min2_int max_two min_two max_three min_three max_four min_four


/-- A map that tells of each number below eight whether its bit is in g. -/
structure GMap (b g n : Nat) (w : World) : Prop where
  own : ∃ D : DataW Unit, w.ownsMap Try.prog 3 (plainElem Try.prog 4) b n D ∧ Maps.IsMap D ∧ ∀ j : Nat, j < 8 → D.atKey (.int .i64 (j : Int)) (.lit (.bool false)) = .lit (.bool (g.testBit j))
theorem key3 (i : Nat) (hi : i < 8) : Go.keyOf Try.prog 3 (.int .i64 (i : Int)) = some (.int .i64 (i : Int)) := by
  simp [Go.keyOf, Try.underlying3, mapKey, Lit.wf, IntKind.min, IntKind.max, IntKind.bits, IntKind.signed]
  omega
theorem zero4 : Try.t4.zero = some (.bool false) := by kernel_rfl
theorem plainElem_bool_inv {v : Value} {z : DataW Unit × List MemPlace} (h : plainElem Try.prog 4 v = some z) : ∃ x, v = .bool x ∧ z = (.lit (.bool x), []) := by
  unfold plainElem at h
  rw [Try.underlying4] at h
  cases v <;> simp at h
  exact ⟨_, rfl, h.symm⟩
theorem GMap.look {b g n : Nat} {w : World} (h : GMap b g n w) (i : Nat) (hi : i < 8) : (Instr.lookup 30 (.map (some b)) (.int .i64 (i : Int)) false).run Try.prog w = .ok (.bool (g.testBit i)) w := by
  obtain ⟨D, ho, _, hd⟩ := h.own
  obtain ⟨v, ps, hrun, hv⟩ := ho.lookup (Maps.int_keyed Try.underlying3) Try.underlying30 (z := .bool false) (by simp [zeroValue, Try.underlying4, zero4]) (plainElem_bool Try.underlying4 false) (key3 i hi)
  obtain ⟨x, rfl, hz⟩ := plainElem_bool_inv hv
  rw [hrun]
  rw [hd i hi] at hz
  injection hz with hz _
  injection hz with hz
  injection hz with hz
  rw [hz]
theorem GMap.kept {b g n : Nat} {w w' : World} {row : Option Nat} (h : GMap b g n w) (hg : w.grownBy w' row) (hne : some b ≠ row) : GMap b g n w' := by
  obtain ⟨D, ho, hm, hd⟩ := h.own
  exact ⟨D, ho.kept hg hne, hm, hd⟩
theorem GMap.put_of {b g n i : Nat} {w' : World} (hg : g < 256) (hi : i < 8) {D : DataW Unit} (hm : Maps.IsMap D) (hd : ∀ j : Nat, j < 8 → D.atKey (.int .i64 (j : Int)) (.lit (.bool false)) = .lit (.bool (g.testBit j)))
    (ho : w'.ownsMap Try.prog 3 (plainElem Try.prog 4) b n (D.put (.int .i64 (i : Int)) (.lit (.bool true)))) : GMap b (g ||| 2 ^ i) n w' := by
  refine ⟨_, ho, hm.put _ _, fun j hj => ?_⟩
  rw [(set_bit g i hg hi).2 j]
  by_cases hij : i = j
  · subst hij
    rw [Maps.atKey_put_same (k := Lit.int .i64 (i : Int)) hm trivial]
    simp
  · rw [Maps.atKey_put_other (by intro e; injection e with _ e; omega), hd j hj]
    simp [hij]
end Go.Proofs.Ytdbhejckpkifoaa
