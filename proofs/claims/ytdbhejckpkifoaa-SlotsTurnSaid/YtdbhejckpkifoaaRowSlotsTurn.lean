/- The row of the law SlotsTurn, out of its walk (Go.Proofs.Ytdbhejckpkifoaa.slotsTurn_walk): its arguments opened; true for every input; each argument reads behind the call as it read before. -/
import Derived.Test.YtdbhejckpkifoaaRows
import Derived.Test.YtdbhejckpkifoaaOpen
import Derived.Test.YtdbhejckpkifoaaSlotK
import Derived.WalkKit
import Derived.ProofKit
import Derived.OpenShut
import Derived.ShutString
import Derived.ChangeOld
import Derived.Below
import Derived.SizedLaws
import Derived.Carry
import Derived.Test.YtdbhejckpkifoaaWSized
namespace Go.Proofs.Ytdbhejckpkifoaa.slotsTurnRow
open Go.ChangeShapes Go.WideShapes Go.ChangeAt Go.RowKit
open Go.ChangeMaps (open_string shut_string)
open Go.Proofs.YtdbhejckpkifoaaW.PrintWords
set_option linter.unusedVariables false
theorem own : ownKnob Try.prog.godebug = none := by kernel_rfl
theorem laidOut : laidOutB Try.prog = true := by kernel_rfl
set_option maxRecDepth 100000 in
theorem lifted (os : Os) (started : os.Started) (H : Type) (enc : TypeId × Value → H) :
    ReturnsInHanded {} Try.checked os 4 .any (Rows.slotsTurnSpec.pre6 enc Try.prog Try.f4 Rows.slotsTurnRow.domain false) (Rows.slotsTurnSpec.post enc Try.prog Try.f4 false true false false) := by
  refine returnsInHanded_of_change_sized (C := Try.checked) own started (by kernel_rfl) Try.func4
    (ChangeSpec.witness6 (enc := enc) (C := Try.checked) false ⟨#[], #[.slice none 0 0, .int .u64 0], []⟩ 8 (by kernel_rfl) (by kernel_rfl) (by kernel_rfl) (by kernel_rfl)) ?_
  intro W base args ds gs before hval0 hW hcnd hsz0 _
  have hsz : (DataW.weightsEach Try.prog (Try.f4.params.toList ++ Rows.slotsTurnSpec.plain.varTypes Try.prog) (ds ++ gs)).all (· ≤ reachBytes) = true := hsz0
  have hval : ∀ (j : Nat) t v, Try.f4.params[j]? = some t → args[j]? = some v → Value.okWide Try.prog W .any base t v := hval0
  have hW' := hW
  obtain ⟨p, q, hA0, hV, rfl, hfz, hnd⟩ := hW
  have hA : DataW.TrodAll enc Try.prog W 0 (fun _ => true) true Try.f4.params.toList args.toList ds p := hA0
  rw [Try.params4] at hA hval hsz
  obtain ⟨v0, vs0, d0, ds0, p0, q0, hargs, rfl, rfl, h0, r0⟩ := trodAll_cons hA
  obtain ⟨v1, vs1, d1, ds1, p1, q1, rfl, rfl, rfl, h1, r1⟩ := trodAll_cons r0
  obtain ⟨rfl, rfl, rfl⟩ := trodAll_nil r1
  obtain rfl : args = #[v0, v1] := by cases args; simp_all
  obtain ⟨rfl, rfl⟩ := trodVars_none hV
  obtain ⟨A0, len0, cap0, rfl⟩ := okWide_slice Try.underlying33 (hval 0 33 v0 rfl rfl)
  have k0 := h0
  have lt0 : ∀ x ∈ p0, x.block < W.heap.size := by obtain ⟨m, hm⟩ := k0; exact DataW.trod_lt m _ _ _ hm
  obtain ⟨l0, hr0, hq0, hc0⟩ : ∃ l : List ByteArray, ReadsRow (fun (p : ByteArray) c => c = [.string p]) 1 W A0 len0 l ∧ (∀ p ∈ l, p.size ≤ maxLen) ∧ len0 ≤ cap0 := by
    obtain ⟨fuel, hf⟩ := h0
    rcases Go.Proofs.Ytdbhejckpkifoaa.Open.open_slice_one Try.underlying33 (by kernel_rfl) hf with ⟨hcs, _⟩ | ⟨x, l, c, m, hcs, _, hlc, hcm, hm, hi⟩
    · simp [Value.cells] at hcs
      obtain ⟨rfl, rfl, rfl⟩ := hcs
      exact ⟨[], ⟨rfl, by omega, fun h => by omega⟩, by simp, by omega⟩
    · simp [Value.cells] at hcs
      obtain ⟨rfl, rfl, rfl⟩ := hcs
      have hmc : m = cap0 := by simpa using hm
      have each : ∀ i, i < len0 → ∃ (x_ : ByteArray) (c_ : List Value), (fun p : ByteArray => p.size ≤ maxLen) x_ ∧ c_.length = 1 ∧ (fun (p : ByteArray) c => c = [.string p]) x_ c_ ∧ ∀ j u, c_[j]? = some u → W.cell? (x.add (i * 1 + j)) = some u := by
        intro i hi'
        obtain ⟨u0, n, y0, hcell0, ht0⟩ := hi i (by omega)
        obtain ⟨b0, e_b0, rfl, w_b0⟩ := DataW.trod_string Try.underlying9 ht0
        obtain rfl := (List.cons.inj e_b0).1
        refine ⟨b0, [.string b0], w_b0, rfl, rfl, fun j u hj => ?_⟩
        match j, hj with
        | 0, hj => simp at hj; subst hj; exact hcell0
      obtain ⟨l', h1, h2⟩ := Go.Proofs.Ytdbhejckpkifoaa.Open.row_read _ hlc hcm each
      exact ⟨l', h1, h2, hlc⟩
  obtain ⟨a1, rfl, rfl, rfl, w1⟩ := open_int Try.underlying34 (hval 1 34 v1 rfl rfl) h1
  clear hA0 hval0 hsz0 hsz
  refine (Go.Proofs.Ytdbhejckpkifoaa.slotsTurn_walk A0 len0 cap0 l0 a1 W hr0 hc0 hq0 w1).mono fun e W' ⟨he, bel⟩ => ?_
  subst he
  exact ⟨_, rfl, _, _, _, [], _, [], hW', trodAll_mk1 (shut_bool Try.underlying4 _), (trodAll_cons_mk (Below.trod laidOut (by kernel_rfl) (of_decide_eq_true (by kernel_rfl)) k0 bel lt0) (trodAll_cons_mk (shut_int Try.underlying34 w1) trodAll_mk0)), rfl, bel.frame _, fun h => by cases h⟩
theorem over : Rows.slotsTurnRow.holds Try.pinned (OpenSpec.ofChange Rows.slotsTurnSpec) :=
  OpenClaim.holds_of_wide 4 Try.f4 rfl rfl rfl rfl rfl rfl rfl ⟨rfl, rfl, rfl, rfl, rfl⟩ rfl rfl rfl rfl rfl (by kernel_rfl) Try.func4 (by kernel_rfl)
    (of_decide_eq_true (by kernel_rfl)) (by unfold Func.isWrapper; first | (rw [if_pos (by decide +kernel)]; kernel_rfl) | (rw [if_neg (by decide +kernel)]; exact ⟨rfl, rfl⟩))
    (fun os started H enc _ => lifted os started H enc)
theorem proved : Rows.SlotsTurnSaid := over
#print axioms proved
end Go.Proofs.Ytdbhejckpkifoaa.slotsTurnRow
namespace Go.Proofs.Ytdbhejckpkifoaa
/-- The row, under a short name, for the claim. -/
theorem slotsTurn_holds : Rows.SlotsTurnSaid := slotsTurnRow.proved
end Go.Proofs.Ytdbhejckpkifoaa
