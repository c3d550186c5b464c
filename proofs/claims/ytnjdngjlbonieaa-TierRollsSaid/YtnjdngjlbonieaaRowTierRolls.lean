/- The row of the law TierRolls, out of its walk (Go.Proofs.Ytnjdngjlbonieaa.TierRollsWalk.walk): its arguments opened; true for every input; each argument reads behind the call as it read before. -/
import Derived.Test.YtnjdngjlbonieaaRows
import Derived.Test.YtnjdngjlbonieaaOpen
import Derived.Test.YtnjdngjlbonieaaTierL
import Derived.WalkKit
import Derived.ProofKit
import Derived.OpenShut
import Derived.ShutString
import Derived.ChangeOld
import Derived.Below
import Derived.SizedLaws
import Derived.Carry
import Derived.Test.YtnjdngjlbonieaaWSized
namespace Go.Proofs.Ytnjdngjlbonieaa.tierRollsRow
open Go.ChangeShapes Go.WideShapes Go.ChangeAt Go.RowKit
open Go.ChangeMaps (open_string shut_string)
open Go.Proofs.YtnjdngjlbonieaaW.PrintWords
set_option linter.unusedVariables false
theorem own : ownKnob Try.prog.godebug = none := by kernel_rfl
theorem laidOut : laidOutB Try.prog = true := by kernel_rfl
set_option maxRecDepth 100000 in
theorem lifted (os : Os) (started : os.Started) (H : Type) (enc : TypeId × Value → H) :
    ReturnsInHanded {} Try.checked os 8 .any (Rows.tierRollsSpec.pre6 enc Try.prog Try.f8 Rows.tierRollsRow.domain false) (Rows.tierRollsSpec.post enc Try.prog Try.f8 false true false false) := by
  refine returnsInHanded_of_change_sized (C := Try.checked) own started (by kernel_rfl) Try.func8
    (ChangeSpec.witness6 (enc := enc) (C := Try.checked) false ⟨#[], #[.slice none 0 0, .int .u32 0, .int .u32 0], []⟩ 8 (by kernel_rfl) (by kernel_rfl) (by kernel_rfl) (by kernel_rfl)) ?_
  intro W base args ds gs before hval0 hW hcnd hsz0 _
  have hsz : (DataW.weightsEach Try.prog (Try.f8.params.toList ++ Rows.tierRollsSpec.plain.varTypes Try.prog) (ds ++ gs)).all (· ≤ reachBytes) = true := hsz0
  have hval : ∀ (j : Nat) t v, Try.f8.params[j]? = some t → args[j]? = some v → Value.okWide Try.prog W .any base t v := hval0
  have hW' := hW
  obtain ⟨p, q, hA0, hV, rfl, hfz, hnd⟩ := hW
  have hA : DataW.TrodAll enc Try.prog W 0 (fun _ => true) true Try.f8.params.toList args.toList ds p := hA0
  rw [Try.params8] at hA hval hsz
  obtain ⟨v0, vs0, d0, ds0, p0, q0, hargs, rfl, rfl, h0, r0⟩ := trodAll_cons hA
  obtain ⟨v1, vs1, d1, ds1, p1, q1, rfl, rfl, rfl, h1, r1⟩ := trodAll_cons r0
  obtain ⟨v2, vs2, d2, ds2, p2, q2, rfl, rfl, rfl, h2, r2⟩ := trodAll_cons r1
  obtain ⟨rfl, rfl, rfl⟩ := trodAll_nil r2
  obtain rfl : args = #[v0, v1, v2] := by cases args; simp_all
  obtain ⟨rfl, rfl⟩ := trodVars_none hV
  obtain ⟨A0, len0, cap0, rfl⟩ := okWide_slice Try.underlying22 (hval 0 22 v0 rfl rfl)
  have k0 := h0
  have lt0 : ∀ x ∈ p0, x.block < W.heap.size := by obtain ⟨m, hm⟩ := k0; exact DataW.trod_lt m _ _ _ hm
  obtain ⟨l0, hr0, hq0, hc0⟩ : ∃ l : List Go.Proofs.Ytnjdngjlbonieaa.PTierForgets.S29, ReadsRow (fun (p : Go.Proofs.Ytnjdngjlbonieaa.PTierForgets.S29) c => c = [.int .i64 p.f0, .int .i64 p.f1]) 2 W A0 len0 l ∧ (∀ p ∈ l, (Lit.int .i64 p.f0).wf = true ∧ (Lit.int .i64 p.f1).wf = true) ∧ len0 ≤ cap0 := by
    obtain ⟨fuel, hf⟩ := h0
    rcases Go.Proofs.Ytnjdngjlbonieaa.Open.open_slice_fields Try.underlying22 Try.underlying29 (by kernel_rfl) (by kernel_rfl) hf with ⟨hcs, _⟩ | ⟨x, l, c, m, hcs, _, hlc, hcm, hm, hi⟩
    · simp [Value.cells] at hcs
      obtain ⟨rfl, rfl, rfl⟩ := hcs
      exact ⟨[], ⟨rfl, by omega, fun h => by omega⟩, by simp, by omega⟩
    · simp [Value.cells] at hcs
      obtain ⟨rfl, rfl, rfl⟩ := hcs
      have hmc : m = cap0 := by simpa using hm
      have each : ∀ i, i < len0 → ∃ (x_ : Go.Proofs.Ytnjdngjlbonieaa.PTierForgets.S29) (c_ : List Value), (fun p : Go.Proofs.Ytnjdngjlbonieaa.PTierForgets.S29 => (Lit.int .i64 p.f0).wf = true ∧ (Lit.int .i64 p.f1).wf = true) x_ ∧ c_.length = 2 ∧ (fun (p : Go.Proofs.Ytnjdngjlbonieaa.PTierForgets.S29) c => c = [.int .i64 p.f0, .int .i64 p.f1]) x_ c_ ∧ ∀ j u, c_[j]? = some u → W.cell? (x.add (i * 2 + j)) = some u := by
        intro i hi'
        obtain ⟨ys, n, _, hf'⟩ := hi i (by omega)
        obtain ⟨u0, y0, hcell0, _, ht0⟩ := hf' 0 _ rfl
        obtain ⟨b0, e_b0, rfl, w_b0⟩ := DataW.trod_int Try.underlying2 ht0
        obtain rfl := (List.cons.inj e_b0).1
        obtain ⟨u1, y1, hcell1, _, ht1⟩ := hf' 1 _ rfl
        obtain ⟨b1, e_b1, rfl, w_b1⟩ := DataW.trod_int Try.underlying2 ht1
        obtain rfl := (List.cons.inj e_b1).1
        refine ⟨⟨b0, b1⟩, [.int .i64 b0, .int .i64 b1], ⟨w_b0, w_b1⟩, rfl, rfl, fun j u hj => ?_⟩
        match j, hj with
        | 0, hj => simp at hj; subst hj; exact hcell0
        | 1, hj => simp at hj; subst hj; exact hcell1
      obtain ⟨l', h1, h2⟩ := Go.Proofs.Ytnjdngjlbonieaa.Open.row_read _ hlc hcm each
      exact ⟨l', h1, h2, hlc⟩
  obtain ⟨a1, rfl, rfl, rfl, w1⟩ := open_int Try.underlying56 (hval 1 56 v1 rfl rfl) h1
  obtain ⟨a2, rfl, rfl, rfl, w2⟩ := open_int Try.underlying56 (hval 2 56 v2 rfl rfl) h2
  clear hA0 hval0 hsz0 hsz
  refine (Go.Proofs.Ytnjdngjlbonieaa.TierRollsWalk.walk A0 len0 cap0 l0 a1 a2 W hr0 hc0 hq0 w1 w2).mono fun e W' ⟨he, bel⟩ => ?_
  subst he
  exact ⟨_, rfl, _, _, _, [], _, [], hW', trodAll_mk1 (shut_bool Try.underlying4 _), (trodAll_cons_mk (Below.trod laidOut (by kernel_rfl) (of_decide_eq_true (by kernel_rfl)) k0 bel lt0) (trodAll_cons_mk (shut_int Try.underlying56 w1) (trodAll_cons_mk (shut_int Try.underlying56 w2) trodAll_mk0))), rfl, bel.frame _, fun h => by cases h⟩
theorem over : Rows.tierRollsRow.holds Try.pinned (OpenSpec.ofChange Rows.tierRollsSpec) :=
  OpenClaim.holds_of_wide 8 Try.f8 rfl rfl rfl rfl rfl rfl rfl ⟨rfl, rfl, rfl, rfl, rfl⟩ rfl rfl rfl rfl rfl (by kernel_rfl) Try.func8 (by kernel_rfl)
    (of_decide_eq_true (by kernel_rfl)) (by unfold Func.isWrapper; first | (rw [if_pos (by decide +kernel)]; kernel_rfl) | (rw [if_neg (by decide +kernel)]; exact ⟨rfl, rfl⟩))
    (fun os started H enc _ => lifted os started H enc)
theorem proved : Rows.TierRollsSaid := over
#print axioms proved
end Go.Proofs.Ytnjdngjlbonieaa.tierRollsRow
namespace Go.Proofs.Ytnjdngjlbonieaa
/-- The row, under a short name, for the claim. -/
theorem tierRolls_holds : Rows.TierRollsSaid := tierRollsRow.proved
end Go.Proofs.Ytnjdngjlbonieaa
