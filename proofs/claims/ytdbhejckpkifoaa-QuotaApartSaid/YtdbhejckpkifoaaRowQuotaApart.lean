/- The row of the law QuotaApart, out of its walk (Go.Proofs.Ytdbhejckpkifoaa.quotaApart_walk): its arguments opened; true for every input; each argument reads behind the call as it read before. -/
import Derived.Test.YtdbhejckpkifoaaRows
import Derived.Test.YtdbhejckpkifoaaOpen
import Derived.Test.YtdbhejckpkifoaaQuotL
import Derived.WalkKit
import Derived.ProofKit
import Derived.OpenShut
import Derived.ShutString
import Derived.ChangeOld
import Derived.Below
import Derived.SizedLaws
import Derived.Carry
import Derived.Test.YtdbhejckpkifoaaWSized
namespace Go.Proofs.Ytdbhejckpkifoaa.quotaApartRow
open Go.ChangeShapes Go.WideShapes Go.ChangeAt Go.RowKit
open Go.ChangeMaps (open_string shut_string)
open Go.Proofs.YtdbhejckpkifoaaW.PrintWords
set_option linter.unusedVariables false
theorem own : ownKnob Try.prog.godebug = none := by kernel_rfl
theorem laidOut : laidOutB Try.prog = true := by kernel_rfl
set_option maxRecDepth 100000 in
theorem lifted (os : Os) (started : os.Started) (H : Type) (enc : TypeId × Value → H) :
    ReturnsInHanded {} Try.checked os 9 .any (Rows.quotaApartSpec.pre6 enc Try.prog Try.f9 Rows.quotaApartRow.domain false) (Rows.quotaApartSpec.post enc Try.prog Try.f9 false true false false) := by
  refine returnsInHanded_of_change_sized (C := Try.checked) own started (by kernel_rfl) Try.func9
    (ChangeSpec.witness6 (enc := enc) (C := Try.checked) false ⟨#[], #[.int .i64 0, .int .i64 0, .slice none 0 0, .slice none 0 0], []⟩ 8 (by kernel_rfl) (by kernel_rfl) (by kernel_rfl) (by kernel_rfl)) ?_
  intro W base args ds gs before hval0 hW hcnd hsz0 _
  have hsz : (DataW.weightsEach Try.prog (Try.f9.params.toList ++ Rows.quotaApartSpec.plain.varTypes Try.prog) (ds ++ gs)).all (· ≤ reachBytes) = true := hsz0
  have hval : ∀ (j : Nat) t v, Try.f9.params[j]? = some t → args[j]? = some v → Value.okWide Try.prog W .any base t v := hval0
  have hW' := hW
  obtain ⟨p, q, hA0, hV, rfl, hfz, hnd⟩ := hW
  have hA : DataW.TrodAll enc Try.prog W 0 (fun _ => true) true Try.f9.params.toList args.toList ds p := hA0
  rw [Try.params9] at hA hval hsz
  obtain ⟨v0, vs0, d0, ds0, p0, q0, hargs, rfl, rfl, h0, r0⟩ := trodAll_cons hA
  obtain ⟨v1, vs1, d1, ds1, p1, q1, rfl, rfl, rfl, h1, r1⟩ := trodAll_cons r0
  obtain ⟨v2, vs2, d2, ds2, p2, q2, rfl, rfl, rfl, h2, r2⟩ := trodAll_cons r1
  obtain ⟨v3, vs3, d3, ds3, p3, q3, rfl, rfl, rfl, h3, r3⟩ := trodAll_cons r2
  obtain ⟨rfl, rfl, rfl⟩ := trodAll_nil r3
  obtain rfl : args = #[v0, v1, v2, v3] := by cases args; simp_all
  obtain ⟨rfl, rfl⟩ := trodVars_none hV
  obtain ⟨a0, rfl, rfl, rfl, w0⟩ := open_int Try.underlying2 (hval 0 2 v0 rfl rfl) h0
  obtain ⟨a1, rfl, rfl, rfl, w1⟩ := open_int Try.underlying2 (hval 1 2 v1 rfl rfl) h1
  obtain ⟨A2, len2, cap2, rfl⟩ := okWide_slice Try.underlying55 (hval 2 55 v2 rfl rfl)
  have k2 := h2
  have lt2 : ∀ x ∈ p2, x.block < W.heap.size := by obtain ⟨m, hm⟩ := k2; exact DataW.trod_lt m _ _ _ hm
  obtain ⟨l2, hr2, hq2, hc2⟩ : ∃ l : List ActQ, ReadsRow (fun (p : ActQ) c => c = [.int .i64 p.f0, .string p.f1, .int .i64 p.f2, .int .i64 p.f3]) 4 W A2 len2 l ∧ (∀ p ∈ l, (Lit.int .i64 p.f0).wf = true ∧ p.f1.size ≤ maxLen ∧ (Lit.int .i64 p.f2).wf = true ∧ (Lit.int .i64 p.f3).wf = true) ∧ len2 ≤ cap2 := by
    obtain ⟨fuel, hf⟩ := h2
    rcases Go.Proofs.Ytdbhejckpkifoaa.Open.open_slice_fields Try.underlying55 Try.underlying61 (by kernel_rfl) (by kernel_rfl) hf with ⟨hcs, _⟩ | ⟨x, l, c, m, hcs, _, hlc, hcm, hm, hi⟩
    · simp [Value.cells] at hcs
      obtain ⟨rfl, rfl, rfl⟩ := hcs
      exact ⟨[], ⟨rfl, by omega, fun h => by omega⟩, by simp, by omega⟩
    · simp [Value.cells] at hcs
      obtain ⟨rfl, rfl, rfl⟩ := hcs
      have hmc : m = cap2 := by simpa using hm
      have each : ∀ i, i < len2 → ∃ (x_ : ActQ) (c_ : List Value), (fun p : ActQ => (Lit.int .i64 p.f0).wf = true ∧ p.f1.size ≤ maxLen ∧ (Lit.int .i64 p.f2).wf = true ∧ (Lit.int .i64 p.f3).wf = true) x_ ∧ c_.length = 4 ∧ (fun (p : ActQ) c => c = [.int .i64 p.f0, .string p.f1, .int .i64 p.f2, .int .i64 p.f3]) x_ c_ ∧ ∀ j u, c_[j]? = some u → W.cell? (x.add (i * 4 + j)) = some u := by
        intro i hi'
        obtain ⟨ys, n, _, hf'⟩ := hi i (by omega)
        obtain ⟨u0, y0, hcell0, _, ht0⟩ := hf' 0 _ rfl
        obtain ⟨b0, e_b0, rfl, w_b0⟩ := DataW.trod_int Try.underlying3 ht0
        obtain rfl := (List.cons.inj e_b0).1
        obtain ⟨u1, y1, hcell1, _, ht1⟩ := hf' 1 _ rfl
        obtain ⟨b1, e_b1, rfl, w_b1⟩ := DataW.trod_string Try.underlying9 ht1
        obtain rfl := (List.cons.inj e_b1).1
        obtain ⟨u2, y2, hcell2, _, ht2⟩ := hf' 2 _ rfl
        obtain ⟨b2, e_b2, rfl, w_b2⟩ := DataW.trod_int Try.underlying2 ht2
        obtain rfl := (List.cons.inj e_b2).1
        obtain ⟨u3, y3, hcell3, _, ht3⟩ := hf' 3 _ rfl
        obtain ⟨b3, e_b3, rfl, w_b3⟩ := DataW.trod_int Try.underlying2 ht3
        obtain rfl := (List.cons.inj e_b3).1
        refine ⟨⟨b0, b1, b2, b3⟩, [.int .i64 b0, .string b1, .int .i64 b2, .int .i64 b3], ⟨w_b0, w_b1, w_b2, w_b3⟩, rfl, rfl, fun j u hj => ?_⟩
        match j, hj with
        | 0, hj => simp at hj; subst hj; exact hcell0
        | 1, hj => simp at hj; subst hj; exact hcell1
        | 2, hj => simp at hj; subst hj; exact hcell2
        | 3, hj => simp at hj; subst hj; exact hcell3
      obtain ⟨l', h1, h2⟩ := Go.Proofs.Ytdbhejckpkifoaa.Open.row_read _ hlc hcm each
      exact ⟨l', h1, h2, hlc⟩
  obtain ⟨A3, len3, cap3, rfl⟩ := okWide_slice Try.underlying55 (hval 3 55 v3 rfl rfl)
  have k3 := h3
  have lt3 : ∀ x ∈ p3, x.block < W.heap.size := by obtain ⟨m, hm⟩ := k3; exact DataW.trod_lt m _ _ _ hm
  obtain ⟨l3, hr3, hq3, hc3⟩ : ∃ l : List ActQ, ReadsRow (fun (p : ActQ) c => c = [.int .i64 p.f0, .string p.f1, .int .i64 p.f2, .int .i64 p.f3]) 4 W A3 len3 l ∧ (∀ p ∈ l, (Lit.int .i64 p.f0).wf = true ∧ p.f1.size ≤ maxLen ∧ (Lit.int .i64 p.f2).wf = true ∧ (Lit.int .i64 p.f3).wf = true) ∧ len3 ≤ cap3 := by
    obtain ⟨fuel, hf⟩ := h3
    rcases Go.Proofs.Ytdbhejckpkifoaa.Open.open_slice_fields Try.underlying55 Try.underlying61 (by kernel_rfl) (by kernel_rfl) hf with ⟨hcs, _⟩ | ⟨x, l, c, m, hcs, _, hlc, hcm, hm, hi⟩
    · simp [Value.cells] at hcs
      obtain ⟨rfl, rfl, rfl⟩ := hcs
      exact ⟨[], ⟨rfl, by omega, fun h => by omega⟩, by simp, by omega⟩
    · simp [Value.cells] at hcs
      obtain ⟨rfl, rfl, rfl⟩ := hcs
      have hmc : m = cap3 := by simpa using hm
      have each : ∀ i, i < len3 → ∃ (x_ : ActQ) (c_ : List Value), (fun p : ActQ => (Lit.int .i64 p.f0).wf = true ∧ p.f1.size ≤ maxLen ∧ (Lit.int .i64 p.f2).wf = true ∧ (Lit.int .i64 p.f3).wf = true) x_ ∧ c_.length = 4 ∧ (fun (p : ActQ) c => c = [.int .i64 p.f0, .string p.f1, .int .i64 p.f2, .int .i64 p.f3]) x_ c_ ∧ ∀ j u, c_[j]? = some u → W.cell? (x.add (i * 4 + j)) = some u := by
        intro i hi'
        obtain ⟨ys, n, _, hf'⟩ := hi i (by omega)
        obtain ⟨u0, y0, hcell0, _, ht0⟩ := hf' 0 _ rfl
        obtain ⟨b0, e_b0, rfl, w_b0⟩ := DataW.trod_int Try.underlying3 ht0
        obtain rfl := (List.cons.inj e_b0).1
        obtain ⟨u1, y1, hcell1, _, ht1⟩ := hf' 1 _ rfl
        obtain ⟨b1, e_b1, rfl, w_b1⟩ := DataW.trod_string Try.underlying9 ht1
        obtain rfl := (List.cons.inj e_b1).1
        obtain ⟨u2, y2, hcell2, _, ht2⟩ := hf' 2 _ rfl
        obtain ⟨b2, e_b2, rfl, w_b2⟩ := DataW.trod_int Try.underlying2 ht2
        obtain rfl := (List.cons.inj e_b2).1
        obtain ⟨u3, y3, hcell3, _, ht3⟩ := hf' 3 _ rfl
        obtain ⟨b3, e_b3, rfl, w_b3⟩ := DataW.trod_int Try.underlying2 ht3
        obtain rfl := (List.cons.inj e_b3).1
        refine ⟨⟨b0, b1, b2, b3⟩, [.int .i64 b0, .string b1, .int .i64 b2, .int .i64 b3], ⟨w_b0, w_b1, w_b2, w_b3⟩, rfl, rfl, fun j u hj => ?_⟩
        match j, hj with
        | 0, hj => simp at hj; subst hj; exact hcell0
        | 1, hj => simp at hj; subst hj; exact hcell1
        | 2, hj => simp at hj; subst hj; exact hcell2
        | 3, hj => simp at hj; subst hj; exact hcell3
      obtain ⟨l', h1, h2⟩ := Go.Proofs.Ytdbhejckpkifoaa.Open.row_read _ hlc hcm each
      exact ⟨l', h1, h2, hlc⟩
  clear hA0 hval0 hsz0 hsz
  refine (Go.Proofs.Ytdbhejckpkifoaa.quotaApart_walk a0 a1 A2 len2 cap2 l2 A3 len3 cap3 l3 W w0 w1 hr2 hc2 hq2 hr3 hc3 hq3).mono fun e W' ⟨he, bel⟩ => ?_
  subst he
  exact ⟨_, rfl, _, _, _, [], _, [], hW', trodAll_mk1 (shut_bool Try.underlying4 _), (trodAll_cons_mk (shut_int Try.underlying2 w0) (trodAll_cons_mk (shut_int Try.underlying2 w1) (trodAll_cons_mk (Below.trod laidOut (by kernel_rfl) (of_decide_eq_true (by kernel_rfl)) k2 bel lt2) (trodAll_cons_mk (Below.trod laidOut (by kernel_rfl) (of_decide_eq_true (by kernel_rfl)) k3 bel lt3) trodAll_mk0)))), rfl, bel.frame _, fun h => by cases h⟩
theorem over : Rows.quotaApartRow.holds Try.pinned (OpenSpec.ofChange Rows.quotaApartSpec) :=
  OpenClaim.holds_of_wide 9 Try.f9 rfl rfl rfl rfl rfl rfl rfl ⟨rfl, rfl, rfl, rfl, rfl⟩ rfl rfl rfl rfl rfl (by kernel_rfl) Try.func9 (by kernel_rfl)
    (of_decide_eq_true (by kernel_rfl)) (by unfold Func.isWrapper; first | (rw [if_pos (by decide +kernel)]; kernel_rfl) | (rw [if_neg (by decide +kernel)]; exact ⟨rfl, rfl⟩))
    (fun os started H enc _ => lifted os started H enc)
theorem proved : Rows.QuotaApartSaid := over
#print axioms proved
end Go.Proofs.Ytdbhejckpkifoaa.quotaApartRow
namespace Go.Proofs.Ytdbhejckpkifoaa
/-- The row, under a short name, for the claim. -/
theorem quotaApart_holds : Rows.QuotaApartSaid := quotaApartRow.proved
end Go.Proofs.Ytdbhejckpkifoaa
