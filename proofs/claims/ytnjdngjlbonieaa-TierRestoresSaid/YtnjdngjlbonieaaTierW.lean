/- Acts in a row, out of what a law is handed. -/
import Derived.Test.YtnjdngjlbonieaaTierO
import Derived.Test.YtnjdngjlbonieaaOpen
import Derived.ProofKit
import Derived.OpenShut
import Derived.Lib.Hide
import Derived.LoopTactic
import Derived.Outline
import Derived.Laws.Rows
import Derived.Laws.CopyOwn
import Derived.WalkKit
set_option linter.unusedVariables false
set_option linter.unusedSimpArgs false
namespace Go.Proofs.Ytnjdngjlbonieaa
open Go.RowKit Go.Proofs.YtnjdngjlbonieaaW.PrintWords Go.Proofs.YtnjdngjlbonieaaW.PrintLast Go.Proofs.YtnjdngjlbonieaaW.PrintMore
open Go.Proofs.Ytnjdngjlbonieaa.PTierForgets
attribute [local go_sem] max2_int min2_int max_two min_two max_three min_three max_four min_four

open Go.ChangeShapes Go.WideShapes Go.ChangeAt
section
variable {H : Type} {enc : TypeId × Value → H} {W : World} {spare : Nat → Bool} {held : Bool}
theorem open_points {n : Nat} {c : Value} {y : DataW H × List MemPlace} (h : DataW.trod enc Try.prog W 0 spare held n 22 [c] = some y) : ∃ (A : Option Addr) (cap : Nat) (l : List S29), c = .slice A l.length cap ∧ Kd.C k29 W A l.length l := by
  rcases Go.Proofs.Ytnjdngjlbonieaa.Open.open_slice_fields Try.underlying22 Try.underlying29 (by kernel_rfl) (by kernel_rfl) h with ⟨hcs, _⟩ | ⟨x, l, c', m, hcs, _, hlc, hcm, hm, hi⟩
  · obtain rfl := (List.cons.inj hcs).1
    exact ⟨none, 0, [], rfl, ⟨rfl, by decide, fun h => by cases h⟩⟩
  · obtain rfl := (List.cons.inj hcs).1
    have hml : l ≤ m := by rw [hm]; split <;> omega
    have each : ∀ i, i < l → ∃ (x_ : S29) (c_ : List Value), (fun _ : S29 => True) x_ ∧ c_.length = 2 ∧ (fun (p : S29) c => c = [.int .i64 p.f0, .int .i64 p.f1]) x_ c_ ∧ ∀ j u, c_[j]? = some u → W.cell? (x.add (i * 2 + j)) = some u := by
      intro i hi'
      obtain ⟨ys, n, _, hf'⟩ := hi i (by omega)
      obtain ⟨u0, y0, hcell0, _, ht0⟩ := hf' 0 _ rfl
      obtain ⟨b0, e_b0, rfl, w_b0⟩ := DataW.trod_int Try.underlying2 ht0
      obtain rfl := (List.cons.inj e_b0).1
      obtain ⟨u1, y1, hcell1, _, ht1⟩ := hf' 1 _ rfl
      obtain ⟨b1, e_b1, rfl, w_b1⟩ := DataW.trod_int Try.underlying2 ht1
      obtain rfl := (List.cons.inj e_b1).1
      refine ⟨⟨b0, b1⟩, [.int .i64 b0, .int .i64 b1], trivial, rfl, rfl, fun j u hj => ?_⟩
      match j, hj with
      | 0, hj => simp at hj; subst hj; exact hcell0
      | 1, hj => simp at hj; subst hj; exact hcell1
    obtain ⟨l', h1, _⟩ := Go.Proofs.Ytnjdngjlbonieaa.Open.row_read _ hlc hcm each
    obtain ⟨rfl, hC⟩ := reads_C h1
    exact ⟨some x, c', l', rfl, hC⟩
set_option maxRecDepth 100000 in
theorem open_acts {n : Nat} {A : Option Addr} {len cap : Nat} {y : DataW H × List MemPlace} (h : DataW.trod enc Try.prog W 0 spare held n 63 [.slice A len cap] = some y) : ∃ L : List ActT, len = L.length ∧ SrcT A L W := by
  have s70 : Try.prog.cellsOf 70 = 5 := by kernel_rfl
  have s3 : Try.prog.cellsOf 3 = 1 := by kernel_rfl
  have s2 : Try.prog.cellsOf 2 = 1 := by kernel_rfl
  have s22 : Try.prog.cellsOf 22 = 1 := by kernel_rfl
  have s42 : Try.prog.cellsOf 42 = 2 := by kernel_rfl
  rcases Go.Deep.open_slice Try.underlying63 h with ⟨hcs, _⟩ | ⟨a, l, c, m, n2, D, Pl, hcs, _, hlc, hcm, hm, _, hi⟩
  · have e := (List.cons.inj hcs).1
    injection e with e1 e2 e3
    subst e1 e2
    exact ⟨[], rfl, ⟨⟨rfl, by decide, fun h => by cases h⟩, fun x hx => by cases hx⟩⟩
  · have e := (List.cons.inj hcs).1
    injection e with e1 e2 e3
    subst e1 e2 e3
    have hml : len ≤ m := by rw [hm]; split <;> omega
    have each : ∀ i, i < len → ∃ (x_ : ActT) (c_ : List Value), (fun x : ActT => Kd.C k29 W x.A x.l.length x.l) x_ ∧ c_.length = 5 ∧ (fun (x : ActT) c => c = actC x) x_ c_ ∧ ∀ j u, c_[j]? = some u → W.cell? (a.add (i * 5 + j)) = some u := by
      intro i hi'
      obtain ⟨cs', hc, ht'⟩ := hi i (by omega)
      rw [s70] at hc
      obtain ⟨_, hcl, hat⟩ := World.cells?_some hc
      obtain ⟨ys, n', hn', hy, hlen, hyl, hf⟩ := DataW.trod_struct Try.underlying70 ht'
      match cs', hcl with
      | [c0, c1, c2, c3, c4], _ =>
        match ys, hyl with
        | [y0, y1, y2, y3], _ =>
          have f0 := hf 0 _ rfl
          have f1 := hf 1 _ rfl
          have f2 := hf 2 _ rfl
          have f3 := hf 3 _ rfl
          simp [s3, s2, s22, s42] at f0 f1 f2 f3
          obtain ⟨b0, e0, _, _⟩ := DataW.trod_int Try.underlying3 f0
          obtain rfl := (List.cons.inj e0).1
          obtain ⟨b1, e1, _, _⟩ := DataW.trod_int Try.underlying2 f1
          obtain rfl := (List.cons.inj e1).1
          obtain ⟨Ax, cx, lx, rfl, hC⟩ := open_points f2
          obtain ⟨z0, z1, n3, _, _, g0, g1⟩ := trod_struct2 Try.underlying42 f3
          simp [s2] at g0 g1
          obtain ⟨b3, e3, _, _⟩ := DataW.trod_int Try.underlying2 g0
          obtain rfl := (List.cons.inj e3).1
          obtain ⟨b4, e4, _, _⟩ := DataW.trod_int Try.underlying2 g1
          obtain rfl := (List.cons.inj e4).1
          refine ⟨⟨b0, b1, Ax, cx, lx, b3, b4⟩, _, hC, rfl, rfl, fun j u hj => ?_⟩
          have hj5 : j < 5 := (List.getElem?_eq_some_iff.1 hj).1
          rw [← Go.Deep.add_add]
          exact (hat j hj5).trans hj
    obtain ⟨L, h1, h2⟩ := Go.Proofs.Ytnjdngjlbonieaa.Open.row_read _ hlc hcm each
    obtain rfl := h1.1
    exact ⟨L, rfl, ⟨h1, h2⟩⟩
end
end Go.Proofs.Ytnjdngjlbonieaa
