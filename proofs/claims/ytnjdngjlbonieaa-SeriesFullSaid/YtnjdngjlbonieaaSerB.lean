/- slices.Clone of points, walked. -/
import Derived.Test.YtnjdngjlbonieaaSerA
import Derived.WalkSpells
import Derived.Lib.LazyBuf
import Derived.Lib.Hide
import Derived.LoopTactic
import Derived.Outline
import Derived.Laws.Rows
import Derived.Laws.CopyOwn
import Derived.WalkKit
set_option linter.unusedVariables false
set_option linter.unusedSimpArgs false
namespace Go.Proofs.Ytnjdngjlbonieaa
open Go.RowKit Go.Proofs.YtnjdngjlbonieaaW.PrintWords Go.Proofs.YtnjdngjlbonieaaW.PrintLast Go.Proofs.YtnjdngjlbonieaaW.PrintMore
open Go.Proofs.Ytnjdngjlbonieaa.PRollWindows
attribute [local go_sem] max2_int min2_int max_two min_two max_three min_three max_four min_four

open RollOfPure
theorem flat_len (l : List S29) : (l.flatMap cellsP).length = l.length * 2 := by
  induction l with
  | nil => rfl
  | cons a r ih => rw [List.flatMap_cons, List.length_append, ih]; simp; omega
theorem C_cells {w : World} {ad : Addr} {l : List S29} (h : Kd.C k29 w (some ad) l.length l) : ∀ (j : Nat) (u : Value), (l.flatMap cellsP)[j]? = some u → w.cell? (ad.add j) = some u := by
  intro j u hu
  have hlen := flat_len l
  have hj : j < l.length * 2 := by rw [← hlen]; exact (List.getElem?_eq_some_iff.1 hu).1
  obtain ⟨p, hp⟩ : ∃ p, l[j / 2]? = some p := ⟨_, List.getElem?_eq_getElem (by omega)⟩
  obtain ⟨ad2, e, hc⟩ := h.2.2 (by omega)
  injection e with e
  subst e
  obtain ⟨c, h1, h2, h3⟩ := hc (j / 2) p hp
  rw [k29_open h2] at h3
  have e2 : j / 2 * 2 + j % 2 = j := by omega
  have h4 := flat_at cellsP 2 (fun _ => rfl) l (j / 2) p (j % 2) hp (by omega)
  rw [e2, hu] at h4
  have h5 := h3 (j % 2) u h4.symm
  have h6 : w.cell? (ad.add (j / 2 * 2 + j % 2)) = some u := h5
  rw [e2] at h6
  exact h6
theorem nil_eq (W : World) (A : Option Addr) (n c : Nat) : (binOp .eql 22 (.slice A n c) (.slice none 0 0)).run Try.prog W = .ok (.bool A.isNone) W := by
  open Go.Lib in exact run_eql_slice_nil (P := Try.prog) W 22 29 A n c Try.underlying22
/-- What Clone leaves: a row of the call's own. -/
def KPost (l : List S29) (w : World) (e : Ending) (w' : World) : Prop := ∃ v, e = .returned v ∧ w'.ownsRow w.heap.size 29 2 v l.length (l.flatMap cellsP) ∧ Below w.heap.size w w'
set_option maxRecDepth 100000 in
set_option maxHeartbeats 8000000 in
theorem clone_calls (A : Option Addr) (ca : Nat) (l : List S29) (w : World) (h : Kd.C k29 w A l.length l) (hl : l.length ≤ 1000) (hA : A = none → ca = 0) : Calls Try.prog 63 #[.slice A l.length ca] w (KPost l w) := by
  have HL := Aside0.mk h
  clear h
  cases A with
  | none =>
    have hn : l.length = 0 := by
      refine Classical.byContradiction fun hc => ?_
      obtain ⟨ad, e, _⟩ := HL.out.2.2 (by omega)
      cases e
    have hl0 : l = [] := List.length_eq_zero_iff.1 hn
    subst hl0
    have hc0 := hA rfl
    subst hc0
    have hn0 : ∀ W, (binOp .eql 22 (.slice none 0 0) (.slice none 0 0)).run Try.prog W = .ok (.bool true) W := fun W => nil_eq W none 0 0
    go_enter Try.func63, Try.ntmps63
    go_wp2
    go_ret
    exact ⟨_, rfl, World.ownsRow_nil _ _ _ _, Below.refl _ _⟩
  | some ad =>
    obtain ⟨i29, hi29, z0, z1, z2⟩ := info_parts info29
    have HC := Lib.hid (C_cells HL.out)
    have HO := Aside0.mk (World.ownsRow_made (size := 2) (e := 29) (base := w.heap.size) w #[] 0 (Nat.le_refl _) (by unfold maxLen; omega) rfl)
    have hn0 : ∀ W, (binOp .eql 22 (.slice (some ad) l.length ca) (.slice none 0 0)).run Try.prog W = .ok (.bool false) W := fun W => nil_eq W (some ad) l.length ca
    go_enter Try.func63, Try.ntmps63
    go_wp2_with (first | (at_builtin; refine wpList_append_own _ rfl _ _ 22 rfl w.heap.size 29 i29 (.agg #[.int .i64 0, .int .i64 0]) 2 16 Try.underlying22 hi29 z0 z1 z2 rfl (by decide) _ 0 _ rfl HO.out ad l.length ca (l.flatMap cellsP) rfl (flat_len l) (fun j u hu => bread ((Below.refl _ _).alloc (Nat.le_refl _) _) (HC.out j u hu)) (fun u hu => by simp only [List.mem_flatMap, List.mem_cons, List.not_mem_nil, or_false] at hu; obtain ⟨p, _, rfl | rfl⟩ := hu <;> rfl) (by unfold maxLen; omega) (by omega) (by simp) ?_) | go_in)
    intro v1 w1 ho hg _
    have HO1 := Aside0.mk (show w1.ownsRow w.heap.size 29 2 v1 l.length (l.flatMap cellsP) by simpa using ho)
    have HB1 := Aside0.mk (((Below.refl w.heap.size w).alloc (Nat.le_refl _) (.cells #[] 29)).grown hg (by simp) (fun q hq => (HO.out.lt q hq).1))
    clear ho hg
    go_wp2
    go_ret
    exact ⟨_, rfl, HO1.out, HB1.out⟩
end Go.Proofs.Ytnjdngjlbonieaa
