/- slices.Insert of one point into a row of the call's own: at its end. -/
import Derived.Test.YtnjdngjlbonieaaSerB
import Derived.Lib.Hide
import Derived.LoopTactic
import Derived.Outline
import Derived.Laws.Rows
import Derived.Laws.CopyOwn
import Derived.WalkKit
set_option linter.unusedVariables false
set_option linter.unusedSimpArgs false
namespace Go.Proofs.Ytnjdngjlbonieaa
open Go.RowKit Go.Proofs.YtnjdngjlbonieaaW.PrintWords Go.Proofs.YtnjdngjlbonieaaW.PrintLast Go.Proofs.YtnjdngjlbonieaaW.PrintMore
open Go.Proofs.Ytnjdngjlbonieaa.PRollWindows
attribute [local go_sem] max2_int min2_int max_two min_two max_three min_three max_four min_four

open RollOfPure
/-- What Insert leaves. -/
def IPost (B n : Nat) (ys : List Value) (v : Value) (w : World) (e : Ending) (w' : World) : Prop := ∃ v', e = .returned v' ∧ w'.ownsRow B 29 2 v' (n + 1) ys ∧ w.grownBy w' v.ownBlock
set_option maxRecDepth 100000 in
set_option maxHeartbeats 8000000 in
theorem insert_end (B n c nb : Nat) (A : Option Addr) (xs : List Value) (a b : Int) (w : World) (h : w.ownsRow B 29 2 (.slice A n c) n xs) (hB : B ≤ w.heap.size) (hn : n ≤ 1000) (h0 : w.cell? ⟨nb, 0, none⟩ = some (.int .i64 a)) (h1 : w.cell? ⟨nb, 1, none⟩ = some (.int .i64 b)) :
    Calls Try.prog 89 #[.slice A n c, .int .i64 (n : Int), .slice (some ⟨nb, 0, none⟩) 1 1] w (IPost B n (xs ++ [.int .i64 a, .int .i64 b]) (.slice A n c) w) := by
  have hnc : n ≤ c := by
    rcases h.2 with ⟨e, h0⟩ | ⟨g, c2, cur, e, _, _, h1, _⟩
    · omega
    · injection e with _ _ e2; omega
  have hnI : (n : Int) ≤ (c : Int) := by omega
  have HO := Aside0.mk h
  have HN := Lib.hid (show ∀ (j : Nat) (u : Value), [Value.int .i64 a, .int .i64 b][j]? = some u → w.cell? ((⟨nb, 0, none⟩ : Addr).add j) = some u from fun j u hu => by
    have e : (⟨nb, 0, none⟩ : Addr).add j = ⟨nb, j, none⟩ := by simp [Addr.add]; intro h; exact h.symm
    rw [e]
    rcases j with _ | _ | j
    · injection hu with hu; subst hu; exact h0
    · injection hu with hu; subst hu; exact h1
    · cases hu)
  have HB := Aside0.mk hB
  obtain ⟨i29, hi29, z0, z1, z2⟩ := info_parts info29
  have en : ((n : Int) == (n : Int)) = true := beq_self_eq_true _
  have en2 : (n == n) = true := beq_self_eq_true _
  clear h hB h0 h1
  by_cases hcn : c = n
  · have hcn' : n = c := hcn.symm
    subst hcn'
    go_enter Try.func89, Try.ntmps89
    go_wp2_with (first | (at_builtin; refine wpList_append_own _ rfl _ _ 22 rfl B 29 i29 (.agg #[.int .i64 0, .int .i64 0]) 2 16 Try.underlying22 hi29 z0 z1 z2 rfl (by decide) _ n _ rfl HO.out ⟨nb, 0, none⟩ 1 1 [.int .i64 a, .int .i64 b] rfl rfl HN.out (by simp [Value.oneCell']) (by unfold maxLen; omega) (by omega) HB.out ?_) | go_in)
    intro v1 w1 ho hg _
    have HO1 := Aside0.mk ho
    have HG1 := Aside0.mk hg
    clear ho hg
    go_wp2
    go_ret
    exact ⟨_, rfl, HO1.out, HG1.out⟩
  · have hcn2 : ¬ n = c := fun e => hcn e.symm
    go_enter Try.func89, Try.ntmps89
    go_wp2_with (first | (at_builtin; refine wpList_append_own _ rfl _ _ 22 rfl B 29 i29 (.agg #[.int .i64 0, .int .i64 0]) 2 16 Try.underlying22 hi29 z0 z1 z2 rfl (by decide) _ n _ rfl HO.out ⟨nb, 0, none⟩ 1 1 [.int .i64 a, .int .i64 b] rfl rfl HN.out (by simp [Value.oneCell']) (by unfold maxLen; omega) (by omega) HB.out ?_) | go_in)
    intro v1 w1 ho hg _
    have HO1 := Aside0.mk ho
    have HG1 := Aside0.mk hg
    clear ho hg
    go_wp2
    go_ret
    exact ⟨_, rfl, HO1.out, HG1.out⟩
end Go.Proofs.Ytnjdngjlbonieaa
