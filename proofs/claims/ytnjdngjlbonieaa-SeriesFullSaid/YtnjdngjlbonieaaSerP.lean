/- slices.Delete of points of a row of the call's own, walked; series.Cut. -/
import Derived.Test.YtnjdngjlbonieaaSerO
import Derived.Lib.Hide
import Derived.LoopTactic
import Derived.Outline
import Derived.Laws.Rows
import Derived.Laws.CopyOwn
import Derived.WalkKit
set_option linter.unusedVariables false
set_option linter.unusedSimpArgs false
namespace Go.Proofs.Ytnjdngjlbonieaa
open Go.RowKit Go.Proofs.YtnjdngjlbonieaaW.PrintWords Go.Proofs.YtnjdngjlbonieaaW.PrintLast Go.Proofs.YtnjdngjlbonieaaW.PrintMore
open Go.Proofs.Ytnjdngjlbonieaa.PRollWindows
attribute [local go_sem] max2_int min2_int max_two min_two max_three min_three max_four min_four

open RollOfPure
theorem run_clear29 (w : World) (g o n c : Nat) (cur : Array Value) (hg : w.heap[g]? = some (.cells cur 29 (0, 0))) (hn : 0 < n) (hfit : o + n * 2 ≤ cur.size) (ty : TypeId) :
    (Builtin.clear_ #[22] ty #[.slice (some ⟨g, o, none⟩) n c]).run Try.prog w = .ok (.tuple #[]) (w.setRow g (cur.toList.take o ++ (Builtin.zeroCells (Value.agg #[.int .i64 0, .int .i64 0]).cells n).toList ++ cur.toList.drop (o + n * 2)).toArray) := by
  obtain ⟨i29, hi29, z0, z1, z2⟩ := info_parts info29
  have hl : (Builtin.zeroCells (Value.agg #[.int .i64 0, .int .i64 0]).cells n).toList.length = n * 2 := by rw [Array.length_toList, zc_size]
  have hst := run_storeCells_at Try.prog g o 29 (Builtin.zeroCells (Value.agg #[.int .i64 0, .int .i64 0]).cells n).toList 0 cur w hg (by rw [hl]; simpa using hfit) (fun v hv => by
    have : v = .int .i64 0 := by
      simp [Builtin.zeroCells, Value.cells] at hv
      obtain ⟨a, _, ha⟩ := hv
      rcases Nat.mod_two_eq_zero_or_one a with h | h <;> rw [h] at ha <;> exact ha.symm
    rw [this]; rfl)
  rw [hl] at hst
  have hn0 : n ≠ 0 := by omega
  cases n with
  | zero => omega
  | succ n =>
    simp only [Nat.add_zero] at hst
    simp [Builtin.clear_, run_underlying Try.underlying22, zeroValue, typeInfo, hi29, z0, hst]
section
variable {P : Program} {ops : Array Oper} {Q : Exit → Act → World → Prop}
/-- append as an arm of a drawn region's walk: its run is known. -/
theorem appends_ {oi : Oper} {N : Option Tmp} {a : Act} {w w1 : World} {v : Value} {K : Act → World → Prop} (s x : Operand) (t ty : TypeId) (v0 u0 : Value) (hw : Region.wanted oi (yielded ops a.tmps) = true) (hN : oi.dst = N) (ho : oi.op = .call { callee := .builtin .append, args := #[s, x], argTypes := #[t, t] }) (hty : oi.type = ty)
    (hs : a.eval s = v0) (hx : a.eval x = u0) (hr : (Builtin.append_ #[t, t] ty #[v0, u0]).run P w = .ok v w1) (h : K (a.put N v) w1) : if Region.wanted oi (yielded ops a.tmps) = true then Oper.wp P oi a w K Q else K (a.put N undef) w := by
  rw [if_pos hw]
  subst hN
  subst hty
  unfold Oper.wp execOp
  simp only [ho, resolve, invoke, builtin, Sem.run_bind, Sem.run_pure, Result.andThen_ok, List.map_toArray, List.map_cons, List.map_nil, hs, hx, hr]
  exact h
end
/-- What Delete leaves. -/
def DelPost (B : Nat) (l : List S29) (v : Value) (w : World) (e : Ending) (w' : World) : Prop := ∃ v', e = .returned v' ∧ w'.ownsRow B 29 2 v' l.length (l.flatMap cellsP) ∧ w.grownBy w' v.ownBlock
set_option maxRecDepth 100000 in
set_option maxHeartbeats 16000000 in
theorem delete_calls (B g c i j : Nat) (l : List S29) (w : World) (h : w.ownsRow B 29 2 (.slice (some ⟨g, 0, none⟩) l.length c) l.length (l.flatMap cellsP)) (hn : l.length ≤ 1000) (hij : i < j) (hj : j ≤ l.length) :
    Calls Try.prog 64 #[.slice (some ⟨g, 0, none⟩) l.length c, .int .i64 (i : Int), .int .i64 (j : Int)] w (DelPost B (l.take i ++ l.drop j) (.slice (some ⟨g, 0, none⟩) l.length c) w) := by
  obtain ⟨i29, hi29, z0, z1, z2⟩ := info_parts info29
  obtain ⟨n, hnn⟩ : ∃ n, n = l.length := ⟨_, rfl⟩
  have hlen : (l.take i ++ l.drop j).length = i + (n - j) := by rw [List.length_append, List.length_take, List.length_drop]; omega
  obtain ⟨g2, c2, cur, he, hg, hnc, hcm, hcs, hct⟩ := row_pos h (by omega)
  have he1 : g2 = g ∧ c2 = c := by
    injection he with e1 e2 e3
    injection e1 with e1
    injection e1 with e1
    exact ⟨e1.symm, e3.symm⟩
  obtain ⟨rfl, rfl⟩ := he1
  have hBg : B ≤ g2 := (h.lt g2 rfl).1
  have hpre : w.ownsRow B 29 2 (.slice (some ⟨g2, 0, none⟩) i c2) i ((l.take i).flatMap cellsP) := by
    refine ⟨by rw [flat_len, List.length_take]; omega, .inr ⟨g2, c2, cur, rfl, hBg, hg, by omega, hcm, hcs, ?_⟩⟩
    rw [← flat_take, ← hct, List.take_take, Nat.min_eq_left (by omega)]
  obtain ⟨m, hm⟩ : ∃ m, m = i + (n - j) := ⟨_, rfl⟩
  have hmn : m < n := by omega
  have hsrc : ∀ (ad : Addr), (c2 = j ∨ ad = ⟨g2, j * 2, none⟩) → ∀ (k : Nat) (u : Value), ((l.drop j).flatMap cellsP)[k]? = some u → w.drew.cell? (ad.add k) = some u := fun ad had k u hu => by
    rcases had with had | rfl
    · rw [List.drop_of_length_le (by omega)] at hu
      cases hu
    · rw [← flat_drop, List.getElem?_drop] at hu
      have := h.cells (g := g2) rfl _ u hu
      rw [Addr.add_lit, Nat.zero_add] at this
      rw [Addr.add_lit]
      exact this
  have happ : ∀ (ad : Addr) cc, (c2 = j ∨ ad = ⟨g2, j * 2, none⟩) → ∃ w1, (Builtin.append_ #[22, 22] 22 #[.slice (some ⟨g2, 0, none⟩) i c2, .slice (some ad) (n - j) cc]).run Try.prog w.drew = .ok (.slice (some ⟨g2, 0, none⟩) m c2) w1 ∧ w1.ownsRow B 29 2 (.slice (some ⟨g2, 0, none⟩) m c2) m ((l.take i ++ l.drop j).flatMap cellsP) ∧ w.drew.grownBy w1 (some g2) := fun ad cc had => by
    rw [hm, List.flatMap_append]
    exact run_append_fits w.drew B 22 22 29 i29 2 Try.underlying22 hi29 z1 g2 i c2 _ hpre ad (n - j) cc _ (by rw [flat_len, List.length_drop]; omega) (hsrc ad had) (one_cells _) (by omega)
  have hclr : ∀ (w1 : World), w1.ownsRow B 29 2 (.slice (some ⟨g2, 0, none⟩) m c2) m ((l.take i ++ l.drop j).flatMap cellsP) → w.drew.grownBy w1 (some g2) → ∃ w2, (∀ ty, (Builtin.clear_ #[22] ty #[.slice (some ⟨g2, m * 2, none⟩) (n - m) (c2 - m)]).run Try.prog w1 = .ok (.tuple #[]) w2) ∧ DelPost B (l.take i ++ l.drop j) (.slice (some ⟨g2, 0, none⟩) n c2) w (.returned (.slice (some ⟨g2, 0, none⟩) m c2)) w2 := fun w1 ho1 hg1 => by
    rcases ho1.2 with ⟨h1, h2⟩ | ⟨g3, c3, cur1, he3, hB3, hg3, h4, h5, h6, h7⟩
    · injection h1 with h1; cases h1
    · injection he3 with e1 e2 e3
      injection e1 with e1
      injection e1 with e1
      subst e1
      subst e3
      refine ⟨_, fun ty => run_clear29 w1 g2 (m * 2) (n - m) (c2 - m) cur1 hg3 (by omega) (by omega) ty, _, rfl, ⟨ho1.1.trans (by rw [hlen, hm]), .inr ⟨g2, c2, _, by rw [hlen, hm], hBg, setRow_heap _ _ _ _ _ _ hg3, by omega, hcm, ?_, ?_⟩⟩, ⟨hg1.os, hg1.tape, hg1.output, by simpa using hg1.size, fun k hk hkn => ?_⟩⟩
      · simp only [List.size_toArray, List.length_append, List.length_take, List.length_drop, Array.length_toList, zc_size]
        omega
      · rw [hlen, ← hm, ← h7, List.append_assoc]
        show ((cur1.toList.take (m * 2) ++ _).take (m * 2)) = _
        exact List.take_left' (by rw [List.length_take, Array.length_toList]; omega)
      · exact (setRow_other _ _ _ _ (fun e => hkn (by rw [e]; rfl))).trans (hg1.block k hk hkn)
  rw [← hnn]
  have HBB : B ≤ g2 := hBg
  have hu22 := Try.underlying22
  have e1 : ((i : Int) == (j : Int)) = false := beq_eq_false_iff_ne.2 (by omega)
  have e2 : (i == j) = false := beq_eq_false_iff_ne.2 (by omega)
  have hle1 : (i : Int) ≤ (j : Int) := by omega
  have hle2 : (j : Int) ≤ (n : Int) := by omega
  have hle3 : (n : Int) ≤ (c2 : Int) := by omega
  have hle4 : (m : Int) ≤ (n : Int) := by omega
  have hle5 : (i : Int) ≤ (c2 : Int) := by omega
  have n1 : i ≤ j := by omega
  have n2 : j ≤ n := by omega
  have n3 : n ≤ c2 := by omega
  have n4 : m ≤ n := by omega
  have n5 : i ≤ c2 := by omega
  have n6 : j ≤ c2 := by omega
  have nci : ¬ (c2 = i) := by omega
  have ncm : ¬ (c2 = m) := by omega
  have nni : ¬ (n = i) := by omega
  have HCLR := Lib.hid hclr
  by_cases hjc : c2 = j
  · obtain ⟨w1, hr1, ho1, hg1⟩ := happ ⟨g2, 0, none⟩ (c2 - j) (.inl hjc)
    obtain ⟨w2, hr2, hp2⟩ := hclr w1 ho1 hg1
    have hjc' : (c2 = j) = True := eq_true hjc
    have hnj : n - j = 0 := by omega
    have hcj : c2 - j = 0 := by omega
    rw [hnj, hcj] at hr1
    have HR1 := Aside0.mk hr1
    have HP2 := Aside0.mk hp2
    clear hsrc happ hclr hr1 ho1 hg1 hp2 hjc hct hcs hg he hpre hlen hm h hnn hj hij
    go_enter Try.func64, Try.ntmps64
    go_wp2_with fail
    refine start_ (n := 8) (S := fun w' => True) (ds := []) #[false, false, false, false, false, false, false, false] (by kernel_rfl) rfl rfl trivial (fun hHeld => ?_)
    refine pure_ (i := 0) (N := some 20) (v := ?_) (a' := ?_) #[true, false, false, false, false, false, false, false] rfl rfl (by kernel_rfl) (fun _ _ _ h => h) (Or.inl ⟨by rfl, ?_⟩) ?_ ?_
    rotate_left
    · intro w'
      go_simp
      with_reducible rfl
    rotate_left
    · simp only [Act.put, List.setIfInBounds_toArray, List.set_cons_zero, List.set_cons_succ, i64_w, i32_w]
      rfl
    refine pure_ (i := 1) (N := some 21) (v := ?_) (a' := ?_) #[true, true, false, false, false, false, false, false] rfl rfl (by kernel_rfl) (fun _ _ _ h => h) (Or.inl ⟨by rfl, ?_⟩) ?_ ?_
    rotate_left
    · intro w'
      go_simp
      with_reducible rfl
    rotate_left
    · simp only [Act.put, List.setIfInBounds_toArray, List.set_cons_zero, List.set_cons_succ, i64_w, i32_w]
      rfl
    refine pure_ (i := 2) (N := some 22) (v := ?_) (a' := ?_) #[true, true, true, false, false, false, false, false] rfl rfl (by kernel_rfl) (fun _ _ _ h => h) (Or.inl ⟨by rfl, ?_⟩) ?_ ?_
    rotate_left
    · intro w'
      go_simp
      with_reducible rfl
    rotate_left
    · simp only [Act.put, List.setIfInBounds_toArray, List.set_cons_zero, List.set_cons_succ, i64_w, i32_w]
      rfl
    refine pure_ (i := 3) (N := some 23) (v := ?_) (a' := ?_) #[true, true, true, true, false, false, false, false] rfl rfl (by kernel_rfl) (fun _ _ _ h => h) (Or.inl ⟨by rfl, ?_⟩) ?_ ?_
    rotate_left
    · intro w'
      go_simp
      with_reducible rfl
    rotate_left
    · simp only [Act.put, List.setIfInBounds_toArray, List.set_cons_zero, List.set_cons_succ, i64_w, i32_w]
      rfl
    refine pure_ (i := 4) (N := some 24) (v := ?_) (a' := ?_) #[true, true, true, true, true, false, false, false] rfl rfl (by kernel_rfl) (fun _ _ _ h => h) (Or.inl ⟨by rfl, ?_⟩) ?_ ?_
    rotate_left
    · intro w'
      go_simp
      with_reducible rfl
    rotate_left
    · simp only [Act.put, List.setIfInBounds_toArray, List.set_cons_zero, List.set_cons_succ, i64_w, i32_w]
      rfl
    refine pure_ (i := 5) (N := some 25) (v := ?_) (a' := ?_) #[true, true, true, true, true, true, false, false] rfl rfl (by kernel_rfl) (fun _ _ _ h => h) (Or.inl ⟨by rfl, ?_⟩) ?_ ?_
    rotate_left
    · intro w'
      go_simp
      with_reducible rfl
    rotate_left
    · simp only [Act.put, List.setIfInBounds_toArray, List.set_cons_zero, List.set_cons_succ, i64_w, i32_w]
      rfl
    refine one_ (i := 6) (N := some 26) #[true, true, true, true, true, true, true, false] rfl rfl (by kernel_rfl) (by decide) (fun K hK => ?_)
    refine appends_ (.tmp 22) (.tmp 25) 22 22 _ _ (by rfl) rfl rfl rfl (by rfl) (by rfl) HR1.out ?_
    refine hK.out _ _ trivial (fun hHeld => ?_)
    clear hK K
    refine norm_ (a' := ?_) ?_ ?_
    rotate_left
    · show Act.put _ (some 26) _ = _
      simp only [Act.put, List.setIfInBounds_toArray, List.set_cons_zero, List.set_cons_succ, i64_w, i32_w]
      rfl
    refine pure_ (i := 7) (N := some 0) (v := ?_) (a' := ?_) #[true, true, true, true, true, true, true, true] rfl rfl (by kernel_rfl) (fun _ _ _ h => h) (Or.inl ⟨by rfl, ?_⟩) ?_ ?_
    rotate_left
    · intro w'
      go_simp
      with_reducible rfl
    rotate_left
    · simp only [Act.put, List.setIfInBounds_toArray, List.set_cons_zero, List.set_cons_succ, i64_w, i32_w]
      rfl
    refine done_ (by kernel_rfl) ?_
    go_wp2
    go_ret
    exact HP2.out
  · obtain ⟨w1, hr1, ho1, hg1⟩ := happ ⟨g2, j * 2, none⟩ (c2 - j) (.inr rfl)
    obtain ⟨w2, hr2, hp2⟩ := hclr w1 ho1 hg1
    have HR1 := Aside0.mk hr1
    have HP2 := Aside0.mk hp2
    clear hsrc happ hclr hr1 ho1 hg1 hp2 hct hcs hg he hpre hlen hm h hnn hj hij
    go_enter Try.func64, Try.ntmps64
    go_wp2_with fail
    refine start_ (n := 8) (S := fun w' => True) (ds := []) #[false, false, false, false, false, false, false, false] (by kernel_rfl) rfl rfl trivial (fun hHeld => ?_)
    refine pure_ (i := 0) (N := some 20) (v := ?_) (a' := ?_) #[true, false, false, false, false, false, false, false] rfl rfl (by kernel_rfl) (fun _ _ _ h => h) (Or.inl ⟨by rfl, ?_⟩) ?_ ?_
    rotate_left
    · intro w'
      go_simp
      with_reducible rfl
    rotate_left
    · simp only [Act.put, List.setIfInBounds_toArray, List.set_cons_zero, List.set_cons_succ, i64_w, i32_w]
      rfl
    refine pure_ (i := 1) (N := some 21) (v := ?_) (a' := ?_) #[true, true, false, false, false, false, false, false] rfl rfl (by kernel_rfl) (fun _ _ _ h => h) (Or.inl ⟨by rfl, ?_⟩) ?_ ?_
    rotate_left
    · intro w'
      go_simp
      with_reducible rfl
    rotate_left
    · simp only [Act.put, List.setIfInBounds_toArray, List.set_cons_zero, List.set_cons_succ, i64_w, i32_w]
      rfl
    refine pure_ (i := 2) (N := some 22) (v := ?_) (a' := ?_) #[true, true, true, false, false, false, false, false] rfl rfl (by kernel_rfl) (fun _ _ _ h => h) (Or.inl ⟨by rfl, ?_⟩) ?_ ?_
    rotate_left
    · intro w'
      go_simp
      with_reducible rfl
    rotate_left
    · simp only [Act.put, List.setIfInBounds_toArray, List.set_cons_zero, List.set_cons_succ, i64_w, i32_w]
      rfl
    refine pure_ (i := 3) (N := some 23) (v := ?_) (a' := ?_) #[true, true, true, true, false, false, false, false] rfl rfl (by kernel_rfl) (fun _ _ _ h => h) (Or.inl ⟨by rfl, ?_⟩) ?_ ?_
    rotate_left
    · intro w'
      go_simp
      with_reducible rfl
    rotate_left
    · simp only [Act.put, List.setIfInBounds_toArray, List.set_cons_zero, List.set_cons_succ, i64_w, i32_w]
      rfl
    refine pure_ (i := 4) (N := some 24) (v := ?_) (a' := ?_) #[true, true, true, true, true, false, false, false] rfl rfl (by kernel_rfl) (fun _ _ _ h => h) (Or.inl ⟨by rfl, ?_⟩) ?_ ?_
    rotate_left
    · intro w'
      go_simp
      with_reducible rfl
    rotate_left
    · simp only [Act.put, List.setIfInBounds_toArray, List.set_cons_zero, List.set_cons_succ, i64_w, i32_w]
      rfl
    refine pure_ (i := 5) (N := some 25) (v := ?_) (a' := ?_) #[true, true, true, true, true, true, false, false] rfl rfl (by kernel_rfl) (fun _ _ _ h => h) (Or.inl ⟨by rfl, ?_⟩) ?_ ?_
    rotate_left
    · intro w'
      go_simp
      with_reducible rfl
    rotate_left
    · simp only [Act.put, List.setIfInBounds_toArray, List.set_cons_zero, List.set_cons_succ, i64_w, i32_w]
      rfl
    refine one_ (i := 6) (N := some 26) #[true, true, true, true, true, true, true, false] rfl rfl (by kernel_rfl) (by decide) (fun K hK => ?_)
    refine appends_ (.tmp 22) (.tmp 25) 22 22 _ _ (by rfl) rfl rfl rfl (by rfl) (by rfl) HR1.out ?_
    refine hK.out _ _ trivial (fun hHeld => ?_)
    clear hK K
    refine norm_ (a' := ?_) ?_ ?_
    rotate_left
    · show Act.put _ (some 26) _ = _
      simp only [Act.put, List.setIfInBounds_toArray, List.set_cons_zero, List.set_cons_succ, i64_w, i32_w]
      rfl
    refine pure_ (i := 7) (N := some 0) (v := ?_) (a' := ?_) #[true, true, true, true, true, true, true, true] rfl rfl (by kernel_rfl) (fun _ _ _ h => h) (Or.inl ⟨by rfl, ?_⟩) ?_ ?_
    rotate_left
    · intro w'
      go_simp
      with_reducible rfl
    rotate_left
    · simp only [Act.put, List.setIfInBounds_toArray, List.set_cons_zero, List.set_cons_succ, i64_w, i32_w]
      rfl
    refine done_ (by kernel_rfl) ?_
    go_wp2
    go_ret
    exact HP2.out
end Go.Proofs.Ytnjdngjlbonieaa
