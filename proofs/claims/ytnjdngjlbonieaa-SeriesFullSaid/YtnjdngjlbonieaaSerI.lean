/- slices.Insert of one point into a row of the call's own: in its middle. -/
import Derived.Test.YtnjdngjlbonieaaSerH
import Derived.Lib.AppendZerosOnto
import Derived.Lib.Overlaps
import Derived.Shelf.Spec.SlicesInsert
import Derived.Lib.Hide
import Derived.LoopTactic
import Derived.Outline
import Derived.Laws.Rows
import Derived.Laws.CopyOwn
import Derived.WalkKit
set_option linter.unusedVariables false
set_option linter.unusedSimpArgs false
namespace Go.Proofs.Ytnjdngjlbonieaa
open Go.RowKit Go.Proofs.YtnjdngjlbonieaaW.PrintWords Go.Proofs.YtnjdngjlbonieaaW.PrintLast Go.Proofs.YtnjdngjlbonieaaW.PrintMore
open Go.Proofs.Ytnjdngjlbonieaa.PRollWindows
attribute [local go_sem] max2_int min2_int max_two min_two max_three min_three max_four min_four

open RollOfPure
open Go.Shelf Go.Lib
theorem ins_lists (xs cur : List Value) (i n : Nat) (a b : Value) (hx : xs.length = n * 2) (hi : i < n) (hc : (n + 1) * 2 ≤ cur.length) (ht : cur.take (n * 2) = xs) :
    ((((cur.take ((i + 1) * 2) ++ xs.drop (i * 2) ++ cur.drop ((i + 1) * 2 + (xs.drop (i * 2)).length)).take (i * 2) ++ [a, b] ++ (cur.take ((i + 1) * 2) ++ xs.drop (i * 2) ++ cur.drop ((i + 1) * 2 + (xs.drop (i * 2)).length)).drop (i * 2 + 2))).take ((n + 1) * 2)) = xs.take (i * 2) ++ [a, b] ++ xs.drop (i * 2) := by
  have h1 : (xs.drop (i * 2)).length = n * 2 - i * 2 := by rw [List.length_drop, hx]
  have h2 : (cur.take ((i + 1) * 2)).length = (i + 1) * 2 := by rw [List.length_take]; omega
  have e1 : (cur.take ((i + 1) * 2) ++ xs.drop (i * 2) ++ cur.drop ((i + 1) * 2 + (xs.drop (i * 2)).length)).take (i * 2) = xs.take (i * 2) := by
    rw [List.append_assoc, List.take_append_of_le_length (by omega), List.take_take, ← ht, List.take_take, Nat.min_eq_left (by omega), Nat.min_eq_left (by omega)]
  have e2 : (cur.take ((i + 1) * 2) ++ xs.drop (i * 2) ++ cur.drop ((i + 1) * 2 + (xs.drop (i * 2)).length)).drop (i * 2 + 2) = xs.drop (i * 2) ++ cur.drop ((i + 1) * 2 + (xs.drop (i * 2)).length) := by
    rw [List.append_assoc, show i * 2 + 2 = (cur.take ((i + 1) * 2)).length by rw [h2]; omega, List.drop_left]
  rw [e1, e2]
  have h3 : (xs.take (i * 2) ++ [a, b] ++ xs.drop (i * 2)).length = (n + 1) * 2 := by
    simp only [List.length_append, List.length_take, List.length_cons, List.length_nil, h1, hx]
    omega
  rw [← List.append_assoc, ← h3, List.take_left]
theorem ins_lists2 (xs : List Value) (z : List Value) (i n : Nat) (a b : Value) (hx : xs.length = n * 2) (hi : i < n) (hz : (n + 1) * 2 ≤ (xs.take (i * 2) ++ z).length) :
    (((((xs.take (i * 2) ++ z).take (i * 2) ++ [a, b] ++ (xs.take (i * 2) ++ z).drop (i * 2 + 2))).take ((i + 1) * 2) ++ xs.drop (i * 2) ++ (((xs.take (i * 2) ++ z).take (i * 2) ++ [a, b] ++ (xs.take (i * 2) ++ z).drop (i * 2 + 2))).drop ((i + 1) * 2 + (xs.drop (i * 2)).length)).take ((n + 1) * 2)) = xs.take (i * 2) ++ [a, b] ++ xs.drop (i * 2) := by
  have h0 : (xs.take (i * 2)).length = i * 2 := by rw [List.length_take]; omega
  have h1 : (xs.drop (i * 2)).length = n * 2 - i * 2 := by rw [List.length_drop, hx]
  have e0 : (xs.take (i * 2) ++ z).take (i * 2) = xs.take (i * 2) := by exact List.take_left' h0
  rw [e0]
  have h2 : (xs.take (i * 2) ++ [a, b]).length = (i + 1) * 2 := by simp [h0]; omega
  have e1 : (xs.take (i * 2) ++ [a, b] ++ (xs.take (i * 2) ++ z).drop (i * 2 + 2)).take ((i + 1) * 2) = xs.take (i * 2) ++ [a, b] := by rw [← h2, List.take_left]
  rw [e1]
  have h3 : (xs.take (i * 2) ++ [a, b] ++ xs.drop (i * 2)).length = (n + 1) * 2 := by
    simp only [List.length_append, List.length_cons, List.length_nil, h0, h1]
    omega
  rw [← h3, List.take_left]

theorem zc_size (k : Nat) : (Builtin.zeroCells (Value.agg #[.int .i64 0, .int .i64 0]).cells k).size = k * 2 := by
  simp [Builtin.zeroCells, Value.cells]
theorem nmin_l (a b : Nat) (h : a ≤ b) : Nat.min a b = a := Nat.min_eq_left h
theorem spl_len (L cs : List Value) (k : Nat) (h : k + cs.length ≤ L.length) : (L.take k ++ cs ++ L.drop (k + cs.length)).length = L.length := by
  simp only [List.length_append, List.length_take, List.length_drop]
  omega
set_option maxRecDepth 100000 in
set_option maxHeartbeats 16000000 in
theorem insert_grow (B g n nb i : Nat) (xs : List Value) (a b : Int) (w : World) (h : w.ownsRow B 29 2 (.slice (some ⟨g, 0, none⟩) n n) n xs) (hone : ∀ v ∈ xs, v.oneCell' = true) (hB : B ≤ w.heap.size) (hn : n ≤ 1000) (hi : i < n) (h0 : w.cell? ⟨nb, 0, none⟩ = some (.int .i64 a)) (h1 : w.cell? ⟨nb, 1, none⟩ = some (.int .i64 b)) :
    Calls Try.prog 89 #[.slice (some ⟨g, 0, none⟩) n n, .int .i64 (i : Int), .slice (some ⟨nb, 0, none⟩) 1 1] w (IPost B n (xs.take (i * 2) ++ [.int .i64 a, .int .i64 b] ++ xs.drop (i * 2)) (.slice (some ⟨g, 0, none⟩) n n) w) := by
  obtain ⟨i29, hi29, z0, z1, z2⟩ := info_parts info29
  have hxl : xs.length = n * 2 := h.1
  have hcells := h.cells (g := g) rfl
  have hgw : g < w.heap.size := (h.lt g rfl).2
  have hnbw : nb < w.heap.size := block_lt_of_cell h0
  have hold : (Builtin.firstCells i29.size i (.slice (some ⟨g, 0, none⟩) i n)).run Try.prog w.drew = .ok (xs.take (i * 2)).toArray w.drew := by
    rw [z1]
    exact run_firstCells_some w.drew 2 i ⟨g, 0, none⟩ i n (xs.take (i * 2)) (by rw [List.length_take]; omega) (fun j v hj => by
      rw [List.getElem?_take] at hj
      split at hj
      · exact hcells j v hj
      · cases hj)
  have hik : i + (n + 1 - i) = n + 1 := by omega
  have hrz : ∀ ty, (Builtin.append_ #[22, 3] ty #[.slice (some ⟨g, 0, none⟩) i n, .int .i64 ((n : Int) + 1 - (i : Int))]).run Try.prog w =
      .ok (.slice (some ⟨w.heap.size, 0, none⟩) (n + 1) (grownCap w (n + 1) n 29)) (w.drew.alloc (.cells ((xs.take (i * 2)).toArray ++ Builtin.zeroCells (Value.agg #[.int .i64 0, .int .i64 0]).cells (n + 1 - i) ++ Builtin.zeroCells (Value.agg #[.int .i64 0, .int .i64 0]).cells (grownCap w (n + 1) n 29 - (n + 1))) 29)) := fun ty => by
    have h := Lib.run_append_grow_zeros w 22 3 ty 29 i29 _ .i64 .i64 Try.underlying22 Try.underlying3 hi29 z0 (some ⟨g, 0, none⟩) i n (xs.take (i * 2)) hold (n + 1 - i) (by omega) (by omega) (by omega) (by omega) (by rw [z2]; omega) (by rw [z2, hik]; exact growslice_fits (by omega) (by omega))
    rw [hik] at h
    rw [show (n : Int) + 1 - (i : Int) = ((n + 1 - i : Nat) : Int) by omega]
    exact h
  obtain ⟨G, hG⟩ : ∃ G, G = grownCap w (n + 1) n 29 := ⟨_, rfl⟩
  have hGn : n + 1 ≤ G := by rw [hG]; exact grownCap_ge w _ _ _
  have hGm : G ≤ maxLen := by rw [hG]; exact grownCap_le_maxLen w (n + 1) n 29 (by unfold maxLen; omega)
  obtain ⟨Z, hZ⟩ : ∃ Z : List Value, Z = (Builtin.zeroCells (Value.agg #[.int .i64 0, .int .i64 0]).cells (n + 1 - i) ++ Builtin.zeroCells (Value.agg #[.int .i64 0, .int .i64 0]).cells (G - (n + 1))).toList := ⟨_, rfl⟩
  obtain ⟨L0, hL0⟩ : ∃ L0 : List Value, L0 = xs.take (i * 2) ++ Z := ⟨_, rfl⟩
  have hROW : (xs.take (i * 2)).toArray ++ Builtin.zeroCells (Value.agg #[.int .i64 0, .int .i64 0]).cells (n + 1 - i) ++ Builtin.zeroCells (Value.agg #[.int .i64 0, .int .i64 0]).cells (G - (n + 1)) = L0.toArray := by
    apply Array.toList_inj.1
    rw [hL0, hZ]
    simp
  rw [← hG] at hrz
  rw [hROW] at hrz
  have hLl : L0.length = G * 2 := by
    have := congrArg Array.size hROW
    simp only [Array.size_append, zc_size, List.size_toArray, List.length_take] at this
    omega
  obtain ⟨N, hN⟩ : ∃ N, N = w.heap.size := ⟨_, rfl⟩
  rw [← hN] at hrz
  obtain ⟨cs1, hcs1⟩ : ∃ cs : List Value, cs = [.int .i64 a, .int .i64 b] := ⟨_, rfl⟩
  obtain ⟨L1, hL1⟩ : ∃ L1 : List Value, L1 = L0.take (i * 2) ++ cs1 ++ L0.drop (i * 2 + cs1.length) := ⟨_, rfl⟩
  obtain ⟨L2, hL2⟩ : ∃ L2 : List Value, L2 = L1.take ((i + 1) * 2) ++ xs.drop (i * 2) ++ L1.drop ((i + 1) * 2 + (xs.drop (i * 2)).length) := ⟨_, rfl⟩
  have hc1 : cs1.length = 2 := by rw [hcs1]; rfl
  have hdl : (xs.drop (i * 2)).length = (n - i) * 2 := by rw [List.length_drop, hxl]; omega
  have hL1l : L1.length = G * 2 := by rw [hL1, spl_len _ _ _ (by omega)]; exact hLl
  have hL2l : L2.length = G * 2 := by rw [hL2, spl_len _ _ _ (by omega)]; exact hL1l
  have hfin : L2.take ((n + 1) * 2) = xs.take (i * 2) ++ [.int .i64 a, .int .i64 b] ++ xs.drop (i * 2) := by
    have e := ins_lists2 xs Z i n (.int .i64 a) (.int .i64 b) hxl hi (by rw [← hL0, hLl]; omega)
    rw [hL2, hL1, hcs1, hL0]
    exact e
  have hcpA : ∀ (W : World) (p : World), W.heap = (w.alloc (.cells L0.toArray 29)).heap → ∀ ty dc, (Builtin.copy_ #[22, 22] ty #[.slice (some ⟨N, i * 2, none⟩) (n + 1 - i) dc, .slice (some ⟨nb, 0, none⟩) 1 1]).run Try.prog W = .ok (.int .i64 1) (W.setRow N L1.toArray) := fun W _ hW ty dc => by
    have hWn : W.heap[N]? = some (.cells L0.toArray 29 (0, 0)) := by rw [hW, hN]; exact blk_new w _
    have e := run_copy_rowK (P := Try.prog) W 22 22 ty 29 2 N (i * 2) (n + 1 - i) dc ⟨nb, 0, none⟩ 1 1 L0.toArray 29 cs1 Try.underlying22 (by rw [hi29]; simp [z1]) hWn (by rw [hc1, nmin_l _ _ (by omega)])
      (fun j v hj => by
        rw [Addr.add_lit, Nat.zero_add, World.cell?_of_block (a := ⟨nb, j, none⟩) (w := w) (by rw [hW]; exact Below.heap_alloc w _ nb hnbw)]
        rw [hcs1] at hj
        rcases j with _ | _ | j
        · injection hj with hj; subst hj; exact h0
        · injection hj with hj; subst hj; exact h1
        · cases hj)
      (by rw [List.size_toArray]; omega) (by rw [hcs1]; simp [Value.oneCell'])
    rw [show Nat.min 1 (n + 1 - i) = 1 from nmin_l _ _ (by omega)] at e
    rw [e, hL1]
    rfl
  have hcpB : ∀ (W : World), W.heap = ((w.alloc (.cells L0.toArray 29)).setRow N L1.toArray).heap → ∀ ty dc sc, (Builtin.copy_ #[22, 22] ty #[.slice (some ⟨N, (i + 1) * 2, none⟩) (n - i) dc, .slice (some ⟨g, i * 2, none⟩) (n - i) sc]).run Try.prog W = .ok (.int .i64 ((n - i : Nat) : Int)) (W.setRow N L2.toArray) := fun W hW ty dc sc => by
    have hWn : W.heap[N]? = some (.cells L1.toArray 29 (0, 0)) := by rw [hW, hN]; exact setRow_heap _ _ _ _ _ _ (blk_new w _)
    have e := run_copy_rowK (P := Try.prog) W 22 22 ty 29 2 N ((i + 1) * 2) (n - i) dc ⟨g, i * 2, none⟩ (n - i) sc L1.toArray 29 (xs.drop (i * 2)) Try.underlying22 (by rw [hi29]; simp [z1]) hWn (by rw [hdl, nmin_l _ _ (by omega)])
      (fun j v hj => by
        rw [World.cell?_of_block (a := (⟨g, i * 2, none⟩ : Addr).add j) (w := w) (by
          have : ((⟨g, i * 2, none⟩ : Addr).add j).block = g := by unfold Addr.add; split <;> rfl
          rw [this, hW, setRow_other _ _ _ _ (by omega)]
          exact Below.heap_alloc w _ g hgw)]
        rw [List.getElem?_drop] at hj
        have := hcells _ v hj
        rw [Addr.add_lit, Nat.zero_add] at this
        rw [Addr.add_lit]
        exact this)
      (by rw [List.size_toArray]; omega) (fun v hv => hone v (List.mem_of_mem_drop hv))
    rw [show Nat.min (n - i) (n - i) = n - i from nmin_l _ _ (by omega)] at e
    rw [e, hL2]
    rfl
  have HFIN := Aside0.mk hfin
  have HL2 := Aside0.mk hL2l
  have HA := Lib.hid (fun (W : World) hW => hcpA W W hW)
  have HB := Lib.hid hcpB
  have HN := Aside0.mk hN
  have HBB := Aside0.mk hB
  have HGM := Aside0.mk hGm
  have HRZ := Lib.hid hrz
  have hu22 := Try.underlying22
  have hci : ¬ (n = i) := by omega
  have hz2 : ¬ ((i : Int) = (n : Int)) := by omega
  have hz3 : decide ((n : Int) < (n : Int) + 1) = true := decide_eq_true (by omega)
  have hz4 : decide ((n : Int) + 1 > (n : Int)) = true := decide_eq_true (by omega)
  have e2 : ((i : Int) == (n : Int)) = false := beq_eq_false_iff_ne.2 hz2
  have hGi : ¬ (G = i) := by omega
  have hGim : ¬ (G = i + 1) := by omega
  have hG63 : G ≤ 9223372036854775807 := by unfold maxLen at hGm; omega
  clear hcpA hcpB hfin hL2l hL1l hLl hdl hc1 hL2 hL1 hcs1 hROW hL0 hZ hG hold hcells hrz hxl hN hB hGm hone h h0 h1 z0 z1 z2 hi29
  go_enter Try.func89, Try.ntmps89
  have hcA := HA.out (w.alloc (.cells L0.toArray 29)).drew rfl 3 (G - i)
  have hcB := HB.out ((w.alloc (.cells L0.toArray 29)).drew.setRow N L1.toArray).drew rfl 3 (G - (i + 1)) (n - i)
  have hw1 : IntKind.i64.wrap ((i : Int) + 1) = (i : Int) + 1 := by rw [IntKind.wrap_i64]; omega
  have hb1 : (0 : Int) ≤ (i : Int) + 1 := by omega
  have htn : ((i : Int) + 1).toNat = i + 1 := by omega
  have hin : i ≤ n := by omega
  go_wp2_with (at_builtin; refine Lib.wpList_append_run _ rfl _ _ _ _ rfl _ _ rfl rfl _ _ (HRZ.out _) ?_)
  clear hcA
  refine start_ (n := 9) (S := fun w' => True) (ds := []) #[false, false, false, false, false, false, false, false, false] (by kernel_rfl) rfl rfl trivial (fun hHeld => ?_)
  refine pure_ (i := 0) (N := some 46) (v := ?_) (a' := ?_) #[true, false, false, false, false, false, false, false, false] rfl rfl (by kernel_rfl) (fun _ _ _ h => h) (Or.inl ⟨by rfl, ?_⟩) ?_ ?_
  rotate_left
  · intro w'
    go_simp
    with_reducible rfl
  rotate_left
  · simp only [Act.put, List.setIfInBounds_toArray, List.set_cons_zero, List.set_cons_succ, i64_w, i32_w]
    rfl
  refine pure_ (i := 1) (N := some 47) (v := ?_) (a' := ?_) #[true, true, false, false, false, false, false, false, false] rfl rfl (by kernel_rfl) (fun _ _ _ h => h) (Or.inl ⟨by rfl, ?_⟩) ?_ ?_
  rotate_left
  · intro w'
    go_simp
    with_reducible rfl
  rotate_left
  · simp only [Act.put, List.setIfInBounds_toArray, List.set_cons_zero, List.set_cons_succ, i64_w, i32_w]
    rfl
  refine pure_ (i := 2) (N := some 48) (v := ?_) (a' := ?_) #[true, true, true, false, false, false, false, false, false] rfl rfl (by kernel_rfl) (fun _ _ _ h => h) (Or.inl ⟨by rfl, ?_⟩) ?_ ?_
  rotate_left
  · intro w'
    go_simp
    with_reducible rfl
  rotate_left
  · simp only [Act.put, List.setIfInBounds_toArray, List.set_cons_zero, List.set_cons_succ, i64_w, i32_w]
    rfl
  refine pure_ (i := 3) (N := some 49) (v := ?_) (a' := ?_) #[true, true, true, true, false, false, false, false, false] rfl rfl (by kernel_rfl) (fun _ _ _ h => h) (Or.inl ⟨by rfl, ?_⟩) ?_ ?_
  rotate_left
  · intro w'
    go_simp
    with_reducible rfl
  rotate_left
  · simp only [Act.put, List.setIfInBounds_toArray, List.set_cons_zero, List.set_cons_succ, i64_w, i32_w]
    rfl
  refine pure_ (i := 4) (N := some 50) (v := ?_) (a' := ?_) #[true, true, true, true, true, false, false, false, false] rfl rfl (by kernel_rfl) (fun _ _ _ h => h) (Or.inl ⟨by rfl, ?_⟩) ?_ ?_
  rotate_left
  · intro w'
    go_simp
    with_reducible rfl
  rotate_left
  · simp only [Act.put, List.setIfInBounds_toArray, List.set_cons_zero, List.set_cons_succ, i64_w, i32_w]
    rfl
  refine pure_ (i := 5) (N := some 51) (v := ?_) (a' := ?_) #[true, true, true, true, true, true, false, false, false] rfl rfl (by kernel_rfl) (fun _ _ _ h => h) (Or.inl ⟨by rfl, ?_⟩) ?_ ?_
  rotate_left
  · intro w'
    go_simp
    with_reducible rfl
  rotate_left
  · simp only [Act.put, List.setIfInBounds_toArray, List.set_cons_zero, List.set_cons_succ, i64_w, i32_w]
    rfl
  refine pure_ (i := 6) (N := some 52) (v := ?_) (a' := ?_) #[true, true, true, true, true, true, true, false, false] rfl rfl (by kernel_rfl) (fun _ _ _ h => h) (Or.inl ⟨by rfl, ?_⟩) ?_ ?_
  rotate_left
  · intro w'
    go_simp
    with_reducible rfl
  rotate_left
  · simp only [Act.put, List.setIfInBounds_toArray, List.set_cons_zero, List.set_cons_succ, i64_w, i32_w]
    rfl
  refine pure_ (i := 7) (N := some 53) (v := ?_) (a' := ?_) #[true, true, true, true, true, true, true, true, false] rfl rfl (by kernel_rfl) (fun _ _ _ h => h) (Or.inl ⟨by rfl, ?_⟩) ?_ ?_
  rotate_left
  · intro w'
    go_simp
    with_reducible rfl
  rotate_left
  · simp only [Act.put, List.setIfInBounds_toArray, List.set_cons_zero, List.set_cons_succ, i64_w, i32_w]
    rfl
  refine one_ (i := 8) (N := some 54) #[true, true, true, true, true, true, true, true, true] rfl rfl (by kernel_rfl) (by decide) (fun K hK => ?_)
  refine value_ (w1 := ?_) (v := ?_) (by rfl) rfl ?_ ?_
  rotate_left 2
  · go_simp
    constructor
    · rfl
    · rfl
  refine hK.out _ _ trivial (fun hHeld => ?_)
  clear hK K
  refine norm_ (a' := ?_) ?_ ?_
  rotate_left
  · show Act.put _ (some 54) _ = _
    simp only [Act.put, List.setIfInBounds_toArray, List.set_cons_zero, List.set_cons_succ, i64_w, i32_w]
    rfl
  refine done_ (by kernel_rfl) ?_
  go_wp2
  go_ret
  refine ⟨_, rfl, ⟨?_, .inr ⟨N, G, L2.toArray, rfl, by rw [HN.out]; exact HBB.out, ?_, hGn, HGM.out, by rw [List.size_toArray]; exact HL2.out, HFIN.out⟩⟩, ⟨rfl, rfl, rfl, by simp, fun k hk _ => ?_⟩⟩
  · rw [← HFIN.out, List.length_take, HL2.out]
    omega
  · exact setRow_heap _ _ _ _ _ _ (setRow_heap _ _ _ _ _ _ (by rw [HN.out]; exact blk_new w _))
  · have hkN : k ≠ N := by rw [HN.out]; omega
    exact (setRow_other _ _ _ _ hkN).trans ((setRow_other _ _ _ _ hkN).trans (Below.heap_alloc w _ k hk))

theorem insert_shift (B g n c nb i : Nat) (xs : List Value) (a b : Int) (w : World) (h : w.ownsRow B 29 2 (.slice (some ⟨g, 0, none⟩) n c) n xs) (hone : ∀ v ∈ xs, v.oneCell' = true) (hB : B ≤ w.heap.size) (hn : n ≤ 1000) (hi : i < n) (hnc : n < c) (hb : w.heap[nb]? = some (.cells #[.int .i64 a, .int .i64 b] 29 (0, 0))) (hne : nb ≠ g) :
    Calls Try.prog 89 #[.slice (some ⟨g, 0, none⟩) n c, .int .i64 (i : Int), .slice (some ⟨nb, 0, none⟩) 1 1] w (IPost B n (xs.take (i * 2) ++ [.int .i64 a, .int .i64 b] ++ xs.drop (i * 2)) (.slice (some ⟨g, 0, none⟩) n c) w) := by
  obtain ⟨i29, hi29, z0, z1, z2⟩ := info_parts info29
  have hxl : xs.length = n * 2 := h.1
  have hcells := h.cells (g := g) rfl
  have hgw : g < w.heap.size := (h.lt g rfl).2
  have hBg : B ≤ g := (h.lt g rfl).1
  obtain ⟨g2, c2, cur, he, hg, hnc2, hcm, hcs, hct⟩ := row_pos h (by omega)
  have he1 : g2 = g ∧ c2 = c := by
    injection he with e1 e2 e3
    injection e1 with e1
    injection e1 with e1
    exact ⟨e1.symm, e3.symm⟩
  obtain ⟨rfl, rfl⟩ := he1
  clear he
  have hsn : w.shape? nb = some (29, 2) := by unfold World.shape?; rw [hb]; rfl
  have hsg : w.shape? g2 = some (29, c2 * 2) := by unfold World.shape?; rw [hg]; show some (29, cur.size) = _; rw [hcs]
  have hfa : ∀ k, w.frozen? ⟨nb, k, none⟩ = false := fun k => blk_frozen hb k
  have hov : ∀ lb cb, (callFunc 92 #[.slice (some ⟨nb, 0, none⟩) 1 1, .slice (some ⟨g2, (i + 1) * 2, none⟩) lb cb]).run Try.prog w = .ok (.value (.bool false)) w := fun lb cb => by
    rw [run_callFunc_extern Try.func92 (by kernel_rfl) (by kernel_rfl) (by kernel_rfl) (e := Extern.SlicesOverlaps.overlaps #[22, 22] #[4]) (by kernel_rfl),
      Lib.run_overlaps_apart w 22 4 29 Try.underlying22 2 (fun W => by simp [sizeOf, typeInfo, hi29, z1]) ⟨nb, 0, none⟩ ⟨g2, (i + 1) * 2, none⟩ 1 1 lb cb hne 29 29 2 (c2 * 2) hsn hsg (by omega) (hfa 0) (hfa 2)]
    rfl
  obtain ⟨L0, hL0⟩ : ∃ L0 : List Value, L0 = cur.toList := ⟨_, rfl⟩
  have hcur : cur = L0.toArray := by rw [hL0]
  have hLl : L0.length = c2 * 2 := by rw [hL0, Array.length_toList]; exact hcs
  obtain ⟨cs1, hcs1⟩ : ∃ cs : List Value, cs = [.int .i64 a, .int .i64 b] := ⟨_, rfl⟩
  have hsrc : ∀ (j : Nat) (v : Value), cs1[j]? = some v → w.cell? ⟨nb, j, none⟩ = some v := fun j v hj => by
    rw [blk_cell hb j]
    rw [hcs1] at hj
    simpa using hj
  obtain ⟨L1, hL1⟩ : ∃ L1 : List Value, L1 = L0.take ((i + 1) * 2) ++ xs.drop (i * 2) ++ L0.drop ((i + 1) * 2 + (xs.drop (i * 2)).length) := ⟨_, rfl⟩
  obtain ⟨L2, hL2⟩ : ∃ L2 : List Value, L2 = L1.take (i * 2) ++ cs1 ++ L1.drop (i * 2 + cs1.length) := ⟨_, rfl⟩
  have hc1 : cs1.length = 2 := by rw [hcs1]; rfl
  have hdl : (xs.drop (i * 2)).length = (n - i) * 2 := by rw [List.length_drop, hxl]; omega
  have hL1l : L1.length = c2 * 2 := by rw [hL1, spl_len _ _ _ (by omega)]; exact hLl
  have hL2l : L2.length = c2 * 2 := by rw [hL2, spl_len _ _ _ (by omega)]; exact hL1l
  have hfin : L2.take ((n + 1) * 2) = xs.take (i * 2) ++ [.int .i64 a, .int .i64 b] ++ xs.drop (i * 2) := by
    have e := ins_lists xs L0 i n (.int .i64 a) (.int .i64 b) hxl hi (by omega) (by rw [hL0]; exact hct)
    rw [hL2, hL1, hcs1]
    exact e
  have hcpA : ∀ (W : World), W.heap = w.heap → ∀ ty dc sc, (Builtin.copy_ #[22, 22] ty #[.slice (some ⟨g2, (i + 1) * 2, none⟩) (n - i) dc, .slice (some ⟨g2, i * 2, none⟩) (n + 1 - i) sc]).run Try.prog W = .ok (.int .i64 ((n - i : Nat) : Int)) (W.setRow g2 L1.toArray) := fun W hW ty dc sc => by
    have hWn : W.heap[g2]? = some (.cells L0.toArray 29 (0, 0)) := by rw [hW, ← hcur]; exact hg
    have e := run_copy_rowK (P := Try.prog) W 22 22 ty 29 2 g2 ((i + 1) * 2) (n - i) dc ⟨g2, i * 2, none⟩ (n + 1 - i) sc L0.toArray 29 (xs.drop (i * 2)) Try.underlying22 (by rw [hi29]; simp [z1]) hWn (by rw [hdl]; show _ = min (n + 1 - i) (n - i) * 2; rw [Nat.min_eq_right (by omega)])
      (fun j v hj => by
        rw [World.cell?_of_block (a := (⟨g2, i * 2, none⟩ : Addr).add j) (w := w) (by rw [hW])]
        rw [List.getElem?_drop] at hj
        have := hcells _ v hj
        rw [Addr.add_lit, Nat.zero_add] at this
        rw [Addr.add_lit]
        exact this)
      (by rw [List.size_toArray]; omega) (fun v hv => hone v (List.mem_of_mem_drop hv))
    rw [show Nat.min (n + 1 - i) (n - i) = n - i from Nat.min_eq_right (by omega)] at e
    rw [e, hL1]
    rfl
  have hcpB : ∀ (W : World), W.heap = (w.setRow g2 L1.toArray).heap → ∀ ty dc, (Builtin.copy_ #[22, 22] ty #[.slice (some ⟨g2, i * 2, none⟩) (n + 1 - i) dc, .slice (some ⟨nb, 0, none⟩) 1 1]).run Try.prog W = .ok (.int .i64 1) (W.setRow g2 L2.toArray) := fun W hW ty dc => by
    have hWn : W.heap[g2]? = some (.cells L1.toArray 29 (0, 0)) := by rw [hW]; exact setRow_heap _ _ _ _ _ _ hg
    have e := run_copy_rowK (P := Try.prog) W 22 22 ty 29 2 g2 (i * 2) (n + 1 - i) dc ⟨nb, 0, none⟩ 1 1 L1.toArray 29 cs1 Try.underlying22 (by rw [hi29]; simp [z1]) hWn (by rw [hc1, nmin_l _ _ (by omega)])
      (fun j v hj => by
        rw [Addr.add_lit, Nat.zero_add, World.cell?_of_block (a := ⟨nb, j, none⟩) (w := w) (by rw [hW]; exact setRow_other _ _ _ _ hne)]
        exact hsrc j v hj)
      (by rw [List.size_toArray]; omega) (by rw [hcs1]; simp [Value.oneCell'])
    rw [show Nat.min 1 (n + 1 - i) = 1 from nmin_l _ _ (by omega)] at e
    rw [e, hL2]
    rfl
  have HFIN := Aside0.mk hfin
  have HL2 := Aside0.mk hL2l
  have HA := Lib.hid hcpA
  have HB := Lib.hid hcpB
  have HBB := Aside0.mk hBg
  have HGM := Aside0.mk hcm
  have HG := Aside0.mk hg
  have hu22 := Try.underlying22
  have hz2 : ¬ ((i : Int) = (n : Int)) := by omega
  have hz3 : ¬ ((c2 : Int) < (n : Int) + 1) := by omega
  have hz4 : ¬ ((n : Int) + 1 > (c2 : Int)) := by omega
  have e2 : ((i : Int) == (n : Int)) = false := beq_eq_false_iff_ne.2 hz2
  have hGi : ¬ (c2 = i) := by omega
  have hGim : ¬ (c2 = i + 1) := by omega
  have hnc3 : n + 1 ≤ c2 := hnc
  have hG63 : c2 ≤ 9223372036854775807 := by unfold maxLen at hcm; omega
  have hcA := HA.out w.drew rfl 3 (c2 - (i + 1)) (c2 - i)
  have hcB := HB.out (w.drew.setRow g2 L1.toArray) rfl 3 (c2 - i)
  have hw1 : IntKind.i64.wrap ((i : Int) + 1) = (i : Int) + 1 := by rw [IntKind.wrap_i64]; omega
  have hb1 : (0 : Int) ≤ (i : Int) + 1 := by omega
  have htn : ((i : Int) + 1).toNat = i + 1 := by omega
  have hinI : (i : Int) ≤ (n : Int) + 1 := by omega
  have hin : i ≤ n := by omega
  clear hcpA hcpB hfin hL2l hL1l hLl hdl hc1 hL2 hL1 hcs1 hL0 hcells hxl hB hcm hone h hsrc z0 z1 z2 hi29 hsn hsg hfa hnc2 hcs hct hcur hg hb hBg
  go_enter Try.func89, Try.ntmps89
  go_wp2_with (simp only [hov])
  refine start_ (n := 9) (S := fun w' => True) (ds := []) #[false, false, false, false, false, false, false, false, false] (by kernel_rfl) rfl rfl trivial (fun hHeld => ?_)
  refine pure_ (i := 0) (N := some 69) (v := ?_) (a' := ?_) #[true, false, false, false, false, false, false, false, false] rfl rfl (by kernel_rfl) (fun _ _ _ h => h) (Or.inl ⟨by rfl, ?_⟩) ?_ ?_
  rotate_left
  · intro w'
    go_simp
    with_reducible rfl
  rotate_left
  · simp only [Act.put, List.setIfInBounds_toArray, List.set_cons_zero, List.set_cons_succ, i64_w, i32_w]
    rfl
  refine pure_ (i := 1) (N := some 70) (v := ?_) (a' := ?_) #[true, true, false, false, false, false, false, false, false] rfl rfl (by kernel_rfl) (fun _ _ _ h => h) (Or.inl ⟨by rfl, ?_⟩) ?_ ?_
  rotate_left
  · intro w'
    go_simp
    with_reducible rfl
  rotate_left
  · simp only [Act.put, List.setIfInBounds_toArray, List.set_cons_zero, List.set_cons_succ, i64_w, i32_w]
    rfl
  refine pure_ (i := 2) (N := some 71) (v := ?_) (a' := ?_) #[true, true, true, false, false, false, false, false, false] rfl rfl (by kernel_rfl) (fun _ _ _ h => h) (Or.inl ⟨by rfl, ?_⟩) ?_ ?_
  rotate_left
  · intro w'
    go_simp
    with_reducible rfl
  rotate_left
  · simp only [Act.put, List.setIfInBounds_toArray, List.set_cons_zero, List.set_cons_succ, i64_w, i32_w]
    rfl
  refine pure_ (i := 3) (N := some 72) (v := ?_) (a' := ?_) #[true, true, true, true, false, false, false, false, false] rfl rfl (by kernel_rfl) (fun _ _ _ h => h) (Or.inl ⟨by rfl, ?_⟩) ?_ ?_
  rotate_left
  · intro w'
    go_simp
    with_reducible rfl
  rotate_left
  · simp only [Act.put, List.setIfInBounds_toArray, List.set_cons_zero, List.set_cons_succ, i64_w, i32_w]
    rfl
  refine pure_ (i := 4) (N := some 73) (v := ?_) (a' := ?_) #[true, true, true, true, true, false, false, false, false] rfl rfl (by kernel_rfl) (fun _ _ _ h => h) (Or.inl ⟨by rfl, ?_⟩) ?_ ?_
  rotate_left
  · intro w'
    go_simp
    with_reducible rfl
  rotate_left
  · simp only [Act.put, List.setIfInBounds_toArray, List.set_cons_zero, List.set_cons_succ, i64_w, i32_w]
    rfl
  refine pure_ (i := 5) (N := some 74) (v := ?_) (a' := ?_) #[true, true, true, true, true, true, false, false, false] rfl rfl (by kernel_rfl) (fun _ _ _ h => h) (Or.inl ⟨by rfl, ?_⟩) ?_ ?_
  rotate_left
  · intro w'
    go_simp
    with_reducible rfl
  rotate_left
  · simp only [Act.put, List.setIfInBounds_toArray, List.set_cons_zero, List.set_cons_succ, i64_w, i32_w]
    rfl
  refine pure_ (i := 6) (N := some 75) (v := ?_) (a' := ?_) #[true, true, true, true, true, true, true, false, false] rfl rfl (by kernel_rfl) (fun _ _ _ h => h) (Or.inl ⟨by rfl, ?_⟩) ?_ ?_
  rotate_left
  · intro w'
    go_simp
    with_reducible rfl
  rotate_left
  · simp only [Act.put, List.setIfInBounds_toArray, List.set_cons_zero, List.set_cons_succ, i64_w, i32_w]
    rfl
  refine pure_ (i := 7) (N := some 76) (v := ?_) (a' := ?_) #[true, true, true, true, true, true, true, true, false] rfl rfl (by kernel_rfl) (fun _ _ _ h => h) (Or.inl ⟨by rfl, ?_⟩) ?_ ?_
  rotate_left
  · intro w'
    go_simp
    with_reducible rfl
  rotate_left
  · simp only [Act.put, List.setIfInBounds_toArray, List.set_cons_zero, List.set_cons_succ, i64_w, i32_w]
    rfl
  refine one_ (i := 8) (N := some 77) #[true, true, true, true, true, true, true, true, true] rfl rfl (by kernel_rfl) (by decide) (fun K hK => ?_)
  refine value_ (w1 := ?_) (v := ?_) (by rfl) rfl ?_ ?_
  rotate_left 2
  · go_simp
    constructor
    · rfl
    · rfl
  refine hK.out _ _ trivial (fun hHeld => ?_)
  clear hK K
  refine norm_ (a' := ?_) ?_ ?_
  rotate_left
  · show Act.put _ (some 77) _ = _
    simp only [Act.put, List.setIfInBounds_toArray, List.set_cons_zero, List.set_cons_succ, i64_w, i32_w]
    rfl
  refine done_ (by kernel_rfl) ?_
  go_wp2
  go_ret
  refine ⟨_, rfl, ⟨?_, .inr ⟨g2, c2, L2.toArray, rfl, HBB.out, ?_, hnc3, HGM.out, by rw [List.size_toArray]; exact HL2.out, HFIN.out⟩⟩, ⟨rfl, rfl, rfl, by simp, fun k hk hkn => ?_⟩⟩
  · rw [← HFIN.out, List.length_take, HL2.out]
    omega
  · exact setRow_heap _ _ _ _ _ _ (setRow_heap _ _ _ _ _ _ HG.out)
  · have hkN : k ≠ g2 := fun e => hkn (by rw [e]; rfl)
    exact (setRow_other _ _ _ _ hkN).trans (setRow_other _ _ _ _ hkN)
end Go.Proofs.Ytnjdngjlbonieaa
