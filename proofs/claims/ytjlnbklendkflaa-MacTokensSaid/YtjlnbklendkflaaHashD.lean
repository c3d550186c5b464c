/- SHA-256's state: New, Write, Copy, and slices.Clone of bytes, walked. -/
import Derived.Test.YtjlnbklendkflaaHashC
import Derived.Deep.RegionLawGrows
import Derived.Deep.AppendLies
import Derived.WalkSpells
import Derived.Lib.Hide
import Derived.LoopTactic
import Derived.Outline
import Derived.Laws.Rows
import Derived.Laws.CopyOwn
import Derived.WalkKit
set_option linter.unusedVariables false
set_option linter.unusedSimpArgs false
namespace Go.Proofs.Ytjlnbklendkflaa
open Go.RowKit Go.Proofs.YtjlnbklendkflaaW.PrintWords Go.Proofs.YtjlnbklendkflaaW.PrintLast Go.Proofs.YtjlnbklendkflaaW.PrintMore
open Go.Proofs.Ytjlnbklendkflaa.PHashSums


def H0 : List Int := [1779033703, 3144134277, 1013904242, 2773480762, 1359893119, 2600822924, 528734635, 1541459225]
/-- The words behind the first k blocks of a message. -/
def blocks (m : List Int) : Nat → List Int
  | 0 => H0
  | k + 1 => oneF (blocks m k) ((m.drop (64 * k)).take 64)
theorem addv_length : ∀ {x y : List Int}, x.length = y.length → (addv x y).length = x.length
  | [], [], _ => rfl
  | a :: x, b :: y, h => by simp only [addv, List.length_cons]; rw [addv_length (by simpa using h)]
theorem blocks_length (m : List Int) : ∀ k, (blocks m k).length = 8
  | 0 => rfl
  | k + 1 => by
    have h := blocks_length m k
    show (addv _ _).length = 8
    rw [addv_length (by rw [h, rounds_length _ _ h]), h]
theorem blocks_more (m b : List Int) : ∀ k, 64 * k ≤ m.length → blocks (m ++ b) k = blocks m k
  | 0, _ => rfl
  | k + 1, h => by
    show oneF _ _ = oneF _ _
    rw [blocks_more m b k (by omega), List.drop_append_of_le_length (by omega), List.take_append_of_le_length (by rw [List.length_drop]; omega)]
/-- What a slice of bytes is whose bytes are only read, apart from a state's block. -/
def RdV (p : Nat) (w : World) (v : Value) (l : List Int) : Prop := ∃ A n c, v = .slice A n c ∧ n = l.length ∧ n ≤ c ∧ c ≤ 9223372036854775807 ∧ SrcB w v l ∧ v.ownBlock ≠ some p ∧ (A = none → c = 0)
theorem RdV.below {p : Nat} {w w1 : World} {v : Value} {l : List Int} (h : RdV p w v l) (hb : Below w.heap.size w w1) : RdV p w1 v l := by
  obtain ⟨A, n, c, h1, h2, h3, h4, h5, h6⟩ := h
  exact ⟨A, n, c, h1, h2, h3, h4, h5.below hb, h6⟩
theorem RdV.keep {p : Nat} {w w1 : World} {v : Value} {l : List Int} (h : RdV p w v l) (k : Keep (fun i => i = p) w w1) : RdV p w1 v l := by
  obtain ⟨A, n, c, h1, h2, h3, h4, h5, h6, h7⟩ := h
  refine ⟨A, n, c, h1, h2, h3, h4, ?_, h6, h7⟩
  rcases h5 with h5 | ⟨ad, c', rfl, hc⟩
  · exact .inl h5
  · refine .inr ⟨ad, c', rfl, fun j x hx => k.cell (hc j x hx) ?_⟩
    have hab : (ad.add j).block = ad.block := by unfold Addr.add; split <;> rfl
    rw [hab]
    intro e
    exact h6 (by rw [← e]; rfl)
theorem SrcB.of_row {w : World} {base : Nat} {v : Value} {l : List Int} (h : w.ownsRow base 5 1 v l.length (nums .u8 l)) : SrcB w v l := by
  rcases h.2 with ⟨rfl, h0⟩ | ⟨g, cap, cur, rfl, _⟩
  · exact .inl ⟨0, rfl, List.eq_nil_of_length_eq_zero h0⟩
  · refine .inr ⟨⟨g, 0, none⟩, cap, rfl, fun j x hx => ?_⟩
    refine World.ownsRow.cells h rfl j _ ?_
    unfold nums
    rw [List.getElem?_map, hx]
    rfl
theorem RdV.of_row {p : Nat} {w : World} {base : Nat} {v : Value} {l : List Int} (h : w.ownsRow base 5 1 v l.length (nums .u8 l)) (hp : p < base) : RdV p w v l := by
  have hs := SrcB.of_row h
  rcases h.2 with ⟨rfl, h0⟩ | ⟨g, cap, cur, rfl, hg, _, hn, hc, _⟩
  · exact ⟨none, 0, 0, rfl, by omega, by omega, by omega, hs, by simp [Value.ownBlock], fun _ => rfl⟩
  · refine ⟨_, _, _, rfl, rfl, hn, by unfold maxLen at hc; exact hc, hs, ?_, fun h => by cases h⟩
    intro e
    have : g = p := by simpa [Value.ownBlock] using e
    omega
/-- A state's bytes do not lie in the block g. -/
def Apart (p : Nat) (w : World) (g : Nat) : Prop := ∃ hs vr n, hs.length = 8 ∧ w.heap[p]? = some (.cells (stC hs vr n) 54 (0, 0)) ∧ vr.ownBlock ≠ some g
/-- A state that was told the message m. -/
def IsH (p : Nat) (m : List Int) (w : World) : Prop := ∃ vr, w.heap[p]? = some (.cells (stC (blocks m (m.length / 64)) vr (m.length : Int)) 54 (0, 0)) ∧ RdV p w vr (m.drop (64 * (m.length / 64)))
theorem IsH.lt {p : Nat} {m : List Int} {w : World} (h : IsH p m w) : p < w.heap.size := by
  obtain ⟨vr, h1, _⟩ := h
  exact blk_lt h1
theorem IsH.below {p : Nat} {m : List Int} {w w1 : World} (h : IsH p m w) (hb : Below w.heap.size w w1) : IsH p m w1 := by
  obtain ⟨vr, h1, h2⟩ := h
  exact ⟨vr, (hb.block p (blk_lt h1)).trans h1, h2.below hb⟩
theorem IsH.keep {p q : Nat} {m : List Int} {w w1 : World} (h : IsH p m w) (k : Keep (fun i => i = q) w w1) (hq : q ≠ p) (hr : ∀ vr, w.heap[p]? = some (.cells (stC (blocks m (m.length / 64)) vr (m.length : Int)) 54 (0, 0)) → vr.ownBlock ≠ some q) : IsH p m w1 := by
  obtain ⟨vr, h1, h2⟩ := h
  refine ⟨vr, k.blk h1 (fun e => hq e.symm), ?_⟩
  obtain ⟨A, n, c, g1, g2, g3, g4, g5, g6, g7⟩ := h2
  refine ⟨A, n, c, g1, g2, g3, g4, ?_, g6, g7⟩
  rcases g5 with g5 | ⟨ad, c', rfl, hc⟩
  · exact .inl g5
  · refine .inr ⟨ad, c', rfl, fun j x hx => k.cell (hc j x hx) ?_⟩
    have hab : (ad.add j).block = ad.block := by unfold Addr.add; split <;> rfl
    rw [hab]
    intro e
    exact hr _ h1 (by rw [← e]; rfl)
theorem infoByte : (Try.prog.info? 5).map (fun i => (i.zero, i.size, i.bytes)) = some (some (.int .u8 0), 1, 1) := by kernel_rfl
theorem eql22 (a : Option Addr) (n c : Nat) (w : World) : (binOp .eql 22 (.slice a n c) (.slice none 0 0)).run Try.prog w = .ok (.bool a.isNone) w := by
  simp only [binOp]
  simp [Op.equal, Op.maxDepth, Lib.run_equalIn_slice_nil w 9999 22 5 a n c 0 0 Try.underlying22]
theorem clone_nil (c : Nat) (w : World) : Calls Try.prog 28 #[.slice none 0 c] w fun e w' => e = .returned (.slice none 0 0) ∧ w = w' := by
  have hq := fun w => eql22 none 0 c w
  go_enter Try.func28, Try.ntmps28
  go_wp2
  go_ret
  exact ⟨rfl, rfl⟩
set_option maxHeartbeats 1000000 in
theorem clone_some (ad : Addr) (c : Nat) (l : List Int) (w : World) (h : ∀ (j : Nat) (x : Int), l[j]? = some x → w.cell? (ad.add j) = some (.int .u8 x)) (hn : l.length ≤ 1000000000) :
    Calls Try.prog 28 #[.slice (some ad) l.length c] w fun e w' => ∃ v, e = .returned v ∧ w'.ownsRow w.heap.size 5 1 v l.length (nums .u8 l) ∧ Below w.heap.size w w' := by
  obtain ⟨i0, hi, hz0, hz1, hz2⟩ := info_parts infoByte
  have hq := fun w => eql22 (some ad) l.length c w
  have HC := Aside0.mk h
  obtain ⟨L, hL⟩ : ∃ L : Nat, L = l.length := ⟨_, rfl⟩
  have HL := Aside0.mk hL
  have hL1 : L ≤ 1000000000 := by omega
  rw [← hL] at hq ⊢
  clear h hL hn
  go_enter Try.func28, Try.ntmps28
  go_wp2_with (at_builtin; refine wpList_append_own _ rfl _ _ 22 rfl w.heap.size 5 i0 (.int .u8 0) 1 1 Try.underlying22 hi hz0 hz1 hz2 rfl (by decide) _ _ _ rfl (World.ownsRow_made w #[] 0 (Nat.le_refl _) (Nat.zero_le _) rfl) ad L c (nums .u8 l) rfl ?c0 ?c1 ?c2 ?c3 ?c4 ?c5 ?_)
  case c0 => rw [nums_length, HL.out]; omega
  case c1 =>
    intro j u hj
    unfold nums at hj
    rw [List.getElem?_map] at hj
    obtain ⟨x, hx, rfl⟩ := Option.map_eq_some_iff.1 hj
    have := HC.out j x hx
    rw [World.cell?_alloc_lt _ _ _ (World.block_lt_of_cell? w _ this)]
    exact this
  case c2 =>
    intro u hu
    obtain ⟨x, _, rfl⟩ := List.mem_map.1 hu
    rfl
  case c3 => unfold maxLen; omega
  case c4 => omega
  case c5 => simp
  intro v' w1 hown' hgrow _
  have HO := Aside0.mk hown'
  have HB := Aside0.mk (((Below.refl w.heap.size w).alloc (Nat.le_refl _) (Obj.cells #[] 5)).grown hgrow (by simp) (fun k hk => by simp [Value.ownBlock] at hk; omega))
  clear hown' hgrow
  go_wp2
  go_ret
  refine ⟨_, rfl, ?_, HB.out⟩
  have := HO.out
  simpa using this
theorem clone_calls (v : Value) (l : List Int) (w : World) (h : SrcB w v l) (hn : l.length ≤ 1000000000) :
    Calls Try.prog 28 #[v] w fun e w' => ∃ v', e = .returned v' ∧ w'.ownsRow w.heap.size 5 1 v' l.length (nums .u8 l) ∧ Below w.heap.size w w' := by
  rcases h with ⟨c, rfl, rfl⟩ | ⟨ad, c, rfl, h⟩
  · refine (clone_nil c w).mono ?_
    rintro e w' ⟨rfl, rfl⟩
    exact ⟨_, rfl, World.ownsRow_nil _ _ _ _, Below.refl _ _⟩
  · exact clone_some ad c l w h hn
set_option maxRecDepth 100000 in
set_option maxHeartbeats 4000000 in
theorem new_calls (w : World) : Calls Try.prog 13 #[] w fun e w' => e = .returned (.pointer (some ⟨w.heap.size, 0, none⟩)) ∧ IsH w.heap.size [] w' ∧ Below w.heap.size w w' := by
  go_enter Try.func13, Try.ntmps13
  go_wp2
  go_ret
  refine ⟨rfl, ⟨.slice none 0 0, blk_new w _, ⟨none, 0, 0, rfl, rfl, by omega, by omega, .inl ⟨0, rfl, rfl⟩, by simp [Value.ownBlock], fun _ => rfl⟩⟩, (Below.refl _ _).alloc (Nat.le_refl _) _⟩
section
variable {ops : Array Oper} {o : Oper} {a : Act} {K : Act → World → Prop} {Q : Exit → Act → World → Prop} {E : Prop}
/-- append of bytes that are read to bytes without room, at a step of a region. -/
theorem step_append_rest {W : World} (p : Nat) (hgd : o.guard = none) (s x : Operand)
    (ho : o.op = .call { callee := .builtin .append, args := #[s, x], argTypes := #[22, 22] })
    (A : Option Addr) (L c0 : Nat) (r b : List Int) (B : Option Addr) (m c : Nat) (hs : a.eval s = .slice A L L) (hx : a.eval x = .slice B m c)
    (HR : RdV p W (.slice A L c0) r) (HB : SrcB W (.slice B m c) b) (hm : m = b.length) (hp : p < W.heap.size) (hl : r.length + b.length ≤ 1000000000)
    (h : ∀ v1 w1, RdV p w1 v1 (r ++ b) → Below W.heap.size W w1 → (∀ g, (g < W.heap.size ∨ w1.heap.size ≤ g) → (Value.slice A L c0).ownBlock ≠ some g → v1.ownBlock ≠ some g) → K (a.put o.dst v1) w1) :
    if Region.wanted o (yielded ops a.tmps) = true then Oper.wp Try.prog o a W K Q else E := by
  obtain ⟨A', n', c', e, hn, hc, hc2, hsr, hob, hno⟩ := HR
  injection e with e1 e2 e3
  subst e1 e2 e3
  have hob2 : (Value.slice A L L).ownBlock ≠ some p := by
    cases A with
    | none => simp [Value.ownBlock]
    | some ad => exact hob
  obtain ⟨i0, hi, hz0, hz1, hz2⟩ := info_parts infoByte
  rcases HB with ⟨cb, e, rfl⟩ | ⟨bd, cb, e, hcb⟩
  · injection e with e1 e2 e3
    subst e1 e2
    have hrun : (Builtin.append_ #[22, 22] o.type #[.slice A L L, .slice none 0 c]).run Try.prog W = .ok (.slice A L L) W := by
      cases A with
      | none => 
        have hL : L = 0 := by have := hno rfl; omega
        subst hL
        simp [Builtin.append_, run_underlying Try.underlying22, sizeOf, typeInfo, hi, Builtin.lenOf, Builtin.firstCells]
      | some ad => simp [Builtin.append_, run_underlying Try.underlying22, sizeOf, typeInfo, hi, Builtin.lenOf, Builtin.firstCells, storeCells]
    have hw : Region.wanted o (yielded ops a.tmps) = true := by simp [Region.wanted, hgd]
    rw [if_pos hw]
    unfold Oper.wp execOp
    simp only [ho, resolve, invoke, builtin, Sem.run_bind, Sem.run_pure, Result.andThen_ok, List.map_toArray, List.map_cons, List.map_nil, hs, hx, hrun]
    refine h _ _ ⟨A, L, L, rfl, by rw [List.append_nil]; exact hn, Nat.le_refl _, by omega, ?_, hob2, fun e => by have := hno e; omega⟩ (Below.refl _ _) (fun g _ hg => by cases A <;> exact hg)
    rw [List.append_nil]
    rcases hsr with ⟨c2, e, h2⟩ | ⟨ad, c2, e, h2⟩
    · injection e with e1 e2 e3
      exact .inl ⟨L, by rw [e1, e2], h2⟩
    · injection e with e1 e2 e3
      exact .inr ⟨ad, L, by rw [e1, e2], h2⟩
  · injection e with e1 e2 e3
    subst e1 e3
    by_cases hb0 : b.length = 0
    · have hbn : b = [] := List.eq_nil_of_length_eq_zero hb0
      subst hbn
      have hm0 : m = 0 := hm
      subst hm0
      have hrun : (Builtin.append_ #[22, 22] o.type #[.slice A L L, .slice (some bd) 0 c]).run Try.prog W = .ok (.slice A L L) W := by
        cases A with
        | none => 
          have hL : L = 0 := by have := hno rfl; omega
          subst hL
          simp [Builtin.append_, run_underlying Try.underlying22, sizeOf, typeInfo, hi, Builtin.lenOf, Builtin.firstCells, loadCells, loadCellsFrom]
        | some ad => simp [Builtin.append_, run_underlying Try.underlying22, sizeOf, typeInfo, hi, Builtin.lenOf, Builtin.firstCells, storeCells, loadCells, loadCellsFrom]
      have hw : Region.wanted o (yielded ops a.tmps) = true := by simp [Region.wanted, hgd]
      rw [if_pos hw]
      unfold Oper.wp execOp
      simp only [ho, resolve, invoke, builtin, Sem.run_bind, Sem.run_pure, Result.andThen_ok, List.map_toArray, List.map_cons, List.map_nil, hs, hx, hrun]
      refine h _ _ ⟨A, L, L, rfl, by rw [List.append_nil]; exact hn, Nat.le_refl _, by omega, ?_, hob2, fun e => by have := hno e; omega⟩ (Below.refl _ _) (fun g _ hg => by cases A <;> exact hg)
      rw [List.append_nil]
      rcases hsr with ⟨c2, e, h2⟩ | ⟨ad, c2, e, h2⟩
      · injection e with e1 e2 e3
        exact .inl ⟨L, by rw [e1, e2], h2⟩
      · injection e with e1 e2 e3
        exact .inr ⟨ad, L, by rw [e1, e2], h2⟩
    · refine step_append_grows hgd s x 22 ho 5 i0 _ 1 1 Try.underlying22 hi hz0 hz1 hz2 rfl (by decide) A L L (nums .u8 r) hs (fun e => by have := hno e; omega) (by rw [nums_length, hn]; omega) ?_ bd m c (nums .u8 b) hx (by rw [nums_length, hm]; omega) (fun j u hu => ?_) (fun u hu => by obtain ⟨q, _, rfl⟩ := List.mem_map.1 hu; rfl) (by omega) (by unfold maxLen; omega) (by omega) ?_
      · intro ad e j u hu
        subst e
        rcases hsr with ⟨c2, e, h2⟩ | ⟨ad2, c2, e, h2⟩
        · cases e
        · injection e with e1 e2 e3
          injection e1 with e1
          subst e1
          unfold nums at hu
          rw [List.getElem?_map] at hu
          obtain ⟨x, hx, rfl⟩ := Option.map_eq_some_iff.1 hu
          exact h2 j x hx
      · unfold nums at hu
        rw [List.getElem?_map] at hu
        obtain ⟨x, hx, rfl⟩ := Option.map_eq_some_iff.1 hu
        exact hcb j x hx
      · intro v' w' hown hgr
        have e : nums .u8 r ++ nums .u8 b = nums .u8 (r ++ b) := by unfold nums; rw [List.map_append]
        have e2 : L + m = (r ++ b).length := by rw [List.length_append, hn, hm]
        rw [e, e2] at hown
        exact h _ _ (RdV.of_row hown hp) ((Below.refl _ _).grown hgr (Nat.le_refl _) (fun k hk => by cases hk)) (fun g hg _ e3 => by have := hown.lt g e3; omega)
end
end Go.Proofs.Ytjlnbklendkflaa
