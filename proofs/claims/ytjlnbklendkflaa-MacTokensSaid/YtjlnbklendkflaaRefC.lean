/- The document's answer for layer 5: words, schedule, what is kept; plain. -/
import Derived.Test.YtjlnbklendkflaaRefA
import Derived.Test.YtjlnbklendkflaaMacC
import Derived.Lib.Hide
import Derived.LoopTactic
import Derived.Outline
import Derived.Laws.Rows
import Derived.Laws.CopyOwn
import Derived.WalkKit
set_option linter.unusedVariables false
set_option linter.unusedSimpArgs false
namespace Go.Proofs.Ytjlnbklendkflaa
open Go.RowKit Go.Proofs.YtjlnbklendkflaaW.PrintWords Go.Proofs.YtjlnbklendkflaaW.PrintLast Go.Proofs.YtjlnbklendkflaaW.PrintMore
open Go.Proofs.Ytjlnbklendkflaa.PHashSums


theorem or_join (i : Nat) (X Y : Nat) (hX : X < 4294967296) (hm : X % 2 ^ i = 0) (hY : Y < 2 ^ i) (hY2 : Y < 4294967296) : Go.bits .or .u32 (X : Int) (Y : Int) = ((X + Y : Nat) : Int) := by
  rw [u32_or_nat X Y hX hY2, nat_join i X Y hm hY]
theorem word_is (b : List Int) (i : Nat) (y0 y1 y2 y3 : Int) (h0 : b.getD (4 * i) 0 = y0) (h1 : b.getD (4 * i + 1) 0 = y1) (h2 : b.getD (4 * i + 2) 0 = y2) (h3 : b.getD (4 * i + 3) 0 = y3)
    (r0 : 0 ≤ y0 ∧ y0 ≤ 255) (r1 : 0 ≤ y1 ∧ y1 ≤ 255) (r2 : 0 ≤ y2 ∧ y2 ≤ 255) (r3 : 0 ≤ y3 ∧ y3 ≤ 255) :
    Go.bits .or .u32 (Go.bits .or .u32 (Go.bits .or .u32 (IntKind.u32.wrap (IntKind.u32.wrap y0 * 16777216)) (IntKind.u32.wrap (IntKind.u32.wrap y1 * 65536))) (IntKind.u32.wrap (IntKind.u32.wrap y2 * 256))) (IntKind.u32.wrap y3) = pw b i 4 := by
  obtain ⟨Y0, rfl⟩ := Int.eq_ofNat_of_zero_le r0.1
  obtain ⟨Y1, rfl⟩ := Int.eq_ofNat_of_zero_le r1.1
  obtain ⟨Y2, rfl⟩ := Int.eq_ofNat_of_zero_le r2.1
  obtain ⟨Y3, rfl⟩ := Int.eq_ofNat_of_zero_le r3.1
  have hw : ∀ n : Nat, n < 4294967296 → IntKind.u32.wrap (n : Int) = (n : Int) := fun n hn => by rw [IntKind.wrap_u32]; omega
  have s0 : IntKind.u32.wrap (IntKind.u32.wrap (Y0 : Int) * 16777216) = ((Y0 * 16777216 : Nat) : Int) := by rw [hw Y0 (by omega), IntKind.wrap_u32]; omega
  have s1 : IntKind.u32.wrap (IntKind.u32.wrap (Y1 : Int) * 65536) = ((Y1 * 65536 : Nat) : Int) := by rw [hw Y1 (by omega), IntKind.wrap_u32]; omega
  have s2 : IntKind.u32.wrap (IntKind.u32.wrap (Y2 : Int) * 256) = ((Y2 * 256 : Nat) : Int) := by rw [hw Y2 (by omega), IntKind.wrap_u32]; omega
  have st : ∀ X Y : Nat, X < 16777216 → Y < 256 → Go.bits .or .u32 (IntKind.u32.wrap ((X : Int) * 256)) (IntKind.u32.wrap (Y : Int)) = ((X * 256 + Y : Nat) : Int) := fun X Y hX hY => by
    have e : IntKind.u32.wrap ((X : Int) * 256) = ((X * 256 : Nat) : Int) := by rw [IntKind.wrap_u32]; omega
    rw [e, hw Y (by omega)]
    exact or_join 8 _ _ (by omega) (by omega) (by omega) (by omega)
  have p1 : pw b i 1 = ((Y0 : Nat) : Int) := by
    have := st 0 Y0 (by omega) (by omega)
    show Go.bits .or .u32 (IntKind.u32.wrap (0 * 256)) (IntKind.u32.wrap (b.getD (4 * i + 0) 0)) = _
    rw [Nat.add_zero, h0]
    rw [show ((0 * 256 + Y0 : Nat) : Int) = (Y0 : Int) by omega] at this
    exact this
  have p2 : pw b i 2 = ((Y0 * 256 + Y1 : Nat) : Int) := by
    show Go.bits .or .u32 (IntKind.u32.wrap (pw b i 1 * 256)) (IntKind.u32.wrap (b.getD (4 * i + 1) 0)) = _
    rw [p1, h1]
    exact st Y0 Y1 (by omega) (by omega)
  have p3 : pw b i 3 = (((Y0 * 256 + Y1) * 256 + Y2 : Nat) : Int) := by
    show Go.bits .or .u32 (IntKind.u32.wrap (pw b i 2 * 256)) (IntKind.u32.wrap (b.getD (4 * i + 2) 0)) = _
    rw [p2, h2]
    exact st _ Y2 (by omega) (by omega)
  have p4 : pw b i 4 = ((((Y0 * 256 + Y1) * 256 + Y2) * 256 + Y3 : Nat) : Int) := by
    show Go.bits .or .u32 (IntKind.u32.wrap (pw b i 3 * 256)) (IntKind.u32.wrap (b.getD (4 * i + 3) 0)) = _
    rw [p3, h3]
    exact st _ Y3 (by omega) (by omega)
  rw [p4, s0, s1, s2, hw Y3 (by omega), or_join 24 _ _ (by omega) (by omega) (by omega) (by omega), or_join 16 _ _ (by omega) (by omega) (by omega) (by omega), or_join 8 _ _ (by omega) (by omega) (by omega) (by omega)]
  omega
theorem nxt_is (l : List Int) (n : Nat) : IntKind.u32.wrap (IntKind.u32.wrap (IntKind.u32.wrap (sg1 (l.getD (n - 2) 0) + l.getD (n - 7) 0) + sg0 (l.getD (n - 15) 0)) + l.getD (n - 16) 0) = nxt l n := by
  unfold nxt M32
  simp only [IntKind.wrap_u32]
  omega
theorem schedN_take (b : List Int) (n : Nat) : ∀ k, (schedN b (n + k)).take (16 + n) = schedN b n
  | 0 => List.take_of_length_le (by rw [Nat.add_zero, schedN_length]; exact Nat.le_refl _)
  | k + 1 => by
    show (schedN b (n + k) ++ [nxt (schedN b (n + k)) (16 + (n + k))]).take (16 + n) = _
    rw [List.take_append_of_le_length (by rw [schedN_length]; omega)]
    exact schedN_take b n k
theorem sched_take (b : List Int) (t : Nat) (h1 : 16 ≤ t) (h2 : t ≤ 64) : (sched b).take t = schedN b (t - 16) := by
  have := schedN_take b (t - 16) (64 - t)
  rw [show 16 + (t - 16) = t by omega, show t - 16 + (64 - t) = 48 by omega] at this
  exact this
theorem sched_length (b : List Int) : (sched b).length = 64 := schedN_length b 48
theorem sched_low (b : List Int) (t : Nat) (h : t < 16) : (sched b)[t]? = some (pw b t 4) := by
  have e : (sched b).take 16 = schedN b 0 := sched_take b 16 (Nat.le_refl _) (by omega)
  have : ((sched b).take 16)[t]? = some (pw b t 4) := by rw [e]; show ((List.range 16).map fun i => pw b i 4)[t]? = _; simp [h]
  rwa [List.getElem?_take_of_lt h] at this
theorem take_getD' {l : List Int} {t j : Nat} (h : j < t) : (l.take t).getD j 0 = l.getD j 0 := by
  rw [List.getD_eq_getElem?_getD, List.getElem?_take_of_lt h, List.getD_eq_getElem?_getD]
theorem sched_high (b : List Int) (t : Nat) (h1 : 16 ≤ t) (h2 : t < 64) : (sched b)[t]? = some (IntKind.u32.wrap (IntKind.u32.wrap (IntKind.u32.wrap (sg1 ((sched b).getD (t - 2) 0) + (sched b).getD (t - 7) 0) + sg0 ((sched b).getD (t - 15) 0)) + (sched b).getD (t - 16) 0)) := by
  have e : (sched b).take (t + 1) = schedN b (t - 16) ++ [nxt (schedN b (t - 16)) (16 + (t - 16))] := by rw [sched_take b (t + 1) (by omega) (by omega), show t + 1 - 16 = (t - 16) + 1 by omega]; rfl
  have h3 : ((sched b).take (t + 1))[t]? = some (nxt (schedN b (t - 16)) t) := by
    rw [e, List.getElem?_append_right (by rw [schedN_length]; omega), schedN_length, show t - (16 + (t - 16)) = 0 by omega, show 16 + (t - 16) = t by omega]
    rfl
  rw [List.getElem?_take_of_lt (by omega)] at h3
  rw [h3, ← nxt_is, ← sched_take b t h1 (by omega), take_getD' (by omega), take_getD' (by omega), take_getD' (by omega), take_getD' (by omega)]
theorem pad_range (m : List Int) (h : ∀ x ∈ m, 0 ≤ x ∧ x ≤ 255) : ∀ x ∈ pad m, 0 ≤ x ∧ x ≤ 255 := by
  intro x hx
  unfold pad fillOf at hx
  rcases List.mem_append.1 hx with hx | hx
  · exact h x hx
  · rcases List.mem_append.1 hx with hx | hx
    · rcases List.mem_cons.1 hx with rfl | hx
      · omega
      · have := (List.mem_replicate.1 hx).2
        omega
    · obtain ⟨j, _, rfl⟩ := List.mem_map.1 hx
      unfold lenB
      omega
theorem own_cap {w : World} {base : Nat} {A : Option Addr} {n c : Nat} {xs : List Value} (h : w.ownsRow base 5 1 (.slice A n c) n xs) (hn : 0 < n) : n ≤ c ∧ ∀ g, (Value.slice A n c).ownBlock = some g → base ≤ g := by
  obtain ⟨g, cap, cur, e, hb, hc, _⟩ := row_pos h hn
  injection e with e1 e2 e3
  subst e3
  exact ⟨hc, fun g' hg => (h.lt g' hg).1⟩
/-- Between two blocks. -/
structure RfB (w1 w3 wr : World) (hs : List Int) : Prop where
  keep : Keep (fun i => i = w1.heap.size) w3 wr
  hv : wr.heap[w1.heap.size]? = some (.cells (words hs) 46 (0, 0))
theorem src_keep {w wr : World} {S : Nat → Prop} {v : Value} {l : List Int} (h : SrcB w v l) (hk : Keep S w wr) (hn : ∀ g, v.ownBlock = some g → ¬ S g) : SrcB wr v l := by
  rcases h with h | ⟨ad, c, rfl, hc⟩
  · exact .inl h
  · exact .inr ⟨ad, c, rfl, fun j x hx => hk.cell (hc j x hx) (hn _ (by
      show some ad.block = some (ad.add j).block
      unfold Addr.add
      split <;> rfl))⟩
/-- Between two words of a block's schedule. -/
structure RfW (wo wr : World) (b ws : List Int) (t : Nat) : Prop where
  bel : Below wo.heap.size wo wr
  arr : wr.heap[wo.heap.size]? = some (.cells (words ws) 47 (0, 0))
  len : ws.length = 64
  eq : ws.take t = (sched b).take t
theorem RfW.start (wo : World) (b : List Int) : RfW wo (wo.alloc (Obj.cells (words (List.replicate 64 0)) 47)) b (List.replicate 64 0) 0 :=
  ⟨(Below.refl _ _).alloc (Nat.le_refl _) _, blk_new wo _, List.length_replicate .., by rw [List.take_zero, List.take_zero]⟩
theorem RfW.drewN {wo wr : World} {b ws : List Int} {t : Nat} (h : RfW wo wr b ws t) (n : Nat) : RfW wo (wr.drewN n) b ws t := ⟨pw_below_drewN h.bel n, h.arr, h.len, h.eq⟩
theorem RfW.drew {wo wr : World} {b ws : List Int} {t : Nat} (h : RfW wo wr b ws t) : RfW wo wr.drew b ws t := ⟨h.bel.drew, h.arr, h.len, h.eq⟩
theorem RfW.set {wo wr : World} {b ws : List Int} {t : Nat} (h : RfW wo wr b ws t) (ht : t < 64) {x : Int} (hx : (sched b)[t]? = some x) : RfW wo (wr.setCell ⟨wo.heap.size, t, none⟩ (.int .u32 x)) b (ws.set t x) (t + 1) :=
  ⟨h.bel.setCell (Nat.le_refl _) _, words_store h.arr t x, by rw [List.length_set]; exact h.len, by
    rw [take_set_succ (by rw [h.len]; exact ht), h.eq, List.take_add_one, hx]
    rfl⟩
theorem RfW.cell {wo wr : World} {b ws : List Int} {t : Nat} (h : RfW wo wr b ws t) (j : Nat) (hj : j < 64) : wr.cell? ⟨wo.heap.size, j, none⟩ = some (.int .u32 (ws.getD j 0)) := by
  have hx : ws[j]? = some (ws.getD j 0) := by rw [List.getD_eq_getElem?_getD, List.getElem?_eq_getElem (by rw [h.len]; exact hj)]; rfl
  exact words_cell h.arr hx
theorem RfW.at_ {wo wr : World} {b ws : List Int} {t : Nat} (h : RfW wo wr b ws t) (j : Nat) (hj : j < t) : ws.getD j 0 = (sched b).getD j 0 := by
  rw [← take_getD' hj, h.eq, take_getD' hj]
/-- Between two words that are added. -/
structure RfC (w1 wo : World) (g : Nat) (wr : World) (hp v : List Int) : Prop where
  keep : Keep (fun i => i = w1.heap.size) wo wr
  hv : wr.heap[w1.heap.size]? = some (.cells (words hp) 46 (0, 0))
  sv : wr.heap[g]? = some (.cells (words v) 45 (0, 0))
  ne : w1.heap.size ≠ g
theorem RfC.set {w1 wo wr : World} {g : Nat} {hp v : List Int} (h : RfC w1 wo g wr hp v) (i : Nat) (x : Int) : RfC w1 wo g (wr.setCell ⟨w1.heap.size, i, none⟩ (.int .u32 x)) (hp.set i x) v :=
  ⟨h.keep.setCell (fun _ => rfl) _, words_store h.hv i x, blk_far h.sv (by simpa using h.ne) _, h.ne⟩
structure RfD (w5 wr : World) (ds : List Int) : Prop where
  bel : Below w5.heap.size w5 wr
  dv : wr.heap[w5.heap.size]? = some (.cells (bytesA ds) 24 (0, 0))
theorem RfD.set {w5 wr : World} {ds : List Int} (h : RfD w5 wr ds) (i : Nat) (x : Int) : RfD w5 (wr.setCell ⟨w5.heap.size, i, none⟩ (.int .u8 x)) (ds.set i x) := ⟨h.bel.setCell (Nat.le_refl _) _, by rw [← bytesA_set]; exact blk_set h.dv i _⟩
end Go.Proofs.Ytjlnbklendkflaa
