/- SHA-256's words: rotations, and a block's schedule, walked. -/
import Derived.Test.YtjlnbklendkflaaKey
import Derived.Test.YtjlnbklendkflaaPrim
import Derived.Test.YtjlnbklendkflaaFrame
import Derived.Lib.Hide
import Derived.LoopTactic
import Derived.Outline
import Derived.Laws.Rows
import Derived.Laws.CopyOwn
import Derived.WalkKit
set_option linter.unusedVariables false
set_option linter.unusedSimpArgs false
namespace Go.Proofs.Ytjlnbklendkflaa
open Go.RowKit Go.Proofs.YtjlnbklendkflaaW.PrintWords Go.Proofs.YtjlnbklendkflaaW.PrintLast Go.Proofs.YtjlnbklendkflaaW.PrintMore
open Go.Proofs.Ytjlnbklendkflaa.PHashSums


/-- A word turned to the right. -/
def rotR (x n : Int) : Int := Go.bits .or .u32 (shl .u32 x (32 - n)) (shr .u32 x n)
def M32 (x : Int) : Int := IntKind.u32.wrap x
def xo (a b : Int) : Int := Go.bits .xor .u32 a b
def an (a b : Int) : Int := Go.bits .and .u32 a b
theorem right_is7 (x : Int) : hash_right.f x 7 = some (rotR x 7) := by
  unfold hash_right.f bits_RotateLeft32.f
  have e : Go.bits .and .u64 (IntKind.u64.wrap (wrap64 (-7))) 31 = 25 := by decide +kernel
  have e2 : IntKind.u64.wrap (32 - 25) = 7 := by decide +kernel
  rw [e, e2, if_pos (by omega), if_pos (by omega)]
  rfl
theorem right7 (x : Int) (w : World) : Calls Try.prog 39 #[.int .u32 x, .int .i64 7] w fun e w' => e = .returned (.int .u32 (rotR x 7)) ∧ Drawn0 w w' := hash_right.calls x 7 _ w (right_is7 x)
theorem right_is18 (x : Int) : hash_right.f x 18 = some (rotR x 18) := by
  unfold hash_right.f bits_RotateLeft32.f
  have e : Go.bits .and .u64 (IntKind.u64.wrap (wrap64 (-18))) 31 = 14 := by decide +kernel
  have e2 : IntKind.u64.wrap (32 - 14) = 18 := by decide +kernel
  rw [e, e2, if_pos (by omega), if_pos (by omega)]
  rfl
theorem right18 (x : Int) (w : World) : Calls Try.prog 39 #[.int .u32 x, .int .i64 18] w fun e w' => e = .returned (.int .u32 (rotR x 18)) ∧ Drawn0 w w' := hash_right.calls x 18 _ w (right_is18 x)
theorem right_is17 (x : Int) : hash_right.f x 17 = some (rotR x 17) := by
  unfold hash_right.f bits_RotateLeft32.f
  have e : Go.bits .and .u64 (IntKind.u64.wrap (wrap64 (-17))) 31 = 15 := by decide +kernel
  have e2 : IntKind.u64.wrap (32 - 15) = 17 := by decide +kernel
  rw [e, e2, if_pos (by omega), if_pos (by omega)]
  rfl
theorem right17 (x : Int) (w : World) : Calls Try.prog 39 #[.int .u32 x, .int .i64 17] w fun e w' => e = .returned (.int .u32 (rotR x 17)) ∧ Drawn0 w w' := hash_right.calls x 17 _ w (right_is17 x)
theorem right_is19 (x : Int) : hash_right.f x 19 = some (rotR x 19) := by
  unfold hash_right.f bits_RotateLeft32.f
  have e : Go.bits .and .u64 (IntKind.u64.wrap (wrap64 (-19))) 31 = 13 := by decide +kernel
  have e2 : IntKind.u64.wrap (32 - 13) = 19 := by decide +kernel
  rw [e, e2, if_pos (by omega), if_pos (by omega)]
  rfl
theorem right19 (x : Int) (w : World) : Calls Try.prog 39 #[.int .u32 x, .int .i64 19] w fun e w' => e = .returned (.int .u32 (rotR x 19)) ∧ Drawn0 w w' := hash_right.calls x 19 _ w (right_is19 x)
theorem right_is6 (x : Int) : hash_right.f x 6 = some (rotR x 6) := by
  unfold hash_right.f bits_RotateLeft32.f
  have e : Go.bits .and .u64 (IntKind.u64.wrap (wrap64 (-6))) 31 = 26 := by decide +kernel
  have e2 : IntKind.u64.wrap (32 - 26) = 6 := by decide +kernel
  rw [e, e2, if_pos (by omega), if_pos (by omega)]
  rfl
theorem right6 (x : Int) (w : World) : Calls Try.prog 39 #[.int .u32 x, .int .i64 6] w fun e w' => e = .returned (.int .u32 (rotR x 6)) ∧ Drawn0 w w' := hash_right.calls x 6 _ w (right_is6 x)
theorem right_is11 (x : Int) : hash_right.f x 11 = some (rotR x 11) := by
  unfold hash_right.f bits_RotateLeft32.f
  have e : Go.bits .and .u64 (IntKind.u64.wrap (wrap64 (-11))) 31 = 21 := by decide +kernel
  have e2 : IntKind.u64.wrap (32 - 21) = 11 := by decide +kernel
  rw [e, e2, if_pos (by omega), if_pos (by omega)]
  rfl
theorem right11 (x : Int) (w : World) : Calls Try.prog 39 #[.int .u32 x, .int .i64 11] w fun e w' => e = .returned (.int .u32 (rotR x 11)) ∧ Drawn0 w w' := hash_right.calls x 11 _ w (right_is11 x)
theorem right_is25 (x : Int) : hash_right.f x 25 = some (rotR x 25) := by
  unfold hash_right.f bits_RotateLeft32.f
  have e : Go.bits .and .u64 (IntKind.u64.wrap (wrap64 (-25))) 31 = 7 := by decide +kernel
  have e2 : IntKind.u64.wrap (32 - 7) = 25 := by decide +kernel
  rw [e, e2, if_pos (by omega), if_pos (by omega)]
  rfl
theorem right25 (x : Int) (w : World) : Calls Try.prog 39 #[.int .u32 x, .int .i64 25] w fun e w' => e = .returned (.int .u32 (rotR x 25)) ∧ Drawn0 w w' := hash_right.calls x 25 _ w (right_is25 x)
theorem right_is2 (x : Int) : hash_right.f x 2 = some (rotR x 2) := by
  unfold hash_right.f bits_RotateLeft32.f
  have e : Go.bits .and .u64 (IntKind.u64.wrap (wrap64 (-2))) 31 = 30 := by decide +kernel
  have e2 : IntKind.u64.wrap (32 - 30) = 2 := by decide +kernel
  rw [e, e2, if_pos (by omega), if_pos (by omega)]
  rfl
theorem right2 (x : Int) (w : World) : Calls Try.prog 39 #[.int .u32 x, .int .i64 2] w fun e w' => e = .returned (.int .u32 (rotR x 2)) ∧ Drawn0 w w' := hash_right.calls x 2 _ w (right_is2 x)
theorem right_is13 (x : Int) : hash_right.f x 13 = some (rotR x 13) := by
  unfold hash_right.f bits_RotateLeft32.f
  have e : Go.bits .and .u64 (IntKind.u64.wrap (wrap64 (-13))) 31 = 19 := by decide +kernel
  have e2 : IntKind.u64.wrap (32 - 19) = 13 := by decide +kernel
  rw [e, e2, if_pos (by omega), if_pos (by omega)]
  rfl
theorem right13 (x : Int) (w : World) : Calls Try.prog 39 #[.int .u32 x, .int .i64 13] w fun e w' => e = .returned (.int .u32 (rotR x 13)) ∧ Drawn0 w w' := hash_right.calls x 13 _ w (right_is13 x)
theorem right_is22 (x : Int) : hash_right.f x 22 = some (rotR x 22) := by
  unfold hash_right.f bits_RotateLeft32.f
  have e : Go.bits .and .u64 (IntKind.u64.wrap (wrap64 (-22))) 31 = 10 := by decide +kernel
  have e2 : IntKind.u64.wrap (32 - 10) = 22 := by decide +kernel
  rw [e, e2, if_pos (by omega), if_pos (by omega)]
  rfl
theorem right22 (x : Int) (w : World) : Calls Try.prog 39 #[.int .u32 x, .int .i64 22] w fun e w' => e = .returned (.int .u32 (rotR x 22)) ∧ Drawn0 w w' := hash_right.calls x 22 _ w (right_is22 x)

/-- The first k bytes of word i. -/
def pw (b : List Int) (i : Nat) : Nat → Int
  | 0 => 0
  | k + 1 => Go.bits .or .u32 (M32 (pw b i k * 256)) (M32 (b.getD (4 * i + k) 0))
def sg0 (x : Int) : Int := xo (xo (rotR x 7) (rotR x 18)) (x / 8)
def sg1 (x : Int) : Int := xo (xo (rotR x 17) (rotR x 19)) (x / 1024)
/-- The word behind n of them. -/
def nxt (l : List Int) (n : Nat) : Int := M32 (M32 (M32 (l.getD (n - 16) 0 + sg0 (l.getD (n - 15) 0)) + l.getD (n - 7) 0) + sg1 (l.getD (n - 2) 0))
/-- The words of a block: 16, and n more. -/
def schedN (b : List Int) : Nat → List Int
  | 0 => (List.range 16).map fun i => pw b i 4
  | n + 1 => schedN b n ++ [nxt (schedN b n) (16 + n)]
def sched (b : List Int) : List Int := schedN b 48
theorem schedN_length (b : List Int) : ∀ n, (schedN b n).length = 16 + n
  | 0 => by simp [schedN]
  | n + 1 => by simp only [schedN, List.length_append, schedN_length b n, List.length_singleton]; omega
/-- The cells of an array of words that lies in a block. -/
def words (l : List Int) : Array Value := (nums .u32 l).toArray
theorem words_size (l : List Int) : (words l).size = l.length := by simp [words, nums]
theorem words_get {l : List Int} {i : Nat} {x : Int} (h : l[i]? = some x) : (words l)[i]? = some (.int .u32 x) := by
  unfold words nums
  simp [h]
theorem words_set (l : List Int) (i : Nat) (x : Int) : (words l).setIfInBounds i (.int .u32 x) = words (l.set i x) := by
  unfold words nums
  apply Array.toList_inj.1
  simp [List.map_set]
theorem words_cell {w : World} {g : Nat} {t : TypeId} {l : List Int} (h : w.heap[g]? = some (.cells (words l) t (0, 0))) {i : Nat} {x : Int} (hx : l[i]? = some x) : w.cell? ⟨g, i, none⟩ = some (.int .u32 x) := by
  rw [blk_cell h]; exact words_get hx
theorem words_store {w : World} {g : Nat} {t : TypeId} {l : List Int} (h : w.heap[g]? = some (.cells (words l) t (0, 0))) (i : Nat) (x : Int) : (w.setCell ⟨g, i, none⟩ (.int .u32 x)).heap[g]? = some (.cells (words (l.set i x)) t (0, 0)) := by
  rw [← words_set]; exact blk_set h i _
theorem words_one (l : List Int) : (words l).all (·.oneCell') = true := by
  rw [Array.all_eq_true_iff_forall_mem]
  intro v hv
  unfold words nums at hv
  simp only [List.mem_toArray, List.mem_map] at hv
  obtain ⟨x, _, rfl⟩ := hv
  rfl
/-- Between two stores of the schedule. -/
structure SInv (w wr : World) (ws : List Int) : Prop where
  bel : Below w.heap.size w wr
  res : ∃ cs : Array Value, wr.heap[w.heap.size]? = some (.cells cs 47 (0, 0)) ∧ cs.size = 64
  arr : wr.heap[w.heap.size + 1]? = some (.cells (words ws) 47 (0, 0))
  len : ws.length = 64
theorem SInv.drew {w wr : World} {ws : List Int} (h : SInv w wr ws) : SInv w wr.drew ws := ⟨h.bel.drew, h.res, h.arr, h.len⟩
theorem SInv.drewN {w wr : World} {ws : List Int} (h : SInv w wr ws) (n : Nat) : SInv w (wr.drewN n) ws := ⟨pw_below_drewN h.bel n, h.res, h.arr, h.len⟩
theorem SInv.set {w wr : World} {ws : List Int} (h : SInv w wr ws) (i : Nat) (x : Int) : SInv w (wr.setCell ⟨w.heap.size + 1, i, none⟩ (.int .u32 x)) (ws.set i x) := by
  obtain ⟨cs, hr, hc⟩ := h.res
  exact ⟨h.bel.setCell (by simp) _, ⟨cs, blk_far hr (by simp) _, hc⟩, words_store h.arr i x, by rw [List.length_set]; exact h.len⟩
theorem SInv.cell {w wr : World} {ws : List Int} (h : SInv w wr ws) (i : Nat) (hi : i < 64) : wr.cell? ⟨w.heap.size + 1, i, none⟩ = some (.int .u32 (ws.getD i 0)) := by
  have hl : i < ws.length := by rw [h.len]; exact hi
  refine words_cell h.arr ?_
  rw [List.getD_eq_getElem?_getD, List.getElem?_eq_getElem hl]
  rfl
theorem SInv.free {w wr : World} {ws : List Int} (h : SInv w wr ws) (i : Nat) : wr.frozen? ⟨w.heap.size + 1, i, none⟩ = false := blk_frozen h.arr i
/-- What the words are behind i whole ones, and k bytes of the next. -/
def Upto (b ws : List Int) (i k : Nat) : Prop := ∀ j, j < 64 → ws.getD j 0 = if j < i then pw b j 4 else if j = i then pw b i k else 0
theorem getD_set (l : List Int) (i j : Nat) (x : Int) (hi : i < l.length) : (l.set i x).getD j 0 = if j = i then x else l.getD j 0 := by
  rw [List.getD_eq_getElem?_getD, List.getD_eq_getElem?_getD, List.getElem?_set]
  by_cases h : i = j
  · subst h; simp [hi]
  · rw [if_neg h, if_neg (fun e => h e.symm)]
theorem Upto.more {b ws : List Int} {i k : Nat} (h : Upto b ws i k) (hl : ws.length = 64) (hi : i < 16) : Upto b (ws.set i (pw b i (k + 1))) i (k + 1) := fun j hj => by
  rw [getD_set _ _ _ _ (by omega), h j hj]
  by_cases h1 : j = i
  · subst h1; simp
  · rw [if_neg h1, if_neg h1, if_neg h1]
theorem Upto.next {b ws : List Int} {i : Nat} (h : Upto b ws i 4) : Upto b ws (i + 1) 0 := fun j hj => by
  rw [h j hj]
  by_cases h1 : j < i
  · rw [if_pos h1, if_pos (by omega)]
  · by_cases h2 : j = i
    · subst h2; rw [if_neg h1, if_pos rfl, if_pos (by omega)]
    · rw [if_neg h1, if_neg h2, if_neg (by omega)]; simp [pw]
theorem Upto.start (b : List Int) : Upto b (List.replicate 64 0) 0 0 := fun j hj => by
  rw [if_neg (by omega)]
  rw [List.getD_eq_getElem?_getD, List.getElem?_replicate, if_pos hj]
  by_cases h : j = 0
  · rw [if_pos h]; rfl
  · rw [if_neg h]; rfl
theorem Upto.take {b ws : List Int} (h : Upto b ws 16 0) (hl : ws.length = 64) : ws.take 16 = schedN b 0 := by
  apply List.ext_getElem?
  intro j
  by_cases hj : j < 16
  · have := h j (by omega)
    rw [if_pos hj, List.getD_eq_getElem?_getD, List.getElem?_eq_getElem (by omega)] at this
    rw [List.getElem?_take_of_lt hj, List.getElem?_eq_getElem (by omega)]
    simp [schedN, hj]
    simpa using this
  · rw [List.getElem?_eq_none (by rw [List.length_take]; omega), List.getElem?_eq_none (by rw [schedN_length]; omega)]
theorem take_getD {ws s : List Int} {n : Nat} (h : ws.take n = s) (j : Nat) (hj : j < n) : ws.getD j 0 = s.getD j 0 := by
  rw [← h, List.getD_eq_getElem?_getD, List.getD_eq_getElem?_getD, List.getElem?_take_of_lt hj]
theorem take_set_succ {ws : List Int} {n : Nat} {x : Int} (hn : n < ws.length) : (ws.set n x).take (n + 1) = ws.take n ++ [x] := by
  rw [List.take_add_one, List.getElem?_set_self hn, List.take_set_of_le (Nat.le_refl _)]
  rfl
def SrcB (w : World) (v : Value) (l : List Int) : Prop :=
  (∃ c, v = .slice none 0 c ∧ l = []) ∨ ∃ ad c, v = .slice (some ad) l.length c ∧ ∀ (j : Nat) (x : Int), l[j]? = some x → w.cell? (ad.add j) = some (.int .u8 x)
theorem bread {w w1 : World} (h : Below w.heap.size w w1) {p : Addr} {v : Value} (hc : w.cell? p = some v) : w1.cell? p = some v := by
  have hlt : p.block < w.heap.size := World.block_lt_of_cell? w p hc
  rw [h.cell hlt]; exact hc
theorem SrcB.below {w w1 : World} {v : Value} {l : List Int} (h : SrcB w v l) (hb : Below w.heap.size w w1) : SrcB w1 v l := by
  rcases h with h | ⟨ad, c, rfl, hc⟩
  · exact .inl h
  · exact .inr ⟨ad, c, rfl, fun j x hx => bread hb (hc j x hx)⟩
theorem SrcB.lt {w : World} {v : Value} {l : List Int} (h : SrcB w v l) (h0 : l.length ≠ 0) (g : Nat) (hg : v.ownBlock = some g) : g < w.heap.size := by
  rcases h with ⟨c, _, h1⟩ | ⟨ad, c, rfl, hc⟩
  · rw [h1] at h0; exact absurd rfl h0
  · obtain ⟨x, hx⟩ : ∃ x, l[0]? = some x := ⟨_, List.getElem?_eq_getElem (by omega)⟩
    have h1 := World.block_lt_of_cell? w _ (hc 0 x hx)
    have h2 : (ad.add 0).block = ad.block := rfl
    have h3 : ad.block = g := by simpa [Value.ownBlock] using hg
    omega
theorem SInv.start (w : World) : SInv w ((w.alloc (Obj.cells (words (List.replicate 64 0)) 47)).alloc (Obj.cells (words (List.replicate 64 0)) 47)) (List.replicate 64 0) :=
  ⟨((Below.refl _ _).alloc (Nat.le_refl _) _).alloc (by simp) _, ⟨_, blk_alloc (blk_new w _) _, by rw [words_size, List.length_replicate]⟩, by have h := blk_new (w.alloc (Obj.cells (words (List.replicate 64 0)) 47)) (Obj.cells (words (List.replicate 64 0)) 47); rw [show (w.alloc (Obj.cells (words (List.replicate 64 0)) 47)).heap.size = w.heap.size + 1 by simp] at h; exact h, List.length_replicate ..⟩
set_option maxRecDepth 100000 in
set_option maxHeartbeats 8000000 in
theorem sched_calls (ad : Addr) (c : Nat) (b : List Int) (w : World) (hb : b.length = 64) (h : ∀ (j : Nat) (x : Int), b[j]? = some x → w.cell? (ad.add j) = some (.int .u8 x)) :
    Calls Try.prog 38 #[.slice (some ad) 64 c] w fun e w' => e = .returned (.agg (words (sched b))) ∧ Below w.heap.size w w' := by
  have HB := Aside0.mk h
  have HL := Aside0.mk hb
  clear h hb
  go_enter Try.func38, Try.ntmps38
  go_wp2_with fail
  go_loopw [9] (fun v9 wr => ∃ (i : Nat) (ws : List Int), i ≤ 16 ∧ v9 = .int .i64 (i : Int) ∧ Aside0 (SInv w wr ws) ∧ Aside0 (Upto b ws i 0)) (fun v _ => 16 - (intOf v).toNat)
  case atStart => exact ⟨0, List.replicate 64 0, by omega, rfl, ⟨SInv.start w⟩, ⟨Upto.start b⟩⟩
  case round =>
    obtain ⟨i, ws0, hi, rfl, HS0, HU0⟩ := hrel
    obtain ⟨wo, hwo⟩ : ∃ wo : World, wo = wr := ⟨_, rfl⟩
    subst hwo
    by_cases hlt : i < 16
    · go_wp2_with fail
      go_loopw [12] (fun v12 wr => ∃ (k : Nat) (ws : List Int), k ≤ 4 ∧ v12 = .int .i64 (k : Int) ∧ Aside0 (SInv w wr ws) ∧ Aside0 (Upto b ws i k)) (fun v _ => 4 - (intOf v).toNat)
      case atStart => exact ⟨0, ws0, by omega, rfl, HS0, HU0⟩
      case round =>
        obtain ⟨k, ws, hk, rfl, HS, HU⟩ := hrel
        by_cases hlk : k < 4
        · have hx := HU.out i (by omega)
          rw [if_neg (by omega), if_pos rfl] at hx
          obtain ⟨x0, hx0⟩ : ∃ x0, x0 = ws.getD i 0 := ⟨_, rfl⟩
          have c0 := HS.out.cell i (by omega)
          rw [← hx0] at c0 hx
          have fz := HS.out.free i
          obtain ⟨y, hy⟩ : ∃ y, b[4 * i + k]? = some y := ⟨_, List.getElem?_eq_getElem (by have := HL.out; omega)⟩
          have c1 := bread HS.out.bel (HB.out _ _ hy)
          have hyd : b.getD (4 * i + k) 0 = y := by rw [List.getD_eq_getElem?_getD, hy]; rfl
          have q1 : wrap64 (4 * (i : Int)) = 4 * (i : Int) := by unfold wrap64; omega
          have q2 : wrap64 (4 * (i : Int) + (k : Int)) = 4 * (i : Int) + (k : Int) := by unfold wrap64; omega
          have q3 : (0 : Int) ≤ 4 * (i : Int) + (k : Int) := by omega
          have q4 : 4 * (i : Int) + (k : Int) < 64 := by omega
          have q5 : (4 * (i : Int) + (k : Int)).toNat = 4 * i + k := by omega
          have q6 : (i : Int) < 64 := by omega
          have hpw : pw b i (k + 1) = Go.bits .or .u32 (IntKind.u32.wrap (x0 * 256)) (IntKind.u32.wrap y) := by simp only [pw, M32]; rw [← hx, hyd]
          have hn := (HS.out.set i (pw b i (k + 1))).drew
          have hnu := HU.out.more HS.out.len hlt
          rw [hpw] at hn hnu
          have HN := Aside0.mk hn
          have HNU := Aside0.mk hnu
          clear hx hy hyd hpw hx0 hn hnu
          go_wp2_with fail
          refine start_ (n := 16) (S := fun w' => (w'.cell? ⟨w.heap.size + 1, i, none⟩ = some (.int .u32 x0)) ∧ (w'.cell? (ad.add (4 * i + k)) = some (.int .u8 y))) (ds := [15]) #[false, false, false, false, false, false, false, false, false, false, false, false, false, false, false, false] (by kernel_rfl) rfl rfl ⟨c0, c1⟩ (fun hHeld => ?_)
          refine pure_ (i := 0) (N := some 15) (v := ?_) (a' := ?_) #[true, false, false, false, false, false, false, false, false, false, false, false, false, false, false, false] rfl rfl (by kernel_rfl) (fun _ _ _ h => h) (Or.inl ⟨by rfl, ?_⟩) ?_ ?_
          rotate_left
          · intro w'
            go_simp
            with_reducible rfl
          rotate_left
          · simp only [Act.put, List.setIfInBounds_toArray, List.set_cons_zero, List.set_cons_succ, i64_w, i32_w]
            rfl
          refine pure_ (i := 1) (N := some 16) (v := ?_) (a' := ?_) #[true, true, false, false, false, false, false, false, false, false, false, false, false, false, false, false] rfl rfl (by kernel_rfl) (fun _ _ _ h => h) (Or.inl ⟨by rfl, ?_⟩) ?_ ?_
          rotate_left
          · intro w'
            go_simp
            with_reducible rfl
          rotate_left
          · simp only [Act.put, List.setIfInBounds_toArray, List.set_cons_zero, List.set_cons_succ, i64_w, i32_w]
            rfl
          refine pure_ (i := 2) (N := some 17) (v := ?_) (a' := ?_) #[true, true, true, false, false, false, false, false, false, false, false, false, false, false, false, false] rfl rfl (by kernel_rfl) (fun _ _ _ h => h) (Or.inl ⟨by rfl, ?_⟩) ?_ ?_
          rotate_left
          · intro w'
            go_simp
            with_reducible rfl
          rotate_left
          · simp only [Act.put, List.setIfInBounds_toArray, List.set_cons_zero, List.set_cons_succ, i64_w, i32_w]
            rfl
          refine pure_ (i := 5) (N := some 20) (v := ?_) (a' := ?_) #[true, true, true, false, false, true, false, false, false, false, false, false, false, false, false, false] rfl rfl (by kernel_rfl) (fun _ _ _ h => h) (Or.inl ⟨by rfl, ?_⟩) ?_ ?_
          rotate_left
          · intro w'
            go_simp
            with_reducible rfl
          rotate_left
          · simp only [Act.put, List.setIfInBounds_toArray, List.set_cons_zero, List.set_cons_succ, i64_w, i32_w]
            rfl
          refine pure_ (i := 6) (N := some 21) (v := ?_) (a' := ?_) #[true, true, true, false, false, true, true, false, false, false, false, false, false, false, false, false] rfl rfl (by kernel_rfl) (fun _ _ _ h => h) (Or.inl ⟨by rfl, ?_⟩) ?_ ?_
          rotate_left
          · intro w'
            go_simp
            with_reducible rfl
          rotate_left
          · simp only [Act.put, List.setIfInBounds_toArray, List.set_cons_zero, List.set_cons_succ, i64_w, i32_w]
            rfl
          refine pure_ (i := 7) (N := some 22) (v := ?_) (a' := ?_) #[true, true, true, false, false, true, true, true, false, false, false, false, false, false, false, false] rfl rfl (by kernel_rfl) (fun _ _ _ h => h) (Or.inl ⟨by rfl, ?_⟩) ?_ ?_
          rotate_left
          · intro w'
            go_simp
            with_reducible rfl
          rotate_left
          · simp only [Act.put, List.setIfInBounds_toArray, List.set_cons_zero, List.set_cons_succ, i64_w, i32_w]
            rfl
          refine pure_ (i := 8) (N := some 23) (v := ?_) (a' := ?_) #[true, true, true, false, false, true, true, true, true, false, false, false, false, false, false, false] rfl rfl (by kernel_rfl) (fun _ _ _ h => h) (Or.inl ⟨by rfl, ?_⟩) ?_ ?_
          rotate_left
          · intro w'
            go_simp
            with_reducible rfl
          rotate_left
          · simp only [Act.put, List.setIfInBounds_toArray, List.set_cons_zero, List.set_cons_succ, i64_w, i32_w]
            rfl
          refine pure_ (i := 9) (N := some 24) (v := ?_) (a' := ?_) #[true, true, true, false, false, true, true, true, true, true, false, false, false, false, false, false] rfl rfl (by kernel_rfl) (fun _ _ _ h => h) (Or.inl ⟨by rfl, ?_⟩) ?_ ?_
          rotate_left
          · intro w'
            go_simp
            with_reducible rfl
          rotate_left
          · simp only [Act.put, List.setIfInBounds_toArray, List.set_cons_zero, List.set_cons_succ, i64_w, i32_w]
            rfl
          refine pure_ (i := 10) (N := some 25) (v := ?_) (a' := ?_) #[true, true, true, false, false, true, true, true, true, true, true, false, false, false, false, false] rfl rfl (by kernel_rfl) (fun _ _ _ h => h) (Or.inl ⟨by rfl, ?_⟩) ?_ ?_
          rotate_left
          · intro w'
            go_simp
            with_reducible rfl
          rotate_left
          · simp only [Act.put, List.setIfInBounds_toArray, List.set_cons_zero, List.set_cons_succ, i64_w, i32_w]
            rfl
          refine take_ (i := 3) (N := some 18) (v := ?_) (a' := ?_) #[true, true, true, true, false, true, true, true, true, true, true, false, false, false, false, false] rfl rfl (by kernel_rfl) (fun _ _ _ h => h) (Or.inl ⟨by rfl, ?_⟩) hHeld ?_ ?_
          rotate_left
          · rintro w' ⟨s0, s1⟩
            go_simp
            with_reducible rfl
          rotate_left
          · simp only [Act.put, List.setIfInBounds_toArray, List.set_cons_zero, List.set_cons_succ, i64_w, i32_w]
            rfl
          refine pure_ (i := 4) (N := some 19) (v := ?_) (a' := ?_) #[true, true, true, true, true, true, true, true, true, true, true, false, false, false, false, false] rfl rfl (by kernel_rfl) (fun _ _ _ h => h) (Or.inl ⟨by rfl, ?_⟩) ?_ ?_
          rotate_left
          · intro w'
            go_simp
            with_reducible rfl
          rotate_left
          · simp only [Act.put, List.setIfInBounds_toArray, List.set_cons_zero, List.set_cons_succ, i64_w, i32_w]
            rfl
          refine take_ (i := 11) (N := some 26) (v := ?_) (a' := ?_) #[true, true, true, true, true, true, true, true, true, true, true, true, false, false, false, false] rfl rfl (by kernel_rfl) (fun _ _ _ h => h) (Or.inl ⟨by rfl, ?_⟩) hHeld ?_ ?_
          rotate_left
          · rintro w' ⟨s0, s1⟩
            go_simp
            with_reducible rfl
          rotate_left
          · simp only [Act.put, List.setIfInBounds_toArray, List.set_cons_zero, List.set_cons_succ, i64_w, i32_w]
            rfl
          refine pure_ (i := 12) (N := some 27) (v := ?_) (a' := ?_) #[true, true, true, true, true, true, true, true, true, true, true, true, true, false, false, false] rfl rfl (by kernel_rfl) (fun _ _ _ h => h) (Or.inl ⟨by rfl, ?_⟩) ?_ ?_
          rotate_left
          · intro w'
            go_simp
            with_reducible rfl
          rotate_left
          · simp only [Act.put, List.setIfInBounds_toArray, List.set_cons_zero, List.set_cons_succ, i64_w, i32_w]
            rfl
          refine pure_ (i := 13) (N := some 28) (v := ?_) (a' := ?_) #[true, true, true, true, true, true, true, true, true, true, true, true, true, true, false, false] rfl rfl (by kernel_rfl) (fun _ _ _ h => h) (Or.inl ⟨by rfl, ?_⟩) ?_ ?_
          rotate_left
          · intro w'
            go_simp
            with_reducible rfl
          rotate_left
          · simp only [Act.put, List.setIfInBounds_toArray, List.set_cons_zero, List.set_cons_succ, i64_w, i32_w]
            rfl
          refine pure_ (i := 14) (N := some 29) (v := ?_) (a' := ?_) #[true, true, true, true, true, true, true, true, true, true, true, true, true, true, true, false] rfl rfl (by kernel_rfl) (fun _ _ _ h => h) (Or.inl ⟨by rfl, ?_⟩) ?_ ?_
          rotate_left
          · intro w'
            go_simp
            with_reducible rfl
          rotate_left
          · simp only [Act.put, List.setIfInBounds_toArray, List.set_cons_zero, List.set_cons_succ, i64_w, i32_w]
            rfl
          refine last_ (i := 15) (N := none) #[true, true, true, true, true, true, true, true, true, true, true, true, true, true, true, true] rfl rfl (by kernel_rfl) (by decide) (fun K hK => ?_)
          refine skip_ (w1 := ?_) (by rfl) rfl ?_ ?_
          rotate_left
          · go_simp
            rfl
          refine hK.out _ _ ?_
          clear hK K
          refine done_ (by kernel_rfl) ?_
          go_wp2
          go_roundw
          case rel => exact ⟨k + 1, _, by omega, by simp, HN, HNU⟩
          case measure => simp [intOf]; omega
        · have hk4 : k = 4 := by omega
          subst hk4
          have HNU := Aside0.mk HU.out.next
          go_wp2
          go_roundw
          case rel => exact ⟨i + 1, ws, by omega, by simp, HS, HNU⟩
          case measure => simp [intOf]; omega
    · have hi6 : i = 16 := by omega
      subst hi6
      have HT := Aside0.mk (HU0.out.take HS0.out.len)
      clear HU0 hlt hi
      go_wp2_with fail
      go_loopw [6] (fun v6 wr => ∃ (i : Nat) (ws : List Int), 16 ≤ i ∧ i ≤ 64 ∧ v6 = .int .i64 (i : Int) ∧ Aside0 (SInv w wr ws) ∧ Aside0 (ws.take i = schedN b (i - 16))) (fun v _ => 64 - (intOf v).toNat)
      case atStart => exact ⟨16, ws0, by omega, by omega, rfl, HS0, HT⟩
      case round =>
        obtain ⟨i, ws, hi0, hi1, rfl, HS, HU⟩ := hrel
        by_cases hlt : i < 64
        · have fz := HS.out.free i
          obtain ⟨xi, hxi⟩ : ∃ x, x = ws.getD i 0 := ⟨_, rfl⟩
          have ci := HS.out.cell i (by omega)
          rw [← hxi] at ci
          clear hxi
          obtain ⟨x15, hx15⟩ : ∃ x, x = ws.getD (i - 15) 0 := ⟨_, rfl⟩
          have c15 := HS.out.cell (i - 15) (by omega)
          rw [← hx15] at c15
          have a15 : wrap64 ((i : Int) - 15) = (i : Int) - 15 := by unfold wrap64; omega
          have b15 : (0 : Int) ≤ (i : Int) - 15 := by omega
          have d15 : (i : Int) - 15 < 64 := by omega
          have e15 : ((i : Int) - 15).toNat = i - 15 := by omega
          have f15 : (15 : Int) ≤ (i : Int) := by omega
          obtain ⟨x2, hx2⟩ : ∃ x, x = ws.getD (i - 2) 0 := ⟨_, rfl⟩
          have c2 := HS.out.cell (i - 2) (by omega)
          rw [← hx2] at c2
          have a2 : wrap64 ((i : Int) - 2) = (i : Int) - 2 := by unfold wrap64; omega
          have b2 : (0 : Int) ≤ (i : Int) - 2 := by omega
          have d2 : (i : Int) - 2 < 64 := by omega
          have e2 : ((i : Int) - 2).toNat = i - 2 := by omega
          have f2 : (2 : Int) ≤ (i : Int) := by omega
          obtain ⟨x16, hx16⟩ : ∃ x, x = ws.getD (i - 16) 0 := ⟨_, rfl⟩
          have c16 := HS.out.cell (i - 16) (by omega)
          rw [← hx16] at c16
          have a16 : wrap64 ((i : Int) - 16) = (i : Int) - 16 := by unfold wrap64; omega
          have b16 : (0 : Int) ≤ (i : Int) - 16 := by omega
          have d16 : (i : Int) - 16 < 64 := by omega
          have e16 : ((i : Int) - 16).toNat = i - 16 := by omega
          have f16 : (16 : Int) ≤ (i : Int) := by omega
          obtain ⟨x7, hx7⟩ : ∃ x, x = ws.getD (i - 7) 0 := ⟨_, rfl⟩
          have c7 := HS.out.cell (i - 7) (by omega)
          rw [← hx7] at c7
          have a7 : wrap64 ((i : Int) - 7) = (i : Int) - 7 := by unfold wrap64; omega
          have b7 : (0 : Int) ≤ (i : Int) - 7 := by omega
          have d7 : (i : Int) - 7 < 64 := by omega
          have e7 : ((i : Int) - 7).toNat = i - 7 := by omega
          have f7 : (7 : Int) ≤ (i : Int) := by omega
          have hi64 : (i : Int) < 64 := by omega
          have hv : nxt (schedN b (i - 16)) i = M32 (M32 (M32 (x16 + xo (xo (rotR x15 7) (rotR x15 18)) (x15 / 8)) + x7) + xo (xo (rotR x2 17) (rotR x2 19)) (x2 / 1024)) := by
            unfold nxt sg0 sg1
            rw [← take_getD HU.out (i - 16) (by omega), ← take_getD HU.out (i - 15) (by omega), ← take_getD HU.out (i - 7) (by omega), ← take_getD HU.out (i - 2) (by omega), ← hx16, ← hx15, ← hx7, ← hx2]
          have hn := HS.out.set i (nxt (schedN b (i - 16)) i)
          have ht : (ws.set i (nxt (schedN b (i - 16)) i)).take (i + 1) = schedN b (i + 1 - 16) := by
            rw [take_set_succ (by rw [HS.out.len]; exact hlt), HU.out, show i + 1 - 16 = (i - 16) + 1 by omega]
            show _ = schedN b (i - 16) ++ [nxt (schedN b (i - 16)) (16 + (i - 16))]
            rw [show 16 + (i - 16) = i by omega]
          rw [hv] at hn ht
          have HN := Aside0.mk hn
          have HT2 := Aside0.mk ht
          clear hv hn ht hx16 hx15 hx7 hx2
          go_wp2_with fail
          refine start_ (n := 10) (S := fun w' => (w'.cell? ⟨w.heap.size + 1, i - 15, none⟩ = some (.int .u32 x15)) ∧ (w'.cell? ⟨w.heap.size + 1, i - 2, none⟩ = some (.int .u32 x2))) (ds := []) #[false, false, false, false, false, false, false, false, false, false] (by kernel_rfl) rfl rfl ⟨c15, c2⟩ (fun hHeld => ?_)
          refine pure_ (i := 0) (N := some 36) (v := ?_) (a' := ?_) #[true, false, false, false, false, false, false, false, false, false] rfl rfl (by kernel_rfl) (fun _ _ _ h => h) (Or.inl ⟨by rfl, ?_⟩) ?_ ?_
          rotate_left
          · intro w'
            go_simp
            with_reducible rfl
          rotate_left
          · simp only [Act.put, List.setIfInBounds_toArray, List.set_cons_zero, List.set_cons_succ, i64_w, i32_w]
            rfl
          refine pure_ (i := 1) (N := some 37) (v := ?_) (a' := ?_) #[true, true, false, false, false, false, false, false, false, false] rfl rfl (by kernel_rfl) (fun _ _ _ h => h) (Or.inl ⟨by rfl, ?_⟩) ?_ ?_
          rotate_left
          · intro w'
            go_simp
            with_reducible rfl
          rotate_left
          · simp only [Act.put, List.setIfInBounds_toArray, List.set_cons_zero, List.set_cons_succ, i64_w, i32_w]
            rfl
          refine pure_ (i := 2) (N := some 38) (v := ?_) (a' := ?_) #[true, true, true, false, false, false, false, false, false, false] rfl rfl (by kernel_rfl) (fun _ _ _ h => h) (Or.inl ⟨by rfl, ?_⟩) ?_ ?_
          rotate_left
          · intro w'
            go_simp
            with_reducible rfl
          rotate_left
          · simp only [Act.put, List.setIfInBounds_toArray, List.set_cons_zero, List.set_cons_succ, i64_w, i32_w]
            rfl
          refine pure_ (i := 4) (N := some 40) (v := ?_) (a' := ?_) #[true, true, true, false, true, false, false, false, false, false] rfl rfl (by kernel_rfl) (fun _ _ _ h => h) (Or.inl ⟨by rfl, ?_⟩) ?_ ?_
          rotate_left
          · intro w'
            go_simp
            with_reducible rfl
          rotate_left
          · simp only [Act.put, List.setIfInBounds_toArray, List.set_cons_zero, List.set_cons_succ, i64_w, i32_w]
            rfl
          refine pure_ (i := 5) (N := some 41) (v := ?_) (a' := ?_) #[true, true, true, false, true, true, false, false, false, false] rfl rfl (by kernel_rfl) (fun _ _ _ h => h) (Or.inl ⟨by rfl, ?_⟩) ?_ ?_
          rotate_left
          · intro w'
            go_simp
            with_reducible rfl
          rotate_left
          · simp only [Act.put, List.setIfInBounds_toArray, List.set_cons_zero, List.set_cons_succ, i64_w, i32_w]
            rfl
          refine pure_ (i := 6) (N := some 42) (v := ?_) (a' := ?_) #[true, true, true, false, true, true, true, false, false, false] rfl rfl (by kernel_rfl) (fun _ _ _ h => h) (Or.inl ⟨by rfl, ?_⟩) ?_ ?_
          rotate_left
          · intro w'
            go_simp
            with_reducible rfl
          rotate_left
          · simp only [Act.put, List.setIfInBounds_toArray, List.set_cons_zero, List.set_cons_succ, i64_w, i32_w]
            rfl
          refine take_ (i := 3) (N := some 39) (v := ?_) (a' := ?_) #[true, true, true, true, true, true, true, false, false, false] rfl rfl (by kernel_rfl) (fun _ _ _ h => h) (Or.inl ⟨by rfl, ?_⟩) hHeld ?_ ?_
          rotate_left
          · rintro w' ⟨s0, s1⟩
            go_simp
            with_reducible rfl
          rotate_left
          · simp only [Act.put, List.setIfInBounds_toArray, List.set_cons_zero, List.set_cons_succ, i64_w, i32_w]
            rfl
          refine pure_ (i := 8) (N := some 7) (v := ?_) (a' := ?_) #[true, true, true, true, true, true, true, false, true, false] rfl rfl (by kernel_rfl) (fun _ _ _ h => h) (Or.inl ⟨by rfl, ?_⟩) ?_ ?_
          rotate_left
          · intro w'
            go_simp
            with_reducible rfl
          rotate_left
          · simp only [Act.put, List.setIfInBounds_toArray, List.set_cons_zero, List.set_cons_succ, i64_w, i32_w]
            rfl
          refine take_ (i := 7) (N := some 43) (v := ?_) (a' := ?_) #[true, true, true, true, true, true, true, true, true, false] rfl rfl (by kernel_rfl) (fun _ _ _ h => h) (Or.inl ⟨by rfl, ?_⟩) hHeld ?_ ?_
          rotate_left
          · rintro w' ⟨s0, s1⟩
            go_simp
            with_reducible rfl
          rotate_left
          · simp only [Act.put, List.setIfInBounds_toArray, List.set_cons_zero, List.set_cons_succ, i64_w, i32_w]
            rfl
          refine pure_ (i := 9) (N := some 8) (v := ?_) (a' := ?_) #[true, true, true, true, true, true, true, true, true, true] rfl rfl (by kernel_rfl) (fun _ _ _ h => h) (Or.inl ⟨by rfl, ?_⟩) ?_ ?_
          rotate_left
          · intro w'
            go_simp
            with_reducible rfl
          rotate_left
          · simp only [Act.put, List.setIfInBounds_toArray, List.set_cons_zero, List.set_cons_succ, i64_w, i32_w]
            rfl
          refine done_ (by kernel_rfl) ?_
          go_wp2_with fail
          refine start_ (n := 30) (S := fun w' => (w'.cell? ⟨w.heap.size + 1, i - 16, none⟩ = some (.int .u32 x16)) ∧ (w'.cell? ⟨w.heap.size + 1, i - 7, none⟩ = some (.int .u32 x7))) (ds := [29]) #[false, false, false, false, false, false, false, false, false, false, false, false, false, false, false, false, false, false, false, false, false, false, false, false, false, false, false, false, false, false] (by kernel_rfl) rfl rfl ⟨c16, c7⟩ (fun hHeld => ?_)
          refine pure_ (i := 0) (N := some 44) (v := ?_) (a' := ?_) #[true, false, false, false, false, false, false, false, false, false, false, false, false, false, false, false, false, false, false, false, false, false, false, false, false, false, false, false, false, false] rfl rfl (by kernel_rfl) (fun _ _ _ h => h) (Or.inl ⟨by rfl, ?_⟩) ?_ ?_
          rotate_left
          · intro w'
            go_simp
            with_reducible rfl
          rotate_left
          · simp only [Act.put, List.setIfInBounds_toArray, List.set_cons_zero, List.set_cons_succ, i64_w, i32_w]
            rfl
          refine pure_ (i := 1) (N := some 45) (v := ?_) (a' := ?_) #[true, true, false, false, false, false, false, false, false, false, false, false, false, false, false, false, false, false, false, false, false, false, false, false, false, false, false, false, false, false] rfl rfl (by kernel_rfl) (fun _ _ _ h => h) (Or.inl ⟨by rfl, ?_⟩) ?_ ?_
          rotate_left
          · intro w'
            go_simp
            with_reducible rfl
          rotate_left
          · simp only [Act.put, List.setIfInBounds_toArray, List.set_cons_zero, List.set_cons_succ, i64_w, i32_w]
            rfl
          refine pure_ (i := 2) (N := some 46) (v := ?_) (a' := ?_) #[true, true, true, false, false, false, false, false, false, false, false, false, false, false, false, false, false, false, false, false, false, false, false, false, false, false, false, false, false, false] rfl rfl (by kernel_rfl) (fun _ _ _ h => h) (Or.inl ⟨by rfl, ?_⟩) ?_ ?_
          rotate_left
          · intro w'
            go_simp
            with_reducible rfl
          rotate_left
          · simp only [Act.put, List.setIfInBounds_toArray, List.set_cons_zero, List.set_cons_succ, i64_w, i32_w]
            rfl
          refine pure_ (i := 3) (N := some 47) (v := ?_) (a' := ?_) #[true, true, true, true, false, false, false, false, false, false, false, false, false, false, false, false, false, false, false, false, false, false, false, false, false, false, false, false, false, false] rfl rfl (by kernel_rfl) (fun _ _ _ h => h) (Or.inl ⟨by rfl, ?_⟩) ?_ ?_
          rotate_left
          · intro w'
            go_simp
            with_reducible rfl
          rotate_left
          · simp only [Act.put, List.setIfInBounds_toArray, List.set_cons_zero, List.set_cons_succ, i64_w, i32_w]
            rfl
          refine pure_ (i := 5) (N := some 49) (v := ?_) (a' := ?_) #[true, true, true, true, false, true, false, false, false, false, false, false, false, false, false, false, false, false, false, false, false, false, false, false, false, false, false, false, false, false] rfl rfl (by kernel_rfl) (fun _ _ _ h => h) (Or.inl ⟨by rfl, ?_⟩) ?_ ?_
          rotate_left
          · intro w'
            go_simp
            with_reducible rfl
          rotate_left
          · simp only [Act.put, List.setIfInBounds_toArray, List.set_cons_zero, List.set_cons_succ, i64_w, i32_w]
            rfl
          refine pure_ (i := 7) (N := some 51) (v := ?_) (a' := ?_) #[true, true, true, true, false, true, false, true, false, false, false, false, false, false, false, false, false, false, false, false, false, false, false, false, false, false, false, false, false, false] rfl rfl (by kernel_rfl) (fun _ _ _ h => h) (Or.inl ⟨by rfl, ?_⟩) ?_ ?_
          rotate_left
          · intro w'
            go_simp
            with_reducible rfl
          rotate_left
          · simp only [Act.put, List.setIfInBounds_toArray, List.set_cons_zero, List.set_cons_succ, i64_w, i32_w]
            rfl
          refine pure_ (i := 10) (N := some 54) (v := ?_) (a' := ?_) #[true, true, true, true, false, true, false, true, false, false, true, false, false, false, false, false, false, false, false, false, false, false, false, false, false, false, false, false, false, false] rfl rfl (by kernel_rfl) (fun _ _ _ h => h) (Or.inl ⟨by rfl, ?_⟩) ?_ ?_
          rotate_left
          · intro w'
            go_simp
            with_reducible rfl
          rotate_left
          · simp only [Act.put, List.setIfInBounds_toArray, List.set_cons_zero, List.set_cons_succ, i64_w, i32_w]
            rfl
          refine pure_ (i := 11) (N := some 55) (v := ?_) (a' := ?_) #[true, true, true, true, false, true, false, true, false, false, true, true, false, false, false, false, false, false, false, false, false, false, false, false, false, false, false, false, false, false] rfl rfl (by kernel_rfl) (fun _ _ _ h => h) (Or.inl ⟨by rfl, ?_⟩) ?_ ?_
          rotate_left
          · intro w'
            go_simp
            with_reducible rfl
          rotate_left
          · simp only [Act.put, List.setIfInBounds_toArray, List.set_cons_zero, List.set_cons_succ, i64_w, i32_w]
            rfl
          refine pure_ (i := 14) (N := some 58) (v := ?_) (a' := ?_) #[true, true, true, true, false, true, false, true, false, false, true, true, false, false, true, false, false, false, false, false, false, false, false, false, false, false, false, false, false, false] rfl rfl (by kernel_rfl) (fun _ _ _ h => h) (Or.inl ⟨by rfl, ?_⟩) ?_ ?_
          rotate_left
          · intro w'
            go_simp
            with_reducible rfl
          rotate_left
          · simp only [Act.put, List.setIfInBounds_toArray, List.set_cons_zero, List.set_cons_succ, i64_w, i32_w]
            rfl
          refine pure_ (i := 15) (N := some 59) (v := ?_) (a' := ?_) #[true, true, true, true, false, true, false, true, false, false, true, true, false, false, true, true, false, false, false, false, false, false, false, false, false, false, false, false, false, false] rfl rfl (by kernel_rfl) (fun _ _ _ h => h) (Or.inl ⟨by rfl, ?_⟩) ?_ ?_
          rotate_left
          · intro w'
            go_simp
            with_reducible rfl
          rotate_left
          · simp only [Act.put, List.setIfInBounds_toArray, List.set_cons_zero, List.set_cons_succ, i64_w, i32_w]
            rfl
          refine pure_ (i := 16) (N := some 60) (v := ?_) (a' := ?_) #[true, true, true, true, false, true, false, true, false, false, true, true, false, false, true, true, true, false, false, false, false, false, false, false, false, false, false, false, false, false] rfl rfl (by kernel_rfl) (fun _ _ _ h => h) (Or.inl ⟨by rfl, ?_⟩) ?_ ?_
          rotate_left
          · intro w'
            go_simp
            with_reducible rfl
          rotate_left
          · simp only [Act.put, List.setIfInBounds_toArray, List.set_cons_zero, List.set_cons_succ, i64_w, i32_w]
            rfl
          refine pure_ (i := 19) (N := some 63) (v := ?_) (a' := ?_) #[true, true, true, true, false, true, false, true, false, false, true, true, false, false, true, true, true, false, false, true, false, false, false, false, false, false, false, false, false, false] rfl rfl (by kernel_rfl) (fun _ _ _ h => h) (Or.inl ⟨by rfl, ?_⟩) ?_ ?_
          rotate_left
          · intro w'
            go_simp
            with_reducible rfl
          rotate_left
          · simp only [Act.put, List.setIfInBounds_toArray, List.set_cons_zero, List.set_cons_succ, i64_w, i32_w]
            rfl
          refine pure_ (i := 21) (N := some 65) (v := ?_) (a' := ?_) #[true, true, true, true, false, true, false, true, false, false, true, true, false, false, true, true, true, false, false, true, false, true, false, false, false, false, false, false, false, false] rfl rfl (by kernel_rfl) (fun _ _ _ h => h) (Or.inl ⟨by rfl, ?_⟩) ?_ ?_
          rotate_left
          · intro w'
            go_simp
            with_reducible rfl
          rotate_left
          · simp only [Act.put, List.setIfInBounds_toArray, List.set_cons_zero, List.set_cons_succ, i64_w, i32_w]
            rfl
          refine pure_ (i := 24) (N := some 68) (v := ?_) (a' := ?_) #[true, true, true, true, false, true, false, true, false, false, true, true, false, false, true, true, true, false, false, true, false, true, false, false, true, false, false, false, false, false] rfl rfl (by kernel_rfl) (fun _ _ _ h => h) (Or.inl ⟨by rfl, ?_⟩) ?_ ?_
          rotate_left
          · intro w'
            go_simp
            with_reducible rfl
          rotate_left
          · simp only [Act.put, List.setIfInBounds_toArray, List.set_cons_zero, List.set_cons_succ, i64_w, i32_w]
            rfl
          refine pure_ (i := 25) (N := some 69) (v := ?_) (a' := ?_) #[true, true, true, true, false, true, false, true, false, false, true, true, false, false, true, true, true, false, false, true, false, true, false, false, true, true, false, false, false, false] rfl rfl (by kernel_rfl) (fun _ _ _ h => h) (Or.inl ⟨by rfl, ?_⟩) ?_ ?_
          rotate_left
          · intro w'
            go_simp
            with_reducible rfl
          rotate_left
          · simp only [Act.put, List.setIfInBounds_toArray, List.set_cons_zero, List.set_cons_succ, i64_w, i32_w]
            rfl
          refine take_ (i := 4) (N := some 48) (v := ?_) (a' := ?_) #[true, true, true, true, true, true, false, true, false, false, true, true, false, false, true, true, true, false, false, true, false, true, false, false, true, true, false, false, false, false] rfl rfl (by kernel_rfl) (fun _ _ _ h => h) (Or.inl ⟨by rfl, ?_⟩) hHeld ?_ ?_
          rotate_left
          · rintro w' ⟨s0, s1⟩
            go_simp
            with_reducible rfl
          rotate_left
          · simp only [Act.put, List.setIfInBounds_toArray, List.set_cons_zero, List.set_cons_succ, i64_w, i32_w]
            rfl
          refine take_ (i := 17) (N := some 61) (v := ?_) (a' := ?_) #[true, true, true, true, true, true, false, true, false, false, true, true, false, false, true, true, true, true, false, true, false, true, false, false, true, true, false, false, false, false] rfl rfl (by kernel_rfl) (fun _ _ _ h => h) (Or.inl ⟨by rfl, ?_⟩) hHeld ?_ ?_
          rotate_left
          · rintro w' ⟨s0, s1⟩
            go_simp
            with_reducible rfl
          rotate_left
          · simp only [Act.put, List.setIfInBounds_toArray, List.set_cons_zero, List.set_cons_succ, i64_w, i32_w]
            rfl
          refine one_ (i := 6) (N := some 50) #[true, true, true, true, true, true, true, true, false, false, true, true, false, false, true, true, true, true, false, true, false, true, false, false, true, true, false, false, false, false] rfl rfl (by kernel_rfl) (by decide) (fun K hK => ?_)
          refine goes_ Try.func39 (by kernel_rfl) rfl #[.int .u32 x15, .int .i64 7] (by rfl) rfl rfl (by simp only [List.map_toArray, List.map_cons, List.map_nil]; rfl) ?_
          with_reducible refine (right7 x15 _).mono ?_
          rintro e w2 ⟨rfl, n2, rfl⟩
          refine ⟨_, rfl, ?_⟩
          refine hK.out _ _ ⟨c16, c7⟩ (fun hHeld => ?_)
          clear hK K
          refine norm_ (a' := ?_) ?_ ?_
          rotate_left
          · show Act.put _ (some 50) _ = _
            simp only [Act.put, List.setIfInBounds_toArray, List.set_cons_zero, List.set_cons_succ, i64_w, i32_w]
            rfl
          refine one_ (i := 8) (N := some 52) #[true, true, true, true, true, true, true, true, true, false, true, true, false, false, true, true, true, true, false, true, false, true, false, false, true, true, false, false, false, false] rfl rfl (by kernel_rfl) (by decide) (fun K hK => ?_)
          refine goes_ Try.func39 (by kernel_rfl) rfl #[.int .u32 x15, .int .i64 18] (by rfl) rfl rfl (by simp only [List.map_toArray, List.map_cons, List.map_nil]; rfl) ?_
          with_reducible refine (right18 x15 _).mono ?_
          rintro e w3 ⟨rfl, n3, rfl⟩
          refine ⟨_, rfl, ?_⟩
          refine hK.out _ _ ⟨c16, c7⟩ (fun hHeld => ?_)
          clear hK K
          refine norm_ (a' := ?_) ?_ ?_
          rotate_left
          · show Act.put _ (some 52) _ = _
            simp only [Act.put, List.setIfInBounds_toArray, List.set_cons_zero, List.set_cons_succ, i64_w, i32_w]
            rfl
          refine pure_ (i := 9) (N := some 53) (v := ?_) (a' := ?_) #[true, true, true, true, true, true, true, true, true, true, true, true, false, false, true, true, true, true, false, true, false, true, false, false, true, true, false, false, false, false] rfl rfl (by kernel_rfl) (fun _ _ _ h => h) (Or.inl ⟨by rfl, ?_⟩) ?_ ?_
          rotate_left
          · intro w'
            go_simp
            with_reducible rfl
          rotate_left
          · simp only [Act.put, List.setIfInBounds_toArray, List.set_cons_zero, List.set_cons_succ, i64_w, i32_w]
            rfl
          refine pure_ (i := 12) (N := some 56) (v := ?_) (a' := ?_) #[true, true, true, true, true, true, true, true, true, true, true, true, true, false, true, true, true, true, false, true, false, true, false, false, true, true, false, false, false, false] rfl rfl (by kernel_rfl) (fun _ _ _ h => h) (Or.inl ⟨by rfl, ?_⟩) ?_ ?_
          rotate_left
          · intro w'
            go_simp
            with_reducible rfl
          rotate_left
          · simp only [Act.put, List.setIfInBounds_toArray, List.set_cons_zero, List.set_cons_succ, i64_w, i32_w]
            rfl
          refine pure_ (i := 13) (N := some 57) (v := ?_) (a' := ?_) #[true, true, true, true, true, true, true, true, true, true, true, true, true, true, true, true, true, true, false, true, false, true, false, false, true, true, false, false, false, false] rfl rfl (by kernel_rfl) (fun _ _ _ h => h) (Or.inl ⟨by rfl, ?_⟩) ?_ ?_
          rotate_left
          · intro w'
            go_simp
            with_reducible rfl
          rotate_left
          · simp only [Act.put, List.setIfInBounds_toArray, List.set_cons_zero, List.set_cons_succ, i64_w, i32_w]
            rfl
          refine pure_ (i := 18) (N := some 62) (v := ?_) (a' := ?_) #[true, true, true, true, true, true, true, true, true, true, true, true, true, true, true, true, true, true, true, true, false, true, false, false, true, true, false, false, false, false] rfl rfl (by kernel_rfl) (fun _ _ _ h => h) (Or.inl ⟨by rfl, ?_⟩) ?_ ?_
          rotate_left
          · intro w'
            go_simp
            with_reducible rfl
          rotate_left
          · simp only [Act.put, List.setIfInBounds_toArray, List.set_cons_zero, List.set_cons_succ, i64_w, i32_w]
            rfl
          refine one_ (i := 20) (N := some 64) #[true, true, true, true, true, true, true, true, true, true, true, true, true, true, true, true, true, true, true, true, true, true, false, false, true, true, false, false, false, false] rfl rfl (by kernel_rfl) (by decide) (fun K hK => ?_)
          refine goes_ Try.func39 (by kernel_rfl) rfl #[.int .u32 x2, .int .i64 17] (by rfl) rfl rfl (by simp only [List.map_toArray, List.map_cons, List.map_nil]; rfl) ?_
          with_reducible refine (right17 x2 _).mono ?_
          rintro e w4 ⟨rfl, n4, rfl⟩
          refine ⟨_, rfl, ?_⟩
          refine hK.out _ _ ⟨c16, c7⟩ (fun hHeld => ?_)
          clear hK K
          refine norm_ (a' := ?_) ?_ ?_
          rotate_left
          · show Act.put _ (some 64) _ = _
            simp only [Act.put, List.setIfInBounds_toArray, List.set_cons_zero, List.set_cons_succ, i64_w, i32_w]
            rfl
          refine one_ (i := 22) (N := some 66) #[true, true, true, true, true, true, true, true, true, true, true, true, true, true, true, true, true, true, true, true, true, true, true, false, true, true, false, false, false, false] rfl rfl (by kernel_rfl) (by decide) (fun K hK => ?_)
          refine goes_ Try.func39 (by kernel_rfl) rfl #[.int .u32 x2, .int .i64 19] (by rfl) rfl rfl (by simp only [List.map_toArray, List.map_cons, List.map_nil]; rfl) ?_
          with_reducible refine (right19 x2 _).mono ?_
          rintro e w5 ⟨rfl, n5, rfl⟩
          refine ⟨_, rfl, ?_⟩
          refine hK.out _ _ ⟨c16, c7⟩ (fun hHeld => ?_)
          clear hK K
          refine norm_ (a' := ?_) ?_ ?_
          rotate_left
          · show Act.put _ (some 66) _ = _
            simp only [Act.put, List.setIfInBounds_toArray, List.set_cons_zero, List.set_cons_succ, i64_w, i32_w]
            rfl
          refine pure_ (i := 23) (N := some 67) (v := ?_) (a' := ?_) #[true, true, true, true, true, true, true, true, true, true, true, true, true, true, true, true, true, true, true, true, true, true, true, true, true, true, false, false, false, false] rfl rfl (by kernel_rfl) (fun _ _ _ h => h) (Or.inl ⟨by rfl, ?_⟩) ?_ ?_
          rotate_left
          · intro w'
            go_simp
            with_reducible rfl
          rotate_left
          · simp only [Act.put, List.setIfInBounds_toArray, List.set_cons_zero, List.set_cons_succ, i64_w, i32_w]
            rfl
          refine pure_ (i := 26) (N := some 70) (v := ?_) (a' := ?_) #[true, true, true, true, true, true, true, true, true, true, true, true, true, true, true, true, true, true, true, true, true, true, true, true, true, true, true, false, false, false] rfl rfl (by kernel_rfl) (fun _ _ _ h => h) (Or.inl ⟨by rfl, ?_⟩) ?_ ?_
          rotate_left
          · intro w'
            go_simp
            with_reducible rfl
          rotate_left
          · simp only [Act.put, List.setIfInBounds_toArray, List.set_cons_zero, List.set_cons_succ, i64_w, i32_w]
            rfl
          refine pure_ (i := 27) (N := some 71) (v := ?_) (a' := ?_) #[true, true, true, true, true, true, true, true, true, true, true, true, true, true, true, true, true, true, true, true, true, true, true, true, true, true, true, true, false, false] rfl rfl (by kernel_rfl) (fun _ _ _ h => h) (Or.inl ⟨by rfl, ?_⟩) ?_ ?_
          rotate_left
          · intro w'
            go_simp
            with_reducible rfl
          rotate_left
          · simp only [Act.put, List.setIfInBounds_toArray, List.set_cons_zero, List.set_cons_succ, i64_w, i32_w]
            rfl
          refine pure_ (i := 28) (N := some 72) (v := ?_) (a' := ?_) #[true, true, true, true, true, true, true, true, true, true, true, true, true, true, true, true, true, true, true, true, true, true, true, true, true, true, true, true, true, false] rfl rfl (by kernel_rfl) (fun _ _ _ h => h) (Or.inl ⟨by rfl, ?_⟩) ?_ ?_
          rotate_left
          · intro w'
            go_simp
            with_reducible rfl
          rotate_left
          · simp only [Act.put, List.setIfInBounds_toArray, List.set_cons_zero, List.set_cons_succ, i64_w, i32_w]
            rfl
          refine last_ (i := 29) (N := none) #[true, true, true, true, true, true, true, true, true, true, true, true, true, true, true, true, true, true, true, true, true, true, true, true, true, true, true, true, true, true] rfl rfl (by kernel_rfl) (by decide) (fun K hK => ?_)
          refine skip_ (w1 := ?_) (by rfl) rfl ?_ ?_
          rotate_left
          · go_simp
            rfl
          refine hK.out _ _ ?_
          clear hK K
          refine done_ (by kernel_rfl) ?_
          go_wp2
          go_roundw
          case rel => exact ⟨i + 1, _, by omega, by omega, by simp, ⟨HN.out.drewN _⟩, HT2⟩
          case measure => simp [intOf]; omega
        · have hi64 : i = 64 := by omega
          subst hi64
          obtain ⟨cs, hcs, hcz⟩ := HS.out.res
          have HCS := Aside0.mk hcs
          have hws : ws = sched b := by have h := HU.out; rw [List.take_of_length_le (by rw [HS.out.len]; exact Nat.le_refl _)] at h; exact h
          have hinfo : (Try.prog.info? 47).map (·.size) = some 64 := by kernel_rfl
          have hwz : (words ws).size = 64 := by rw [words_size, HS.out.len]
          have HWZ := Aside0.mk hwz
          have HCZ := Aside0.mk hcz
          have HWS := Aside0.mk hws
          have HIN := Aside0.mk hinfo
          clear hcs hcz hws hwz hinfo
          go_wp2_with (first | (refine wpList_load_row rfl 47 (.tmp 3) rfl (w.heap.size + 1) rfl 47 (words ws) (0, 0) _ HS.out.arr Try.underlying47 rfl (by rw [HWZ.out]; exact HIN.out) ?_) | (refine wpList_store_row rfl 47 (.tmp 2) (.tmp 73) rfl w.heap.size (words ws) rfl rfl 47 cs HCS.out (by rw [HWZ.out]; exact HIN.out) (by rw [HWZ.out]; exact HCZ.out) (words_one ws) ?_))
          refine bodyPost_ret (v := .agg (words ws)) (results_cell_row (p := 2) (ty := 47) rfl _ _ w.heap.size 47 (words ws) (0, 0) _ rfl (setRow_heap _ _ _ _ _ _ HCS.out) Try.underlying47 rfl (by rw [HWZ.out]; exact HIN.out)) rfl ⟨by rw [HWS.out], below_setRow HS.out.bel (Nat.le_refl _) _⟩
end Go.Proofs.Ytjlnbklendkflaa
