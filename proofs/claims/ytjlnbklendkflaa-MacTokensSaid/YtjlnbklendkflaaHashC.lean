/- SHA-256's block, walked: hash.State.one. -/
import Derived.Test.YtjlnbklendkflaaHashB
import Derived.Laws.CopyOwn
import Derived.Lib.Hide
import Derived.LoopTactic
import Derived.Outline
import Derived.Laws.Rows
import Derived.Laws.CopyOwn
import Derived.WalkKit
set_option linter.unusedVariables false
set_option linter.unusedSimpArgs false
namespace Go.Proofs.Ytjlnbklendkflaa
open Go.RowKit Go.Proofs.YtjlnbklendkflaaW.PrintWords Go.Proofs.YtjlnbklendkflaaW.PrintLast Go.Proofs.YtjlnbklendkflaaW.PrintMore
open Go.Proofs.Ytjlnbklendkflaa.PHashSums


def nt (a : Int) : Int := Go.bits .xor .u32 IntKind.u32.max a
/-- One round. -/
def rnd (k w : Int) : List Int → List Int
  | [a, b, c, d, e, f, g, h] => [M32 (M32 (M32 (M32 (M32 (h + xo (xo (rotR e 6) (rotR e 11)) (rotR e 25)) + xo (an e f) (an (nt e) g)) + k) + w) + M32 (xo (xo (rotR a 2) (rotR a 13)) (rotR a 22) + xo (xo (an a b) (an a c)) (an b c))), a, b, c, M32 (d + M32 (M32 (M32 (M32 (h + xo (xo (rotR e 6) (rotR e 11)) (rotR e 25)) + xo (an e f) (an (nt e) g)) + k) + w)), e, f, g]
  | v => v
def rounds (ws : List Int) : Nat → List Int → List Int
  | 0, v => v
  | n + 1, v => rnd (KS.getD n 0) (ws.getD n 0) (rounds ws n v)
def addv : List Int → List Int → List Int
  | a :: x, b :: y => M32 (a + b) :: addv x y
  | _, _ => []
/-- What a block of 64 bytes makes of eight words. -/
def oneF (hs b : List Int) : List Int := addv hs (rounds (sched b) 64 hs)
theorem eight {v : List Int} (h : v.length = 8) : ∃ a b c d e f g i, v = [a, b, c, d, e, f, g, i] := by
  match v, h with
  | [a, b, c, d, e, f, g, i], _ => exact ⟨a, b, c, d, e, f, g, i, rfl⟩
theorem rnd_length (k w : Int) (v : List Int) (h : v.length = 8) : (rnd k w v).length = 8 := by
  obtain ⟨a, b, c, d, e, f, g, i, rfl⟩ := eight h
  rfl
theorem rounds_length (ws : List Int) (v : List Int) (h : v.length = 8) : ∀ n, (rounds ws n v).length = 8
  | 0 => h
  | n + 1 => rnd_length _ _ _ (rounds_length ws v h n)
/-- The cells of a state. -/
def stC (hs : List Int) (vr : Value) (n : Int) : Array Value := (nums .u32 hs ++ [vr, .int .u64 n]).toArray
theorem stC_get {hs : List Int} {vr : Value} {n : Int} {i : Nat} {x : Int} (h : hs[i]? = some x) : (stC hs vr n)[i]? = some (.int .u32 x) := by
  have hl := (List.getElem?_eq_some_iff.1 h).1
  unfold stC nums
  rw [List.getElem?_toArray, List.getElem?_append_left (by simpa using hl), List.getElem?_map, h]
  rfl
theorem stC_set (hs : List Int) (vr : Value) (n : Int) (i : Nat) (x : Int) (hi : i < hs.length) : (stC hs vr n).setIfInBounds i (.int .u32 x) = stC (hs.set i x) vr n := by
  unfold stC nums
  apply Array.toList_inj.1
  rw [Array.toList_setIfInBounds]
  simp only [List.toList_toArray]
  rw [List.set_append_left _ _ (by simpa using hi), List.map_set]
/-- Between two rounds. -/
structure OInv (w2 wr : World) (v : List Int) : Prop where
  bel : Below w2.heap.size w2 wr
  sv : wr.heap[w2.heap.size]? = some (.cells (words v) 46 (0, 0))
theorem OInv.drewN {w2 wr : World} {v : List Int} (h : OInv w2 wr v) (n : Nat) : OInv w2 (wr.drewN n) v := ⟨pw_below_drewN h.bel n, h.sv⟩
theorem OInv.moved {w2 wr w3 : World} {v v' : List Int} (h : OInv w2 wr v) (hb : Below w2.heap.size wr w3) (hv : w3.heap[w2.heap.size]? = some (.cells (words v') 46 (0, 0))) : OInv w2 w3 v' := ⟨h.bel.trans hb, hv⟩
theorem OInv.start (w2 : World) (v : List Int) : OInv w2 (w2.alloc (Obj.cells (words v) 46)) v := ⟨(Below.refl _ _).alloc (Nat.le_refl _) _, blk_new w2 _⟩
theorem cells1w (l : List Int) : ∀ u ∈ nums .u32 l, u.oneCell' = true := fun u hu => by
  obtain ⟨x, _, rfl⟩ := List.mem_map.1 hu
  rfl
theorem run_cells {w : World} {g : Nat} {t : TypeId} {l : List Int} (h : w.heap[g]? = some (.cells (words l) t (0, 0))) (k : Nat) (j : Nat) (v : Value) (hv : (nums .u32 (l.take k))[j]? = some v) : w.cell? (Addr.add ⟨g, 0, none⟩ j) = some v := by
  have e : Addr.add ⟨g, 0, none⟩ j = ⟨g, j, none⟩ := by unfold Addr.add; split <;> simp_all
  unfold nums at hv
  rw [List.getElem?_map] at hv
  obtain ⟨x, hx, rfl⟩ := Option.map_eq_some_iff.1 hv
  have hj : j < k := by have := (List.getElem?_eq_some_iff.1 hx).1; rw [List.length_take] at this; omega
  rw [List.getElem?_take_of_lt hj] at hx
  rw [e]
  exact words_cell h hx
/-- Between two words that are added. -/
structure AInv (p : Nat) (w w2 wr : World) (hp : List Int) (vr : Value) (nn : Int) (v : List Int) : Prop where
  keep : Keep (fun i => i = p) w wr
  st : wr.heap[p]? = some (.cells (stC hp vr nn) 54 (0, 0))
  sv : wr.heap[w2.heap.size]? = some (.cells (words v) 46 (0, 0))
  ne : p ≠ w2.heap.size
theorem AInv.drew {p : Nat} {w w2 wr : World} {hp : List Int} {vr : Value} {nn : Int} {v : List Int} (h : AInv p w w2 wr hp vr nn v) : AInv p w w2 wr.drew hp vr nn v := ⟨h.keep.drew, h.st, h.sv, h.ne⟩
theorem AInv.set {p : Nat} {w w2 wr : World} {hp : List Int} {vr : Value} {nn : Int} {v : List Int} (h : AInv p w w2 wr hp vr nn v) (hl : hp.length = 8) (i : Nat) (x : Int) (hi : i < 8) : AInv p w w2 (wr.setCell ⟨p, i, none⟩ (.int .u32 x)) (hp.set i x) vr nn v :=
  ⟨h.keep.setCell (fun _ => rfl) _, by rw [← stC_set _ _ _ _ _ (by omega)]; exact blk_set h.st i _, blk_far h.sv (by simpa using h.ne) _, h.ne⟩
theorem addv_of {hp hs v : List Int} (h1 : hp.length = 8) (h2 : v.length = 8) (h3 : hs.length = 8) (h : ∀ j, j < 8 → hp.getD j 0 = if j < 8 then M32 (hs.getD j 0 + v.getD j 0) else hs.getD j 0) : hp = addv hs v := by
  obtain ⟨a0, a1, a2, a3, a4, a5, a6, a7, rfl⟩ := eight h1
  obtain ⟨b0, b1, b2, b3, b4, b5, b6, b7, rfl⟩ := eight h2
  obtain ⟨c0, c1, c2, c3, c4, c5, c6, c7, rfl⟩ := eight h3
  have e0 : a0 = M32 (c0 + b0) := h 0 (by omega)
  have e1 : a1 = M32 (c1 + b1) := h 1 (by omega)
  have e2 : a2 = M32 (c2 + b2) := h 2 (by omega)
  have e3 : a3 = M32 (c3 + b3) := h 3 (by omega)
  have e4 : a4 = M32 (c4 + b4) := h 4 (by omega)
  have e5 : a5 = M32 (c5 + b5) := h 5 (by omega)
  have e6 : a6 = M32 (c6 + b6) := h 6 (by omega)
  have e7 : a7 = M32 (c7 + b7) := h 7 (by omega)
  rw [e0, e1, e2, e3, e4, e5, e6, e7]
  rfl
section
variable {P : Program} {ops : Array Oper} {rest : List Oper} {o : Oper} {a : Act} {Q : Exit → Act → World → Prop}
/-- A whole array is stored into a block that has just been made. -/
theorem store_new (hgd : o.guard = none) (ty : TypeId) (x y : Operand) (ho : o.op = .store ty x y) (W : World) (old cells : Array Value) (t : TypeId) (hx : a.eval x = .pointer (some ⟨W.heap.size, 0, none⟩)) (hy : a.eval y = .agg cells)
    (hi : (P.info? ty).map (·.size) = some cells.size) (hold : old.size = cells.size) (h1 : cells.all (·.oneCell') = true)
    (h : ∀ w2, Below W.heap.size W w2 → w2.heap[W.heap.size]? = some (.cells cells t (0, 0)) → w2.heap.size = W.heap.size + 1 → wpList P ops Q rest (a.put o.dst undef) w2) : wpList P ops Q (o :: rest) a (W.alloc (.cells old t)) :=
  wpList_store_row hgd ty x y ho W.heap.size cells hx hy t old (blk_new W _) hi hold h1 (h _ (below_setRow ((Below.refl _ _).alloc (Nat.le_refl _) _) (Nat.le_refl _) _) (setRow_heap _ _ _ _ _ _ (blk_new W _)) (by simp))
end
set_option maxRecDepth 100000 in
set_option maxHeartbeats 16000000 in
theorem one_calls (p : Nat) (hs : List Int) (vr : Value) (nn : Int) (ad : Addr) (c : Nat) (b : List Int) (w : World) (hl : hs.length = 8) (hp : w.heap[p]? = some (.cells (stC hs vr nn) 54 (0, 0)))
    (hb : b.length = 64) (h : ∀ (j : Nat) (x : Int), b[j]? = some x → w.cell? (ad.add j) = some (.int .u8 x)) :
    Calls Try.prog 27 #[.pointer (some ⟨p, 0, none⟩), .slice (some ad) 64 c] w fun e w' => e = .returned (.tuple #[]) ∧ Keep (fun i => i = p) w w' ∧ w'.heap[p]? = some (.cells (stC (oneF hs b) vr nn) 54 (0, 0)) := by
  have HC := Lib.hid (sched_calls ad c b w hb h)
  have HP := Aside0.mk hp
  obtain ⟨h0, h1, h2, h3, h4, h5, h6, h7, rfl⟩ := eight hl
  obtain ⟨ws, hws⟩ : ∃ ws, ws = sched b := ⟨_, rfl⟩
  have HWS := Aside0.mk hws
  have HWL := Aside0.mk (show ws.length = 64 by rw [hws]; exact schedN_length b 48)
  rw [← hws] at HC
  have hinfo : (Try.prog.info? 47).map (·.size) = some 64 := by kernel_rfl
  have hwz : (words ws).size = 64 := by rw [words_size, HWL.out]
  have HWZ := Aside0.mk hwz
  have HIN := Aside0.mk hinfo
  clear h hb hp hl hws hinfo hwz
  go_enter Try.func27, Try.ntmps27
  go_wp2_with fail
  refine HC.out.mono ?_
  rintro e w1 ⟨rfl, hb1⟩
  have H1 := Aside0.mk hb1
  have HP1 := Aside0.mk ((Keep.of_below hb1).blk HP.out (by have := blk_lt HP.out; omega))
  have hpl : p < w1.heap.size := blk_lt HP1.out
  clear hb1
  go_wp2_with (refine store_new rfl 47 (.tmp 4) (.tmp 13) rfl w1 _ (words ws) 47 rfl rfl (by rw [HWZ.out]; exact HIN.out) (by rw [HWZ.out]; rfl) (words_one ws) ?_; intro w2 hb2 hg2 hz2; have HB2 := Aside0.mk hb2; have HG2 := Aside0.mk hg2; have HZ2 := Aside0.mk hz2; have HP2 := Aside0.mk ((Keep.of_below hb2).blk HP1.out (by omega)); clear hb2 hg2 hz2; have s0 : w2.cell? ⟨p, 0, none⟩ = some (.int .u32 h0) := (by rw [blk_cell HP2.out]; rfl); have s1 : w2.cell? ⟨p, 1, none⟩ = some (.int .u32 h1) := (by rw [blk_cell HP2.out]; rfl); have s2 : w2.cell? ⟨p, 2, none⟩ = some (.int .u32 h2) := (by rw [blk_cell HP2.out]; rfl); have s3 : w2.cell? ⟨p, 3, none⟩ = some (.int .u32 h3) := (by rw [blk_cell HP2.out]; rfl); have s4 : w2.cell? ⟨p, 4, none⟩ = some (.int .u32 h4) := (by rw [blk_cell HP2.out]; rfl); have s5 : w2.cell? ⟨p, 5, none⟩ = some (.int .u32 h5) := (by rw [blk_cell HP2.out]; rfl); have s6 : w2.cell? ⟨p, 6, none⟩ = some (.int .u32 h6) := (by rw [blk_cell HP2.out]; rfl); have s7 : w2.cell? ⟨p, 7, none⟩ = some (.int .u32 h7) := (by rw [blk_cell HP2.out]; rfl))
  go_loopw [18] (fun v18 wr => ∃ (n : Nat), n ≤ 64 ∧ v18 = .int .i64 (n : Int) ∧ Aside0 (OInv w2 wr (rounds ws n [h0, h1, h2, h3, h4, h5, h6, h7]))) (fun v _ => 64 - (intOf v).toNat)
  case atStart => exact ⟨0, by omega, rfl, ⟨OInv.start w2 [h0, h1, h2, h3, h4, h5, h6, h7]⟩⟩
  case round =>
    obtain ⟨n, hn, rfl, HI⟩ := hrel
    by_cases hlt : n < 64
    · obtain ⟨x0, x1, x2, x3, x4, x5, x6, x7, hx⟩ := eight (rounds_length ws [h0, h1, h2, h3, h4, h5, h6, h7] rfl n)
      have HX := Aside0.mk hx
      have hi := HI.out
      rw [hx] at hi
      have HJ := Aside0.mk hi
      obtain ⟨wn, hwn⟩ : ∃ x, x = ws.getD n 0 := ⟨_, rfl⟩
      have HWN := Aside0.mk hwn
      have cw := bread hi.bel (words_cell HG2.out (i := n) (x := wn) (by rw [hwn, List.getD_eq_getElem?_getD, List.getElem?_eq_getElem (by rw [HWL.out]; exact hlt)]; rfl))
      have HK := Lib.hid (fun W => key_calls n hlt W)
      obtain ⟨kn, hkn⟩ : ∃ x, x = KS.getD n 0 := ⟨_, rfl⟩
      rw [← hkn] at HK
      have HKN := Aside0.mk hkn
      have c0 := words_cell hi.sv (i := 0) (x := x0) rfl
      have c1 := words_cell hi.sv (i := 1) (x := x1) rfl
      have c2 := words_cell hi.sv (i := 2) (x := x2) rfl
      have c3 := words_cell hi.sv (i := 3) (x := x3) rfl
      have c4 := words_cell hi.sv (i := 4) (x := x4) rfl
      have c5 := words_cell hi.sv (i := 5) (x := x5) rfl
      have c6 := words_cell hi.sv (i := 6) (x := x6) rfl
      have c7 := words_cell hi.sv (i := 7) (x := x7) rfl
      have hn64 : (n : Int) < 64 := by omega
      clear hx hi hwn hkn
      go_wp2_with fail
      refine start_ (n := 6) (S := fun w' => (w'.cell? ⟨w2.heap.size, 4, none⟩ = some (.int .u32 x4)) ∧ (w'.cell? ⟨w2.heap.size, 0, none⟩ = some (.int .u32 x0))) (ds := []) #[false, false, false, false, false, false] (by kernel_rfl) rfl rfl ⟨c4, c0⟩ (fun hHeld => ?_)
      refine pure_ (i := 0) (N := some 21) (v := ?_) (a' := ?_) #[true, false, false, false, false, false] rfl rfl (by kernel_rfl) (fun _ _ _ h => h) (Or.inl ⟨by rfl, ?_⟩) ?_ ?_
      rotate_left
      · intro w'
        go_simp
        with_reducible rfl
      rotate_left
      · simp only [Act.put, List.setIfInBounds_toArray, List.set_cons_zero, List.set_cons_succ, i64_w, i32_w]
        rfl
      refine pure_ (i := 2) (N := some 23) (v := ?_) (a' := ?_) #[true, false, true, false, false, false] rfl rfl (by kernel_rfl) (fun _ _ _ h => h) (Or.inl ⟨by rfl, ?_⟩) ?_ ?_
      rotate_left
      · intro w'
        go_simp
        with_reducible rfl
      rotate_left
      · simp only [Act.put, List.setIfInBounds_toArray, List.set_cons_zero, List.set_cons_succ, i64_w, i32_w]
        rfl
      refine take_ (i := 1) (N := some 22) (v := ?_) (a' := ?_) #[true, true, true, false, false, false] rfl rfl (by kernel_rfl) (fun _ _ _ h => h) (Or.inl ⟨by rfl, ?_⟩) hHeld ?_ ?_
      rotate_left
      · rintro w' ⟨s0, s1⟩
        go_simp
        with_reducible rfl
      rotate_left
      · simp only [Act.put, List.setIfInBounds_toArray, List.set_cons_zero, List.set_cons_succ, i64_w, i32_w]
        rfl
      refine pure_ (i := 4) (N := some 7) (v := ?_) (a' := ?_) #[true, true, true, false, true, false] rfl rfl (by kernel_rfl) (fun _ _ _ h => h) (Or.inl ⟨by rfl, ?_⟩) ?_ ?_
      rotate_left
      · intro w'
        go_simp
        with_reducible rfl
      rotate_left
      · simp only [Act.put, List.setIfInBounds_toArray, List.set_cons_zero, List.set_cons_succ, i64_w, i32_w]
        rfl
      refine take_ (i := 3) (N := some 24) (v := ?_) (a' := ?_) #[true, true, true, true, true, false] rfl rfl (by kernel_rfl) (fun _ _ _ h => h) (Or.inl ⟨by rfl, ?_⟩) hHeld ?_ ?_
      rotate_left
      · rintro w' ⟨s0, s1⟩
        go_simp
        with_reducible rfl
      rotate_left
      · simp only [Act.put, List.setIfInBounds_toArray, List.set_cons_zero, List.set_cons_succ, i64_w, i32_w]
        rfl
      refine pure_ (i := 5) (N := some 8) (v := ?_) (a' := ?_) #[true, true, true, true, true, true] rfl rfl (by kernel_rfl) (fun _ _ _ h => h) (Or.inl ⟨by rfl, ?_⟩) ?_ ?_
      rotate_left
      · intro w'
        go_simp
        with_reducible rfl
      rotate_left
      · simp only [Act.put, List.setIfInBounds_toArray, List.set_cons_zero, List.set_cons_succ, i64_w, i32_w]
        rfl
      refine done_ (by kernel_rfl) ?_
      go_wp2_with fail
      refine start_ (n := 30) (S := fun w' => (w'.cell? ⟨w2.heap.size, 7, none⟩ = some (.int .u32 x7)) ∧ (w'.cell? ⟨w2.heap.size, 5, none⟩ = some (.int .u32 x5)) ∧ (w'.cell? ⟨w2.heap.size, 6, none⟩ = some (.int .u32 x6)) ∧ (w'.cell? ⟨w1.heap.size, n, none⟩ = some (.int .u32 wn))) (ds := []) #[false, false, false, false, false, false, false, false, false, false, false, false, false, false, false, false, false, false, false, false, false, false, false, false, false, false, false, false, false, false] (by kernel_rfl) rfl rfl ⟨c7, c5, c6, cw⟩ (fun hHeld => ?_)
      refine pure_ (i := 0) (N := some 25) (v := ?_) (a' := ?_) #[true, false, false, false, false, false, false, false, false, false, false, false, false, false, false, false, false, false, false, false, false, false, false, false, false, false, false, false, false, false] rfl rfl (by kernel_rfl) (fun _ _ _ h => h) (Or.inl ⟨by rfl, ?_⟩) ?_ ?_
      rotate_left
      · intro w'
        go_simp
        with_reducible rfl
      rotate_left
      · simp only [Act.put, List.setIfInBounds_toArray, List.set_cons_zero, List.set_cons_succ, i64_w, i32_w]
        rfl
      refine pure_ (i := 2) (N := some 27) (v := ?_) (a' := ?_) #[true, false, true, false, false, false, false, false, false, false, false, false, false, false, false, false, false, false, false, false, false, false, false, false, false, false, false, false, false, false] rfl rfl (by kernel_rfl) (fun _ _ _ h => h) (Or.inl ⟨by rfl, ?_⟩) ?_ ?_
      rotate_left
      · intro w'
        go_simp
        with_reducible rfl
      rotate_left
      · simp only [Act.put, List.setIfInBounds_toArray, List.set_cons_zero, List.set_cons_succ, i64_w, i32_w]
        rfl
      refine pure_ (i := 4) (N := some 29) (v := ?_) (a' := ?_) #[true, false, true, false, true, false, false, false, false, false, false, false, false, false, false, false, false, false, false, false, false, false, false, false, false, false, false, false, false, false] rfl rfl (by kernel_rfl) (fun _ _ _ h => h) (Or.inl ⟨by rfl, ?_⟩) ?_ ?_
      rotate_left
      · intro w'
        go_simp
        with_reducible rfl
      rotate_left
      · simp only [Act.put, List.setIfInBounds_toArray, List.set_cons_zero, List.set_cons_succ, i64_w, i32_w]
        rfl
      refine pure_ (i := 7) (N := some 32) (v := ?_) (a' := ?_) #[true, false, true, false, true, false, false, true, false, false, false, false, false, false, false, false, false, false, false, false, false, false, false, false, false, false, false, false, false, false] rfl rfl (by kernel_rfl) (fun _ _ _ h => h) (Or.inl ⟨by rfl, ?_⟩) ?_ ?_
      rotate_left
      · intro w'
        go_simp
        with_reducible rfl
      rotate_left
      · simp only [Act.put, List.setIfInBounds_toArray, List.set_cons_zero, List.set_cons_succ, i64_w, i32_w]
        rfl
      refine pure_ (i := 11) (N := some 36) (v := ?_) (a' := ?_) #[true, false, true, false, true, false, false, true, false, false, false, true, false, false, false, false, false, false, false, false, false, false, false, false, false, false, false, false, false, false] rfl rfl (by kernel_rfl) (fun _ _ _ h => h) (Or.inl ⟨by rfl, ?_⟩) ?_ ?_
      rotate_left
      · intro w'
        go_simp
        with_reducible rfl
      rotate_left
      · simp only [Act.put, List.setIfInBounds_toArray, List.set_cons_zero, List.set_cons_succ, i64_w, i32_w]
        rfl
      refine pure_ (i := 12) (N := some 37) (v := ?_) (a' := ?_) #[true, false, true, false, true, false, false, true, false, false, false, true, true, false, false, false, false, false, false, false, false, false, false, false, false, false, false, false, false, false] rfl rfl (by kernel_rfl) (fun _ _ _ h => h) (Or.inl ⟨by rfl, ?_⟩) ?_ ?_
      rotate_left
      · intro w'
        go_simp
        with_reducible rfl
      rotate_left
      · simp only [Act.put, List.setIfInBounds_toArray, List.set_cons_zero, List.set_cons_succ, i64_w, i32_w]
        rfl
      refine pure_ (i := 15) (N := some 40) (v := ?_) (a' := ?_) #[true, false, true, false, true, false, false, true, false, false, false, true, true, false, false, true, false, false, false, false, false, false, false, false, false, false, false, false, false, false] rfl rfl (by kernel_rfl) (fun _ _ _ h => h) (Or.inl ⟨by rfl, ?_⟩) ?_ ?_
      rotate_left
      · intro w'
        go_simp
        with_reducible rfl
      rotate_left
      · simp only [Act.put, List.setIfInBounds_toArray, List.set_cons_zero, List.set_cons_succ, i64_w, i32_w]
        rfl
      refine pure_ (i := 16) (N := some 41) (v := ?_) (a' := ?_) #[true, false, true, false, true, false, false, true, false, false, false, true, true, false, false, true, true, false, false, false, false, false, false, false, false, false, false, false, false, false] rfl rfl (by kernel_rfl) (fun _ _ _ h => h) (Or.inl ⟨by rfl, ?_⟩) ?_ ?_
      rotate_left
      · intro w'
        go_simp
        with_reducible rfl
      rotate_left
      · simp only [Act.put, List.setIfInBounds_toArray, List.set_cons_zero, List.set_cons_succ, i64_w, i32_w]
        rfl
      refine pure_ (i := 17) (N := some 42) (v := ?_) (a' := ?_) #[true, false, true, false, true, false, false, true, false, false, false, true, true, false, false, true, true, true, false, false, false, false, false, false, false, false, false, false, false, false] rfl rfl (by kernel_rfl) (fun _ _ _ h => h) (Or.inl ⟨by rfl, ?_⟩) ?_ ?_
      rotate_left
      · intro w'
        go_simp
        with_reducible rfl
      rotate_left
      · simp only [Act.put, List.setIfInBounds_toArray, List.set_cons_zero, List.set_cons_succ, i64_w, i32_w]
        rfl
      refine pure_ (i := 22) (N := some 47) (v := ?_) (a' := ?_) #[true, false, true, false, true, false, false, true, false, false, false, true, true, false, false, true, true, true, false, false, false, false, true, false, false, false, false, false, false, false] rfl rfl (by kernel_rfl) (fun _ _ _ h => h) (Or.inl ⟨by rfl, ?_⟩) ?_ ?_
      rotate_left
      · intro w'
        go_simp
        with_reducible rfl
      rotate_left
      · simp only [Act.put, List.setIfInBounds_toArray, List.set_cons_zero, List.set_cons_succ, i64_w, i32_w]
        rfl
      refine pure_ (i := 25) (N := some 50) (v := ?_) (a' := ?_) #[true, false, true, false, true, false, false, true, false, false, false, true, true, false, false, true, true, true, false, false, false, false, true, false, false, true, false, false, false, false] rfl rfl (by kernel_rfl) (fun _ _ _ h => h) (Or.inl ⟨by rfl, ?_⟩) ?_ ?_
      rotate_left
      · intro w'
        go_simp
        with_reducible rfl
      rotate_left
      · simp only [Act.put, List.setIfInBounds_toArray, List.set_cons_zero, List.set_cons_succ, i64_w, i32_w]
        rfl
      refine pure_ (i := 26) (N := some 51) (v := ?_) (a' := ?_) #[true, false, true, false, true, false, false, true, false, false, false, true, true, false, false, true, true, true, false, false, false, false, true, false, false, true, true, false, false, false] rfl rfl (by kernel_rfl) (fun _ _ _ h => h) (Or.inl ⟨by rfl, ?_⟩) ?_ ?_
      rotate_left
      · intro w'
        go_simp
        with_reducible rfl
      rotate_left
      · simp only [Act.put, List.setIfInBounds_toArray, List.set_cons_zero, List.set_cons_succ, i64_w, i32_w]
        rfl
      refine take_ (i := 1) (N := some 26) (v := ?_) (a' := ?_) #[true, true, true, false, true, false, false, true, false, false, false, true, true, false, false, true, true, true, false, false, false, false, true, false, false, true, true, false, false, false] rfl rfl (by kernel_rfl) (fun _ _ _ h => h) (Or.inl ⟨by rfl, ?_⟩) hHeld ?_ ?_
      rotate_left
      · rintro w' ⟨s0, s1, s2, s3⟩
        go_simp
        with_reducible rfl
      rotate_left
      · simp only [Act.put, List.setIfInBounds_toArray, List.set_cons_zero, List.set_cons_succ, i64_w, i32_w]
        rfl
      refine take_ (i := 13) (N := some 38) (v := ?_) (a' := ?_) #[true, true, true, false, true, false, false, true, false, false, false, true, true, true, false, true, true, true, false, false, false, false, true, false, false, true, true, false, false, false] rfl rfl (by kernel_rfl) (fun _ _ _ h => h) (Or.inl ⟨by rfl, ?_⟩) hHeld ?_ ?_
      rotate_left
      · rintro w' ⟨s0, s1, s2, s3⟩
        go_simp
        with_reducible rfl
      rotate_left
      · simp only [Act.put, List.setIfInBounds_toArray, List.set_cons_zero, List.set_cons_succ, i64_w, i32_w]
        rfl
      refine pure_ (i := 14) (N := some 39) (v := ?_) (a' := ?_) #[true, true, true, false, true, false, false, true, false, false, false, true, true, true, true, true, true, true, false, false, false, false, true, false, false, true, true, false, false, false] rfl rfl (by kernel_rfl) (fun _ _ _ h => h) (Or.inl ⟨by rfl, ?_⟩) ?_ ?_
      rotate_left
      · intro w'
        go_simp
        with_reducible rfl
      rotate_left
      · simp only [Act.put, List.setIfInBounds_toArray, List.set_cons_zero, List.set_cons_succ, i64_w, i32_w]
        rfl
      refine take_ (i := 18) (N := some 43) (v := ?_) (a' := ?_) #[true, true, true, false, true, false, false, true, false, false, false, true, true, true, true, true, true, true, true, false, false, false, true, false, false, true, true, false, false, false] rfl rfl (by kernel_rfl) (fun _ _ _ h => h) (Or.inl ⟨by rfl, ?_⟩) hHeld ?_ ?_
      rotate_left
      · rintro w' ⟨s0, s1, s2, s3⟩
        go_simp
        with_reducible rfl
      rotate_left
      · simp only [Act.put, List.setIfInBounds_toArray, List.set_cons_zero, List.set_cons_succ, i64_w, i32_w]
        rfl
      refine pure_ (i := 19) (N := some 44) (v := ?_) (a' := ?_) #[true, true, true, false, true, false, false, true, false, false, false, true, true, true, true, true, true, true, true, true, false, false, true, false, false, true, true, false, false, false] rfl rfl (by kernel_rfl) (fun _ _ _ h => h) (Or.inl ⟨by rfl, ?_⟩) ?_ ?_
      rotate_left
      · intro w'
        go_simp
        with_reducible rfl
      rotate_left
      · simp only [Act.put, List.setIfInBounds_toArray, List.set_cons_zero, List.set_cons_succ, i64_w, i32_w]
        rfl
      refine pure_ (i := 20) (N := some 45) (v := ?_) (a' := ?_) #[true, true, true, false, true, false, false, true, false, false, false, true, true, true, true, true, true, true, true, true, true, false, true, false, false, true, true, false, false, false] rfl rfl (by kernel_rfl) (fun _ _ _ h => h) (Or.inl ⟨by rfl, ?_⟩) ?_ ?_
      rotate_left
      · intro w'
        go_simp
        with_reducible rfl
      rotate_left
      · simp only [Act.put, List.setIfInBounds_toArray, List.set_cons_zero, List.set_cons_succ, i64_w, i32_w]
        rfl
      refine take_ (i := 27) (N := some 52) (v := ?_) (a' := ?_) #[true, true, true, false, true, false, false, true, false, false, false, true, true, true, true, true, true, true, true, true, true, false, true, false, false, true, true, true, false, false] rfl rfl (by kernel_rfl) (fun _ _ _ h => h) (Or.inl ⟨by rfl, ?_⟩) hHeld ?_ ?_
      rotate_left
      · rintro w' ⟨s0, s1, s2, s3⟩
        go_simp
        with_reducible rfl
      rotate_left
      · simp only [Act.put, List.setIfInBounds_toArray, List.set_cons_zero, List.set_cons_succ, i64_w, i32_w]
        rfl
      refine one_ (i := 3) (N := some 28) #[true, true, true, true, true, false, false, true, false, false, false, true, true, true, true, true, true, true, true, true, true, false, true, false, false, true, true, true, false, false] rfl rfl (by kernel_rfl) (by decide) (fun K hK => ?_)
      refine goes_ Try.func39 (by kernel_rfl) rfl #[.int .u32 x4, .int .i64 6] (by rfl) rfl rfl (by simp only [List.map_toArray, List.map_cons, List.map_nil]; rfl) ?_
      with_reducible refine (right6 x4 _).mono ?_
      rintro e w3 ⟨rfl, n3, rfl⟩
      refine ⟨_, rfl, ?_⟩
      refine hK.out _ _ ⟨c7, c5, c6, cw⟩ (fun hHeld => ?_)
      clear hK K
      refine norm_ (a' := ?_) ?_ ?_
      rotate_left
      · show Act.put _ (some 28) _ = _
        simp only [Act.put, List.setIfInBounds_toArray, List.set_cons_zero, List.set_cons_succ, i64_w, i32_w]
        rfl
      refine one_ (i := 5) (N := some 30) #[true, true, true, true, true, true, false, true, false, false, false, true, true, true, true, true, true, true, true, true, true, false, true, false, false, true, true, true, false, false] rfl rfl (by kernel_rfl) (by decide) (fun K hK => ?_)
      refine goes_ Try.func39 (by kernel_rfl) rfl #[.int .u32 x4, .int .i64 11] (by rfl) rfl rfl (by simp only [List.map_toArray, List.map_cons, List.map_nil]; rfl) ?_
      with_reducible refine (right11 x4 _).mono ?_
      rintro e w4 ⟨rfl, n4, rfl⟩
      refine ⟨_, rfl, ?_⟩
      refine hK.out _ _ ⟨c7, c5, c6, cw⟩ (fun hHeld => ?_)
      clear hK K
      refine norm_ (a' := ?_) ?_ ?_
      rotate_left
      · show Act.put _ (some 30) _ = _
        simp only [Act.put, List.setIfInBounds_toArray, List.set_cons_zero, List.set_cons_succ, i64_w, i32_w]
        rfl
      refine pure_ (i := 6) (N := some 31) (v := ?_) (a' := ?_) #[true, true, true, true, true, true, true, true, false, false, false, true, true, true, true, true, true, true, true, true, true, false, true, false, false, true, true, true, false, false] rfl rfl (by kernel_rfl) (fun _ _ _ h => h) (Or.inl ⟨by rfl, ?_⟩) ?_ ?_
      rotate_left
      · intro w'
        go_simp
        with_reducible rfl
      rotate_left
      · simp only [Act.put, List.setIfInBounds_toArray, List.set_cons_zero, List.set_cons_succ, i64_w, i32_w]
        rfl
      refine one_ (i := 8) (N := some 33) #[true, true, true, true, true, true, true, true, true, false, false, true, true, true, true, true, true, true, true, true, true, false, true, false, false, true, true, true, false, false] rfl rfl (by kernel_rfl) (by decide) (fun K hK => ?_)
      refine goes_ Try.func39 (by kernel_rfl) rfl #[.int .u32 x4, .int .i64 25] (by rfl) rfl rfl (by simp only [List.map_toArray, List.map_cons, List.map_nil]; rfl) ?_
      with_reducible refine (right25 x4 _).mono ?_
      rintro e w5 ⟨rfl, n5, rfl⟩
      refine ⟨_, rfl, ?_⟩
      refine hK.out _ _ ⟨c7, c5, c6, cw⟩ (fun hHeld => ?_)
      clear hK K
      refine norm_ (a' := ?_) ?_ ?_
      rotate_left
      · show Act.put _ (some 33) _ = _
        simp only [Act.put, List.setIfInBounds_toArray, List.set_cons_zero, List.set_cons_succ, i64_w, i32_w]
        rfl
      refine pure_ (i := 9) (N := some 34) (v := ?_) (a' := ?_) #[true, true, true, true, true, true, true, true, true, true, false, true, true, true, true, true, true, true, true, true, true, false, true, false, false, true, true, true, false, false] rfl rfl (by kernel_rfl) (fun _ _ _ h => h) (Or.inl ⟨by rfl, ?_⟩) ?_ ?_
      rotate_left
      · intro w'
        go_simp
        with_reducible rfl
      rotate_left
      · simp only [Act.put, List.setIfInBounds_toArray, List.set_cons_zero, List.set_cons_succ, i64_w, i32_w]
        rfl
      refine pure_ (i := 10) (N := some 35) (v := ?_) (a' := ?_) #[true, true, true, true, true, true, true, true, true, true, true, true, true, true, true, true, true, true, true, true, true, false, true, false, false, true, true, true, false, false] rfl rfl (by kernel_rfl) (fun _ _ _ h => h) (Or.inl ⟨by rfl, ?_⟩) ?_ ?_
      rotate_left
      · intro w'
        go_simp
        with_reducible rfl
      rotate_left
      · simp only [Act.put, List.setIfInBounds_toArray, List.set_cons_zero, List.set_cons_succ, i64_w, i32_w]
        rfl
      refine pure_ (i := 21) (N := some 46) (v := ?_) (a' := ?_) #[true, true, true, true, true, true, true, true, true, true, true, true, true, true, true, true, true, true, true, true, true, true, true, false, false, true, true, true, false, false] rfl rfl (by kernel_rfl) (fun _ _ _ h => h) (Or.inl ⟨by rfl, ?_⟩) ?_ ?_
      rotate_left
      · intro w'
        go_simp
        with_reducible rfl
      rotate_left
      · simp only [Act.put, List.setIfInBounds_toArray, List.set_cons_zero, List.set_cons_succ, i64_w, i32_w]
        rfl
      refine one_ (i := 23) (N := some 48) #[true, true, true, true, true, true, true, true, true, true, true, true, true, true, true, true, true, true, true, true, true, true, true, true, false, true, true, true, false, false] rfl rfl (by kernel_rfl) (by decide) (fun K hK => ?_)
      refine goes_ Try.func40 (by kernel_rfl) rfl #[.int .i64 (n : Int)] (by rfl) rfl rfl (by simp only [List.map_toArray, List.map_cons, List.map_nil]; rfl) ?_
      with_reducible refine (HK.out _).mono ?_
      rintro e w6 ⟨rfl, rfl⟩
      refine ⟨_, rfl, ?_⟩
      refine hK.out _ _ ⟨c7, c5, c6, cw⟩ (fun hHeld => ?_)
      clear hK K
      refine norm_ (a' := ?_) ?_ ?_
      rotate_left
      · show Act.put _ (some 48) _ = _
        simp only [Act.put, List.setIfInBounds_toArray, List.set_cons_zero, List.set_cons_succ, i64_w, i32_w]
        rfl
      refine pure_ (i := 24) (N := some 49) (v := ?_) (a' := ?_) #[true, true, true, true, true, true, true, true, true, true, true, true, true, true, true, true, true, true, true, true, true, true, true, true, true, true, true, true, false, false] rfl rfl (by kernel_rfl) (fun _ _ _ h => h) (Or.inl ⟨by rfl, ?_⟩) ?_ ?_
      rotate_left
      · intro w'
        go_simp
        with_reducible rfl
      rotate_left
      · simp only [Act.put, List.setIfInBounds_toArray, List.set_cons_zero, List.set_cons_succ, i64_w, i32_w]
        rfl
      refine pure_ (i := 28) (N := some 53) (v := ?_) (a' := ?_) #[true, true, true, true, true, true, true, true, true, true, true, true, true, true, true, true, true, true, true, true, true, true, true, true, true, true, true, true, true, false] rfl rfl (by kernel_rfl) (fun _ _ _ h => h) (Or.inl ⟨by rfl, ?_⟩) ?_ ?_
      rotate_left
      · intro w'
        go_simp
        with_reducible rfl
      rotate_left
      · simp only [Act.put, List.setIfInBounds_toArray, List.set_cons_zero, List.set_cons_succ, i64_w, i32_w]
        rfl
      refine pure_ (i := 29) (N := some 9) (v := ?_) (a' := ?_) #[true, true, true, true, true, true, true, true, true, true, true, true, true, true, true, true, true, true, true, true, true, true, true, true, true, true, true, true, true, true] rfl rfl (by kernel_rfl) (fun _ _ _ h => h) (Or.inl ⟨by rfl, ?_⟩) ?_ ?_
      rotate_left
      · intro w'
        go_simp
        with_reducible rfl
      rotate_left
      · simp only [Act.put, List.setIfInBounds_toArray, List.set_cons_zero, List.set_cons_succ, i64_w, i32_w]
        rfl
      refine done_ (by kernel_rfl) ?_
      go_wp2_with fail
      refine start_ (n := 25) (S := fun w' => (w'.cell? ⟨w2.heap.size, 1, none⟩ = some (.int .u32 x1)) ∧ (w'.cell? ⟨w2.heap.size, 2, none⟩ = some (.int .u32 x2))) (ds := []) #[false, false, false, false, false, false, false, false, false, false, false, false, false, false, false, false, false, false, false, false, false, false, false, false, false] (by kernel_rfl) rfl rfl ⟨c1, c2⟩ (fun hHeld => ?_)
      refine pure_ (i := 0) (N := some 54) (v := ?_) (a' := ?_) #[true, false, false, false, false, false, false, false, false, false, false, false, false, false, false, false, false, false, false, false, false, false, false, false, false] rfl rfl (by kernel_rfl) (fun _ _ _ h => h) (Or.inl ⟨by rfl, ?_⟩) ?_ ?_
      rotate_left
      · intro w'
        go_simp
        with_reducible rfl
      rotate_left
      · simp only [Act.put, List.setIfInBounds_toArray, List.set_cons_zero, List.set_cons_succ, i64_w, i32_w]
        rfl
      refine pure_ (i := 2) (N := some 56) (v := ?_) (a' := ?_) #[true, false, true, false, false, false, false, false, false, false, false, false, false, false, false, false, false, false, false, false, false, false, false, false, false] rfl rfl (by kernel_rfl) (fun _ _ _ h => h) (Or.inl ⟨by rfl, ?_⟩) ?_ ?_
      rotate_left
      · intro w'
        go_simp
        with_reducible rfl
      rotate_left
      · simp only [Act.put, List.setIfInBounds_toArray, List.set_cons_zero, List.set_cons_succ, i64_w, i32_w]
        rfl
      refine pure_ (i := 5) (N := some 59) (v := ?_) (a' := ?_) #[true, false, true, false, false, true, false, false, false, false, false, false, false, false, false, false, false, false, false, false, false, false, false, false, false] rfl rfl (by kernel_rfl) (fun _ _ _ h => h) (Or.inl ⟨by rfl, ?_⟩) ?_ ?_
      rotate_left
      · intro w'
        go_simp
        with_reducible rfl
      rotate_left
      · simp only [Act.put, List.setIfInBounds_toArray, List.set_cons_zero, List.set_cons_succ, i64_w, i32_w]
        rfl
      refine pure_ (i := 8) (N := some 62) (v := ?_) (a' := ?_) #[true, false, true, false, false, true, false, false, true, false, false, false, false, false, false, false, false, false, false, false, false, false, false, false, false] rfl rfl (by kernel_rfl) (fun _ _ _ h => h) (Or.inl ⟨by rfl, ?_⟩) ?_ ?_
      rotate_left
      · intro w'
        go_simp
        with_reducible rfl
      rotate_left
      · simp only [Act.put, List.setIfInBounds_toArray, List.set_cons_zero, List.set_cons_succ, i64_w, i32_w]
        rfl
      refine pure_ (i := 9) (N := some 63) (v := ?_) (a' := ?_) #[true, false, true, false, false, true, false, false, true, true, false, false, false, false, false, false, false, false, false, false, false, false, false, false, false] rfl rfl (by kernel_rfl) (fun _ _ _ h => h) (Or.inl ⟨by rfl, ?_⟩) ?_ ?_
      rotate_left
      · intro w'
        go_simp
        with_reducible rfl
      rotate_left
      · simp only [Act.put, List.setIfInBounds_toArray, List.set_cons_zero, List.set_cons_succ, i64_w, i32_w]
        rfl
      refine pure_ (i := 12) (N := some 66) (v := ?_) (a' := ?_) #[true, false, true, false, false, true, false, false, true, true, false, false, true, false, false, false, false, false, false, false, false, false, false, false, false] rfl rfl (by kernel_rfl) (fun _ _ _ h => h) (Or.inl ⟨by rfl, ?_⟩) ?_ ?_
      rotate_left
      · intro w'
        go_simp
        with_reducible rfl
      rotate_left
      · simp only [Act.put, List.setIfInBounds_toArray, List.set_cons_zero, List.set_cons_succ, i64_w, i32_w]
        rfl
      refine pure_ (i := 13) (N := some 67) (v := ?_) (a' := ?_) #[true, false, true, false, false, true, false, false, true, true, false, false, true, true, false, false, false, false, false, false, false, false, false, false, false] rfl rfl (by kernel_rfl) (fun _ _ _ h => h) (Or.inl ⟨by rfl, ?_⟩) ?_ ?_
      rotate_left
      · intro w'
        go_simp
        with_reducible rfl
      rotate_left
      · simp only [Act.put, List.setIfInBounds_toArray, List.set_cons_zero, List.set_cons_succ, i64_w, i32_w]
        rfl
      refine pure_ (i := 17) (N := some 71) (v := ?_) (a' := ?_) #[true, false, true, false, false, true, false, false, true, true, false, false, true, true, false, false, false, true, false, false, false, false, false, false, false] rfl rfl (by kernel_rfl) (fun _ _ _ h => h) (Or.inl ⟨by rfl, ?_⟩) ?_ ?_
      rotate_left
      · intro w'
        go_simp
        with_reducible rfl
      rotate_left
      · simp only [Act.put, List.setIfInBounds_toArray, List.set_cons_zero, List.set_cons_succ, i64_w, i32_w]
        rfl
      refine pure_ (i := 19) (N := some 73) (v := ?_) (a' := ?_) #[true, false, true, false, false, true, false, false, true, true, false, false, true, true, false, false, false, true, false, true, false, false, false, false, false] rfl rfl (by kernel_rfl) (fun _ _ _ h => h) (Or.inl ⟨by rfl, ?_⟩) ?_ ?_
      rotate_left
      · intro w'
        go_simp
        with_reducible rfl
      rotate_left
      · simp only [Act.put, List.setIfInBounds_toArray, List.set_cons_zero, List.set_cons_succ, i64_w, i32_w]
        rfl
      refine take_ (i := 10) (N := some 64) (v := ?_) (a' := ?_) #[true, false, true, false, false, true, false, false, true, true, true, false, true, true, false, false, false, true, false, true, false, false, false, false, false] rfl rfl (by kernel_rfl) (fun _ _ _ h => h) (Or.inl ⟨by rfl, ?_⟩) hHeld ?_ ?_
      rotate_left
      · rintro w' ⟨s0, s1⟩
        go_simp
        with_reducible rfl
      rotate_left
      · simp only [Act.put, List.setIfInBounds_toArray, List.set_cons_zero, List.set_cons_succ, i64_w, i32_w]
        rfl
      refine pure_ (i := 11) (N := some 65) (v := ?_) (a' := ?_) #[true, false, true, false, false, true, false, false, true, true, true, true, true, true, false, false, false, true, false, true, false, false, false, false, false] rfl rfl (by kernel_rfl) (fun _ _ _ h => h) (Or.inl ⟨by rfl, ?_⟩) ?_ ?_
      rotate_left
      · intro w'
        go_simp
        with_reducible rfl
      rotate_left
      · simp only [Act.put, List.setIfInBounds_toArray, List.set_cons_zero, List.set_cons_succ, i64_w, i32_w]
        rfl
      refine take_ (i := 14) (N := some 68) (v := ?_) (a' := ?_) #[true, false, true, false, false, true, false, false, true, true, true, true, true, true, true, false, false, true, false, true, false, false, false, false, false] rfl rfl (by kernel_rfl) (fun _ _ _ h => h) (Or.inl ⟨by rfl, ?_⟩) hHeld ?_ ?_
      rotate_left
      · rintro w' ⟨s0, s1⟩
        go_simp
        with_reducible rfl
      rotate_left
      · simp only [Act.put, List.setIfInBounds_toArray, List.set_cons_zero, List.set_cons_succ, i64_w, i32_w]
        rfl
      refine pure_ (i := 15) (N := some 69) (v := ?_) (a' := ?_) #[true, false, true, false, false, true, false, false, true, true, true, true, true, true, true, true, false, true, false, true, false, false, false, false, false] rfl rfl (by kernel_rfl) (fun _ _ _ h => h) (Or.inl ⟨by rfl, ?_⟩) ?_ ?_
      rotate_left
      · intro w'
        go_simp
        with_reducible rfl
      rotate_left
      · simp only [Act.put, List.setIfInBounds_toArray, List.set_cons_zero, List.set_cons_succ, i64_w, i32_w]
        rfl
      refine pure_ (i := 16) (N := some 70) (v := ?_) (a' := ?_) #[true, false, true, false, false, true, false, false, true, true, true, true, true, true, true, true, true, true, false, true, false, false, false, false, false] rfl rfl (by kernel_rfl) (fun _ _ _ h => h) (Or.inl ⟨by rfl, ?_⟩) ?_ ?_
      rotate_left
      · intro w'
        go_simp
        with_reducible rfl
      rotate_left
      · simp only [Act.put, List.setIfInBounds_toArray, List.set_cons_zero, List.set_cons_succ, i64_w, i32_w]
        rfl
      refine take_ (i := 18) (N := some 72) (v := ?_) (a' := ?_) #[true, false, true, false, false, true, false, false, true, true, true, true, true, true, true, true, true, true, true, true, false, false, false, false, false] rfl rfl (by kernel_rfl) (fun _ _ _ h => h) (Or.inl ⟨by rfl, ?_⟩) hHeld ?_ ?_
      rotate_left
      · rintro w' ⟨s0, s1⟩
        go_simp
        with_reducible rfl
      rotate_left
      · simp only [Act.put, List.setIfInBounds_toArray, List.set_cons_zero, List.set_cons_succ, i64_w, i32_w]
        rfl
      refine take_ (i := 20) (N := some 74) (v := ?_) (a' := ?_) #[true, false, true, false, false, true, false, false, true, true, true, true, true, true, true, true, true, true, true, true, true, false, false, false, false] rfl rfl (by kernel_rfl) (fun _ _ _ h => h) (Or.inl ⟨by rfl, ?_⟩) hHeld ?_ ?_
      rotate_left
      · rintro w' ⟨s0, s1⟩
        go_simp
        with_reducible rfl
      rotate_left
      · simp only [Act.put, List.setIfInBounds_toArray, List.set_cons_zero, List.set_cons_succ, i64_w, i32_w]
        rfl
      refine pure_ (i := 21) (N := some 75) (v := ?_) (a' := ?_) #[true, false, true, false, false, true, false, false, true, true, true, true, true, true, true, true, true, true, true, true, true, true, false, false, false] rfl rfl (by kernel_rfl) (fun _ _ _ h => h) (Or.inl ⟨by rfl, ?_⟩) ?_ ?_
      rotate_left
      · intro w'
        go_simp
        with_reducible rfl
      rotate_left
      · simp only [Act.put, List.setIfInBounds_toArray, List.set_cons_zero, List.set_cons_succ, i64_w, i32_w]
        rfl
      refine pure_ (i := 22) (N := some 76) (v := ?_) (a' := ?_) #[true, false, true, false, false, true, false, false, true, true, true, true, true, true, true, true, true, true, true, true, true, true, true, false, false] rfl rfl (by kernel_rfl) (fun _ _ _ h => h) (Or.inl ⟨by rfl, ?_⟩) ?_ ?_
      rotate_left
      · intro w'
        go_simp
        with_reducible rfl
      rotate_left
      · simp only [Act.put, List.setIfInBounds_toArray, List.set_cons_zero, List.set_cons_succ, i64_w, i32_w]
        rfl
      refine one_ (i := 1) (N := some 55) #[true, true, true, false, false, true, false, false, true, true, true, true, true, true, true, true, true, true, true, true, true, true, true, false, false] rfl rfl (by kernel_rfl) (by decide) (fun K hK => ?_)
      refine goes_ Try.func39 (by kernel_rfl) rfl #[.int .u32 x0, .int .i64 2] (by rfl) rfl rfl (by simp only [List.map_toArray, List.map_cons, List.map_nil]; rfl) ?_
      with_reducible refine (right2 x0 _).mono ?_
      rintro e w7 ⟨rfl, n7, rfl⟩
      refine ⟨_, rfl, ?_⟩
      refine hK.out _ _ ⟨c1, c2⟩ (fun hHeld => ?_)
      clear hK K
      refine norm_ (a' := ?_) ?_ ?_
      rotate_left
      · show Act.put _ (some 55) _ = _
        simp only [Act.put, List.setIfInBounds_toArray, List.set_cons_zero, List.set_cons_succ, i64_w, i32_w]
        rfl
      refine one_ (i := 3) (N := some 57) #[true, true, true, true, false, true, false, false, true, true, true, true, true, true, true, true, true, true, true, true, true, true, true, false, false] rfl rfl (by kernel_rfl) (by decide) (fun K hK => ?_)
      refine goes_ Try.func39 (by kernel_rfl) rfl #[.int .u32 x0, .int .i64 13] (by rfl) rfl rfl (by simp only [List.map_toArray, List.map_cons, List.map_nil]; rfl) ?_
      with_reducible refine (right13 x0 _).mono ?_
      rintro e w8 ⟨rfl, n8, rfl⟩
      refine ⟨_, rfl, ?_⟩
      refine hK.out _ _ ⟨c1, c2⟩ (fun hHeld => ?_)
      clear hK K
      refine norm_ (a' := ?_) ?_ ?_
      rotate_left
      · show Act.put _ (some 57) _ = _
        simp only [Act.put, List.setIfInBounds_toArray, List.set_cons_zero, List.set_cons_succ, i64_w, i32_w]
        rfl
      refine pure_ (i := 4) (N := some 58) (v := ?_) (a' := ?_) #[true, true, true, true, true, true, false, false, true, true, true, true, true, true, true, true, true, true, true, true, true, true, true, false, false] rfl rfl (by kernel_rfl) (fun _ _ _ h => h) (Or.inl ⟨by rfl, ?_⟩) ?_ ?_
      rotate_left
      · intro w'
        go_simp
        with_reducible rfl
      rotate_left
      · simp only [Act.put, List.setIfInBounds_toArray, List.set_cons_zero, List.set_cons_succ, i64_w, i32_w]
        rfl
      refine one_ (i := 6) (N := some 60) #[true, true, true, true, true, true, true, false, true, true, true, true, true, true, true, true, true, true, true, true, true, true, true, false, false] rfl rfl (by kernel_rfl) (by decide) (fun K hK => ?_)
      refine goes_ Try.func39 (by kernel_rfl) rfl #[.int .u32 x0, .int .i64 22] (by rfl) rfl rfl (by simp only [List.map_toArray, List.map_cons, List.map_nil]; rfl) ?_
      with_reducible refine (right22 x0 _).mono ?_
      rintro e w9 ⟨rfl, n9, rfl⟩
      refine ⟨_, rfl, ?_⟩
      refine hK.out _ _ ⟨c1, c2⟩ (fun hHeld => ?_)
      clear hK K
      refine norm_ (a' := ?_) ?_ ?_
      rotate_left
      · show Act.put _ (some 60) _ = _
        simp only [Act.put, List.setIfInBounds_toArray, List.set_cons_zero, List.set_cons_succ, i64_w, i32_w]
        rfl
      refine pure_ (i := 7) (N := some 61) (v := ?_) (a' := ?_) #[true, true, true, true, true, true, true, true, true, true, true, true, true, true, true, true, true, true, true, true, true, true, true, false, false] rfl rfl (by kernel_rfl) (fun _ _ _ h => h) (Or.inl ⟨by rfl, ?_⟩) ?_ ?_
      rotate_left
      · intro w'
        go_simp
        with_reducible rfl
      rotate_left
      · simp only [Act.put, List.setIfInBounds_toArray, List.set_cons_zero, List.set_cons_succ, i64_w, i32_w]
        rfl
      refine pure_ (i := 23) (N := some 77) (v := ?_) (a' := ?_) #[true, true, true, true, true, true, true, true, true, true, true, true, true, true, true, true, true, true, true, true, true, true, true, true, false] rfl rfl (by kernel_rfl) (fun _ _ _ h => h) (Or.inl ⟨by rfl, ?_⟩) ?_ ?_
      rotate_left
      · intro w'
        go_simp
        with_reducible rfl
      rotate_left
      · simp only [Act.put, List.setIfInBounds_toArray, List.set_cons_zero, List.set_cons_succ, i64_w, i32_w]
        rfl
      refine pure_ (i := 24) (N := some 10) (v := ?_) (a' := ?_) #[true, true, true, true, true, true, true, true, true, true, true, true, true, true, true, true, true, true, true, true, true, true, true, true, true] rfl rfl (by kernel_rfl) (fun _ _ _ h => h) (Or.inl ⟨by rfl, ?_⟩) ?_ ?_
      rotate_left
      · intro w'
        go_simp
        with_reducible rfl
      rotate_left
      · simp only [Act.put, List.setIfInBounds_toArray, List.set_cons_zero, List.set_cons_succ, i64_w, i32_w]
        rfl
      refine done_ (by kernel_rfl) ?_
      go_wp2_with fail
      refine start_ (n := 3) (S := fun w' => True) (ds := [2]) #[false, false, false] (by kernel_rfl) rfl rfl trivial (fun hHeld => ?_)
      refine pure_ (i := 0) (N := some 78) (v := ?_) (a' := ?_) #[true, false, false] rfl rfl (by kernel_rfl) (fun _ _ _ h => h) (Or.inl ⟨by rfl, ?_⟩) ?_ ?_
      rotate_left
      · intro w'
        go_simp
        with_reducible rfl
      rotate_left
      · simp only [Act.put, List.setIfInBounds_toArray, List.set_cons_zero, List.set_cons_succ, i64_w, i32_w]
        rfl
      refine pure_ (i := 1) (N := some 79) (v := ?_) (a' := ?_) #[true, true, false] rfl rfl (by kernel_rfl) (fun _ _ _ h => h) (Or.inl ⟨by rfl, ?_⟩) ?_ ?_
      rotate_left
      · intro w'
        go_simp
        with_reducible rfl
      rotate_left
      · simp only [Act.put, List.setIfInBounds_toArray, List.set_cons_zero, List.set_cons_succ, i64_w, i32_w]
        rfl
      refine last_ (i := 2) (N := some 80) #[true, true, true] rfl rfl (by kernel_rfl) (by decide) (fun K hK => ?_)
      refine step_copy_splice rfl (.tmp 78) (.tmp 79) 52 52 rfl 45 Try.underlying52 (by kernel_rfl) (some ⟨w2.heap.size, 1, none⟩) (some ⟨w2.heap.size, 0, none⟩) 7 7 7 8 rfl rfl w2.heap.size 1 (nums .u32 [x0, x1, x2, x3, x4, x5, x6, x7]) 46 HJ.out.sv (nums .u32 [x0, x1, x2, x3, x4, x5, x6]) rfl (fun _ => ⟨rfl, ⟨w2.heap.size, 0, none⟩, rfl, run_cells (l := [x0, x1, x2, x3, x4, x5, x6, x7]) HJ.out.sv 7⟩) (by simp [nums]) (cells1w _) w2.heap.size _ (Below.refl _ _) (Nat.le_refl _) ?_
      intro w10 hg10 hb10
      refine hK.out _ _ ?_
      clear hK K
      refine norm_ (a' := ?_) ?_ ?_
      rotate_left
      · show Act.put _ (some 80) _ = _
        simp only [Act.put, List.setIfInBounds_toArray, List.set_cons_zero, List.set_cons_succ, i64_w, i32_w]
        rfl
      refine done_ (by kernel_rfl) ?_
      obtain ⟨t, ht⟩ : ∃ t, t = IntKind.u32.wrap (IntKind.u32.wrap (IntKind.u32.wrap (IntKind.u32.wrap (x7 + Go.bits .xor .u32 (Go.bits .xor .u32 (rotR x4 6) (rotR x4 11)) (rotR x4 25)) + Go.bits .xor .u32 (Go.bits .and .u32 x4 x5) (Go.bits .and .u32 (Go.bits .xor .u32 IntKind.u32.max x4) x6)) + kn) + wn) := ⟨_, rfl⟩
      obtain ⟨u, hu⟩ : ∃ u, u = IntKind.u32.wrap (Go.bits .xor .u32 (Go.bits .xor .u32 (rotR x0 2) (rotR x0 13)) (rotR x0 22) + Go.bits .xor .u32 (Go.bits .xor .u32 (Go.bits .and .u32 x0 x1) (Go.bits .and .u32 x0 x2)) (Go.bits .and .u32 x1 x2)) := ⟨_, rfl⟩
      have hgw : w10.heap[w2.heap.size]? = some (.cells (words [x0, x0, x1, x2, x3, x4, x5, x6]) 46 (0, 0)) := hg10.out
      have hbw : Below w2.heap.size wr w10 := ⟨hb10.os, hb10.tape, hb10.output, hb10.size, hb10.block⟩
      have hrn : rounds ws (n + 1) [h0, h1, h2, h3, h4, h5, h6, h7] = [M32 (t + u), x0, x1, x2, M32 (x3 + t), x4, x5, x6] := by
        show rnd (KS.getD n 0) (ws.getD n 0) (rounds ws n _) = _
        rw [HX.out, ← HKN.out, ← HWN.out, ht, hu]
        rfl
      have hn1 := words_store (words_store hgw 4 (M32 (x3 + t))) 0 (M32 (t + u))
      have hb1 := (hbw.setCell (p := ⟨w2.heap.size, 4, none⟩) (Nat.le_refl _) (.int .u32 (M32 (x3 + t)))).setCell (p := ⟨w2.heap.size, 0, none⟩) (Nat.le_refl _) (.int .u32 (M32 (t + u)))
      have HN := Aside0.mk (HJ.out.moved hb1 (v' := rounds ws (n + 1) [h0, h1, h2, h3, h4, h5, h6, h7]) (by rw [hrn]; exact hn1))
      have g4 := words_cell hgw (i := 4) (x := x3) rfl
      have g0 := words_cell hgw (i := 0) (x := x0) rfl
      have f4 := blk_frozen hgw 4
      have f0 := blk_frozen hgw 0
      have HT := Aside0.mk ht
      have HU := Aside0.mk hu
      rw [← ht, ← hu]
      clear hg10 hb10 hgw hbw hrn hn1 hb1 ht hu c0 c1 c2 c3 c4 c5 c6 c7 cw
      go_wp2
      go_roundw
      case rel => exact ⟨n + 1, by omega, by simp, HN⟩
      case measure => simp [intOf]; omega
    · have hn64 : n = 64 := by omega
      subst hn64
      obtain ⟨v, hv⟩ : ∃ v, v = rounds ws 64 [h0, h1, h2, h3, h4, h5, h6, h7] := ⟨_, rfl⟩
      have hvl : v.length = 8 := by rw [hv]; exact rounds_length _ _ rfl _
      have hi := HI.out
      rw [← hv] at hi
      have HV := Aside0.mk hv
      have HVL := Aside0.mk hvl
      have hbw : Below w.heap.size w wr := (H1.out.trans (HB2.out.mono H1.out.size)).trans (hi.bel.mono (by have := H1.out.size; have := HZ2.out; omega))
      have HA0 := Aside0.mk (show AInv p w w2 wr [h0, h1, h2, h3, h4, h5, h6, h7] vr nn v from ⟨(Keep.of_below hbw).mono (fun i h1 h2 => by omega), (hi.bel.block p (by have := HZ2.out; omega)).trans HP2.out, hi.sv, by have := HZ2.out; omega⟩)
      have HJ0 := Aside0.mk (show ∀ j, j < 8 → List.getD [h0, h1, h2, h3, h4, h5, h6, h7] j 0 = if j < 0 then M32 (List.getD [h0, h1, h2, h3, h4, h5, h6, h7] j 0 + v.getD j 0) else List.getD [h0, h1, h2, h3, h4, h5, h6, h7] j 0 from fun j _ => by rw [if_neg (by omega)])
      clear hi hv hvl hbw hlt hn
      go_wp2_with fail
      go_loopw [91] (fun v91 wr => ∃ (i : Nat) (hp : List Int), i ≤ 8 ∧ v91 = .int .i64 (i : Int) ∧ hp.length = 8 ∧ Aside0 (∀ j, j < 8 → hp.getD j 0 = if j < i then M32 (List.getD [h0, h1, h2, h3, h4, h5, h6, h7] j 0 + v.getD j 0) else List.getD [h0, h1, h2, h3, h4, h5, h6, h7] j 0) ∧ Aside0 (AInv p w w2 wr hp vr nn v)) (fun v _ => 8 - (intOf v).toNat)
      case atStart => exact ⟨0, [h0, h1, h2, h3, h4, h5, h6, h7], by omega, rfl, rfl, HJ0, HA0⟩
      case round =>
        obtain ⟨i, hp, hi8, rfl, hpl8, HJ, HA⟩ := hrel
        have HPL8 := Aside0.mk hpl8
        by_cases hlt : i < 8
        · obtain ⟨a, ha⟩ : ∃ x, hp[i]? = some x := ⟨_, List.getElem?_eq_getElem (by omega)⟩
          obtain ⟨y, hy⟩ : ∃ x, v[i]? = some x := ⟨_, List.getElem?_eq_getElem (by rw [HVL.out]; omega)⟩
          have ca : wr.cell? ⟨p, i, none⟩ = some (.int .u32 a) := by rw [blk_cell HA.out.st]; exact stC_get ha
          have cy := words_cell HA.out.sv hy
          have fz := blk_frozen HA.out.st i
          have hi64 : (i : Int) < 8 := by omega
          have hay : M32 (List.getD [h0, h1, h2, h3, h4, h5, h6, h7] i 0 + v.getD i 0) = M32 (a + y) := by
            have := HJ.out i hlt
            rw [if_neg (by omega), List.getD_eq_getElem?_getD, ha] at this
            rw [← this, List.getD_eq_getElem?_getD (l := v), hy]
            rfl
          have HN := Aside0.mk (HA.out.set HPL8.out i (M32 (a + y)) hlt)
          have HNJ := Aside0.mk (show ∀ j, j < 8 → (hp.set i (M32 (a + y))).getD j 0 = if j < i + 1 then M32 (List.getD [h0, h1, h2, h3, h4, h5, h6, h7] j 0 + v.getD j 0) else List.getD [h0, h1, h2, h3, h4, h5, h6, h7] j 0 from fun j hj => by
            rw [getD_set _ _ _ _ (by rw [HPL8.out]; exact hlt)]
            by_cases hji : j = i
            · subst hji; rw [if_pos rfl, if_pos (by omega), hay]
            · rw [if_neg hji, HJ.out j hj]
              by_cases h2 : j < i
              · rw [if_pos h2, if_pos (by omega)]
              · rw [if_neg h2, if_neg (by omega)])
          have HNL := Aside0.mk (show (hp.set i (M32 (a + y))).length = 8 by rw [List.length_set]; exact HPL8.out)
          clear ha hy hay hpl8
          go_wp2_with fail
          refine start_ (n := 14) (S := fun w' => (w'.cell? ⟨p, i, none⟩ = some (.int .u32 a)) ∧ (w'.cell? ⟨w2.heap.size, i, none⟩ = some (.int .u32 y))) (ds := [13]) #[false, false, false, false, false, false, false, false, false, false, false, false, false, false] (by kernel_rfl) rfl rfl ⟨ca, cy⟩ (fun hHeld => ?_)
          refine pure_ (i := 0) (N := some 94) (v := ?_) (a' := ?_) #[true, false, false, false, false, false, false, false, false, false, false, false, false, false] rfl rfl (by kernel_rfl) (fun _ _ _ h => h) (Or.inl ⟨by rfl, ?_⟩) ?_ ?_
          rotate_left
          · intro w'
            go_simp
            with_reducible rfl
          rotate_left
          · simp only [Act.put, List.setIfInBounds_toArray, List.set_cons_zero, List.set_cons_succ, i64_w, i32_w]
            rfl
          refine pure_ (i := 1) (N := some 95) (v := ?_) (a' := ?_) #[true, true, false, false, false, false, false, false, false, false, false, false, false, false] rfl rfl (by kernel_rfl) (fun _ _ _ h => h) (Or.inl ⟨by rfl, ?_⟩) ?_ ?_
          rotate_left
          · intro w'
            go_simp
            with_reducible rfl
          rotate_left
          · simp only [Act.put, List.setIfInBounds_toArray, List.set_cons_zero, List.set_cons_succ, i64_w, i32_w]
            rfl
          refine pure_ (i := 2) (N := some 96) (v := ?_) (a' := ?_) #[true, true, true, false, false, false, false, false, false, false, false, false, false, false] rfl rfl (by kernel_rfl) (fun _ _ _ h => h) (Or.inl ⟨by rfl, ?_⟩) ?_ ?_
          rotate_left
          · intro w'
            go_simp
            with_reducible rfl
          rotate_left
          · simp only [Act.put, List.setIfInBounds_toArray, List.set_cons_zero, List.set_cons_succ, i64_w, i32_w]
            rfl
          refine pure_ (i := 3) (N := some 97) (v := ?_) (a' := ?_) #[true, true, true, true, false, false, false, false, false, false, false, false, false, false] rfl rfl (by kernel_rfl) (fun _ _ _ h => h) (Or.inl ⟨by rfl, ?_⟩) ?_ ?_
          rotate_left
          · intro w'
            go_simp
            with_reducible rfl
          rotate_left
          · simp only [Act.put, List.setIfInBounds_toArray, List.set_cons_zero, List.set_cons_succ, i64_w, i32_w]
            rfl
          refine pure_ (i := 4) (N := some 98) (v := ?_) (a' := ?_) #[true, true, true, true, true, false, false, false, false, false, false, false, false, false] rfl rfl (by kernel_rfl) (fun _ _ _ h => h) (Or.inl ⟨by rfl, ?_⟩) ?_ ?_
          rotate_left
          · intro w'
            go_simp
            with_reducible rfl
          rotate_left
          · simp only [Act.put, List.setIfInBounds_toArray, List.set_cons_zero, List.set_cons_succ, i64_w, i32_w]
            rfl
          refine pure_ (i := 6) (N := some 100) (v := ?_) (a' := ?_) #[true, true, true, true, true, false, true, false, false, false, false, false, false, false] rfl rfl (by kernel_rfl) (fun _ _ _ h => h) (Or.inl ⟨by rfl, ?_⟩) ?_ ?_
          rotate_left
          · intro w'
            go_simp
            with_reducible rfl
          rotate_left
          · simp only [Act.put, List.setIfInBounds_toArray, List.set_cons_zero, List.set_cons_succ, i64_w, i32_w]
            rfl
          refine pure_ (i := 7) (N := some 101) (v := ?_) (a' := ?_) #[true, true, true, true, true, false, true, true, false, false, false, false, false, false] rfl rfl (by kernel_rfl) (fun _ _ _ h => h) (Or.inl ⟨by rfl, ?_⟩) ?_ ?_
          rotate_left
          · intro w'
            go_simp
            with_reducible rfl
          rotate_left
          · simp only [Act.put, List.setIfInBounds_toArray, List.set_cons_zero, List.set_cons_succ, i64_w, i32_w]
            rfl
          refine pure_ (i := 10) (N := some 104) (v := ?_) (a' := ?_) #[true, true, true, true, true, false, true, true, false, false, true, false, false, false] rfl rfl (by kernel_rfl) (fun _ _ _ h => h) (Or.inl ⟨by rfl, ?_⟩) ?_ ?_
          rotate_left
          · intro w'
            go_simp
            with_reducible rfl
          rotate_left
          · simp only [Act.put, List.setIfInBounds_toArray, List.set_cons_zero, List.set_cons_succ, i64_w, i32_w]
            rfl
          refine pure_ (i := 11) (N := some 105) (v := ?_) (a' := ?_) #[true, true, true, true, true, false, true, true, false, false, true, true, false, false] rfl rfl (by kernel_rfl) (fun _ _ _ h => h) (Or.inl ⟨by rfl, ?_⟩) ?_ ?_
          rotate_left
          · intro w'
            go_simp
            with_reducible rfl
          rotate_left
          · simp only [Act.put, List.setIfInBounds_toArray, List.set_cons_zero, List.set_cons_succ, i64_w, i32_w]
            rfl
          refine take_ (i := 5) (N := some 99) (v := ?_) (a' := ?_) #[true, true, true, true, true, true, true, true, false, false, true, true, false, false] rfl rfl (by kernel_rfl) (fun _ _ _ h => h) (Or.inl ⟨by rfl, ?_⟩) hHeld ?_ ?_
          rotate_left
          · rintro w' ⟨s0, s1⟩
            go_simp
            with_reducible rfl
          rotate_left
          · simp only [Act.put, List.setIfInBounds_toArray, List.set_cons_zero, List.set_cons_succ, i64_w, i32_w]
            rfl
          refine take_ (i := 8) (N := some 102) (v := ?_) (a' := ?_) #[true, true, true, true, true, true, true, true, true, false, true, true, false, false] rfl rfl (by kernel_rfl) (fun _ _ _ h => h) (Or.inl ⟨by rfl, ?_⟩) hHeld ?_ ?_
          rotate_left
          · rintro w' ⟨s0, s1⟩
            go_simp
            with_reducible rfl
          rotate_left
          · simp only [Act.put, List.setIfInBounds_toArray, List.set_cons_zero, List.set_cons_succ, i64_w, i32_w]
            rfl
          refine pure_ (i := 9) (N := some 103) (v := ?_) (a' := ?_) #[true, true, true, true, true, true, true, true, true, true, true, true, false, false] rfl rfl (by kernel_rfl) (fun _ _ _ h => h) (Or.inl ⟨by rfl, ?_⟩) ?_ ?_
          rotate_left
          · intro w'
            go_simp
            with_reducible rfl
          rotate_left
          · simp only [Act.put, List.setIfInBounds_toArray, List.set_cons_zero, List.set_cons_succ, i64_w, i32_w]
            rfl
          refine pure_ (i := 12) (N := some 106) (v := ?_) (a' := ?_) #[true, true, true, true, true, true, true, true, true, true, true, true, true, false] rfl rfl (by kernel_rfl) (fun _ _ _ h => h) (Or.inl ⟨by rfl, ?_⟩) ?_ ?_
          rotate_left
          · intro w'
            go_simp
            with_reducible rfl
          rotate_left
          · simp only [Act.put, List.setIfInBounds_toArray, List.set_cons_zero, List.set_cons_succ, i64_w, i32_w]
            rfl
          refine last_ (i := 13) (N := none) #[true, true, true, true, true, true, true, true, true, true, true, true, true, true] rfl rfl (by kernel_rfl) (by decide) (fun K hK => ?_)
          refine skip_ (w1 := ?_) (by rfl) rfl ?_ ?_
          rotate_left
          · go_simp
            rfl
          refine hK.out _ _ ?_
          clear hK K
          refine done_ (by kernel_rfl) ?_
          go_wp2
          go_roundw
          case rel => exact ⟨i + 1, _, by omega, by simp, HNL.out, HNJ, ⟨HN.out.drew⟩⟩
          case measure => simp [intOf]; omega
        · have hi88 : i = 8 := by omega
          subst hi88
          have HF := Aside0.mk (show hp = oneF [h0, h1, h2, h3, h4, h5, h6, h7] b by
            unfold oneF
            rw [← HWS.out, ← HV.out]
            exact addv_of HPL8.out HVL.out rfl HJ.out)
          go_wp2
          go_end0
          refine ⟨rfl, HA.out.keep, ?_⟩
          rw [← HF.out]
          exact HA.out.st
end Go.Proofs.Ytjlnbklendkflaa
