/- Rows, and a series of points (insertion, cut, reads), walked. -/
import Derived.Test.YtnjdngjlbonieaaTierQ
import Derived.Test.YtnjdngjlbonieaaFrame
import Derived.Maps.AppendAt
import Derived.OneCell
import Derived.Deep.RegionWith
import Derived.WalkSpells
import Derived.Lib.LazyBuf
import Derived.Laws.CopyRow
import Derived.Lib.AppendZerosOnto
import Derived.Lib.Overlaps
import Derived.Shelf.Spec.SlicesInsert
import Derived.Deep.DrawnRows
import Derived.BigQuiet
import Derived.Deep.QuietTactic
import Derived.Lib.Hide
import Derived.LoopTactic
import Derived.Outline
import Derived.Laws.Rows
import Derived.Laws.CopyOwn
import Derived.WalkKit
set_option linter.unusedVariables false
set_option linter.unusedSimpArgs false
namespace Go.Proofs.Ytnjdngjlbonieaa
open Go.RowKit Go.Proofs.YtnjdngjlbonieaaW.PrintWords Go.Proofs.YtnjdngjlbonieaaW.PrintLast Go.Proofs.YtnjdngjlbonieaaW.PrintMore
open Go.Proofs.Ytnjdngjlbonieaa.PTierForgets
attribute [local go_sem] max2_int min2_int max_two min_two max_three min_three max_four min_four

theorem info29 : (Try.prog.info? 29).map (fun i => (i.zero, i.size, i.bytes)) = some (some (.agg #[.int .i64 0, .int .i64 0]), 2, 16) := by kernel_rfl
section
variable {w w' : World}
theorem own_kept {B e k n : Nat} {v : Value} {xs : List Value} (h : w.ownsRow B e k v n xs) (hm : ∀ b, v.ownBlock = some b → w'.heap[b]? = w.heap[b]?) : w'.ownsRow B e k v n xs := by
  obtain ⟨h1, h2⟩ := h
  refine ⟨h1, ?_⟩
  rcases h2 with h2 | ⟨g, cap, cur, rfl, hg, hh, r⟩
  · exact .inl h2
  · exact .inr ⟨g, cap, cur, rfl, hg, (hm g (by simp [Value.ownBlock])).trans hh, r⟩
end
theorem own_cell {B e k n g : Nat} {u : Value} {xs : List Value} {w : World} {cs : Array Value} {t : TypeId} (h : w.ownsRow B e k u n xs) (hg : w.heap[g]? = some (.cells cs t (0, 0))) (hne : e ≠ t) (i : Nat) (y : Value) : (w.setCell ⟨g, i, none⟩ y).ownsRow B e k u n xs :=
  own_kept h fun b hb => Below.heap_setCell w _ y b fun hc => by
    have hc : b = g := hc
    subst hc
    exact row_ne h hg hne hb
abbrev cellsP (p : S29) : List Value := [.int .i64 p.f0, .int .i64 p.f1]
section
variable {P : Program} {ops : Array Oper} {Q : Exit → Act → World → Prop} {md : Region.Mode} {S S' : World → Prop}
theorem raise0 (hs : ∀ w, S' w → S w) : ∀ (fuel : Nat) (l : Array Bool) (a : Act) (w : World), S' w → wpAnyLast P md ops Q S' [] fuel l a w → wpAnyLast P md ops Q S [] fuel l a w
  | 0, _, _, _, _, h => h
  | fuel + 1, l, a, w, h0, h => ⟨h.1, fun i hi => wpOp_mono (fun a' w' hh => ⟨fun hn _ => hs w' (hh.1 hn h0), raise0 hs fuel _ a' w' (hh.1 (by simp) h0) hh.2⟩) (h.2 i hi)⟩
/-- From here on S' is known. -/
theorem raise_ {fuel : Nat} {l : Array Bool} {a : Act} {w : World} (hs : ∀ w, S' w → S w) (h0 : S' w) (h : S' w → wpAnyLast P md ops Q S' [] fuel l a w) : wpAnyLast P md ops Q S [] fuel l a w :=
  raise0 hs fuel l a w h0 (h h0)
end
theorem bread {w w1 : World} (h : Below w.heap.size w w1) {p : Addr} {v : Value} (hc : w.cell? p = some v) : w1.cell? p = some v := by
  rw [h.cell (World.block_lt_of_cell? w _ hc)]
  exact hc
theorem bread_alloc {w : World} {p : Addr} {v : Value} (h : w.cell? p = some v) (o : Obj) : (w.alloc o).cell? p = some v := bread ((Below.refl _ _).alloc (Nat.le_refl _) o) h
theorem below_drewN0 {w w1 : World} (h : Drawn0 w w1) : Below w.heap.size w w1 := by
  obtain ⟨n, rfl⟩ := h
  exact pw_below_drewN (Below.refl _ _) n
def widthT (t : Int) : Int := if t = 0 then 1 else if t = 1 then 300 else if t = 2 then 3600 else 0
theorem width_is (t : Int) : window_Width.f t = some (widthT t) := by
  unfold window_Width.f widthT
  repeat' split
  all_goals rfl
theorem start_is (t x : Int) (hx : 0 ≤ x) (hx2 : x ≤ 9223372036854775807) (hw : widthT t ≠ 0) : window_Start.f t x = some (x - x % widthT t) := by
  unfold window_Start.f
  rw [width_is]
  show (if widthT t = 0 then _ else _) = _
  rw [if_neg hw, if_neg (by omega), Int.tmod_eq_emod_of_nonneg hx]
  have hp : 0 < widthT t := by unfold widthT at hw ⊢; repeat' split <;> omega
  have h1 := Int.emod_nonneg x hw
  have h2 := Int.emod_lt_of_pos x hp
  have h3 : x % widthT t ≤ x := by
    have := Int.mul_ediv_add_emod x (widthT t)
    have h4 : 0 ≤ x / widthT t := Int.ediv_nonneg hx (by omega)
    have h5 : 0 ≤ widthT t * (x / widthT t) := Int.mul_nonneg (by omega) h4
    omega
  rw [show wrap64 (x - x % widthT t) = x - x % widthT t by unfold wrap64; omega]
theorem cells29 {w : World} {A : Option Addr} {l : List S29} (h : Kd.C k29 w A l.length l) (h0 : 0 < l.length) : ∃ ad, A = some ad ∧ ∀ (j : Nat) (x : S29), l[j]? = some x → w.cell? (ad.add (j * 2)) = some (.int .i64 x.f0) ∧ w.cell? ⟨(ad.add (j * 2)).block, (ad.add (j * 2)).off + 1, none⟩ = some (.int .i64 x.f1) := by
  obtain ⟨ad0, e0, _⟩ := at_T29 h 0 (by omega) (by omega)
  subst e0
  refine ⟨ad0, rfl, fun j x hx => ?_⟩
  have hj : j < l.length := (List.getElem?_eq_some_iff.1 hx).1
  obtain ⟨ad, e1, c0, c1⟩ := at_T29 h (j : Int) (by omega) (by omega)
  injection e1 with e1
  subst e1
  have hr : rd_T29 l (j : Int) = x := by
    unfold rd_T29
    rw [Int.toNat_natCast, List.getD_eq_getElem?_getD, hx]
    rfl
  rw [Int.toNat_natCast, hr] at c0 c1
  exact ⟨c0, c1⟩
theorem flat_at {α β : Type} (f : α → List β) (k : Nat) (hf : ∀ p, (f p).length = k) : ∀ (r : List α) (j : Nat) (p : α) (i : Nat), r[j]? = some p → i < k → (r.flatMap f)[j * k + i]? = (f p)[i]? := by
  intro r
  induction r with
  | nil => intro j p i h; cases h
  | cons a r ih =>
    intro j p i h hi
    rw [List.flatMap_cons]
    cases j with
    | zero =>
      injection h with h
      subst h
      rw [Nat.zero_mul, Nat.zero_add, List.getElem?_append_left (by rw [hf]; exact hi)]
    | succ j =>
      rw [List.getElem?_append_right (by rw [hf, Nat.succ_mul]; omega), hf, show (j + 1) * k + i - k = j * k + i by rw [Nat.succ_mul]; omega]
      exact ih j p i h hi
theorem kdC_of {w : World} {B cap : Nat} {A : Option Addr} {r : List S29} (h : w.ownsRow B 29 2 (.slice A r.length cap) r.length (r.flatMap cellsP)) (hm : r.length ≤ 1000) : Kd.C k29 w A r.length r ∧ r.length ≤ cap := by
  refine ⟨⟨rfl, by omega, fun h0 => ?_⟩, ?_⟩
  · obtain ⟨g, c2, cur, e, hg, _⟩ := row_pos h h0
    injection e with e e1 e2
    subst e
    refine ⟨_, rfl, fun j p hj => ⟨cellsP p, rfl, k29_mk w p, fun i u hu => ?_⟩⟩
    have hi : i < 2 := (List.getElem?_eq_some_iff.1 hu).1
    exact h.cells (g := g) rfl (j * 2 + i) u (by rw [flat_at cellsP 2 (fun _ => rfl) r j p i hj hi]; exact hu)
  · rcases h.2 with ⟨e, h0⟩ | ⟨g, c2, cur, e, _, _, h1, _⟩
    · omega
    · injection e with _ _ e2
      omega
theorem info31 : (Try.prog.info? 31).map (fun i => (i.zero, i.size, i.bytes)) = some (some (.agg #[.int .i64 0, .int .i64 0, .int .i64 0, .int .i64 0, .int .i64 0]), 5, 40) := by kernel_rfl
theorem cells_new (w : World) (cs : List Value) (t : TypeId) : ∀ (j : Nat) (u : Value), cs[j]? = some u → (w.alloc (.cells cs.toArray t)).cell? ((⟨w.heap.size, 0, none⟩ : Addr).add j) = some u := by
  intro j u hu
  have h := blk_cell (blk_new w (.cells cs.toArray t)) j
  have e : (⟨w.heap.size, 0, none⟩ : Addr).add j = ⟨w.heap.size, j, none⟩ := by simp [Addr.add]; intro h; exact h.symm
  rw [e, h]
  simpa using hu
abbrev aggP (p : S31) : List Value := [.int .i64 p.f0, .int .i64 p.f1, .int .i64 p.f2, .int .i64 p.f3, .int .i64 p.f4]
theorem kdC_ofQ {w : World} {B cap : Nat} {A : Option Addr} {r : List S31} (h : w.ownsRow B 31 5 (.slice A r.length cap) r.length (r.flatMap aggP)) (hm : r.length ≤ 1000) : Kd.C k31 w A r.length r ∧ r.length ≤ cap := by
  refine ⟨⟨rfl, by omega, fun h0 => ?_⟩, ?_⟩
  · obtain ⟨g, c2, cur, e, hg, _⟩ := row_pos h h0
    injection e with e e1 e2
    subst e
    refine ⟨_, rfl, fun j p hj => ⟨aggP p, rfl, k31_mk w p, fun i u hu => ?_⟩⟩
    have hi : i < 5 := (List.getElem?_eq_some_iff.1 hu).1
    exact h.cells (g := g) rfl (j * 5 + i) u (by rw [flat_at aggP 5 (fun _ => rfl) r j p i hj hi]; exact hu)
  · rcases h.2 with ⟨e, h0⟩ | ⟨g, c2, cur, e, _, _, h1, _⟩
    · omega
    · injection e with _ _ e2
      omega
theorem own_grown_same {B e k n k2 m : Nat} {u v : Value} {xs ys : List Value} {w w' : World} (h : w.ownsRow B e k u n xs) (hne : ∀ b, u.ownBlock = some b → v.ownBlock ≠ some b) (hg : w.grownBy w' v.ownBlock) : w'.ownsRow B e k u n xs :=
  own_kept h fun b hb => hg.block b (h.lt b hb).2 fun hc => hne b hb hc.symm
section
def cmpI (a v : Int) : Int := if a < v then -1 else if v < a then 1 else 0
set_option maxRecDepth 100000 in
set_option maxHeartbeats 8000000 in
theorem cmp_calls (a b v : Int) (w : World) : Calls Try.prog 91 #[.agg #[.int .i64 a, .int .i64 b], .int .i64 v] w fun e w' => e = .returned (.int .i64 (cmpI a v)) ∧ Below w.heap.size w w' := by
  have hu29 := Try.underlying29
  unfold cmpI
  by_cases h1 : a < v
  · have d1 : decide (a < v) = true := decide_eq_true h1
    rw [if_pos h1]
    go_enter Try.func91, Try.ntmps91
    go_wp2
    go_ret
    exact ⟨rfl, (Below.refl _ _).alloc (Nat.le_refl _) _⟩
  · have d1 : decide (a < v) = false := decide_eq_false h1
    rw [if_neg h1]
    by_cases h2 : v < a
    · have d2 : decide (v < a) = true := decide_eq_true h2
      have d3 : decide (a > v) = true := decide_eq_true h2
      rw [if_pos h2]
      go_enter Try.func91, Try.ntmps91
      go_wp2
      go_ret
      exact ⟨rfl, (Below.refl _ _).alloc (Nat.le_refl _) _⟩
    · have d2 : decide (v < a) = false := decide_eq_false h2
      have d3 : decide (a > v) = false := decide_eq_false h2
      rw [if_neg h2]
      go_enter Try.func91, Try.ntmps91
      go_wp2
      go_ret
      exact ⟨rfl, (Below.refl _ _).alloc (Nat.le_refl _) _⟩
/-- Where a tick is, or would be. -/
def IsPos (l : List S29) (v : Int) (i : Nat) : Prop := i ≤ l.length ∧ (∀ (j : Nat) (x : S29), j < i → l[j]? = some x → x.f0 < v) ∧ ∀ (j : Nat) (x : S29), i ≤ j → l[j]? = some x → v ≤ x.f0
def BPost (l : List S29) (v : Int) (w : World) (e : Ending) (w' : World) : Prop := ∃ i : Nat, IsPos l v i ∧ e = .returned (.tuple #[.int .i64 (i : Int), .bool (decide ((l[i]?).map S29.f0 = some v))]) ∧ Below w.heap.size w w'
set_option maxRecDepth 100000 in
set_option maxHeartbeats 16000000 in
theorem bs_calls (A : Option Addr) (ca : Nat) (l : List S29) (v : Int) (hp : l.Pairwise (fun x y => x.f0 < y.f0)) (w : World) (h : Kd.C k29 w A l.length l) (hl : l.length ≤ 1000) :
    Calls Try.prog 90 #[.slice A l.length ca, .int .i64 v, .func (.func 91) #[] #[]] w (BPost l v w) := by
  have HL := Aside0.mk h
  have hrise : ∀ (i j : Nat) (x y : S29), i < j → l[i]? = some x → l[j]? = some y → x.f0 < y.f0 := fun i j x y hij hx hy => by
    obtain ⟨hi, e1⟩ := List.getElem?_eq_some_iff.1 hx
    obtain ⟨hj, e2⟩ := List.getElem?_eq_some_iff.1 hy
    have := List.pairwise_iff_getElem.1 hp i j hi hj hij
    rw [e1, e2] at this
    exact this
  have HR := Lib.hid hrise
  have hu29 := Try.underlying29
  clear h hp hrise
  go_enter Try.func90, Try.ntmps90
  go_wp2_with fail
  go_loopw [9, 10] (fun v9 v10 wr => ∃ i k : Nat, i ≤ k ∧ k ≤ l.length ∧ v9 = .int .i64 (i : Int) ∧ v10 = .int .i64 (k : Int) ∧ Aside0 (∀ (j : Nat) (x : S29), j < i → l[j]? = some x → x.f0 < v) ∧ Aside0 (∀ (j : Nat) (x : S29), k ≤ j → l[j]? = some x → v ≤ x.f0) ∧ Aside0 (Below w.heap.size w wr)) (fun v9 v10 _ => (intOf v10).toNat - (intOf v9).toNat)
  case atStart => exact ⟨0, l.length, by omega, by omega, rfl, rfl, ⟨fun j x hj => by omega⟩, ⟨fun j x hj hx => by have := (List.getElem?_eq_some_iff.1 hx).1; omega⟩, ⟨Below.refl _ _⟩⟩
  case round =>
    obtain ⟨i, k, hik, hk, rfl, rfl, HLO, HHI, HB⟩ := hrel
    by_cases hlt : i < k
    · obtain ⟨m, hm⟩ : ∃ m, m = (i + k) / 2 := ⟨_, rfl⟩
      have hmk : m < k := by omega
      have him : i ≤ m := by omega
      go_upto_region 5 with (fail)
      have hmi : ((i : Int) + (k : Int)) / 2 = (m : Int) := by omega
      rw [hmi]
      obtain ⟨ad, hAe, hcell⟩ := cells29 HL.out (by omega)
      subst hAe
      obtain ⟨x, hx⟩ : ∃ x, l[m]? = some x := ⟨_, List.getElem?_eq_getElem (by omega)⟩
      have hcx := hcell m x hx
      have u0 : wr.cell? (ad.add (m * 2)) = some (.int .i64 x.f0) := by rw [HB.out.cell (World.block_lt_of_cell? w _ hcx.1)]; exact hcx.1
      have u1 : wr.cell? ⟨(ad.add (m * 2)).block, (ad.add (m * 2)).off + 1, none⟩ = some (.int .i64 x.f1) := by rw [HB.out.cell (World.block_lt_of_cell? w _ hcx.2)]; exact hcx.2
      have hml : (m : Int) < (l.length : Int) := by omega
      have HX := Aside0.mk hx
      obtain ⟨a, b⟩ := x
      clear hcell hcx hx hm hmi
      go_wp2_with fail
      refine (cmp_calls a b v _).mono ?_
      rintro e w2 ⟨rfl, h2⟩
      have HB2 := Aside0.mk (HB.out.trans (h2.mono HB.out.size))
      clear h2 u0 u1
      by_cases hav : a < v
      · have e1 : cmpI a v = -1 := by unfold cmpI; rw [if_pos hav]
        rw [e1]
        have HLO2 := Aside0.mk (show ∀ (j : Nat) (x : S29), j < m + 1 → l[j]? = some x → x.f0 < v from fun j x hj hx => by
          rcases Nat.lt_or_ge j m with h | h
          · have := HR.out j m x _ h hx HX.out
            have h3 : x.f0 < a := this
            omega
          · have : j = m := by omega
            subst this
            have h4 := HX.out
            rw [hx] at h4
            injection h4 with h4
            rw [h4]
            exact hav)
        go_wp2_with fail
        go_roundw
        case rel => exact ⟨m + 1, k, by omega, by omega, rfl, rfl, HLO2, HHI, HB2⟩
        case measure => simp [intOf]; omega
      · have e1 : (cmpI a v < 0) = False := by unfold cmpI; rw [if_neg hav]; split <;> simp
        have e2 : decide (cmpI a v < 0) = false := decide_eq_false (by rw [e1]; exact id)
        have HHI2 := Aside0.mk (show ∀ (j : Nat) (x : S29), m ≤ j → l[j]? = some x → v ≤ x.f0 from fun j x hj hx => by
          rcases Nat.lt_or_ge m j with h | h
          · have := HR.out m j _ x h HX.out hx
            have h3 : a < x.f0 := this
            omega
          · have : j = m := by omega
            subst this
            have h4 := HX.out
            rw [hx] at h4
            injection h4 with h4
            rw [h4]
            show v ≤ a
            omega)
        clear e1
        go_wp2_with fail
        go_roundw
        case rel => exact ⟨i, m, by omega, by omega, rfl, rfl, HLO, HHI2, HB2⟩
        case measure => simp [intOf]; omega
    · have hik2 : i = k := by omega
      subst hik2
      obtain ⟨fb, hfb⟩ : ∃ b, b = decide ((l[i]?).map S29.f0 = some v) := ⟨_, rfl⟩
      have HF := Aside0.mk hfb
      by_cases hil : i < l.length
      · obtain ⟨ad, hAe, hcell⟩ := cells29 HL.out (by omega)
        subst hAe
        obtain ⟨x, hx⟩ : ∃ x, l[i]? = some x := ⟨_, List.getElem?_eq_getElem hil⟩
        have hcx := hcell i x hx
        have u0 : wr.cell? (ad.add (i * 2)) = some (.int .i64 x.f0) := by rw [HB.out.cell (World.block_lt_of_cell? w _ hcx.1)]; exact hcx.1
        have u1 : wr.cell? ⟨(ad.add (i * 2)).block, (ad.add (i * 2)).off + 1, none⟩ = some (.int .i64 x.f1) := by rw [HB.out.cell (World.block_lt_of_cell? w _ hcx.2)]; exact hcx.2
        have hml : (i : Int) < (l.length : Int) := by omega
        have HX := Aside0.mk hx
        obtain ⟨a, b⟩ := x
        clear hcell hcx hx
        go_wp2_with fail
        refine (cmp_calls a b v _).mono ?_
        rintro e w2 ⟨rfl, h2⟩
        have HB2 := Aside0.mk (HB.out.trans (h2.mono HB.out.size))
        clear h2 u0 u1
        have e3 : (cmpI a v == 0) = fb := by
          rw [hfb, HX.out]
          show (cmpI a v == 0) = decide (some a = some v)
          have hva : v ≤ a := HHI.out i _ (Nat.le_refl _) HX.out
          unfold cmpI
          by_cases h : a = v
          · subst h; simp
          · have : v < a := by omega
            rw [if_neg (by omega), if_pos this]
            simp [h]
        clear hfb
        go_wp2
        go_ret2
        exact ⟨i, ⟨hk, HLO.out, HHI.out⟩, by rw [← HF.out]; rfl, HB2.out⟩
      · have e4 : fb = false := by rw [hfb, List.getElem?_eq_none (by omega)]; rfl
        subst e4
        clear hfb
        have e5 : decide ((i : Int) < (l.length : Int)) = false := decide_eq_false (by omega)
        have e5n : decide (i < l.length) = false := decide_eq_false hil
        go_wp2
        go_ret2
        exact ⟨i, ⟨hk, HLO.out, HHI.out⟩, by rw [← HF.out]; rfl, HB.out⟩
set_option maxRecDepth 100000 in
set_option maxHeartbeats 8000000 in
theorem find_calls (A : Option Addr) (ca : Nat) (l : List S29) (v : Int) (hp : l.Pairwise (fun x y => x.f0 < y.f0)) (w : World) (h : Kd.C k29 w A l.length l) (hl : l.length ≤ 1000) :
    Calls Try.prog 81 #[.slice A l.length ca, .int .i64 v] w (BPost l v w) := by
  have HBS := Aside0.mk (bs_calls A ca l v hp w h hl)
  clear h hp
  go_enter Try.func81, Try.ntmps81
  go_wp2_with fail
  refine HBS.out.mono ?_
  rintro e w2 ⟨i, hi, rfl, h2⟩
  have HI := Aside0.mk hi
  have HB := Aside0.mk h2
  obtain ⟨fb, hfb⟩ : ∃ b, b = decide ((l[i]?).map S29.f0 = some v) := ⟨_, rfl⟩
  have HF := Aside0.mk hfb
  rw [← hfb]
  clear hi h2 hfb HBS
  go_wp2
  go_ret2
  exact ⟨i, HI.out, by rw [← HF.out]; rfl, HB.out⟩
end
section
theorem flat_len (l : List S29) : (l.flatMap cellsP).length = l.length * 2 := by
  induction l with
  | nil => rfl
  | cons a r ih => rw [List.flatMap_cons, List.length_append, ih]; simp; omega
theorem C_cells {w : World} {ad : Addr} {l : List S29} (h : Kd.C k29 w (some ad) l.length l) : ∀ (j : Nat) (u : Value), (l.flatMap cellsP)[j]? = some u → w.cell? (ad.add j) = some u := by
  intro j u hu
  have hlen := flat_len l
  have hj : j < l.length * 2 := by rw [← hlen]; exact (List.getElem?_eq_some_iff.1 hu).1
  obtain ⟨p, hp⟩ : ∃ p, l[j / 2]? = some p := ⟨_, List.getElem?_eq_getElem (by omega)⟩
  obtain ⟨ad2, e, hc⟩ := h.2.2 (by omega)
  injection e with e
  subst e
  obtain ⟨c, h1, h2, h3⟩ := hc (j / 2) p hp
  rw [k29_open h2] at h3
  have e2 : j / 2 * 2 + j % 2 = j := by omega
  have h4 := flat_at cellsP 2 (fun _ => rfl) l (j / 2) p (j % 2) hp (by omega)
  rw [e2, hu] at h4
  have h5 := h3 (j % 2) u h4.symm
  have h6 : w.cell? (ad.add (j / 2 * 2 + j % 2)) = some u := h5
  rw [e2] at h6
  exact h6
theorem nil_eq (W : World) (A : Option Addr) (n c : Nat) : (binOp .eql 22 (.slice A n c) (.slice none 0 0)).run Try.prog W = .ok (.bool A.isNone) W := by
  open Go.Lib in exact run_eql_slice_nil (P := Try.prog) W 22 29 A n c Try.underlying22
/-- What Clone leaves: a row of the call's own. -/
def KPost (l : List S29) (w : World) (e : Ending) (w' : World) : Prop := ∃ v, e = .returned v ∧ w'.ownsRow w.heap.size 29 2 v l.length (l.flatMap cellsP) ∧ Below w.heap.size w w'
set_option maxRecDepth 100000 in
set_option maxHeartbeats 8000000 in
theorem clone_calls (A : Option Addr) (ca : Nat) (l : List S29) (w : World) (h : Kd.C k29 w A l.length l) (hl : l.length ≤ 1000) (hA : A = none → ca = 0) : Calls Try.prog 63 #[.slice A l.length ca] w (KPost l w) := by
  have HL := Aside0.mk h
  clear h
  cases A with
  | none =>
    have hn : l.length = 0 := by
      refine Classical.byContradiction fun hc => ?_
      obtain ⟨ad, e, _⟩ := HL.out.2.2 (by omega)
      cases e
    have hl0 : l = [] := List.length_eq_zero_iff.1 hn
    subst hl0
    have hc0 := hA rfl
    subst hc0
    have hn0 : ∀ W, (binOp .eql 22 (.slice none 0 0) (.slice none 0 0)).run Try.prog W = .ok (.bool true) W := fun W => nil_eq W none 0 0
    go_enter Try.func63, Try.ntmps63
    go_wp2
    go_ret
    exact ⟨_, rfl, World.ownsRow_nil _ _ _ _, Below.refl _ _⟩
  | some ad =>
    obtain ⟨i29, hi29, z0, z1, z2⟩ := info_parts info29
    have HC := Lib.hid (C_cells HL.out)
    have HO := Aside0.mk (World.ownsRow_made (size := 2) (e := 29) (base := w.heap.size) w #[] 0 (Nat.le_refl _) (by unfold maxLen; omega) rfl)
    have hn0 : ∀ W, (binOp .eql 22 (.slice (some ad) l.length ca) (.slice none 0 0)).run Try.prog W = .ok (.bool false) W := fun W => nil_eq W (some ad) l.length ca
    go_enter Try.func63, Try.ntmps63
    go_wp2_with (first | (at_builtin; refine wpList_append_own _ rfl _ _ 22 rfl w.heap.size 29 i29 (.agg #[.int .i64 0, .int .i64 0]) 2 16 Try.underlying22 hi29 z0 z1 z2 rfl (by decide) _ 0 _ rfl HO.out ad l.length ca (l.flatMap cellsP) rfl (flat_len l) (fun j u hu => bread ((Below.refl _ _).alloc (Nat.le_refl _) _) (HC.out j u hu)) (fun u hu => by simp only [List.mem_flatMap, List.mem_cons, List.not_mem_nil, or_false] at hu; obtain ⟨p, _, rfl | rfl⟩ := hu <;> rfl) (by unfold maxLen; omega) (by omega) (by simp) ?_) | go_in)
    intro v1 w1 ho hg _
    have HO1 := Aside0.mk (show w1.ownsRow w.heap.size 29 2 v1 l.length (l.flatMap cellsP) by simpa using ho)
    have HB1 := Aside0.mk (((Below.refl w.heap.size w).alloc (Nat.le_refl _) (.cells #[] 29)).grown hg (by simp) (fun q hq => (HO.out.lt q hq).1))
    clear ho hg
    go_wp2
    go_ret
    exact ⟨_, rfl, HO1.out, HB1.out⟩
end
section
/-- What Insert leaves. -/
def IPost (B n : Nat) (ys : List Value) (v : Value) (w : World) (e : Ending) (w' : World) : Prop := ∃ v', e = .returned v' ∧ w'.ownsRow B 29 2 v' (n + 1) ys ∧ w.grownBy w' v.ownBlock
set_option maxRecDepth 100000 in
set_option maxHeartbeats 8000000 in
theorem insert_end (B n c nb : Nat) (A : Option Addr) (xs : List Value) (a b : Int) (w : World) (h : w.ownsRow B 29 2 (.slice A n c) n xs) (hB : B ≤ w.heap.size) (hn : n ≤ 1000) (h0 : w.cell? ⟨nb, 0, none⟩ = some (.int .i64 a)) (h1 : w.cell? ⟨nb, 1, none⟩ = some (.int .i64 b)) :
    Calls Try.prog 89 #[.slice A n c, .int .i64 (n : Int), .slice (some ⟨nb, 0, none⟩) 1 1] w (IPost B n (xs ++ [.int .i64 a, .int .i64 b]) (.slice A n c) w) := by
  have hnc : n ≤ c := by
    rcases h.2 with ⟨e, h0⟩ | ⟨g, c2, cur, e, _, _, h1, _⟩
    · omega
    · injection e with _ _ e2; omega
  have hnI : (n : Int) ≤ (c : Int) := by omega
  have HO := Aside0.mk h
  have HN := Lib.hid (show ∀ (j : Nat) (u : Value), [Value.int .i64 a, .int .i64 b][j]? = some u → w.cell? ((⟨nb, 0, none⟩ : Addr).add j) = some u from fun j u hu => by
    have e : (⟨nb, 0, none⟩ : Addr).add j = ⟨nb, j, none⟩ := by simp [Addr.add]; intro h; exact h.symm
    rw [e]
    rcases j with _ | _ | j
    · injection hu with hu; subst hu; exact h0
    · injection hu with hu; subst hu; exact h1
    · cases hu)
  have HB := Aside0.mk hB
  obtain ⟨i29, hi29, z0, z1, z2⟩ := info_parts info29
  have en : ((n : Int) == (n : Int)) = true := beq_self_eq_true _
  have en2 : (n == n) = true := beq_self_eq_true _
  clear h hB h0 h1
  by_cases hcn : c = n
  · have hcn' : n = c := hcn.symm
    subst hcn'
    go_enter Try.func89, Try.ntmps89
    go_wp2_with (first | (at_builtin; refine wpList_append_own _ rfl _ _ 22 rfl B 29 i29 (.agg #[.int .i64 0, .int .i64 0]) 2 16 Try.underlying22 hi29 z0 z1 z2 rfl (by decide) _ n _ rfl HO.out ⟨nb, 0, none⟩ 1 1 [.int .i64 a, .int .i64 b] rfl rfl HN.out (by simp [Value.oneCell']) (by unfold maxLen; omega) (by omega) HB.out ?_) | go_in)
    intro v1 w1 ho hg _
    have HO1 := Aside0.mk ho
    have HG1 := Aside0.mk hg
    clear ho hg
    go_wp2
    go_ret
    exact ⟨_, rfl, HO1.out, HG1.out⟩
  · have hcn2 : ¬ n = c := fun e => hcn e.symm
    go_enter Try.func89, Try.ntmps89
    go_wp2_with (first | (at_builtin; refine wpList_append_own _ rfl _ _ 22 rfl B 29 i29 (.agg #[.int .i64 0, .int .i64 0]) 2 16 Try.underlying22 hi29 z0 z1 z2 rfl (by decide) _ n _ rfl HO.out ⟨nb, 0, none⟩ 1 1 [.int .i64 a, .int .i64 b] rfl rfl HN.out (by simp [Value.oneCell']) (by unfold maxLen; omega) (by omega) HB.out ?_) | go_in)
    intro v1 w1 ho hg _
    have HO1 := Aside0.mk ho
    have HG1 := Aside0.mk hg
    clear ho hg
    go_wp2
    go_ret
    exact ⟨_, rfl, HO1.out, HG1.out⟩
end
section
def SPost (l : List S29) (fr tt : Int) (w : World) (e : Ending) (w' : World) : Prop := ∃ i k : Nat, ((tt ≤ fr ∧ i = 0 ∧ k = 0) ∨ (fr < tt ∧ IsPos l fr i ∧ IsPos l tt k)) ∧ e = .returned (.tuple #[.int .i64 (i : Int), .int .i64 (k : Int)]) ∧ Below w.heap.size w w'
set_option maxRecDepth 100000 in
set_option maxHeartbeats 16000000 in
theorem span_calls (p : Nat) (A : Option Addr) (ca : Nat) (l : List S29) (fr tt : Int) (hp : l.Pairwise (fun x y => x.f0 < y.f0)) (w : World) (hc : w.cell? ⟨p, 0, none⟩ = some (.slice A l.length ca)) (h : Kd.C k29 w A l.length l) (hl : l.length ≤ 1000) :
    Calls Try.prog 62 #[.pointer (some ⟨p, 0, none⟩), .agg #[.int .i64 fr, .int .i64 tt]] w (SPost l fr tt w) := by
  have HF := Lib.hid (fun W hC => find_calls A ca l fr hp W hC hl)
  have HT := Lib.hid (fun W hC => find_calls A ca l tt hp W hC hl)
  have HL := Aside0.mk h
  have HC := Aside0.mk hc
  have hu42 := Try.underlying42
  have hu91 := Try.underlying91
  clear h hp hc
  by_cases hft : tt ≤ fr
  · have d1 : decide (tt ≤ fr) = true := decide_eq_true hft
    have d2 : decide (fr ≥ tt) = true := decide_eq_true hft
    have HFT := Aside0.mk hft
    clear hft
    go_enter Try.func62, Try.ntmps62
    go_wp2
    go_ret2
    exact ⟨0, 0, .inl ⟨HFT.out, rfl, rfl⟩, rfl, (Below.refl _ _).alloc (Nat.le_refl _) _⟩
  · have d1 : decide (tt ≤ fr) = false := decide_eq_false hft
    have d2 : decide (fr ≥ tt) = false := decide_eq_false hft
    have HFT := Aside0.mk (show fr < tt by omega)
    clear hft
    obtain ⟨W, hW⟩ : ∃ W, W = w.alloc (.cells #[.int .i64 fr, .int .i64 tt] 42) := ⟨_, rfl⟩
    obtain ⟨Q, hQ⟩ : ∃ Q, Q = w.heap.size := ⟨_, rfl⟩
    have HB0 := Aside0.mk (show Below w.heap.size w W by rw [hW]; exact (Below.refl _ _).alloc (Nat.le_refl _) _)
    have HL0 := Aside0.mk (show Kd.C k29 W A l.length l by rw [hW]; exact Kd.C_alloc HL.out _)
    have q0 : W.cell? ⟨p, 0, none⟩ = some (.slice A l.length ca) := by rw [hW]; exact bread_alloc HC.out _
    have q1 : W.cell? ⟨Q, 0, none⟩ = some (.int .i64 fr) := by rw [hW, hQ]; exact blk_cell (blk_new w _) 0
    have q2 : W.cell? ⟨Q, 1, none⟩ = some (.int .i64 tt) := by rw [hW, hQ]; exact blk_cell (blk_new w _) 1
    clear HL HC
    go_enter Try.func62, Try.ntmps62
    go_upto_region 3 with (fail)
    rw [← hW, ← hQ]
    clear hW hQ
    go_wp2_with fail
    refine start_ (n := 12) (S := fun w' => (w'.cell? ⟨p, 0, none⟩ = some (.slice A l.length ca)) ∧ (w'.cell? ⟨Q, 0, none⟩ = some (.int .i64 fr)) ∧ (w'.cell? ⟨Q, 1, none⟩ = some (.int .i64 tt))) (ds := []) #[false, false, false, false, false, false, false, false, false, false, false, false] (by kernel_rfl) rfl rfl ⟨q0, q1, q2⟩ (fun hHeld => ?_)
    refine pure_ (i := 0) (N := some 20) (v := ?_) (a' := ?_) #[true, false, false, false, false, false, false, false, false, false, false, false] rfl rfl (by kernel_rfl) (fun _ _ _ h => h) (Or.inl ⟨by rfl, ?_⟩) ?_ ?_
    rotate_left
    · intro w'
      go_simp
      with_reducible rfl
    rotate_left
    · simp only [Act.put, List.setIfInBounds_toArray, List.set_cons_zero, List.set_cons_succ, i64_w, i32_w]
      rfl
    refine pure_ (i := 1) (N := some 21) (v := ?_) (a' := ?_) #[true, true, false, false, false, false, false, false, false, false, false, false] rfl rfl (by kernel_rfl) (fun _ _ _ h => h) (Or.inl ⟨by rfl, ?_⟩) ?_ ?_
    rotate_left
    · intro w'
      go_simp
      with_reducible rfl
    rotate_left
    · simp only [Act.put, List.setIfInBounds_toArray, List.set_cons_zero, List.set_cons_succ, i64_w, i32_w]
      rfl
    refine pure_ (i := 2) (N := some 22) (v := ?_) (a' := ?_) #[true, true, true, false, false, false, false, false, false, false, false, false] rfl rfl (by kernel_rfl) (fun _ _ _ h => h) (Or.inl ⟨by rfl, ?_⟩) ?_ ?_
    rotate_left
    · intro w'
      go_simp
      with_reducible rfl
    rotate_left
    · simp only [Act.put, List.setIfInBounds_toArray, List.set_cons_zero, List.set_cons_succ, i64_w, i32_w]
      rfl
    refine pure_ (i := 4) (N := some 24) (v := ?_) (a' := ?_) #[true, true, true, false, true, false, false, false, false, false, false, false] rfl rfl (by kernel_rfl) (fun _ _ _ h => h) (Or.inl ⟨by rfl, ?_⟩) ?_ ?_
    rotate_left
    · intro w'
      go_simp
      with_reducible rfl
    rotate_left
    · simp only [Act.put, List.setIfInBounds_toArray, List.set_cons_zero, List.set_cons_succ, i64_w, i32_w]
      rfl
    refine take_ (i := 3) (N := some 23) (v := ?_) (a' := ?_) #[true, true, true, true, true, false, false, false, false, false, false, false] rfl rfl (by kernel_rfl) (fun _ _ _ h => h) (Or.inl ⟨by rfl, ?_⟩) hHeld ?_ ?_
    rotate_left
    · rintro w' ⟨s0, s1, s2⟩
      go_simp
      with_reducible rfl
    rotate_left
    · simp only [Act.put, List.setIfInBounds_toArray, List.set_cons_zero, List.set_cons_succ, i64_w, i32_w]
      rfl
    refine take_ (i := 5) (N := some 25) (v := ?_) (a' := ?_) #[true, true, true, true, true, true, false, false, false, false, false, false] rfl rfl (by kernel_rfl) (fun _ _ _ h => h) (Or.inl ⟨by rfl, ?_⟩) hHeld ?_ ?_
    rotate_left
    · rintro w' ⟨s0, s1, s2⟩
      go_simp
      with_reducible rfl
    rotate_left
    · simp only [Act.put, List.setIfInBounds_toArray, List.set_cons_zero, List.set_cons_succ, i64_w, i32_w]
      rfl
    refine one_ (i := 6) (N := some 26) #[true, true, true, true, true, true, true, false, false, false, false, false] rfl rfl (by kernel_rfl) (by decide) (fun K hK => ?_)
    refine goes_ Try.func81 (by kernel_rfl) rfl #[.slice A l.length ca, .int .i64 fr] (by rfl) rfl rfl (by simp only [List.map_toArray, List.map_cons, List.map_nil]; rfl) ?_
    with_reducible refine ((HF.out _ (Kd.C_drew HL0.out))).mono ?_
    rintro e w1 hh
    obtain ⟨i, hi1, rfl, h1⟩ := hh
    have k0 := bread h1 hHeld.1
    have k1 := bread h1 hHeld.2.1
    have k2 := bread h1 hHeld.2.2
    have HB1 := Aside0.mk ((pw_below_drewN HB0.out 1).trans (h1.mono HB0.out.size))
    have HL1 := Aside0.mk (Kd.C_below (Kd.C_drew HL0.out) h1)
    have HI1 := Aside0.mk hi1
    clear h1 hi1
    refine ⟨_, rfl, ?_⟩
    refine hK.out _ _ ⟨k0, k1, k2⟩ (fun hHeld => ?_)
    clear hK K
    refine norm_ (a' := ?_) ?_ ?_
    rotate_left
    · show Act.put _ (some 26) _ = _
      simp only [Act.put, List.setIfInBounds_toArray, List.set_cons_zero, List.set_cons_succ, i64_w, i32_w]
      rfl
    refine pure_ (i := 7) (N := some 19) (v := ?_) (a' := ?_) #[true, true, true, true, true, true, true, true, false, false, false, false] rfl rfl (by kernel_rfl) (fun _ _ _ h => h) (Or.inl ⟨by rfl, ?_⟩) ?_ ?_
    rotate_left
    · intro w'
      go_simp
      with_reducible rfl
    rotate_left
    · simp only [Act.put, List.setIfInBounds_toArray, List.set_cons_zero, List.set_cons_succ, i64_w, i32_w]
      rfl
    refine pure_ (i := 8) (N := some 27) (v := ?_) (a' := ?_) #[true, true, true, true, true, true, true, true, true, false, false, false] rfl rfl (by kernel_rfl) (fun _ _ _ h => h) (Or.inl ⟨by rfl, ?_⟩) ?_ ?_
    rotate_left
    · intro w'
      go_simp
      with_reducible rfl
    rotate_left
    · simp only [Act.put, List.setIfInBounds_toArray, List.set_cons_zero, List.set_cons_succ, i64_w, i32_w]
      rfl
    refine pure_ (i := 9) (N := some 28) (v := ?_) (a' := ?_) #[true, true, true, true, true, true, true, true, true, true, false, false] rfl rfl (by kernel_rfl) (fun _ _ _ h => h) (Or.inl ⟨by rfl, ?_⟩) ?_ ?_
    rotate_left
    · intro w'
      go_simp
      with_reducible rfl
    rotate_left
    · simp only [Act.put, List.setIfInBounds_toArray, List.set_cons_zero, List.set_cons_succ, i64_w, i32_w]
      rfl
    refine pure_ (i := 10) (N := some 6) (v := ?_) (a' := ?_) #[true, true, true, true, true, true, true, true, true, true, true, false] rfl rfl (by kernel_rfl) (fun _ _ _ h => h) (Or.inl ⟨by rfl, ?_⟩) ?_ ?_
    rotate_left
    · intro w'
      go_simp
      with_reducible rfl
    rotate_left
    · simp only [Act.put, List.setIfInBounds_toArray, List.set_cons_zero, List.set_cons_succ, i64_w, i32_w]
      rfl
    refine pure_ (i := 11) (N := some 7) (v := ?_) (a' := ?_) #[true, true, true, true, true, true, true, true, true, true, true, true] rfl rfl (by kernel_rfl) (fun _ _ _ h => h) (Or.inl ⟨by rfl, ?_⟩) ?_ ?_
    rotate_left
    · intro w'
      go_simp
      with_reducible rfl
    rotate_left
    · simp only [Act.put, List.setIfInBounds_toArray, List.set_cons_zero, List.set_cons_succ, i64_w, i32_w]
      rfl
    refine done_ (by kernel_rfl) ?_
    go_wp2_with fail
    have q0 := k0
    have q1 := k1
    have q2 := k2
    refine start_ (n := 12) (S := fun w' => (w'.cell? ⟨p, 0, none⟩ = some (.slice A l.length ca)) ∧ (w'.cell? ⟨Q, 0, none⟩ = some (.int .i64 fr)) ∧ (w'.cell? ⟨Q, 1, none⟩ = some (.int .i64 tt))) (ds := []) #[false, false, false, false, false, false, false, false, false, false, false, false] (by kernel_rfl) rfl rfl ⟨q0, q1, q2⟩ (fun hHeld => ?_)
    refine pure_ (i := 0) (N := some 30) (v := ?_) (a' := ?_) #[true, false, false, false, false, false, false, false, false, false, false, false] rfl rfl (by kernel_rfl) (fun _ _ _ h => h) (Or.inl ⟨by rfl, ?_⟩) ?_ ?_
    rotate_left
    · intro w'
      go_simp
      with_reducible rfl
    rotate_left
    · simp only [Act.put, List.setIfInBounds_toArray, List.set_cons_zero, List.set_cons_succ, i64_w, i32_w]
      rfl
    refine pure_ (i := 1) (N := some 31) (v := ?_) (a' := ?_) #[true, true, false, false, false, false, false, false, false, false, false, false] rfl rfl (by kernel_rfl) (fun _ _ _ h => h) (Or.inl ⟨by rfl, ?_⟩) ?_ ?_
    rotate_left
    · intro w'
      go_simp
      with_reducible rfl
    rotate_left
    · simp only [Act.put, List.setIfInBounds_toArray, List.set_cons_zero, List.set_cons_succ, i64_w, i32_w]
      rfl
    refine pure_ (i := 2) (N := some 32) (v := ?_) (a' := ?_) #[true, true, true, false, false, false, false, false, false, false, false, false] rfl rfl (by kernel_rfl) (fun _ _ _ h => h) (Or.inl ⟨by rfl, ?_⟩) ?_ ?_
    rotate_left
    · intro w'
      go_simp
      with_reducible rfl
    rotate_left
    · simp only [Act.put, List.setIfInBounds_toArray, List.set_cons_zero, List.set_cons_succ, i64_w, i32_w]
      rfl
    refine pure_ (i := 4) (N := some 34) (v := ?_) (a' := ?_) #[true, true, true, false, true, false, false, false, false, false, false, false] rfl rfl (by kernel_rfl) (fun _ _ _ h => h) (Or.inl ⟨by rfl, ?_⟩) ?_ ?_
    rotate_left
    · intro w'
      go_simp
      with_reducible rfl
    rotate_left
    · simp only [Act.put, List.setIfInBounds_toArray, List.set_cons_zero, List.set_cons_succ, i64_w, i32_w]
      rfl
    refine take_ (i := 3) (N := some 33) (v := ?_) (a' := ?_) #[true, true, true, true, true, false, false, false, false, false, false, false] rfl rfl (by kernel_rfl) (fun _ _ _ h => h) (Or.inl ⟨by rfl, ?_⟩) hHeld ?_ ?_
    rotate_left
    · rintro w' ⟨s0, s1, s2⟩
      go_simp
      with_reducible rfl
    rotate_left
    · simp only [Act.put, List.setIfInBounds_toArray, List.set_cons_zero, List.set_cons_succ, i64_w, i32_w]
      rfl
    refine take_ (i := 5) (N := some 35) (v := ?_) (a' := ?_) #[true, true, true, true, true, true, false, false, false, false, false, false] rfl rfl (by kernel_rfl) (fun _ _ _ h => h) (Or.inl ⟨by rfl, ?_⟩) hHeld ?_ ?_
    rotate_left
    · rintro w' ⟨s0, s1, s2⟩
      go_simp
      with_reducible rfl
    rotate_left
    · simp only [Act.put, List.setIfInBounds_toArray, List.set_cons_zero, List.set_cons_succ, i64_w, i32_w]
      rfl
    refine one_ (i := 6) (N := some 36) #[true, true, true, true, true, true, true, false, false, false, false, false] rfl rfl (by kernel_rfl) (by decide) (fun K hK => ?_)
    refine goes_ Try.func81 (by kernel_rfl) rfl #[.slice A l.length ca, .int .i64 tt] (by rfl) rfl rfl (by simp only [List.map_toArray, List.map_cons, List.map_nil]; rfl) ?_
    with_reducible refine ((HT.out _ (Kd.C_drew HL1.out))).mono ?_
    rintro e w2 hh
    obtain ⟨k, hi2, rfl, h2⟩ := hh
    have k0 := bread h2 hHeld.1
    have k1 := bread h2 hHeld.2.1
    have k2 := bread h2 hHeld.2.2
    have HB2 := Aside0.mk ((pw_below_drewN HB1.out 1).trans (h2.mono HB1.out.size))
    have HL2 := Aside0.mk (Kd.C_below (Kd.C_drew HL1.out) h2)
    have HI2 := Aside0.mk hi2
    clear h2 hi2
    refine ⟨_, rfl, ?_⟩
    refine hK.out _ _ ⟨k0, k1, k2⟩ (fun hHeld => ?_)
    clear hK K
    refine norm_ (a' := ?_) ?_ ?_
    rotate_left
    · show Act.put _ (some 36) _ = _
      simp only [Act.put, List.setIfInBounds_toArray, List.set_cons_zero, List.set_cons_succ, i64_w, i32_w]
      rfl
    refine pure_ (i := 7) (N := some 29) (v := ?_) (a' := ?_) #[true, true, true, true, true, true, true, true, false, false, false, false] rfl rfl (by kernel_rfl) (fun _ _ _ h => h) (Or.inl ⟨by rfl, ?_⟩) ?_ ?_
    rotate_left
    · intro w'
      go_simp
      with_reducible rfl
    rotate_left
    · simp only [Act.put, List.setIfInBounds_toArray, List.set_cons_zero, List.set_cons_succ, i64_w, i32_w]
      rfl
    refine pure_ (i := 8) (N := some 37) (v := ?_) (a' := ?_) #[true, true, true, true, true, true, true, true, true, false, false, false] rfl rfl (by kernel_rfl) (fun _ _ _ h => h) (Or.inl ⟨by rfl, ?_⟩) ?_ ?_
    rotate_left
    · intro w'
      go_simp
      with_reducible rfl
    rotate_left
    · simp only [Act.put, List.setIfInBounds_toArray, List.set_cons_zero, List.set_cons_succ, i64_w, i32_w]
      rfl
    refine pure_ (i := 9) (N := some 38) (v := ?_) (a' := ?_) #[true, true, true, true, true, true, true, true, true, true, false, false] rfl rfl (by kernel_rfl) (fun _ _ _ h => h) (Or.inl ⟨by rfl, ?_⟩) ?_ ?_
    rotate_left
    · intro w'
      go_simp
      with_reducible rfl
    rotate_left
    · simp only [Act.put, List.setIfInBounds_toArray, List.set_cons_zero, List.set_cons_succ, i64_w, i32_w]
      rfl
    refine pure_ (i := 10) (N := some 8) (v := ?_) (a' := ?_) #[true, true, true, true, true, true, true, true, true, true, true, false] rfl rfl (by kernel_rfl) (fun _ _ _ h => h) (Or.inl ⟨by rfl, ?_⟩) ?_ ?_
    rotate_left
    · intro w'
      go_simp
      with_reducible rfl
    rotate_left
    · simp only [Act.put, List.setIfInBounds_toArray, List.set_cons_zero, List.set_cons_succ, i64_w, i32_w]
      rfl
    refine pure_ (i := 11) (N := some 9) (v := ?_) (a' := ?_) #[true, true, true, true, true, true, true, true, true, true, true, true] rfl rfl (by kernel_rfl) (fun _ _ _ h => h) (Or.inl ⟨by rfl, ?_⟩) ?_ ?_
    rotate_left
    · intro w'
      go_simp
      with_reducible rfl
    rotate_left
    · simp only [Act.put, List.setIfInBounds_toArray, List.set_cons_zero, List.set_cons_succ, i64_w, i32_w]
      rfl
    refine done_ (by kernel_rfl) ?_
    go_wp2
    go_ret2
    exact ⟨i, k, .inr ⟨HFT.out, HI1.out, HI2.out⟩, rfl, HB2.out⟩
end
section
theorem pos_le {l : List S29} {fr tt : Int} {i k : Nat} (h : fr < tt) (hi : IsPos l fr i) (hk : IsPos l tt k) : i ≤ k := by
  refine Classical.byContradiction fun hc => ?_
  obtain ⟨x, hx⟩ : ∃ x, l[k]? = some x := ⟨_, List.getElem?_eq_getElem (by have := hi.1; omega)⟩
  have h1 := hi.2.1 k x (by omega) hx
  have h2 := hk.2.2 k x (Nat.le_refl _) hx
  omega
def GetPost (l : List S29) (fr tt : Int) (w : World) (e : Ending) (w' : World) : Prop := ∃ i k : Nat, ((tt ≤ fr ∧ i = 0 ∧ k = 0) ∨ (fr < tt ∧ IsPos l fr i ∧ IsPos l tt k)) ∧ ∃ v, e = .returned v ∧ w'.ownsRow w.heap.size 29 2 v ((l.drop i).take (k - i)).length (((l.drop i).take (k - i)).flatMap cellsP) ∧ Below w.heap.size w w'
set_option maxRecDepth 100000 in
set_option maxHeartbeats 16000000 in
theorem get_calls (p : Nat) (A : Option Addr) (ca : Nat) (l : List S29) (fr tt : Int) (hp : l.Pairwise (fun x y => x.f0 < y.f0)) (w : World) (hc : w.cell? ⟨p, 0, none⟩ = some (.slice A l.length ca)) (h : Kd.C k29 w A l.length l) (hl : l.length ≤ 1000) (hca : l.length ≤ ca) :
    Calls Try.prog 20 #[.pointer (some ⟨p, 0, none⟩), .agg #[.int .i64 fr, .int .i64 tt]] w (GetPost l fr tt w) := by
  have hu42 := Try.underlying42
  have hu91 := Try.underlying91
  have hsp := fun W hc2 hC => span_calls p A ca l fr tt hp W hc2 hC hl
  have HSP := Lib.hid hsp
  have HL := Aside0.mk h
  have HC := Aside0.mk hc
  have HCA := Aside0.mk hca
  clear h hp hc hsp hca
  go_enter Try.func20, Try.ntmps20
  go_wp2_with fail
  refine (HSP.out _ (bread_alloc HC.out _) (Kd.C_alloc HL.out _)).mono ?_
  rintro e w1 ⟨i, k, hik, rfl, h1⟩
  have HIK := Aside0.mk hik
  have HB0 := Aside0.mk ((Below.refl w.heap.size w).alloc (Nat.le_refl _) (.cells #[.int .i64 fr, .int .i64 tt] 42))
  have HB1 := Aside0.mk (HB0.out.trans (h1.mono HB0.out.size))
  have HC1 := Aside0.mk (bread h1 (bread_alloc HC.out (.cells #[.int .i64 fr, .int .i64 tt] 42)))
  have HL1 := Aside0.mk (Kd.C_below (Kd.C_alloc HL.out _) h1)
  clear h1 hik HB0
  by_cases hc : i = k
  · subst hc
    have e1 : ((i : Int) == (i : Int)) = true := beq_self_eq_true _
    have e2 : (i == i) = true := beq_self_eq_true _
    go_wp2
    go_ret
    exact ⟨i, i, HIK.out, _, rfl, by rw [Nat.sub_self, List.take_zero]; exact World.ownsRow_nil _ _ _ _, HB1.out⟩
  · have e1 : ((i : Int) == (k : Int)) = false := beq_eq_false_iff_ne.2 (by omega)
    have e2 : (i == k) = false := beq_eq_false_iff_ne.2 hc
    have hle : i ≤ k ∧ k ≤ l.length := by
      rcases HIK.out with ⟨_, h1, h2⟩ | ⟨h0, h1, h2⟩
      · omega
      · exact ⟨pos_le h0 h1 h2, h2.1⟩
    have hik := hle.1
    have hkl := hle.2
    have hca9 := HCA.out
    obtain ⟨ad, hAe, _⟩ := cells29 HL1.out (by omega)
    subst hAe
    obtain ⟨ys, hys⟩ : ∃ ys, ys = (l.drop i).take (k - i) := ⟨_, rfl⟩
    have hyl : ys.length = k - i := by rw [hys, List.length_take, List.length_drop]; omega
    have HCS := Aside0.mk (show Kd.C k29 w1 (some (ad.add (i * 2))) ys.length ys from by
      have h := Kd.C_mid HL1.out hik hkl HCA.out
      rw [if_neg (by omega), List.drop_take, ← hys] at h
      exact h)
    have HCL := Lib.hid (fun c hC => clone_calls (some (ad.add (i * 2))) c ys w1 hC (by omega) (fun e => by cases e))
    rw [hyl] at HCL HCS
    have hci : ¬ ca = i := by omega
    have hkca : k ≤ ca := by omega
    have q0 := HC1.out
    have HYS := Aside0.mk hys
    have HYL := Aside0.mk hyl
    clear hc hle hys hyl
    go_wp2_with fail
    refine (HCL.out _ HCS.out).mono ?_
    rintro e w2 ⟨v, rfl, ho, h2⟩
    have HB2 := Aside0.mk (HB1.out.trans (h2.mono HB1.out.size))
    have HO := Aside0.mk (row_mono ho HB1.out.size)
    clear h2 ho
    go_wp2
    go_ret
    exact ⟨i, k, HIK.out, _, rfl, by rw [← HYS.out]; exact HO.out, HB2.out⟩
end
section
def outB (a : Int) : Bool := decide (a < 0) || decide (a > 1099511627776)
set_option maxRecDepth 100000 in
set_option maxHeartbeats 8000000 in
theorem put1_calls (a b : Int) (w : World) : Calls Try.prog 60 #[.agg #[.int .i64 a, .int .i64 b]] w fun e w' => e = .returned (.bool (outB a)) ∧ Below w.heap.size w w' := by
  have hu29 := Try.underlying29
  unfold outB
  by_cases h1 : a < 0
  · have d1 : decide (a < 0) = true := decide_eq_true h1
    rw [d1, Bool.true_or]
    go_enter Try.func60, Try.ntmps60
    go_wp2
    go_ret
    exact ⟨rfl, (Below.refl _ _).alloc (Nat.le_refl _) _⟩
  · have d1 : decide (a < 0) = false := decide_eq_false h1
    rw [d1, Bool.false_or]
    obtain ⟨fb, hfb⟩ : ∃ f, f = decide (a > 1099511627776) := ⟨_, rfl⟩
    have d2 : decide (a > 1099511627776) = fb := hfb.symm
    have d3 : decide ((1099511627776 : Int) < a) = fb := hfb.symm
    rw [d2]
    clear hfb h1
    go_enter Try.func60, Try.ntmps60
    go_wp2
    go_ret
    exact ⟨rfl, (Below.refl _ _).alloc (Nat.le_refl _) _⟩
def XPost (l : List S29) (w : World) (e : Ending) (w' : World) : Prop := ∃ r : Int, e = .returned (.int .i64 r) ∧ (0 ≤ r ↔ ∃ x ∈ l, outB x.f0 = true) ∧ Below w.heap.size w w'
set_option maxRecDepth 100000 in
set_option maxHeartbeats 8000000 in
theorem index_calls (A : Option Addr) (ca : Nat) (l : List S29) (w : World) (h : Kd.C k29 w A l.length l) (hl : l.length ≤ 1000) :
    Calls Try.prog 79 #[.slice A l.length ca, .func (.func 60) #[] #[]] w (XPost l w) := by
  have HL := Aside0.mk h
  have hu29 := Try.underlying29
  clear h
  go_enter Try.func79, Try.ntmps79
  go_wp2_with fail
  go_loopw [8] (fun v8 wr => ∃ j : Nat, j ≤ l.length ∧ v8 = .int .i64 (j : Int) ∧ Aside0 (∀ x ∈ l.take j, outB x.f0 = false) ∧ Aside0 (Below w.heap.size w wr)) (fun v _ => l.length - (intOf v).toNat)
  case atStart => exact ⟨0, by omega, rfl, ⟨fun p hp => by simp at hp⟩, ⟨Below.refl _ _⟩⟩
  case round =>
    obtain ⟨j, hj, rfl, HS, HB⟩ := hrel
    by_cases hlt : j < l.length
    · obtain ⟨ad, hAe, hcell⟩ := cells29 HL.out (by omega)
      subst hAe
      obtain ⟨x, hx⟩ : ∃ x, l[j]? = some x := ⟨_, List.getElem?_eq_getElem hlt⟩
      have hcx := hcell j x hx
      have u0 : wr.cell? (ad.add (j * 2)) = some (.int .i64 x.f0) := by rw [HB.out.cell (World.block_lt_of_cell? w _ hcx.1)]; exact hcx.1
      have u1 : wr.cell? ⟨(ad.add (j * 2)).block, (ad.add (j * 2)).off + 1, none⟩ = some (.int .i64 x.f1) := by rw [HB.out.cell (World.block_lt_of_cell? w _ hcx.2)]; exact hcx.2
      have hjl : (j : Int) < (l.length : Int) := by omega
      have HX := Aside0.mk hx
      obtain ⟨a, b⟩ := x
      clear hcell hx hcx
      go_wp2_with fail
      refine (put1_calls a b _).mono ?_
      rintro e w2 ⟨rfl, h2⟩
      have HB2 := Aside0.mk (HB.out.trans (h2.mono HB.out.size))
      clear h2 u0 u1
      cases hob : outB a with
      | true =>
        have HOB := Aside0.mk hob
        clear hob
        go_wp2
        go_ret
        exact ⟨_, rfl, ⟨fun _ => ⟨_, List.mem_of_getElem? HX.out, HOB.out⟩, fun _ => by omega⟩, HB2.out⟩
      | false =>
        have HS2 := Aside0.mk (show ∀ x ∈ l.take (j + 1), outB x.f0 = false from fun p hp => by
          obtain ⟨hj2, he⟩ := List.getElem?_eq_some_iff.1 HX.out
          rw [List.take_succ_eq_append_getElem hj2, he] at hp
          rcases List.mem_append.1 hp with hp | hp
          · exact HS.out p hp
          · rw [List.mem_singleton.1 hp]; exact hob)
        clear hob
        go_wp2_with fail
        go_roundw
        case rel => exact ⟨j + 1, by omega, rfl, HS2, HB2⟩
        case measure => simp [intOf]; omega
    · have hje : j = l.length := by omega
      subst hje
      have hs := HS.out
      rw [List.take_length] at hs
      have HS3 := Aside0.mk hs
      clear hs HS hlt hj
      go_wp2
      go_ret
      exact ⟨_, rfl, ⟨fun h => by omega, fun ⟨x, hx, ho⟩ => by rw [HS3.out x hx] at ho; cases ho⟩, HB.out⟩
set_option maxRecDepth 100000 in
set_option maxHeartbeats 8000000 in
theorem contains_calls (A : Option Addr) (ca : Nat) (l : List S29) (w : World) (h : Kd.C k29 w A l.length l) (hl : l.length ≤ 1000) :
    Calls Try.prog 59 #[.slice A l.length ca, .func (.func 60) #[] #[]] w fun e w' => e = .returned (.bool (l.any fun x => outB x.f0)) ∧ Below w.heap.size w w' := by
  have HX := Aside0.mk (index_calls A ca l w h hl)
  obtain ⟨fb, hfb⟩ : ∃ f, f = (l.any fun x => outB x.f0) := ⟨_, rfl⟩
  rw [← hfb]
  have HF := Aside0.mk hfb
  clear h hfb
  go_enter Try.func59, Try.ntmps59
  go_wp2_with fail
  refine HX.out.mono ?_
  rintro e w2 ⟨r, rfl, hr, h2⟩
  have HB := Aside0.mk h2
  have d1 : decide (r ≥ 0) = fb := by
    rw [HF.out]
    by_cases h : 0 ≤ r
    · rw [decide_eq_true (show r ≥ 0 from h)]
      obtain ⟨x, hx, ho⟩ := hr.1 h
      exact (List.any_eq_true.2 ⟨x, hx, ho⟩).symm
    · rw [decide_eq_false (show ¬ r ≥ 0 from h)]
      symm
      rw [List.any_eq_false]
      intro x hx ho
      exact h (hr.2 ⟨x, hx, ho⟩)
  have d2 : decide (0 ≤ r) = fb := d1
  clear hr h2 HX
  go_wp2
  go_ret
  exact ⟨rfl, HB.out⟩
end
section
set_option maxRecDepth 100000 in
set_option maxHeartbeats 8000000 in
theorem len_calls (p n ca : Nat) (A : Option Addr) (w : World) (hc : w.cell? ⟨p, 0, none⟩ = some (.slice A n ca)) :
    Calls Try.prog 22 #[.pointer (some ⟨p, 0, none⟩)] w fun e w' => e = .returned (.int .i64 (n : Int)) ∧ Below w.heap.size w w' := by
  have hu91 := Try.underlying91
  go_enter Try.func22, Try.ntmps22
  go_wp2
  go_ret
  exact ⟨rfl, Below.refl _ _⟩
end
section
theorem run_copy_rowK {P : Program} (w : World) (dT sT ty elem : TypeId) (size g o dLen dCap : Nat) (a : Addr) (sLen sCap : Nat) (cur : Array Value) (t : TypeId) (cs : List Value)
    (hu : P.underlying dT = some (.slice elem)) (hs : (P.info? elem).map (·.size) = some size)
    (hg : w.heap[g]? = some (.cells cur t (0, 0))) (hn : cs.length = Nat.min sLen dLen * size)
    (hsrc : ∀ j v, cs[j]? = some v → w.cell? (a.add j) = some v) (hfit : o + cs.length ≤ cur.size) (h1 : ∀ v ∈ cs, v.oneCell' = true) :
    (Builtin.copy_ #[dT, sT] ty #[.slice (some ⟨g, o, none⟩) dLen dCap, .slice (some a) sLen sCap]).run P w =
      .ok (goInt (Nat.min sLen dLen)) (w.setRow g (cur.toList.take o ++ cs ++ cur.toList.drop (o + cs.length)).toArray) := by
  have hl := run_loadCells_list (P := P) w a cs hsrc
  have hst := run_storeCells_at P g o t cs 0 cur w hg (by simpa using hfit) h1
  cases hq : P.info? elem with
  | none => simp [hq] at hs
  | some i =>
    have hi : i.size = size := by simpa [hq] using hs
    rw [hn] at hl
    simp [Builtin.copy_, run_underlying hu, Builtin.lenOf, Builtin.firstCells, sizeOf, typeInfo, hq, hi, hl, hst]
end
section
open Go.Shelf Go.Lib
theorem ins_lists (xs cur : List Value) (i n : Nat) (a b : Value) (hx : xs.length = n * 2) (hi : i < n) (hc : (n + 1) * 2 ≤ cur.length) (ht : cur.take (n * 2) = xs) :
    ((((cur.take ((i + 1) * 2) ++ xs.drop (i * 2) ++ cur.drop ((i + 1) * 2 + (xs.drop (i * 2)).length)).take (i * 2) ++ [a, b] ++ (cur.take ((i + 1) * 2) ++ xs.drop (i * 2) ++ cur.drop ((i + 1) * 2 + (xs.drop (i * 2)).length)).drop (i * 2 + 2))).take ((n + 1) * 2)) = xs.take (i * 2) ++ [a, b] ++ xs.drop (i * 2) := by
  have h1 : (xs.drop (i * 2)).length = n * 2 - i * 2 := by rw [List.length_drop, hx]
  have h2 : (cur.take ((i + 1) * 2)).length = (i + 1) * 2 := by rw [List.length_take]; omega
  have e1 : (cur.take ((i + 1) * 2) ++ xs.drop (i * 2) ++ cur.drop ((i + 1) * 2 + (xs.drop (i * 2)).length)).take (i * 2) = xs.take (i * 2) := by
    rw [List.append_assoc, List.take_append_of_le_length (by omega), List.take_take, ← ht, List.take_take, Nat.min_eq_left (by omega), Nat.min_eq_left (by omega)]
  have e2 : (cur.take ((i + 1) * 2) ++ xs.drop (i * 2) ++ cur.drop ((i + 1) * 2 + (xs.drop (i * 2)).length)).drop (i * 2 + 2) = xs.drop (i * 2) ++ cur.drop ((i + 1) * 2 + (xs.drop (i * 2)).length) := by
    rw [List.append_assoc, show i * 2 + 2 = (cur.take ((i + 1) * 2)).length by rw [h2]; omega, List.drop_left]
  rw [e1, e2]
  have h3 : (xs.take (i * 2) ++ [a, b] ++ xs.drop (i * 2)).length = (n + 1) * 2 := by
    simp only [List.length_append, List.length_take, List.length_cons, List.length_nil, h1, hx]
    omega
  rw [← List.append_assoc, ← h3, List.take_left]
theorem ins_lists2 (xs : List Value) (z : List Value) (i n : Nat) (a b : Value) (hx : xs.length = n * 2) (hi : i < n) (hz : (n + 1) * 2 ≤ (xs.take (i * 2) ++ z).length) :
    (((((xs.take (i * 2) ++ z).take (i * 2) ++ [a, b] ++ (xs.take (i * 2) ++ z).drop (i * 2 + 2))).take ((i + 1) * 2) ++ xs.drop (i * 2) ++ (((xs.take (i * 2) ++ z).take (i * 2) ++ [a, b] ++ (xs.take (i * 2) ++ z).drop (i * 2 + 2))).drop ((i + 1) * 2 + (xs.drop (i * 2)).length)).take ((n + 1) * 2)) = xs.take (i * 2) ++ [a, b] ++ xs.drop (i * 2) := by
  have h0 : (xs.take (i * 2)).length = i * 2 := by rw [List.length_take]; omega
  have h1 : (xs.drop (i * 2)).length = n * 2 - i * 2 := by rw [List.length_drop, hx]
  have e0 : (xs.take (i * 2) ++ z).take (i * 2) = xs.take (i * 2) := by exact List.take_left' h0
  rw [e0]
  have h2 : (xs.take (i * 2) ++ [a, b]).length = (i + 1) * 2 := by simp [h0]; omega
  have e1 : (xs.take (i * 2) ++ [a, b] ++ (xs.take (i * 2) ++ z).drop (i * 2 + 2)).take ((i + 1) * 2) = xs.take (i * 2) ++ [a, b] := by rw [← h2, List.take_left]
  rw [e1]
  have h3 : (xs.take (i * 2) ++ [a, b] ++ xs.drop (i * 2)).length = (n + 1) * 2 := by
    simp only [List.length_append, List.length_cons, List.length_nil, h0, h1]
    omega
  rw [← h3, List.take_left]

theorem zc_size (k : Nat) : (Builtin.zeroCells (Value.agg #[.int .i64 0, .int .i64 0]).cells k).size = k * 2 := by
  simp [Builtin.zeroCells, Value.cells]
theorem nmin_l (a b : Nat) (h : a ≤ b) : Nat.min a b = a := Nat.min_eq_left h
theorem spl_len (L cs : List Value) (k : Nat) (h : k + cs.length ≤ L.length) : (L.take k ++ cs ++ L.drop (k + cs.length)).length = L.length := by
  simp only [List.length_append, List.length_take, List.length_drop]
  omega
set_option maxRecDepth 100000 in
set_option maxHeartbeats 16000000 in
theorem insert_grow (B g n nb i : Nat) (xs : List Value) (a b : Int) (w : World) (h : w.ownsRow B 29 2 (.slice (some ⟨g, 0, none⟩) n n) n xs) (hone : ∀ v ∈ xs, v.oneCell' = true) (hB : B ≤ w.heap.size) (hn : n ≤ 1000) (hi : i < n) (h0 : w.cell? ⟨nb, 0, none⟩ = some (.int .i64 a)) (h1 : w.cell? ⟨nb, 1, none⟩ = some (.int .i64 b)) :
    Calls Try.prog 89 #[.slice (some ⟨g, 0, none⟩) n n, .int .i64 (i : Int), .slice (some ⟨nb, 0, none⟩) 1 1] w (IPost B n (xs.take (i * 2) ++ [.int .i64 a, .int .i64 b] ++ xs.drop (i * 2)) (.slice (some ⟨g, 0, none⟩) n n) w) := by
  obtain ⟨i29, hi29, z0, z1, z2⟩ := info_parts info29
  have hxl : xs.length = n * 2 := h.1
  have hcells := h.cells (g := g) rfl
  have hgw : g < w.heap.size := (h.lt g rfl).2
  have hnbw : nb < w.heap.size := block_lt_of_cell h0
  have hold : (Builtin.firstCells i29.size i (.slice (some ⟨g, 0, none⟩) i n)).run Try.prog w.drew = .ok (xs.take (i * 2)).toArray w.drew := by
    rw [z1]
    exact run_firstCells_some w.drew 2 i ⟨g, 0, none⟩ i n (xs.take (i * 2)) (by rw [List.length_take]; omega) (fun j v hj => by
      rw [List.getElem?_take] at hj
      split at hj
      · exact hcells j v hj
      · cases hj)
  have hik : i + (n + 1 - i) = n + 1 := by omega
  have hrz : ∀ ty, (Builtin.append_ #[22, 3] ty #[.slice (some ⟨g, 0, none⟩) i n, .int .i64 ((n : Int) + 1 - (i : Int))]).run Try.prog w =
      .ok (.slice (some ⟨w.heap.size, 0, none⟩) (n + 1) (grownCap w (n + 1) n 29)) (w.drew.alloc (.cells ((xs.take (i * 2)).toArray ++ Builtin.zeroCells (Value.agg #[.int .i64 0, .int .i64 0]).cells (n + 1 - i) ++ Builtin.zeroCells (Value.agg #[.int .i64 0, .int .i64 0]).cells (grownCap w (n + 1) n 29 - (n + 1))) 29)) := fun ty => by
    have h := Lib.run_append_grow_zeros w 22 3 ty 29 i29 _ .i64 .i64 Try.underlying22 Try.underlying3 hi29 z0 (some ⟨g, 0, none⟩) i n (xs.take (i * 2)) hold (n + 1 - i) (by omega) (by omega) (by omega) (by omega) (by rw [z2]; omega) (by rw [z2, hik]; exact growslice_fits (by omega) (by omega))
    rw [hik] at h
    rw [show (n : Int) + 1 - (i : Int) = ((n + 1 - i : Nat) : Int) by omega]
    exact h
  obtain ⟨G, hG⟩ : ∃ G, G = grownCap w (n + 1) n 29 := ⟨_, rfl⟩
  have hGn : n + 1 ≤ G := by rw [hG]; exact grownCap_ge w _ _ _
  have hGm : G ≤ maxLen := by rw [hG]; exact grownCap_le_maxLen w (n + 1) n 29 (by unfold maxLen; omega)
  obtain ⟨Z, hZ⟩ : ∃ Z : List Value, Z = (Builtin.zeroCells (Value.agg #[.int .i64 0, .int .i64 0]).cells (n + 1 - i) ++ Builtin.zeroCells (Value.agg #[.int .i64 0, .int .i64 0]).cells (G - (n + 1))).toList := ⟨_, rfl⟩
  obtain ⟨L0, hL0⟩ : ∃ L0 : List Value, L0 = xs.take (i * 2) ++ Z := ⟨_, rfl⟩
  have hROW : (xs.take (i * 2)).toArray ++ Builtin.zeroCells (Value.agg #[.int .i64 0, .int .i64 0]).cells (n + 1 - i) ++ Builtin.zeroCells (Value.agg #[.int .i64 0, .int .i64 0]).cells (G - (n + 1)) = L0.toArray := by
    apply Array.toList_inj.1
    rw [hL0, hZ]
    simp
  rw [← hG] at hrz
  rw [hROW] at hrz
  have hLl : L0.length = G * 2 := by
    have := congrArg Array.size hROW
    simp only [Array.size_append, zc_size, List.size_toArray, List.length_take] at this
    omega
  obtain ⟨N, hN⟩ : ∃ N, N = w.heap.size := ⟨_, rfl⟩
  rw [← hN] at hrz
  obtain ⟨cs1, hcs1⟩ : ∃ cs : List Value, cs = [.int .i64 a, .int .i64 b] := ⟨_, rfl⟩
  obtain ⟨L1, hL1⟩ : ∃ L1 : List Value, L1 = L0.take (i * 2) ++ cs1 ++ L0.drop (i * 2 + cs1.length) := ⟨_, rfl⟩
  obtain ⟨L2, hL2⟩ : ∃ L2 : List Value, L2 = L1.take ((i + 1) * 2) ++ xs.drop (i * 2) ++ L1.drop ((i + 1) * 2 + (xs.drop (i * 2)).length) := ⟨_, rfl⟩
  have hc1 : cs1.length = 2 := by rw [hcs1]; rfl
  have hdl : (xs.drop (i * 2)).length = (n - i) * 2 := by rw [List.length_drop, hxl]; omega
  have hL1l : L1.length = G * 2 := by rw [hL1, spl_len _ _ _ (by omega)]; exact hLl
  have hL2l : L2.length = G * 2 := by rw [hL2, spl_len _ _ _ (by omega)]; exact hL1l
  have hfin : L2.take ((n + 1) * 2) = xs.take (i * 2) ++ [.int .i64 a, .int .i64 b] ++ xs.drop (i * 2) := by
    have e := ins_lists2 xs Z i n (.int .i64 a) (.int .i64 b) hxl hi (by rw [← hL0, hLl]; omega)
    rw [hL2, hL1, hcs1, hL0]
    exact e
  have hcpA : ∀ (W : World) (p : World), W.heap = (w.alloc (.cells L0.toArray 29)).heap → ∀ ty dc, (Builtin.copy_ #[22, 22] ty #[.slice (some ⟨N, i * 2, none⟩) (n + 1 - i) dc, .slice (some ⟨nb, 0, none⟩) 1 1]).run Try.prog W = .ok (.int .i64 1) (W.setRow N L1.toArray) := fun W _ hW ty dc => by
    have hWn : W.heap[N]? = some (.cells L0.toArray 29 (0, 0)) := by rw [hW, hN]; exact blk_new w _
    have e := run_copy_rowK (P := Try.prog) W 22 22 ty 29 2 N (i * 2) (n + 1 - i) dc ⟨nb, 0, none⟩ 1 1 L0.toArray 29 cs1 Try.underlying22 (by rw [hi29]; simp [z1]) hWn (by rw [hc1, nmin_l _ _ (by omega)])
      (fun j v hj => by
        rw [Addr.add_lit, Nat.zero_add, World.cell?_of_block (a := ⟨nb, j, none⟩) (w := w) (by rw [hW]; exact Below.heap_alloc w _ nb hnbw)]
        rw [hcs1] at hj
        rcases j with _ | _ | j
        · injection hj with hj; subst hj; exact h0
        · injection hj with hj; subst hj; exact h1
        · cases hj)
      (by rw [List.size_toArray]; omega) (by rw [hcs1]; simp [Value.oneCell'])
    rw [show Nat.min 1 (n + 1 - i) = 1 from nmin_l _ _ (by omega)] at e
    rw [e, hL1]
    rfl
  have hcpB : ∀ (W : World), W.heap = ((w.alloc (.cells L0.toArray 29)).setRow N L1.toArray).heap → ∀ ty dc sc, (Builtin.copy_ #[22, 22] ty #[.slice (some ⟨N, (i + 1) * 2, none⟩) (n - i) dc, .slice (some ⟨g, i * 2, none⟩) (n - i) sc]).run Try.prog W = .ok (.int .i64 ((n - i : Nat) : Int)) (W.setRow N L2.toArray) := fun W hW ty dc sc => by
    have hWn : W.heap[N]? = some (.cells L1.toArray 29 (0, 0)) := by rw [hW, hN]; exact setRow_heap _ _ _ _ _ _ (blk_new w _)
    have e := run_copy_rowK (P := Try.prog) W 22 22 ty 29 2 N ((i + 1) * 2) (n - i) dc ⟨g, i * 2, none⟩ (n - i) sc L1.toArray 29 (xs.drop (i * 2)) Try.underlying22 (by rw [hi29]; simp [z1]) hWn (by rw [hdl, nmin_l _ _ (by omega)])
      (fun j v hj => by
        rw [World.cell?_of_block (a := (⟨g, i * 2, none⟩ : Addr).add j) (w := w) (by
          have : ((⟨g, i * 2, none⟩ : Addr).add j).block = g := by unfold Addr.add; split <;> rfl
          rw [this, hW, setRow_other _ _ _ _ (by omega)]
          exact Below.heap_alloc w _ g hgw)]
        rw [List.getElem?_drop] at hj
        have := hcells _ v hj
        rw [Addr.add_lit, Nat.zero_add] at this
        rw [Addr.add_lit]
        exact this)
      (by rw [List.size_toArray]; omega) (fun v hv => hone v (List.mem_of_mem_drop hv))
    rw [show Nat.min (n - i) (n - i) = n - i from nmin_l _ _ (by omega)] at e
    rw [e, hL2]
    rfl
  have HFIN := Aside0.mk hfin
  have HL2 := Aside0.mk hL2l
  have HA := Lib.hid (fun (W : World) hW => hcpA W W hW)
  have HB := Lib.hid hcpB
  have HN := Aside0.mk hN
  have HBB := Aside0.mk hB
  have HGM := Aside0.mk hGm
  have HRZ := Lib.hid hrz
  have hu22 := Try.underlying22
  have hci : ¬ (n = i) := by omega
  have hz2 : ¬ ((i : Int) = (n : Int)) := by omega
  have hz3 : decide ((n : Int) < (n : Int) + 1) = true := decide_eq_true (by omega)
  have hz4 : decide ((n : Int) + 1 > (n : Int)) = true := decide_eq_true (by omega)
  have e2 : ((i : Int) == (n : Int)) = false := beq_eq_false_iff_ne.2 hz2
  have hGi : ¬ (G = i) := by omega
  have hGim : ¬ (G = i + 1) := by omega
  have hG63 : G ≤ 9223372036854775807 := by unfold maxLen at hGm; omega
  clear hcpA hcpB hfin hL2l hL1l hLl hdl hc1 hL2 hL1 hcs1 hROW hL0 hZ hG hold hcells hrz hxl hN hB hGm hone h h0 h1 z0 z1 z2 hi29
  go_enter Try.func89, Try.ntmps89
  have hcA := HA.out (w.alloc (.cells L0.toArray 29)).drew rfl 3 (G - i)
  have hcB := HB.out ((w.alloc (.cells L0.toArray 29)).drew.setRow N L1.toArray).drew rfl 3 (G - (i + 1)) (n - i)
  have hw1 : IntKind.i64.wrap ((i : Int) + 1) = (i : Int) + 1 := by rw [IntKind.wrap_i64]; omega
  have hb1 : (0 : Int) ≤ (i : Int) + 1 := by omega
  have htn : ((i : Int) + 1).toNat = i + 1 := by omega
  have hin : i ≤ n := by omega
  go_wp2_with (at_builtin; refine Lib.wpList_append_run _ rfl _ _ _ _ rfl _ _ rfl rfl _ _ (HRZ.out _) ?_)
  clear hcA
  refine start_ (n := 9) (S := fun w' => True) (ds := []) #[false, false, false, false, false, false, false, false, false] (by kernel_rfl) rfl rfl trivial (fun hHeld => ?_)
  refine pure_ (i := 0) (N := some 46) (v := ?_) (a' := ?_) #[true, false, false, false, false, false, false, false, false] rfl rfl (by kernel_rfl) (fun _ _ _ h => h) (Or.inl ⟨by rfl, ?_⟩) ?_ ?_
  rotate_left
  · intro w'
    go_simp
    with_reducible rfl
  rotate_left
  · simp only [Act.put, List.setIfInBounds_toArray, List.set_cons_zero, List.set_cons_succ, i64_w, i32_w]
    rfl
  refine pure_ (i := 1) (N := some 47) (v := ?_) (a' := ?_) #[true, true, false, false, false, false, false, false, false] rfl rfl (by kernel_rfl) (fun _ _ _ h => h) (Or.inl ⟨by rfl, ?_⟩) ?_ ?_
  rotate_left
  · intro w'
    go_simp
    with_reducible rfl
  rotate_left
  · simp only [Act.put, List.setIfInBounds_toArray, List.set_cons_zero, List.set_cons_succ, i64_w, i32_w]
    rfl
  refine pure_ (i := 2) (N := some 48) (v := ?_) (a' := ?_) #[true, true, true, false, false, false, false, false, false] rfl rfl (by kernel_rfl) (fun _ _ _ h => h) (Or.inl ⟨by rfl, ?_⟩) ?_ ?_
  rotate_left
  · intro w'
    go_simp
    with_reducible rfl
  rotate_left
  · simp only [Act.put, List.setIfInBounds_toArray, List.set_cons_zero, List.set_cons_succ, i64_w, i32_w]
    rfl
  refine pure_ (i := 3) (N := some 49) (v := ?_) (a' := ?_) #[true, true, true, true, false, false, false, false, false] rfl rfl (by kernel_rfl) (fun _ _ _ h => h) (Or.inl ⟨by rfl, ?_⟩) ?_ ?_
  rotate_left
  · intro w'
    go_simp
    with_reducible rfl
  rotate_left
  · simp only [Act.put, List.setIfInBounds_toArray, List.set_cons_zero, List.set_cons_succ, i64_w, i32_w]
    rfl
  refine pure_ (i := 4) (N := some 50) (v := ?_) (a' := ?_) #[true, true, true, true, true, false, false, false, false] rfl rfl (by kernel_rfl) (fun _ _ _ h => h) (Or.inl ⟨by rfl, ?_⟩) ?_ ?_
  rotate_left
  · intro w'
    go_simp
    with_reducible rfl
  rotate_left
  · simp only [Act.put, List.setIfInBounds_toArray, List.set_cons_zero, List.set_cons_succ, i64_w, i32_w]
    rfl
  refine pure_ (i := 5) (N := some 51) (v := ?_) (a' := ?_) #[true, true, true, true, true, true, false, false, false] rfl rfl (by kernel_rfl) (fun _ _ _ h => h) (Or.inl ⟨by rfl, ?_⟩) ?_ ?_
  rotate_left
  · intro w'
    go_simp
    with_reducible rfl
  rotate_left
  · simp only [Act.put, List.setIfInBounds_toArray, List.set_cons_zero, List.set_cons_succ, i64_w, i32_w]
    rfl
  refine pure_ (i := 6) (N := some 52) (v := ?_) (a' := ?_) #[true, true, true, true, true, true, true, false, false] rfl rfl (by kernel_rfl) (fun _ _ _ h => h) (Or.inl ⟨by rfl, ?_⟩) ?_ ?_
  rotate_left
  · intro w'
    go_simp
    with_reducible rfl
  rotate_left
  · simp only [Act.put, List.setIfInBounds_toArray, List.set_cons_zero, List.set_cons_succ, i64_w, i32_w]
    rfl
  refine pure_ (i := 7) (N := some 53) (v := ?_) (a' := ?_) #[true, true, true, true, true, true, true, true, false] rfl rfl (by kernel_rfl) (fun _ _ _ h => h) (Or.inl ⟨by rfl, ?_⟩) ?_ ?_
  rotate_left
  · intro w'
    go_simp
    with_reducible rfl
  rotate_left
  · simp only [Act.put, List.setIfInBounds_toArray, List.set_cons_zero, List.set_cons_succ, i64_w, i32_w]
    rfl
  refine one_ (i := 8) (N := some 54) #[true, true, true, true, true, true, true, true, true] rfl rfl (by kernel_rfl) (by decide) (fun K hK => ?_)
  refine value_ (w1 := ?_) (v := ?_) (by rfl) rfl ?_ ?_
  rotate_left 2
  · go_simp
    constructor
    · rfl
    · rfl
  refine hK.out _ _ trivial (fun hHeld => ?_)
  clear hK K
  refine norm_ (a' := ?_) ?_ ?_
  rotate_left
  · show Act.put _ (some 54) _ = _
    simp only [Act.put, List.setIfInBounds_toArray, List.set_cons_zero, List.set_cons_succ, i64_w, i32_w]
    rfl
  refine done_ (by kernel_rfl) ?_
  go_wp2
  go_ret
  refine ⟨_, rfl, ⟨?_, .inr ⟨N, G, L2.toArray, rfl, by rw [HN.out]; exact HBB.out, ?_, hGn, HGM.out, by rw [List.size_toArray]; exact HL2.out, HFIN.out⟩⟩, ⟨rfl, rfl, rfl, by simp, fun k hk _ => ?_⟩⟩
  · rw [← HFIN.out, List.length_take, HL2.out]
    omega
  · exact setRow_heap _ _ _ _ _ _ (setRow_heap _ _ _ _ _ _ (by rw [HN.out]; exact blk_new w _))
  · have hkN : k ≠ N := by rw [HN.out]; omega
    exact (setRow_other _ _ _ _ hkN).trans ((setRow_other _ _ _ _ hkN).trans (Below.heap_alloc w _ k hk))

theorem insert_shift (B g n c nb i : Nat) (xs : List Value) (a b : Int) (w : World) (h : w.ownsRow B 29 2 (.slice (some ⟨g, 0, none⟩) n c) n xs) (hone : ∀ v ∈ xs, v.oneCell' = true) (hB : B ≤ w.heap.size) (hn : n ≤ 1000) (hi : i < n) (hnc : n < c) (hb : w.heap[nb]? = some (.cells #[.int .i64 a, .int .i64 b] 29 (0, 0))) (hne : nb ≠ g) :
    Calls Try.prog 89 #[.slice (some ⟨g, 0, none⟩) n c, .int .i64 (i : Int), .slice (some ⟨nb, 0, none⟩) 1 1] w (IPost B n (xs.take (i * 2) ++ [.int .i64 a, .int .i64 b] ++ xs.drop (i * 2)) (.slice (some ⟨g, 0, none⟩) n c) w) := by
  obtain ⟨i29, hi29, z0, z1, z2⟩ := info_parts info29
  have hxl : xs.length = n * 2 := h.1
  have hcells := h.cells (g := g) rfl
  have hgw : g < w.heap.size := (h.lt g rfl).2
  have hBg : B ≤ g := (h.lt g rfl).1
  obtain ⟨g2, c2, cur, he, hg, hnc2, hcm, hcs, hct⟩ := row_pos h (by omega)
  have he1 : g2 = g ∧ c2 = c := by
    injection he with e1 e2 e3
    injection e1 with e1
    injection e1 with e1
    exact ⟨e1.symm, e3.symm⟩
  obtain ⟨rfl, rfl⟩ := he1
  clear he
  have hsn : w.shape? nb = some (29, 2) := by unfold World.shape?; rw [hb]; rfl
  have hsg : w.shape? g2 = some (29, c2 * 2) := by unfold World.shape?; rw [hg]; show some (29, cur.size) = _; rw [hcs]
  have hfa : ∀ k, w.frozen? ⟨nb, k, none⟩ = false := fun k => blk_frozen hb k
  have hov : ∀ lb cb, (callFunc 92 #[.slice (some ⟨nb, 0, none⟩) 1 1, .slice (some ⟨g2, (i + 1) * 2, none⟩) lb cb]).run Try.prog w = .ok (.value (.bool false)) w := fun lb cb => by
    rw [run_callFunc_extern Try.func92 (by kernel_rfl) (by kernel_rfl) (by kernel_rfl) (e := Extern.SlicesOverlaps.overlaps #[22, 22] #[4]) (by kernel_rfl),
      Lib.run_overlaps_apart w 22 4 29 Try.underlying22 2 (fun W => by simp [sizeOf, typeInfo, hi29, z1]) ⟨nb, 0, none⟩ ⟨g2, (i + 1) * 2, none⟩ 1 1 lb cb hne 29 29 2 (c2 * 2) hsn hsg (by omega) (hfa 0) (hfa 2)]
    rfl
  obtain ⟨L0, hL0⟩ : ∃ L0 : List Value, L0 = cur.toList := ⟨_, rfl⟩
  have hcur : cur = L0.toArray := by rw [hL0]
  have hLl : L0.length = c2 * 2 := by rw [hL0, Array.length_toList]; exact hcs
  obtain ⟨cs1, hcs1⟩ : ∃ cs : List Value, cs = [.int .i64 a, .int .i64 b] := ⟨_, rfl⟩
  have hsrc : ∀ (j : Nat) (v : Value), cs1[j]? = some v → w.cell? ⟨nb, j, none⟩ = some v := fun j v hj => by
    rw [blk_cell hb j]
    rw [hcs1] at hj
    simpa using hj
  obtain ⟨L1, hL1⟩ : ∃ L1 : List Value, L1 = L0.take ((i + 1) * 2) ++ xs.drop (i * 2) ++ L0.drop ((i + 1) * 2 + (xs.drop (i * 2)).length) := ⟨_, rfl⟩
  obtain ⟨L2, hL2⟩ : ∃ L2 : List Value, L2 = L1.take (i * 2) ++ cs1 ++ L1.drop (i * 2 + cs1.length) := ⟨_, rfl⟩
  have hc1 : cs1.length = 2 := by rw [hcs1]; rfl
  have hdl : (xs.drop (i * 2)).length = (n - i) * 2 := by rw [List.length_drop, hxl]; omega
  have hL1l : L1.length = c2 * 2 := by rw [hL1, spl_len _ _ _ (by omega)]; exact hLl
  have hL2l : L2.length = c2 * 2 := by rw [hL2, spl_len _ _ _ (by omega)]; exact hL1l
  have hfin : L2.take ((n + 1) * 2) = xs.take (i * 2) ++ [.int .i64 a, .int .i64 b] ++ xs.drop (i * 2) := by
    have e := ins_lists xs L0 i n (.int .i64 a) (.int .i64 b) hxl hi (by omega) (by rw [hL0]; exact hct)
    rw [hL2, hL1, hcs1]
    exact e
  have hcpA : ∀ (W : World), W.heap = w.heap → ∀ ty dc sc, (Builtin.copy_ #[22, 22] ty #[.slice (some ⟨g2, (i + 1) * 2, none⟩) (n - i) dc, .slice (some ⟨g2, i * 2, none⟩) (n + 1 - i) sc]).run Try.prog W = .ok (.int .i64 ((n - i : Nat) : Int)) (W.setRow g2 L1.toArray) := fun W hW ty dc sc => by
    have hWn : W.heap[g2]? = some (.cells L0.toArray 29 (0, 0)) := by rw [hW, ← hcur]; exact hg
    have e := run_copy_rowK (P := Try.prog) W 22 22 ty 29 2 g2 ((i + 1) * 2) (n - i) dc ⟨g2, i * 2, none⟩ (n + 1 - i) sc L0.toArray 29 (xs.drop (i * 2)) Try.underlying22 (by rw [hi29]; simp [z1]) hWn (by rw [hdl]; show _ = min (n + 1 - i) (n - i) * 2; rw [Nat.min_eq_right (by omega)])
      (fun j v hj => by
        rw [World.cell?_of_block (a := (⟨g2, i * 2, none⟩ : Addr).add j) (w := w) (by rw [hW])]
        rw [List.getElem?_drop] at hj
        have := hcells _ v hj
        rw [Addr.add_lit, Nat.zero_add] at this
        rw [Addr.add_lit]
        exact this)
      (by rw [List.size_toArray]; omega) (fun v hv => hone v (List.mem_of_mem_drop hv))
    rw [show Nat.min (n + 1 - i) (n - i) = n - i from Nat.min_eq_right (by omega)] at e
    rw [e, hL1]
    rfl
  have hcpB : ∀ (W : World), W.heap = (w.setRow g2 L1.toArray).heap → ∀ ty dc, (Builtin.copy_ #[22, 22] ty #[.slice (some ⟨g2, i * 2, none⟩) (n + 1 - i) dc, .slice (some ⟨nb, 0, none⟩) 1 1]).run Try.prog W = .ok (.int .i64 1) (W.setRow g2 L2.toArray) := fun W hW ty dc => by
    have hWn : W.heap[g2]? = some (.cells L1.toArray 29 (0, 0)) := by rw [hW]; exact setRow_heap _ _ _ _ _ _ hg
    have e := run_copy_rowK (P := Try.prog) W 22 22 ty 29 2 g2 (i * 2) (n + 1 - i) dc ⟨nb, 0, none⟩ 1 1 L1.toArray 29 cs1 Try.underlying22 (by rw [hi29]; simp [z1]) hWn (by rw [hc1, nmin_l _ _ (by omega)])
      (fun j v hj => by
        rw [Addr.add_lit, Nat.zero_add, World.cell?_of_block (a := ⟨nb, j, none⟩) (w := w) (by rw [hW]; exact setRow_other _ _ _ _ hne)]
        exact hsrc j v hj)
      (by rw [List.size_toArray]; omega) (by rw [hcs1]; simp [Value.oneCell'])
    rw [show Nat.min 1 (n + 1 - i) = 1 from nmin_l _ _ (by omega)] at e
    rw [e, hL2]
    rfl
  have HFIN := Aside0.mk hfin
  have HL2 := Aside0.mk hL2l
  have HA := Lib.hid hcpA
  have HB := Lib.hid hcpB
  have HBB := Aside0.mk hBg
  have HGM := Aside0.mk hcm
  have HG := Aside0.mk hg
  have hu22 := Try.underlying22
  have hz2 : ¬ ((i : Int) = (n : Int)) := by omega
  have hz3 : ¬ ((c2 : Int) < (n : Int) + 1) := by omega
  have hz4 : ¬ ((n : Int) + 1 > (c2 : Int)) := by omega
  have e2 : ((i : Int) == (n : Int)) = false := beq_eq_false_iff_ne.2 hz2
  have hGi : ¬ (c2 = i) := by omega
  have hGim : ¬ (c2 = i + 1) := by omega
  have hnc3 : n + 1 ≤ c2 := hnc
  have hG63 : c2 ≤ 9223372036854775807 := by unfold maxLen at hcm; omega
  have hcA := HA.out w.drew rfl 3 (c2 - (i + 1)) (c2 - i)
  have hcB := HB.out (w.drew.setRow g2 L1.toArray) rfl 3 (c2 - i)
  have hw1 : IntKind.i64.wrap ((i : Int) + 1) = (i : Int) + 1 := by rw [IntKind.wrap_i64]; omega
  have hb1 : (0 : Int) ≤ (i : Int) + 1 := by omega
  have htn : ((i : Int) + 1).toNat = i + 1 := by omega
  have hinI : (i : Int) ≤ (n : Int) + 1 := by omega
  have hin : i ≤ n := by omega
  clear hcpA hcpB hfin hL2l hL1l hLl hdl hc1 hL2 hL1 hcs1 hL0 hcells hxl hB hcm hone h hsrc z0 z1 z2 hi29 hsn hsg hfa hnc2 hcs hct hcur hg hb hBg
  go_enter Try.func89, Try.ntmps89
  go_wp2_with (simp only [hov])
  refine start_ (n := 9) (S := fun w' => True) (ds := []) #[false, false, false, false, false, false, false, false, false] (by kernel_rfl) rfl rfl trivial (fun hHeld => ?_)
  refine pure_ (i := 0) (N := some 69) (v := ?_) (a' := ?_) #[true, false, false, false, false, false, false, false, false] rfl rfl (by kernel_rfl) (fun _ _ _ h => h) (Or.inl ⟨by rfl, ?_⟩) ?_ ?_
  rotate_left
  · intro w'
    go_simp
    with_reducible rfl
  rotate_left
  · simp only [Act.put, List.setIfInBounds_toArray, List.set_cons_zero, List.set_cons_succ, i64_w, i32_w]
    rfl
  refine pure_ (i := 1) (N := some 70) (v := ?_) (a' := ?_) #[true, true, false, false, false, false, false, false, false] rfl rfl (by kernel_rfl) (fun _ _ _ h => h) (Or.inl ⟨by rfl, ?_⟩) ?_ ?_
  rotate_left
  · intro w'
    go_simp
    with_reducible rfl
  rotate_left
  · simp only [Act.put, List.setIfInBounds_toArray, List.set_cons_zero, List.set_cons_succ, i64_w, i32_w]
    rfl
  refine pure_ (i := 2) (N := some 71) (v := ?_) (a' := ?_) #[true, true, true, false, false, false, false, false, false] rfl rfl (by kernel_rfl) (fun _ _ _ h => h) (Or.inl ⟨by rfl, ?_⟩) ?_ ?_
  rotate_left
  · intro w'
    go_simp
    with_reducible rfl
  rotate_left
  · simp only [Act.put, List.setIfInBounds_toArray, List.set_cons_zero, List.set_cons_succ, i64_w, i32_w]
    rfl
  refine pure_ (i := 3) (N := some 72) (v := ?_) (a' := ?_) #[true, true, true, true, false, false, false, false, false] rfl rfl (by kernel_rfl) (fun _ _ _ h => h) (Or.inl ⟨by rfl, ?_⟩) ?_ ?_
  rotate_left
  · intro w'
    go_simp
    with_reducible rfl
  rotate_left
  · simp only [Act.put, List.setIfInBounds_toArray, List.set_cons_zero, List.set_cons_succ, i64_w, i32_w]
    rfl
  refine pure_ (i := 4) (N := some 73) (v := ?_) (a' := ?_) #[true, true, true, true, true, false, false, false, false] rfl rfl (by kernel_rfl) (fun _ _ _ h => h) (Or.inl ⟨by rfl, ?_⟩) ?_ ?_
  rotate_left
  · intro w'
    go_simp
    with_reducible rfl
  rotate_left
  · simp only [Act.put, List.setIfInBounds_toArray, List.set_cons_zero, List.set_cons_succ, i64_w, i32_w]
    rfl
  refine pure_ (i := 5) (N := some 74) (v := ?_) (a' := ?_) #[true, true, true, true, true, true, false, false, false] rfl rfl (by kernel_rfl) (fun _ _ _ h => h) (Or.inl ⟨by rfl, ?_⟩) ?_ ?_
  rotate_left
  · intro w'
    go_simp
    with_reducible rfl
  rotate_left
  · simp only [Act.put, List.setIfInBounds_toArray, List.set_cons_zero, List.set_cons_succ, i64_w, i32_w]
    rfl
  refine pure_ (i := 6) (N := some 75) (v := ?_) (a' := ?_) #[true, true, true, true, true, true, true, false, false] rfl rfl (by kernel_rfl) (fun _ _ _ h => h) (Or.inl ⟨by rfl, ?_⟩) ?_ ?_
  rotate_left
  · intro w'
    go_simp
    with_reducible rfl
  rotate_left
  · simp only [Act.put, List.setIfInBounds_toArray, List.set_cons_zero, List.set_cons_succ, i64_w, i32_w]
    rfl
  refine pure_ (i := 7) (N := some 76) (v := ?_) (a' := ?_) #[true, true, true, true, true, true, true, true, false] rfl rfl (by kernel_rfl) (fun _ _ _ h => h) (Or.inl ⟨by rfl, ?_⟩) ?_ ?_
  rotate_left
  · intro w'
    go_simp
    with_reducible rfl
  rotate_left
  · simp only [Act.put, List.setIfInBounds_toArray, List.set_cons_zero, List.set_cons_succ, i64_w, i32_w]
    rfl
  refine one_ (i := 8) (N := some 77) #[true, true, true, true, true, true, true, true, true] rfl rfl (by kernel_rfl) (by decide) (fun K hK => ?_)
  refine value_ (w1 := ?_) (v := ?_) (by rfl) rfl ?_ ?_
  rotate_left 2
  · go_simp
    constructor
    · rfl
    · rfl
  refine hK.out _ _ trivial (fun hHeld => ?_)
  clear hK K
  refine norm_ (a' := ?_) ?_ ?_
  rotate_left
  · show Act.put _ (some 77) _ = _
    simp only [Act.put, List.setIfInBounds_toArray, List.set_cons_zero, List.set_cons_succ, i64_w, i32_w]
    rfl
  refine done_ (by kernel_rfl) ?_
  go_wp2
  go_ret
  refine ⟨_, rfl, ⟨?_, .inr ⟨g2, c2, L2.toArray, rfl, HBB.out, ?_, hnc3, HGM.out, by rw [List.size_toArray]; exact HL2.out, HFIN.out⟩⟩, ⟨rfl, rfl, rfl, by simp, fun k hk hkn => ?_⟩⟩
  · rw [← HFIN.out, List.length_take, HL2.out]
    omega
  · exact setRow_heap _ _ _ _ _ _ (setRow_heap _ _ _ _ _ _ HG.out)
  · have hkN : k ≠ g2 := fun e => hkn (by rw [e]; rfl)
    exact (setRow_other _ _ _ _ hkN).trans (setRow_other _ _ _ _ hkN)
end
section
/-- Rising ticks. -/
def Ris (l : List S29) : Prop := l.Pairwise (fun x y => x.f0 < y.f0)
/-- One more, or another value. -/
def putL (l : List S29) (p : S29) : List S29 := l.filter (fun x => decide (x.f0 < p.f0)) ++ p :: l.filter (fun x => decide (p.f0 < x.f0))
def putA (l ps : List S29) : List S29 := ps.foldl putL l
/-- Those in a range. -/
def inR (a b : Int) (l : List S29) : List S29 := l.filter (fun x => decide (a ≤ x.f0) && decide (x.f0 < b))
theorem mem_putL {l : List S29} {p x : S29} : x ∈ putL l p ↔ x = p ∨ (x ∈ l ∧ x.f0 ≠ p.f0) := by
  unfold putL
  simp only [List.mem_append, List.mem_cons, List.mem_filter, decide_eq_true_eq]
  constructor
  · rintro (⟨h, h1⟩ | h | ⟨h, h1⟩)
    · exact .inr ⟨h, by omega⟩
    · exact .inl h
    · exact .inr ⟨h, by omega⟩
  · rintro (h | ⟨h, h1⟩)
    · exact .inr (.inl h)
    · rcases Int.lt_or_gt_of_ne h1 with h2 | h2
      · exact .inl ⟨h, h2⟩
      · exact .inr (.inr ⟨h, h2⟩)
theorem ris_putL {l : List S29} {p : S29} (h : Ris l) : Ris (putL l p) := by
  unfold putL Ris
  rw [List.pairwise_append]
  refine ⟨h.filter _, ?_, ?_⟩
  · rw [List.pairwise_cons]
    exact ⟨fun x hx => by simpa using (List.mem_filter.1 hx).2, h.filter _⟩
  · intro x hx y hy
    have hx2 : x.f0 < p.f0 := by simpa using (List.mem_filter.1 hx).2
    rcases List.mem_cons.1 hy with rfl | hy
    · exact hx2
    · have : p.f0 < y.f0 := by simpa using (List.mem_filter.1 hy).2
      omega
theorem ris_putA {ps l : List S29} (h : Ris l) : Ris (putA l ps) := by
  induction ps generalizing l with
  | nil => exact h
  | cons p r ih => exact ih (ris_putL h)
/-- Rows that rise are the same, if they have the same. -/
theorem ris_ext {l k : List S29} (hl : Ris l) (hk : Ris k) (h : ∀ x, x ∈ l ↔ x ∈ k) : l = k := by
  induction l generalizing k with
  | nil =>
    cases k with
    | nil => rfl
    | cons a r => exact absurd ((h a).2 List.mem_cons_self) (by simp)
  | cons a r ih =>
    cases k with
    | nil => exact absurd ((h a).1 List.mem_cons_self) (by simp)
    | cons b s =>
      have ha := List.pairwise_cons.1 hl
      have hb := List.pairwise_cons.1 hk
      have hab : a = b := by
        rcases List.mem_cons.1 ((h a).1 List.mem_cons_self) with e | e
        · exact e
        · rcases List.mem_cons.1 ((h b).2 List.mem_cons_self) with e2 | e2
          · exact e2.symm
          · have h1 := hb.1 a e
            have h2 := ha.1 b e2
            omega
      subst hab
      rw [ih ha.2 hb.2 fun x => ⟨fun hx => ?_, fun hx => ?_⟩]
      · rcases List.mem_cons.1 ((h x).1 (List.mem_cons_of_mem _ hx)) with e | e
        · subst e; have := ha.1 x hx; omega
        · exact e
      · rcases List.mem_cons.1 ((h x).2 (List.mem_cons_of_mem _ hx)) with e | e
        · subst e; have := hb.1 x hx; omega
        · exact e
theorem filter_split {α : Type} (l : List α) (P : α → Bool) (i : Nat) (h1 : ∀ (j : Nat) (x : α), j < i → l[j]? = some x → P x = true) (h2 : ∀ (j : Nat) (x : α), i ≤ j → l[j]? = some x → P x = false) : l.filter P = l.take i := by
  conv => lhs; rw [← List.take_append_drop i l]
  rw [List.filter_append, List.filter_eq_self.2 fun x hx => ?_, List.filter_eq_nil_iff.2 fun x hx => ?_, List.append_nil]
  · obtain ⟨j, hj⟩ := List.mem_iff_getElem?.1 hx
    rw [List.getElem?_drop] at hj
    rw [h2 _ x (by omega) hj]
    simp
  · obtain ⟨j, hj⟩ := List.mem_iff_getElem?.1 hx
    rw [List.getElem?_take] at hj
    split at hj
    · exact h1 j x ‹_› hj
    · cases hj
theorem filter_split2 {α : Type} (l : List α) (P : α → Bool) (i : Nat) (h1 : ∀ (j : Nat) (x : α), j < i → l[j]? = some x → P x = false) (h2 : ∀ (j : Nat) (x : α), i ≤ j → l[j]? = some x → P x = true) : l.filter P = l.drop i := by
  conv => lhs; rw [← List.take_append_drop i l]
  rw [List.filter_append, List.filter_eq_nil_iff.2 fun x hx => ?_, List.filter_eq_self.2 fun x hx => ?_, List.nil_append]
  · obtain ⟨j, hj⟩ := List.mem_iff_getElem?.1 hx
    rw [List.getElem?_drop] at hj
    exact h2 _ x (by omega) hj
  · obtain ⟨j, hj⟩ := List.mem_iff_getElem?.1 hx
    rw [List.getElem?_take] at hj
    split at hj
    · rw [h1 j x ‹_› hj]; simp
    · cases hj
theorem ris_get {l : List S29} (hp : Ris l) : ∀ (i j : Nat) (x y : S29), i < j → l[i]? = some x → l[j]? = some y → x.f0 < y.f0 := fun i j x y hij hx hy => by
  obtain ⟨hi, e1⟩ := List.getElem?_eq_some_iff.1 hx
  obtain ⟨hj, e2⟩ := List.getElem?_eq_some_iff.1 hy
  have := List.pairwise_iff_getElem.1 hp i j hi hj hij
  rw [e1, e2] at this
  exact this
theorem putL_new {l : List S29} {p : S29} {i : Nat} (h : IsPos l p.f0 i) (hn : (l[i]?).map S29.f0 ≠ some p.f0) (hr : Ris l) : putL l p = l.take i ++ p :: l.drop i := by
  unfold putL
  rw [filter_split l _ i (fun j x hj hx => by have := h.2.1 j x hj hx; simpa using this) (fun j x hj hx => by have := h.2.2 j x hj hx; simpa using this),
    filter_split2 l _ i (fun j x hj hx => by have := h.2.1 j x hj hx; simp; omega) (fun j x hj hx => by
      have h1 := h.2.2 j x hj hx
      rcases Nat.lt_or_ge i j with h2 | h2
      · obtain ⟨y, hy⟩ : ∃ y, l[i]? = some y := ⟨_, List.getElem?_eq_getElem (by have := (List.getElem?_eq_some_iff.1 hx).1; omega)⟩
        have h3 := ris_get hr i j y x h2 hy hx
        have h4 := h.2.2 i y (Nat.le_refl _) hy
        simp; omega
      · have e : j = i := by omega
        subst e
        rw [hx] at hn
        simp at hn ⊢
        omega)]
theorem putL_old {l : List S29} {p : S29} {i : Nat} (h : IsPos l p.f0 i) (hn : (l[i]?).map S29.f0 = some p.f0) (hr : Ris l) : putL l p = l.set i p := by
  obtain ⟨y, hy, hy0⟩ := Option.map_eq_some_iff.1 hn
  have hi := (List.getElem?_eq_some_iff.1 hy).1
  unfold putL
  rw [filter_split l _ i (fun j x hj hx => by have := h.2.1 j x hj hx; simpa using this) (fun j x hj hx => by have := h.2.2 j x hj hx; simpa using this),
    filter_split2 l _ (i + 1) (fun j x hj hx => by
      rcases Nat.lt_or_ge j i with h2 | h2
      · have := h.2.1 j x h2 hx; simp; omega
      · have e : j = i := by omega
        subst e
        rw [hy] at hx
        injection hx with hx
        subst hx
        simp; omega) (fun j x hj hx => by
        have h3 := ris_get hr i j y x (by omega) hy hx
        simp; omega)]
  rw [List.set_eq_take_append_cons_drop, if_pos hi]
theorem putL_len {l : List S29} {p : S29} {i : Nat} (h : IsPos l p.f0 i) (hr : Ris l) : (putL l p).length = l.length + (if (l[i]?).map S29.f0 = some p.f0 then 0 else 1) := by
  have hi := h.1
  split
  · rw [putL_old h ‹_› hr, List.length_set, Nat.add_zero]
  · rw [putL_new h ‹_› hr]
    simp only [List.length_append, List.length_take, List.length_cons, List.length_drop]
    omega
theorem inR_split {l : List S29} {a b : Int} {i k : Nat} (hi : IsPos l a i) (hk : IsPos l b k) (hab : a < b) : inR a b l = (l.drop i).take (k - i) := by
  have hik := pos_le hab hi hk
  unfold inR
  rw [show (fun x : S29 => decide (a ≤ x.f0) && decide (x.f0 < b)) = fun x => (fun x : S29 => decide (x.f0 < b)) x && (fun x : S29 => decide (a ≤ x.f0)) x from by funext x; exact Bool.and_comm _ _, ← List.filter_filter,
    filter_split2 l (fun x => decide (a ≤ x.f0)) i (fun j x hj hx => by have := hi.2.1 j x hj hx; simp; omega) (fun j x hj hx => by have := hi.2.2 j x hj hx; simp; omega)]
  exact filter_split (l.drop i) _ (k - i) (fun j x hj hx => by
    rw [List.getElem?_drop] at hx
    have := hk.2.1 _ x (by omega) hx
    simp; omega) (fun j x hj hx => by
    rw [List.getElem?_drop] at hx
    have := hk.2.2 _ x (by omega) hx
    simp; omega)
theorem ris_pos {l : List S29} {v : Int} {i k : Nat} (hi : IsPos l v i) (hk : IsPos l v k) : i = k := by
  refine Classical.byContradiction fun hc => ?_
  have key : ∀ {i k : Nat}, IsPos l v i → IsPos l v k → i < k → False := fun {i k} hi hk hlt => by
    obtain ⟨x, hx⟩ : ∃ x, l[i]? = some x := ⟨_, List.getElem?_eq_getElem (by have := hk.1; omega)⟩
    have h1 := hi.2.2 i x (Nat.le_refl _) hx
    have h2 := hk.2.1 i x hlt hx
    omega
  rcases Nat.lt_or_gt_of_ne hc with h | h
  · exact key hi hk h
  · exact key hk hi h
end
section
theorem one_cells (l : List S29) : ∀ v ∈ l.flatMap cellsP, v.oneCell' = true := by
  intro v hv
  obtain ⟨x, _, hx⟩ := List.mem_flatMap.1 hv
  simp only [List.mem_cons, List.not_mem_nil, or_false] at hx
  rcases hx with rfl | rfl <;> rfl
theorem flat_take (l : List S29) (i : Nat) : (l.flatMap cellsP).take (i * 2) = (l.take i).flatMap cellsP := by
  induction l generalizing i with
  | nil => simp
  | cons a r ih =>
    cases i with
    | zero => simp
    | succ i =>
      rw [List.take_succ_cons, List.flatMap_cons, List.flatMap_cons, ← ih, show (i + 1) * 2 = (cellsP a).length + i * 2 by simp; omega, List.take_length_add_append]
theorem flat_drop (l : List S29) (i : Nat) : (l.flatMap cellsP).drop (i * 2) = (l.drop i).flatMap cellsP := by
  induction l generalizing i with
  | nil => simp
  | cons a r ih =>
    cases i with
    | zero => simp
    | succ i =>
      rw [List.drop_succ_cons, List.flatMap_cons, ← ih, show (i + 1) * 2 = (cellsP a).length + i * 2 by simp; omega, List.drop_length_add_append]
/-- What with leaves: a row of the call's own, of these. -/
def RowPost (B : Nat) (l : List S29) (v : Value) (w : World) (e : Ending) (w' : World) : Prop := ∃ v', e = .returned v' ∧ w'.ownsRow B 29 2 v' l.length (l.flatMap cellsP) ∧ w.grownBy w' v.ownBlock
theorem ins_any (B nb i : Nat) (v : Value) (l : List S29) (p : S29) (w : World) (h : w.ownsRow B 29 2 v l.length (l.flatMap cellsP)) (hB : B ≤ w.heap.size) (hn : l.length ≤ 1000) (hi : i ≤ l.length) (hb : w.heap[nb]? = some (.cells #[.int .i64 p.f0, .int .i64 p.f1] 29 (0, 0))) (hne : v.ownBlock ≠ some nb) :
    Calls Try.prog 89 #[v, .int .i64 (i : Int), .slice (some ⟨nb, 0, none⟩) 1 1] w (RowPost B (l.take i ++ p :: l.drop i) v w) := by
  have hlen : (l.take i ++ p :: l.drop i).length = l.length + 1 := by
    simp only [List.length_append, List.length_take, List.length_cons, List.length_drop]
    omega
  have hcells : (l.take i ++ p :: l.drop i).flatMap cellsP = (l.flatMap cellsP).take (i * 2) ++ [.int .i64 p.f0, .int .i64 p.f1] ++ (l.flatMap cellsP).drop (i * 2) := by
    rw [flat_take, flat_drop, List.flatMap_append, List.flatMap_cons, List.append_assoc]
  have key : ∀ e w', IPost B l.length ((l.flatMap cellsP).take (i * 2) ++ [.int .i64 p.f0, .int .i64 p.f1] ++ (l.flatMap cellsP).drop (i * 2)) v w e w' → RowPost B (l.take i ++ p :: l.drop i) v w e w' := by
    rintro e w' ⟨v', rfl, ho, hg⟩
    exact ⟨v', rfl, by rw [hlen, hcells]; exact ho, hg⟩
  have h0 : w.cell? ⟨nb, 0, none⟩ = some (.int .i64 p.f0) := blk_cell hb 0
  have h1 : w.cell? ⟨nb, 1, none⟩ = some (.int .i64 p.f1) := blk_cell hb 1
  obtain ⟨A, c, rfl⟩ := row_form h
  rcases Nat.lt_or_ge i l.length with hlt | hge
  · obtain ⟨g, c2, cur, he, hg, hnc, _⟩ := row_pos h (by omega)
    injection he with e1 e2 e3
    subst e1
    subst e3
    rcases Nat.lt_or_ge l.length c with hc | hc
    · exact (insert_shift B g l.length c nb i _ p.f0 p.f1 w h (one_cells l) hB hn hlt hc hb (fun e => hne (by rw [e]; rfl))).mono key
    · have e : c = l.length := by omega
      subst e
      exact (insert_grow B g l.length nb i _ p.f0 p.f1 w h (one_cells l) hB hn hlt h0 h1).mono key
  · have e : i = l.length := by omega
    subst e
    refine (insert_end B l.length c nb A _ p.f0 p.f1 w h hB hn h0 h1).mono ?_
    intro e w' hh
    apply key
    rw [← flat_len l, List.take_length, List.drop_length, List.append_nil]
    exact hh
theorem flat_set (l : List S29) (i : Nat) (p : S29) (hi : i < l.length) : ((l.flatMap cellsP).set (i * 2) (.int .i64 p.f0)).set (i * 2 + 1) (.int .i64 p.f1) = (l.set i p).flatMap cellsP := by
  induction l generalizing i with
  | nil => simp at hi
  | cons a r ih =>
    cases i with
    | zero => rfl
    | succ i =>
      rw [List.set_cons_succ, List.flatMap_cons, List.flatMap_cons, ← ih i (by simpa using hi)]
      rw [show (i + 1) * 2 = (i * 2 + 1) + 1 by omega]
      rfl
set_option maxRecDepth 100000 in
set_option maxHeartbeats 16000000 in
theorem with_calls (B : Nat) (v : Value) (l : List S29) (p : S29) (w : World) (h : w.ownsRow B 29 2 v l.length (l.flatMap cellsP)) (hB : B ≤ w.heap.size) (hn : l.length ≤ 1000) (hr : Ris l) :
    Calls Try.prog 80 #[v, .agg #[.int .i64 p.f0, .int .i64 p.f1]] w (RowPost B (putL l p) v w) := by
  obtain ⟨A, c, rfl⟩ := row_form h
  obtain ⟨W, hW⟩ : ∃ W, W = w.alloc (.cells #[.int .i64 p.f0, .int .i64 p.f1] 29) := ⟨_, rfl⟩
  obtain ⟨Q, hQ⟩ : ∃ Q, Q = w.heap.size := ⟨_, rfl⟩
  have hWo : W.ownsRow B 29 2 (.slice A l.length c) l.length (l.flatMap cellsP) := by rw [hW]; exact h.alloc _
  have hWq : W.heap[Q]? = some (.cells #[.int .i64 p.f0, .int .i64 p.f1] 29 (0, 0)) := by rw [hW, hQ]; exact blk_new w _
  have hWs : W.heap.size = Q + 1 := by rw [hW, hQ]; simp
  have hWb : Below w.heap.size w W := by rw [hW]; exact (Below.refl _ _).alloc (Nat.le_refl _) _
  have hF := find_calls A c l p.f0 hr W (kdC_of hWo hn).1 hn
  have HF := Aside0.mk hF
  have HO := Aside0.mk hWo
  have HQ := Aside0.mk hWq
  have HB0 := Aside0.mk hWb
  have HS := Aside0.mk hWs
  have HBB := Aside0.mk hB
  have HR := Aside0.mk hr
  have q0 : W.cell? ⟨Q, 0, none⟩ = some (.int .i64 p.f0) := blk_cell hWq 0
  have q1 : W.cell? ⟨Q, 1, none⟩ = some (.int .i64 p.f1) := blk_cell hWq 1
  have hu29 := Try.underlying29
  have hu22 := Try.underlying22
  have HNE := Aside0.mk (show (Value.slice A l.length c).ownBlock ≠ some Q from fun e => by have := (h.lt Q e).2; omega)
  have HQW := Aside0.mk hQ
  clear hF hWo hWq hWb hWs hB hr h
  go_enter Try.func80, Try.ntmps80
  go_upto_region 1 with (fail)
  rw [← hW, ← hQ]
  clear hW hQ
  go_wp2_with fail
  refine HF.out.mono ?_
  rintro e w2 ⟨i, hi, rfl, h2⟩
  have HI := Aside0.mk hi
  obtain ⟨fb, hfb⟩ : ∃ b, b = decide ((l[i]?).map S29.f0 = some p.f0) := ⟨_, rfl⟩
  rw [← hfb]
  have HFB := Aside0.mk hfb
  have HO2 := Aside0.mk (show w2.ownsRow B 29 2 (.slice A l.length c) l.length (l.flatMap cellsP) from own_kept HO.out fun b hb => h2.block b (HO.out.lt b hb).2)
  have HQ2 := Aside0.mk (show w2.heap[Q]? = some (.cells #[.int .i64 p.f0, .int .i64 p.f1] 29 (0, 0)) from (h2.block Q (by rw [HS.out]; omega)).trans HQ.out)
  have HB2 := Aside0.mk (HB0.out.trans (h2.mono HB0.out.size))
  have k0 : w2.cell? ⟨Q, 0, none⟩ = some (.int .i64 p.f0) := blk_cell HQ2.out 0
  have k1 : w2.cell? ⟨Q, 1, none⟩ = some (.int .i64 p.f1) := blk_cell HQ2.out 1
  clear hi hfb h2 HF q0 q1
  cases fb with
  | true =>
    have hil : i < l.length := by
      have := HFB.out.symm
      rw [decide_eq_true_eq] at this
      obtain ⟨y, hy, _⟩ := Option.map_eq_some_iff.1 this
      exact (List.getElem?_eq_some_iff.1 hy).1
    have hilI : (i : Int) < (l.length : Int) := by omega
    obtain ⟨g, c2, cur, he, hg, hnc, hcm, hcs, hct⟩ := row_pos HO2.out (by omega)
    have he1 : A = some ⟨g, 0, none⟩ ∧ c = c2 := by
      injection he with e1 e2 e3
      exact ⟨e1, e3⟩
    obtain ⟨rfl, rfl⟩ := he1
    have HG := Aside0.mk hg
    have x0 : w2.frozen? ⟨g, i * 2, none⟩ = false := blk_frozen hg _
    have hg1 : (w2.setCell ⟨g, i * 2, none⟩ (.int .i64 p.f0)).heap[g]? = some (.cells (cur.setIfInBounds (i * 2) (.int .i64 p.f0)) 29 (0, 0)) := blk_set hg _ _
    have x1 : (w2.setCell ⟨g, i * 2, none⟩ (.int .i64 p.f0)).frozen? ⟨g, i * 2 + 1, none⟩ = false := blk_frozen hg1 _
    obtain ⟨z0, y0⟩ : ∃ z0, w2.cell? ⟨g, i * 2, none⟩ = some z0 := by rw [blk_cell hg, Array.getElem?_eq_getElem (by omega)]; exact ⟨_, rfl⟩
    obtain ⟨z1, y1⟩ : ∃ z1, (w2.setCell ⟨g, i * 2, none⟩ (.int .i64 p.f0)).cell? ⟨g, i * 2 + 1, none⟩ = some z1 := by rw [blk_cell hg1, Array.getElem?_eq_getElem (by rw [Array.size_setIfInBounds]; omega)]; exact ⟨_, rfl⟩
    clear he hg hg1 hnc hcm hcs hct
    go_wp2
    go_ret
    refine ⟨_, rfl, ?_, ?_⟩
    · have e1 : putL l p = l.set i p := putL_old HI.out (by have := HFB.out.symm; rw [decide_eq_true_eq] at this; exact this) HR.out
      rw [e1, List.length_set, ← flat_set l i p hil]
      exact ((HO2.out.stored (i * 2) (.int .i64 p.f0)).1.stored (i * 2 + 1) (.int .i64 p.f1)).1
    · have hgw := (HO2.out.lt g rfl).2
      exact ⟨HB2.out.os, HB2.out.tape, HB2.out.output, by have := HB2.out.size; simpa [World.setCell] using this, fun k hk hkn => (Below.heap_setCell _ _ _ k (fun e => hkn (by rw [e]; rfl))).trans ((Below.heap_setCell _ _ _ k (fun e => hkn (by rw [e]; rfl))).trans (HB2.out.block k hk))⟩
  | false =>
    obtain ⟨W3, hW3⟩ : ∃ W3, W3 = w2.alloc (.cells #[.int .i64 p.f0, .int .i64 p.f1] 29) := ⟨_, rfl⟩
    obtain ⟨N, hN⟩ : ∃ N, N = w2.heap.size := ⟨_, rfl⟩
    have hne2 : (Value.slice A l.length c).ownBlock ≠ some N := fun e => by have := (HO2.out.lt N e).2; omega
    have hI := ins_any B N i (.slice A l.length c) l p W3 (by rw [hW3]; exact HO2.out.alloc _) (by rw [hW3]; have := HB2.out.size; have := HBB.out; simp; omega) hn HI.out.1 (by rw [hW3, hN]; exact blk_new w2 _) hne2
    have HINS := Aside0.mk hI
    have HB3 := Aside0.mk (show Below w.heap.size w W3 by rw [hW3]; exact HB2.out.alloc HB2.out.size _)
    clear hI hne2
    go_wp2_with fail
    rw [← hW3, ← hN]
    refine HINS.out.mono ?_
    rintro e w4 ⟨v', rfl, ho, hg⟩
    have HO4 := Aside0.mk ho
    have HG4 := Aside0.mk hg
    clear ho hg hW3 hN
    go_wp2
    go_ret
    refine ⟨_, rfl, ?_, ?_⟩
    · rw [putL_new HI.out (by have := HFB.out.symm; rw [decide_eq_false_iff_not] at this; exact this) HR.out]
      exact HO4.out
    · have hs := HB3.out.size
      exact ⟨HG4.out.os.trans HB3.out.os, HG4.out.tape.trans HB3.out.tape, HG4.out.output.trans HB3.out.output, Nat.le_trans hs HG4.out.size, fun k hk hkn => (HG4.out.block k (by omega) hkn).trans (HB3.out.block k hk)⟩
end
section
/-- A series at p: its points, in a row of its own; all of it lies in the blocks F. -/
structure IsSer (F : Nat → Prop) (p : Nat) (l : List S29) (w : World) : Prop where
  ris : Ris l
  len : l.length ≤ 256
  own : F p
  row : ∃ v, w.heap[p]? = some (.cells #[v] 91 (0, 0)) ∧ w.ownsRow 0 29 2 v l.length (l.flatMap cellsP) ∧ ∀ g, v.ownBlock = some g → F g
theorem putA_snoc (l ps : List S29) (p : S29) : putA l (ps ++ [p]) = putL (putA l ps) p := by unfold putA; rw [List.foldl_append]; rfl
theorem putL_le (l : List S29) (p : S29) : (putL l p).length ≤ l.length + 1 := by
  unfold putL
  have h : ∀ (k : List S29) (P Q : S29 → Bool), (∀ x, P x = true → Q x = false) → (k.filter P).length + (k.filter Q).length ≤ k.length := by
    intro k P Q h
    induction k with
    | nil => simp
    | cons a r ih =>
      rw [List.filter_cons, List.filter_cons]
      cases hp : P a with
      | true => rw [h a hp]; simp; omega
      | false => cases Q a <;> simp <;> omega
  have := h l (fun x => decide (x.f0 < p.f0)) (fun x => decide (p.f0 < x.f0)) (fun x hx => by simp at hx ⊢; omega)
  simp only [List.length_append, List.length_cons]
  omega
theorem putA_le (ps l : List S29) : (putA l ps).length ≤ l.length + ps.length := by
  induction ps generalizing l with
  | nil => exact Nat.le_refl _
  | cons p r ih =>
    have h1 := ih (putL l p)
    have h2 := putL_le l p
    show (putA (putL l p) r).length ≤ _
    rw [List.length_cons]
    omega
/-- What joined leaves: a new row. -/
def NewPost (l : List S29) (w : World) (e : Ending) (w' : World) : Prop := ∃ v', e = .returned v' ∧ w'.ownsRow w.heap.size 29 2 v' l.length (l.flatMap cellsP) ∧ Below w.heap.size w w'
set_option maxRecDepth 100000 in
set_option maxHeartbeats 16000000 in
theorem joined_calls (p : Nat) (v : Value) (l ps : List S29) (A : Option Addr) (ca : Nat) (w : World) (hp : w.heap[p]? = some (.cells #[v] 91 (0, 0))) (ho : w.ownsRow 0 29 2 v l.length (l.flatMap cellsP)) (hr : Ris l) (hl : l.length ≤ 256) (hC : Kd.C k29 w A ps.length ps) (hps : ps.length ≤ 256) :
    Calls Try.prog 61 #[.pointer (some ⟨p, 0, none⟩), .slice A ps.length ca] w (NewPost (putA l ps) w) := by
  obtain ⟨As, cs, rfl⟩ := row_form ho
  have hKd := kdC_of ho (by omega)
  have hcl := clone_calls As cs l w hKd.1 (by omega) (fun e => by
    rcases ho.2 with ⟨e1, e2⟩ | ⟨g, c2, cur, e1, _⟩
    · injection e1
    · rw [e] at e1; injection e1 with e1; cases e1)
  have HCL := Aside0.mk hcl
  have HC := Aside0.mk hC
  have HR := Aside0.mk hr
  have q0 : w.cell? ⟨p, 0, none⟩ = some (.slice As l.length cs) := blk_cell hp 0
  have hu91 := Try.underlying91
  have hu29 := Try.underlying29
  clear hcl hC hr hp ho hKd
  go_enter Try.func61, Try.ntmps61
  go_wp2_with fail
  refine HCL.out.mono ?_
  rintro e w1 ⟨v1, rfl, ho1, h1⟩
  have HO1 := Aside0.mk ho1
  have HB1 := Aside0.mk h1
  clear HCL ho1 h1
  go_wp2_with fail
  go_loopw [5, 15] (fun v5 v15 wr => ∃ (j : Nat) (vr : Value), j ≤ ps.length ∧ v5 = vr ∧ v15 = .int .i64 (j : Int) ∧ Aside0 (wr.ownsRow w.heap.size 29 2 vr (putA l (ps.take j)).length ((putA l (ps.take j)).flatMap cellsP)) ∧ Aside0 (Below w.heap.size w wr)) (fun _ v _ => ps.length - (intOf v).toNat)
  case atStart => exact ⟨0, _, by omega, rfl, rfl, HO1, HB1⟩
  case round =>
    clear HO1 HB1
    obtain ⟨j, vr, hj, hv5, rfl, HO, HB⟩ := hrel
    obtain rfl := hv5.symm
    by_cases hlt : j < ps.length
    · obtain ⟨ad, hAe, hcell⟩ := cells29 HC.out (by omega)
      subst hAe
      obtain ⟨x, hx⟩ : ∃ x, ps[j]? = some x := ⟨_, List.getElem?_eq_getElem hlt⟩
      have hcx := hcell j x hx
      have u0 : wr.cell? (ad.add (j * 2)) = some (.int .i64 x.f0) := by rw [HB.out.cell (World.block_lt_of_cell? w _ hcx.1)]; exact hcx.1
      have u1 : wr.cell? ⟨(ad.add (j * 2)).block, (ad.add (j * 2)).off + 1, none⟩ = some (.int .i64 x.f1) := by rw [HB.out.cell (World.block_lt_of_cell? w _ hcx.2)]; exact hcx.2
      have hjl : (j : Int) < (ps.length : Int) := by omega
      have hle := putA_le (ps.take j) l
      rw [List.length_take] at hle
      obtain ⟨W, hW⟩ : ∃ W, W = wr.alloc (.cells #[.int .i64 x.f0, .int .i64 x.f1] 29) := ⟨_, rfl⟩
      have HW2 := Aside0.mk (with_calls w.heap.size vr (putA l (ps.take j)) x W (by rw [hW]; exact HO.out.alloc _) (by rw [hW]; have := HB.out.size; simp; omega) (by omega) (ris_putA HR.out))
      have HBW := Aside0.mk (show Below w.heap.size w W by rw [hW]; exact HB.out.alloc HB.out.size _)
      have HVW := Aside0.mk (show ∀ g, vr.ownBlock = some g → w.heap.size ≤ g from fun g hg => (HO.out.lt g hg).1)
      have HTAKE := Aside0.mk (show putA l (ps.take (j + 1)) = putL (putA l (ps.take j)) x by
        obtain ⟨hj2, he⟩ := List.getElem?_eq_some_iff.1 hx
        rw [List.take_succ_eq_append_getElem hj2, he, putA_snoc])
      clear hcell hx hcx HO HB hle
      go_wp2_with fail
      rw [← hW]
      refine HW2.out.mono ?_
      rintro e w2 ⟨v', rfl, ho2, hg2⟩
      have HO2 := Aside0.mk (show w2.ownsRow w.heap.size 29 2 v' (putA l (ps.take (j + 1))).length ((putA l (ps.take (j + 1))).flatMap cellsP) by rw [HTAKE.out]; exact ho2)
      have HB2 := Aside0.mk (HBW.out.grown hg2 HBW.out.size HVW.out)
      clear ho2 hg2 hW HW2 HTAKE
      go_wp2_with fail
      go_roundw
      case rel => exact ⟨j + 1, _, by omega, rfl, rfl, HO2, HB2⟩
      case measure => simp [intOf]; omega
    · have hje : j = ps.length := by omega
      subst hje
      have HO2 := HO.out
      rw [List.take_length] at HO2
      have HO3 := Aside0.mk HO2
      clear HO2 HO hlt hj
      go_wp2
      go_ret
      exact ⟨_, rfl, HO3.out, HB.out⟩
/-- What Put makes of a series, and answers. -/
def putS (l ps : List S29) : List S29 × Int × Int := if (ps.any fun x => outB x.f0) = true then (l, 0, 3) else if 256 < (putA l ps).length then (l, 0, 6) else (putA l ps, ((putA l ps).length : Int) - (l.length : Int), 0)
/-- What was there, and what has come. -/
def More (F : Nat → Prop) (w w' : World) : Nat → Prop := fun b => F b ∨ (w.heap.size ≤ b ∧ b < w'.heap.size)
theorem IsSer.keep {F S : Nat → Prop} {p : Nat} {l : List S29} {w w' : World} (h : IsSer F p l w) (hk : Keep S w w') (hS : ∀ b, F b → ¬ S b) : IsSer F p l w' := by
  obtain ⟨v, h1, h2, h3⟩ := h.row
  exact ⟨h.ris, h.len, h.own, v, hk.blk h1 (hS p h.own), hk.row h2 (fun g hg => hS g (h3 g hg)), h3⟩
theorem IsSer.mono {F G : Nat → Prop} {p : Nat} {l : List S29} {w : World} (h : IsSer F p l w) (hG : ∀ b, F b → G b) : IsSer G p l w := by
  obtain ⟨v, h1, h2, h3⟩ := h.row
  exact ⟨h.ris, h.len, hG _ h.own, v, h1, h2, fun g hg => hG g (h3 g hg)⟩
theorem IsSer.below {F : Nat → Prop} {p : Nat} {l : List S29} {w w' : World} (h : IsSer F p l w) (hk : Below w.heap.size w w') : IsSer F p l w' := by
  obtain ⟨v, h1, h2, h3⟩ := h.row
  exact ⟨h.ris, h.len, h.own, v, (hk.block p (blk_lt h1)).trans h1, own_kept h2 fun b hb => hk.block b (h2.lt b hb).2, h3⟩
def PutPost (F : Nat → Prop) (p : Nat) (l ps : List S29) (w : World) (e : Ending) (w' : World) : Prop :=
  e = .returned (.tuple #[.int .i64 (putS l ps).2.1, .int .i64 (putS l ps).2.2]) ∧ IsSer (More F w w') p (putS l ps).1 w' ∧ Keep (fun b => b = p) w w'
theorem put_nil (v : Value) (w : World) : Calls Try.prog 19 #[.pointer none, v] w fun e w' => e = .returned (.tuple #[.int .i64 0, .int .i64 1]) ∧ w = w' := by
  have hn : ∀ W, (binOp .eql 35 (.pointer none) (.pointer none)).run Try.prog W = .ok (.bool true) W := fun W => by go_simp
  go_enter Try.func19, Try.ntmps19
  go_wp2
  go_ret2
  exact ⟨rfl, rfl⟩
set_option maxRecDepth 100000 in
set_option maxHeartbeats 16000000 in
theorem put_calls (F : Nat → Prop) (p : Nat) (l ps : List S29) (A : Option Addr) (ca : Nat) (w : World) (hS : IsSer F p l w) (hC : Kd.C k29 w A ps.length ps) (hps : ps.length ≤ 256) :
    Calls Try.prog 19 #[.pointer (some ⟨p, 0, none⟩), .slice A ps.length ca] w (PutPost F p l ps w) := by
  obtain ⟨v, hp, ho, hv⟩ := hS.row
  have HCF := Aside0.mk (contains_calls A ca ps w hC (by omega))
  have HJ := Lib.hid (fun W (hb : Below w.heap.size w W) => joined_calls p v l ps A ca W ((hb.block p (blk_lt hp)).trans hp) (own_kept ho fun b hb2 => hb.block b (ho.lt b hb2).2) hS.ris hS.len (Kd.C_below hC hb) hps)
  obtain ⟨As, cs, rfl⟩ := row_form ho
  have HS := Aside0.mk hS
  have HP := Aside0.mk hp
  have hle := putA_le ps l
  have hl := hS.len
  have hu91 := Try.underlying91
  have hn : ∀ W, (binOp .eql 35 (.pointer (some ⟨p, 0, none⟩)) (.pointer none)).run Try.prog W = .ok (.bool false) W := fun W => by go_simp
  clear hS hC ho hv hp
  obtain ⟨fb, hfb⟩ : ∃ b, b = (ps.any fun x => outB x.f0) := ⟨_, rfl⟩
  rw [← hfb] at HCF
  cases fb with
  | true =>
    have e : putS l ps = (l, 0, 3) := by unfold putS; rw [if_pos hfb.symm]
    have HE := Aside0.mk e
    clear hfb e HJ
    go_enter Try.func19, Try.ntmps19
    go_wp2_with fail
    refine HCF.out.mono ?_
    rintro e w1 ⟨rfl, h1⟩
    have HB1 := Aside0.mk h1
    clear HCF h1
    go_wp2
    go_ret2
    exact ⟨by rw [HE.out]; rfl, by rw [HE.out]; exact (HS.out.below HB1.out).mono fun b hb => Or.inl hb, (Keep.of_below HB1.out).mono fun b hb h => by omega⟩
  | false =>
    have HFB := Aside0.mk hfb
    clear hfb
    go_enter Try.func19, Try.ntmps19
    go_wp2_with fail
    refine HCF.out.mono ?_
    rintro e w1 ⟨rfl, h1⟩
    have HB1 := Aside0.mk h1
    clear HCF h1
    go_wp2_with fail
    refine (HJ.out _ HB1.out).mono ?_
    rintro e w2 ⟨v2, rfl, ho2, h2⟩
    have HB2 := Aside0.mk (HB1.out.trans (h2.mono HB1.out.size))
    have HO2 := Aside0.mk (row_mono ho2 HB1.out.size)
    have HP2 := Aside0.mk (show w2.heap[p]? = _ from (HB2.out.block p (blk_lt HP.out)).trans HP.out)
    clear HJ h2 ho2
    obtain ⟨A2, c2, hA2⟩ := row_form HO2.out
    subst hA2
    by_cases hbig : 256 < (putA l ps).length
    · have e : putS l ps = (l, 0, 6) := by unfold putS; rw [if_neg (by rw [← HFB.out]; simp), if_pos hbig]
      have d1 : decide (((putA l ps).length : Int) > 256) = true := decide_eq_true (by omega)
      have d2 : decide ((256 : Int) < ((putA l ps).length : Int)) = true := decide_eq_true (by omega)
      have d3 : decide (256 < (putA l ps).length) = true := decide_eq_true hbig
      have HE := Aside0.mk e
      clear e
      go_wp2
      go_ret2
      exact ⟨by rw [HE.out]; rfl, by rw [HE.out]; exact (HS.out.below HB2.out).mono fun b hb => Or.inl hb, (Keep.of_below HB2.out).mono fun b hb h => by omega⟩
    · have e : putS l ps = (putA l ps, ((putA l ps).length : Int) - (l.length : Int), 0) := by unfold putS; rw [if_neg (by rw [← HFB.out]; simp), if_neg hbig]
      have d1 : decide (((putA l ps).length : Int) > 256) = false := decide_eq_false (by omega)
      have d2 : decide ((256 : Int) < ((putA l ps).length : Int)) = false := decide_eq_false (by omega)
      have d3 : decide (256 < (putA l ps).length) = false := decide_eq_false hbig
      have q0 : w2.cell? ⟨p, 0, none⟩ = some (.slice As l.length cs) := blk_cell HP2.out 0
      have x0 : w2.frozen? ⟨p, 0, none⟩ = false := blk_frozen HP2.out _
      have hw1 : wrap64 (((putA l ps).length : Int) - (l.length : Int)) = ((putA l ps).length : Int) - (l.length : Int) := by unfold wrap64; omega
      have HE := Aside0.mk e
      clear e
      go_wp2
      go_ret2
      refine ⟨by rw [HE.out]; rfl, ?_, ?_⟩
      · rw [HE.out]
        refine ⟨ris_putA HS.out.ris, by show (putA l ps).length ≤ 256; omega, .inl HS.out.own, _, by rw [show (#[Value.slice A2 (putA l ps).length c2] : Array Value) = (#[Value.slice As l.length cs] : Array Value).setIfInBounds 0 (Value.slice A2 (putA l ps).length c2) from rfl]; exact blk_set HP2.out 0 _, row_mono (own_cell HO2.out HP2.out (by decide) 0 _) (Nat.zero_le _), fun g hg => ?_⟩
        have := HO2.out.lt g hg
        exact .inr ⟨this.1, by simpa [World.setCell] using this.2⟩
      · exact Keep.setCell (S := fun b => b = p) ((Keep.of_below HB2.out).mono fun b hb h => by omega) (fun _ => rfl) _
end
section
set_option maxRecDepth 100000 in
set_option maxHeartbeats 8000000 in
theorem new_calls (w : World) : Calls Try.prog 18 #[] w fun e w' => e = .returned (.pointer (some ⟨w.heap.size, 0, none⟩)) ∧ IsSer (fun b => b = w.heap.size) w.heap.size [] w' ∧ Below w.heap.size w w' ∧ w'.heap.size = w.heap.size + 1 := by
  have hu91 := Try.underlying91
  go_enter Try.func18, Try.ntmps18
  go_wp2
  go_ret
  exact ⟨rfl, ⟨List.Pairwise.nil, by simp, rfl, _, blk_new w _, World.ownsRow_nil _ _ _ _, fun g hg => by cases hg⟩, (Below.refl _ _).alloc (Nat.le_refl _) _, by simp⟩
theorem inR_none {a b : Int} (h : b ≤ a) (l : List S29) : inR a b l = [] := by
  unfold inR
  rw [List.filter_eq_nil_iff]
  intro x _
  simp
  omega
theorem inR_ris {l : List S29} (h : Ris l) (a b : Int) : Ris (inR a b l) := h.filter _
theorem inR_len (a b : Int) (l : List S29) : (inR a b l).length ≤ l.length := List.length_filter_le _ _
theorem ser_parts {F : Nat → Prop} {p : Nat} {l : List S29} {w : World} (h : IsSer F p l w) : ∃ A ca, w.heap[p]? = some (.cells #[.slice A l.length ca] 91 (0, 0)) ∧ w.ownsRow 0 29 2 (.slice A l.length ca) l.length (l.flatMap cellsP) ∧ Kd.C k29 w A l.length l ∧ l.length ≤ ca := by
  obtain ⟨v, h1, h2, h3⟩ := h.row
  obtain ⟨A, ca, rfl⟩ := row_form h2
  have := kdC_of h2 (by have := h.len; omega)
  exact ⟨A, ca, h1, h2, this.1, this.2⟩
theorem get_ser (F : Nat → Prop) (p : Nat) (l : List S29) (a b : Int) (w : World) (h : IsSer F p l w) : Calls Try.prog 20 #[.pointer (some ⟨p, 0, none⟩), .agg #[.int .i64 a, .int .i64 b]] w (NewPost (inR a b l) w) := by
  obtain ⟨A, ca, h1, h2, h3, h4⟩ := ser_parts h
  refine (get_calls p A ca l a b h.ris w (blk_cell h1 0) h3 (by have := h.len; omega) h4).mono ?_
  rintro e w' ⟨i, k, hik, v, rfl, ho, hb⟩
  have e1 : inR a b l = (l.drop i).take (k - i) := by
    rcases hik with ⟨h1, rfl, rfl⟩ | ⟨h1, h2, h3⟩
    · rw [inR_none h1]; simp
    · exact inR_split h2 h3 h1
  exact ⟨v, rfl, by rw [e1]; exact ho, hb⟩
end
section
theorem lit_C (w : World) (l : List S29) (hl : l.length ≤ 1000) : Kd.C k29 (w.alloc (.cells (l.flatMap cellsP).toArray 29)) (some ⟨w.heap.size, 0, none⟩) l.length l := by
  have h := World.ownsRow_lit (base := 0) (size := 2) (e := 29) w (l.flatMap cellsP).toArray l.length (Nat.zero_le _) (by unfold maxLen; omega) (by rw [List.size_toArray]; exact flat_len l)
  exact (kdC_of (by simpa using h) hl).1
end
section
theorem reads_C {A1 : Option Addr} {len1 : Nat} {l1 : List S29} {W : World} (hr1 : ReadsRow (fun (p : S29) c => c = [.int .i64 p.f0, .int .i64 p.f1]) 2 W A1 len1 l1) : len1 = l1.length ∧ Kd.C k29 W A1 l1.length l1 := by
  have hl := hr1.1
  subst hl
  exact ⟨rfl, rfl, hr1.2.1, fun h => by
    obtain ⟨ad, e, hc⟩ := hr1.2.2 h
    refine ⟨ad, e, fun j p hj => ?_⟩
    obtain ⟨c, h1, h2, h3⟩ := hc j p hj
    subst h2
    exact ⟨_, h1, k29_mk W p, h3⟩⟩
end
section
theorem run_clear29 (w : World) (g o n c : Nat) (cur : Array Value) (hg : w.heap[g]? = some (.cells cur 29 (0, 0))) (hn : 0 < n) (hfit : o + n * 2 ≤ cur.size) (ty : TypeId) :
    (Builtin.clear_ #[22] ty #[.slice (some ⟨g, o, none⟩) n c]).run Try.prog w = .ok (.tuple #[]) (w.setRow g (cur.toList.take o ++ (Builtin.zeroCells (Value.agg #[.int .i64 0, .int .i64 0]).cells n).toList ++ cur.toList.drop (o + n * 2)).toArray) := by
  obtain ⟨i29, hi29, z0, z1, z2⟩ := info_parts info29
  have hl : (Builtin.zeroCells (Value.agg #[.int .i64 0, .int .i64 0]).cells n).toList.length = n * 2 := by rw [Array.length_toList, zc_size]
  have hst := run_storeCells_at Try.prog g o 29 (Builtin.zeroCells (Value.agg #[.int .i64 0, .int .i64 0]).cells n).toList 0 cur w hg (by rw [hl]; simpa using hfit) (fun v hv => by
    have : v = .int .i64 0 := by
      simp [Builtin.zeroCells, Value.cells] at hv
      obtain ⟨a, _, ha⟩ := hv
      rcases Nat.mod_two_eq_zero_or_one a with h | h <;> rw [h] at ha <;> exact ha.symm
    rw [this]; rfl)
  rw [hl] at hst
  have hn0 : n ≠ 0 := by omega
  cases n with
  | zero => omega
  | succ n =>
    simp only [Nat.add_zero] at hst
    simp [Builtin.clear_, run_underlying Try.underlying22, zeroValue, typeInfo, hi29, z0, hst]
section
variable {P : Program} {ops : Array Oper} {Q : Exit → Act → World → Prop}
/-- append as an arm of a drawn region's walk: its run is known. -/
theorem appends_ {oi : Oper} {N : Option Tmp} {a : Act} {w w1 : World} {v : Value} {K : Act → World → Prop} (s x : Operand) (t ty : TypeId) (v0 u0 : Value) (hw : Region.wanted oi (yielded ops a.tmps) = true) (hN : oi.dst = N) (ho : oi.op = .call { callee := .builtin .append, args := #[s, x], argTypes := #[t, t] }) (hty : oi.type = ty)
    (hs : a.eval s = v0) (hx : a.eval x = u0) (hr : (Builtin.append_ #[t, t] ty #[v0, u0]).run P w = .ok v w1) (h : K (a.put N v) w1) : if Region.wanted oi (yielded ops a.tmps) = true then Oper.wp P oi a w K Q else K (a.put N undef) w := by
  rw [if_pos hw]
  subst hN
  subst hty
  unfold Oper.wp execOp
  simp only [ho, resolve, invoke, builtin, Sem.run_bind, Sem.run_pure, Result.andThen_ok, List.map_toArray, List.map_cons, List.map_nil, hs, hx, hr]
  exact h
end
/-- What Delete leaves. -/
def DelPost (B : Nat) (l : List S29) (v : Value) (w : World) (e : Ending) (w' : World) : Prop := ∃ v', e = .returned v' ∧ w'.ownsRow B 29 2 v' l.length (l.flatMap cellsP) ∧ w.grownBy w' v.ownBlock
set_option maxRecDepth 100000 in
set_option maxHeartbeats 16000000 in
theorem delete_calls (B g c i j : Nat) (l : List S29) (w : World) (h : w.ownsRow B 29 2 (.slice (some ⟨g, 0, none⟩) l.length c) l.length (l.flatMap cellsP)) (hn : l.length ≤ 1000) (hij : i < j) (hj : j ≤ l.length) :
    Calls Try.prog 64 #[.slice (some ⟨g, 0, none⟩) l.length c, .int .i64 (i : Int), .int .i64 (j : Int)] w (DelPost B (l.take i ++ l.drop j) (.slice (some ⟨g, 0, none⟩) l.length c) w) := by
  obtain ⟨i29, hi29, z0, z1, z2⟩ := info_parts info29
  obtain ⟨n, hnn⟩ : ∃ n, n = l.length := ⟨_, rfl⟩
  have hlen : (l.take i ++ l.drop j).length = i + (n - j) := by rw [List.length_append, List.length_take, List.length_drop]; omega
  obtain ⟨g2, c2, cur, he, hg, hnc, hcm, hcs, hct⟩ := row_pos h (by omega)
  have he1 : g2 = g ∧ c2 = c := by
    injection he with e1 e2 e3
    injection e1 with e1
    injection e1 with e1
    exact ⟨e1.symm, e3.symm⟩
  obtain ⟨rfl, rfl⟩ := he1
  have hBg : B ≤ g2 := (h.lt g2 rfl).1
  have hpre : w.ownsRow B 29 2 (.slice (some ⟨g2, 0, none⟩) i c2) i ((l.take i).flatMap cellsP) := by
    refine ⟨by rw [flat_len, List.length_take]; omega, .inr ⟨g2, c2, cur, rfl, hBg, hg, by omega, hcm, hcs, ?_⟩⟩
    rw [← flat_take, ← hct, List.take_take, Nat.min_eq_left (by omega)]
  obtain ⟨m, hm⟩ : ∃ m, m = i + (n - j) := ⟨_, rfl⟩
  have hmn : m < n := by omega
  have hsrc : ∀ (ad : Addr), (c2 = j ∨ ad = ⟨g2, j * 2, none⟩) → ∀ (k : Nat) (u : Value), ((l.drop j).flatMap cellsP)[k]? = some u → w.drew.cell? (ad.add k) = some u := fun ad had k u hu => by
    rcases had with had | rfl
    · rw [List.drop_of_length_le (by omega)] at hu
      cases hu
    · rw [← flat_drop, List.getElem?_drop] at hu
      have := h.cells (g := g2) rfl _ u hu
      rw [Addr.add_lit, Nat.zero_add] at this
      rw [Addr.add_lit]
      exact this
  have happ : ∀ (ad : Addr) cc, (c2 = j ∨ ad = ⟨g2, j * 2, none⟩) → ∃ w1, (Builtin.append_ #[22, 22] 22 #[.slice (some ⟨g2, 0, none⟩) i c2, .slice (some ad) (n - j) cc]).run Try.prog w.drew = .ok (.slice (some ⟨g2, 0, none⟩) m c2) w1 ∧ w1.ownsRow B 29 2 (.slice (some ⟨g2, 0, none⟩) m c2) m ((l.take i ++ l.drop j).flatMap cellsP) ∧ w.drew.grownBy w1 (some g2) := fun ad cc had => by
    rw [hm, List.flatMap_append]
    exact run_append_fits w.drew B 22 22 29 i29 2 Try.underlying22 hi29 z1 g2 i c2 _ hpre ad (n - j) cc _ (by rw [flat_len, List.length_drop]; omega) (hsrc ad had) (one_cells _) (by omega)
  have hclr : ∀ (w1 : World), w1.ownsRow B 29 2 (.slice (some ⟨g2, 0, none⟩) m c2) m ((l.take i ++ l.drop j).flatMap cellsP) → w.drew.grownBy w1 (some g2) → ∃ w2, (∀ ty, (Builtin.clear_ #[22] ty #[.slice (some ⟨g2, m * 2, none⟩) (n - m) (c2 - m)]).run Try.prog w1 = .ok (.tuple #[]) w2) ∧ DelPost B (l.take i ++ l.drop j) (.slice (some ⟨g2, 0, none⟩) n c2) w (.returned (.slice (some ⟨g2, 0, none⟩) m c2)) w2 := fun w1 ho1 hg1 => by
    rcases ho1.2 with ⟨h1, h2⟩ | ⟨g3, c3, cur1, he3, hB3, hg3, h4, h5, h6, h7⟩
    · injection h1 with h1; cases h1
    · injection he3 with e1 e2 e3
      injection e1 with e1
      injection e1 with e1
      subst e1
      subst e3
      refine ⟨_, fun ty => run_clear29 w1 g2 (m * 2) (n - m) (c2 - m) cur1 hg3 (by omega) (by omega) ty, _, rfl, ⟨ho1.1.trans (by rw [hlen, hm]), .inr ⟨g2, c2, _, by rw [hlen, hm], hBg, setRow_heap _ _ _ _ _ _ hg3, by omega, hcm, ?_, ?_⟩⟩, ⟨hg1.os, hg1.tape, hg1.output, by simpa using hg1.size, fun k hk hkn => ?_⟩⟩
      · simp only [List.size_toArray, List.length_append, List.length_take, List.length_drop, Array.length_toList, zc_size]
        omega
      · rw [hlen, ← hm, ← h7, List.append_assoc]
        show ((cur1.toList.take (m * 2) ++ _).take (m * 2)) = _
        exact List.take_left' (by rw [List.length_take, Array.length_toList]; omega)
      · exact (setRow_other _ _ _ _ (fun e => hkn (by rw [e]; rfl))).trans (hg1.block k hk hkn)
  rw [← hnn]
  have HBB : B ≤ g2 := hBg
  have hu22 := Try.underlying22
  have e1 : ((i : Int) == (j : Int)) = false := beq_eq_false_iff_ne.2 (by omega)
  have e2 : (i == j) = false := beq_eq_false_iff_ne.2 (by omega)
  have hle1 : (i : Int) ≤ (j : Int) := by omega
  have hle2 : (j : Int) ≤ (n : Int) := by omega
  have hle3 : (n : Int) ≤ (c2 : Int) := by omega
  have hle4 : (m : Int) ≤ (n : Int) := by omega
  have hle5 : (i : Int) ≤ (c2 : Int) := by omega
  have n1 : i ≤ j := by omega
  have n2 : j ≤ n := by omega
  have n3 : n ≤ c2 := by omega
  have n4 : m ≤ n := by omega
  have n5 : i ≤ c2 := by omega
  have n6 : j ≤ c2 := by omega
  have nci : ¬ (c2 = i) := by omega
  have ncm : ¬ (c2 = m) := by omega
  have nni : ¬ (n = i) := by omega
  have HCLR := Lib.hid hclr
  by_cases hjc : c2 = j
  · obtain ⟨w1, hr1, ho1, hg1⟩ := happ ⟨g2, 0, none⟩ (c2 - j) (.inl hjc)
    obtain ⟨w2, hr2, hp2⟩ := hclr w1 ho1 hg1
    have hjc' : (c2 = j) = True := eq_true hjc
    have hnj : n - j = 0 := by omega
    have hcj : c2 - j = 0 := by omega
    rw [hnj, hcj] at hr1
    have HR1 := Aside0.mk hr1
    have HP2 := Aside0.mk hp2
    clear hsrc happ hclr hr1 ho1 hg1 hp2 hjc hct hcs hg he hpre hlen hm h hnn hj hij
    go_enter Try.func64, Try.ntmps64
    go_wp2_with fail
    refine start_ (n := 8) (S := fun w' => True) (ds := []) #[false, false, false, false, false, false, false, false] (by kernel_rfl) rfl rfl trivial (fun hHeld => ?_)
    refine pure_ (i := 0) (N := some 20) (v := ?_) (a' := ?_) #[true, false, false, false, false, false, false, false] rfl rfl (by kernel_rfl) (fun _ _ _ h => h) (Or.inl ⟨by rfl, ?_⟩) ?_ ?_
    rotate_left
    · intro w'
      go_simp
      with_reducible rfl
    rotate_left
    · simp only [Act.put, List.setIfInBounds_toArray, List.set_cons_zero, List.set_cons_succ, i64_w, i32_w]
      rfl
    refine pure_ (i := 1) (N := some 21) (v := ?_) (a' := ?_) #[true, true, false, false, false, false, false, false] rfl rfl (by kernel_rfl) (fun _ _ _ h => h) (Or.inl ⟨by rfl, ?_⟩) ?_ ?_
    rotate_left
    · intro w'
      go_simp
      with_reducible rfl
    rotate_left
    · simp only [Act.put, List.setIfInBounds_toArray, List.set_cons_zero, List.set_cons_succ, i64_w, i32_w]
      rfl
    refine pure_ (i := 2) (N := some 22) (v := ?_) (a' := ?_) #[true, true, true, false, false, false, false, false] rfl rfl (by kernel_rfl) (fun _ _ _ h => h) (Or.inl ⟨by rfl, ?_⟩) ?_ ?_
    rotate_left
    · intro w'
      go_simp
      with_reducible rfl
    rotate_left
    · simp only [Act.put, List.setIfInBounds_toArray, List.set_cons_zero, List.set_cons_succ, i64_w, i32_w]
      rfl
    refine pure_ (i := 3) (N := some 23) (v := ?_) (a' := ?_) #[true, true, true, true, false, false, false, false] rfl rfl (by kernel_rfl) (fun _ _ _ h => h) (Or.inl ⟨by rfl, ?_⟩) ?_ ?_
    rotate_left
    · intro w'
      go_simp
      with_reducible rfl
    rotate_left
    · simp only [Act.put, List.setIfInBounds_toArray, List.set_cons_zero, List.set_cons_succ, i64_w, i32_w]
      rfl
    refine pure_ (i := 4) (N := some 24) (v := ?_) (a' := ?_) #[true, true, true, true, true, false, false, false] rfl rfl (by kernel_rfl) (fun _ _ _ h => h) (Or.inl ⟨by rfl, ?_⟩) ?_ ?_
    rotate_left
    · intro w'
      go_simp
      with_reducible rfl
    rotate_left
    · simp only [Act.put, List.setIfInBounds_toArray, List.set_cons_zero, List.set_cons_succ, i64_w, i32_w]
      rfl
    refine pure_ (i := 5) (N := some 25) (v := ?_) (a' := ?_) #[true, true, true, true, true, true, false, false] rfl rfl (by kernel_rfl) (fun _ _ _ h => h) (Or.inl ⟨by rfl, ?_⟩) ?_ ?_
    rotate_left
    · intro w'
      go_simp
      with_reducible rfl
    rotate_left
    · simp only [Act.put, List.setIfInBounds_toArray, List.set_cons_zero, List.set_cons_succ, i64_w, i32_w]
      rfl
    refine one_ (i := 6) (N := some 26) #[true, true, true, true, true, true, true, false] rfl rfl (by kernel_rfl) (by decide) (fun K hK => ?_)
    refine appends_ (.tmp 22) (.tmp 25) 22 22 _ _ (by rfl) rfl rfl rfl (by rfl) (by rfl) HR1.out ?_
    refine hK.out _ _ trivial (fun hHeld => ?_)
    clear hK K
    refine norm_ (a' := ?_) ?_ ?_
    rotate_left
    · show Act.put _ (some 26) _ = _
      simp only [Act.put, List.setIfInBounds_toArray, List.set_cons_zero, List.set_cons_succ, i64_w, i32_w]
      rfl
    refine pure_ (i := 7) (N := some 0) (v := ?_) (a' := ?_) #[true, true, true, true, true, true, true, true] rfl rfl (by kernel_rfl) (fun _ _ _ h => h) (Or.inl ⟨by rfl, ?_⟩) ?_ ?_
    rotate_left
    · intro w'
      go_simp
      with_reducible rfl
    rotate_left
    · simp only [Act.put, List.setIfInBounds_toArray, List.set_cons_zero, List.set_cons_succ, i64_w, i32_w]
      rfl
    refine done_ (by kernel_rfl) ?_
    go_wp2
    go_ret
    exact HP2.out
  · obtain ⟨w1, hr1, ho1, hg1⟩ := happ ⟨g2, j * 2, none⟩ (c2 - j) (.inr rfl)
    obtain ⟨w2, hr2, hp2⟩ := hclr w1 ho1 hg1
    have HR1 := Aside0.mk hr1
    have HP2 := Aside0.mk hp2
    clear hsrc happ hclr hr1 ho1 hg1 hp2 hct hcs hg he hpre hlen hm h hnn hj hij
    go_enter Try.func64, Try.ntmps64
    go_wp2_with fail
    refine start_ (n := 8) (S := fun w' => True) (ds := []) #[false, false, false, false, false, false, false, false] (by kernel_rfl) rfl rfl trivial (fun hHeld => ?_)
    refine pure_ (i := 0) (N := some 20) (v := ?_) (a' := ?_) #[true, false, false, false, false, false, false, false] rfl rfl (by kernel_rfl) (fun _ _ _ h => h) (Or.inl ⟨by rfl, ?_⟩) ?_ ?_
    rotate_left
    · intro w'
      go_simp
      with_reducible rfl
    rotate_left
    · simp only [Act.put, List.setIfInBounds_toArray, List.set_cons_zero, List.set_cons_succ, i64_w, i32_w]
      rfl
    refine pure_ (i := 1) (N := some 21) (v := ?_) (a' := ?_) #[true, true, false, false, false, false, false, false] rfl rfl (by kernel_rfl) (fun _ _ _ h => h) (Or.inl ⟨by rfl, ?_⟩) ?_ ?_
    rotate_left
    · intro w'
      go_simp
      with_reducible rfl
    rotate_left
    · simp only [Act.put, List.setIfInBounds_toArray, List.set_cons_zero, List.set_cons_succ, i64_w, i32_w]
      rfl
    refine pure_ (i := 2) (N := some 22) (v := ?_) (a' := ?_) #[true, true, true, false, false, false, false, false] rfl rfl (by kernel_rfl) (fun _ _ _ h => h) (Or.inl ⟨by rfl, ?_⟩) ?_ ?_
    rotate_left
    · intro w'
      go_simp
      with_reducible rfl
    rotate_left
    · simp only [Act.put, List.setIfInBounds_toArray, List.set_cons_zero, List.set_cons_succ, i64_w, i32_w]
      rfl
    refine pure_ (i := 3) (N := some 23) (v := ?_) (a' := ?_) #[true, true, true, true, false, false, false, false] rfl rfl (by kernel_rfl) (fun _ _ _ h => h) (Or.inl ⟨by rfl, ?_⟩) ?_ ?_
    rotate_left
    · intro w'
      go_simp
      with_reducible rfl
    rotate_left
    · simp only [Act.put, List.setIfInBounds_toArray, List.set_cons_zero, List.set_cons_succ, i64_w, i32_w]
      rfl
    refine pure_ (i := 4) (N := some 24) (v := ?_) (a' := ?_) #[true, true, true, true, true, false, false, false] rfl rfl (by kernel_rfl) (fun _ _ _ h => h) (Or.inl ⟨by rfl, ?_⟩) ?_ ?_
    rotate_left
    · intro w'
      go_simp
      with_reducible rfl
    rotate_left
    · simp only [Act.put, List.setIfInBounds_toArray, List.set_cons_zero, List.set_cons_succ, i64_w, i32_w]
      rfl
    refine pure_ (i := 5) (N := some 25) (v := ?_) (a' := ?_) #[true, true, true, true, true, true, false, false] rfl rfl (by kernel_rfl) (fun _ _ _ h => h) (Or.inl ⟨by rfl, ?_⟩) ?_ ?_
    rotate_left
    · intro w'
      go_simp
      with_reducible rfl
    rotate_left
    · simp only [Act.put, List.setIfInBounds_toArray, List.set_cons_zero, List.set_cons_succ, i64_w, i32_w]
      rfl
    refine one_ (i := 6) (N := some 26) #[true, true, true, true, true, true, true, false] rfl rfl (by kernel_rfl) (by decide) (fun K hK => ?_)
    refine appends_ (.tmp 22) (.tmp 25) 22 22 _ _ (by rfl) rfl rfl rfl (by rfl) (by rfl) HR1.out ?_
    refine hK.out _ _ trivial (fun hHeld => ?_)
    clear hK K
    refine norm_ (a' := ?_) ?_ ?_
    rotate_left
    · show Act.put _ (some 26) _ = _
      simp only [Act.put, List.setIfInBounds_toArray, List.set_cons_zero, List.set_cons_succ, i64_w, i32_w]
      rfl
    refine pure_ (i := 7) (N := some 0) (v := ?_) (a' := ?_) #[true, true, true, true, true, true, true, true] rfl rfl (by kernel_rfl) (fun _ _ _ h => h) (Or.inl ⟨by rfl, ?_⟩) ?_ ?_
    rotate_left
    · intro w'
      go_simp
      with_reducible rfl
    rotate_left
    · simp only [Act.put, List.setIfInBounds_toArray, List.set_cons_zero, List.set_cons_succ, i64_w, i32_w]
      rfl
    refine done_ (by kernel_rfl) ?_
    go_wp2
    go_ret
    exact HP2.out
end
section
/-- Those that are not in a range. -/
def outR (a b : Int) (l : List S29) : List S29 := l.filter (fun x => !(decide (a ≤ x.f0) && decide (x.f0 < b)))
theorem outR_none {a b : Int} (h : b ≤ a) (l : List S29) : outR a b l = l := by
  unfold outR
  rw [List.filter_eq_self]
  intro x _
  simp
  omega
theorem outR_ris {l : List S29} (h : Ris l) (a b : Int) : Ris (outR a b l) := h.filter _
theorem outR_len (a b : Int) (l : List S29) : (outR a b l).length ≤ l.length := List.length_filter_le _ _
theorem outR_split {l : List S29} {a b : Int} {i k : Nat} (hi : IsPos l a i) (hk : IsPos l b k) (hab : a < b) : outR a b l = l.take i ++ l.drop k := by
  have hik := pos_le hab hi hk
  have hkl := hk.1
  unfold outR
  conv => lhs; rw [← List.take_append_drop i l]
  rw [List.filter_append, List.filter_eq_self.2 fun x hx => ?_]
  · congr 1
    have h1 := filter_split2 (l.drop i) (fun x => !(decide (a ≤ x.f0) && decide (x.f0 < b))) (k - i) (fun j x hj hx => by
      rw [List.getElem?_drop] at hx
      have h2 := hk.2.1 _ x (by omega) hx
      have h3 := hi.2.2 _ x (by omega) hx
      simp; omega) (fun j x hj hx => by
      rw [List.getElem?_drop] at hx
      have h2 := hk.2.2 _ x (by omega) hx
      simp; omega)
    rw [h1, List.drop_drop]
    congr 1
    omega
  · obtain ⟨j, hj⟩ := List.mem_iff_getElem?.1 hx
    rw [List.getElem?_take] at hj
    split at hj
    · have := hi.2.1 j x ‹_› hj
      simp; omega
    · cases hj
def CutPost (F : Nat → Prop) (p : Nat) (l : List S29) (a b : Int) (w : World) (e : Ending) (w' : World) : Prop :=
  e = .returned (.int .i64 ((inR a b l).length : Int)) ∧ IsSer (More F w w') p (outR a b l) w' ∧ Keep (fun b => b = p) w w'
set_option maxRecDepth 100000 in
set_option maxHeartbeats 16000000 in
theorem cut_calls (F : Nat → Prop) (p : Nat) (l : List S29) (a b : Int) (w : World) (hS : IsSer F p l w) :
    Calls Try.prog 23 #[.pointer (some ⟨p, 0, none⟩), .agg #[.int .i64 a, .int .i64 b]] w (CutPost F p l a b w) := by
  obtain ⟨A, ca, hp, ho, hC, hca⟩ := ser_parts hS
  have hl := hS.len
  have hu42 := Try.underlying42
  have hu91 := Try.underlying91
  have HSP := Lib.hid (fun W hc2 hC => span_calls p A ca l a b hS.ris W hc2 hC (by omega))
  have HS := Aside0.mk hS
  have HP := Aside0.mk hp
  have HC := Aside0.mk hC
  have HNIL := Lib.hid (show A = none → ca = 0 from fun e => by
    rcases ho.2 with ⟨e1, e2⟩ | ⟨g, c2, cur, e1, _⟩
    · injection e1
    · rw [e] at e1; injection e1 with e1; cases e1)
  clear hS hp ho hC hca
  go_enter Try.func23, Try.ntmps23
  go_wp2_with fail
  refine (HSP.out _ (bread_alloc (blk_cell HP.out 0) _) (Kd.C_alloc HC.out _)).mono ?_
  rintro e w1 ⟨i, k, hik, rfl, h1⟩
  have HIK := Aside0.mk hik
  have HB0 := Aside0.mk ((Below.refl w.heap.size w).alloc (Nat.le_refl _) (.cells #[.int .i64 a, .int .i64 b] 42))
  have HB1 := Aside0.mk (HB0.out.trans (h1.mono HB0.out.size))
  clear h1 hik HB0 HSP
  have hle : i ≤ k ∧ k ≤ l.length := by
    rcases HIK.out with ⟨_, h1, h2⟩ | ⟨h0, h1, h2⟩
    · omega
    · exact ⟨pos_le h0 h1 h2, h2.1⟩
  have hA : wrap64 ((k : Int) - (i : Int)) = (k : Int) - (i : Int) := by unfold wrap64; omega
  have HLEN := Aside0.mk (show ((inR a b l).length : Int) = (k : Int) - (i : Int) by
    rcases HIK.out with ⟨h1, rfl, rfl⟩ | ⟨h1, h2, h3⟩
    · rw [inR_none h1]; rfl
    · rw [inR_split h2 h3 h1, List.length_take, List.length_drop]; omega)
  by_cases hlt : i < k
  · have d1 : decide ((k : Int) > (i : Int)) = true := decide_eq_true (by omega)
    have d2 : decide (i < k) = true := decide_eq_true hlt
    have d3 : decide ((i : Int) < (k : Int)) = true := decide_eq_true (by omega)
    have HOUT := Aside0.mk (show outR a b l = l.take i ++ l.drop k by
      rcases HIK.out with ⟨h1, rfl, rfl⟩ | ⟨h1, h2, h3⟩
      · omega
      · exact outR_split h2 h3 h1)
    have HP1 := Aside0.mk (show w1.heap[p]? = _ from (HB1.out.block p (blk_lt HP.out)).trans HP.out)
    have q0 : w1.cell? ⟨p, 0, none⟩ = some (.slice A l.length ca) := blk_cell HP1.out 0
    have HCL := Aside0.mk (clone_calls A ca l w1 (Kd.C_below HC.out HB1.out) (by omega) HNIL.out)
    clear HC HP HNIL
    go_wp2_with fail
    refine HCL.out.mono ?_
    rintro e w2 ⟨v2, rfl, ho2, h2⟩
    obtain ⟨g, c2, cur, hv2, _⟩ := row_pos ho2 (by omega)
    subst hv2
    obtain ⟨L3, hL3⟩ : ∃ L, L = outR a b l := ⟨_, rfl⟩
    have hD := delete_calls w1.heap.size g c2 i k l w2 ho2 (by omega) hlt hle.2
    rw [← HOUT.out, ← hL3] at hD
    have HD := Aside0.mk hD
    have HL3 := Aside0.mk hL3
    clear hD hL3
    have HB2 := Aside0.mk (HB1.out.trans (h2.mono HB1.out.size))
    have HGW := Aside0.mk ((ho2.lt g rfl).1)
    have HP2 := Aside0.mk (show w2.heap[p]? = _ from (h2.block p (blk_lt HP1.out)).trans HP1.out)
    clear ho2 h2 HCL HP1 q0
    go_wp2_with fail
    refine HD.out.mono ?_
    rintro e w3 ⟨v3, rfl, ho3, hg3⟩
    obtain ⟨A3, c3, hv3⟩ := row_form ho3
    subst hv3
    have HB3 := Aside0.mk (HB2.out.grown hg3 HB2.out.size (fun q hq => by injection hq with hq; rw [← hq]; have := HGW.out; have := HB1.out.size; show w.heap.size ≤ g; omega))
    have HP3 := Aside0.mk (show w3.heap[p]? = some (.cells #[.slice A l.length ca] 91 (0, 0)) from (hg3.block p (blk_lt HP2.out) (fun e => by
      injection e with e
      have h1 := HGW.out
      have h2 : p < w.heap.size := by
        obtain ⟨v, h1, _⟩ := HS.out.row
        exact blk_lt h1
      have h3 := HB1.out.size
      have h4 : p = g := e
      omega)).trans HP2.out)
    have HO3 := Aside0.mk ho3
    have q0 : w3.cell? ⟨p, 0, none⟩ = some (.slice A l.length ca) := blk_cell HP3.out 0
    have x0 : w3.frozen? ⟨p, 0, none⟩ = false := blk_frozen HP3.out _
    clear ho3 hg3 HD HP2
    go_wp2
    go_ret
    refine ⟨by rw [HLEN.out]; rfl, ?_, ?_⟩
    · rw [← HL3.out]
      refine ⟨by rw [HL3.out]; exact outR_ris HS.out.ris _ _, by rw [HL3.out]; have := outR_len a b l; omega, .inl HS.out.own, _, by rw [show (#[Value.slice A3 L3.length c3] : Array Value) = (#[Value.slice A l.length ca] : Array Value).setIfInBounds 0 (Value.slice A3 L3.length c3) from rfl]; exact blk_set HP3.out 0 _, row_mono (own_cell HO3.out HP3.out (by decide) 0 _) (Nat.zero_le _), fun g hg => ?_⟩
      have h1 := HO3.out.lt g hg
      have h2 := HB1.out.size
      exact .inr ⟨by omega, by simpa [World.setCell] using h1.2⟩
    · exact Keep.setCell (S := fun b => b = p) ((Keep.of_below HB3.out).mono fun b hb h => by omega) (fun _ => rfl) _
  · have hik : i = k := by omega
    subst hik
    have d1 : decide ((i : Int) > (i : Int)) = false := decide_eq_false (by omega)
    have d2 : decide (i < i) = false := decide_eq_false hlt
    have d3 : decide ((i : Int) < (i : Int)) = false := decide_eq_false (by omega)
    have HOUT := Aside0.mk (show outR a b l = l by
      rcases HIK.out with ⟨h1, _, _⟩ | ⟨h1, h2, h3⟩
      · exact outR_none h1 l
      · rw [outR_split h2 h3 h1]; exact List.take_append_drop i l)
    go_wp2
    go_ret
    refine ⟨by rw [HLEN.out, Int.sub_self]; rfl, by rw [HOUT.out]; exact (HS.out.below HB1.out).mono fun b hb => .inl hb, (Keep.of_below HB1.out).mono fun b hb h => by omega⟩
end
section
theorem mem_putA_snoc {l ps : List S29} {p x : S29} : x ∈ putA l (ps ++ [p]) ↔ x = p ∨ (x ∈ putA l ps ∧ x.f0 ≠ p.f0) := by rw [putA_snoc]; exact mem_putL
theorem snoc_ind {α : Type} {P : List α → Prop} (h0 : P []) (h1 : ∀ l a, P l → P (l ++ [a])) (l : List α) : P l := by
  have : ∀ (n : Nat) (l : List α), l.length = n → P l := by
    intro n
    induction n with
    | zero => intro l hl; rw [List.length_eq_zero_iff.1 hl]; exact h0
    | succ n ih =>
      intro l hl
      have hne : l ≠ [] := by intro e; subst e; simp at hl
      rw [← List.dropLast_concat_getLast hne]
      exact h1 _ _ (ih _ (by simp [hl]))
  exact this _ _ rfl
theorem mem_putA {l ps : List S29} {x : S29} : x ∈ putA l ps ↔ x ∈ putA [] ps ∨ (x ∈ l ∧ ∀ p ∈ ps, p.f0 ≠ x.f0) := by
  induction ps using snoc_ind with
  | h0 => simp [putA]
  | h1 ps p ih =>
    rw [mem_putA_snoc, mem_putA_snoc, ih]
    constructor
    · rintro (h | ⟨h | ⟨h1, h2⟩, h3⟩)
      · exact .inl (.inl h)
      · exact .inl (.inr ⟨h, h3⟩)
      · refine .inr ⟨h1, fun q hq => ?_⟩
        rcases List.mem_append.1 hq with h | h
        · exact h2 q h
        · rw [List.mem_singleton.1 h]; exact fun e => h3 e.symm
    · rintro ((h | ⟨h, h3⟩) | ⟨h1, h2⟩)
      · exact .inl h
      · exact .inr ⟨.inl h, h3⟩
      · exact .inr ⟨.inr ⟨h1, fun q hq => h2 q (List.mem_append_left _ hq)⟩, fun e => h2 p (List.mem_append_right _ List.mem_cons_self) e.symm⟩
theorem mem_of_putA {ps : List S29} {x : S29} (h : x ∈ putA [] ps) : x ∈ ps := by
  induction ps using snoc_ind with
  | h0 => exact h
  | h1 ps p ih =>
    rw [mem_putA_snoc] at h
    rcases h with h | ⟨h, _⟩
    · subst h; simp
    · exact List.mem_append_left _ (ih h)
theorem putA_self (ps : List S29) : putA (putA [] ps) ps = putA [] ps := by
  refine ris_ext (ris_putA (ris_putA List.Pairwise.nil)) (ris_putA List.Pairwise.nil) fun x => ?_
  rw [mem_putA]
  constructor
  · rintro (h | ⟨h, _⟩) <;> exact h
  · exact fun h => .inl h
theorem putA_ris {ps : List S29} (h : Ris ps) : putA [] ps = ps := by
  refine ris_ext (ris_putA List.Pairwise.nil) h fun x => ⟨mem_of_putA, fun hx => ?_⟩
  induction ps using snoc_ind with
  | h0 => exact hx
  | h1 ps p ih =>
    have h2 := List.pairwise_append.1 h
    rw [mem_putA_snoc]
    rcases List.mem_append.1 hx with h1 | h1
    · exact .inr ⟨ih h2.1 h1, by have := h2.2.2 x h1 p List.mem_cons_self; omega⟩
    · exact .inl (List.mem_singleton.1 h1)
theorem putA_back {l : List S29} (h : Ris l) (a b : Int) : putA (outR a b l) (inR a b l) = l := by
  refine ris_ext (ris_putA (outR_ris h _ _)) h fun x => ?_
  rw [mem_putA, putA_ris (inR_ris h _ _)]
  unfold inR outR
  simp only [List.mem_filter, Bool.and_eq_true, decide_eq_true_eq, Bool.not_eq_true', Bool.and_eq_false_iff, decide_eq_false_iff_not]
  constructor
  · rintro (h | ⟨h, _⟩)
    · exact h.1
    · exact h.1
  · intro hx
    by_cases hc : a ≤ x.f0 ∧ x.f0 < b
    · exact .inl ⟨hx, hc⟩
    · refine .inr ⟨⟨hx, by omega⟩, fun p hp e => ?_⟩
      omega
theorem in_out_len (a b : Int) (l : List S29) : (inR a b l).length + (outR a b l).length = l.length := by
  unfold inR outR
  induction l with
  | nil => rfl
  | cons x r ih =>
    rw [List.filter_cons, List.filter_cons]
    cases hb : (decide (a ≤ x.f0) && decide (x.f0 < b)) with
    | true => rw [if_pos rfl, if_neg (by simp)]; simp only [List.length_cons]; omega
    | false => rw [if_neg (by simp), if_pos (by simp)]; simp only [List.length_cons]; omega
/-- Ticks that may be. -/
def TickOk (l : List S29) : Prop := ∀ x ∈ l, 0 ≤ x.f0 ∧ x.f0 ≤ 1099511627776
theorem out_iff {l : List S29} : (l.any fun x => outB x.f0) = false ↔ TickOk l := by
  rw [List.any_eq_false]
  unfold TickOk outB
  constructor
  · intro h x hx
    have := h x hx
    simp at this
    omega
  · intro h x hx
    have := h x hx
    simp
    omega
theorem inR_all {l : List S29} (h : TickOk l) {b : Int} (hb : 1099511627776 < b) : inR 0 b l = l := by
  unfold inR
  rw [List.filter_eq_self]
  intro x hx
  have := h x hx
  simp
  omega
theorem putS_ok {l ps : List S29} (h : TickOk ps) (hl : (putA l ps).length ≤ 256) : putS l ps = (putA l ps, ((putA l ps).length : Int) - (l.length : Int), 0) := by
  unfold putS
  rw [if_neg (by rw [out_iff.2 h]; simp), if_neg (by omega)]
theorem putS_cases (l ps : List S29) : (putS l ps = (l, 0, 3) ∧ ¬ TickOk ps) ∨ (putS l ps = (l, 0, 6) ∧ TickOk ps ∧ 256 < (putA l ps).length) ∨ (TickOk ps ∧ (putA l ps).length ≤ 256 ∧ putS l ps = (putA l ps, ((putA l ps).length : Int) - (l.length : Int), 0)) := by
  by_cases h : TickOk ps
  · by_cases hl : 256 < (putA l ps).length
    · refine .inr (.inl ⟨?_, h, hl⟩)
      unfold putS
      rw [if_neg (by rw [out_iff.2 h]; simp), if_pos hl]
    · exact .inr (.inr ⟨h, by omega, putS_ok h (by omega)⟩)
  · refine .inl ⟨?_, h⟩
    unfold putS
    rw [if_pos]
    cases hc : (ps.any fun x => outB x.f0) with
    | true => rfl
    | false => exact absurd (out_iff.1 hc) h
end
end Go.Proofs.Ytnjdngjlbonieaa
