/- Acts in a row; Few; what is told to a stock, played; walked. -/
import Derived.Test.YtnjdngjlbonieaaTierN
import Derived.Deep.Slices
import Derived.Lib.Hide
import Derived.LoopTactic
import Derived.Outline
import Derived.Laws.Rows
import Derived.Laws.CopyOwn
import Derived.WalkKit
set_option linter.unusedVariables false
set_option linter.unusedSimpArgs false
namespace Go.Proofs.Ytnjdngjlbonieaa
open Go.RowKit Go.Proofs.YtnjdngjlbonieaaW.PrintWords Go.Proofs.YtnjdngjlbonieaaW.PrintLast Go.Proofs.YtnjdngjlbonieaaW.PrintMore
open Go.Proofs.Ytnjdngjlbonieaa.PTierForgets
attribute [local go_sem] max2_int min2_int max_two min_two max_three min_three max_four min_four

structure ActT where
  kind : Int
  at_ : Int
  A : Option Addr
  ca : Nat
  l : List S29
  r0 : Int
  r1 : Int
def actC (x : ActT) : List Value := [.int .i64 x.kind, .int .i64 x.at_, .slice x.A x.l.length x.ca, .int .i64 x.r0, .int .i64 x.r1]
/-- Acts as they are read. -/
structure SrcT (A : Option Addr) (L : List ActT) (w : World) : Prop where
  read : ReadsRow (fun (x : ActT) c => c = actC x) 5 w A L.length L
  rows : ∀ x ∈ L, Kd.C k29 w x.A x.l.length x.l
theorem SrcT.below {A : Option Addr} {L : List ActT} {w w' : World} (h : SrcT A L w) (hk : Below w.heap.size w w') : SrcT A L w' := by
  refine ⟨⟨h.read.1, h.read.2.1, fun h0 => ?_⟩, fun x hx => Kd.C_below (h.rows x hx) hk⟩
  obtain ⟨ad, e, hc⟩ := h.read.2.2 h0
  refine ⟨ad, e, fun j p hj => ?_⟩
  obtain ⟨c, h1, h2, h3⟩ := hc j p hj
  exact ⟨c, h1, h2, fun i u hu => bread hk (h3 i u hu)⟩
theorem SrcT.cells {A : Option Addr} {L : List ActT} {w : World} (h : SrcT A L w) {j : Nat} {x : ActT} (hx : L[j]? = some x) : ∃ ad, A = some ad ∧ w.cell? (ad.add (j * 5)) = some (.int .i64 x.kind) ∧ w.cell? ⟨(ad.add (j * 5)).block, (ad.add (j * 5)).off + 1, none⟩ = some (.int .i64 x.at_) ∧
    w.cell? ⟨(ad.add (j * 5)).block, (ad.add (j * 5)).off + 2, none⟩ = some (.slice x.A x.l.length x.ca) ∧ w.cell? ⟨(ad.add (j * 5)).block, (ad.add (j * 5)).off + 3, none⟩ = some (.int .i64 x.r0) ∧ w.cell? ⟨(ad.add (j * 5)).block, (ad.add (j * 5)).off + 4, none⟩ = some (.int .i64 x.r1) := by
  obtain ⟨ad, e, hc⟩ := h.read.2.2 (by have := (List.getElem?_eq_some_iff.1 hx).1; omega)
  obtain ⟨c, h1, h2, h3⟩ := hc j x hx
  subst h2
  refine ⟨ad, e, h3 0 _ rfl, ?_, ?_, ?_, ?_⟩
  · have := h3 1 _ rfl; rw [← Go.Deep.add_add] at this; exact this
  · have := h3 2 _ rfl; rw [← Go.Deep.add_add] at this; exact this
  · have := h3 3 _ rfl; rw [← Go.Deep.add_add] at this; exact this
  · have := h3 4 _ rfl; rw [← Go.Deep.add_add] at this; exact this
/-- Few acts, and little. -/
def fewB (L : List ActT) : Bool := (L.all fun x => decide (x.l.length ≤ 40) && decide (x.at_ ≤ 200000)) && decide (L.length ≤ 30)
theorem fewB_no {L : List ActT} {j : Nat} {x : ActT} (hx : L[j]? = some x) (h : (decide (x.l.length ≤ 40) && decide (x.at_ ≤ 200000)) = false) : fewB L = false := by
  unfold fewB
  rw [Bool.and_eq_false_iff]
  exact .inl (List.all_eq_false.2 ⟨x, List.mem_of_getElem? hx, by rw [h]; simp⟩)
set_option maxRecDepth 100000 in
set_option maxHeartbeats 8000000 in
theorem few_calls (A : Option Addr) (ca : Nat) (L : List ActT) (w : World) (h : SrcT A L w) : Calls Try.prog 37 #[.slice A L.length ca, .int .i64 30] w fun e w' => e = .returned (.bool (fewB L)) ∧ Below w.heap.size w w' := by
  have HL := Aside0.mk h
  have hu70 := Try.underlying70
  have hmx : L.length ≤ 9223372036854775807 := h.read.2.1
  obtain ⟨fb, hfb⟩ : ∃ b, b = fewB L := ⟨_, rfl⟩
  have HFB := Aside0.mk hfb
  rw [← hfb]
  clear h hfb
  go_enter Try.func37, Try.ntmps37
  go_wp2_with fail
  go_loopw [9] (fun v9 wr => ∃ j : Nat, j ≤ L.length ∧ v9 = .int .i64 (j : Int) ∧ Aside0 (∀ x ∈ L.take j, (decide (x.l.length ≤ 40) && decide (x.at_ ≤ 200000)) = true) ∧ Aside0 (Below w.heap.size w wr)) (fun v _ => L.length - (intOf v).toNat)
  case atStart => exact ⟨0, by omega, rfl, ⟨fun x hx => by simp at hx⟩, ⟨Below.refl _ _⟩⟩
  case round =>
    obtain ⟨j, hj, rfl, HA, HB⟩ := hrel
    by_cases hlt : j < L.length
    · obtain ⟨x, hx⟩ : ∃ x, L[j]? = some x := ⟨_, List.getElem?_eq_getElem hlt⟩
      obtain ⟨ad, hAe, c0, c1, c2, c3, c4⟩ := HL.out.cells hx
      subst hAe
      have u0 := bread HB.out c0
      have u1 := bread HB.out c1
      have u2 := bread HB.out c2
      have u3 := bread HB.out c3
      have u4 := bread HB.out c4
      have hjl : (j : Int) < (L.length : Int) := by omega
      have HX := Aside0.mk hx
      have HBW := Aside0.mk (HB.out.alloc HB.out.size (.cells #[.int .i64 x.kind, .int .i64 x.at_, .slice x.A x.l.length x.ca, .int .i64 x.r0, .int .i64 x.r1] 70))
      clear hx c0 c1 c2 c3 c4
      by_cases h1 : x.l.length ≤ 40
      · have d1 : decide ((x.l.length : Int) > 40) = false := decide_eq_false (by omega)
        have d2 : decide ((40 : Int) < (x.l.length : Int)) = false := decide_eq_false (by omega)
        by_cases h2 : x.at_ ≤ 200000
        · have d3 : decide (x.at_ > 200000) = false := decide_eq_false (by omega)
          have d4 : decide (200000 < x.at_) = false := decide_eq_false (by omega)
          have HA2 := Aside0.mk (show ∀ y ∈ L.take (j + 1), (decide (y.l.length ≤ 40) && decide (y.at_ ≤ 200000)) = true from fun y hy => by
            obtain ⟨hj2, he⟩ := List.getElem?_eq_some_iff.1 HX.out
            rw [List.take_succ_eq_append_getElem hj2, he] at hy
            rcases List.mem_append.1 hy with hy | hy
            · exact HA.out y hy
            · rw [List.mem_singleton.1 hy, decide_eq_true h1, decide_eq_true h2]
              rfl)
          clear HA h1 h2
          go_wp2_with fail
          go_roundw
          case rel => exact ⟨j + 1, by omega, by go_num, HA2, HBW⟩
          case measure => simp [intOf]; omega
        · have d3 : decide (x.at_ > 200000) = true := decide_eq_true (by omega)
          have d4 : decide (200000 < x.at_) = true := decide_eq_true (by omega)
          have HE := Aside0.mk (show fb = false from HFB.out.trans (fewB_no HX.out (by rw [decide_eq_false h2, Bool.and_false])))
          clear h1 h2
          go_wp2
          go_ret
          rw [HE.out]
          exact ⟨rfl, HBW.out⟩
      · have d1 : decide ((x.l.length : Int) > 40) = true := decide_eq_true (by omega)
        have d2 : decide ((40 : Int) < (x.l.length : Int)) = true := decide_eq_true (by omega)
        have d5 : decide (40 < x.l.length) = true := decide_eq_true (by omega)
        have HE := Aside0.mk (show fb = false from HFB.out.trans (fewB_no HX.out (by rw [decide_eq_false h1, Bool.false_and])))
        clear h1
        go_wp2
        go_ret
        rw [HE.out]
        exact ⟨rfl, HBW.out⟩
    · have hje : j = L.length := by omega
      subst hje
      have hs := HA.out
      rw [List.take_length] at hs
      have HE := Aside0.mk (show fb = decide ((L.length : Int) ≤ 30) from HFB.out.trans (by
        unfold fewB
        rw [List.all_eq_true.2 hs, Bool.true_and]
        by_cases h : L.length ≤ 30
        · rw [decide_eq_true h, decide_eq_true (by omega)]
        · rw [decide_eq_false h, decide_eq_false (by omega)]))
      clear hs HA hlt hj
      go_wp2
      go_ret
      rw [HE.out]
      exact ⟨by first | rfl | simp, HB.out⟩
/-- Rolled up to any tick. -/
def rollS (s : Stk) (now : Int) : Stk × Int × Int := if now < 0 ∨ 1099511627776 < now then (s, 0, 3) else rollT s now
theorem trollS_calls (F : Nat → Prop) (p : Nat) (s : Stk) (now : Int) (w : World) (hS : IsStk F p s w) (hF : ∀ b, F b → b < w.heap.size) (hG : GoodT s) :
    Calls Try.prog 33 #[.pointer (some ⟨p, 0, none⟩), .int .i64 now] w (StkPost F p (rollS s now).1 (.tuple #[.int .i64 (rollS s now).2.1, .int .i64 (rollS s now).2.2]) w) := by
  unfold rollS
  by_cases h : now < 0 ∨ 1099511627776 < now
  · rw [if_pos h]
    refine (troll_bad p now w h).mono ?_
    rintro e w1 ⟨rfl, h1⟩
    exact ⟨rfl, (hS.below h1).mono fun b hb => Or.inl hb, Keep.of_below' h1⟩
  · rw [if_neg h]
    exact troll_calls F p s now w hS hF hG (by omega) (by omega)
theorem rollS_good {s : Stk} (h : GoodT s) (now : Int) : GoodT (rollS s now).1 := by
  unfold rollS
  by_cases c : now < 0 ∨ 1099511627776 < now
  · rw [if_pos c]; exact h
  · rw [if_neg c]; exact rollT_good h (by omega) (by omega)
/-- One act. -/
def stepT (val : S29 → S29) (s : Stk) (x : ActT) : Stk := if x.kind = 0 ∨ x.kind = 1 ∨ x.kind = 2 then (putT s (x.l.map val)).1 else if x.kind = 3 ∨ x.kind = 4 then (rollS s x.at_).1 else if x.kind = 5 then (purgeT s x.r0 x.r1).1 else s
def playT (val : S29 → S29) (L : List ActT) : Stk := L.foldl (stepT val) newS
theorem stepT_good {s : Stk} (h : GoodT s) (val : S29 → S29) (x : ActT) : GoodT (stepT val s x) := by
  unfold stepT
  split
  · exact putT_good h _
  · split
    · exact rollS_good h _
    · split
      · exact purgeT_good h _ _
      · exact h
theorem play_good (val : S29 → S29) (L : List ActT) : GoodT (playT val L) := by
  unfold playT
  suffices ∀ (L : List ActT) (s : Stk), GoodT s → GoodT (L.foldl (stepT val) s) from this L newS goodT_new
  intro L
  induction L with
  | nil => intro s h; exact h
  | cons x r ih => intro s h; exact ih _ (stepT_good h val x)
theorem play_snoc (val : S29 → S29) (L : List ActT) {j : Nat} {x : ActT} (hx : L[j]? = some x) : playT val (L.take (j + 1)) = stepT val (playT val (L.take j)) x := by
  obtain ⟨hj2, he⟩ := List.getElem?_eq_some_iff.1 hx
  unfold playT
  rw [List.take_succ_eq_append_getElem hj2, he, List.foldl_append]
  rfl
theorem few_le {L : List ActT} (h : fewB L = true) : L.length ≤ 30 ∧ ∀ x ∈ L, x.l.length ≤ 40 ∧ x.at_ ≤ 200000 := by
  unfold fewB at h
  rw [Bool.and_eq_true, List.all_eq_true] at h
  exact ⟨by simpa using h.2, fun x hx => by have := h.1 x hx; simpa using this⟩
theorem map_snoc29 (val : S29 → S29) {l : List S29} {j : Nat} {x : S29} (hx : l[j]? = some x) : (l.map val).take (j + 1) = (l.map val).take j ++ [val x] := by
  obtain ⟨hj2, he⟩ := List.getElem?_eq_some_iff.1 hx
  rw [List.take_succ_eq_append_getElem (by rw [List.length_map]; exact hj2), List.getElem_map, he]
theorem flat29 (l : List S29) (x : S29) : (l ++ [x]).flatMap cellsP = l.flatMap cellsP ++ [.int .i64 x.f0, .int .i64 x.f1] := by rw [List.flatMap_append]; rfl
/-- What a function over points answers. -/
def ValAt (k : Nat) (caps : Array Value) (val : S29 → S29) (W : World) : Prop := ∀ p : S29, Calls Try.prog k (#[.agg #[.int .i64 p.f0, .int .i64 p.f1]] ++ caps) W fun e w' => e = .returned (.agg #[.int .i64 (val p).f0, .int .i64 (val p).f1]) ∧ Below W.heap.size W w'
def PlayPost (val : S29 → S29) (L : List ActT) (w : World) (e : Ending) (w' : World) : Prop := ∃ p, e = .returned (.pointer (some ⟨p, 0, none⟩)) ∧ OwnS w.heap.size p (playT val L) w' ∧ Below w.heap.size w w'
set_option maxRecDepth 100000 in
set_option maxHeartbeats 32000000 in
theorem play_calls (A : Option Addr) (ca : Nat) (L : List ActT) (k : Nat) (caps : Array Value) (val : S29 → S29) (w : World) (h : SrcT A L w) (hf : fewB L = true) (hV : ∀ W, Below w.heap.size w W → ValAt k caps val W) (hcf : ∀ (args : Array Value) (W : World), (callFunc k args).run Try.prog W = .ok (.enter k args) W) :
    Calls Try.prog 39 #[.slice A L.length ca, .func (.func k) #[] caps] w (PlayPost val L w) := by
  have HL := Aside0.mk h
  have HV := Lib.hid hV
  have hu70 := Try.underlying70
  have hu29 := Try.underlying29
  have hu42 := Try.underlying42
  have hfw := few_le hf
  have hmx : L.length ≤ 30 := hfw.1
  have HFW := Lib.hid hfw.2
  obtain ⟨i29, hi29, z0, z1, z2⟩ := info_parts info29
  clear h hV hf hfw
  go_enter Try.func39, Try.ntmps39
  go_wp2_with fail
  refine (tnew_calls w).mono ?_
  rintro e w1 ⟨p, rfl, hs, hb⟩
  have HO1 := Aside0.mk (OwnS.new hs (Nat.le_refl w.heap.size))
  have HB1 := Aside0.mk hb
  clear hs hb
  go_wp2_with fail
  go_loopw [14] (fun v14 wr => ∃ j : Nat, j ≤ L.length ∧ v14 = .int .i64 (j : Int) ∧ Aside0 (OwnS w.heap.size p (playT val (L.take j)) wr) ∧ Aside0 (Below w.heap.size w wr)) (fun v _ => L.length - (intOf v).toNat)
  case atStart => exact ⟨0, by omega, rfl, HO1, HB1⟩
  case round =>
    clear HO1 HB1
    obtain ⟨j, hj, rfl, HO, HB⟩ := hrel
    by_cases hlt : j < L.length
    · obtain ⟨x, hx⟩ : ∃ x, L[j]? = some x := ⟨_, List.getElem?_eq_getElem hlt⟩
      obtain ⟨ad, hAe, c0, c1, c2, c3, c4⟩ := HL.out.cells hx
      subst hAe
      have hxl := HFW.out x (List.mem_of_getElem? hx)
      have hkd := HL.out.rows x (List.mem_of_getElem? hx)
      have hst := play_snoc val L hx
      have hgd := play_good val (L.take j)
      obtain ⟨st, hste⟩ : ∃ st, st = playT val (L.take j) := ⟨_, rfl⟩
      rw [← hste] at hst hgd HO
      obtain ⟨kind, at_, Ax, cx, lx, r0, r1⟩ := x
      dsimp only at hxl hkd c0 c1 c2 c3 c4
      have u0 := bread HB.out c0
      have u1 := bread HB.out c1
      have u2 := bread HB.out c2
      have u3 := bread HB.out c3
      have u4 := bread HB.out c4
      have hjl : (j : Int) < (L.length : Int) := by omega
      have hl40 : lx.length ≤ 40 := hxl.1
      have HST := Aside0.mk hst
      have HGD := Aside0.mk hgd
      have HKD := Aside0.mk hkd
      obtain ⟨W, hW⟩ : ∃ W, W = wr.alloc (.cells #[.int .i64 kind, .int .i64 at_, .slice Ax lx.length cx, .int .i64 r0, .int .i64 r1] 70) := ⟨_, rfl⟩
      obtain ⟨X, hX⟩ : ∃ X, X = wr.heap.size := ⟨_, rfl⟩
      have HBW := Aside0.mk (show Below w.heap.size w W by rw [hW]; exact HB.out.alloc HB.out.size _)
      have hXW : W.heap[X]? = some (.cells #[.int .i64 kind, .int .i64 at_, .slice Ax lx.length cx, .int .i64 r0, .int .i64 r1] 70 (0, 0)) := by rw [hW, hX]; exact blk_new wr _
      have HOW := Aside0.mk (show OwnS w.heap.size p st W by rw [hW]; exact HO.out.below ((Below.refl _ _).alloc (Nat.le_refl _) _))
      have e0 : W.cell? ⟨X, 0, none⟩ = some (.int .i64 kind) := blk_cell hXW 0
      have e1 : W.cell? ⟨X, 1, none⟩ = some (.int .i64 at_) := blk_cell hXW 1
      have e2 : W.cell? ⟨X, 2, none⟩ = some (.slice Ax lx.length cx) := blk_cell hXW 2
      have e3 : W.cell? ⟨X, 3, none⟩ = some (.int .i64 r0) := blk_cell hXW 3
      have e4 : W.cell? ⟨X, 4, none⟩ = some (.int .i64 r1) := blk_cell hXW 4
      clear hx c0 c1 c2 c3 c4 hxl hkd hst hgd hste hXW HO HB
      by_cases hput : kind = 0 ∨ kind = 1 ∨ kind = 2
      · have HS := Aside0.mk (show playT val (L.take (j + 1)) = (putT st (lx.map val)).1 by rw [HST.out]; unfold stepT; rw [if_pos hput])
        clear HST
        rcases hput with rfl | rfl | rfl
        all_goals
          go_upto_region 5 with (fail)
          rw [← hW, ← hX]
          clear hW hX u0 u1 u2 u3 u4
          go_wp2_with fail
          go_loopw [8, 27] (fun v8 v27 wq => ∃ (i : Nat) (vr : Value), i ≤ lx.length ∧ v8 = vr ∧ v27 = .int .i64 (i : Int) ∧ Aside0 (wq.ownsRow W.heap.size 29 2 vr i (((lx.map val).take i).flatMap cellsP)) ∧ Aside0 (Below W.heap.size W wq)) (fun _ v _ => lx.length - (intOf v).toNat)
          case atStart => exact ⟨0, _, by omega, rfl, rfl, ⟨World.ownsRow_nil _ _ _ _⟩, ⟨Below.refl _ _⟩⟩
          case round =>
            obtain ⟨i, vr, hi, hv8, rfl, HR, HQ⟩ := hrel
            obtain rfl := hv8.symm
            have HBQ := Aside0.mk (HBW.out.trans (HQ.out.mono HBW.out.size))
            by_cases hil : i < lx.length
            · obtain ⟨ae, hAe, hcell⟩ := cells29 HKD.out (by omega)
              subst hAe
              obtain ⟨y, hy⟩ : ∃ y, lx[i]? = some y := ⟨_, List.getElem?_eq_getElem hil⟩
              have hcy := hcell i y hy
              have y0 := bread HBQ.out hcy.1
              have y1 := bread HBQ.out hcy.2
              have hill : (i : Int) < (lx.length : Int) := by omega
              have HY := Aside0.mk hy
              have hn40 : i ≤ 40 := by omega
              clear hcell hcy hy
              have HCV := Aside0.mk (HV.out _ (HBQ.out.alloc HBQ.out.size (.cells #[.int .i64 y.f0, .int .i64 y.f1] 29)) y)
              have HR1 := Aside0.mk (HR.out.alloc (.cells #[.int .i64 y.f0, .int .i64 y.f1] 29))
              have HQ1 := Aside0.mk (HQ.out.alloc HQ.out.size (.cells #[.int .i64 y.f0, .int .i64 y.f1] 29))
              clear HR HQ HBQ
              go_wp2_with fail
              refine HCV.out.mono ?_
              rintro e w3 ⟨rfl, h3⟩
              have HR3 := Aside0.mk (own_kept (w' := w3) HR1.out fun q hq => h3.block q (HR1.out.lt q hq).2)
              have HQ3 := Aside0.mk (HQ1.out.trans (h3.mono HQ1.out.size))
              clear h3 HR1 HQ1 HCV y0 y1
              go_wp2_with (first | (at_builtin; refine wpList_append_own _ rfl _ _ 22 rfl W.heap.size 29 i29 (.agg #[.int .i64 0, .int .i64 0]) 2 16 Try.underlying22 hi29 z0 z1 z2 rfl (by decide) _ i _ rfl (HR3.out.alloc _) ⟨w3.heap.size, 0, none⟩ 1 1 [.int .i64 (val y).f0, .int .i64 (val y).f1] rfl rfl (cells_new w3 [.int .i64 (val y).f0, .int .i64 (val y).f1] 29) (by simp [Value.oneCell']) (by unfold maxLen; omega) (by omega) (by have := HQ3.out.size; simp; omega) ?_) | go_in)
              intro v4 w4 ho hg _
              have HR4 := Aside0.mk (show w4.ownsRow W.heap.size 29 2 v4 (i + 1) (((lx.map val).take (i + 1)).flatMap cellsP) by
                rw [map_snoc29 val HY.out, flat29]
                exact ho)
              have HQ4 := Aside0.mk ((HQ3.out.alloc HQ3.out.size (.cells #[.int .i64 (val y).f0, .int .i64 (val y).f1] 29)).grown hg (by have := HQ3.out.size; simp; omega) (fun q hq => (HR3.out.lt q hq).1))
              clear ho hg HR3 HQ3
              go_wp2_with fail
              go_roundw
              case rel => exact ⟨i + 1, _, by omega, rfl, by go_num, HR4, HQ4⟩
              case measure => simp [intOf]; omega
            · have hie : i = lx.length := by omega
              subst hie
              have HR2 := HR.out
              rw [List.take_of_length_le (by rw [List.length_map]; exact Nat.le_refl _)] at HR2
              obtain ⟨Ar, cr, hvr⟩ := row_form HR2
              subst hvr
              have hml : (lx.map val).length = lx.length := List.length_map _
              have HR2' : wr.ownsRow W.heap.size 29 2 (.slice Ar (lx.map val).length cr) (lx.map val).length ((lx.map val).flatMap cellsP) := by rw [hml]; exact HR2
              have HKC := Aside0.mk (kdC_of HR2' (by rw [hml]; omega)).1
              have hm40 : (lx.map val).length ≤ 256 := by rw [hml]; omega
              obtain ⟨F, hF1, hF2, hF3⟩ := (HOW.out.below HQ.out).step
              have HF3 := Lib.hid hF3
              have HPU := Aside0.mk (tput_calls F p st (lx.map val) Ar cr _ hF1 HKC.out hm40)
              rw [hml] at HPU
              clear HR HR2 HR2' HKC hml hF1 hF2 hF3 hm40 hil hi
              go_wp2_with fail
              refine HPU.out.mono ?_
              rintro e w5 ⟨rfl, hs5, hk5⟩
              have hh := HF3.out _ _ HBQ.out.size hs5 hk5
              have HO5 := Aside0.mk hh.1
              have HB5 := Aside0.mk (hh.2 w HBQ.out (Nat.le_refl _))
              rw [← HS.out] at HO5
              clear hs5 hk5 hh HF3 HPU
              go_wp2_with fail
              go_roundw
              case rel => exact ⟨j + 1, by omega, by go_num, HO5, HB5⟩
              case measure => simp [intOf]; omega
      · have k0 : (kind == 0) = false := beq_eq_false_iff_ne.2 fun e => hput (.inl e)
        have k1 : (kind == 1) = false := beq_eq_false_iff_ne.2 fun e => hput (.inr (.inl e))
        have k2 : (kind == 2) = false := beq_eq_false_iff_ne.2 fun e => hput (.inr (.inr e))
        by_cases hroll : kind = 3 ∨ kind = 4
        · have HS := Aside0.mk (show playT val (L.take (j + 1)) = (rollS st at_).1 by rw [HST.out]; unfold stepT; rw [if_neg hput, if_pos hroll])
          obtain ⟨F, hF1, hF2, hF3⟩ := HOW.out.step
          have HF3 := Lib.hid hF3
          have HRO := Aside0.mk (trollS_calls F p st at_ W hF1 hF2 HGD.out)
          clear HST hput hF1 hF2 hF3
          rcases hroll with rfl | rfl
          all_goals
            go_upto_region 5 with (fail)
            rw [← hW, ← hX]
            clear hW hX u0 u1 u2 u3 u4
            go_wp2_with fail
            refine HRO.out.mono ?_
            rintro e w5 ⟨rfl, hs5, hk5⟩
            have hh := HF3.out _ _ HBW.out.size hs5 hk5
            have HO5 := Aside0.mk hh.1
            have HB5 := Aside0.mk (hh.2 w HBW.out (Nat.le_refl _))
            rw [← HS.out] at HO5
            clear hs5 hk5 hh HF3 HRO
            go_wp2_with fail
            go_roundw
            case rel => exact ⟨j + 1, by omega, by go_num, HO5, HB5⟩
            case measure => simp [intOf]; omega
        · have k3 : (kind == 3) = false := beq_eq_false_iff_ne.2 fun e => hroll (.inl e)
          have k4 : (kind == 4) = false := beq_eq_false_iff_ne.2 fun e => hroll (.inr e)
          by_cases hpurge : kind = 5
          · have HS := Aside0.mk (show playT val (L.take (j + 1)) = (purgeT st r0 r1).1 by rw [HST.out]; unfold stepT; rw [if_neg hput, if_neg hroll, if_pos hpurge])
            obtain ⟨F, hF1, hF2, hF3⟩ := HOW.out.step
            have HF3 := Lib.hid hF3
            have HRO := Aside0.mk (tpurge_calls F p st r0 r1 W hF1 hF2 HGD.out)
            clear HST hput hroll hF1 hF2 hF3
            subst hpurge
            go_upto_region 5 with (fail)
            rw [← hW, ← hX]
            clear hW hX u0 u1 u2 u3 u4
            go_wp2_with fail
            refine HRO.out.mono ?_
            rintro e w5 ⟨rfl, hs5, hk5⟩
            have hh := HF3.out _ _ HBW.out.size hs5 hk5
            have HO5 := Aside0.mk hh.1
            have HB5 := Aside0.mk (hh.2 w HBW.out (Nat.le_refl _))
            rw [← HS.out] at HO5
            clear hs5 hk5 hh HF3 HRO
            go_wp2_with fail
            go_roundw
            case rel => exact ⟨j + 1, by omega, by go_num, HO5, HB5⟩
            case measure => simp [intOf]; omega
          · have HS := Aside0.mk (show playT val (L.take (j + 1)) = st by rw [HST.out]; unfold stepT; rw [if_neg hput, if_neg hroll, if_neg hpurge])
            have k5 : (kind == 5) = false := beq_eq_false_iff_ne.2 hpurge
            clear HST hput hroll hpurge
            rw [← HS.out] at HOW
            go_upto_region 5 with (fail)
            rw [← hW, ← hX]
            clear hW hX u0 u1 u2 u3 u4
            go_wp2_with fail
            go_roundw
            case rel => exact ⟨j + 1, by omega, by go_num, HOW, HBW⟩
            case measure => simp [intOf]; omega
    · have hje : j = L.length := by omega
      subst hje
      have hs := HO.out
      rw [List.take_length] at hs
      have HO2 := Aside0.mk hs
      clear hs HO hlt hj
      go_wp2
      go_ret
      exact ⟨_, rfl, HO2.out, HB.out⟩
end Go.Proofs.Ytnjdngjlbonieaa
