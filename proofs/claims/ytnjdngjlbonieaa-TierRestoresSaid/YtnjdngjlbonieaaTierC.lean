/- A stock of three tiers in memory; New, Put, Points, walked. -/
import Derived.Test.YtnjdngjlbonieaaTierB
import Derived.Lib.Hide
import Derived.LoopTactic
import Derived.Outline
import Derived.Laws.Rows
import Derived.Laws.CopyOwn
import Derived.WalkKit
set_option linter.unusedVariables false
set_option linter.unusedSimpArgs false
namespace Go.Proofs.Ytnjdngjlbonieaa
open Go.RowKit Go.Proofs.YtnjdngjlbonieaaW.PrintWords Go.Proofs.YtnjdngjlbonieaaW.PrintLast Go.Proofs.YtnjdngjlbonieaaW.PrintMore
open Go.Proofs.Ytnjdngjlbonieaa.PTierForgets
attribute [local go_sem] max2_int min2_int max_two min_two max_three min_three max_four min_four

/-- Points, aggregates of both wider tiers, and marks. -/
structure Stk where
  raw : List S29
  a1 : List S31
  a2 : List S31
  m1 : Int
  m2 : Int
def newS : Stk := ⟨[], [], [], 0, 0⟩
def stkCells (ps : Nat) (v1 v2 : Value) (s : Stk) : Array Value := #[.pointer (some ⟨ps, 0, none⟩), .slice none 0 0, v1, v2, .int .i64 0, .int .i64 s.m1, .int .i64 s.m2]
/-- A stock at p; all of it lies in the blocks F. -/
structure IsStk (F : Nat → Prop) (p : Nat) (s : Stk) (w : World) : Prop where
  own : F p
  l1 : s.a1.length ≤ 256
  l2 : s.a2.length ≤ 256
  row : ∃ ps v1 v2, w.heap[p]? = some (.cells (stkCells ps v1 v2 s) 100 (0, 0)) ∧ IsSer F ps s.raw w ∧ w.ownsRow 0 31 5 v1 s.a1.length (s.a1.flatMap aggP) ∧ w.ownsRow 0 31 5 v2 s.a2.length (s.a2.flatMap aggP) ∧
    (∀ g, v1.ownBlock = some g → F g) ∧ (∀ g, v2.ownBlock = some g → F g) ∧ (∀ g, v1.ownBlock = some g → v2.ownBlock ≠ some g)
section
variable {F G S : Nat → Prop} {p : Nat} {s : Stk} {w w' : World}
theorem IsStk.keep (h : IsStk F p s w) (hk : Keep S w w') (hS : ∀ b, F b → ¬ S b) : IsStk F p s w' := by
  obtain ⟨ps, v1, v2, h1, h2, h3, h4, h5, h6, h7⟩ := h.row
  exact ⟨h.own, h.l1, h.l2, ps, v1, v2, hk.blk h1 (hS p h.own), h2.keep hk hS, hk.row h3 (fun g hg => hS g (h5 g hg)), hk.row h4 (fun g hg => hS g (h6 g hg)), h5, h6, h7⟩
theorem IsStk.mono (h : IsStk F p s w) (hG : ∀ b, F b → G b) : IsStk G p s w := by
  obtain ⟨ps, v1, v2, h1, h2, h3, h4, h5, h6, h7⟩ := h.row
  exact ⟨hG _ h.own, h.l1, h.l2, ps, v1, v2, h1, h2.mono hG, h3, h4, fun g hg => hG g (h5 g hg), fun g hg => hG g (h6 g hg), h7⟩
theorem IsStk.below (h : IsStk F p s w) (hk : Below w.heap.size w w') : IsStk F p s w' := by
  obtain ⟨ps, v1, v2, h1, h2, h3, h4, h5, h6, h7⟩ := h.row
  exact ⟨h.own, h.l1, h.l2, ps, v1, v2, (hk.block p (blk_lt h1)).trans h1, h2.below hk, own_kept h3 fun b hb => hk.block b (h3.lt b hb).2, own_kept h4 fun b hb => hk.block b (h4.lt b hb).2, h5, h6, h7⟩
end
theorem Keep.of_below' {S : Nat → Prop} {w w' : World} (h : Below w.heap.size w w') : Keep S w w' := (Keep.of_below h).mono fun b hb h => by omega
/-- What was there and has changed, and what came in two steps. -/
theorem More.trans {F : Nat → Prop} {w w1 w2 : World} (h1 : w.heap.size ≤ w1.heap.size) (h2 : w1.heap.size ≤ w2.heap.size) : ∀ b, More (More F w w1) w1 w2 b → More F w w2 b := by
  rintro b ((h | ⟨h, h3⟩) | ⟨h, h3⟩)
  · exact .inl h
  · exact .inr ⟨h, by omega⟩
  · exact .inr ⟨by omega, h3⟩
theorem Keep.trans' {S S' : Nat → Prop} {w w1 w' : World} (h : Keep S w w1) (k : Keep S' w1 w') (hs : ∀ b, b < w.heap.size → S' b → S b) : Keep S w w' := h.trans k hs
set_option maxRecDepth 100000 in
set_option maxHeartbeats 8000000 in
theorem tnew_calls (w : World) : Calls Try.prog 31 #[] w fun e w' => ∃ p, e = .returned (.pointer (some ⟨p, 0, none⟩)) ∧ IsStk (fun b => w.heap.size ≤ b ∧ b < w'.heap.size) p newS w' ∧ Below w.heap.size w w' := by
  have hu100 := Try.underlying100
  go_enter Try.func31, Try.ntmps31
  go_wp2_with fail
  refine (new_calls _).mono ?_
  rintro e w1 ⟨rfl, hs, hb, hz⟩
  have HS := Aside0.mk hs
  have HB := Aside0.mk hb
  have HZ := Aside0.mk hz
  clear hs hb hz
  go_wp2
  go_ret
  refine ⟨w1.heap.size, rfl, ⟨by have := HZ.out; simp; omega, by decide, by decide, w.heap.size, .slice none 0 0, .slice none 0 0, ?_, ?_, World.ownsRow_nil _ _ _ _, World.ownsRow_nil _ _ _ _, fun g hg => (by cases hg), fun g hg => (by cases hg), fun g hg => (by cases hg)⟩, HB.out.alloc HB.out.size _⟩
  · exact blk_new w1 _
  · exact (HS.out.below ((Below.refl _ _).alloc (Nat.le_refl _) _)).mono fun b hb => by have := HZ.out; simp; omega
set_option maxRecDepth 100000 in
set_option maxHeartbeats 8000000 in
theorem tput1_calls (a b m : Int) (bx p : Nat) (w : World) (hb : w.cell? ⟨bx, 0, none⟩ = some (.pointer (some ⟨p, 0, none⟩))) (hm : w.cell? ⟨p, 5, none⟩ = some (.int .i64 m)) :
    Calls Try.prog 66 #[.agg #[.int .i64 a, .int .i64 b], .pointer (some ⟨bx, 0, none⟩)] w fun e w' => e = .returned (.bool (decide (a < m))) ∧ Below w.heap.size w w' := by
  have hu29 := Try.underlying29
  have hu72 := Try.underlying72
  have hu100 := Try.underlying100
  obtain ⟨fb, hfb⟩ : ∃ f, f = decide (a < m) := ⟨_, rfl⟩
  have d2 : decide (a < m) = fb := hfb.symm
  rw [d2]
  clear hfb
  have q0 := bread_alloc hb (.cells #[.int .i64 a, .int .i64 b] 29)
  have q1 := bread_alloc hm (.cells #[.int .i64 a, .int .i64 b] 29)
  have HB := Aside0.mk ((Below.refl w.heap.size w).alloc (Nat.le_refl _) (.cells #[.int .i64 a, .int .i64 b] 29))
  go_enter Try.func66, Try.ntmps66
  go_wp2_with fail
  go_quiet (fail)
  go_wp2
  go_ret
  exact ⟨rfl, pw_below_drewN HB.out _⟩
def XPostM (m : Int) (l : List S29) (w : World) (e : Ending) (w' : World) : Prop := ∃ r : Int, e = .returned (.int .i64 r) ∧ (0 ≤ r ↔ ∃ x ∈ l, decide (x.f0 < m) = true) ∧ Below w.heap.size w w'
set_option maxRecDepth 100000 in
set_option maxHeartbeats 8000000 in
theorem tindex_calls (m : Int) (bx p : Nat) (A : Option Addr) (ca : Nat) (l : List S29) (w : World) (h : Kd.C k29 w A l.length l) (hl : l.length ≤ 1000) (hb : w.cell? ⟨bx, 0, none⟩ = some (.pointer (some ⟨p, 0, none⟩))) (hm : w.cell? ⟨p, 5, none⟩ = some (.int .i64 m)) :
    Calls Try.prog 79 #[.slice A l.length ca, .func (.func 66) #[] #[.pointer (some ⟨bx, 0, none⟩)]] w (XPostM m l w) := by
  have HL := Aside0.mk h
  have HBX := Aside0.mk hb
  have HMX := Aside0.mk hm
  have hu29 := Try.underlying29
  clear h hb hm
  go_enter Try.func79, Try.ntmps79
  go_wp2_with fail
  go_loopw [8] (fun v8 wr => ∃ j : Nat, j ≤ l.length ∧ v8 = .int .i64 (j : Int) ∧ Aside0 (∀ x ∈ l.take j, decide (x.f0 < m) = false) ∧ Aside0 (Below w.heap.size w wr)) (fun v _ => l.length - (intOf v).toNat)
  case atStart => exact ⟨0, by omega, rfl, ⟨fun p hp => by simp at hp⟩, ⟨Below.refl _ _⟩⟩
  case round =>
    obtain ⟨j, hj, rfl, HS, HB⟩ := hrel
    by_cases hlt : j < l.length
    · obtain ⟨ad, hAe, hcell⟩ := cells29 HL.out (by omega)
      subst hAe
      obtain ⟨x, hx⟩ : ∃ x, l[j]? = some x := ⟨_, List.getElem?_eq_getElem hlt⟩
      have hcx := hcell j x hx
      have u0 : wr.cell? (ad.add (j * 2)) = some (.int .i64 x.f0) := by rw [HB.out.cell (World.block_lt_of_cell? w _ hcx.1)]; exact hcx.1
      have u1 : wr.cell? ⟨(ad.add (j * 2)).block, (ad.add (j * 2)).off + 1, none⟩ = some (.int .i64 x.f1) := by rw [HB.out.cell (World.block_lt_of_cell? w _ hcx.2)]; exact hcx.2
      have hjl : (j : Int) < (l.length : Int) := by omega
      have HX := Aside0.mk hx
      obtain ⟨a, b⟩ := x
      clear hcell hx hcx
      go_wp2_with fail
      refine (tput1_calls a b m bx p _ (bread HB.out HBX.out) (bread HB.out HMX.out)).mono ?_
      rintro e w2 ⟨rfl, h2⟩
      have HB2 := Aside0.mk (HB.out.trans (h2.mono HB.out.size))
      clear h2 u0 u1
      cases hob : decide (a < m) with
      | true =>
        have HOB := Aside0.mk hob
        clear hob
        go_wp2
        go_ret
        exact ⟨_, rfl, ⟨fun _ => ⟨_, List.mem_of_getElem? HX.out, HOB.out⟩, fun _ => by omega⟩, HB2.out⟩
      | false =>
        have HS2 := Aside0.mk (show ∀ x ∈ l.take (j + 1), decide (x.f0 < m) = false from fun p hp => by
          obtain ⟨hj2, he⟩ := List.getElem?_eq_some_iff.1 HX.out
          rw [List.take_succ_eq_append_getElem hj2, he] at hp
          rcases List.mem_append.1 hp with hp | hp
          · exact HS.out p hp
          · rw [List.mem_singleton.1 hp]; exact hob)
        clear hob
        go_wp2_with fail
        go_roundw
        case rel => exact ⟨j + 1, by omega, rfl, HS2, HB2⟩
        case measure => simp [intOf]; omega
    · have hje : j = l.length := by omega
      subst hje
      have hs := HS.out
      rw [List.take_length] at hs
      have HS3 := Aside0.mk hs
      clear hs HS hlt hj
      go_wp2
      go_ret
      exact ⟨_, rfl, ⟨fun h => by omega, fun ⟨x, hx, ho⟩ => by rw [HS3.out x hx] at ho; cases ho⟩, HB.out⟩
set_option maxRecDepth 100000 in
set_option maxHeartbeats 8000000 in
theorem tcontains_calls (m : Int) (bx p : Nat) (A : Option Addr) (ca : Nat) (l : List S29) (w : World) (h : Kd.C k29 w A l.length l) (hl : l.length ≤ 1000) (hb : w.cell? ⟨bx, 0, none⟩ = some (.pointer (some ⟨p, 0, none⟩))) (hm : w.cell? ⟨p, 5, none⟩ = some (.int .i64 m)) :
    Calls Try.prog 59 #[.slice A l.length ca, .func (.func 66) #[] #[.pointer (some ⟨bx, 0, none⟩)]] w fun e w' => e = .returned (.bool (l.any fun x => decide (x.f0 < m))) ∧ Below w.heap.size w w' := by
  have HX := Aside0.mk (tindex_calls m bx p A ca l w h hl hb hm)
  obtain ⟨fb, hfb⟩ : ∃ f, f = (l.any fun x => decide (x.f0 < m)) := ⟨_, rfl⟩
  rw [← hfb]
  have HF := Aside0.mk hfb
  clear h hfb hb hm
  go_enter Try.func59, Try.ntmps59
  go_wp2_with fail
  refine HX.out.mono ?_
  rintro e w2 ⟨r, rfl, hr, h2⟩
  have HB := Aside0.mk h2
  have d1 : decide (r ≥ 0) = fb := by
    rw [HF.out]
    by_cases h : 0 ≤ r
    · rw [decide_eq_true (show r ≥ 0 from h)]
      obtain ⟨x, hx, ho⟩ := hr.1 h
      exact (List.any_eq_true.2 ⟨x, hx, ho⟩).symm
    · rw [decide_eq_false (show ¬ r ≥ 0 from h)]
      symm
      rw [List.any_eq_false]
      intro x hx ho
      exact h (hr.2 ⟨x, hx, ho⟩)
  have d2 : decide (0 ≤ r) = fb := d1
  clear hr h2 HX
  go_wp2
  go_ret
  exact ⟨rfl, HB.out⟩
/-- The points of a stock are others now. -/
theorem IsStk.newraw {F : Nat → Prop} {p pr : Nat} {v1 v2 : Value} {s : Stk} {l : List S29} {w w2 : World} (hS : IsStk F p s w) (hp : w.heap[p]? = some (.cells (stkCells pr v1 v2 s) 100 (0, 0))) (hsr : IsSer F pr s.raw w) (ho1 : w.ownsRow 0 31 5 v1 s.a1.length (s.a1.flatMap aggP)) (ho2 : w.ownsRow 0 31 5 v2 s.a2.length (s.a2.flatMap aggP))
    (hf1 : ∀ g, v1.ownBlock = some g → F g) (hf2 : ∀ g, v2.ownBlock = some g → F g) (hap : ∀ g, v1.ownBlock = some g → v2.ownBlock ≠ some g) (hk : Keep (fun b => b = pr) w w2) (hn : IsSer (More F w w2) pr l w2) :
    IsStk (More F w w2) p { s with raw := l } w2 ∧ Keep F w w2 := by
  obtain ⟨v, hv, _⟩ := hsr.row
  have hne : p ≠ pr := fun e => by subst e; rw [hp] at hv; injection hv with hv; injection hv with _ hv; cases hv
  refine ⟨⟨.inl hS.own, hS.l1, hS.l2, pr, v1, v2, hk.blk hp hne, hn, hk.row ho1 (fun g hg e => ?_), hk.row ho2 (fun g hg e => ?_), fun g hg => .inl (hf1 g hg), fun g hg => .inl (hf2 g hg), hap⟩, hk.mono fun b _ e => by rw [e]; exact hsr.own⟩
  · exact row_ne ho1 hv (by decide) (by rw [hg, e])
  · exact row_ne ho2 hv (by decide) (by rw [hg, e])
/-- What a put does to a stock. -/
def putT (s : Stk) (ps : List S29) : Stk × Int × Int := if (ps.any fun x => decide (x.f0 < s.m1)) = true then (s, 0, 14) else ({ s with raw := (putS s.raw ps).1 }, (putS s.raw ps).2.1, (putS s.raw ps).2.2)
def StkPost (F : Nat → Prop) (p : Nat) (s' : Stk) (v : Value) (w : World) (e : Ending) (w' : World) : Prop := e = .returned v ∧ IsStk (More F w w') p s' w' ∧ Keep F w w'
theorem nn57 (p : Nat) (W : World) : (binOp .eql 57 (.pointer (some ⟨p, 0, none⟩)) (.pointer none)).run Try.prog W = .ok (.bool false) W := by go_simp
set_option maxRecDepth 100000 in
set_option maxHeartbeats 16000000 in
theorem tput_calls (F : Nat → Prop) (p : Nat) (s : Stk) (ps : List S29) (A : Option Addr) (ca : Nat) (w : World) (hS : IsStk F p s w) (hC : Kd.C k29 w A ps.length ps) (hps : ps.length ≤ 256) :
    Calls Try.prog 32 #[.pointer (some ⟨p, 0, none⟩), .slice A ps.length ca] w (StkPost F p (putT s ps).1 (.tuple #[.int .i64 (putT s ps).2.1, .int .i64 (putT s ps).2.2]) w) := by
  obtain ⟨pr, v1, v2, hp, hsr, ho1, ho2, hf1, hf2, hap⟩ := hS.row
  have hn := nn57 p
  have hu57 := Try.underlying57
  have hu100 := Try.underlying100
  obtain ⟨W, hW⟩ : ∃ W, W = w.alloc (.cells #[.pointer (some ⟨p, 0, none⟩)] 57) := ⟨_, rfl⟩
  obtain ⟨Q, hQ⟩ : ∃ Q, Q = w.heap.size := ⟨_, rfl⟩
  have hWb : Below w.heap.size w W := by rw [hW]; exact (Below.refl _ _).alloc (Nat.le_refl _) _
  have hQc : W.heap[Q]? = some (.cells #[.pointer (some ⟨p, 0, none⟩)] 57 (0, 0)) := by rw [hW, hQ]; exact blk_new w _
  have q0 : W.cell? ⟨Q, 0, none⟩ = some (.pointer (some ⟨p, 0, none⟩)) := blk_cell hQc 0
  have hpW := (hWb.block p (blk_lt hp)).trans hp
  have HCF := Aside0.mk (tcontains_calls s.m1 Q p A ca ps W (Kd.C_below hC hWb) (by omega) q0 (blk_cell hpW 5))
  have HPUT := Lib.hid (fun (W : World) (hb : Below w.heap.size w W) => put_calls F pr s.raw ps A ca W (hsr.below hb) (Kd.C_below hC hb) hps)
  obtain ⟨fb, hfb⟩ : ∃ b, b = (ps.any fun x => decide (x.f0 < s.m1)) := ⟨_, rfl⟩
  rw [← hfb] at HCF
  have HW := Aside0.mk hWb
  have HQC := Aside0.mk hQc
  have HP := Aside0.mk hp
  have HS := Aside0.mk hS
  have HR := Lib.hid (show IsSer F pr s.raw w ∧ w.ownsRow 0 31 5 v1 s.a1.length (s.a1.flatMap aggP) ∧ w.ownsRow 0 31 5 v2 s.a2.length (s.a2.flatMap aggP) ∧ (∀ g, v1.ownBlock = some g → F g) ∧ (∀ g, v2.ownBlock = some g → F g) ∧ (∀ g, v1.ownBlock = some g → v2.ownBlock ≠ some g) from ⟨hsr, ho1, ho2, hf1, hf2, hap⟩)
  have HPF := Lib.hid (fun (W : World) (e : W.heap[p]? = w.heap[p]?) => (show W.heap[p]? = some (.cells (stkCells pr v1 v2 s) 100 (0, 0)) from e.trans hp))
  clear hS hC hp hsr ho1 ho2 hf1 hf2 hap hpW hWb hQc
  cases fb with
  | true =>
    have HE := Aside0.mk (show putT s ps = (s, 0, 14) by unfold putT; rw [if_pos hfb.symm])
    clear hfb HPUT
    go_enter Try.func32, Try.ntmps32
    go_upto_region 1 with (fail)
    rw [← hW, ← hQ]
    clear hW hQ
    go_wp2_with fail
    refine HCF.out.mono ?_
    rintro e w1 ⟨rfl, h1⟩
    have HB1 := Aside0.mk (HW.out.trans (h1.mono HW.out.size))
    clear HCF h1 q0
    go_wp2
    go_ret2
    exact ⟨by rw [HE.out]; rfl, by rw [HE.out]; exact (HS.out.below HB1.out).mono fun b hb => Or.inl hb, Keep.of_below' HB1.out⟩
  | false =>
    have HE := Aside0.mk (show putT s ps = ({ s with raw := (putS s.raw ps).1 }, (putS s.raw ps).2.1, (putS s.raw ps).2.2) by unfold putT; rw [if_neg (by rw [← hfb]; simp)])
    clear hfb
    go_enter Try.func32, Try.ntmps32
    go_upto_region 1 with (fail)
    rw [← hW, ← hQ]
    clear hW hQ
    go_wp2_with fail
    refine HCF.out.mono ?_
    rintro e w1 ⟨rfl, h1⟩
    have HB1 := Aside0.mk (HW.out.trans (h1.mono HW.out.size))
    have HQ1 := Aside0.mk (show w1.heap[Q]? = _ from (h1.block Q (blk_lt HQC.out)).trans HQC.out)
    have HP1 := Aside0.mk (show w1.heap[p]? = some (.cells (stkCells pr v1 v2 s) 100 (0, 0)) from (HB1.out.block p (blk_lt HP.out)).trans HP.out)
    clear HCF h1 q0
    have q0 : w1.cell? ⟨Q, 0, none⟩ = some (.pointer (some ⟨p, 0, none⟩)) := blk_cell HQ1.out 0
    have q1 : w1.cell? ⟨p, 0, none⟩ = some (.pointer (some ⟨pr, 0, none⟩)) := blk_cell HP1.out 0
    go_wp2_with fail
    refine (HPUT.out w1 HB1.out).mono ?_
    rintro e w2 ⟨rfl, hs2, hk2⟩
    have HS2 := Aside0.mk hs2
    have HK2 := Aside0.mk hk2
    clear hs2 hk2 HPUT
    go_wp2
    go_ret2
    obtain ⟨hsr, ho1, ho2, hf1, hf2, hap⟩ := HR.out
    have hk := (Keep.of_below' (S := fun b => b = pr) HB1.out).trans' HK2.out (fun b _ h => h)
    have h := HS.out.newraw HP.out hsr ho1 ho2 hf1 hf2 hap hk (HS2.out.mono fun b hb => by
      rcases hb with hb | hb
      · exact .inl hb
      · have := HB1.out.size
        exact .inr ⟨by omega, hb.2⟩)
    exact ⟨by rw [HE.out]; rfl, by rw [HE.out]; exact h.1, h.2⟩
theorem nil57 (W : World) : (binOp .eql 57 (.pointer none) (.pointer none)).run Try.prog W = .ok (.bool true) W := by go_simp
set_option maxRecDepth 100000 in
set_option maxHeartbeats 8000000 in
theorem tpoints_calls (F : Nat → Prop) (p : Nat) (s : Stk) (a b : Int) (w : World) (hS : IsStk F p s w) :
    Calls Try.prog 45 #[.pointer (some ⟨p, 0, none⟩), .agg #[.int .i64 a, .int .i64 b]] w (NewPost (inR a b s.raw) w) := by
  obtain ⟨pr, v1, v2, hp, hsr, _⟩ := hS.row
  have hn := nn57 p
  have hu42 := Try.underlying42
  have hu100 := Try.underlying100
  obtain ⟨W, hW⟩ : ∃ W, W = w.alloc (.cells #[.int .i64 a, .int .i64 b] 42) := ⟨_, rfl⟩
  obtain ⟨Q, hQ⟩ : ∃ Q, Q = w.heap.size := ⟨_, rfl⟩
  have hWb : Below w.heap.size w W := by rw [hW]; exact (Below.refl _ _).alloc (Nat.le_refl _) _
  have hQc : W.heap[Q]? = some (.cells #[.int .i64 a, .int .i64 b] 42 (0, 0)) := by rw [hW, hQ]; exact blk_new w _
  have hpW := (hWb.block p (blk_lt hp)).trans hp
  have q0 : W.cell? ⟨p, 0, none⟩ = some (.pointer (some ⟨pr, 0, none⟩)) := blk_cell hpW 0
  have q1 : W.cell? ⟨Q, 0, none⟩ = some (.int .i64 a) := blk_cell hQc 0
  have q2 : W.cell? ⟨Q, 1, none⟩ = some (.int .i64 b) := blk_cell hQc 1
  have HW := Aside0.mk hWb
  have HG := Aside0.mk (get_ser F pr s.raw a b W.drew ((hsr.below hWb).below (pw_below_drewN (Below.refl _ _) 1)))
  clear hS hp hsr hWb hQc hpW
  go_enter Try.func45, Try.ntmps45
  go_upto_region 3 with (fail)
  rw [← hW, ← hQ]
  clear hW hQ
  go_wp2_with fail
  refine start_ (n := 7) (S := fun w' => (w'.cell? ⟨p, 0, none⟩ = some (.pointer (some ⟨pr, 0, none⟩))) ∧ (w'.cell? ⟨Q, 0, none⟩ = some (.int .i64 a)) ∧ (w'.cell? ⟨Q, 1, none⟩ = some (.int .i64 b))) (ds := []) #[false, false, false, false, false, false, false] (by kernel_rfl) rfl rfl ⟨q0, q1, q2⟩ (fun hHeld => ?_)
  refine pure_ (i := 0) (N := some 7) (v := ?_) (a' := ?_) #[true, false, false, false, false, false, false] rfl rfl (by kernel_rfl) (fun _ _ _ h => h) (Or.inl ⟨by rfl, ?_⟩) ?_ ?_
  rotate_left
  · intro w'
    go_simp
    with_reducible rfl
  rotate_left
  · simp only [Act.put, List.setIfInBounds_toArray, List.set_cons_zero, List.set_cons_succ, i64_w, i32_w]
    rfl
  refine pure_ (i := 1) (N := some 8) (v := ?_) (a' := ?_) #[true, true, false, false, false, false, false] rfl rfl (by kernel_rfl) (fun _ _ _ h => h) (Or.inl ⟨by rfl, ?_⟩) ?_ ?_
  rotate_left
  · intro w'
    go_simp
    with_reducible rfl
  rotate_left
  · simp only [Act.put, List.setIfInBounds_toArray, List.set_cons_zero, List.set_cons_succ, i64_w, i32_w]
    rfl
  refine pure_ (i := 2) (N := some 9) (v := ?_) (a' := ?_) #[true, true, true, false, false, false, false] rfl rfl (by kernel_rfl) (fun _ _ _ h => h) (Or.inl ⟨by rfl, ?_⟩) ?_ ?_
  rotate_left
  · intro w'
    go_simp
    with_reducible rfl
  rotate_left
  · simp only [Act.put, List.setIfInBounds_toArray, List.set_cons_zero, List.set_cons_succ, i64_w, i32_w]
    rfl
  refine take_ (i := 3) (N := some 10) (v := ?_) (a' := ?_) #[true, true, true, true, false, false, false] rfl rfl (by kernel_rfl) (fun _ _ _ h => h) (Or.inl ⟨by rfl, ?_⟩) hHeld ?_ ?_
  rotate_left
  · rintro w' ⟨s0, s1, s2⟩
    go_simp
    with_reducible rfl
  rotate_left
  · simp only [Act.put, List.setIfInBounds_toArray, List.set_cons_zero, List.set_cons_succ, i64_w, i32_w]
    rfl
  refine take_ (i := 4) (N := some 11) (v := ?_) (a' := ?_) #[true, true, true, true, true, false, false] rfl rfl (by kernel_rfl) (fun _ _ _ h => h) (Or.inl ⟨by rfl, ?_⟩) hHeld ?_ ?_
  rotate_left
  · rintro w' ⟨s0, s1, s2⟩
    go_simp
    with_reducible rfl
  rotate_left
  · simp only [Act.put, List.setIfInBounds_toArray, List.set_cons_zero, List.set_cons_succ, i64_w, i32_w]
    rfl
  refine one_ (i := 5) (N := some 12) #[true, true, true, true, true, true, false] rfl rfl (by kernel_rfl) (by decide) (fun K hK => ?_)
  refine goes_ Try.func20 (by kernel_rfl) rfl #[.pointer (some ⟨pr, 0, none⟩), .agg #[.int .i64 a, .int .i64 b]] (by rfl) rfl rfl (by simp only [List.map_toArray, List.map_cons, List.map_nil]; rfl) ?_
  with_reducible refine (HG.out).mono ?_
  rintro e w2 hh
  obtain ⟨v2, rfl, ho2, h2⟩ := hh
  have HO2 := Aside0.mk ho2
  have HB2 := Aside0.mk ((pw_below_drewN HW.out 1).trans (h2.mono HW.out.size))
  have k0 := bread h2 hHeld.1
  have k1 := bread h2 hHeld.2.1
  have k2 := bread h2 hHeld.2.2
  clear h2 ho2
  refine ⟨_, rfl, ?_⟩
  refine hK.out _ _ ⟨k0, k1, k2⟩ (fun hHeld => ?_)
  clear hK K
  refine norm_ (a' := ?_) ?_ ?_
  rotate_left
  · show Act.put _ (some 12) _ = _
    simp only [Act.put, List.setIfInBounds_toArray, List.set_cons_zero, List.set_cons_succ, i64_w, i32_w]
    rfl
  refine pure_ (i := 6) (N := some 4) (v := ?_) (a' := ?_) #[true, true, true, true, true, true, true] rfl rfl (by kernel_rfl) (fun _ _ _ h => h) (Or.inl ⟨by rfl, ?_⟩) ?_ ?_
  rotate_left
  · intro w'
    go_simp
    with_reducible rfl
  rotate_left
  · simp only [Act.put, List.setIfInBounds_toArray, List.set_cons_zero, List.set_cons_succ, i64_w, i32_w]
    rfl
  refine done_ (by kernel_rfl) ?_
  go_wp2
  go_ret
  exact ⟨_, rfl, row_mono HO2.out HW.out.size, HB2.out⟩
set_option maxRecDepth 100000 in
theorem tpoints_nil (a b : Int) (w : World) : Calls Try.prog 45 #[.pointer none, .agg #[.int .i64 a, .int .i64 b]] w fun e w' => e = .returned (.slice none 0 0) ∧ Below w.heap.size w w' := by
  have hn := nil57
  go_enter Try.func45, Try.ntmps45
  go_wp2
  go_ret
  exact ⟨rfl, (Below.refl _ _).alloc (Nat.le_refl _) _⟩
set_option maxRecDepth 100000 in
theorem tput_nil (v : Value) (w : World) : Calls Try.prog 32 #[.pointer none, v] w fun e w' => e = .returned (.tuple #[.int .i64 0, .int .i64 1]) ∧ Below w.heap.size w w' := by
  have hn := nil57
  go_enter Try.func32, Try.ntmps32
  go_wp2
  go_ret2
  exact ⟨rfl, (Below.refl _ _).alloc (Nat.le_refl _) _⟩
end Go.Proofs.Ytnjdngjlbonieaa
