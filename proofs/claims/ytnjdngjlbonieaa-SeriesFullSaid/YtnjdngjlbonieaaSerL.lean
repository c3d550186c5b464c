/- series.joined and Put, walked. -/
import Derived.Test.YtnjdngjlbonieaaSerK
import Derived.Lib.Hide
import Derived.LoopTactic
import Derived.Outline
import Derived.Laws.Rows
import Derived.Laws.CopyOwn
import Derived.WalkKit
set_option linter.unusedVariables false
set_option linter.unusedSimpArgs false
namespace Go.Proofs.Ytnjdngjlbonieaa
open Go.RowKit Go.Proofs.YtnjdngjlbonieaaW.PrintWords Go.Proofs.YtnjdngjlbonieaaW.PrintLast Go.Proofs.YtnjdngjlbonieaaW.PrintMore
open Go.Proofs.Ytnjdngjlbonieaa.PRollWindows
attribute [local go_sem] max2_int min2_int max_two min_two max_three min_three max_four min_four

open RollOfPure
/-- A series at p: its points, in a row of its own; all of it lies in the blocks F. -/
structure IsSer (F : Nat → Prop) (p : Nat) (l : List S29) (w : World) : Prop where
  ris : Ris l
  len : l.length ≤ 256
  own : F p
  row : ∃ v, w.heap[p]? = some (.cells #[v] 91 (0, 0)) ∧ w.ownsRow 0 29 2 v l.length (l.flatMap cellsP) ∧ ∀ g, v.ownBlock = some g → F g
theorem putA_snoc (l ps : List S29) (p : S29) : putA l (ps ++ [p]) = putL (putA l ps) p := by unfold putA; rw [List.foldl_append]; rfl
theorem putL_le (l : List S29) (p : S29) : (putL l p).length ≤ l.length + 1 := by
  unfold putL
  have h : ∀ (k : List S29) (P Q : S29 → Bool), (∀ x, P x = true → Q x = false) → (k.filter P).length + (k.filter Q).length ≤ k.length := by
    intro k P Q h
    induction k with
    | nil => simp
    | cons a r ih =>
      rw [List.filter_cons, List.filter_cons]
      cases hp : P a with
      | true => rw [h a hp]; simp; omega
      | false => cases Q a <;> simp <;> omega
  have := h l (fun x => decide (x.f0 < p.f0)) (fun x => decide (p.f0 < x.f0)) (fun x hx => by simp at hx ⊢; omega)
  simp only [List.length_append, List.length_cons]
  omega
theorem putA_le (ps l : List S29) : (putA l ps).length ≤ l.length + ps.length := by
  induction ps generalizing l with
  | nil => exact Nat.le_refl _
  | cons p r ih =>
    have h1 := ih (putL l p)
    have h2 := putL_le l p
    show (putA (putL l p) r).length ≤ _
    rw [List.length_cons]
    omega
/-- What joined leaves: a new row. -/
def NewPost (l : List S29) (w : World) (e : Ending) (w' : World) : Prop := ∃ v', e = .returned v' ∧ w'.ownsRow w.heap.size 29 2 v' l.length (l.flatMap cellsP) ∧ Below w.heap.size w w'
set_option maxRecDepth 100000 in
set_option maxHeartbeats 16000000 in
theorem joined_calls (p : Nat) (v : Value) (l ps : List S29) (A : Option Addr) (ca : Nat) (w : World) (hp : w.heap[p]? = some (.cells #[v] 91 (0, 0))) (ho : w.ownsRow 0 29 2 v l.length (l.flatMap cellsP)) (hr : Ris l) (hl : l.length ≤ 256) (hC : Kd.C k29 w A ps.length ps) (hps : ps.length ≤ 256) :
    Calls Try.prog 61 #[.pointer (some ⟨p, 0, none⟩), .slice A ps.length ca] w (NewPost (putA l ps) w) := by
  obtain ⟨As, cs, rfl⟩ := row_form ho
  have hKd := kdC_of ho (by omega)
  have hcl := clone_calls As cs l w hKd.1 (by omega) (fun e => by
    rcases ho.2 with ⟨e1, e2⟩ | ⟨g, c2, cur, e1, _⟩
    · injection e1
    · rw [e] at e1; injection e1 with e1; cases e1)
  have HCL := Aside0.mk hcl
  have HC := Aside0.mk hC
  have HR := Aside0.mk hr
  have q0 : w.cell? ⟨p, 0, none⟩ = some (.slice As l.length cs) := blk_cell hp 0
  have hu91 := Try.underlying91
  have hu29 := Try.underlying29
  clear hcl hC hr hp ho hKd
  go_enter Try.func61, Try.ntmps61
  go_wp2_with fail
  refine HCL.out.mono ?_
  rintro e w1 ⟨v1, rfl, ho1, h1⟩
  have HO1 := Aside0.mk ho1
  have HB1 := Aside0.mk h1
  clear HCL ho1 h1
  go_wp2_with fail
  go_loopw [5, 15] (fun v5 v15 wr => ∃ (j : Nat) (vr : Value), j ≤ ps.length ∧ v5 = vr ∧ v15 = .int .i64 (j : Int) ∧ Aside0 (wr.ownsRow w.heap.size 29 2 vr (putA l (ps.take j)).length ((putA l (ps.take j)).flatMap cellsP)) ∧ Aside0 (Below w.heap.size w wr)) (fun _ v _ => ps.length - (intOf v).toNat)
  case atStart => exact ⟨0, _, by omega, rfl, rfl, HO1, HB1⟩
  case round =>
    clear HO1 HB1
    obtain ⟨j, vr, hj, hv5, rfl, HO, HB⟩ := hrel
    obtain rfl := hv5.symm
    by_cases hlt : j < ps.length
    · obtain ⟨ad, hAe, hcell⟩ := cells29 HC.out (by omega)
      subst hAe
      obtain ⟨x, hx⟩ : ∃ x, ps[j]? = some x := ⟨_, List.getElem?_eq_getElem hlt⟩
      have hcx := hcell j x hx
      have u0 : wr.cell? (ad.add (j * 2)) = some (.int .i64 x.f0) := by rw [HB.out.cell (World.block_lt_of_cell? w _ hcx.1)]; exact hcx.1
      have u1 : wr.cell? ⟨(ad.add (j * 2)).block, (ad.add (j * 2)).off + 1, none⟩ = some (.int .i64 x.f1) := by rw [HB.out.cell (World.block_lt_of_cell? w _ hcx.2)]; exact hcx.2
      have hjl : (j : Int) < (ps.length : Int) := by omega
      have hle := putA_le (ps.take j) l
      rw [List.length_take] at hle
      obtain ⟨W, hW⟩ : ∃ W, W = wr.alloc (.cells #[.int .i64 x.f0, .int .i64 x.f1] 29) := ⟨_, rfl⟩
      have HW2 := Aside0.mk (with_calls w.heap.size vr (putA l (ps.take j)) x W (by rw [hW]; exact HO.out.alloc _) (by rw [hW]; have := HB.out.size; simp; omega) (by omega) (ris_putA HR.out))
      have HBW := Aside0.mk (show Below w.heap.size w W by rw [hW]; exact HB.out.alloc HB.out.size _)
      have HVW := Aside0.mk (show ∀ g, vr.ownBlock = some g → w.heap.size ≤ g from fun g hg => (HO.out.lt g hg).1)
      have HTAKE := Aside0.mk (show putA l (ps.take (j + 1)) = putL (putA l (ps.take j)) x by
        obtain ⟨hj2, he⟩ := List.getElem?_eq_some_iff.1 hx
        rw [List.take_succ_eq_append_getElem hj2, he, putA_snoc])
      clear hcell hx hcx HO HB hle
      go_wp2_with fail
      rw [← hW]
      refine HW2.out.mono ?_
      rintro e w2 ⟨v', rfl, ho2, hg2⟩
      have HO2 := Aside0.mk (show w2.ownsRow w.heap.size 29 2 v' (putA l (ps.take (j + 1))).length ((putA l (ps.take (j + 1))).flatMap cellsP) by rw [HTAKE.out]; exact ho2)
      have HB2 := Aside0.mk (HBW.out.grown hg2 HBW.out.size HVW.out)
      clear ho2 hg2 hW HW2 HTAKE
      go_wp2_with fail
      go_roundw
      case rel => exact ⟨j + 1, _, by omega, rfl, rfl, HO2, HB2⟩
      case measure => simp [intOf]; omega
    · have hje : j = ps.length := by omega
      subst hje
      have HO2 := HO.out
      rw [List.take_length] at HO2
      have HO3 := Aside0.mk HO2
      clear HO2 HO hlt hj
      go_wp2
      go_ret
      exact ⟨_, rfl, HO3.out, HB.out⟩
/-- What Put makes of a series, and answers. -/
def putS (l ps : List S29) : List S29 × Int × Int := if (ps.any fun x => outB x.f0) = true then (l, 0, 3) else if 256 < (putA l ps).length then (l, 0, 6) else (putA l ps, ((putA l ps).length : Int) - (l.length : Int), 0)
/-- What was there, and what has come. -/
def More (F : Nat → Prop) (w w' : World) : Nat → Prop := fun b => F b ∨ (w.heap.size ≤ b ∧ b < w'.heap.size)
theorem IsSer.keep {F S : Nat → Prop} {p : Nat} {l : List S29} {w w' : World} (h : IsSer F p l w) (hk : Keep S w w') (hS : ∀ b, F b → ¬ S b) : IsSer F p l w' := by
  obtain ⟨v, h1, h2, h3⟩ := h.row
  exact ⟨h.ris, h.len, h.own, v, hk.blk h1 (hS p h.own), hk.row h2 (fun g hg => hS g (h3 g hg)), h3⟩
theorem IsSer.mono {F G : Nat → Prop} {p : Nat} {l : List S29} {w : World} (h : IsSer F p l w) (hG : ∀ b, F b → G b) : IsSer G p l w := by
  obtain ⟨v, h1, h2, h3⟩ := h.row
  exact ⟨h.ris, h.len, hG _ h.own, v, h1, h2, fun g hg => hG g (h3 g hg)⟩
theorem IsSer.below {F : Nat → Prop} {p : Nat} {l : List S29} {w w' : World} (h : IsSer F p l w) (hk : Below w.heap.size w w') : IsSer F p l w' := by
  obtain ⟨v, h1, h2, h3⟩ := h.row
  exact ⟨h.ris, h.len, h.own, v, (hk.block p (blk_lt h1)).trans h1, own_kept h2 fun b hb => hk.block b (h2.lt b hb).2, h3⟩
def PutPost (F : Nat → Prop) (p : Nat) (l ps : List S29) (w : World) (e : Ending) (w' : World) : Prop :=
  e = .returned (.tuple #[.int .i64 (putS l ps).2.1, .int .i64 (putS l ps).2.2]) ∧ IsSer (More F w w') p (putS l ps).1 w' ∧ Keep (fun b => b = p) w w'
theorem put_nil (v : Value) (w : World) : Calls Try.prog 19 #[.pointer none, v] w fun e w' => e = .returned (.tuple #[.int .i64 0, .int .i64 1]) ∧ w = w' := by
  have hn : ∀ W, (binOp .eql 35 (.pointer none) (.pointer none)).run Try.prog W = .ok (.bool true) W := fun W => by go_simp
  go_enter Try.func19, Try.ntmps19
  go_wp2
  go_ret2
  exact ⟨rfl, rfl⟩
set_option maxRecDepth 100000 in
set_option maxHeartbeats 16000000 in
theorem put_calls (F : Nat → Prop) (p : Nat) (l ps : List S29) (A : Option Addr) (ca : Nat) (w : World) (hS : IsSer F p l w) (hC : Kd.C k29 w A ps.length ps) (hps : ps.length ≤ 256) :
    Calls Try.prog 19 #[.pointer (some ⟨p, 0, none⟩), .slice A ps.length ca] w (PutPost F p l ps w) := by
  obtain ⟨v, hp, ho, hv⟩ := hS.row
  have HCF := Aside0.mk (contains_calls A ca ps w hC (by omega))
  have HJ := Lib.hid (fun W (hb : Below w.heap.size w W) => joined_calls p v l ps A ca W ((hb.block p (blk_lt hp)).trans hp) (own_kept ho fun b hb2 => hb.block b (ho.lt b hb2).2) hS.ris hS.len (Kd.C_below hC hb) hps)
  obtain ⟨As, cs, rfl⟩ := row_form ho
  have HS := Aside0.mk hS
  have HP := Aside0.mk hp
  have hle := putA_le ps l
  have hl := hS.len
  have hu91 := Try.underlying91
  have hn : ∀ W, (binOp .eql 35 (.pointer (some ⟨p, 0, none⟩)) (.pointer none)).run Try.prog W = .ok (.bool false) W := fun W => by go_simp
  clear hS hC ho hv hp
  obtain ⟨fb, hfb⟩ : ∃ b, b = (ps.any fun x => outB x.f0) := ⟨_, rfl⟩
  rw [← hfb] at HCF
  cases fb with
  | true =>
    have e : putS l ps = (l, 0, 3) := by unfold putS; rw [if_pos hfb.symm]
    have HE := Aside0.mk e
    clear hfb e HJ
    go_enter Try.func19, Try.ntmps19
    go_wp2_with fail
    refine HCF.out.mono ?_
    rintro e w1 ⟨rfl, h1⟩
    have HB1 := Aside0.mk h1
    clear HCF h1
    go_wp2
    go_ret2
    exact ⟨by rw [HE.out]; rfl, by rw [HE.out]; exact (HS.out.below HB1.out).mono fun b hb => Or.inl hb, (Keep.of_below HB1.out).mono fun b hb h => by omega⟩
  | false =>
    have HFB := Aside0.mk hfb
    clear hfb
    go_enter Try.func19, Try.ntmps19
    go_wp2_with fail
    refine HCF.out.mono ?_
    rintro e w1 ⟨rfl, h1⟩
    have HB1 := Aside0.mk h1
    clear HCF h1
    go_wp2_with fail
    refine (HJ.out _ HB1.out).mono ?_
    rintro e w2 ⟨v2, rfl, ho2, h2⟩
    have HB2 := Aside0.mk (HB1.out.trans (h2.mono HB1.out.size))
    have HO2 := Aside0.mk (row_mono ho2 HB1.out.size)
    have HP2 := Aside0.mk (show w2.heap[p]? = _ from (HB2.out.block p (blk_lt HP.out)).trans HP.out)
    clear HJ h2 ho2
    obtain ⟨A2, c2, hA2⟩ := row_form HO2.out
    subst hA2
    by_cases hbig : 256 < (putA l ps).length
    · have e : putS l ps = (l, 0, 6) := by unfold putS; rw [if_neg (by rw [← HFB.out]; simp), if_pos hbig]
      have d1 : decide (((putA l ps).length : Int) > 256) = true := decide_eq_true (by omega)
      have d2 : decide ((256 : Int) < ((putA l ps).length : Int)) = true := decide_eq_true (by omega)
      have d3 : decide (256 < (putA l ps).length) = true := decide_eq_true hbig
      have HE := Aside0.mk e
      clear e
      go_wp2
      go_ret2
      exact ⟨by rw [HE.out]; rfl, by rw [HE.out]; exact (HS.out.below HB2.out).mono fun b hb => Or.inl hb, (Keep.of_below HB2.out).mono fun b hb h => by omega⟩
    · have e : putS l ps = (putA l ps, ((putA l ps).length : Int) - (l.length : Int), 0) := by unfold putS; rw [if_neg (by rw [← HFB.out]; simp), if_neg hbig]
      have d1 : decide (((putA l ps).length : Int) > 256) = false := decide_eq_false (by omega)
      have d2 : decide ((256 : Int) < ((putA l ps).length : Int)) = false := decide_eq_false (by omega)
      have d3 : decide (256 < (putA l ps).length) = false := decide_eq_false hbig
      have q0 : w2.cell? ⟨p, 0, none⟩ = some (.slice As l.length cs) := blk_cell HP2.out 0
      have x0 : w2.frozen? ⟨p, 0, none⟩ = false := blk_frozen HP2.out _
      have hw1 : wrap64 (((putA l ps).length : Int) - (l.length : Int)) = ((putA l ps).length : Int) - (l.length : Int) := by unfold wrap64; omega
      have HE := Aside0.mk e
      clear e
      go_wp2
      go_ret2
      refine ⟨by rw [HE.out]; rfl, ?_, ?_⟩
      · rw [HE.out]
        refine ⟨ris_putA HS.out.ris, by show (putA l ps).length ≤ 256; omega, .inl HS.out.own, _, by rw [show (#[Value.slice A2 (putA l ps).length c2] : Array Value) = (#[Value.slice As l.length cs] : Array Value).setIfInBounds 0 (Value.slice A2 (putA l ps).length c2) from rfl]; exact blk_set HP2.out 0 _, row_mono (own_cell HO2.out HP2.out (by decide) 0 _) (Nat.zero_le _), fun g hg => ?_⟩
        have := HO2.out.lt g hg
        exact .inr ⟨this.1, by simpa [World.setCell] using this.2⟩
      · exact Keep.setCell (S := fun b => b = p) ((Keep.of_below HB2.out).mono fun b hb h => by omega) (fun _ => rfl) _
end Go.Proofs.Ytnjdngjlbonieaa
