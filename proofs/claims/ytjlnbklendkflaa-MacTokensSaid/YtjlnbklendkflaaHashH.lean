/- The law HashParts, walked. -/
import Derived.Test.YtjlnbklendkflaaHashG
import Derived.Lib.Hide
import Derived.LoopTactic
import Derived.Outline
import Derived.Laws.Rows
import Derived.Laws.CopyOwn
import Derived.WalkKit
set_option linter.unusedVariables false
set_option linter.unusedSimpArgs false
namespace Go.Proofs.Ytjlnbklendkflaa
open Go.RowKit Go.Proofs.YtjlnbklendkflaaW.PrintWords Go.Proofs.YtjlnbklendkflaaW.PrintLast Go.Proofs.YtjlnbklendkflaaW.PrintMore
open Go.Proofs.Ytjlnbklendkflaa.PHashSums


section
variable {ops : Array Oper} {rest : List Oper} {o : Oper} {a : Act} {Q : Exit → Act → World → Prop}
/-- append of bytes that are read to a row of one's own. -/
theorem append_src {W : World} (base : Nat) (hgd : o.guard = none) (s x : Operand)
    (ho : o.op = .call { callee := .builtin .append, args := #[s, x], argTypes := #[22, 22] })
    (v : Value) (xs ys : List Int) (A : Option Addr) (m c : Nat) (hs : a.eval s = v) (hx : a.eval x = .slice A m c)
    (HO : W.ownsRow base 5 1 v xs.length (nums .u8 xs)) (HR : SrcB W (.slice A m c) ys) (hm : m = ys.length) (hbase : base ≤ W.heap.size) (hl : xs.length + ys.length ≤ 1000000000)
    (h : ∀ v1 w1, w1.ownsRow base 5 1 v1 (xs ++ ys).length (nums .u8 (xs ++ ys)) → W.grownBy w1 v.ownBlock → wpList Try.prog ops Q rest (a.put o.dst v1) w1) :
    wpList Try.prog ops Q (o :: rest) a W := by
  obtain ⟨i0, hi, hz0, hz1, hz2⟩ := info_parts infoByte
  have hrun : ∃ v1 w1, (Builtin.append_ #[22, 22] o.type #[v, .slice A m c]).run Try.prog W = .ok v1 w1 ∧ w1.ownsRow base 5 1 v1 (xs ++ ys).length (nums .u8 (xs ++ ys)) ∧ W.grownBy w1 v.ownBlock := by
    rcases HR with ⟨c', e, rfl⟩ | ⟨ad, c', e, hc⟩
    · injection e with e1 e2 e3
      subst e1 e2
      refine ⟨v, W, ?_, by simpa using HO, World.grownBy.refl W _⟩
      rcases HO.2 with ⟨rfl, hn⟩ | ⟨g, cap, cur, rfl, _, _, hnc, _⟩
      · simp [Builtin.append_, run_underlying Try.underlying22, sizeOf, typeInfo, hi, Builtin.lenOf, Builtin.firstCells]
      · simp [Builtin.append_, run_underlying Try.underlying22, sizeOf, typeInfo, hi, Builtin.lenOf, Builtin.firstCells, hnc, storeCells]
    · injection e with e1 e2 e3
      subst e1
      subst e3
      obtain ⟨v1, w1, hr, h2, h3, _, h5⟩ := run_append_own_at (P := Try.prog) W base 22 o.type 5 i0 _ 1 1 Try.underlying22 hi hz0 hz1 hz2 rfl (by omega) v xs.length (nums .u8 xs) HO ad m c (nums .u8 ys) (by rw [nums_length, hm]; omega) (fun j u hu => by
          unfold nums at hu
          rw [List.getElem?_map] at hu
          obtain ⟨x, hx, rfl⟩ := Option.map_eq_some_iff.1 hu
          exact hc j x hx)
        (fun u hu => by obtain ⟨q, _, rfl⟩ := List.mem_map.1 hu; rfl) (by simp only [maxLen]; omega) (by omega) hbase
      exact ⟨v1, w1, hr, by rw [List.length_append, ← hm]; simpa [nums] using h2, h3⟩
  obtain ⟨v1, w1, hr, hown, hg⟩ := hrun
  refine wpList_plain hgd fun K hK => ?_
  unfold Oper.wp execOp
  simp only [ho, resolve, invoke, builtin, Sem.run_bind, Sem.run_pure, Result.andThen_ok, List.map_toArray, List.map_cons, List.map_nil, hs, hx, hr]
  exact hK _ _ (h v1 w1 hown hg)
end
theorem Apart.of_block {p g : Nat} {w w1 : World} (h : Apart p w g) (hb : w1.heap[p]? = w.heap[p]?) : Apart p w1 g := by
  obtain ⟨hs, vr, n, h1, h2, h3⟩ := h
  exact ⟨hs, vr, n, h1, hb.trans h2, h3⟩
set_option maxRecDepth 100000 in
set_option maxHeartbeats 4000000 in
theorem new_apart (w : World) : Calls Try.prog 13 #[] w fun e w' => ∃ q, e = .returned (.pointer (some ⟨q, 0, none⟩)) ∧ w.heap.size ≤ q ∧ IsH q [] w' ∧ Below w.heap.size w w' ∧ ∀ g, Apart q w' g := by
  go_enter Try.func13, Try.ntmps13
  go_wp2
  go_ret
  refine ⟨_, rfl, by simp, ⟨.slice none 0 0, blk_new w _, ⟨none, 0, 0, rfl, rfl, by omega, by omega, .inl ⟨0, rfl, rfl⟩, by simp [Value.ownBlock], fun _ => rfl⟩⟩, (Below.refl _ _).alloc (Nat.le_refl _) _, fun g => ⟨H0, .slice none 0 0, 0, rfl, blk_new w _, by simp [Value.ownBlock]⟩⟩
theorem write_nil (v : Value) (w : World) : Calls Try.prog 14 #[.pointer none, v] w fun e w' => e = .returned (.tuple #[]) ∧ w = w' := by
  go_enter Try.func14, Try.ntmps14
  go_wp2
  refine bodyPost_ret (v := .tuple #[]) (results_none rfl _ _ _) rfl ⟨rfl, rfl⟩
/-- A cut of bytes that are read. -/
theorem SrcB.cut {w : World} {A : Option Addr} {n c : Nat} {l : List Int} (h : SrcB w (.slice A n c) l) (hn : n = l.length) (i j : Nat) (hij : i ≤ j) (hj : j ≤ n) (hc : n ≤ c) (D : Option Addr)
    (hD : (if c = i then A else Option.map (fun x => x.add i) A) = D) (c2 : Nat) : SrcB w (.slice D (j - i) c2) ((l.take j).drop i) := by
  have hlen : ((l.take j).drop i).length = j - i := by rw [List.length_drop, List.length_take]; omega
  rcases h with ⟨c', e, h0⟩ | ⟨ad, c', e, hc'⟩
  · injection e with e1 e2 e3
    subst e1
    have hl0 : l.length = 0 := by rw [h0]; rfl
    have hz : j - i = 0 := by omega
    have hDn : D = none := by rw [← hD]; split <;> rfl
    rw [hDn, hz]
    exact .inl ⟨c2, rfl, List.eq_nil_of_length_eq_zero (by omega)⟩
  · injection e with e1 e2 e3
    subst e1
    by_cases hz : j - i = 0
    · have hnil : (l.take j).drop i = [] := List.eq_nil_of_length_eq_zero (by omega)
      rw [hnil, hz]
      obtain ⟨d, hd⟩ : ∃ d, D = some d := by
        rw [← hD]
        by_cases hci : c = i
        · rw [if_pos hci]; exact ⟨_, rfl⟩
        · rw [if_neg hci]; exact ⟨_, rfl⟩
      rw [hd]
      exact .inr ⟨d, c2, rfl, fun j x hx => by cases hx⟩
    · have hcell : ∀ (k : Nat) (x : Int), ((l.take j).drop i)[k]? = some x → w.cell? (ad.add (i + k)) = some (.int .u8 x) := fun k x hx => by
        have hk := (List.getElem?_eq_some_iff.1 hx).1
        rw [List.getElem?_drop, List.getElem?_take_of_lt (by omega)] at hx
        exact hc' _ _ hx
      rw [if_neg (by omega)] at hD
      rw [← hD]
      refine .inr ⟨ad.add i, c2, by rw [hlen]; rfl, fun k x hx => ?_⟩
      rw [Addr.add_add]
      exact hcell k x hx
theorem take_drop_join (b : List Int) (i n : Nat) : b.take i ++ (b.take (i + n)).drop i = b.take (i + n) := by
  have h : (b.take (i + n)).take i = b.take i := by rw [List.take_take, Nat.min_eq_left (by omega)]
  rw [← h, List.take_append_drop]
theorem SrcB.head {w : World} {A : Option Addr} {n c : Nat} {l : List Int} (h : SrcB w (.slice A n c) l) (hn : n = l.length) (j : Nat) (hj : j ≤ n) (c2 : Nat) : SrcB w (.slice A j c2) (l.take j) := by
  have hlen : (l.take j).length = j := by rw [List.length_take]; omega
  rcases h with ⟨c', e, h0⟩ | ⟨ad, c', e, hc'⟩
  · injection e with e1 e2 e3
    subst h0
    have hj0 : j = 0 := by simp at hn; omega
    subst hj0
    exact .inl ⟨c2, by rw [e1], by simp⟩
  · injection e with e1 e2 e3
    subst e1
    refine .inr ⟨ad, c2, by rw [hlen], fun k x hx => ?_⟩
    have hk := (List.getElem?_eq_some_iff.1 hx).1
    rw [List.getElem?_take_of_lt (by omega)] at hx
    exact hc' k x hx
/-- Between two cuts. -/
structure PInv (w : World) (p : Nat) (m : List Int) (wr : World) : Prop where
  bel : Below w.heap.size w wr
  is : IsH p m wr
  ap : ∀ g, wr.heap.size ≤ g → Apart p wr g
theorem PInv.later {w wr w1 : World} {p : Nat} {m : List Int} (h : PInv w p m wr) (hb : Below wr.heap.size wr w1) : PInv w p m w1 :=
  ⟨h.bel.trans (hb.mono h.bel.size), h.is.below hb, fun g hg => (h.ap g (by have := hb.size; omega)).of_block (hb.block p h.is.lt)⟩
/-- Between two stores into the law's own bytes. -/
structure QInv (w : World) (B p : Nat) (m : List Int) (v4 : Value) (n : Nat) (xs : List Int) (wr : World) : Prop where
  pin : PInv w p m wr
  row : wr.ownsRow B 5 1 v4 n (nums .u8 xs)
  len : xs.length = n
  apo : ∀ g, v4.ownBlock = some g → Apart p wr g
theorem QInv.set {w wr : World} {B p : Nat} {m xs : List Int} {g n c : Nat} (h : QInv w B p m (.slice (some ⟨g, 0, none⟩) n c) n xs wr) (hwB : w.heap.size ≤ B) (hpB : p < B) (i : Nat) (y : Int) :
    QInv w B p m (.slice (some ⟨g, 0, none⟩) n c) n (xs.set i y) (wr.setCell ⟨g, i, none⟩ (.int .u8 y)) := by
  have hgB : B ≤ g := (h.row.lt g rfl).1
  have k : Keep (fun i => i = g) wr (wr.setCell ⟨g, i, none⟩ (.int .u8 y)) := (Keep.refl (fun i => i = g) wr).setCell (p := ⟨g, i, none⟩) (fun _ => rfl) _
  have hbp : (wr.setCell ⟨g, i, none⟩ (.int .u8 y)).heap[p]? = wr.heap[p]? := k.block p h.pin.is.lt (by omega)
  have ha := h.apo g rfl
  refine ⟨⟨h.pin.bel.setCell (by show w.heap.size ≤ g; omega) _, h.pin.is.keep k (by omega) (fun vr hst => ha.of hst (blocks_length _ _)), fun g2 hg2 => (h.pin.ap g2 (by simpa using hg2)).of_block hbp⟩, ?_, by rw [List.length_set]; exact h.len, fun g2 hg2 => (h.apo g2 hg2).of_block hbp⟩
  have h1 := (World.ownsRow.stored h.row i (.int .u8 y)).1
  have e : (nums .u8 xs).set i (.int .u8 y) = nums .u8 (xs.set i y) := by unfold nums; rw [List.map_set]
  rw [e] at h1
  exact h1
set_option maxRecDepth 100000 in
set_option maxHeartbeats 16000000 in
theorem parts_main (A : Option Addr) (ca : Nat) (b : List Int) (C : Option Addr) (cc : Nat) (cuts : List Int) (w : World) (hb : SrcB w (.slice A b.length ca) b) (hc : SrcB w (.slice C cuts.length cc) cuts)
    (hlb : b.length ≤ 1000) (hlc : cuts.length ≤ 200) (hbc : b.length ≤ ca) (hcr : ∀ x ∈ cuts, 0 ≤ x ∧ x ≤ 255) :
    Calls Try.prog 4 #[.slice A b.length ca, .slice C cuts.length cc] w fun e w' => e = .returned (.bool true) ∧ Below w.heap.size w w' := by
  have HB := Aside0.mk hb
  have HC := Aside0.mk hc
  have HCR := Aside0.mk hcr
  have d1 : decide (1000 < (b.length : Int)) = false := decide_eq_false (by omega)
  have d2 : decide (200 < (cuts.length : Int)) = false := decide_eq_false (by omega)
  clear hb hc hcr
  go_enter Try.func4, Try.ntmps4
  go_wp2_with fail
  refine (lives5_calls _).mono ?_
  rintro e w1 ⟨rfl, h1⟩
  have H1 := Aside0.mk h1
  clear h1
  go_wp2_with fail
  refine (new_apart _).mono ?_
  rintro e w2 ⟨p, rfl, hp, hi, hb2, hap⟩
  have HI0 := Aside0.mk (show PInv w p (b.take 0) w2 from ⟨H1.out.trans (hb2.mono H1.out.size), by rw [List.take_zero]; exact hi, fun g _ => hap g⟩)
  have hpz : w.heap.size ≤ p := Nat.le_trans H1.out.size hp
  clear hp hi hb2 hap
  go_wp2_with fail
  go_loopw [6, 30] (fun v6 v30 wr => ∃ (k at_ : Nat), k ≤ cuts.length ∧ at_ ≤ b.length ∧ v30 = .int .i64 (k : Int) ∧ v6 = .int .i64 (at_ : Int) ∧ Aside0 (PInv w p (b.take at_) wr)) (fun _ v _ => cuts.length - (intOf v).toNat)
  case atStart => exact ⟨0, 0, by omega, by omega, rfl, rfl, HI0⟩
  case round =>
    obtain ⟨k, at_, hk, hat, rfl, rfl, HI⟩ := hrel
    obtain ⟨wo, hwo⟩ : ∃ wo : World, wo = wr := ⟨_, rfl⟩
    subst hwo
    have hwz := HI.out.bel.size
    by_cases hlt : k < cuts.length
    · obtain ⟨x, hx⟩ : ∃ x, cuts[k]? = some x := ⟨_, List.getElem?_eq_getElem hlt⟩
      have hx01 := HCR.out x (List.mem_of_getElem? hx)
      have hx0 := hx01.1
      have hx1 := hx01.2
      obtain ⟨ad, rfl, hcell⟩ : ∃ ad, C = some ad ∧ wo.cell? (ad.add k) = some (.int .u8 x) := by
        rcases HC.out with ⟨c', e, h0⟩ | ⟨ad, c', e, h⟩
        · rw [h0] at hlt; cases hlt
        · injection e with e1 e2 e3
          exact ⟨ad, e1, bread HI.out.bel (h k x hx)⟩
      obtain ⟨n, hn⟩ : ∃ n : Nat, (if (b.length : Int) - (at_ : Int) < x then (b.length : Int) - (at_ : Int) else x) = (n : Int) := ⟨(if (b.length : Int) - (at_ : Int) < x then (b.length : Int) - (at_ : Int) else x).toNat, by split <;> omega⟩
      have hnb : at_ + n ≤ b.length := by split at hn <;> omega
      have hwx : IntKind.i64.wrap x = x := by rw [IntKind.wrap_i64]; omega
      clear hx01 hx
      have hn64 : n ≤ 255 := by split at hn <;> omega
      obtain ⟨D, hD⟩ : ∃ D, (if ca = at_ then A else Option.map (fun x => x.add at_) A) = D := ⟨_, rfl⟩
      have hpart : ((b.take (at_ + n)).drop at_).length = n := by rw [List.length_drop, List.length_take]; omega
      obtain ⟨pt, hpt⟩ : ∃ pt, pt = (b.take (at_ + n)).drop at_ := ⟨_, rfl⟩
      have hcut := SrcB.cut (HB.out.below (HI.out.bel.alloc hwz (Obj.cells #[] 5))) rfl at_ (at_ + n) (by omega) hnb hbc D hD (ca - at_)
      rw [Nat.add_sub_cancel_left, ← hpt] at hcut
      rw [← hpt] at hpart
      have HCUT := Aside0.mk hcut
      have HPL := Aside0.mk hpart
      have HPT := Aside0.mk (show b.take at_ ++ pt = b.take (at_ + n) by rw [hpt]; exact take_drop_join b at_ n)
      have HHN := Lib.hid hn
      have HRG := Aside0.mk (World.ownsRow_made wo (e := 5) (size := 1) (base := wo.heap.size) #[] 0 (Nat.le_refl _) (Nat.zero_le _) rfl)
      have q2 : ((at_ : Int) + (n : Int)).toNat = at_ + n := by omega
      have q3 : (0 : Int) ≤ (at_ : Int) + (n : Int) := by omega
      have q4 : (at_ : Int) + (n : Int) ≤ (ca : Int) := by omega
      have q5 : (at_ : Int) ≤ (at_ : Int) + (n : Int) := by omega
      clear hcut hpart hpt
      go_wp2_with (at_builtin; refine append_src wo.heap.size rfl (.tmp 41) (.tmp 47) rfl _ [] pt D n (ca - at_) rfl rfl HRG.out HCUT.out HPL.out.symm (by simp) (by rw [HPL.out]; simp; omega) ?_)
      intro v4 w4 hown hgr
      rw [HPL.out] at hown
      have hgB : ∀ g, v4.ownBlock = some g → wo.heap.size ≤ g ∧ g < w4.heap.size := fun g hg => hown.lt g hg
      have hplt := HI.out.is.lt
      have hb4 : Below wo.heap.size wo w4 := ((Below.refl wo.heap.size wo).alloc (Nat.le_refl _) (Obj.cells #[] 5)).grown hgr (by simp) (fun k hk => by cases hk; exact Nat.le_refl _)
      have HP4 := Aside0.mk (HI.out.later hb4)
      have hown' := hown
      rw [← HPL.out] at hown'
      have HC4 := Lib.hid (write_calls p (b.take at_) pt v4 w4 HP4.out.is (SrcB.of_row hown') (fun _ e => by have := hgB p e; omega) (by rw [HPL.out, List.length_take]; omega))
      have HAP4 := Aside0.mk (show ∀ g, v4.ownBlock = some g → Apart p w4 g from fun g hg => (HI.out.ap g (hgB g hg).1).of_block (hb4.block p hplt))
      have HROW4 := Aside0.mk hown
      have HGB := Aside0.mk hgB
      have HZ4 := Aside0.mk hb4.size
      have HPLT := Aside0.mk hplt
      obtain ⟨A4, c4, e4⟩ := row_form hown
      subst e4
      clear hown hown' hgr hgB hb4 hplt hD
      go_wp2_with fail
      refine HC4.out.mono ?_
      rintro e w5 ⟨rfl, hi5, hk5, hap5⟩
      rw [HPT.out] at hi5
      have HQ0 := Aside0.mk (show QInv w wo.heap.size p (b.take (at_ + n)) (.slice A4 n c4) n pt w5 from ⟨⟨HP4.out.bel.trans (hk5.to_below (fun i hi => by omega) HP4.out.bel.size), hi5, fun g hg => hap5 g (.inr hg) (HP4.out.ap g (by have := hk5.size; omega))⟩, hk5.row HROW4.out (fun g hg e => by have := HGB.out g hg; have := HPLT.out; omega), HPL.out, fun g hg => hap5 g (.inl (HGB.out g hg).2) (HAP4.out g hg)⟩)
      have HZ5 := Aside0.mk (show wo.heap.size ≤ w5.heap.size by have := hk5.size; have := HZ4.out; omega)
      clear hi5 hk5 hap5
      go_wp2_with fail
      go_loopw [54] (fun v54 wr => ∃ (i : Nat) (xs : List Int), i ≤ n ∧ v54 = .int .i64 (i : Int) ∧ Aside0 (QInv w wo.heap.size p (b.take (at_ + n)) (.slice A4 n c4) n xs wr)) (fun v _ => n - (intOf v).toNat)
      case atStart => exact ⟨0, pt, by omega, rfl, HQ0⟩
      case round =>
        obtain ⟨i, xs, hin, rfl, HQ⟩ := hrel
        have hr := HQ.out.row
        by_cases hlt2 : i < n
        · obtain ⟨g, cap, cur, e, _⟩ := row_pos hr (by omega)
          injection e with e1 e2 e3
          subst e1 e3
          obtain ⟨y, hy⟩ : ∃ y, xs[i]? = some y := ⟨_, List.getElem?_eq_getElem (by rw [HQ.out.len]; exact hlt2)⟩
          have cy : wr.cell? ⟨g, i, none⟩ = some (.int .u8 y) := by
            have h1 := World.ownsRow.cellAt hr i (by omega)
            unfold nums at h1
            rw [List.getElem?_map, hy] at h1
            exact h1
          have fz := World.ownsRow.frozenAt hr i
          have HN := Aside0.mk (HQ.out.set hwz HPLT.out i (Go.bits .xor .u8 y 255))
          have hin64 : (i : Int) < (n : Int) := by omega
          clear hr hy
          go_wp2
          go_roundw
          case rel => exact ⟨i + 1, _, by omega, by simp, HN⟩
          case measure => simp [intOf]; omega
        · have hie : i = n := by omega
          subst hie
          have HP6 := Aside0.mk HQ.out.pin
          obtain ⟨M, hM⟩ : ∃ M, M = at_ + i := ⟨_, rfl⟩
          have HMM := Aside0.mk hM
          rw [← hM] at HP6
          have hMb : M ≤ b.length := by omega
          have hMi : (at_ : Int) + (i : Int) = (M : Int) := by omega
          have q6 : (M : Int) ≤ (ca : Int) := by omega
          have hMc : M ≤ ca := by omega
          obtain ⟨ds, hds⟩ : ∃ ds, ds = digest (b.take M) := ⟨_, rfl⟩
          have hneq := fun W => neql25 ds (by rw [hds]; exact digest_length _) W
          have hc1 := sum_calls p (b.take M) wr.drew (HP6.out.later (Below.refl _ _).drew).is (by rw [List.length_take]; omega)
          rw [← hds] at hc1
          have HC1 := Lib.hid hc1
          have HDS := Aside0.mk hds
          clear hr hds hc1 q2 q3 q4 q5 hM
          go_wp2_with fail
          refine start_ (n := 7) (S := fun w' => True) (ds := []) #[false, false, false, false, false, false, false] (by kernel_rfl) rfl rfl trivial (fun hHeld => ?_)
          refine pure_ (i := 0) (N := some 67) (v := ?_) (a' := ?_) #[true, false, false, false, false, false, false] rfl rfl (by kernel_rfl) (fun _ _ _ h => h) (Or.inl ⟨by rfl, ?_⟩) ?_ ?_
          rotate_left
          · intro w'
            go_simp
            with_reducible rfl
          rotate_left
          · simp only [Act.put, List.setIfInBounds_toArray, List.set_cons_zero, List.set_cons_succ, i64_w, i32_w]
            rfl
          refine pure_ (i := 2) (N := some 69) (v := ?_) (a' := ?_) #[true, false, true, false, false, false, false] rfl rfl (by kernel_rfl) (fun _ _ _ h => h) (Or.inl ⟨by rfl, ?_⟩) ?_ ?_
          rotate_left
          · intro w'
            go_simp
            with_reducible rfl
          rotate_left
          · simp only [Act.put, List.setIfInBounds_toArray, List.set_cons_zero, List.set_cons_succ, i64_w, i32_w]
            rfl
          refine pure_ (i := 3) (N := some 70) (v := ?_) (a' := ?_) #[true, false, true, true, false, false, false] rfl rfl (by kernel_rfl) (fun _ _ _ h => h) (Or.inl ⟨by rfl, ?_⟩) ?_ ?_
          rotate_left
          · intro w'
            go_simp
            with_reducible rfl
          rotate_left
          · simp only [Act.put, List.setIfInBounds_toArray, List.set_cons_zero, List.set_cons_succ, i64_w, i32_w]
            rfl
          refine pure_ (i := 4) (N := some 71) (v := ?_) (a' := ?_) #[true, false, true, true, true, false, false] rfl rfl (by kernel_rfl) (fun _ _ _ h => h) (Or.inl ⟨by rfl, ?_⟩) ?_ ?_
          rotate_left
          · intro w'
            go_simp
            with_reducible rfl
          rotate_left
          · simp only [Act.put, List.setIfInBounds_toArray, List.set_cons_zero, List.set_cons_succ, i64_w, i32_w]
            rfl
          refine one_ (i := 1) (N := some 68) #[true, true, true, true, true, false, false] rfl rfl (by kernel_rfl) (by decide) (fun K hK => ?_)
          refine goes_ Try.func15 (by kernel_rfl) rfl #[.pointer (some ⟨p, 0, none⟩)] (by rfl) rfl rfl (by simp only [List.map_toArray, List.map_cons, List.map_nil]; rfl) ?_
          with_reducible refine (HC1.out).mono ?_
          rintro e w7 ⟨rfl, hb7⟩
          have HP7 := Aside0.mk (HP6.out.later (show Below wr.heap.size wr w7 from ⟨hb7.os, hb7.tape, hb7.output, hb7.size, hb7.block⟩))
          have hc2 := hsum_calls (.slice A M ca) (b.take M) w7 (SrcB.head (HB.out.below HP7.out.bel) rfl M hMb ca) (by rw [List.length_take]; omega)
          rw [← HDS.out] at hc2
          have HC2 := Lib.hid hc2
          clear hb7 hc2
          refine ⟨_, rfl, ?_⟩
          refine hK.out _ _ trivial (fun hHeld => ?_)
          clear hK K
          refine norm_ (a' := ?_) ?_ ?_
          rotate_left
          · show Act.put _ (some 68) _ = _
            simp only [Act.put, List.setIfInBounds_toArray, List.set_cons_zero, List.set_cons_succ, i64_w, i32_w]
            rfl
          refine one_ (i := 5) (N := some 72) #[true, true, true, true, true, true, false] rfl rfl (by kernel_rfl) (by decide) (fun K hK => ?_)
          refine goes_ Try.func11 (by kernel_rfl) rfl #[.slice A M ca] (by rfl) rfl rfl (by simp only [List.map_toArray, List.map_cons, List.map_nil]; rfl) ?_
          with_reducible refine (HC2.out).mono ?_
          rintro e w8 ⟨rfl, hb8⟩
          have HP8 := Aside0.mk (HP7.out.later hb8)
          clear hb8
          refine ⟨_, rfl, ?_⟩
          refine hK.out _ _ trivial (fun hHeld => ?_)
          clear hK K
          refine norm_ (a' := ?_) ?_ ?_
          rotate_left
          · show Act.put _ (some 72) _ = _
            simp only [Act.put, List.setIfInBounds_toArray, List.set_cons_zero, List.set_cons_succ, i64_w, i32_w]
            rfl
          refine pure_ (i := 6) (N := some 73) (v := ?_) (a' := ?_) #[true, true, true, true, true, true, true] rfl rfl (by kernel_rfl) (fun _ _ _ h => h) (Or.inl ⟨by rfl, ?_⟩) ?_ ?_
          rotate_left
          · intro w'
            go_simp
            with_reducible rfl
          rotate_left
          · simp only [Act.put, List.setIfInBounds_toArray, List.set_cons_zero, List.set_cons_succ, i64_w, i32_w]
            rfl
          refine done_ (by kernel_rfl) ?_
          have HC9 := Lib.hid (copy_calls p (b.take M) w8 HP8.out.is)
          clear hneq HC1 HC2
          go_wp2_with fail
          refine HC9.out.mono ?_
          rintro e w9 ⟨q, rfl, hq, hiq, hb9⟩
          have HP9 := Aside0.mk (HP8.out.later hb9)
          have HIQ := Aside0.mk hiq
          have kc := fun (C : Array Value) (n c : Nat) => Lib.run_convert_bytes_const (P := Try.prog) w9 22 5 C n c Try.underlying22 Try.underlying5
          have hb10 : Below w9.heap.size w9 (w9.alloc (Obj.cells #[.int .u8 111, .int .u8 116, .int .u8 104, .int .u8 101, .int .u8 114] 5 (5, 6))) := (Below.refl _ _).alloc (Nat.le_refl _) _
          have HP10 := Aside0.mk (HP9.out.later hb10)
          have HC10 := Lib.hid (write_calls q (b.take M) [111, 116, 104, 101, 114] (.slice (some ⟨w9.heap.size, 0, none⟩) 5 5) (w9.alloc (Obj.cells #[.int .u8 111, .int .u8 116, .int .u8 104, .int .u8 101, .int .u8 114] 5 (5, 6))) (hiq.below hb10) (src_const w9 [111, 116, 104, 101, 114] (5, 6)) (fun _ e => by cases e; exact absurd hiq.lt (Nat.lt_irrefl _)) (by rw [List.length_take]; simp; omega))
          have HZ10 := Aside0.mk (show w9.heap.size ≤ (w9.alloc (Obj.cells #[.int .u8 111, .int .u8 116, .int .u8 104, .int .u8 101, .int .u8 114] 5 (5, 6))).heap.size by simp)
          have HQ9 := Aside0.mk (show w8.heap.size ≤ q ∧ w.heap.size ≤ w8.heap.size from ⟨hq, HP8.out.bel.size⟩)
          have HPQ := Aside0.mk (show p < w8.heap.size from HP8.out.is.lt)
          have HB9 := Aside0.mk hb9
          have HB10 := Aside0.mk (hb9.trans (hb10.mono hb9.size))
          clear hq hiq hb9 hb10
          go_wp2_with fail
          refine HC10.out.mono ?_
          rintro e w11 ⟨rfl, _, hk11, _⟩
          have HP11 := Aside0.mk (HP8.out.later (HB10.out.trans (hk11.to_below (fun i hi => by have := HQ9.out; omega) HB10.out.size)))
          clear hk11 kc
          go_wp2
          go_roundw
          case rel => exact ⟨k + 1, M, by omega, hMb, by simp, rfl, HP11⟩
          case measure => simp [intOf]; omega
    · have hke : k = cuts.length := by omega
      subst hke
      obtain ⟨D, hD⟩ : ∃ D, (if ca = at_ then A else Option.map (fun x => x.add at_) A) = D := ⟨_, rfl⟩
      have hcut := SrcB.cut (HB.out.below HI.out.bel) rfl at_ b.length (by omega) (Nat.le_refl _) hbc D hD (ca - at_)
      rw [List.take_length] at hcut
      have hob : (b.drop at_).length ≠ 0 → (Value.slice D (b.length - at_) (ca - at_)).ownBlock ≠ some p := fun h0 e => by
        have h1 : (Value.slice A b.length ca).ownBlock = some p := by
          rw [← hD] at e
          by_cases hci : ca = at_
          · rw [if_pos hci] at e; cases A <;> exact e
          · rw [if_neg hci] at e
            cases A with
            | none => cases e
            | some a => 
              have hab : (a.add at_).block = a.block := by unfold Addr.add; split <;> rfl
              simp only [Option.map, Value.ownBlock] at e ⊢
              rw [← hab]
              exact e
        have := SrcB.lt HB.out (by rw [List.length_drop] at h0; omega) p h1
        omega
      have HCW := Lib.hid (write_calls p (b.take at_) (b.drop at_) (.slice D (b.length - at_) (ca - at_)) wo HI.out.is hcut hob (by rw [List.length_take, List.length_drop]; omega))
      have q7 : at_ ≤ ca := by omega
      clear hcut hob hlt hk
      go_wp2_with fail
      refine HCW.out.mono ?_
      rintro e w3 ⟨rfl, hi3, hk3, _⟩
      rw [List.take_append_drop] at hi3
      have HI3 := Aside0.mk hi3
      have HB3 := Aside0.mk (HI.out.bel.trans (hk3.to_below (fun i hi => by omega) HI.out.bel.size))
      clear hi3 hk3
      go_wp2_with fail
      refine (write_nil _ _).mono ?_
      rintro e w4 ⟨rfl, rfl⟩
      obtain ⟨ds, hds⟩ : ∃ ds, ds = digest b := ⟨_, rfl⟩
      obtain ⟨es, hes⟩ : ∃ es, es = digest [] := ⟨_, rfl⟩
      have heq := fun W => eql25 ds (by rw [hds]; exact digest_length _) W
      have heq2 := fun W => eql25 es (by rw [hes]; exact digest_length _) W
      have HDS := Aside0.mk hds
      have HES := Aside0.mk hes
      have hc1 := sum_calls p b w3 HI3.out (by omega)
      rw [← hds] at hc1
      have HC1 := Lib.hid hc1
      clear hds hes hc1
      go_wp2_with fail
      refine HC1.out.mono ?_
      rintro e w5 ⟨rfl, hb5⟩
      have HB5 := Aside0.mk (HB3.out.trans (hb5.mono HB3.out.size))
      have hc2 := hsum_calls (.slice A b.length ca) b w5 (HB.out.below HB5.out) (by omega)
      rw [← HDS.out] at hc2
      have HC2 := Lib.hid hc2
      clear hb5 hc2
      go_wp2_with fail
      refine HC2.out.mono ?_
      rintro e w6 ⟨rfl, hb6⟩
      have HB6 := Aside0.mk (HB5.out.trans (hb6.mono HB5.out.size))
      have hc3 := sum_nil [] w6 rfl
      rw [← HES.out] at hc3
      have HC3 := Lib.hid hc3
      clear hb6 hc3
      go_wp2_with fail
      refine HC3.out.mono ?_
      rintro e w7 ⟨rfl, hb7⟩
      have HB7 := Aside0.mk (HB6.out.trans (hb7.mono HB6.out.size))
      have hc4 := hsum_calls (.slice none 0 0) [] w7 (.inl ⟨0, rfl, rfl⟩) (by simp)
      rw [← HES.out] at hc4
      have HC4 := Lib.hid hc4
      clear hb7 hc4
      go_wp2_with fail
      refine HC4.out.mono ?_
      rintro e w8 ⟨rfl, hb8⟩
      have HB8 := Aside0.mk (HB7.out.trans (hb8.mono HB7.out.size))
      clear hb8
      go_wp2_with fail
      refine (copy_nil _).mono ?_
      rintro e w9 ⟨rfl, rfl⟩
      go_wp2
      go_ret
      exact ⟨by simp, HB8.out⟩
end Go.Proofs.Ytjlnbklendkflaa
