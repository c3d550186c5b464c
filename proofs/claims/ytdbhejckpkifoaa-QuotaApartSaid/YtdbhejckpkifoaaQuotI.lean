/- The law QuotaSums, walked. -/
import Derived.Test.YtdbhejckpkifoaaQuotH
import Derived.Lib.Hide
import Derived.LoopTactic
import Derived.Outline
import Derived.Laws.Rows
import Derived.Laws.CopyOwn
import Derived.WalkKit
set_option linter.unusedVariables false
set_option linter.unusedSimpArgs false
namespace Go.Proofs.Ytdbhejckpkifoaa
open Go.RowKit Go.Proofs.YtdbhejckpkifoaaW.PrintWords Go.Proofs.YtdbhejckpkifoaaW.PrintLast Go.Proofs.YtdbhejckpkifoaaW.PrintMore
open Go.Proofs.Ytdbhejckpkifoaa.PSlotsBack
attribute [local go_sem] max2_int min2_int max_two min_two max_three min_three max_four min_four

theorem QPost.keepG {p b : Nat} {cap : Int} {w w' : World} {x : Int × Mdl} {e : Ending} (h : QPost p b cap w x e w') : w.grownBy w' (some b) :=
  ⟨h.2.2.os, h.2.2.tape, h.2.2.output, h.2.2.size, fun i hi hn => h.2.2.block i hi (fun e => hn (by rw [e]))⟩
theorem run_mk59 (W : World) : Sem.run Try.prog (Instr.makeMap 59 none) W = .ok (.map (some W.heap.size)) (W.alloc (.map #[] 0)) := by
  simp [Instr.makeMap, run_underlying Try.underlying59]
/-- A bool by a number (so that a walk does not part it). -/
def boolN (n : Nat) : Value := .bool (n == 0)
theorem boolN_inv {v : Value} {z : DataW Unit × List MemPlace} (h : plainElem Try.prog 4 v = some z) : ∃ n, v = boolN n := by
  obtain ⟨x, e, _⟩ := plainElem_bool_inv h
  subst e
  cases x
  · exact ⟨1, rfl⟩
  · exact ⟨0, rfl⟩
set_option maxRecDepth 100000 in
set_option maxHeartbeats 32000000 in
theorem qsums_main (A : Option Addr) (ca : Nat) (l : List ActQ) (cap : Int) (w : World) (h : SrcA w (.slice A l.length ca) l) (hl : l.length ≤ 80) (h0 : 0 ≤ cap) (h1 : cap ≤ 1099511627776)
    (hw : ∀ x ∈ l, (-9223372036854775808 ≤ x.f2 ∧ x.f2 ≤ 9223372036854775807) ∧ (-9223372036854775808 ≤ x.f3 ∧ x.f3 ≤ 9223372036854775807)) :
    Calls Try.prog 7 #[.int .i64 cap, .slice A l.length ca] w fun e w' => e = .returned (.bool true) ∧ Below w.heap.size w w' := by
  have HL := Aside0.mk h
  have HW := Aside0.mk hw
  have d1 : decide (80 < (l.length : Int)) = false := decide_eq_false (by omega)
  have d2 : decide (cap < 0) = false := decide_eq_false (by omega)
  have d3 : decide (1099511627776 < cap) = false := decide_eq_false (by omega)
  have hnew := fun W => qnew_calls cap h0 h1 W
  have HNEW := Lib.hid hnew
  have HG0 := Aside0.mk (goodM_start h0 h1)
  clear h hw hnew
  go_enter Try.func7, Try.ntmps7
  go_wp2_with fail
  refine (qlives_calls _).mono ?_
  rintro e w1 ⟨rfl, hb1⟩
  have HB1 := Aside0.mk hb1
  clear hb1
  go_wp2_with fail
  refine (HNEW.out w1).mono ?_
  rintro e w2 ⟨p, b, rfl, hled, hb2, hp, hbb⟩
  have HL2 := Aside0.mk hled
  have HB2 := Aside0.mk (HB1.out.trans (hb2.mono HB1.out.size))
  have HWB := Aside0.mk (show w.heap.size ≤ b from Nat.le_trans HB1.out.size hbb)
  have HWP := Aside0.mk (show w.heap.size ≤ p from Nat.le_trans HB1.out.size hp)
  clear hled hb2 hp hbb
  have km := fun W => run_mk59 W
  go_wp2_with fail
  clear km
  obtain ⟨bn, hbn⟩ : ∃ b, b = w2.heap.size := ⟨_, rfl⟩
  have HBN := Aside0.mk (show w.heap.size ≤ bn by rw [hbn]; exact HB2.out.size)
  have HBB := Aside0.mk (show b < bn by rw [hbn]; exact HL2.out.blt)
  have HL3 := Aside0.mk (HL2.out.below ((Below.refl _ _).alloc (Nat.le_refl _) (.map #[] 0)))
  have HN3 := Aside0.mk (show (w2.alloc (.map #[] 0)).ownsMap Try.prog 9 (plainElem Try.prog 4) bn 0 (namesQ l 0) by rw [hbn]; exact World.ownsMap_made (H := Unit) w2 Try.prog 9 (plainElem Try.prog 4))
  have HB3 := Aside0.mk (show Below w.heap.size w (w2.alloc (.map #[] 0)) from Below.alloc HB2.out HB2.out.size _)
  have HC3 := Aside0.mk (covers_start l)
  have hbe : w2.heap.size = bn := hbn.symm
  clear hbn HL2 HB2 h0 h1
  go_wp2_with fail
  rw [hbe]
  clear hbe
  go_loopw [39] (fun v39 wr => ∃ (j : Nat) (M : Mdl), j ≤ l.length ∧ v39 = .int .i64 (j : Int) ∧ Aside0 (GoodM cap M) ∧ Aside0 (∀ y ∈ l.take j, y.f1.size ≤ 60) ∧ Aside0 (Covers l j M) ∧ Aside0 (IsLed p b cap M wr) ∧ Aside0 (wr.ownsMap Try.prog 9 (plainElem Try.prog 4) bn j (namesQ l j)) ∧ Aside0 (Below w.heap.size w wr)) (fun v _ => l.length - (intOf v).toNat)
  case atStart => exact ⟨0, [], by omega, rfl, HG0, ⟨fun y hy => by cases hy⟩, HC3, HL3, HN3, HB3⟩
  case round =>
    obtain ⟨j, M, hj, rfl, HG, HSZ, HC, HLD, HNM, HB⟩ := hrel
    by_cases hlt : j < l.length
    · obtain ⟨ad, rfl, hcell⟩ : ∃ ad, A = some ad ∧ ∀ (j : Nat) (x : ActQ), l[j]? = some x → w.cell? (ad.add (j * 4)) = some (.int .i64 x.f0) ∧ w.cell? ⟨(ad.add (j * 4)).block, (ad.add (j * 4)).off + 1, none⟩ = some (.string x.f1) ∧ w.cell? ⟨(ad.add (j * 4)).block, (ad.add (j * 4)).off + 2, none⟩ = some (.int .i64 x.f2) ∧ w.cell? ⟨(ad.add (j * 4)).block, (ad.add (j * 4)).off + 3, none⟩ = some (.int .i64 x.f3) := by
        rcases HL.out with ⟨c, e, el⟩ | ⟨ad, c, e, hc⟩
        · rw [el] at hlt; exact absurd hlt (by simp)
        · injection e with e1 e2 e3
          exact ⟨ad, e1, hc⟩
      obtain ⟨x, hx⟩ : ∃ x, l[j]? = some x := ⟨_, List.getElem?_eq_getElem hlt⟩
      have hcx := hcell j x hx
      have u0 : wr.cell? (ad.add (j * 4)) = some (.int .i64 x.f0) := by rw [HB.out.cell (World.block_lt_of_cell? w _ hcx.1)]; exact hcx.1
      have u1 : wr.cell? ⟨(ad.add (j * 4)).block, (ad.add (j * 4)).off + 1, none⟩ = some (.string x.f1) := by rw [HB.out.cell (World.block_lt_of_cell? w _ hcx.2.1)]; exact hcx.2.1
      have u2 : wr.cell? ⟨(ad.add (j * 4)).block, (ad.add (j * 4)).off + 2, none⟩ = some (.int .i64 x.f2) := by rw [HB.out.cell (World.block_lt_of_cell? w _ hcx.2.2.1)]; exact hcx.2.2.1
      have u3 : wr.cell? ⟨(ad.add (j * 4)).block, (ad.add (j * 4)).off + 3, none⟩ = some (.int .i64 x.f3) := by rw [HB.out.cell (World.block_lt_of_cell? w _ hcx.2.2.2)]; exact hcx.2.2.2
      have hjl : (j : Int) < (l.length : Int) := by omega
      have HXM := Aside0.mk (show x ∈ l from List.mem_of_getElem? hx)
      have HXJ := Aside0.mk hx
      clear hcell hx hcx
      by_cases hsz : x.f1.size ≤ 60
      · have d4 : decide (60 < (x.f1.size : Int)) = false := decide_eq_false (by omega)
        obtain ⟨nb, hnb⟩ := right_total x.f1 (by omega)
        have hxw := HW.out x HXM.out
        have HRUN := Lib.hid (fun W h => qrun_calls p b cap M x.f0 x.f1 (by omega) x.f2 x.f3 hxw.1 hxw.2 nb hnb W h HG.out)
        have HGR := Aside0.mk (runM_good (nb := nb) (k := x.f0) (s := x.f1) (by_ := x.f2) (se := x.f3) HG.out (by omega))
        have HCR := Aside0.mk (HC.out.run HXJ.out nb cap)
        have HSR := Aside0.mk (show ∀ y ∈ l.take (j + 1), y.f1.size ≤ 60 from fun y hy => by
          rw [List.take_succ_eq_append_getElem hlt] at hy
          rcases List.mem_append.1 hy with hy | hy
          · exact HSZ.out y hy
          · rw [List.mem_singleton.1 hy, (List.getElem?_eq_some_iff.1 HXJ.out).2]; exact hsz)
        have HNS := Aside0.mk (names_step HXJ.out)
        have HK := Aside0.mk (key9 (s := x.f1) (by omega))
        obtain ⟨M', hM'⟩ : ∃ M', M' = (runM nb cap M x.f0 x.f1 x.f2 x.f3).2 := ⟨_, rfl⟩
        have HME := Aside0.mk hM'
        rw [← hM'] at HGR HCR
        obtain ⟨k, s, by_, se⟩ := x
        have HBX := Aside0.mk (show Below wr.heap.size wr (wr.alloc (.cells #[.int .i64 k, .string s, .int .i64 by_, .int .i64 se] 61)) from (Below.refl _ _).alloc (Nat.le_refl _) _)
        have HLDX := Aside0.mk (HLD.out.below HBX.out)
        have HNMX := Aside0.mk (HNM.out.alloc (.cells #[.int .i64 k, .string s, .int .i64 by_, .int .i64 se] 61))
        have HBXX := Aside0.mk (HB.out.trans (HBX.out.mono HB.out.size))
        have hsz2 : s.size ≤ 60 := hsz
        clear hM' hxw hnb hsz
        go_wp2_with fail
        refine (HRUN.out _ HLDX.out).mono ?_
        rintro e w4 h4
        have HG4 := Aside0.mk h4.keepG
        have HLD4 := Aside0.mk (show IsLed p b cap M' w4 by rw [HME.out]; exact h4.2.1)
        have HB4 := Aside0.mk (HBXX.out.grown HG4.out HBXX.out.size (fun g hg => by injection hg with hg; rw [← hg]; exact HWB.out))
        have HNM4 := Aside0.mk (HNMX.out.kept HG4.out (by intro e; injection e with e; have := HBB.out; omega))
        have q1 : w4.cell? ⟨wr.heap.size, 1, none⟩ = some (.string s) := by
          rw [World.cell?_of_block (HG4.out.block wr.heap.size (by simp) (by have := HLD.out.blt; intro e; injection e with e; omega))]
          go_simp
        obtain ⟨rfl, _, _⟩ := h4
        clear u0 u1 u2 u3
        go_wp2_with (first | (at_mapUpdate; refine wpList_mapUpdate_own _ rfl _ _ _ 59 rfl 9 4 (Maps.string_keyed Try.underlying9) Try.underlying59 _ bn j (namesQ l j) rfl HNM4.out (by unfold maxLen; omega) _ _ (litS s) rfl rfl HK.out (.lit (.bool true)) [] (plainElem_bool Try.underlying4 true) ?_) | go_in)
        intro w5 hown5 hgr5
        have HNM5 := Aside0.mk (show w5.ownsMap Try.prog 9 (plainElem Try.prog 4) bn (j + 1) (namesQ l (j + 1)) by rw [HNS.out]; exact hown5)
        have HLD5 := Aside0.mk (HLD4.out.kept hgr5 (by intro e; injection e with e; have := HNM4.out; have := HLD4.out.plt; have h1 := HLD4.out.led; obtain ⟨es, ck, h2, _⟩ := HNM4.out; rw [← e, h1] at h2; injection h2 with h2; cases h2) (by intro e; injection e with e; have := HBB.out; omega))
        have HB5 := Aside0.mk (HB4.out.grown hgr5 HB4.out.size (fun g hg => by injection hg with hg; rw [← hg]; exact HBN.out))
        clear hown5 hgr5 q1
        have HV := Lib.hid (fun W (h : IsLed p b cap M' W) => qleft_calls p b cap M' W h HGR.out)
        go_wp2_with fail
        refine (HV.out _ HLD5.out).mono ?_
        rintro e w6 ⟨rfl, h6⟩
        have HLD6 := Aside0.mk (HLD5.out.below h6)
        have HNM6 := Aside0.mk (HNM5.out.kept (grown_of_below h6 none) (by simp))
        have HB6 := Aside0.mk (HB5.out.trans (h6.mono HB5.out.size))
        clear h6
        obtain ⟨r, hr⟩ : ∃ r, r = w6.heap.size := ⟨_, rfl⟩
        have HRS := Aside0.mk (show w.heap.size ≤ r by rw [hr]; exact HB6.out.size)
        have HRP := Aside0.mk (show p < r by rw [hr]; exact HLD6.out.plt)
        have HRB := Aside0.mk (show b < r by rw [hr]; exact HLD6.out.blt)
        go_wp2_with (first | (at_range; refine wpList_range_own _ rfl _ 59 rfl 9 4 (Maps.string_keyed Try.underlying9) Try.underlying59 _ bn (j + 1) (namesQ l (j + 1)) rfl HNM6.out ?_; intro w7 hrg7 hg7 hs7) | go_in)
        go_frame
        rw [← hr] at hrg7 ⊢
        have HLD7 := Aside0.mk (HLD6.out.kept hg7 (by simp) (by simp))
        have HB7 := Aside0.mk (HB6.out.grown hg7 HB6.out.size (fun k hk => by cases hk))
        have R7 := Aside0.mk hrg7
        have HVE := Aside0.mk (show cap - sumB M' = cap - sumB (M'.filter fun q => Maps.has (namesQ l (j + 1)) (litS q.1)) by rw [covers_all HCR.out])
        have HNE := Aside0.mk (show ((0 : Nat) : Int) = (M'.length : Int) - ((M'.filter fun q => Maps.has (namesQ l (j + 1)) (litS q.1)).length : Int) by rw [covers_all HCR.out]; simp)
        obtain ⟨V0, hV0⟩ : ∃ V, V = cap - sumB M' := ⟨_, rfl⟩
        rw [← hV0] at HVE ⊢
        clear hrg7 hg7 hs7 hr hV0
        have HMS := Aside0.mk (show l.length - (intOf (.int .i64 ((j : Int) + 1))).toNat < l.length - (intOf (.int .i64 (j : Int))).toNat by simp [intOf]; omega)
        go_loopw [10, 11] (fun v10 v11 wq => ∃ (left : Lit → Bool) (cn N : Nat) (V : Int), v10 = .int .i64 V ∧ v11 = .int .i64 (N : Int) ∧ Aside0 (V = cap - sumB (M'.filter fun q => left (litS q.1))) ∧ Aside0 ((N : Int) = (M'.length : Int) - ((M'.filter fun q => left (litS q.1)).length : Int)) ∧ Aside0 (∀ s, left (litS s) = true → Maps.has (namesQ l (j + 1)) (litS s) = true) ∧ Aside0 (wq.ranges Try.prog 9 (plainElem Try.prog 4) bn r (j + 1) (namesQ l (j + 1)) left cn) ∧ Aside0 (IsLed p b cap M' wq) ∧ Aside0 (Below w.heap.size w wq)) (fun _ _ wq => wq.rangeLeft bn r)
        case atStart => exact ⟨_, _, 0, V0, rfl, rfl, HVE, HNE, ⟨fun s h => h⟩, R7, HLD7, HB7⟩
        case round =>
          obtain ⟨left, cn, N, V, rfl, rfl, HVV, HNN, HSUB, HRG, HLQ, HBQ⟩ := hrel
          go_wp2_with (first | (at_next; refine wpList_next_ranges _ rfl _ rfl 9 (Maps.string_keyed Try.underlying9) (plainElem Try.prog 4) Value.string boolN (fun key kl hk => by obtain ⟨s, e, _⟩ := keyOf_string_inv9 hk; exact ⟨s, e⟩) (fun v y hv => boolN_inv hv) bn r (j + 1) _ _ _ rfl HRG.out ?_ ?_) | go_in)
          · intro hc0 hl0
            have hnil : (M'.filter fun q => left (litS q.1)) = [] := List.filter_eq_nil_iff.2 (fun q _ => by rw [hl0]; simp)
            have hv : V = cap := by
              rw [HVV.out, hnil]
              show cap - 0 = cap
              omega
            have hn : N = M'.length := by
              have := HNN.out
              rw [hnil] at this
              simp at this
              omega
            subst hv
            subst hn
            have h8 := HGR.out.len
            have d5 : decide ((8 : Int) < (M'.length : Int)) = false := decide_eq_false (by omega)
            have HAC := Lib.hid (fun W (h : IsLed p b V M' W) => qaccounts_calls p b V M' W h)
            have hs0 := HGR.out.sum
            obtain ⟨LF, hLF⟩ : ∃ LF, LF = V - sumB M' := ⟨_, rfl⟩
            have d6 : decide (LF < 0) = false := decide_eq_false (by omega)
            rw [← hLF] at HV
            have HMQ := Aside0.mk (HRG.out.owns)
            obtain ⟨ml, hml⟩ : ∃ m, m = M'.length := ⟨_, rfl⟩
            rw [← hml] at HAC d5 ⊢
            clear hc0 hl0 hnil hs0 hLF h8 hml
            go_wp2_with fail
            refine (HAC.out _ HLQ.out).mono ?_
            rintro e w8 ⟨rfl, rfl⟩
            go_wp2_with fail
            refine (HV.out _ HLQ.out).mono ?_
            rintro e w9 ⟨rfl, h9⟩
            have HLD9 := Aside0.mk (HLQ.out.below h9)
            have HNM9 := Aside0.mk (HMQ.out.kept (grown_of_below h9 none) (by simp))
            have HB9 := Aside0.mk (HBQ.out.trans (h9.mono HBQ.out.size))
            clear h9
            go_wp2
            go_roundw
            case rel => exact ⟨j + 1, M', by omega, by simp, HGR, HSR, HCR, HLD9, HNM9, HB9⟩
            case measure => simp [intOf]; omega
          · intro x c kl y1 y2 w6' cn1 hkey hlx hv hat hrg1 hlt1 hg1 hs1 hen
            obtain ⟨s', e, rfl⟩ := keyOf_string_inv9 hkey
            injection e with e
            subst e
            have hxs : x.size ≤ 60 := by
              obtain ⟨y, hy, hye⟩ := has_names (HSUB.out x hlx)
              rw [← hye]
              exact HSR.out y hy
            have HGT := Lib.hid (fun W (h : IsLed p b cap M' W) => qget_calls p b cap M' x (by omega) W h)
            have HLQ1 := Aside0.mk (HLQ.out.kept hg1 (by intro e; injection e with e; have := HRP.out; omega) (by intro e; injection e with e; have := HRB.out; omega))
            have HBQ1 := Aside0.mk (HBQ.out.grown hg1 HBQ.out.size (fun k hk => by injection hk with hk; have := HRS.out; omega))
            have hl1 := hrg1.left_eq
            have hl0 := HRG.out.left_eq
            have HLT := Aside0.mk (show w6'.rangeLeft bn r < wr.rangeLeft bn r by rw [hl1, hl0]; exact hlt1)
            have R6 := Aside0.mk hrg1
            have HSUB1 := Aside0.mk (show ∀ s, (fun z : Lit => left z && !z.sameKey (litS x)) (litS s) = true → Maps.has (namesQ l (j + 1)) (litS s) = true from fun s h => HSUB.out s (by simp only [Bool.and_eq_true] at h; exact h.1))
            cases hgx : getM x M' with
            | none =>
              rw [hgx] at HGT
              have hf := del_filter_none hgx left
              have HV1 := Aside0.mk (show V = cap - sumB (M'.filter fun q => (fun z : Lit => left z && !z.sameKey (litS x)) (litS q.1)) by rw [HVV.out]; exact congrArg (fun z => cap - sumB z) hf.symm)
              have HN1 := Aside0.mk (show (N : Int) = (M'.length : Int) - ((M'.filter fun q => (fun z : Lit => left z && !z.sameKey (litS x)) (litS q.1)).length : Int) by rw [HNN.out]; exact congrArg (fun z : Mdl => (M'.length : Int) - (z.length : Int)) hf.symm)
              unfold acctV zeroA at HGT
              simp only [Option.getD_none, Option.isSome_none] at HGT
              clear hkey hlx hv hat hrg1 hlt1 hg1 hs1 hl1 hl0 hgx hf
              go_wp2_with fail
              refine (HGT.out _ HLQ1.out).mono ?_
              rintro e w8 ⟨rfl, h8⟩
              have HLQ8 := Aside0.mk (HLQ1.out.below h8)
              have HBQ8 := Aside0.mk (HBQ1.out.trans (h8.mono HBQ1.out.size))
              have R8 := Aside0.mk (R6.out.kept (grown_of_below h8 none) (by simp) (by simp))
              clear h8
              go_wp2
              go_roundw
              case rel => exact ⟨_, _, N, V, rfl, rfl, HV1, HN1, HSUB1, ⟨R8.out.alloc _⟩, ⟨HLQ8.out.below ((Below.refl _ _).alloc (Nat.le_refl _) _)⟩, ⟨Below.alloc HBQ8.out HBQ8.out.size _⟩⟩
              case measure => rw [(R8.out.alloc _).left_eq, ← R6.out.left_eq]; exact HLT.out
            | some a =>
              rw [hgx] at HGT
              have hst := sumB_strike HGR.out.dis hgx (left := left) hlx
              have hln := len_strike HGR.out.dis hgx (left := left) hlx
              have HV1 := Aside0.mk (show V + a.b = cap - sumB (M'.filter fun q => (fun z : Lit => left z && !z.sameKey (litS x)) (litS q.1)) by
                have := HVV.out
                show V + a.b = cap - sumB (M'.filter fun q => (left (litS q.1) && !(litS q.1).sameKey (litS x)))
                omega)
              have HN1 := Aside0.mk (show ((N + 1 : Nat) : Int) = (M'.length : Int) - ((M'.filter fun q => (fun z : Lit => left z && !z.sameKey (litS x)) (litS q.1)).length : Int) by
                have := HNN.out
                show ((N + 1 : Nat) : Int) = (M'.length : Int) - ((M'.filter fun q => (left (litS q.1) && !(litS q.1).sameKey (litS x))).length : Int)
                omega)
              have hsub := sumB_filter_le (M := M') (fun q hq => by have := HGR.out.acc q hq; omega) (fun q => left (litS q.1))
              have hsub2 := sumB_filter_le (M := M') (fun q hq => by have := HGR.out.acc q hq; omega) (fun q => (left (litS q.1) && !(litS q.1).sameKey (litS x)))
              have hcap := HGR.out.cap1
              have hcap0 := HGR.out.cap0
              have hsm := HGR.out.sum
              have h8 := HGR.out.len
              have hVe := HVV.out
              have hNe := HNN.out
              have hga := HGR.out.get hgx
              obtain ⟨a1, a2, a3, a4⟩ := a
              have v0 : 0 ≤ V := by omega
              have v1 : V ≤ 1099511627776 := by omega
              have v2 : 0 ≤ a1 := by simp only at hga; omega
              have v3 : a1 ≤ 1099511627776 := by simp only at hga; omega
              have v4 : (N : Int) ≤ 8 := by omega
              unfold acctV at HGT
              simp only [Option.getD_some, Option.isSome_some] at HGT
              clear hkey hlx hv hat hrg1 hlt1 hg1 hs1 hl1 hl0 hgx hst hln hsub hsub2 hcap hcap0 hsm h8 hVe hNe hga
              go_wp2_with fail
              refine (HGT.out _ HLQ1.out).mono ?_
              rintro e w8 ⟨rfl, h8⟩
              have HLQ8 := Aside0.mk (HLQ1.out.below h8)
              have HBQ8 := Aside0.mk (HBQ1.out.trans (h8.mono HBQ1.out.size))
              have R8 := Aside0.mk (R6.out.kept (grown_of_below h8 none) (by simp) (by simp))
              clear h8
              go_wp2
              go_roundw
              case rel => exact ⟨_, _, N + 1, V + a1, rfl, by simp, HV1, HN1, HSUB1, ⟨R8.out.alloc _⟩, ⟨HLQ8.out.below ((Below.refl _ _).alloc (Nat.le_refl _) _)⟩, ⟨Below.alloc HBQ8.out HBQ8.out.size _⟩⟩
              case measure => rw [(R8.out.alloc _).left_eq, ← R6.out.left_eq]; exact HLT.out
      · have d4 : decide (60 < (x.f1.size : Int)) = true := decide_eq_true (by omega)
        obtain ⟨k, s, by_, se⟩ := x
        have HBX := Aside0.mk (HB.out.alloc HB.out.size (.cells #[.int .i64 k, .string s, .int .i64 by_, .int .i64 se] 61))
        go_wp2
        go_ret
        exact ⟨rfl, HBX.out⟩
    · have hje : j = l.length := by omega
      subst hje
      go_wp2
      go_ret
      exact ⟨rfl, HB.out⟩
set_option maxRecDepth 100000 in
set_option maxHeartbeats 8000000 in
theorem qsums_wide (v : Value) (n : Nat) (A : Option Addr) (ca : Nat) (cap : Int) (w : World) (hl : 80 < n ∨ cap < 0 ∨ 1099511627776 < cap) :
    Calls Try.prog 7 #[.int .i64 cap, .slice A n ca] w fun e w' => e = .returned (.bool true) ∧ Below w.heap.size w w' := by
  by_cases h1 : 80 < n
  · have d1 : decide (80 < (n : Int)) = true := decide_eq_true (by omega)
    go_enter Try.func7, Try.ntmps7
    go_wp2_with fail
    refine (qlives_calls _).mono ?_
    rintro e w1 ⟨rfl, h1⟩
    have H1 := Aside0.mk h1
    clear h1
    go_wp2_with fail
    refine (qlives_calls _).mono ?_
    rintro e w2 ⟨rfl, h2⟩
    have H2 := Aside0.mk (H1.out.trans (h2.mono H1.out.size))
    clear h2
    go_wp2
    go_ret
    exact ⟨rfl, H2.out⟩
  · have d1 : decide (80 < (n : Int)) = false := decide_eq_false (by omega)
    by_cases h2 : cap < 0
    · have d2 : decide (cap < 0) = true := decide_eq_true h2
      go_enter Try.func7, Try.ntmps7
      go_wp2_with fail
      refine (qlives_calls _).mono ?_
      rintro e w1 ⟨rfl, h1⟩
      have H1 := Aside0.mk h1
      clear h1
      go_wp2_with fail
      refine (qlives_calls _).mono ?_
      rintro e w2 ⟨rfl, h2⟩
      have H2 := Aside0.mk (H1.out.trans (h2.mono H1.out.size))
      clear h2
      go_wp2
      go_ret
      exact ⟨rfl, H2.out⟩
    · have d2 : decide (cap < 0) = false := decide_eq_false h2
      have d3 : decide (1099511627776 < cap) = true := decide_eq_true (by omega)
      go_enter Try.func7, Try.ntmps7
      go_wp2_with fail
      refine (qlives_calls _).mono ?_
      rintro e w1 ⟨rfl, h1⟩
      have H1 := Aside0.mk h1
      clear h1
      go_wp2_with fail
      refine (qlives_calls _).mono ?_
      rintro e w2 ⟨rfl, h2⟩
      have H2 := Aside0.mk (H1.out.trans (h2.mono H1.out.size))
      clear h2
      go_wp2
      go_ret
      exact ⟨rfl, H2.out⟩
theorem wf_i64 {x : Int} (h : (Lit.int .i64 x).wf = true) : -9223372036854775808 ≤ x ∧ x ≤ 9223372036854775807 := by
  simp [Lit.wf, IntKind.min, IntKind.max, IntKind.bits, IntKind.signed] at h
  omega
theorem quotaSums_walk (a0 : Int) (A1 : Option Addr) (len1 cap1 : Nat) (l1 : List ActQ) (W : World) (w0 : (Lit.int .i64 a0).wf = true)
    (hr1 : ReadsRow (fun (p : ActQ) c => c = [.int .i64 p.f0, .string p.f1, .int .i64 p.f2, .int .i64 p.f3]) 4 W A1 len1 l1) (hc1 : len1 ≤ cap1)
    (hq1 : ∀ p ∈ l1, (Lit.int .i64 p.f0).wf = true ∧ p.f1.size ≤ maxLen ∧ (Lit.int .i64 p.f2).wf = true ∧ (Lit.int .i64 p.f3).wf = true) :
    Calls Try.prog 7 #[.int .i64 a0, .slice A1 len1 cap1] W fun e w' => e = .returned (.bool true) ∧ Below W.heap.size W w' := by
  have e1 := hr1.1
  subst e1
  by_cases hl : 80 < l1.length ∨ a0 < 0 ∨ 1099511627776 < a0
  · exact qsums_wide .nilIface l1.length A1 cap1 a0 W hl
  · exact qsums_main A1 cap1 l1 a0 W (SrcA.of_reads hr1) (by omega) (by omega) (by omega) (fun x hx => ⟨wf_i64 (hq1 x hx).2.2.1, wf_i64 (hq1 x hx).2.2.2⟩)
end Go.Proofs.Ytdbhejckpkifoaa
