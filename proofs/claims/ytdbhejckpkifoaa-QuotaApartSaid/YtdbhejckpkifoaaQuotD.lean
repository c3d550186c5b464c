/- quota.Ledger: Open, Close, walked; what they do, plain. -/
import Derived.Test.YtdbhejckpkifoaaQuotC
import Derived.Lib.Hide
import Derived.LoopTactic
import Derived.Outline
import Derived.Laws.Rows
import Derived.Laws.CopyOwn
import Derived.WalkKit
set_option linter.unusedVariables false
set_option linter.unusedSimpArgs false
namespace Go.Proofs.Ytdbhejckpkifoaa
open Go.RowKit Go.Proofs.YtdbhejckpkifoaaW.PrintWords Go.Proofs.YtdbhejckpkifoaaW.PrintLast Go.Proofs.YtdbhejckpkifoaaW.PrintMore
open Go.Proofs.Ytdbhejckpkifoaa.PSlotsBack
attribute [local go_sem] max2_int min2_int max_two min_two max_three min_three max_four min_four

theorem IsLed.drewN {p b : Nat} {cap : Int} {M : Mdl} {w : World} (h : IsLed p b cap M w) (n : Nat) : IsLed p b cap M (w.drewN n) := by
  obtain ⟨D, ho, hr⟩ := h.map
  exact ⟨h.led, D, ⟨ho.choose, ho.choose_spec⟩, hr⟩
/-- What an act leaves: an answer, and the ledger; all but its map stays. -/
def QPost (p b : Nat) (cap : Int) (w : World) (x : Int × Mdl) (e : Ending) (w' : World) : Prop := e = .returned (.int .i64 x.1) ∧ IsLed p b cap x.2 w' ∧ Keep (fun g => g = b) w w'
theorem keepb {b : Nat} {w w' : World} (h : Below w.heap.size w w') : Keep (fun g => g = b) w w' := (Keep.of_below h).mono fun i hi hc => by omega
theorem QPost.same {p b : Nat} {cap : Int} {M : Mdl} {w w' : World} (h : IsLed p b cap M w) (hb : Below w.heap.size w w') (r : Int) : QPost p b cap w (r, M) (.returned (.int .i64 r)) w' := ⟨rfl, h.below hb, keepb hb⟩
/-- The map has been written. -/
theorem QPost.put {p b : Nat} {cap : Int} {M M' : Mdl} {w w1 w' : World} {n : Nat} {D : DataW Unit} (h : IsLed p b cap M w) (hb : Below w.heap.size w w1) (hg : w1.grownBy w' (some b)) (ho : w'.ownsMap Try.prog 9 RA b n D) (hr : Rep D M') (r : Int) : QPost p b cap w (r, M') (.returned (.int .i64 r)) w' := by
  have hne := h.ne
  have h1 := h.below hb
  refine ⟨rfl, ⟨(hg.block p h1.plt (by intro e; injection e with e; exact hne e)).trans h1.led, D, tight ho (by rw [hr.size]; exact Nat.le_refl _), hr⟩, ?_⟩
  exact (keepb hb).grown hg (fun g e _ => by injection e with e; exact e.symm)
def openM (nb : Bool) (cap : Int) (M : Mdl) (s : ByteArray) (by_ se : Int) : Int × Mdl :=
  if nb = false then (15, M) else if rightQ by_ se = false then (1, M) else if (getM s M).isSome then (8, M) else if 8 ≤ M.length ∨ cap - sumB M < by_ then (6, M) else (0, M ++ [(s, ⟨by_, se, 0, 0⟩)])
theorem openM_good {nb : Bool} {cap : Int} {M : Mdl} {s : ByteArray} {by_ se : Int} (h : GoodM cap M) (hs : s.size ≤ 1000) : GoodM cap (openM nb cap M s by_ se).2 := by
  unfold openM
  split
  · exact h
  · split
    · exact h
    · rename_i hr
      split
      · exact h
      · rename_i hg
        split
        · exact h
        · rename_i hf
          have hr' : rightQ by_ se = true := by simpa using hr
          have := of_decide_eq_true hr'
          exact h.add (by simpa using hg) hs (by omega) this.1 this.2.1 this.2.2.1 this.2.2.2 (by omega)
abbrev XA : Obj := .cells #[.int .i64 0, .int .i64 0, .int .i64 0, .int .i64 0] 65
set_option maxRecDepth 100000 in
set_option maxHeartbeats 16000000 in
theorem qopen_calls (p b : Nat) (cap : Int) (M : Mdl) (s : ByteArray) (hs : s.size ≤ 1000) (by_ se : Int) (nb : Bool) (k : Nat) (hnr : name_Right.f k s = some nb) (w : World) (h : IsLed p b cap M w) (hG : GoodM cap M) :
    Calls Try.prog 29 #[.pointer (some ⟨p, 0, none⟩), .string s, .int .i64 by_, .int .i64 se] w (QPost p b cap w (openM nb cap M s by_ se)) := by
  have c1 := h.c1
  have hlk := h.look s hs
  obtain ⟨⟨a1, a2, a3, a4⟩, ha⟩ : ∃ a, a = (getM s M).getD zeroA := ⟨_, rfl⟩
  obtain ⟨t, ht⟩ : ∃ t, t = (getM s M).isSome := ⟨_, rfl⟩
  rw [← ha, ← ht] at hlk
  unfold acctV at hlk
  have HH := Aside0.mk h
  have HGM := Aside0.mk hG
  have HNR := Lib.hid (fun W => name_Right.calls k s nb W hnr)
  have HQR := Lib.hid (fun W => qright_calls by_ se W)
  obtain ⟨q, hq⟩ : ∃ q, q = rightQ by_ se := ⟨_, rfl⟩
  rw [← hq] at HQR
  have hBX : ∀ o, Below w.heap.size w (w.alloc o) := fun o => (Below.refl _ _).alloc (Nat.le_refl _) o
  have HB1 := Aside0.mk (hBX (.cells #[.int .i64 a1, .int .i64 a2, .int .i64 a3, .int .i64 a4] 65))
  have HT := Aside0.mk (show openM nb cap M s by_ se = if nb = false then (15, M) else if q = false then (1, M) else if t = true then (8, M) else if 8 ≤ M.length ∨ cap - sumB M < by_ then (6, M) else (0, M ++ [(s, ⟨by_, se, 0, 0⟩)]) by rw [hq, ht]; rfl)
  rw [HT.out]
  have HTG := Aside0.mk (show t = false → getM s M = none from fun e => by rw [e] at ht; simpa using ht.symm)
  clear h hG hnr ha ht hq hBX HT
  cases nb with
  | false =>
    rw [if_pos rfl]
    go_enter Try.func29, Try.ntmps29
    go_wp2_with fail
    refine (HNR.out _).mono ?_
    rintro e w2 ⟨rfl, n2, rfl⟩
    go_wp2
    go_ret
    exact QPost.same HH.out (pw_below_drewN HB1.out n2) 15
  | true =>
    rw [if_neg (by simp)]
    cases q with
    | false =>
      rw [if_pos rfl]
      go_enter Try.func29, Try.ntmps29
      go_wp2_with fail
      refine (HNR.out _).mono ?_
      rintro e w2 ⟨rfl, n2, rfl⟩
      go_wp2_with fail
      refine (HQR.out _).mono ?_
      rintro e w3 ⟨rfl, rfl⟩
      go_wp2
      go_ret
      exact QPost.same HH.out (pw_below_drewN HB1.out n2) 1
    | true =>
      rw [if_neg (by simp)]
      cases t with
      | true =>
        rw [if_pos rfl]
        go_enter Try.func29, Try.ntmps29
        go_wp2_with fail
        refine (HNR.out _).mono ?_
        rintro e w2 ⟨rfl, n2, rfl⟩
        go_wp2_with fail
        refine (HQR.out _).mono ?_
        rintro e w3 ⟨rfl, rfl⟩
        go_wp2
        go_ret
        exact QPost.same HH.out (pw_below_drewN HB1.out n2) 8
      | false =>
        rw [if_neg (by simp)]
        have HH1 := Aside0.mk (HH.out.below HB1.out)
        have d1 := HH1.out.c1
        by_cases h8 : 8 ≤ M.length
        · rw [if_pos (Or.inl h8)]
          have d8 : decide ((8 : Int) ≤ (M.length : Int)) = true := decide_eq_true (by omega)
          go_enter Try.func29, Try.ntmps29
          go_wp2_with fail
          refine (HNR.out _).mono ?_
          rintro e w2 ⟨rfl, n2, rfl⟩
          go_wp2_with fail
          refine (HQR.out _).mono ?_
          rintro e w3 ⟨rfl, rfl⟩
          have kl := (HH1.out.drewN n2).len
          go_wp2
          go_ret
          exact QPost.same HH.out (pw_below_drewN HB1.out n2) 6
        · have d8 : decide ((8 : Int) ≤ (M.length : Int)) = false := decide_eq_false (by omega)
          by_cases hc : cap - sumB M < by_
          · rw [if_pos (Or.inr hc)]
            have dc : decide (cap - sumB M < by_) = true := decide_eq_true hc
            have HV := Lib.hid (fun W (h : IsLed p b cap M W) => qleft_calls p b cap M W h HGM.out)
            obtain ⟨V, hV⟩ : ∃ V, V = cap - sumB M := ⟨_, rfl⟩
            rw [← hV] at HV dc
            clear hV hc h8
            go_enter Try.func29, Try.ntmps29
            go_wp2_with fail
            refine (HNR.out _).mono ?_
            rintro e w2 ⟨rfl, n2, rfl⟩
            go_wp2_with fail
            refine (HQR.out _).mono ?_
            rintro e w3 ⟨rfl, rfl⟩
            have kl := (HH1.out.drewN n2).len
            go_wp2_with fail
            refine (HV.out _ (HH1.out.drewN n2)).mono ?_
            rintro e w4 ⟨rfl, h4⟩
            have B4 := Aside0.mk ((pw_below_drewN HB1.out n2).trans (h4.mono HB1.out.size))
            clear h4
            go_wp2
            go_ret
            exact QPost.same HH.out B4.out 6
          · rw [if_neg (by omega)]
            have dc : decide (cap - sumB M < by_) = false := decide_eq_false hc
            have HV := Lib.hid (fun W (h : IsLed p b cap M W) => qleft_calls p b cap M W h HGM.out)
            obtain ⟨V, hV⟩ : ∃ V, V = cap - sumB M := ⟨_, rfl⟩
            rw [← hV] at HV dc
            have HLN := Aside0.mk (show M.length < maxLen by unfold maxLen; omega)
            have HK := Aside0.mk (keyS s hs)
            clear hV hc h8
            go_enter Try.func29, Try.ntmps29
            go_wp2_with fail
            refine (HNR.out _).mono ?_
            rintro e w2 ⟨rfl, n2, rfl⟩
            go_wp2_with fail
            refine (HQR.out _).mono ?_
            rintro e w3 ⟨rfl, rfl⟩
            have kl := (HH1.out.drewN n2).len
            go_wp2_with fail
            refine (HV.out _ (HH1.out.drewN n2)).mono ?_
            rintro e w4 ⟨rfl, h4⟩
            have B4 := Aside0.mk ((pw_below_drewN HB1.out n2).trans (h4.mono HB1.out.size))
            have HH4 := Aside0.mk (HH.out.below B4.out)
            have k4 := HH4.out.c1
            obtain ⟨D, ho, hrp⟩ := HH4.out.map
            have HO := Aside0.mk (And.intro ho hrp)
            clear h4 kl d1 ho hrp hlk c1
            go_wp2_with (first | (at_mapUpdate; refine wpList_mapUpdate_own _ rfl _ _ _ 84 rfl 9 65 (Maps.string_keyed Try.underlying9) Try.underlying84 _ b M.length D rfl HO.out.1 HLN.out _ _ (litS s) rfl rfl HK.out (acctD ⟨by_, se, 0, 0⟩) [] rfl ?_) | go_in)
            intro w5 hown5 hgr5
            have HF := Aside0.mk (QPost.put HH.out B4.out hgr5 hown5 (HO.out.2.add (HTG.out (by simp)) ⟨by_, se, 0, 0⟩) 0)
            clear hown5 hgr5
            go_wp2
            go_ret
            exact HF.out
def closeM (M : Mdl) (s : ByteArray) : Int × Mdl :=
  match getM s M with
  | none => (7, M)
  | some a => if 0 < a.ub ∨ 0 < a.us then (14, M) else (0, delM s M)
theorem closeM_good {cap : Int} {M : Mdl} {s : ByteArray} (h : GoodM cap M) : GoodM cap (closeM M s).2 := by
  unfold closeM
  cases hg : getM s M with
  | none => exact h
  | some a =>
    simp only
    split
    · exact h
    · exact h.del hg
set_option maxRecDepth 100000 in
set_option maxHeartbeats 16000000 in
theorem qclose_calls (p b : Nat) (cap : Int) (M : Mdl) (s : ByteArray) (hs : s.size ≤ 1000) (w : World) (h : IsLed p b cap M w) (hG : GoodM cap M) :
    Calls Try.prog 30 #[.pointer (some ⟨p, 0, none⟩), .string s] w (QPost p b cap w (closeM M s)) := by
  have HH := Aside0.mk h
  cases hg : getM s M with
  | none =>
    have HN := Lib.hid (qown_none p b cap M s hs w h hg)
    rw [show closeM M s = (7, M) by unfold closeM; rw [hg]]
    clear h hg hG
    go_enter Try.func30, Try.ntmps30
    go_wp2_with fail
    refine HN.out.mono ?_
    rintro e w2 ⟨rfl, h2⟩
    have B2 := Aside0.mk h2
    clear h2
    go_wp2
    go_ret
    exact QPost.same HH.out (B2.out.alloc B2.out.size _) 7
  | some a =>
    have HN := Lib.hid (qown_some p b cap M s hs w h a hg)
    have HE := Aside0.mk hg
    have HK := Aside0.mk (keyS s hs)
    obtain ⟨a1, a2, a3, a4⟩ := a
    rw [show closeM M s = if 0 < a3 ∨ 0 < a4 then (14, M) else (0, delM s M) by unfold closeM; rw [hg]]
    clear h hg hG
    by_cases h3 : 0 < a3
    · rw [if_pos (Or.inl h3)]
      have d3 : decide (0 < a3) = true := decide_eq_true h3
      go_enter Try.func30, Try.ntmps30
      go_wp2_with fail
      refine HN.out.mono ?_
      rintro e w2 ⟨rfl, h2⟩
      have B2 := Aside0.mk h2
      clear h2
      go_wp2
      go_ret
      exact QPost.same HH.out (B2.out.alloc B2.out.size _) 14
    · have d3 : decide (0 < a3) = false := decide_eq_false h3
      by_cases h4 : 0 < a4
      · rw [if_pos (Or.inr h4)]
        have d4 : decide (0 < a4) = true := decide_eq_true h4
        go_enter Try.func30, Try.ntmps30
        go_wp2_with fail
        refine HN.out.mono ?_
        rintro e w2 ⟨rfl, h2⟩
        have B2 := Aside0.mk h2
        clear h2
        go_wp2
        go_ret
        exact QPost.same HH.out (B2.out.alloc B2.out.size _) 14
      · rw [if_neg (by omega)]
        have d4 : decide (0 < a4) = false := decide_eq_false h4
        clear h3 h4
        go_enter Try.func30, Try.ntmps30
        go_wp2_with fail
        refine HN.out.mono ?_
        rintro e w2 ⟨rfl, h2⟩
        have B2 := Aside0.mk (h2.alloc h2.size (.cells #[.int .i64 a1, .int .i64 a2, .int .i64 a3, .int .i64 a4] 65))
        have HH4 := Aside0.mk (HH.out.below B2.out)
        have k4 := HH4.out.c1
        obtain ⟨D, ho, hrp⟩ := HH4.out.map
        have HO := Aside0.mk (And.intro ho hrp)
        clear h2 ho hrp
        go_wp2_with (first | (at_delete; refine wpList_delete_own _ rfl _ _ 84 9 rfl 65 (Maps.string_keyed Try.underlying9) Try.underlying84 _ b M.length D rfl HO.out.1 _ _ rfl HK.out ?_) | go_in)
        intro w5 hown5 hturn5
        have HF := Aside0.mk (QPost.put HH.out B2.out hturn5.grown hown5 (HO.out.2.del HE.out) 0)
        clear hown5 hturn5
        go_wp2
        go_ret
        exact HF.out
end Go.Proofs.Ytdbhejckpkifoaa
