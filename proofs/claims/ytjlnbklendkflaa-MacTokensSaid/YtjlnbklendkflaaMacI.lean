/- The law MacTurned, walked. -/
import Derived.Test.YtjlnbklendkflaaMacH
import Derived.Lib.Hide
import Derived.LoopTactic
import Derived.Outline
import Derived.Laws.Rows
import Derived.Laws.CopyOwn
import Derived.WalkKit
set_option linter.unusedVariables false
set_option linter.unusedSimpArgs false
namespace Go.Proofs.Ytjlnbklendkflaa
open Go.RowKit Go.Proofs.YtjlnbklendkflaaW.PrintWords Go.Proofs.YtjlnbklendkflaaW.PrintLast Go.Proofs.YtjlnbklendkflaaW.PrintMore
open Go.Proofs.Ytjlnbklendkflaa.PHashSums


theorem bw_cell (W : World) (t : ByteArray) (j : Nat) (x : Int) (h : (bytesOf t)[j]? = some x) : (Lib.bytesWorld W 5 t).cell? ⟨W.heap.size, j, none⟩ = some (.int .u8 x) := by
  rcases src_bytes W t 0 with ⟨c, e, _⟩ | ⟨ad, c, e, hc⟩
  · cases e
  · injection e with e1 e2 e3
    injection e1 with e1
    subst e1
    have := hc j x h
    rwa [show Addr.add ⟨W.heap.size, 0, none⟩ j = ⟨W.heap.size, j, none⟩ from by unfold Addr.add; split <;> simp_all] at this
theorem bw_frozen (W : World) (t : ByteArray) (j : Nat) (h : j < t.size) : (Lib.bytesWorld W 5 t).frozen? ⟨W.heap.size, j, none⟩ = false := by
  have e := Lib.bytesWorld_at_new W 5 t
  have hz : t.size ≤ (Lib.bytesCells W 5 t).size := by
    unfold Lib.bytesCells
    rw [Array.size_append, Array.size_map]
    show t.data.size ≤ _
    omega
  simp [World.frozen?, e]
  omega
theorem src_turned (W : World) (t : ByteArray) (i : Nat) (x z : Int) (tl : List Int) (htb : bytesOf t = tl) (hx : tl[i]? = some x) (c : Nat) :
    SrcB ((Lib.bytesWorld W 5 t).setCell ⟨W.heap.size, i, none⟩ (.int .u8 z)) (.slice (some ⟨W.heap.size, 0, none⟩) (tl.set i z).length c) (tl.set i z) := by
  refine .inr ⟨⟨W.heap.size, 0, none⟩, c, rfl, fun j u hu => ?_⟩
  rw [show Addr.add ⟨W.heap.size, 0, none⟩ j = ⟨W.heap.size, j, none⟩ from by unfold Addr.add; split <;> simp_all]
  by_cases hj : j = i
  · subst hj
    rw [List.getElem?_set_self (List.getElem?_eq_some_iff.1 hx).1] at hu
    injection hu with hu
    subst hu
    exact World.cell?_setCell_same _ _ _ (bw_cell W t j x (by rw [htb]; exact hx))
  · rw [List.getElem?_set_ne (Ne.symm hj)] at hu
    rw [World.cell?_setCell_other (h := by intro e; injection e with _ e; exact hj e.symm)]
    exact bw_cell W t j u (by rw [htb]; exact hu)
set_option maxRecDepth 100000 in
set_option maxHeartbeats 8000000 in
theorem turned_main (A : Option Addr) (ca : Nat) (key : List Int) (s : ByteArray) (at_ y : Int) (w : World) (ha : SrcB w (.slice A key.length ca) key) (hla : key.length ≤ 100) (hs : s.size ≤ 60) (hat : 0 ≤ at_ ∧ at_ ≤ 255) (hy : 0 ≤ y ∧ y ≤ 255) (hy0 : y ≠ 0) :
    Calls Try.prog 8 #[.slice A key.length ca, .string s, .int .u8 at_, .int .u8 y] w fun e w' => e = .returned (.bool true) ∧ Below w.heap.size w w' := by
  have HA := Aside0.mk ha
  obtain ⟨tl, htl⟩ : ∃ tl, tl = tokenOf key (bytesOf s) := ⟨_, rfl⟩
  obtain ⟨t, ht⟩ : ∃ t, t = strOfNums tl := ⟨_, rfl⟩
  have hlen : tl.length = s.size + 33 := by rw [htl, tokenOf_len, bytesOf_length]
  have htb : bytesOf t = tl := by rw [ht]; exact bytesOf_str _ (by rw [htl]; exact tokenOf_range _ _)
  have hts : t.size = s.size + 33 := by rw [← bytesOf_length t, htb, hlen]
  have kt := fun W => print_bytes (P := Try.prog) 9 22 5 Try.underlying9 Try.underlying22 Try.underlying5 t W
  have hc := fun W (h : SrcB W (.slice A key.length ca) key) => token_calls A ca key s W h (by omega) (by omega)
  rw [← htl, ← ht] at hc
  have HC := Lib.hid hc
  have d1 : decide (100 < (key.length : Int)) = false := decide_eq_false (by omega)
  have d2 : decide (60 < (s.size : Int)) = false := decide_eq_false (by omega)
  have d3 : (y == 0) = false := beq_eq_false_iff_ne.2 hy0
  obtain ⟨i, hi⟩ : ∃ i : Nat, i = s.size + 1 + (at_ % 32).toNat := ⟨_, rfl⟩
  have hA1 : wrap64 (s.size + 1) = (s.size + 1 : Int) := by unfold wrap64; omega
  have hA2 : Int.tmod at_ 32 = at_ % 32 := Int.tmod_eq_emod_of_nonneg hat.1
  have hA3 : wrap64 ((s.size + 1 : Int) + at_ % 32) = (i : Int) := by unfold wrap64; omega
  have hA4 : (s.size : Int) + 1 + at_ % 32 = (i : Int) := by omega
  have hil : i < t.size := by omega
  have HI := Aside0.mk (show s.size < i ∧ i < s.size + 33 by omega)
  obtain ⟨x, hx⟩ : ∃ x, tl[i]? = some x := ⟨_, List.getElem?_eq_getElem (by omega)⟩
  have hxr : 0 ≤ x ∧ x ≤ 255 := by rw [htl] at hx; exact tokenOf_range key s x (List.mem_of_getElem? hx)
  have HX := Aside0.mk hx
  have hlt : (tl.set i (Go.bits .xor .u8 x y)).length = s.size + 33 := by rw [List.length_set, hlen]
  have hst : ∀ W, SrcB ((Lib.bytesWorld W 5 t).setCell ⟨W.heap.size, i, none⟩ (.int .u8 (Go.bits .xor .u8 x y))) (.slice (some ⟨W.heap.size, 0, none⟩) (tl.set i (Go.bits .xor .u8 x y)).length (grownCap W (s.size + 33) 0 5)) (tl.set i (Go.bits .xor .u8 x y)) := fun W => src_turned W t i x _ tl htb hx _
  obtain ⟨t2, ht2⟩ : ∃ t2, t2 = strOfNums (tl.set i (Go.bits .xor .u8 x y)) := ⟨_, rfl⟩
  have ks := fun W => src_string (hst W)
  rw [hlt, ← ht2] at ks
  have HT2 := Aside0.mk (And.intro ht2 htl)
  clear hst hlt ht2
  have kcell := fun W => bw_cell W t i x (by rw [htb]; exact hx)
  have kfroz := fun W => bw_frozen W t i hil
  obtain ⟨z, hz⟩ : ∃ z, z = Go.bits .xor .u8 x y := ⟨_, rfl⟩
  have hzr := xor_ne hxr hy hy0
  rw [← hz] at hzr
  have HZR := Aside0.mk hzr
  have HZ := Aside0.mk hz
  clear hz
  clear hxr hx hzr
  clear ha hc ht htl hy0 hlen hi
  go_enter Try.func8, Try.ntmps8
  go_wp2_with fail
  refine (lives6_calls _).mono ?_
  rintro e w1 ⟨rfl, h1⟩
  have H1 := Aside0.mk h1
  clear h1
  go_wp2_with fail
  refine (HC.out _ (HA.out.below H1.out)).mono ?_
  rintro e w2 ⟨rfl, h2⟩
  have H2 := Aside0.mk (H1.out.trans (h2.mono H1.out.size))
  clear h2
  have HB3 := Aside0.mk (Below.setCell (bytes_below H2.out H2.out.size 5 t) (p := ⟨w2.heap.size, i, none⟩) H2.out.size (.int .u8 (Go.bits .xor .u8 x y)))
  have HA3 := Aside0.mk (HA.out.below HB3.out)
  by_cases h46 : Go.bits .xor .u8 x y = 46
  · have d46 : (Go.bits .xor .u8 x y == 46) = true := beq_iff_eq.2 h46
    clear h46
    go_wp2_with fail
    go_ret
    exact ⟨rfl, HB3.out⟩
  · have d46 : (Go.bits .xor .u8 x y == 46) = false := beq_eq_false_iff_ne.2 h46
    have hf := turned_facts key s i (Go.bits .xor .u8 x y) HI.out.1 HI.out.2 (by rw [← HZ.out]; exact HZR.out.2) h46 (by rw [← HT2.out.2, HX.out]; intro e; injection e with e; rw [← HZ.out] at e; exact HZR.out.1 e.symm)
    rw [← HT2.out.2, ← HT2.out.1] at hf
    have hck := check_miss A ca key t2 s.size _ HA3.out (by omega) (by rw [hf.2.2.2]; omega) hf.1 (by rw [hf.2.2.2]; omega) (by rw [hf.2.1, ← HT2.out.2]; exact hf.2.2.1)
    have HCK := Lib.hid hck
    clear h46 hf hck
    go_wp2_with fail
    refine HCK.out.mono ?_
    rintro e w4 ⟨rfl, h4⟩
    have HB4 := Aside0.mk (HB3.out.trans (h4.mono HB3.out.size))
    clear h4
    go_wp2
    go_ret
    exact ⟨rfl, HB4.out⟩
set_option maxRecDepth 100000 in
set_option maxHeartbeats 8000000 in
theorem macturned_calls (A : Option Addr) (ca : Nat) (key : List Int) (s : ByteArray) (at_ y : Int) (w : World) (ha : SrcB w (.slice A key.length ca) key) (hma : key.length ≤ 9223372036854775807) (hms : s.size ≤ 140737488351232) (hat : 0 ≤ at_ ∧ at_ ≤ 255) (hy : 0 ≤ y ∧ y ≤ 255) :
    Calls Try.prog 8 #[.slice A key.length ca, .string s, .int .u8 at_, .int .u8 y] w fun e w' => e = .returned (.bool true) ∧ Below w.heap.size w w' := by
  by_cases hla : key.length ≤ 100
  · by_cases hs : s.size ≤ 60
    · by_cases hy0 : y = 0
      · have d1 : decide (100 < (key.length : Int)) = false := decide_eq_false (by omega)
        have d2 : decide (60 < (s.size : Int)) = false := decide_eq_false (by omega)
        have d3 : (y == 0) = true := beq_iff_eq.2 hy0
        clear ha hat hy hy0
        go_enter Try.func8, Try.ntmps8
        go_wp2_with fail
        refine (lives6_calls _).mono ?_
        rintro e w1 ⟨rfl, h1⟩
        have H1 := Aside0.mk h1
        clear h1
        go_wp2_with fail
        refine (lives6_calls _).mono ?_
        rintro e w2 ⟨rfl, h2⟩
        have H2 := Aside0.mk (H1.out.trans (h2.mono H1.out.size))
        clear h2
        go_wp2
        go_ret
        exact ⟨rfl, H2.out⟩
      · exact turned_main A ca key s at_ y w ha hla hs hat hy hy0
    · have d1 : decide (100 < (key.length : Int)) = false := decide_eq_false (by omega)
      have d2 : decide (60 < (s.size : Int)) = true := decide_eq_true (by omega)
      clear ha hat hy
      go_enter Try.func8, Try.ntmps8
      go_wp2_with fail
      refine (lives6_calls _).mono ?_
      rintro e w1 ⟨rfl, h1⟩
      have H1 := Aside0.mk h1
      clear h1
      go_wp2_with fail
      refine (lives6_calls _).mono ?_
      rintro e w2 ⟨rfl, h2⟩
      have H2 := Aside0.mk (H1.out.trans (h2.mono H1.out.size))
      clear h2
      go_wp2
      go_ret
      exact ⟨rfl, H2.out⟩
  · have d1 : decide (100 < (key.length : Int)) = true := decide_eq_true (by omega)
    clear ha hat hy
    go_enter Try.func8, Try.ntmps8
    go_wp2_with fail
    refine (lives6_calls _).mono ?_
    rintro e w1 ⟨rfl, h1⟩
    have H1 := Aside0.mk h1
    clear h1
    go_wp2_with fail
    refine (lives6_calls _).mono ?_
    rintro e w2 ⟨rfl, h2⟩
    have H2 := Aside0.mk (H1.out.trans (h2.mono H1.out.size))
    clear h2
    go_wp2
    go_ret
    exact ⟨rfl, H2.out⟩
theorem macTurned_walk (A0 : Option Addr) (len0 cap0 : Nat) (l0 : List Int) (s : ByteArray) (at_ y : Int) (W : World)
    (hr0 : ReadsRow (fun (p : Int) c => c = [.int .u8 p]) 1 W A0 len0 l0) (hc0 : len0 ≤ cap0) (hq0 : ∀ x ∈ l0, (Lit.int .u8 x).wf = true) (hs : s.size ≤ 140737488351232) (hat : (Lit.int .u8 at_).wf = true) (hy : (Lit.int .u8 y).wf = true) :
    Calls Try.prog 8 #[.slice A0 len0 cap0, .string s, .int .u8 at_, .int .u8 y] W fun e w' => e = .returned (.bool true) ∧ Below W.heap.size W w' := by
  have e0 := hr0.1
  subst e0
  exact macturned_calls A0 cap0 l0 s at_ y W (src_of (ints_of_row hr0)) hr0.2.1 hs (wf_u8 hat) (wf_u8 hy)
end Go.Proofs.Ytjlnbklendkflaa
