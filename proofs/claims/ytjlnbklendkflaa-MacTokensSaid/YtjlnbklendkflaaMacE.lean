/- mac.Check, lives, walked. -/
import Derived.Test.YtjlnbklendkflaaMacD
import Derived.Lib.Hide
import Derived.LoopTactic
import Derived.Outline
import Derived.Laws.Rows
import Derived.Laws.CopyOwn
import Derived.WalkKit
set_option linter.unusedVariables false
set_option linter.unusedSimpArgs false
namespace Go.Proofs.Ytjlnbklendkflaa
open Go.RowKit Go.Proofs.YtjlnbklendkflaaW.PrintWords Go.Proofs.YtjlnbklendkflaaW.PrintLast Go.Proofs.YtjlnbklendkflaaW.PrintMore
open Go.Proofs.Ytjlnbklendkflaa.PHashSums


theorem bytesOf_str (xs : List Int) (h : ∀ x ∈ xs, 0 ≤ x ∧ x ≤ 255) : bytesOf (strOfNums xs) = xs := by
  unfold bytesOf
  rw [strOfNums_data, List.map_map]
  conv => rhs; rw [← List.map_id xs]
  apply List.map_congr_left
  intro x hx
  have := h x hx
  simp
  omega
theorem tokenOf_range (key : List Int) (s : ByteArray) : ∀ x ∈ tokenOf key (bytesOf s), 0 ≤ x ∧ x ≤ 255 := by
  intro x hx
  unfold tokenOf at hx
  rcases List.mem_append.1 hx with hx | hx
  · rcases List.mem_append.1 hx with hx | hx
    · exact bytesOf_range s x hx
    · simp at hx; omega
  · exact hexs_range _ x hx
theorem tokenOf_length (key n : List Int) : (tokenOf key n).length ≤ n.length + 33 := by
  unfold tokenOf
  rw [List.length_append, List.length_append, hexs_length, List.length_take]
  show n.length + 1 + _ ≤ _
  omega
set_option maxRecDepth 100000 in
set_option maxHeartbeats 8000000 in
theorem check_none (A : Option Addr) (c : Nat) (key : List Int) (s : ByteArray) (w : World) (hs : s.size ≤ 80000) (hi : Lib.lastIndexByte s 46 < 0) :
    Calls Try.prog 21 #[.slice A key.length c, .string s] w fun e w' => e = .returned (.tuple #[.string ⟨#[]⟩, .bool false]) ∧ Below w.heap.size w w' := by
  have hc := Try.strings_LastIndexByte s 46 (by omega) w
  have HC := Lib.hid hc
  clear hc
  go_enter Try.func21, Try.ntmps21
  go_wp2_with fail
  refine HC.out.mono ?_
  rintro e w1 ⟨rfl, rfl⟩
  go_wp2
  go_ret2
  exact ⟨rfl, Below.refl _ _⟩
set_option maxRecDepth 100000 in
set_option maxHeartbeats 8000000 in
theorem check_hit (A : Option Addr) (c : Nat) (key : List Int) (s : ByteArray) (i : Nat) (w : World) (h : SrcB w (.slice A key.length c) key) (hl : key.length ≤ 90000) (hs : s.size ≤ 80000) (hi : Lib.lastIndexByte s 46 = (i : Int)) (his : i < s.size) (heq : bytesOf s = tokenOf key (bytesOf (s.extract 0 i))) :
    Calls Try.prog 21 #[.slice A key.length c, .string s] w fun e w' => e = .returned (.tuple #[.string (s.extract 0 i), .bool true]) ∧ Below w.heap.size w w' := by
  have hc := Try.strings_LastIndexByte s 46 (by omega) w
  rw [hi] at hc
  have HC := Lib.hid hc
  have HS := Aside0.mk h
  have kb := fun W => print_bytes (P := Try.prog) 9 22 5 Try.underlying9 Try.underlying22 Try.underlying5 s W
  have HXS := Aside0.mk (show (s.extract 0 i).size = i by rw [ByteArray.size_extract]; omega)
  have HTB := Aside0.mk ((bytes_below (Below.refl w.heap.size w) (Nat.le_refl _) 5 s))
  obtain ⟨tl, htl⟩ : ∃ tl, tl = tokenOf key (bytesOf (s.extract 0 i)) := ⟨_, rfl⟩
  obtain ⟨t, ht⟩ : ∃ t, t = strOfNums tl := ⟨_, rfl⟩
  have hc2 := token_calls A c key (s.extract 0 i) (Lib.bytesWorld w 5 s) (HS.out.below HTB.out) hl (by rw [HXS.out]; omega)
  rw [← htl, ← ht] at hc2
  have HC2 := Lib.hid hc2
  have HTL := Aside0.mk (show tl.length ≤ 80033 by rw [htl]; exact Nat.le_trans (tokenOf_length _ _) (by rw [bytesOf_length, HXS.out]; omega))
  have HT := Aside0.mk (show bytesOf t = tl by rw [ht]; exact bytesOf_str _ (by rw [htl]; exact tokenOf_range _ _))
  have kt := fun W => print_bytes (P := Try.prog) 9 22 5 Try.underlying9 Try.underlying22 Try.underlying5 t W
  rw [← htl] at heq
  clear hc2 htl ht
  clear hc h hi
  go_enter Try.func21, Try.ntmps21
  go_wp2_with fail
  refine HC.out.mono ?_
  rintro e w1 ⟨rfl, rfl⟩
  go_wp2_with fail
  refine HC2.out.mono ?_
  rintro e w2 ⟨rfl, hb2⟩
  have HB2 := Aside0.mk (HTB.out.trans (hb2.mono HTB.out.size))
  have HSB := Aside0.mk (SrcB.below (src_bytes w1 s (grownCap w1 s.size 0 5)) (hb2.trans (bytes_below (Below.refl w2.heap.size w2) (Nat.le_refl _) 5 t |>.mono hb2.size)))
  have HB3 := Aside0.mk (bytes_below HB2.out HB2.out.size 5 t)
  have hsc := same_calls (some ⟨w1.heap.size, 0, none⟩) (some ⟨w2.heap.size, 0, none⟩) (grownCap w1 s.size 0 5) (grownCap w2 t.size 0 5) (bytesOf s) (bytesOf t) (Lib.bytesWorld w2 5 t) (by rw [bytesOf_length]; exact HSB.out) (by rw [bytesOf_length]; exact src_bytes w2 t _) (by rw [bytesOf_length]; omega) (by rw [HT.out]; have := HTL.out; omega) (fun x hx => by have := bytesOf_range s x hx; omega) (fun x hx => by have := bytesOf_range t x hx; omega)
  rw [bytesOf_length, bytesOf_length, HT.out] at hsc
  have HSC := Lib.hid hsc
  clear hsc hb2
  rw [decide_eq_true heq] at HSC
  clear heq
  go_wp2_with fail
  refine HSC.out.mono ?_
  rintro e w4 ⟨rfl, hb4⟩
  have HB4 := Aside0.mk (HB3.out.trans (hb4.mono HB3.out.size))
  go_wp2
  go_ret2
  exact ⟨rfl, HB4.out⟩
set_option maxRecDepth 100000 in
set_option maxHeartbeats 8000000 in
theorem check_miss (A : Option Addr) (c : Nat) (key : List Int) (s : ByteArray) (i : Nat) (w : World) (h : SrcB w (.slice A key.length c) key) (hl : key.length ≤ 90000) (hs : s.size ≤ 80000) (hi : Lib.lastIndexByte s 46 = (i : Int)) (his : i < s.size) (heq : bytesOf s ≠ tokenOf key (bytesOf (s.extract 0 i))) :
    Calls Try.prog 21 #[.slice A key.length c, .string s] w fun e w' => e = .returned (.tuple #[.string ⟨#[]⟩, .bool false]) ∧ Below w.heap.size w w' := by
  have hc := Try.strings_LastIndexByte s 46 (by omega) w
  rw [hi] at hc
  have HC := Lib.hid hc
  have HS := Aside0.mk h
  have kb := fun W => print_bytes (P := Try.prog) 9 22 5 Try.underlying9 Try.underlying22 Try.underlying5 s W
  have HXS := Aside0.mk (show (s.extract 0 i).size = i by rw [ByteArray.size_extract]; omega)
  have HTB := Aside0.mk ((bytes_below (Below.refl w.heap.size w) (Nat.le_refl _) 5 s))
  obtain ⟨tl, htl⟩ : ∃ tl, tl = tokenOf key (bytesOf (s.extract 0 i)) := ⟨_, rfl⟩
  obtain ⟨t, ht⟩ : ∃ t, t = strOfNums tl := ⟨_, rfl⟩
  have hc2 := token_calls A c key (s.extract 0 i) (Lib.bytesWorld w 5 s) (HS.out.below HTB.out) hl (by rw [HXS.out]; omega)
  rw [← htl, ← ht] at hc2
  have HC2 := Lib.hid hc2
  have HTL := Aside0.mk (show tl.length ≤ 80033 by rw [htl]; exact Nat.le_trans (tokenOf_length _ _) (by rw [bytesOf_length, HXS.out]; omega))
  have HT := Aside0.mk (show bytesOf t = tl by rw [ht]; exact bytesOf_str _ (by rw [htl]; exact tokenOf_range _ _))
  have kt := fun W => print_bytes (P := Try.prog) 9 22 5 Try.underlying9 Try.underlying22 Try.underlying5 t W
  rw [← htl] at heq
  clear hc2 htl ht
  clear hc h hi
  go_enter Try.func21, Try.ntmps21
  go_wp2_with fail
  refine HC.out.mono ?_
  rintro e w1 ⟨rfl, rfl⟩
  go_wp2_with fail
  refine HC2.out.mono ?_
  rintro e w2 ⟨rfl, hb2⟩
  have HB2 := Aside0.mk (HTB.out.trans (hb2.mono HTB.out.size))
  have HSB := Aside0.mk (SrcB.below (src_bytes w1 s (grownCap w1 s.size 0 5)) (hb2.trans (bytes_below (Below.refl w2.heap.size w2) (Nat.le_refl _) 5 t |>.mono hb2.size)))
  have HB3 := Aside0.mk (bytes_below HB2.out HB2.out.size 5 t)
  have hsc := same_calls (some ⟨w1.heap.size, 0, none⟩) (some ⟨w2.heap.size, 0, none⟩) (grownCap w1 s.size 0 5) (grownCap w2 t.size 0 5) (bytesOf s) (bytesOf t) (Lib.bytesWorld w2 5 t) (by rw [bytesOf_length]; exact HSB.out) (by rw [bytesOf_length]; exact src_bytes w2 t _) (by rw [bytesOf_length]; omega) (by rw [HT.out]; have := HTL.out; omega) (fun x hx => by have := bytesOf_range s x hx; omega) (fun x hx => by have := bytesOf_range t x hx; omega)
  rw [bytesOf_length, bytesOf_length, HT.out] at hsc
  have HSC := Lib.hid hsc
  clear hsc hb2
  rw [decide_eq_false heq] at HSC
  clear heq
  go_wp2_with fail
  refine HSC.out.mono ?_
  rintro e w4 ⟨rfl, hb4⟩
  have HB4 := Aside0.mk (HB3.out.trans (hb4.mono HB3.out.size))
  go_wp2
  go_ret2
  exact ⟨rfl, HB4.out⟩
end Go.Proofs.Ytjlnbklendkflaa
