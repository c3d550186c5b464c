/- A token with one sign turned: plain facts. -/
import Derived.Test.YtjlnbklendkflaaMacG
import Derived.Lib.Hide
import Derived.LoopTactic
import Derived.Outline
import Derived.Laws.Rows
import Derived.Laws.CopyOwn
import Derived.WalkKit
set_option linter.unusedVariables false
set_option linter.unusedSimpArgs false
namespace Go.Proofs.Ytjlnbklendkflaa
open Go.RowKit Go.Proofs.YtjlnbklendkflaaW.PrintWords Go.Proofs.YtjlnbklendkflaaW.PrintLast Go.Proofs.YtjlnbklendkflaaW.PrintMore
open Go.Proofs.Ytjlnbklendkflaa.PHashSums


theorem codeOf_len (k b : List Int) : (codeOf k b).length = 32 := codeOf_length k b
theorem tokenOf_len (key n : List Int) : (tokenOf key n).length = n.length + 33 := by
  unfold tokenOf
  rw [List.length_append, List.length_append, hexs_length, List.length_take, codeOf_len]
  show n.length + 1 + _ = _
  omega
theorem dg_ne (x : Int) : dg x ≠ 46 := by
  have h : ∀ k, k < 16 → bt tbl ((k : Nat) : Int) ≠ 46 := by decide +kernel
  have hm : 0 ≤ x % 16 ∧ x % 16 < 16 := by omega
  have e : x % 16 = (((x % 16).toNat : Nat) : Int) := by omega
  unfold dg
  rw [e]
  exact h _ (by omega)
theorem hexs_ne : ∀ (l : List Int), ∀ y ∈ hexs l, y ≠ 46
  | [], y, hy => by cases hy
  | x :: r, y, hy => by
    rcases List.mem_cons.1 hy with rfl | hy
    · exact dg_ne _
    · rcases List.mem_cons.1 hy with rfl | hy
      · exact dg_ne _
      · exact hexs_ne r y hy
theorem str_at {l : List Int} {j : Nat} {x : Int} (h : l[j]? = some x) (h0 : 0 ≤ x) (h1 : x ≤ 255) : (((strOfNums l).data[j]!).toNat : Int) = x := by
  have hj := (List.getElem?_eq_some_iff.1 h).1
  have e : (strOfNums l).data[j]! = UInt8.ofNat x.toNat := by
    rw [Array.getElem!_eq_getD, Array.getD_eq_getD_getElem?, ← Array.getElem?_toList, strOfNums_data, List.getElem?_map, h]
    rfl
  rw [e]
  simp
  omega
theorem tok_dot (key n : List Int) : (tokenOf key n)[n.length]? = some 46 := by
  unfold tokenOf
  simp
theorem tok_behind (key n : List Int) (j : Nat) (hj : n.length < j) (x : Int) (h : (tokenOf key n)[j]? = some x) : x ≠ 46 := by
  unfold tokenOf at h
  rw [List.getElem?_append_right (by simp; omega)] at h
  exact hexs_ne _ x (List.mem_of_getElem? h)
theorem tok_take (key n : List Int) : (tokenOf key n).take n.length = n := by
  unfold tokenOf
  simp [List.take_append]
theorem last_of {l : List Int} {k : Nat} (hr : ∀ x ∈ l, 0 ≤ x ∧ x ≤ 255) (hk : l[k]? = some 46) (hb : ∀ j x, k < j → l[j]? = some x → x ≠ 46) : Lib.lastIndexByte (strOfNums l) 46 = (k : Int) := by
  have hkl := (List.getElem?_eq_some_iff.1 hk).1
  rcases Lib.lastIndexByte_spec (strOfNums l) 46 with ⟨_, h⟩ | ⟨i, hi, e, hc, hn⟩
  · have := h k (by rw [strOfNums_size]; exact hkl)
    rw [str_at hk (by decide) (by decide)] at this
    exact absurd rfl this
  · rw [strOfNums_size] at hi hn
    rcases Nat.lt_trichotomy i k with h | h | h
    · have := hn k h hkl
      rw [str_at hk (by decide) (by decide)] at this
      exact absurd rfl this
    · rw [e, h]
    · have hx : l[i]? = some l[i] := List.getElem?_eq_getElem hi
      have hm := hr _ (List.getElem_mem hi)
      rw [str_at hx hm.1 hm.2] at hc
      exact absurd hc (hb i _ h hx)
theorem str_prefix {l : List Int} {k : Nat} {s : ByteArray} (hs : l.take k = bytesOf s) (hk : k ≤ l.length) : (strOfNums l).extract 0 k = s := by
  have e : s = strOfNums (bytesOf s) := by
    apply ByteArray.ext
    apply Array.toList_inj.1
    rw [strOfNums_data]
    unfold bytesOf
    rw [List.map_map]
    conv => lhs; rw [← List.map_id s.data.toList]
    apply List.map_congr_left
    intro x _
    simp
  rw [e, ← hs]
  apply ByteArray.ext
  apply Array.toList_inj.1
  rw [strOfNums_data]
  simp [strOfNums]
theorem turned_facts (key : List Int) (s : ByteArray) (i : Nat) (y : Int) (hi : s.size < i) (hi2 : i < s.size + 33) (hy : 0 ≤ y ∧ y ≤ 255) (hy46 : y ≠ 46) (hyx : (tokenOf key (bytesOf s))[i]? ≠ some y) :
    Lib.lastIndexByte (strOfNums ((tokenOf key (bytesOf s)).set i y)) 46 = (s.size : Int) ∧ (strOfNums ((tokenOf key (bytesOf s)).set i y)).extract 0 s.size = s ∧ bytesOf (strOfNums ((tokenOf key (bytesOf s)).set i y)) ≠ tokenOf key (bytesOf s) ∧ (strOfNums ((tokenOf key (bytesOf s)).set i y)).size = s.size + 33 := by
  have hl := tokenOf_len key (bytesOf s)
  rw [bytesOf_length] at hl
  have hr : ∀ x ∈ (tokenOf key (bytesOf s)).set i y, 0 ≤ x ∧ x ≤ 255 := by
    intro x hx
    rcases List.mem_or_eq_of_mem_set hx with hx | rfl
    · exact tokenOf_range key s x hx
    · exact hy
  refine ⟨last_of hr ?_ ?_, str_prefix ?_ (by rw [List.length_set]; omega), ?_, by rw [strOfNums_size, List.length_set, hl]⟩
  · rw [List.getElem?_set_ne (by omega)]
    have := tok_dot key (bytesOf s)
    rwa [bytesOf_length] at this
  · intro j x hj hx
    rw [List.getElem?_set] at hx
    split at hx
    · rename_i hij
      rw [if_pos (by omega)] at hx
      injection hx with hx
      rw [← hx]; exact hy46
    · exact tok_behind key (bytesOf s) j (by rw [bytesOf_length]; exact hj) x hx
  · have := tok_take key (bytesOf s)
    rw [bytesOf_length] at this
    rw [List.take_set_of_le (by omega), this]
  · rw [bytesOf_str _ hr]
    intro e
    apply hyx
    rw [← e, List.getElem?_set_self (by omega)]
theorem xor_ne {x y : Int} (hx : 0 ≤ x ∧ x ≤ 255) (hy : 0 ≤ y ∧ y ≤ 255) (h : y ≠ 0) : Go.bits .xor .u8 x y ≠ x ∧ 0 ≤ Go.bits .xor .u8 x y ∧ Go.bits .xor .u8 x y ≤ 255 := by
  obtain ⟨X, rfl⟩ := Int.eq_ofNat_of_zero_le hx.1
  obtain ⟨Y, rfl⟩ := Int.eq_ofNat_of_zero_le hy.1
  have e : Go.bits .xor .u8 (X : Int) (Y : Int) = ((X ^^^ Y : Nat) : Int) := u8_xor_nat X Y (by omega) (by omega)
  have hx' : X ^^^ Y < 2 ^ 8 := Nat.xor_lt_two_pow (by omega) (by omega)
  rw [e]
  refine ⟨fun he => ?_, by omega, by omega⟩
  have h1 : X ^^^ Y = X := by omega
  have h2 : X ^^^ (X ^^^ Y) = 0 := by rw [h1, Nat.xor_self]
  rw [← Nat.xor_assoc, Nat.xor_self, Nat.zero_xor] at h2
  omega
end Go.Proofs.Ytjlnbklendkflaa
