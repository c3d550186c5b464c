/- Rows of names: plain facts on what is taken. -/
import Derived.Test.YtdbhejckpkifoaaSlotG
import Derived.Lib.Hide
import Derived.LoopTactic
import Derived.Outline
import Derived.Laws.Rows
import Derived.Laws.CopyOwn
import Derived.WalkKit
set_option linter.unusedVariables false
set_option linter.unusedSimpArgs false
namespace Go.Proofs.Ytdbhejckpkifoaa
open Go.RowKit Go.Proofs.YtdbhejckpkifoaaW.PrintWords Go.Proofs.YtdbhejckpkifoaaW.PrintLast Go.Proofs.YtdbhejckpkifoaaW.PrintMore
open Go.Proofs.Ytdbhejckpkifoaa.PSlotsBack
attribute [local go_sem] max2_int min2_int max_two min_two max_three min_three max_four min_four


theorem letter_total (a : Int) : ∃ b, name_letter.f a = some b := by
  unfold name_letter.f
  split <;> exact ⟨_, rfl⟩
theorem sign_total (a : Int) : ∃ b, name_sign.f a = some b := by
  unfold name_sign.f
  obtain ⟨b, hb⟩ := letter_total a
  rw [hb]
  simp only [Option.bind]
  split
  · exact ⟨_, rfl⟩
  · split
    · split <;> exact ⟨_, rfl⟩
    · exact ⟨_, rfl⟩
theorem l0_total (s : ByteArray) (hs : s.size ≤ 1000) : ∀ (k i : Nat), i ≤ s.size → s.size - i < k → ∃ b, name_Right.l0 k s (s.size : Int) (i : Int) = some b
  | 0, i, _, h => by omega
  | k + 1, i, hi, h => by
    unfold name_Right.l0
    by_cases hlt : i < s.size
    · rw [if_pos (by omega), if_pos (by omega), if_pos (by omega)]
      obtain ⟨b, hb⟩ := sign_total (bt s (i : Int))
      rw [hb]
      simp only [Option.bind]
      by_cases hbt : b = true
      · rw [if_pos hbt, show wrap64 ((i : Int) + 1) = ((i + 1 : Nat) : Int) by unfold wrap64; omega]
        exact l0_total s hs k (i + 1) (by omega) (by omega)
      · rw [if_neg hbt]; exact ⟨_, rfl⟩
    · rw [if_neg (by omega)]; exact ⟨_, rfl⟩
theorem j0_total (s : ByteArray) (hs : s.size ≤ 1000) (b : Bool) : ∃ r, name_Right.j0 1100 s b = some r := by
  show ∃ r, (if b = true then some false else name_Right.l0 1099 s (s.size : Int) 0) = some r
  by_cases hb : b = true
  · rw [if_pos hb]; exact ⟨_, rfl⟩
  · rw [if_neg hb]
    exact l0_total s hs 1099 0 (by omega) (by omega)
theorem right_total (s : ByteArray) (hs : s.size ≤ 1000) : ∃ b, name_Right.f 1100 s = some b := by
  unfold name_Right.f
  split
  · exact j0_total s hs true
  · split
    · exact j0_total s hs true
    · rename_i h1 h2
      by_cases h0 : 0 < (s.size : Int)
      · rw [if_pos h0]
        obtain ⟨b, hb⟩ := letter_total (bt s 0)
        rw [hb]
        exact j0_total s hs (!b)
      · exfalso
        have hz : s.size = 0 := by omega
        apply h1
        rw [ByteArray.toList_eq]
        exact Array.toList_eq_nil_iff.2 (Array.eq_empty_of_size_eq_zero hz)
theorem right_full (s : ByteArray) (h : name_Right.f 1100 s = some true) : s.toList ≠ [] := by
  intro he
  unfold name_Right.f at h
  rw [if_pos he] at h
  have h2 : (some false : Option Bool) = some true := h
  injection h2 with h2
  cases h2
theorem toList_inj {a b : ByteArray} (h : a.toList = b.toList) : a = b := by
  rw [ByteArray.toList_eq, ByteArray.toList_eq] at h
  exact ByteArray.ext (Array.toList_inj.1 h)
theorem idx_none {n : ByteArray} {l : List ByteArray} (h : idxI n l < 0) : ∀ x ∈ l, n ≠ x := by
  intro x hx he
  unfold idxI at h
  cases hf : findS n l with
  | some i =>
    rw [hf] at h
    have h' : (i : Int) < 0 := h
    omega
  | none =>
    have := List.findIdx?_eq_none_iff.1 hf x hx
    rw [he] at this
    simp at this
theorem idx_some {n : ByteArray} {l : List ByteArray} {i : Nat} (h : idxI n l = (i : Int)) : l[i]? = some n := by
  unfold idxI at h
  cases hf : findS n l with
  | none => rw [hf] at h; simp at h; try omega
  | some j =>
    rw [hf] at h
    have hji : j = i := by simp at h; omega
    subst hji
    obtain ⟨hj, hp, _⟩ := List.findIdx?_eq_some_iff_getElem.1 hf
    rw [List.getElem?_eq_getElem hj]
    congr 1
    exact (toList_inj (beq_iff_eq.1 hp)).symm
/-- A row in which no name stands twice. -/
structure GRow (L : List ByteArray) : Prop where
  len : L.length = 8
  dis : ∀ (i j : Nat) (x : ByteArray), L[i]? = some x → L[j]? = some x → x.toList ≠ [] → i = j
def cnt (L : List ByteArray) : Nat := L.countP (fun x => !x.toList.isEmpty)
theorem grow_start : GRow (List.replicate 8 ⟨#[]⟩) := ⟨rfl, fun i j x hi _ hx => by
  have := List.mem_of_getElem? hi
  rw [(List.mem_replicate.1 this).2] at hx
  exact absurd (by decide +kernel) hx⟩
theorem cnt_start : cnt (List.replicate 8 ⟨#[]⟩) = 0 := by decide +kernel
theorem GRow.set {L : List ByteArray} (h : GRow L) {i : Nat} {n : ByteArray} (hf : idxI ⟨#[]⟩ L = (i : Int)) (hn : ofI n L < 0) (hne : n.toList ≠ []) : GRow (L.set i n) := by
  have hi := idx_some hf
  have hx : ∀ x ∈ L, n ≠ x := idx_none (by unfold ofI at hn; rwa [if_neg hne] at hn)
  refine ⟨by rw [List.length_set]; exact h.len, fun a b x ha hb hx0 => ?_⟩
  rw [List.getElem?_set] at ha hb
  by_cases h1 : i = a
  · by_cases h2 : i = b
    · omega
    · rw [if_neg h2] at hb
      rw [if_pos h1] at ha
      split at ha
      · injection ha with ha
        exact absurd ha (hx x (List.mem_of_getElem? hb))
      · cases ha
  · rw [if_neg h1] at ha
    by_cases h2 : i = b
    · rw [if_pos h2] at hb
      split at hb
      · injection hb with hb
        exact absurd hb (hx x (List.mem_of_getElem? ha))
      · cases hb
    · rw [if_neg h2] at hb
      exact h.dis a b x ha hb hx0
end Go.Proofs.Ytdbhejckpkifoaa
