/- The law SlotsTurn: plain facts on the eight numbers in a row, and the map of what was told. -/
import Derived.Test.YtdbhejckpkifoaaSlotH
import Derived.Maps.OwnSet
import Derived.Maps.OwnOps
import Derived.Maps.RangeWalk
import Derived.Lib.Hide
import Derived.LoopTactic
import Derived.Outline
import Derived.Laws.Rows
import Derived.Laws.CopyOwn
import Derived.WalkKit
set_option linter.unusedVariables false
set_option linter.unusedSimpArgs false
namespace Go.Proofs.Ytdbhejckpkifoaa
open Go.RowKit Go.Proofs.YtdbhejckpkifoaaW.PrintWords Go.Proofs.YtdbhejckpkifoaaW.PrintLast Go.Proofs.YtdbhejckpkifoaaW.PrintMore
open Go.Proofs.Ytdbhejckpkifoaa.PSlotsBack
attribute [local go_sem] max2_int min2_int max_two min_two max_three min_three max_four min_four

/-- Whose turn the number n + j is. -/
def slN (L : List ByteArray) (n j : Nat) : ByteArray := L.getD ((n + j) % 8) ⟨#[]⟩
def fullB (s : ByteArray) : Bool := !s.toList.isEmpty
/-- Those that had a turn in k numbers from n on. -/
def seenN (L : List ByteArray) (n k : Nat) : List ByteArray := ((List.range k).map (slN L n)).filter fullB
def litS (s : ByteArray) : Lit := .string s.data.toList
/-- The map of them, each told once. -/
def mapN (L : List ByteArray) (n k : Nat) : DataW Unit := Maps.setOf (.lit (.int .i64 1)) ((seenN L n k).map litS)
theorem seenN_succ (L : List ByteArray) (n k : Nat) : seenN L n (k + 1) = if fullB (slN L n k) then seenN L n k ++ [slN L n k] else seenN L n k := by
  unfold seenN
  rw [List.range_succ, List.map_append, List.filter_append]
  by_cases h : fullB (slN L n k) = true
  · simp [h]
  · simp [h]
theorem mapN_empty {L : List ByteArray} {n k : Nat} (h : fullB (slN L n k) = false) : mapN L n (k + 1) = mapN L n k := by
  unfold mapN
  rw [seenN_succ, h]
  rfl
theorem mapN_full {L : List ByteArray} {n k : Nat} (h : fullB (slN L n k) = true) : mapN L n (k + 1) = (mapN L n k).put (litS (slN L n k)) (.lit (.int .i64 1)) := by
  unfold mapN
  rw [seenN_succ, if_pos h, List.map_append, List.map_cons, List.map_nil, Maps.setOf_snoc]
theorem keys_mapN (L : List ByteArray) (n k : Nat) : ∀ x ∈ (seenN L n k).map litS, WideAt.IsKeyLit x := by
  intro x hx
  obtain ⟨s, _, rfl⟩ := List.mem_map.1 hx
  trivial
theorem slN_new {L : List ByteArray} (hL : GRow L) {n k : Nat} (hk : k < 8) (h : fullB (slN L n k) = true) : slN L n k ∉ seenN L n k := by
  intro hm
  obtain ⟨hm, _⟩ := List.mem_filter.1 hm
  obtain ⟨j, hj, he⟩ := List.mem_map.1 hm
  have hj := List.mem_range.1 hj
  have g : ∀ i, L[(n + i) % 8]? = some (slN L n i) := fun i => by
    unfold slN
    have : (n + i) % 8 < L.length := by rw [hL.len]; omega
    rw [List.getD_eq_getElem?_getD, List.getElem?_eq_getElem this]
    rfl
  have h1 := g j
  rw [he] at h1
  have := hL.dis _ _ _ h1 (g k) (by unfold fullB at h; intro e; rw [e] at h; simp at h)
  omega
theorem litS_inj {a b : ByteArray} (h : litS a = litS b) : a = b := by
  injection h with h
  exact ByteArray.ext (Array.toList_inj.1 h)
theorem has_mapN_new {L : List ByteArray} (hL : GRow L) {n k : Nat} (hk : k < 8) (h : fullB (slN L n k) = true) : Maps.has (mapN L n k) (litS (slN L n k)) = false := by
  unfold mapN
  rw [Maps.has_setOf _ _ _ (keys_mapN L n k), List.any_eq_false]
  intro x hx hs
  obtain ⟨s, hm, rfl⟩ := List.mem_map.1 hx
  have := litS_inj (WideAt.sameKey_eq hs)
  exact slN_new hL hk h (this ▸ hm)
theorem tidy_mapN (L : List ByteArray) (n k : Nat) : Maps.Tidy (mapN L n k) := Maps.tidy_setOf _ _ (keys_mapN L n k)
theorem size_mapN {L : List ByteArray} (hL : GRow L) (n : Nat) : ∀ k, k ≤ 8 → Maps.size (mapN L n k) = (seenN L n k).length
  | 0, _ => rfl
  | k + 1, hk => by
    have ih := size_mapN hL n k (by omega)
    cases h : fullB (slN L n k) with
    | false => rw [mapN_empty h, seenN_succ, h]; exact ih
    | true =>
      rw [mapN_full h, Maps.size_put (tidy_mapN L n k), has_mapN_new hL (by omega) h, seenN_succ, if_pos h, List.length_append, ih]
      rfl
theorem seen_all {L : List ByteArray} (hL : L.length = 8) (n : Nat) : (seenN L n 8).length = cnt L := by
  obtain ⟨r, hr⟩ : ∃ r, r = n % 8 := ⟨_, rfl⟩
  have e : seenN L n 8 = seenN L r 8 := by
    unfold seenN
    congr 2
    funext j
    unfold slN
    rw [show (n + j) % 8 = (r + j) % 8 by omega]
  rw [e]
  have hr8 : r < 8 := by omega
  clear e hr
  unfold seenN cnt
  rw [← List.countP_eq_length_filter]
  match L, hL with
  | [a, b, c, d, e, f, g, h], _ =>
    match r, hr8 with
    | 0, _ | 1, _ | 2, _ | 3, _ | 4, _ | 5, _ | 6, _ | 7, _ =>
      show List.countP fullB [_, _, _, _, _, _, _, _] = List.countP fullB _
      simp only [List.countP_cons, List.countP_nil]
      simp only [slN, List.getD_cons_zero, List.getD_cons_succ, Nat.reduceAdd, Nat.reduceMod]
      try omega
theorem atKey_ones (u : DataW Unit) (k : Lit) : ∀ (acc : List Lit) (D : DataW Unit), Maps.IsMap D → (∀ x ∈ acc, WideAt.IsKeyLit x) → D.atKey k u = u → (acc.foldl (fun m x => m.put x u) D).atKey k u = u
  | [], _, _, _, h => h
  | x :: r, D, hD, hk, h => by
    rw [List.foldl_cons]
    refine atKey_ones u k r _ (hD.put _ _) (fun y hy => hk y (by simp [hy])) ?_
    by_cases e : k = x
    · subst e; exact Maps.atKey_put_same hD (hk k (by simp)) _ _
    · rw [Maps.atKey_put_other e]; exact h
theorem atKey_mapN (L : List ByteArray) (n m : Nat) (k : Lit) : (mapN L n m).atKey k (.lit (.int .i64 1)) = .lit (.int .i64 1) :=
  atKey_ones _ k _ _ Maps.isMap_empty (keys_mapN L n m) rfl
/-- The first of k numbers from n on that is somebody's. -/
def metN (L : List ByteArray) (n : Nat) : Nat → Int × Bool
  | 0 => (0, false)
  | k + 1 => if (metN L n k).2 then metN L n k else if fullB (slN L n k) then (((n + k : Nat) : Int), true) else (0, false)
theorem metN_false {L : List ByteArray} {n : Nat} : ∀ k, (metN L n k).2 = false → metN L n k = (0, false)
  | 0, _ => rfl
  | k + 1, h => by
    unfold metN at h ⊢
    by_cases h1 : (metN L n k).2 = true
    · rw [if_pos h1] at h; rw [h1] at h; cases h
    · rw [if_neg h1] at h ⊢
      by_cases h2 : fullB (slN L n k) = true
      · rw [if_pos h2] at h; cases h
      · rw [if_neg h2]
theorem next_met (L : List ByteArray) (n : Nat) (hn : n < 9223372036854775808) : ∀ k, k ≤ 8 → nextI L n 8 = if (metN L n k).2 then metN L n k else nextI L n (8 - k)
  | 0, _ => rfl
  | k + 1, hk => by
    rw [next_met L n hn k (by omega)]
    by_cases h1 : (metN L n k).2 = true
    · have : metN L n (k + 1) = metN L n k := by conv => lhs; unfold metN; rw [if_pos h1]
      rw [this, if_pos h1, if_pos h1]
    · rw [if_neg h1, show 8 - k = (8 - (k + 1)) + 1 by omega]
      conv => lhs; unfold nextI
      rw [show 8 - (8 - (k + 1) + 1) = k by omega, if_neg (by omega)]
      conv => rhs; unfold metN
      rw [if_neg h1]
      show (if (slN L n k).toList.isEmpty = true then _ else _) = _
      by_cases h2 : (slN L n k).toList.isEmpty = true
      · have : fullB (slN L n k) = false := by unfold fullB; rw [h2]; rfl
        rw [if_pos h2, this]; rfl
      · have : fullB (slN L n k) = true := by unfold fullB; simpa using h2
        rw [if_neg h2, this]; rfl
theorem next_is (L : List ByteArray) (n : Nat) (hn : n < 9223372036854775808) : nextI L n 8 = metN L n 8 := by
  rw [next_met L n hn 8 (by omega)]
  by_cases h : (metN L n 8).2 = true
  · rw [if_pos h]
  · rw [if_neg h, metN_false 8 (by simpa using h)]; rfl
theorem next_last (L : List ByteArray) : (nextI L 18446744073709551615 8).2 = fullB (L.getD 7 ⟨#[]⟩) := by
  unfold nextI
  rw [if_neg (by decide)]
  show (if (L.getD 7 ⟨#[]⟩).toList.isEmpty = true then nextI L 18446744073709551615 7 else _).2 = _
  by_cases h : (L.getD 7 ⟨#[]⟩).toList.isEmpty = true
  · have : fullB (L.getD 7 ⟨#[]⟩) = false := by unfold fullB; rw [h]; rfl
    rw [if_pos h, this]
    unfold nextI
    rw [if_pos (by decide)]
  · have : fullB (L.getD 7 ⟨#[]⟩) = true := by unfold fullB; simpa using h
    rw [if_neg h, this]
theorem cnt_set {L : List ByteArray} {i : Nat} {n : ByteArray} (hf : idxI ⟨#[]⟩ L = (i : Int)) (hn : fullB n = true) : cnt (L.set i n) = cnt L + 1 := by
  have hi := idx_some hf
  obtain ⟨hlt, he⟩ := List.getElem?_eq_some_iff.1 hi
  unfold cnt
  rw [List.countP_set (h := hlt), he]
  have h1 : (!n.toList.isEmpty) = true := hn
  rw [if_neg (by decide +kernel), if_pos h1]
  rfl
end Go.Proofs.Ytdbhejckpkifoaa
