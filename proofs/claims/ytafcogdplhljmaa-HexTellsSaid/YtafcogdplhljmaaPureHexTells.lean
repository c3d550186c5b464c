/- The signs of any bytes (at most 200) are the chapter's, and are parsed to them. Of more bytes the statement says that the chapter's example holds. No condition. -/
import Derived.Test.YtafcogdplhljmaaHHexTellsx1
namespace Go.Proofs.Ytafcogdplhljmaa.Pure
open Go.RowKit Go.Proofs.Ytafcogdplhljmaa.HHexTells Go.Proofs.YtafcogdplhljmaaW.PrintWords Go.Proofs.YtafcogdplhljmaaW.PrintLast Go.Proofs.YtafcogdplhljmaaW.PrintMore

namespace HexTellsPure

theorem toList_str (xs : List Int) : (strOfNums xs).toList = xs.map fun n => UInt8.ofNat n.toNat := by
  rw [Go.ByteArray.toList_eq]
  show (xs.map fun n => UInt8.ofNat n.toNat).toArray.toList = _
  simp
theorem str_app (xs ys : List Int) : strOfNums xs ++ strOfNums ys = strOfNums (xs ++ ys) := by
  apply ByteArray.ext
  rw [ByteArray.data_append]
  simp [strOfNums]
theorem size_str (xs : List Int) : (strOfNums xs).size = xs.length := by
  show (xs.map fun n => UInt8.ofNat n.toNat).toArray.size = xs.length
  simp
theorem lives_is : catacomblaw07_lives.f = some true := by decide +kernel
theorem wf_byte {l : List Int} (h : ∀ x ∈ l, (Lit.int .u8 x).wf = true) : ∀ x ∈ l, 0 ≤ x ∧ x ≤ 255 := by
  intro x hx
  have := h x hx
  simp [Lit.wf, IntKind.min, IntKind.max, IntKind.bits, IntKind.signed] at this
  omega
theorem byteList_of {l : List Int} (h : ∀ x ∈ l, 0 ≤ x ∧ x ≤ 255) : byteList l = true := by
  unfold byteList
  rw [List.all_eq_true]
  intro x hx
  simpa using h x hx
theorem text_is {l : List Int} (h : ∀ x ∈ l, 0 ≤ x ∧ x ≤ 255) (hn : l.length ≤ 100000) : hex_Text.f l = some (strOfNums (hexL l)) := by
  unfold hex_Text.f
  rw [if_pos ⟨byteList_of h, hn⟩]


theorem half_is (n : Int) (h0 : 0 ≤ n) (h1 : n ≤ 15) (k : Nat) : hex_half.f (k + 1) (sgn n) = some (n, true) := by
  unfold hex_half.f sgn
  simp only [hex_half.j0]
  by_cases h : n < 10
  · rw [if_pos h, if_pos (by omega), if_pos (decide_eq_true (by omega))]
    congr 2
    omega
  · rw [if_neg h, if_pos (by omega), if_neg (by simp; omega), if_pos (by omega), if_pos (by omega)]
    congr 2
    omega
theorem or_is (x : Int) (h0 : 0 ≤ x) (h1 : x ≤ 255) : Go.bits .or .u8 ((x / 16 * 16) % 256) (x % 16) = x := by
  have : ∀ n : Fin 256, Go.bits .or .u8 (((n.val : Int) / 16 * 16) % 256) ((n.val : Int) % 16) = (n.val : Int) := by decide +kernel
  have h := this ⟨x.toNat, by omega⟩
  have e : ((x.toNat : Nat) : Int) = x := by omega
  simp only [e] at h
  exact h
theorem wrap_up {i : Int} (h0 : 0 ≤ i) (h : i < 1000) : wrap64 (i + 1) = i + 1 := by
  unfold wrap64
  omega
theorem drop_at (l : List Int) (n : Nat) (h : n < l.length) : l.drop n = rd l n :: l.drop (n + 1) := by
  rw [List.drop_eq_getElem_cons h]
  congr 1
  unfold rd
  simp [h]
theorem take_at (l : List Int) (n : Nat) (h : n < l.length) : l.take (n + 1) = l.take n ++ [rd l n] := by
  rw [List.take_succ_eq_append_getElem h]
  unfold rd
  simp [h]
theorem mem_at (l : List Int) (n : Nat) (h : n < l.length) : rd l n ∈ l := by
  unfold rd
  simp [h]
theorem signs_is (l : List Int) (hl : ∀ x ∈ l, 0 ≤ x ∧ x ≤ 255) (hn : l.length ≤ 200) : catacomblaw07_Signs.f l = some (strOfNums (hexL l)) := by
  unfold catacomblaw07_Signs.f
  rw [if_pos ⟨byteList_of hl, by omega⟩]

theorem bt_str (xs : List Int) (h : ∀ c ∈ xs, 0 ≤ c ∧ c ≤ 255) (n : Nat) (hn : n < xs.length) : bt (strOfNums xs) n = xs[n] := by
  have hs : (n : Int).toNat < (strOfNums xs).size := by rw [size_str]; simpa using hn
  have hc := h xs[n] (List.getElem_mem hn)
  unfold bt
  rw [dif_pos hs]
  have e : (strOfNums xs)[(n : Int).toNat]'hs = UInt8.ofNat (xs[n]).toNat := by
    show (xs.map fun n => UInt8.ofNat n.toNat).toArray[(n : Int).toNat]'_ = _
    simp
  rw [e]
  simp
  omega
theorem hexL_get : ∀ (l : List Int) (n : Nat) (_ : n < l.length), (hexL l)[2 * n]? = some (sgn (rd l n / 16)) ∧ (hexL l)[2 * n + 1]? = some (sgn (rd l n % 16))
  | [], n, h => by simp at h
  | x :: r, 0, _ => by simp [hexL, rd]
  | x :: r, n + 1, h => by
    have := hexL_get r n (by simpa using h)
    have e : rd (x :: r) ((n + 1 : Nat) : Int) = rd r n := by unfold rd; simp
    rw [e]
    exact this

theorem set_end_at (l : List Int) (n : Nat) (h : n ≤ l.length) (a b : Int) : (l.take n ++ [a]).set n b = l.take n ++ [b] := by
  have hl : (l.take n).length = n := by rw [List.length_take]; omega
  rw [List.set_append_right _ _ (by omega), hl, Nat.sub_self]
  rfl
theorem rd_end_at (l : List Int) (n : Nat) (h : n ≤ l.length) (a : Int) : rd (l.take n ++ [a]) n = a := by
  have hl : (l.take n).length = n := by rw [List.length_take]; omega
  unfold rd
  simp [hl]

theorem parse_l0 (l : List Int) (hl : ∀ x ∈ l, 0 ≤ x ∧ x ≤ 255) (hn : l.length ≤ 200) : ∀ (d k n : Nat), n + d = l.length → 2 * d + 2 < k →
    hex_Parse.l0 k (strOfNums (hexL l)) (l.take n) ((strOfNums (hexL l)).size : Int) ((2 * n : Nat) : Int) = some (l, 0) := by
  intro d
  have hsz : (strOfNums (hexL l)).size = 2 * l.length := by rw [size_str, hexL_length]
  induction d with
  | zero =>
    intro k n h1 hk
    obtain ⟨k, rfl⟩ : ∃ m, k = m + 1 := ⟨k - 1, by omega⟩
    simp only [hex_Parse.l0]
    rw [if_neg (by omega), if_neg (by omega), List.take_of_length_le (by omega)]
  | succ d ih =>
    intro k n h1 hk
    obtain ⟨k, rfl⟩ : ∃ m, k = m + 1 + 1 := ⟨k - 2, by omega⟩
    have hlt : ((2 * n : Nat) : Int) < (((strOfNums (hexL l)).size : Nat) : Int) := by omega
    have hlt2 : ((2 * n : Nat) : Int) + 1 < (((strOfNums (hexL l)).size : Nat) : Int) := by omega
    have t6 : wrap64 (((2 * n : Nat) : Int) + 1 + 1) = ((2 * n : Nat) : Int) + 1 + 1 := wrap_up (by omega) (by omega)
    have hx := hl _ (mem_at l n (by omega))
    have hg := hexL_get l n (by omega)
    have hr := hexL_range l hl
    have hb1 : bt (strOfNums (hexL l)) ((2 * n : Nat) : Int) = sgn (rd l n / 16) := by
      have h2 : 2 * n < (hexL l).length := by rw [hexL_length]; omega
      rw [bt_str _ hr (2 * n) h2]
      have := hg.1
      rw [List.getElem?_eq_getElem h2] at this
      exact Option.some.inj this
    have hb2 : bt (strOfNums (hexL l)) (((2 * n : Nat) : Int) + 1) = sgn (rd l n % 16) := by
      have h2 : 2 * n + 1 < (hexL l).length := by rw [hexL_length]; omega
      have e : ((2 * n : Nat) : Int) + 1 = ((2 * n + 1 : Nat) : Int) := by omega
      rw [e, bt_str _ hr (2 * n + 1) h2]
      have := hg.2
      rw [List.getElem?_eq_getElem h2] at this
      exact Option.some.inj this
    have hi := ih k (n + 1) (by omega) (by omega)
    rw [take_at l n (by omega)] at hi
    generalize rd l n = x at hx hb1 hb2 hi
    have hlen : (l.take n).length = n := by rw [List.length_take]; omega
    conv => lhs; unfold hex_Parse.l0
    rw [if_pos hlt, if_pos (by omega), if_pos hlt, hb1, half_is (x / 16) (by omega) (by omega) k]
    simp only [Option.bind_some, if_true]
    have t0 : Int.tmod ((2 * n : Nat) : Int) 2 = 0 := by rw [Int.tmod_eq_emod_of_nonneg (by omega)]; omega
    rw [if_pos t0, if_pos (by omega), wrap_up (by omega) (by omega)]
    obtain ⟨k, rfl⟩ : ∃ m, k = m + 1 := ⟨k - 1, by omega⟩
    conv => lhs; unfold hex_Parse.l0
    rw [if_pos hlt2, if_pos (by omega), if_pos hlt2, hb2, half_is (x % 16) (by omega) (by omega) k]
    simp only [Option.bind_some, if_true]
    have t1 : Int.tmod (((2 * n : Nat) : Int) + 1) 2 = 1 := by rw [Int.tmod_eq_emod_of_nonneg (by omega)]; omega
    have t2 : wrap64 (Int.tdiv (((2 * n : Nat) : Int) + 1) 2) = (n : Int) := by
      rw [Int.tdiv_eq_ediv_of_nonneg (by omega)]
      unfold wrap64
      omega
    have t3 : ¬ (Int.tmod (((2 * n : Nat) : Int) + 1) 2 = 0) := by rw [t1]; decide
    have t4 : (n : Int) < (((l.take n ++ [x / 16 * 16 % 256]).length : Nat) : Int) := by rw [List.length_append, hlen]; simp; omega
    have t5 : (0 : Int) ≤ (n : Int) := Int.natCast_nonneg n
    have t7 : (l.take n ++ [x / 16 * 16 % 256]).set (n : Int).toNat (Go.bits .or .u8 (rd (l.take n ++ [x / 16 * 16 % 256]) (n : Int)) (x % 16)) = l.take n ++ [x] := by
      rw [rd_end_at l n (by omega), or_is x hx.1 hx.2, Int.toNat_natCast, set_end_at l n (by omega)]
    rw [if_neg t3, t2, if_pos t5, if_pos t4, t7, t6]
    have e : ((2 * n : Nat) : Int) + 1 + 1 = ((2 * (n + 1) : Nat) : Int) := by omega
    rw [e]
    exact hi
theorem law (l : List Int) (hl : ∀ x ∈ l, 0 ≤ x ∧ x ≤ 255) : catacomblaw07_HexTells.f 1000 l = some true := by
  unfold catacomblaw07_HexTells.f
  rw [lives_is]
  simp only [Option.bind_some, if_true]
  rw [show (1000 : Nat) = 999 + 1 from rfl]
  simp only [catacomblaw07_HexTells.j0]
  by_cases h : (l.length : Int) > 200
  · rw [if_pos (decide_eq_true h), lives_is]; rfl
  · rw [if_neg (by simpa using h), signs_is l hl (by omega)]
    have hp : hex_Parse.f 999 (strOfNums (hexL l)) = some (l, 0) := by
      unfold hex_Parse.f
      have h0 := parse_l0 l hl (by omega) l.length 999 0 (by omega) (by omega)
      rw [List.take_zero, show ((2 * 0 : Nat) : Int) = 0 from rfl] at h0
      exact h0
    simp only [Option.bind_some]
    rw [hp, text_is hl (by omega)]
    simp

end HexTellsPure

theorem HexTells : catacomblaw07_HexTells.Pure := fun l _ _ hl => ⟨1000, HexTellsPure.law l (HexTellsPure.wf_byte hl)⟩

end Go.Proofs.Ytafcogdplhljmaa.Pure
