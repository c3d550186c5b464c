/- Of two rows of as many bytes (at most 100 each) the signs stand in the order of the bytes; those of both together are those of each. No condition. -/
import Derived.Test.YtafcogdplhljmaaHHexOrdersx1
namespace Go.Proofs.Ytafcogdplhljmaa.Pure
open Go.RowKit Go.Proofs.Ytafcogdplhljmaa.HHexOrders Go.Proofs.YtafcogdplhljmaaW.PrintWords Go.Proofs.YtafcogdplhljmaaW.PrintLast Go.Proofs.YtafcogdplhljmaaW.PrintMore

namespace HexOrdersPure

theorem toList_str (xs : List Int) : (strOfNums xs).toList = xs.map fun n => UInt8.ofNat n.toNat := by
  rw [Go.ByteArray.toList_eq]
  show (xs.map fun n => UInt8.ofNat n.toNat).toArray.toList = _
  simp
theorem str_app (xs ys : List Int) : strOfNums xs ++ strOfNums ys = strOfNums (xs ++ ys) := by
  apply ByteArray.ext
  rw [ByteArray.data_append]
  simp [strOfNums]
theorem size_str (xs : List Int) : (strOfNums xs).size = xs.length := by
  show (xs.map fun n => UInt8.ofNat n.toNat).toArray.size = xs.length
  simp
/-- The order of rows of numbers, one by one. -/
def less : List Int → List Int → Bool
  | _, [] => false
  | [], _ :: _ => true
  | a :: x, b :: y => decide (a < b) || (a == b && less x y)
theorem less_is : ∀ (x y : List Int), (∀ c ∈ x, 0 ≤ c ∧ c ≤ 255) → (∀ c ∈ y, 0 ≤ c ∧ c ≤ 255) → Op.bytesLess (x.map fun n => UInt8.ofNat n.toNat) (y.map fun n => UInt8.ofNat n.toNat) = less x y
  | x, [], _, _ => by cases x <;> rfl
  | [], _ :: _, _, _ => rfl
  | a :: x, b :: y, hx, hy => by
    have ha := hx a List.mem_cons_self
    have hb := hy b List.mem_cons_self
    have ih := less_is x y (fun c hc => hx c (List.mem_cons_of_mem _ hc)) (fun c hc => hy c (List.mem_cons_of_mem _ hc))
    simp only [List.map_cons, Op.bytesLess, less, ih]
    have e1 : decide (UInt8.ofNat a.toNat < UInt8.ofNat b.toNat) = decide (a < b) := by
      congr 1
      rw [UInt8.lt_iff_toNat_lt]
      simp
      omega
    have e2 : (UInt8.ofNat a.toNat == UInt8.ofNat b.toNat) = (a == b) := by
      rw [Bool.eq_iff_iff, beq_iff_eq, beq_iff_eq, ← UInt8.toNat_inj]
      simp
      omega
    rw [e1, e2]
theorem sgn_lt {x y : Int} (hx : 0 ≤ x ∧ x ≤ 15) (hy : 0 ≤ y ∧ y ≤ 15) : (sgn x < sgn y ↔ x < y) ∧ (sgn x = sgn y ↔ x = y) := by
  unfold sgn
  constructor <;> split <;> split <;> omega
/-- The signs stand in the order of the bytes. -/
theorem less_hex : ∀ (x y : List Int), x.length = y.length → (∀ c ∈ x, 0 ≤ c ∧ c ≤ 255) → (∀ c ∈ y, 0 ≤ c ∧ c ≤ 255) → less (hexL x) (hexL y) = less x y
  | [], [], _, _, _ => rfl
  | [], _ :: _, h, _, _ => by cases h
  | _ :: _, [], h, _, _ => by cases h
  | a :: x, b :: y, h, hx, hy => by
    have ha := hx a List.mem_cons_self
    have hb := hy b List.mem_cons_self
    have ih := less_hex x y (by simpa using h) (fun c hc => hx c (List.mem_cons_of_mem _ hc)) (fun c hc => hy c (List.mem_cons_of_mem _ hc))
    simp only [hexL, less, ih]
    have h1 := sgn_lt (x := a / 16) (y := b / 16) (by omega) (by omega)
    have h2 := sgn_lt (x := a % 16) (y := b % 16) (by omega) (by omega)
    rw [Bool.eq_iff_iff]
    simp only [Bool.or_eq_true, Bool.and_eq_true, decide_eq_true_eq, beq_iff_eq, h1.1, h1.2, h2.1, h2.2]
    constructor
    · rintro (h | ⟨h3, h | ⟨h4, h5⟩⟩)
      · left; omega
      · left; omega
      · right; exact ⟨by omega, h5⟩
    · rintro (h | ⟨h3, h5⟩)
      · by_cases h6 : a / 16 < b / 16
        · left; exact h6
        · right; exact ⟨by omega, .inl (by omega)⟩
      · right; exact ⟨by omega, .inr ⟨by omega, h5⟩⟩

theorem lives_is : catacomblaw07_lives.f = some true := by decide +kernel
theorem wf_byte {l : List Int} (h : ∀ x ∈ l, (Lit.int .u8 x).wf = true) : ∀ x ∈ l, 0 ≤ x ∧ x ≤ 255 := by
  intro x hx
  have := h x hx
  simp [Lit.wf, IntKind.min, IntKind.max, IntKind.bits, IntKind.signed] at this
  omega
theorem byteList_of {l : List Int} (h : ∀ x ∈ l, 0 ≤ x ∧ x ≤ 255) : byteList l = true := by
  unfold byteList
  rw [List.all_eq_true]
  intro x hx
  simpa using h x hx
theorem text_is {l : List Int} (h : ∀ x ∈ l, 0 ≤ x ∧ x ≤ 255) (hn : l.length ≤ 100000) : hex_Text.f l = some (strOfNums (hexL l)) := by
  unfold hex_Text.f
  rw [if_pos ⟨byteList_of h, hn⟩]

theorem law (a b : List Int) (ha : ∀ x ∈ a, 0 ≤ x ∧ x ≤ 255) (hb : ∀ x ∈ b, 0 ≤ x ∧ x ≤ 255) : catacomblaw07_HexOrders.f 5 a b = some true := by
  unfold catacomblaw07_HexOrders.f
  rw [lives_is]
  simp only [Option.bind_some, if_true]
  have long : catacomblaw07_HexOrders.j0 5 a b true = some true := by
    rw [show (5 : Nat) = 4 + 1 from rfl]
    simp only [catacomblaw07_HexOrders.j0]
    rw [if_pos trivial, lives_is]
    rfl
  by_cases h1 : (a.length : Int) > 100
  · rw [if_pos h1]
    exact long
  · rw [if_neg h1]
    by_cases h2 : (b.length : Int) > 100
    · rw [decide_eq_true h2]
      exact long
    · rw [decide_eq_false h2, show (5 : Nat) = 4 + 1 from rfl]
      simp only [catacomblaw07_HexOrders.j0]
      have hab : ∀ x ∈ a ++ b, 0 ≤ x ∧ x ≤ 255 := by
        intro x hx
        rcases List.mem_append.1 hx with hx | hx
        · exact ha x hx
        · exact hb x hx
      rw [text_is ha (by omega), text_is hb (by omega)]
      simp only [Option.bind_some, Bool.false_eq_true, if_false, List.nil_append, List.length_nil, Nat.zero_add]
      rw [if_pos (show a.length < 140737488355328 by omega), if_pos (show a.length + b.length < 140737488355328 by omega), text_is hab (by rw [List.length_append]; omega)]
      simp only [Option.bind_some]
      rw [size_str, size_str, hexL_length, hexL_length, if_pos (by omega), str_app, hexL_append, if_pos rfl]
      by_cases h3 : (a.length : Int) = (b.length : Int)
      · rw [if_pos h3, toList_str, toList_str, toList_str, toList_str, less_is _ _ (hexL_range a ha) (hexL_range b hb), less_is _ _ ha hb, less_hex a b (by omega) ha hb]
        simp
      · rw [if_neg h3]

end HexOrdersPure

theorem HexOrders : catacomblaw07_HexOrders.Pure := fun a b _ _ ha _ _ hb => ⟨5, HexOrdersPure.law a b (HexOrdersPure.wf_byte ha) (HexOrdersPure.wf_byte hb)⟩

end Go.Proofs.Ytafcogdplhljmaa.Pure
