/- Bits and bytes in plain Lean: a row of bits packed into bytes, a number's bits, and back. No program. -/
namespace Go.Proofs.Ytfanomllfgoakaa.BitsMath

def bv (b : Bool) : Int := if b then 1 else 0
theorem bv_range (b : Bool) : 0 ≤ bv b ∧ bv b ≤ 1 := by cases b <;> decide
theorem bv_ite (n : Int) : bv (decide (n % 2 = 1)) = n % 2 := by
  unfold bv
  by_cases h : n % 2 = 1
  · simp [h]
  · simp [h]; omega
/-- Bit k of a row, 0 past its end. -/
def gb (l : List Bool) (k : Nat) : Int := bv (l.getD k false)
theorem gb_range (l : List Bool) (k : Nat) : 0 ≤ gb l k ∧ gb l k ≤ 1 := bv_range _
theorem gb_past (l : List Bool) (k : Nat) (h : l.length ≤ k) : gb l k = 0 := by
  unfold gb; rw [List.getD_eq_getElem?_getD, List.getElem?_eq_none h]; rfl
theorem gb_snoc (l : List Bool) (b : Bool) (k : Nat) : gb (l ++ [b]) k = if k = l.length then bv b else gb l k := by
  unfold gb
  simp only [List.getD_eq_getElem?_getD]
  rcases Nat.lt_trichotomy k l.length with h | h | h
  · rw [if_neg (by omega), List.getElem?_append_left h]
  · rw [if_pos h]; subst h; simp
  · rw [if_neg (by omega), List.getElem?_eq_none (by simp; omega), List.getElem?_eq_none (by omega)]
/-- Byte i of a row of bits. -/
def byteAt (l : List Bool) (i : Nat) : Int :=
  gb l (8*i) * 128 + gb l (8*i+1) * 64 + gb l (8*i+2) * 32 + gb l (8*i+3) * 16 + gb l (8*i+4) * 8 + gb l (8*i+5) * 4 + gb l (8*i+6) * 2 + gb l (8*i+7)
theorem byteAt_range (l : List Bool) (i : Nat) : 0 ≤ byteAt l i ∧ byteAt l i ≤ 255 := by
  unfold byteAt
  have := gb_range l (8*i); have := gb_range l (8*i+1); have := gb_range l (8*i+2); have := gb_range l (8*i+3)
  have := gb_range l (8*i+4); have := gb_range l (8*i+5); have := gb_range l (8*i+6); have := gb_range l (8*i+7)
  omega
def pack (l : List Bool) : List Int := (List.range ((l.length + 7) / 8)).map (byteAt l)
theorem pack_length (l : List Bool) : (pack l).length = (l.length + 7) / 8 := by simp [pack]
theorem pack_nil : pack [] = [] := rfl
theorem pack_range (l : List Bool) : ∀ x ∈ pack l, 0 ≤ x ∧ x ≤ 255 := by
  intro x hx
  obtain ⟨i, _, rfl⟩ := List.mem_map.1 hx
  exact byteAt_range l i
theorem pack_getD (l : List Bool) (i : Nat) (h : i < (l.length + 7) / 8) : (pack l).getD i 0 = byteAt l i := by
  simp [pack, List.getD_eq_getElem?_getD, List.getElem?_range h]
theorem pack_get? (l : List Bool) (i : Nat) (h : i < (l.length + 7) / 8) : (pack l)[i]? = some (byteAt l i) := by
  simp [pack, List.getElem?_range h]
/-- The bit's weight in its byte. -/
def wt (n : Nat) : Int := match n % 8 with | 0 => 128 | 1 => 64 | 2 => 32 | 3 => 16 | 4 => 8 | 5 => 4 | 6 => 2 | _ => 1
theorem wt_pow (n : Nat) : wt n = 2 ^ (7 - n % 8) := by
  unfold wt
  have h : n % 8 < 8 := Nat.mod_lt _ (by decide)
  generalize n % 8 = m at h
  match m, h with
  | 0, _ => rfl
  | 1, _ => rfl
  | 2, _ => rfl
  | 3, _ => rfl
  | 4, _ => rfl
  | 5, _ => rfl
  | 6, _ => rfl
  | 7, _ => rfl
theorem byteAt_snoc (l : List Bool) (b : Bool) (i : Nat) : byteAt (l ++ [b]) i = if i = l.length / 8 then byteAt l i + bv b * wt l.length else byteAt l i := by
  have hp := gb_past l l.length (Nat.le_refl _)
  unfold byteAt
  simp only [gb_snoc]
  by_cases h : i = l.length / 8
  · rw [if_pos h]
    have hm : l.length % 8 < 8 := Nat.mod_lt _ (by decide)
    have hl : l.length = 8 * i + l.length % 8 := by omega
    unfold wt
    generalize l.length % 8 = m at hm hl
    rw [hl] at hp ⊢
    match m, hm with
    | 0, _ => simp at hp ⊢; omega
    | 1, _ => simp at hp ⊢; omega
    | 2, _ => simp at hp ⊢; omega
    | 3, _ => simp at hp ⊢; omega
    | 4, _ => simp at hp ⊢; omega
    | 5, _ => simp at hp ⊢; omega
    | 6, _ => simp at hp ⊢; omega
    | 7, _ => simp at hp ⊢; omega
  · rw [if_neg h, if_neg (by omega), if_neg (by omega), if_neg (by omega), if_neg (by omega), if_neg (by omega), if_neg (by omega), if_neg (by omega), if_neg (by omega)]
theorem pack_snoc0 (l : List Bool) (b : Bool) (h : l.length % 8 = 0) : pack (l ++ [b]) = pack l ++ [bv b * 128] := by
  apply List.ext_getElem?
  intro i
  have hlen : ((l ++ [b]).length + 7) / 8 = l.length / 8 + 1 := by simp; omega
  have hlen' : (l.length + 7) / 8 = l.length / 8 := by omega
  rcases Nat.lt_trichotomy i (l.length / 8) with h1 | h1 | h1
  · rw [pack_get? _ _ (by omega), List.getElem?_append_left (by rw [pack_length]; omega), pack_get? _ _ (by omega), byteAt_snoc, if_neg (by omega)]
  · rw [pack_get? _ _ (by omega), List.getElem?_append_right (by rw [pack_length]; omega), pack_length, byteAt_snoc, if_pos h1]
    have hz : byteAt l i = 0 := by
      unfold byteAt
      rw [gb_past _ _ (by omega), gb_past _ _ (by omega), gb_past _ _ (by omega), gb_past _ _ (by omega), gb_past _ _ (by omega), gb_past _ _ (by omega), gb_past _ _ (by omega), gb_past _ _ (by omega)]
      decide
    have hw : wt l.length = 128 := by unfold wt; simp [h]
    rw [hz, hw, h1, hlen']; simp
  · rw [List.getElem?_eq_none (by rw [pack_length]; omega), List.getElem?_eq_none (by simp [pack_length]; omega)]
theorem pack_snoc (l : List Bool) (b : Bool) (h : l.length % 8 ≠ 0) : pack (l ++ [b]) = (pack l).set (l.length / 8) (byteAt l (l.length / 8) + bv b * wt l.length) := by
  apply List.ext_getElem?
  intro i
  have hlen : ((l ++ [b]).length + 7) / 8 = l.length / 8 + 1 := by simp; omega
  have hlen' : (l.length + 7) / 8 = l.length / 8 + 1 := by omega
  rw [List.getElem?_set]
  by_cases h1 : i < l.length / 8 + 1
  · rw [pack_get? _ _ (by omega), byteAt_snoc]
    by_cases h2 : i = l.length / 8
    · rw [if_pos h2, if_pos h2.symm, if_pos (by rw [pack_length]; omega), h2]
    · rw [if_neg h2, if_neg (Ne.symm h2), pack_get? _ _ (by omega)]
  · rw [List.getElem?_eq_none (by rw [pack_length]; omega), if_neg (by omega), List.getElem?_eq_none (by rw [pack_length]; omega)]
/-- The last byte has room for the next bit: its low bits are 0. -/
theorem byteAt_room (l : List Bool) (h : l.length % 8 ≠ 0) : byteAt l (l.length / 8) % (2 * wt l.length) = 0 := by
  have hm : l.length % 8 < 8 := Nat.mod_lt _ (by decide)
  have hl : l.length = 8 * (l.length / 8) + l.length % 8 := by omega
  have hp : ∀ k, l.length ≤ k → gb l k = 0 := fun k => gb_past l k
  unfold wt byteAt
  generalize l.length / 8 = q at hl ⊢
  generalize l.length % 8 = m at hm hl h
  rw [hl] at hp
  match m, hm, h with
  | 0, _, h => exact absurd rfl h
  | 1, _, _ => have := hp (8*q+1) (by omega); have := hp (8*q+2) (by omega); have := hp (8*q+3) (by omega); have := hp (8*q+4) (by omega); have := hp (8*q+5) (by omega); have := hp (8*q+6) (by omega); have := hp (8*q+7) (by omega); simp only; omega
  | 2, _, _ => have := hp (8*q+2) (by omega); have := hp (8*q+3) (by omega); have := hp (8*q+4) (by omega); have := hp (8*q+5) (by omega); have := hp (8*q+6) (by omega); have := hp (8*q+7) (by omega); simp only; omega
  | 3, _, _ => have := hp (8*q+3) (by omega); have := hp (8*q+4) (by omega); have := hp (8*q+5) (by omega); have := hp (8*q+6) (by omega); have := hp (8*q+7) (by omega); simp only; omega
  | 4, _, _ => have := hp (8*q+4) (by omega); have := hp (8*q+5) (by omega); have := hp (8*q+6) (by omega); have := hp (8*q+7) (by omega); simp only; omega
  | 5, _, _ => have := hp (8*q+5) (by omega); have := hp (8*q+6) (by omega); have := hp (8*q+7) (by omega); simp only; omega
  | 6, _, _ => have := hp (8*q+6) (by omega); have := hp (8*q+7) (by omega); simp only; omega
  | 7, _, _ => have := hp (8*q+7) (by omega); simp only; omega

/-! Bits of bytes, and back. -/
/-- Bit k of a row of bytes: the high one of each byte first. -/
def bitOf (bs : List Int) (k : Nat) : Int := bs.getD (k / 8) 0 / wt k % 2
theorem byteAt_bit (l : List Bool) (k : Nat) : byteAt l (k / 8) / wt k % 2 = gb l k := by
  have hm : k % 8 < 8 := Nat.mod_lt _ (by decide)
  have hk : k = 8 * (k / 8) + k % 8 := by omega
  have r0 := gb_range l (8*(k/8)); have r1 := gb_range l (8*(k/8)+1); have r2 := gb_range l (8*(k/8)+2); have r3 := gb_range l (8*(k/8)+3)
  have r4 := gb_range l (8*(k/8)+4); have r5 := gb_range l (8*(k/8)+5); have r6 := gb_range l (8*(k/8)+6); have r7 := gb_range l (8*(k/8)+7)
  unfold byteAt wt
  have e : gb l k = gb l (8 * (k/8) + k % 8) := by rw [← hk]
  rw [e]
  generalize k / 8 = q at *
  clear e hk
  generalize k % 8 = m at *
  match m, hm with
  | 0, _ => simp only [Nat.add_zero]; omega
  | 1, _ => simp only; omega
  | 2, _ => simp only; omega
  | 3, _ => simp only; omega
  | 4, _ => simp only; omega
  | 5, _ => simp only; omega
  | 6, _ => simp only; omega
  | 7, _ => simp only; omega
theorem bitOf_pack (l : List Bool) (k : Nat) (h : k < 8 * ((l.length + 7) / 8)) : bitOf (pack l) k = gb l k := by
  unfold bitOf
  rw [pack_getD _ _ (by omega), byteAt_bit]
theorem wt_pos (n : Nat) : 1 ≤ wt n ∧ wt n ≤ 128 := by
  unfold wt
  have h : n % 8 < 8 := Nat.mod_lt _ (by decide)
  generalize n % 8 = m at h
  match m, h with
  | 0, _ => decide
  | 1, _ => decide
  | 2, _ => decide
  | 3, _ => decide
  | 4, _ => decide
  | 5, _ => decide
  | 6, _ => decide
  | 7, _ => decide
theorem bitOf_range (bs : List Int) (k : Nat) : 0 ≤ bitOf bs k ∧ bitOf bs k ≤ 1 := by
  unfold bitOf; omega
/-- All bits of a row of bytes. -/
def unpack (bs : List Int) : List Bool := (List.range (8 * bs.length)).map fun k => decide (bitOf bs k = 1)
theorem unpack_length (bs : List Int) : (unpack bs).length = 8 * bs.length := by simp [unpack]
theorem unpack_get? (bs : List Int) (k : Nat) (h : k < 8 * bs.length) : (unpack bs)[k]? = some (decide (bitOf bs k = 1)) := by
  simp [unpack, List.getElem?_range h]
theorem unpack_pack (l : List Bool) : unpack (pack l) = l ++ List.replicate (8 * ((l.length + 7) / 8) - l.length) false := by
  apply List.ext_getElem?
  intro k
  by_cases h : k < 8 * ((l.length + 7) / 8)
  · rw [unpack_get? _ _ (by rw [pack_length]; omega), bitOf_pack l k h]
    by_cases h1 : k < l.length
    · rw [List.getElem?_append_left h1]
      unfold gb
      rw [List.getD_eq_getElem?_getD, List.getElem?_eq_getElem h1]
      cases hb : l[k] <;> simp [bv]
    · rw [List.getElem?_append_right (by omega), List.getElem?_replicate, if_pos (by omega), gb_past _ _ (by omega)]
      simp
  · rw [List.getElem?_eq_none (by rw [unpack_length, pack_length]; omega), List.getElem?_eq_none (by simp; omega)]

/-! A number's bits. -/
def bitsOf : Nat → Nat → List Bool
  | _, 0 => []
  | x, w + 1 => bitsOf (x / 2) w ++ [decide (x % 2 = 1)]
theorem bitsOf_length : ∀ w x, (bitsOf x w).length = w
  | 0, _ => rfl
  | w + 1, x => by simp [bitsOf, bitsOf_length w]
/-- The high bits, then the low ones. -/
theorem bitsOf_add : ∀ (l h x : Nat), bitsOf x (h + l) = bitsOf (x / 2 ^ l) h ++ bitsOf (x % 2 ^ l) l
  | 0, h, x => by simp [bitsOf]
  | l + 1, h, x => by
    rw [show h + (l + 1) = (h + l) + 1 from rfl, bitsOf, bitsOf_add l h (x / 2), bitsOf, ← List.append_assoc]
    have e1 : x / 2 / 2 ^ l = x / 2 ^ (l + 1) := by rw [Nat.div_div_eq_div_mul, Nat.pow_succ, Nat.mul_comm]
    have e2 : x % 2 ^ (l + 1) / 2 = x / 2 % 2 ^ l := by
      rw [Nat.pow_succ, Nat.mul_comm, Nat.mod_mul_right_div_self]
    have e3 : x % 2 ^ (l + 1) % 2 = x % 2 := by
      rw [Nat.pow_succ, Nat.mul_comm, Nat.mod_mul_right_mod]
    rw [e1, e2, e3]
def val (l : List Bool) : Nat := l.foldl (fun a b => 2 * a + if b then 1 else 0) 0
theorem val_snoc (l : List Bool) (b : Bool) : val (l ++ [b]) = 2 * val l + if b then 1 else 0 := by simp [val]
theorem val_lt : ∀ (n : Nat) (l : List Bool), l.length = n → val l < 2 ^ n
  | 0, l, h => by
    rw [List.eq_nil_of_length_eq_zero h]; simp [val]
  | n + 1, l, h => by
    have hne : l ≠ [] := by intro e; rw [e] at h; simp at h
    rw [← List.dropLast_concat_getLast hne, val_snoc]
    have := val_lt n l.dropLast (by simp; omega)
    rw [Nat.pow_succ]
    split <;> omega
theorem val_bitsOf : ∀ (w x : Nat), val (bitsOf x w) = x % 2 ^ w
  | 0, x => by simp [bitsOf, val]; omega
  | w + 1, x => by
    rw [bitsOf, val_snoc, val_bitsOf w, Nat.pow_succ, Nat.mul_comm (2 ^ w) 2, Nat.mod_mul]
    by_cases h : x % 2 = 1
    · simp [h]; omega
    · simp [h]; omega
theorem bitsOf_val : ∀ (n : Nat) (l : List Bool), l.length = n → bitsOf (val l) n = l
  | 0, l, h => by rw [List.eq_nil_of_length_eq_zero h]; rfl
  | n + 1, l, h => by
    have hne : l ≠ [] := by intro e; rw [e] at h; simp at h
    conv => rhs; rw [← List.dropLast_concat_getLast hne]
    conv => lhs; rw [← List.dropLast_concat_getLast hne]
    rw [bitsOf, val_snoc]
    have ih := bitsOf_val n l.dropLast (by simp; omega)
    cases hb : l.getLast hne
    · have e1 : (2 * val l.dropLast + if false = true then 1 else 0) / 2 = val l.dropLast := by simp
      have e2 : decide ((2 * val l.dropLast + if false = true then 1 else 0) % 2 = 1) = false := by simp
      rw [e1, e2, ih]
    · have e1 : (2 * val l.dropLast + if true = true then 1 else 0) / 2 = val l.dropLast := by simp; omega
      have e2 : decide ((2 * val l.dropLast + if true = true then 1 else 0) % 2 = 1) = true := by simp
      rw [e1, e2, ih]
end Go.Proofs.Ytfanomllfgoakaa.BitsMath
