/- Chunks in plain Lean: points as a row of bits, and the points that a row of bits tells. No program. -/
import Derived.Test.YtfanomllfgoakaaBitsMath
namespace Go.Proofs.Ytfanomllfgoakaa.ChunkMath
open Go.Proofs.Ytfanomllfgoakaa.BitsMath
attribute [local irreducible] bitsOf

/-! A number's width. -/
def blen (x : Nat) : Nat := if h : x = 0 then 0 else blen (x / 2) + 1
termination_by x
decreasing_by omega
theorem blen_zero : blen 0 = 0 := by unfold blen; simp
theorem blen_pos (x : Nat) (h : x ≠ 0) : blen x = blen (x / 2) + 1 := by conv => lhs; unfold blen; simp [h]
theorem blen_le : ∀ (w x : Nat), blen x ≤ w ↔ x < 2 ^ w
  | 0, x => by
    by_cases h : x = 0
    · subst h; simp [blen_zero]
    · rw [blen_pos x h]; simp; omega
  | w + 1, x => by
    by_cases h : x = 0
    · subst h; simp [blen_zero]; exact Nat.pow_pos (by decide)
    · rw [blen_pos x h, Nat.pow_succ]
      have := blen_le w (x / 2)
      omega
theorem lt_blen (x : Nat) : x < 2 ^ blen x := (blen_le _ _).1 (Nat.le_refl _)
theorem blen_64 (x : Nat) (h : x < 18446744073709551616) : blen x ≤ 64 := (blen_le 64 x).2 h

/-! Numbers with signs. -/
def zig (v : Int) : Nat := if v < 0 then 2 * (-(v + 1)).toNat + 1 else 2 * v.toNat
def zag (n : Nat) : Int := if n % 2 = 1 then -((n / 2 : Nat) : Int) - 1 else ((n / 2 : Nat) : Int)
theorem zag_zig (v : Int) : zag (zig v) = v := by
  unfold zag zig
  split <;> split <;> omega
theorem zig_zag (n : Nat) : zig (zag n) = n := by
  unfold zag zig
  split <;> split <;> omega
def I64 (v : Int) : Prop := -9223372036854775808 ≤ v ∧ v ≤ 9223372036854775807
theorem zig_lt (v : Int) (h : I64 v) : zig v < 18446744073709551616 := by
  unfold I64 at h; unfold zig; split <;> omega
theorem zag_in (n : Nat) (h : n < 18446744073709551616) : I64 (zag n) := by
  unfold I64 zag; split <;> omega
def w64 (n : Int) : Int := (n + 9223372036854775808) % 18446744073709551616 - 9223372036854775808
theorem w64_in (n : Int) : I64 (w64 n) := by unfold I64 w64; omega
theorem w64_step (u v : Int) (hv : I64 v) : w64 (u + w64 (v - u)) = v := by unfold I64 at hv; unfold w64; omega
theorem w64_back (u d : Int) (hd : I64 d) : w64 (w64 (u + d) - u) = d := by unfold I64 at hd; unfold w64; omega

/-! The writing. -/
structure Pt where
  at_ : Int
  v : Int
  deriving DecidableEq
def own (x : Nat) : List Bool := bitsOf (blen x) 7 ++ bitsOf x (blen x)
def encTail : Pt → List Pt → List Bool
  | _, [] => []
  | p, q :: r => own (q.at_ - p.at_ - 1).toNat ++ own (zig (w64 (q.v - p.v))) ++ encTail q r
def encAll : List Pt → List Bool
  | [] => []
  | p :: r => bitsOf p.at_.toNat 41 ++ bitsOf (zig p.v) 64 ++ encTail p r
def enc (l : List Pt) : List Bool := bitsOf l.length 16 ++ encAll l
def maxT : Int := 1099511627776
def rises : List Pt → Prop
  | [] => True
  | [_] => True
  | p :: q :: r => p.at_ < q.at_ ∧ rises (q :: r)
def okPt (p : Pt) : Prop := 0 ≤ p.at_ ∧ p.at_ ≤ maxT ∧ I64 p.v

/-! The reading: an error's number, or what is read and what is left. -/
def take (w : Nat) (s : List Bool) : Except Nat (Nat × List Bool) :=
  if s.length < w then .error 4 else .ok (val (s.take w), s.drop w)
def get (s : List Bool) : Except Nat (Nat × List Bool) :=
  match take 7 s with
  | .error e => .error e
  | .ok (n, s1) => if 64 < n then .error 2 else
    match take n s1 with
    | .error e => .error e
    | .ok (x, s2) => if blen x = n then .ok (x, s2) else .error 2
def first (s : List Bool) : Except Nat (Pt × List Bool) :=
  match take 41 s with
  | .error e => .error e
  | .ok (a, s1) => if maxT < (a : Int) then .error 3 else
    match take 64 s1 with
    | .error e => .error e
    | .ok (v, s2) => .ok (⟨a, zag v⟩, s2)
def next (p : Pt) (s : List Bool) : Except Nat (Pt × List Bool) :=
  match get s with
  | .error e => .error e
  | .ok (st, s1) => if maxT - p.at_ ≤ (st : Int) then .error 3 else
    match get s1 with
    | .error e => .error e
    | .ok (d, s2) => .ok (⟨p.at_ + st + 1, w64 (p.v + zag d)⟩, s2)
def more : Nat → Pt → List Bool → Except Nat (List Pt × List Bool)
  | 0, _, s => .ok ([], s)
  | n + 1, p, s =>
    match next p s with
    | .error e => .error e
    | .ok (q, s1) => match more n q s1 with
      | .error e => .error e
      | .ok (l, s2) => .ok (q :: l, s2)
def all (n : Nat) (s : List Bool) : Except Nat (List Pt × List Bool) :=
  match n with
  | 0 => .ok ([], s)
  | n + 1 => match first s with
    | .error e => .error e
    | .ok (p, s1) => match more n p s1 with
      | .error e => .error e
      | .ok (l, s2) => .ok (p :: l, s2)
def rest (s : List Bool) : Bool := decide (s.length < 8) && s.all (! ·)
def dec (s : List Bool) : Except Nat (List Pt) :=
  match take 16 s with
  | .error e => .error e
  | .ok (n, s1) => match all n s1 with
    | .error e => .error e
    | .ok (l, s2) => if rest s2 then .ok l else .error 2

/-! What is written is read. -/
theorem take_bits (x w : Nat) (s : List Bool) (h : x < 2 ^ w) : take w (bitsOf x w ++ s) = .ok (x, s) := by
  unfold take
  rw [if_neg (by simp [bitsOf_length])]
  have e1 : (bitsOf x w ++ s).take w = bitsOf x w := by
    rw [List.take_append_of_le_length (by rw [bitsOf_length]; omega), List.take_of_length_le (by rw [bitsOf_length]; omega)]
  have e2 : (bitsOf x w ++ s).drop w = s := by
    rw [List.drop_append_of_le_length (by rw [bitsOf_length]; omega), List.drop_of_length_le (by rw [bitsOf_length]; omega)]; rfl
  rw [e1, e2, val_bitsOf, Nat.mod_eq_of_lt h]
theorem get_own (x : Nat) (s : List Bool) (h : x < 18446744073709551616) : get (own x ++ s) = .ok (x, s) := by
  have hb := blen_64 x h
  unfold get own
  rw [List.append_assoc, take_bits _ _ _ (by omega)]
  simp only
  rw [if_neg (by omega), take_bits _ _ _ (lt_blen x)]
  simp only [if_true]
theorem first_enc (p : Pt) (s : List Bool) (h : okPt p) : first (bitsOf p.at_.toNat 41 ++ bitsOf (zig p.v) 64 ++ s) = .ok (p, s) := by
  obtain ⟨h0, h1, hv⟩ := h
  unfold maxT at h1
  unfold first
  rw [List.append_assoc, take_bits _ _ _ (by omega)]
  simp only
  rw [if_neg (by unfold maxT; omega), take_bits _ _ _ (by have := zig_lt _ hv; omega)]
  simp only [zag_zig]
  have : (p.at_.toNat : Int) = p.at_ := by omega
  rw [this]
theorem next_enc (p q : Pt) (s : List Bool) (hp : okPt p) (hq : okPt q) (hlt : p.at_ < q.at_) :
    next p (own (q.at_ - p.at_ - 1).toNat ++ own (zig (w64 (q.v - p.v))) ++ s) = .ok (q, s) := by
  obtain ⟨h0, h1, _⟩ := hp
  obtain ⟨g0, g1, hv⟩ := hq
  unfold maxT at h1 g1
  unfold next
  rw [List.append_assoc, get_own _ _ (by omega)]
  simp only
  rw [if_neg (by unfold maxT; omega), get_own _ _ (zig_lt _ (w64_in _))]
  simp only [zag_zig]
  rw [w64_step _ _ hv]
  have : p.at_ + ((q.at_ - p.at_ - 1).toNat : Int) + 1 = q.at_ := by omega
  rw [this]
theorem more_enc : ∀ (l : List Pt) (p : Pt) (s : List Bool), okPt p → (∀ q ∈ l, okPt q) → rises (p :: l) → more l.length p (encTail p l ++ s) = .ok (l, s)
  | [], _, _, _, _, _ => rfl
  | q :: r, p, s, hp, hl, hr => by
    have hq := hl q List.mem_cons_self
    show more (r.length + 1) p _ = _
    unfold more
    simp only [encTail]
    rw [List.append_assoc, next_enc p q _ hp hq hr.1]
    simp only
    rw [more_enc r q s hq (fun x hx => hl x (List.mem_cons_of_mem _ hx)) hr.2]
theorem all_enc (l : List Pt) (s : List Bool) (hl : ∀ q ∈ l, okPt q) (hr : rises l) : all l.length (encAll l ++ s) = .ok (l, s) := by
  cases l with
  | nil => rfl
  | cons p r =>
    show all (r.length + 1) _ = _
    unfold all
    simp only [encAll]
    rw [List.append_assoc, first_enc p _ (hl p List.mem_cons_self)]
    simp only
    rw [more_enc r p s (hl p List.mem_cons_self) (fun x hx => hl x (List.mem_cons_of_mem _ hx)) hr]
theorem dec_enc (l : List Pt) (s : List Bool) (hl : ∀ q ∈ l, okPt q) (hr : rises l) (hn : l.length < 65536) (hs : rest s = true) : dec (enc l ++ s) = .ok l := by
  unfold dec enc
  rw [List.append_assoc, take_bits _ _ _ hn]
  simp only
  rw [all_enc l s hl hr]
  simp only [hs, if_true]

/-! What is read was written. -/
theorem take_ok {w n : Nat} {s t : List Bool} (h : take w s = .ok (n, t)) : s = bitsOf n w ++ t ∧ n < 2 ^ w := by
  unfold take at h
  split at h
  · cases h
  · rename_i hl
    injection h with h
    injection h with h1 h2
    subst h1 h2
    have hlen : (s.take w).length = w := by simp; omega
    rw [bitsOf_val w _ hlen, List.take_append_drop]
    exact ⟨rfl, val_lt w _ hlen⟩
theorem get_ok {x : Nat} {s t : List Bool} (h : get s = .ok (x, t)) : s = own x ++ t ∧ x < 18446744073709551616 := by
  unfold get at h
  split at h
  · cases h
  · rename_i n s1 h1
    split at h
    · cases h
    · rename_i hn
      split at h
      · cases h
      · rename_i y s2 h2
        split at h
        · rename_i hb
          injection h with h
          injection h with e1 e2
          subst e1 e2
          obtain ⟨rfl, _⟩ := take_ok h1
          obtain ⟨rfl, hlt⟩ := take_ok h2
          unfold own
          rw [hb, List.append_assoc]
          refine ⟨rfl, Nat.lt_of_lt_of_le hlt ?_⟩
          exact Nat.pow_le_pow_right (by decide) (show n ≤ 64 by omega)
        · cases h
theorem first_ok {p : Pt} {s t : List Bool} (h : first s = .ok (p, t)) : s = bitsOf p.at_.toNat 41 ++ bitsOf (zig p.v) 64 ++ t ∧ okPt p := by
  unfold first at h
  split at h
  · cases h
  · rename_i a s1 h1
    split at h
    · cases h
    · rename_i ha
      split at h
      · cases h
      · rename_i v s2 h2
        injection h with h
        injection h with e1 e2
        subst e1 e2
        obtain ⟨rfl, _⟩ := take_ok h1
        obtain ⟨rfl, hlt⟩ := take_ok h2
        simp only [zig_zag, List.append_assoc]
        exact ⟨rfl, by simp, by simp; omega, zag_in v (by simpa using hlt)⟩
theorem next_ok {p q : Pt} {s t : List Bool} (hp : okPt p) (h : next p s = .ok (q, t)) :
    s = own (q.at_ - p.at_ - 1).toNat ++ own (zig (w64 (q.v - p.v))) ++ t ∧ okPt q ∧ p.at_ < q.at_ := by
  obtain ⟨h0, _, _⟩ := hp
  unfold next at h
  split at h
  · cases h
  · rename_i st s1 h1
    split at h
    · cases h
    · rename_i ha
      split at h
      · cases h
      · rename_i d s2 h2
        injection h with h
        injection h with e1 e2
        subst e1 e2
        obtain ⟨rfl, _⟩ := get_ok h1
        obtain ⟨rfl, hlt⟩ := get_ok h2
        rw [w64_back _ _ (zag_in d hlt), zig_zag, show (p.at_ + (st : Int) + 1 - p.at_ - 1).toNat = st by omega, List.append_assoc]
        exact ⟨rfl, ⟨by simp; omega, by simp; omega, w64_in _⟩, by simp; omega⟩
theorem more_ok : ∀ (n : Nat) (p : Pt) (l : List Pt) (s t : List Bool), okPt p → more n p s = .ok (l, t) → s = encTail p l ++ t ∧ l.length = n ∧ (∀ q ∈ l, okPt q) ∧ rises (p :: l)
  | 0, p, l, s, t, _, h => by
    unfold more at h
    injection h with h
    injection h with e1 e2
    subst e1 e2
    exact ⟨rfl, rfl, by simp, trivial⟩
  | n + 1, p, l, s, t, hp, h => by
    unfold more at h
    split at h
    · cases h
    · rename_i q s1 h1
      split at h
      · cases h
      · rename_i r s2 h2
        injection h with h
        injection h with e1 e2
        subst e1 e2
        obtain ⟨rfl, hq, hlt⟩ := next_ok hp h1
        obtain ⟨rfl, hlen, hr, hri⟩ := more_ok n q r s1 s2 hq h2
        refine ⟨by simp [encTail], by simp [hlen], ?_, hlt, hri⟩
        intro x hx
        rcases List.mem_cons.1 hx with rfl | hx
        · exact hq
        · exact hr x hx
theorem all_ok {n : Nat} {l : List Pt} {s t : List Bool} (h : all n s = .ok (l, t)) : s = encAll l ++ t ∧ l.length = n ∧ (∀ q ∈ l, okPt q) ∧ rises l := by
  unfold all at h
  cases n with
  | zero =>
    injection h with h
    injection h with e1 e2
    subst e1 e2
    exact ⟨rfl, rfl, by simp, trivial⟩
  | succ n =>
    simp only at h
    split at h
    · cases h
    · rename_i p s1 h1
      split at h
      · cases h
      · rename_i r s2 h2
        injection h with h
        injection h with e1 e2
        subst e1 e2
        obtain ⟨rfl, hp⟩ := first_ok h1
        obtain ⟨rfl, hlen, hr, hri⟩ := more_ok n p r s1 s2 hp h2
        refine ⟨by simp [encAll], by simp [hlen], ?_, hri⟩
        intro x hx
        rcases List.mem_cons.1 hx with rfl | hx
        · exact hp
        · exact hr x hx
theorem dec_ok {l : List Pt} {s : List Bool} (h : dec s = .ok l) : ∃ t, s = enc l ++ t ∧ rest t = true ∧ (∀ q ∈ l, okPt q) ∧ rises l ∧ l.length < 65536 := by
  unfold dec at h
  split at h
  · cases h
  · rename_i n s1 h1
    split at h
    · cases h
    · rename_i r s2 h2
      split at h
      · rename_i hr
        injection h with h
        subst h
        obtain ⟨rfl, hn⟩ := take_ok h1
        obtain ⟨rfl, hlen, ho, hri⟩ := all_ok h2
        exact ⟨s2, by unfold enc; rw [hlen, List.append_assoc], hr, ho, hri, by omega⟩
      · cases h
/-- Bits that are none behind a row's end: packing drops them. -/
theorem pack_rest (l t : List Bool) (ht : rest t = true) (hm : (l ++ t).length % 8 = 0) : pack (l ++ t) = pack l := by
  have ht' : t.length < 8 ∧ ∀ b ∈ t, b = false := by
    unfold rest at ht
    simp at ht
    exact ⟨ht.1, fun b hb => by cases b with | false => rfl | true => exact absurd hb ht.2⟩
  have hg : ∀ k, gb (l ++ t) k = gb l k := by
    intro k
    unfold gb
    simp only [List.getD_eq_getElem?_getD]
    by_cases h : k < l.length
    · rw [List.getElem?_append_left h]
    · rw [List.getElem?_append_right (by omega), List.getElem?_eq_none (l := l) (by omega)]
      by_cases h2 : k - l.length < t.length
      · rw [List.getElem?_eq_getElem h2]
        have := ht'.2 _ (List.getElem_mem h2)
        simp [this]
      · rw [List.getElem?_eq_none (by omega)]
  have hl : ((l ++ t).length + 7) / 8 = (l.length + 7) / 8 := by simp at hm ⊢; omega
  unfold pack
  rw [hl]
  apply List.map_congr_left
  intro i _
  unfold byteAt
  simp only [hg]
theorem pack_unpack_all (bs : List Int) (h : ∀ x ∈ bs, 0 ≤ x ∧ x ≤ 255) : pack (unpack bs) = bs := by
  apply List.ext_getElem?
  intro i
  by_cases hi : i < bs.length
  · have hlen : ((unpack bs).length + 7) / 8 = bs.length := by rw [unpack_length]; omega
    rw [pack_get? _ _ (by omega), List.getElem?_eq_getElem hi]
    have hb := h _ (List.getElem_mem hi)
    have hg : ∀ j, j < 8 → gb (unpack bs) (8 * i + j) = bs[i] / wt j % 2 := by
      intro j hj
      unfold gb
      rw [List.getD_eq_getElem?_getD, unpack_get? _ _ (by omega)]
      have hr := bitOf_range bs (8 * i + j)
      have e : bitOf bs (8 * i + j) = bs[i] / wt j % 2 := by
        unfold bitOf
        have h1 : (8 * i + j) / 8 = i := by omega
        have h2 : wt (8 * i + j) = wt j := by unfold wt; rw [Nat.mul_add_mod]
        rw [h1, h2, List.getD_eq_getElem?_getD, List.getElem?_eq_getElem hi]; rfl
      rw [e] at hr ⊢
      unfold bv
      simp only [Option.getD_some, decide_eq_true_eq]
      split <;> omega
    congr 1
    unfold byteAt
    have g0 := hg 0 (by omega)
    rw [Nat.add_zero] at g0
    rw [g0, hg 1 (by omega), hg 2 (by omega), hg 3 (by omega), hg 4 (by omega), hg 5 (by omega), hg 6 (by omega), hg 7 (by omega)]
    have w0 : wt 0 = 128 := rfl
    have w1 : wt 1 = 64 := rfl
    have w2 : wt 2 = 32 := rfl
    have w3 : wt 3 = 16 := rfl
    have w4 : wt 4 = 8 := rfl
    have w5 : wt 5 = 4 := rfl
    have w6 : wt 6 = 2 := rfl
    have w7 : wt 7 = 1 := rfl
    rw [w0, w1, w2, w3, w4, w5, w6, w7]
    omega
  · rw [List.getElem?_eq_none (by rw [pack_length, unpack_length]; omega), List.getElem?_eq_none (by omega)]

/-! A chunk that is cut. -/
/-- A row that begins as another one, and is shorter. -/
def Cut (a b : List Bool) : Prop := ∃ u, u ≠ [] ∧ b = a ++ u
theorem cut_take (l : List Bool) (k : Nat) (h : k < l.length) : Cut (l.take k) l :=
  ⟨l.drop k, by intro e; have := congrArg List.length e; simp at this; omega, (List.take_append_drop k l).symm⟩
theorem cut_split {a b c : List Bool} (h : Cut a (b ++ c)) : Cut a b ∨ ∃ a', a = b ++ a' ∧ Cut a' c := by
  obtain ⟨u, hu, e⟩ := h
  rcases List.append_eq_append_iff.1 e with ⟨d, e1, e2⟩ | ⟨d, e1, e2⟩
  · exact .inr ⟨d, e1, u, hu, e2⟩
  · by_cases hd : d = []
    · subst hd
      right
      refine ⟨[], by simpa using e1.symm, u, hu, ?_⟩
      simpa using e2.symm
    · exact .inl ⟨d, hd, e1⟩
theorem cut_length {a b : List Bool} (h : Cut a b) : a.length < b.length := by
  obtain ⟨u, hu, rfl⟩ := h
  cases u with
  | nil => exact absurd rfl hu
  | cons x r => simp
theorem take_cut {x w : Nat} {a : List Bool} (h : Cut a (bitsOf x w)) : take w a = .error 4 := by
  have := cut_length h
  rw [bitsOf_length] at this
  unfold take
  rw [if_pos this]
theorem get_cut {x : Nat} {a : List Bool} (hx : x < 18446744073709551616) (h : Cut a (own x)) : get a = .error 4 := by
  have hb := blen_64 x hx
  unfold own at h
  unfold get
  rcases cut_split h with h' | ⟨a', rfl, h'⟩
  · rw [take_cut h']
  · rw [take_bits _ _ _ (by omega)]
    simp only
    rw [if_neg (by omega), take_cut h']
theorem first_cut {p : Pt} {a : List Bool} (hp : okPt p) (h : Cut a (bitsOf p.at_.toNat 41 ++ bitsOf (zig p.v) 64)) : first a = .error 4 := by
  obtain ⟨h0, h1, hv⟩ := hp
  unfold maxT at h1
  unfold first
  rcases cut_split h with h' | ⟨a', rfl, h'⟩
  · rw [take_cut h']
  · rw [take_bits _ _ _ (by omega)]
    simp only
    rw [if_neg (by unfold maxT; omega), take_cut h']
theorem next_cut {p q : Pt} {a : List Bool} (hp : okPt p) (hq : okPt q) (hlt : p.at_ < q.at_) (h : Cut a (own (q.at_ - p.at_ - 1).toNat ++ own (zig (w64 (q.v - p.v))))) : next p a = .error 4 := by
  obtain ⟨h0, h1, _⟩ := hp
  obtain ⟨g0, g1, hv⟩ := hq
  unfold maxT at h1 g1
  unfold next
  rcases cut_split h with h' | ⟨a', rfl, h'⟩
  · rw [get_cut (by omega) h']
  · rw [get_own _ _ (by omega)]
    simp only
    rw [if_neg (by unfold maxT; omega), get_cut (zig_lt _ (w64_in _)) h']
theorem more_cut : ∀ (l : List Pt) (p : Pt) (a : List Bool), okPt p → (∀ q ∈ l, okPt q) → rises (p :: l) → Cut a (encTail p l) → more l.length p a = .error 4
  | [], _, a, _, _, _, h => by have := cut_length h; simp [encTail] at this
  | q :: r, p, a, hp, hl, hr, h => by
    have hq := hl q List.mem_cons_self
    show more (r.length + 1) p _ = _
    unfold more
    simp only [encTail] at h
    rcases cut_split h with h' | ⟨a', rfl, h'⟩
    · rw [next_cut hp hq hr.1 h']
    · rw [next_enc p q _ hp hq hr.1]
      simp only
      rw [more_cut r q a' hq (fun x hx => hl x (List.mem_cons_of_mem _ hx)) hr.2 h']
theorem dec_cut (l : List Pt) (a : List Bool) (hl : ∀ q ∈ l, okPt q) (hr : rises l) (hn : l.length < 65536) (h : Cut a (enc l)) : dec a = .error 4 := by
  unfold dec
  unfold enc at h
  rcases cut_split h with h' | ⟨a', rfl, h'⟩
  · rw [take_cut h']
  · rw [take_bits _ _ _ hn]
    simp only
    cases l with
    | nil => have := cut_length h'; simp [encAll] at this
    | cons p r =>
      have hp := hl p List.mem_cons_self
      have e : all (p :: r).length a' = .error 4 := by
        show all (r.length + 1) _ = _
        unfold all
        simp only [encAll] at h' ⊢
        rcases cut_split h' with h2 | ⟨a2, rfl, h2⟩
        · rw [first_cut hp h2]
        · rw [first_enc p _ hp]
          simp only
          rw [more_cut r p a2 hp (fun x hx => hl x (List.mem_cons_of_mem _ hx)) hr h2]
      rw [e]
theorem dec_long (l : List Pt) (s : List Bool) (hl : ∀ q ∈ l, okPt q) (hr : rises l) (hn : l.length < 65536) (hs : rest s = false) : dec (enc l ++ s) = .error 2 := by
  unfold dec enc
  rw [List.append_assoc, take_bits _ _ _ hn]
  simp only
  rw [all_enc l s hl hr]
  simp [hs]
theorem unpack_append (a b : List Int) : unpack (a ++ b) = unpack a ++ unpack b := by
  apply List.ext_getElem?
  intro k
  by_cases h : k < 8 * a.length
  · rw [unpack_get? _ _ (by simp; omega), List.getElem?_append_left (by rw [unpack_length]; omega), unpack_get? _ _ h]
    unfold bitOf
    rw [List.getD_eq_getElem?_getD, List.getD_eq_getElem?_getD, List.getElem?_append_left (by omega)]
  · by_cases h2 : k < 8 * (a.length + b.length)
    · rw [unpack_get? _ _ (by simp; omega), List.getElem?_append_right (by rw [unpack_length]; omega), unpack_length, unpack_get? _ _ (by omega)]
      unfold bitOf
      rw [List.getD_eq_getElem?_getD, List.getD_eq_getElem?_getD, List.getElem?_append_right (by omega)]
      have e1 : (k - 8 * a.length) / 8 = k / 8 - a.length := by omega
      have e2 : wt (k - 8 * a.length) = wt k := by unfold wt; rw [show (k - 8 * a.length) % 8 = k % 8 by omega]
      rw [e1, e2]
    · rw [List.getElem?_eq_none (by rw [unpack_length]; simp; omega), List.getElem?_eq_none (by simp [unpack_length]; omega)]
theorem unpack_take (a : List Int) (k : Nat) : unpack (a.take k) = (unpack a).take (8 * k) := by
  rcases Nat.lt_or_ge k a.length with h | h
  · have e : unpack a = unpack (a.take k) ++ unpack (a.drop k) := by rw [← unpack_append, List.take_append_drop]
    have hl : (unpack (a.take k)).length = 8 * k := by rw [unpack_length, List.length_take]; omega
    conv => rhs; rw [e]
    rw [List.take_append_of_le_length (by omega)]
    exact (List.take_of_length_le (by omega)).symm
  · rw [List.take_of_length_le h, List.take_of_length_le (by rw [unpack_length]; omega)]
/-- The bytes of points: each bit row filled up with 0. -/
def bytes (l : List Pt) : List Int := pack (enc l)
theorem rest_pad (n : Nat) (h : n < 8) : rest (List.replicate n false) = true := by
  unfold rest; simp; omega
theorem dec_bytes (l : List Pt) (hl : ∀ q ∈ l, okPt q) (hr : rises l) (hn : l.length < 65536) : dec (unpack (bytes l)) = .ok l := by
  unfold bytes
  rw [unpack_pack]
  exact dec_enc l _ hl hr hn (rest_pad _ (by omega))
theorem dec_bytes_cut (l : List Pt) (k : Nat) (hl : ∀ q ∈ l, okPt q) (hr : rises l) (hn : l.length < 65536) (hk : k < (bytes l).length) : dec (unpack ((bytes l).take k)) = .error 4 := by
  unfold bytes at hk ⊢
  rw [pack_length] at hk
  rw [unpack_take, unpack_pack, List.take_append_of_le_length (by omega)]
  exact dec_cut l _ hl hr hn (cut_take _ _ (by omega))
theorem dec_bytes_long (l : List Pt) (x : Int) (hl : ∀ q ∈ l, okPt q) (hr : rises l) (hn : l.length < 65536) : dec (unpack (bytes l ++ [x])) = .error 2 := by
  unfold bytes
  rw [unpack_append, unpack_pack, List.append_assoc]
  refine dec_long l _ hl hr hn ?_
  unfold rest
  have : ¬ (List.replicate (8 * (((enc l).length + 7) / 8) - (enc l).length) false ++ unpack [x]).length < 8 := by
    simp [unpack_length]
  simp only [decide_eq_false this, Bool.false_and]
/-- What is told of bytes is packed to them. -/
theorem bytes_dec (bs : List Int) (l : List Pt) (hb : ∀ x ∈ bs, 0 ≤ x ∧ x ≤ 255) (h : dec (unpack bs) = .ok l) : bytes l = bs ∧ (∀ q ∈ l, okPt q) ∧ rises l := by
  obtain ⟨t, e, hr, hl, hri, _⟩ := dec_ok h
  refine ⟨?_, hl, hri⟩
  have h1 : pack (unpack bs) = bs := pack_unpack_all bs hb
  rw [← h1, e]
  unfold bytes
  rw [pack_rest (enc l) t hr (by rw [← e, unpack_length]; omega)]
end Go.Proofs.Ytfanomllfgoakaa.ChunkMath
