/- Items that are written and read: the plain law, and rows of items. -/
import Derived.Test.YtfanomllfgoakaaPack
set_option linter.unusedVariables false
set_option linter.unusedSimpArgs false
namespace Go.Proofs.Ytfanomllfgoakaa
open Go.RowKit Go.Proofs.YtfanomllfgoakaaW.PrintWords Go.Proofs.YtfanomllfgoakaaW.PrintLast Go.Proofs.YtfanomllfgoakaaW.PrintMore
open Go.Proofs.Ytfanomllfgoakaa.BitsMath Go.Proofs.Ytfanomllfgoakaa.ChunkMath

structure Item where
  f0 : Int
  f1 : Int
  f2 : Bool
def itemBits (x : Item) : List Bool := if x.f2 = true then List.replicate x.f1.toNat true ++ [false] else bitsOf x.f0.toNat x.f1.toNat
def encI : List Item → List Bool
  | [] => []
  | x :: r => itemBits x ++ encI r
theorem encI_append : ∀ a b, encI (a ++ b) = encI a ++ encI b
  | [], _ => rfl
  | x :: r, b => by simp only [List.cons_append, encI, encI_append r b, List.append_assoc]
def goodI (x : Item) : Prop := 0 ≤ x.f1 ∧ (x.f2 = true → x.f1 ≤ 100) ∧ (x.f2 = false → x.f1 ≤ 64 ∧ 0 ≤ x.f0 ∧ x.f0 < 2 ^ x.f1.toNat)
def itemCells (x : Item) : List Value := [.int .u64 x.f0, .int .i64 x.f1, .bool x.f2]
def rowI : List Item → List Value
  | [] => []
  | x :: r => itemCells x ++ rowI r
theorem rowI_append : ∀ a b, rowI (a ++ b) = rowI a ++ rowI b
  | [], _ => rfl
  | x :: r, b => by simp only [List.cons_append, rowI, rowI_append r b, List.append_assoc]
theorem rowI_length : ∀ a, (rowI a).length = a.length * 3
  | [] => rfl
  | x :: r => by simp only [rowI, List.length_append, rowI_length r, itemCells, List.length_cons, List.length_nil]; omega
theorem rowI_get : ∀ (ks : List Item) (j k : Nat) (x : Item), ks[j]? = some x → k < 3 → (rowI ks)[j * 3 + k]? = (itemCells x)[k]?
  | [], j, k, x, h, _ => by simp at h
  | y :: r, 0, k, x, h, hk => by
    simp at h
    subst h
    rw [Nat.zero_mul, Nat.zero_add, rowI, List.getElem?_append_left (by simp [itemCells]; omega)]
  | y :: r, j + 1, k, x, h, hk => by
    have ih := rowI_get r j k x (by simpa using h) hk
    rw [rowI, List.getElem?_append_right (by simp [itemCells]; omega), ← ih]
    congr 1
    simp [itemCells]
    omega
theorem lead_unary (n : Nat) (r : List Bool) : lead (List.replicate n true ++ false :: r) = n := by
  unfold lead
  induction n with
  | zero => rfl
  | succ n ih => simp [List.replicate_succ]
/-- What an item's reading tells. -/
theorem read_unary {l : List Int} {at_ : Nat} {x : Item} {r : List Bool} (hu : x.f2 = true) (hg : goodI x) (h : bs_ l at_ = itemBits x ++ r) : unaryOf l at_ x.f1 = (x.f1, 0, at_ + x.f1.toNat + 1) ∧ bs_ l (at_ + x.f1.toNat + 1) = r := by
  unfold itemBits at h
  rw [if_pos hu, List.append_assoc] at h
  have hl := lead_unary x.f1.toNat r
  have h' : bs_ l at_ = List.replicate x.f1.toNat true ++ false :: r := h
  constructor
  · unfold unaryOf
    rw [h', hl]
    have := hg.1
    rw [if_neg (by omega), if_neg (by simp)]
    rw [show (x.f1.toNat : Int) = x.f1 by omega]
  · have e : bs_ l (at_ + x.f1.toNat + 1) = (bs_ l at_).drop (x.f1.toNat + 1) := by unfold bs_; rw [List.drop_drop]; rfl
    rw [e, h']
    rw [List.drop_append, List.drop_of_length_le (by simp)]
    simp
theorem read_num {l : List Int} {at_ : Nat} {x : Item} {r : List Bool} (hu : x.f2 = false) (hg : goodI x) (h : bs_ l at_ = itemBits x ++ r) :
    (val ((bs_ l at_).take x.f1.toNat) : Int) = x.f0 ∧ bs_ l (at_ + x.f1.toNat) = r ∧ x.f1.toNat ≤ (bs_ l at_).length := by
  obtain ⟨h1, h2, h3⟩ := hg.2.2 hu
  unfold itemBits at h
  rw [if_neg (by simp [hu])] at h
  have hlen : (bitsOf x.f0.toNat x.f1.toNat).length = x.f1.toNat := bitsOf_length _ _
  refine ⟨?_, ?_, ?_⟩
  · rw [h, List.take_append_of_le_length (by omega), List.take_of_length_le (by omega), val_bitsOf]
    have e : x.f0.toNat < 2 ^ x.f1.toNat := by
      have e2 : ((2 ^ x.f1.toNat : Nat) : Int) = 2 ^ x.f1.toNat := by simp
      rw [← e2] at h3
      omega
    rw [Nat.mod_eq_of_lt e]
    omega
  · have e : bs_ l (at_ + x.f1.toNat) = (bs_ l at_).drop x.f1.toNat := by unfold bs_; rw [List.drop_drop]
    rw [e, h, List.drop_append_of_le_length (by omega), List.drop_of_length_le (by omega)]
    rfl
  · rw [h, List.length_append]; omega
theorem infoItem : (Try.prog.info? 49).map (fun i => (i.zero, i.size, i.bytes)) = some (some (.agg #[.int .u64 0, .int .i64 0, .bool false]), 3, 24) := by kernel_rfl
theorem foot_row_ne {p : Nat} {bs : List Bool} {w : World} {b e sz n : Nat} {v : Value} {xs : List Value} (h : IsW p bs w) (hr : w.ownsRow b e sz v n xs) (h1 : e ≠ 27) (h2 : e ≠ 5) : ∀ i, WFoot p w i → v.ownBlock ≠ some i := by
  intro i hi
  obtain ⟨u, hu⟩ := h
  rcases (hu.foot i).1 hi with rfl | hi
  · exact row_ne hr hu.1 h1
  · rcases hu.2.2 with ⟨rfl, _⟩ | ⟨g, cap, cur, rfl, _, hg, _⟩
    · simp [Value.ownBlock] at hi
    · obtain rfl : g = i := by simpa [Value.ownBlock] using hi
      exact row_ne hr hg h2
theorem rfoot_row_ne {p at_ : Nat} {l : List Int} {w : World} {b e sz n : Nat} {v : Value} {xs : List Value} (h : IsR p l at_ w) (hr : w.ownsRow b e sz v n xs) (h1 : e ≠ 74) (h2 : e ≠ 5) : ∀ i, RFoot p w i → v.ownBlock ≠ some i := by
  intro i hi
  obtain ⟨u, hu, hur⟩ := h
  rcases (IsR.foot (l := l) hu i).1 hi with rfl | hi
  · exact row_ne hr hu h1
  · rcases hur.2 with ⟨rfl, _⟩ | ⟨g, cap, cur, rfl, _, hg, _⟩
    · simp [Value.ownBlock] at hi
    · obtain rfl : g = i := by simpa [Value.ownBlock] using hi
      exact row_ne hr hg h2
theorem IsW.alloc {p : Nat} {bs : List Bool} {w : World} (h : IsW p bs w) (o : Obj) : IsW p bs (w.alloc o) := by
  have k : Keep (fun _ => False) w (w.alloc o) := (Keep.refl _ _).alloc o
  exact (h.kept k fun _ _ h => h).1
end Go.Proofs.Ytfanomllfgoakaa
