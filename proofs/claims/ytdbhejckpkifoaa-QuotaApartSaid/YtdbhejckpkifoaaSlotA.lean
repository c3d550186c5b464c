/- slots.Row: New, Of, Take, Give, Turn, walked. -/
import Derived.Test.YtdbhejckpkifoaaPSlotsBackx1
import Derived.Test.YtdbhejckpkifoaaFrame
import Derived.Lib.Hide
import Derived.LoopTactic
import Derived.Outline
import Derived.Laws.Rows
import Derived.Laws.CopyOwn
import Derived.WalkKit
set_option linter.unusedVariables false
set_option linter.unusedSimpArgs false
namespace Go.Proofs.Ytdbhejckpkifoaa
open Go.RowKit Go.Proofs.YtdbhejckpkifoaaW.PrintWords Go.Proofs.YtdbhejckpkifoaaW.PrintLast Go.Proofs.YtdbhejckpkifoaaW.PrintMore
open Go.Proofs.Ytdbhejckpkifoaa.PSlotsBack
attribute [local go_sem] max2_int min2_int max_two min_two max_three min_three max_four min_four


/-- Where a name stands among names. -/
def findS (n : ByteArray) (l : List ByteArray) : Option Nat := l.findIdx? (fun x => n.toList == x.toList)
def idxI (n : ByteArray) (l : List ByteArray) : Int := match findS n l with | some i => (i : Int) | none => -1
theorem index_from (l : List ByteArray) (n : ByteArray) (hl : l.length ≤ 1000) : ∀ (k i : Nat), i ≤ l.length → l.length - i < k →
    slices_Index_string_string.l0 k l n (l.length : Int) (i : Int) = some (match findS n (l.drop i) with | some j => ((i + j : Nat) : Int) | none => -1)
  | 0, i, _, h => by omega
  | k + 1, i, hi, h => by
    unfold slices_Index_string_string.l0
    by_cases hlt : i < l.length
    · rw [if_pos (by omega), if_pos (by omega), if_pos (by omega)]
      have hd : l.drop i = l[i] :: l.drop (i + 1) := List.drop_eq_getElem_cons hlt
      have hrd : rdOf ByteArray.empty l (i : Int) = l[i] := by
        unfold rdOf
        simp [hlt]
      rw [hrd, hd]
      unfold findS
      rw [List.findIdx?_cons]
      by_cases hx : n.toList = l[i].toList
      · rw [if_pos hx, if_pos (beq_iff_eq.2 hx)]
        rfl
      · rw [if_neg hx, if_neg (fun e => hx (beq_iff_eq.1 e)), show wrap64 ((i : Int) + 1) = ((i + 1 : Nat) : Int) by unfold wrap64; omega, index_from l n hl k (i + 1) (by omega) (by omega)]
        unfold findS
        cases List.findIdx? (fun x => n.toList == x.toList) (l.drop (i + 1)) with
        | none => rfl
        | some j =>
          show some (((i + 1 + j : Nat) : Int)) = some (((i + (j + 1) : Nat) : Int))
          rw [show i + 1 + j = i + (j + 1) by omega]
    · rw [if_neg (by omega), List.drop_eq_nil_of_le (by omega)]
      rfl
theorem index_is (l : List ByteArray) (n : ByteArray) (hl : l.length ≤ 1000) : slices_Index_string_string.f 1002 l n = some (idxI n l) := by
  have := index_from l n hl 1002 0 (by omega) (by omega)
  unfold slices_Index_string_string.f idxI
  rw [show ((0 : Nat) : Int) = 0 from rfl, List.drop_zero] at this
  rw [this]
  cases findS n l with
  | none => rfl
  | some j => simp
def strs (l : List ByteArray) : Array Value := (l.map Value.string).toArray
theorem strs_size (l : List ByteArray) : (strs l).size = l.length := by simp [strs]
theorem strs_get {l : List ByteArray} {i : Nat} {x : ByteArray} (h : l[i]? = some x) : (strs l)[i]? = some (.string x) := by
  unfold strs
  simp [h]
theorem strs_set (l : List ByteArray) (i : Nat) (x : ByteArray) : (strs l).setIfInBounds i (.string x) = strs (l.set i x) := by
  unfold strs
  apply Array.toList_inj.1
  simp [List.map_set]
/-- A row of eight names lies at p. -/
structure IsRow (p : Nat) (l : List ByteArray) (w : World) : Prop where
  blk : w.heap[p]? = some (.cells (strs l) 80 (0, 0))
  len : l.length = 8
theorem IsRow.cell {p : Nat} {l : List ByteArray} {w : World} (h : IsRow p l w) {i : Nat} {x : ByteArray} (hx : l[i]? = some x) : w.cell? ⟨p, i, none⟩ = some (.string x) := by
  rw [blk_cell h.blk]; exact strs_get hx
theorem IsRow.set {p : Nat} {l : List ByteArray} {w : World} (h : IsRow p l w) (i : Nat) (x : ByteArray) : IsRow p (l.set i x) (w.setCell ⟨p, i, none⟩ (.string x)) :=
  ⟨by rw [← strs_set]; exact blk_set h.blk i _, by rw [List.length_set]; exact h.len⟩
theorem IsRow.drewN {p : Nat} {l : List ByteArray} {w : World} (h : IsRow p l w) (n : Nat) : IsRow p l (w.drewN n) := ⟨h.blk, h.len⟩
theorem IsRow.reads {p : Nat} {l : List ByteArray} {w : World} (h : IsRow p l w) : Kd.C Kd.string w (some ⟨p, 0, none⟩) l.length l := by
  refine ⟨rfl, by rw [h.len]; decide, fun _ => ⟨_, rfl, fun j x hx => ⟨[.string x], rfl, rfl, fun i v hv => ?_⟩⟩⟩
  rcases i with _ | i
  · have hv' : v = .string x := by simpa using hv.symm
    subst hv'
    have e : Addr.add ⟨p, 0, none⟩ (j * 1 + 0) = ⟨p, j, none⟩ := by unfold Addr.add; split <;> simp_all
    show w.cell? (Addr.add ⟨p, 0, none⟩ (j * 1 + 0)) = _
    rw [e]
    exact h.cell hx
  · simp at hv
set_option maxRecDepth 100000 in
set_option maxHeartbeats 8000000 in
theorem rnew_calls (w : World) : Calls Try.prog 11 #[] w fun e w' => e = .returned (.pointer (some ⟨w.heap.size, 0, none⟩)) ∧ IsRow w.heap.size (List.replicate 8 ⟨#[]⟩) w' ∧ Below w.heap.size w w' := by
  go_enter Try.func11, Try.ntmps11
  go_wp2
  go_ret
  exact ⟨rfl, ⟨blk_new w _, rfl⟩, (Below.refl _ _).alloc (Nat.le_refl _) _⟩
theorem index_calls (p : Nat) (l : List ByteArray) (n : ByteArray) (w : World) (h : IsRow p l w) :
    Calls Try.prog 37 #[.slice (some ⟨p, 0, none⟩) 8 8, .string n] w fun e w' => e = .returned (.int .i64 (idxI n l)) ∧ Drawn0 w w' := by
  have hc := slices_Index_string_string.calls 1002 (some ⟨p, 0, none⟩) 8 l n (idxI n l) w h.reads (by rw [h.len]; exact Nat.le_refl _) (index_is l n (by rw [h.len]; omega))
  rw [h.len] at hc
  exact hc
/-- A name's slot, or -1. -/
def ofI (n : ByteArray) (l : List ByteArray) : Int := if n.toList = [] then -1 else idxI n l
theorem idxI_range (n : ByteArray) (l : List ByteArray) : -1 ≤ idxI n l ∧ idxI n l < l.length := by
  unfold idxI
  cases h : findS n l with
  | none => simp; omega
  | some i =>
    have := (List.findIdx?_eq_some_iff_getElem.1 h).1
    simp; omega
set_option maxRecDepth 100000 in
set_option maxHeartbeats 8000000 in
theorem of_calls (p : Nat) (l : List ByteArray) (n : ByteArray) (w : World) (h : IsRow p l w) :
    Calls Try.prog 19 #[.pointer (some ⟨p, 0, none⟩), .string n] w fun e w' => e = .returned (.tuple #[.int .i64 (max (ofI n l) 0), .bool (decide (0 ≤ ofI n l))]) ∧ Drawn0 w w' := by
  by_cases hn : n.toList = []
  · have e0 : (n.toList == []) = true := beq_iff_eq.2 hn
    have hr : ofI n l = -1 := by unfold ofI; rw [if_pos hn]
    rw [hr]
    clear h hr
    go_enter Try.func19, Try.ntmps19
    go_wp2
    go_ret2
    exact ⟨rfl, Drawn0.refl _⟩
  · have HC := Lib.hid (index_calls p l n w h)
    have e0 : (n.toList == []) = false := beq_eq_false_iff_ne.2 hn
    have hr0 : ofI n l = idxI n l := by unfold ofI; rw [if_neg hn]
    rw [hr0]
    obtain ⟨r, hr⟩ : ∃ r, r = idxI n l := ⟨_, rfl⟩
    rw [← hr] at HC
    rw [← hr]
    clear h hr hr0
    go_enter Try.func19, Try.ntmps19
    go_wp2_with fail
    refine HC.out.mono ?_
    rintro e w2 ⟨rfl, n2, rfl⟩
    go_wp2
    all_goals
      go_ret2
      refine ⟨?_, ⟨_, rfl⟩⟩
      simp
      try omega
set_option maxRecDepth 100000 in
set_option maxHeartbeats 8000000 in
theorem turn_calls (p : Nat) (l : List ByteArray) (n : Int) (w : World) (h : IsRow p l w) (hn : 0 ≤ n) :
    Calls Try.prog 15 #[.pointer (some ⟨p, 0, none⟩), .int .u64 n] w fun e w' => e = .returned (.tuple #[.string (l.getD (n % 8).toNat ⟨#[]⟩), .bool (!(l.getD (n % 8).toNat ⟨#[]⟩).toList.isEmpty)]) ∧ w = w' := by
  obtain ⟨i, hi⟩ : ∃ i : Nat, n % 8 = (i : Int) := ⟨(n % 8).toNat, by omega⟩
  have hi8 : i < 8 := by omega
  obtain ⟨x, hx⟩ : ∃ x, l[i]? = some x := ⟨_, List.getElem?_eq_getElem (by rw [h.len]; exact hi8)⟩
  have cx := h.cell hx
  have hgd : l.getD (n % 8).toNat ⟨#[]⟩ = x := by rw [hi, List.getD_eq_getElem?_getD]; simp [hx]
  rw [hgd]
  have hi64 : (i : Int) < 8 := by omega
  have hm : Int.tmod n 8 = (i : Int) := by rw [Int.tmod_eq_emod_of_nonneg hn]; exact hi
  clear h hgd hx
  go_enter Try.func15, Try.ntmps15
  go_wp2
  go_ret2
  exact ⟨rfl, rfl⟩
set_option maxRecDepth 100000 in
set_option maxHeartbeats 8000000 in
theorem give_none (p : Nat) (l : List ByteArray) (n : ByteArray) (w : World) (h : IsRow p l w) (hn : ofI n l < 0) :
    Calls Try.prog 14 #[.pointer (some ⟨p, 0, none⟩), .string n] w fun e w' => e = .returned (.int .i64 7) ∧ Drawn0 w w' := by
  have HC := Lib.hid (of_calls p l n w h)
  rw [show decide (0 ≤ ofI n l) = false from decide_eq_false (by omega)] at HC
  clear h hn
  go_enter Try.func14, Try.ntmps14
  go_wp2_with fail
  refine HC.out.mono ?_
  rintro e w2 ⟨rfl, n2, rfl⟩
  go_wp2
  go_ret
  exact ⟨rfl, ⟨_, rfl⟩⟩
set_option maxRecDepth 100000 in
set_option maxHeartbeats 8000000 in
theorem give_ok (p : Nat) (l : List ByteArray) (n : ByteArray) (w : World) (i : Nat) (h : IsRow p l w) (hn : ofI n l = (i : Int)) :
    Calls Try.prog 14 #[.pointer (some ⟨p, 0, none⟩), .string n] w fun e w' => e = .returned (.int .i64 0) ∧ IsRow p (l.set i ⟨#[]⟩) w' ∧ Keep (fun g => g = p) w w' := by
  have hi8 : i < 8 := by
    have := (idxI_range n l).2
    unfold ofI at hn
    rw [h.len] at this
    split at hn <;> omega
  have HC := Lib.hid (of_calls p l n w h)
  rw [hn, show decide (0 ≤ (i : Int)) = true from decide_eq_true (by omega), show max (i : Int) 0 = (i : Int) by omega] at HC
  obtain ⟨x, hx⟩ : ∃ x, l[i]? = some x := ⟨_, List.getElem?_eq_getElem (by rw [h.len]; exact hi8)⟩
  have cx := h.cell hx
  have fz := blk_frozen h.blk i
  have hi64 : (i : Int) < 8 := by omega
  have H := Aside0.mk h
  clear h hn hx
  go_enter Try.func14, Try.ntmps14
  go_wp2_with fail
  refine HC.out.mono ?_
  rintro e w2 ⟨rfl, n2, rfl⟩
  go_wp2
  go_ret
  exact ⟨rfl, (H.out.drewN n2).set i ⟨#[]⟩, ((Keep.refl (fun g => g = p) w).drewN n2).setCell (fun _ => rfl) _⟩
def emptyS : ByteArray := ⟨#[]⟩
set_option maxRecDepth 100000 in
set_option maxHeartbeats 8000000 in
theorem take_wrong (p : Nat) (l : List ByteArray) (n : ByteArray) (k : Nat) (w : World) (h : IsRow p l w) (hr : name_Right.f k n = some false) :
    Calls Try.prog 13 #[.pointer (some ⟨p, 0, none⟩), .string n] w fun e w' => e = .returned (.tuple #[.int .i64 0, .int .i64 15]) ∧ Drawn0 w w' := by
  have HC := Lib.hid (of_calls p l n w h)
  have HI := Lib.hid (fun (q : Nat) => index_calls p l ⟨#[]⟩ (w.drewN q) (h.drewN q))
  have HR := Lib.hid (fun W => name_Right.calls k n false W hr)
  clear h hr
  go_enter Try.func13, Try.ntmps13
  go_wp2_with fail
  refine HC.out.mono ?_
  rintro e w2 ⟨rfl, n2, rfl⟩
  go_wp2_with fail
  refine (HI.out n2).mono ?_
  rintro e w3 ⟨rfl, n3, rfl⟩
  go_wp2_with fail
  refine (HR.out _).mono ?_
  rintro e w4 ⟨rfl, n4, rfl⟩
  go_wp2
  go_ret2
  exact ⟨rfl, ⟨_, rfl⟩⟩
set_option maxRecDepth 100000 in
set_option maxHeartbeats 8000000 in
theorem take_same (p : Nat) (l : List ByteArray) (n : ByteArray) (k : Nat) (w : World) (h : IsRow p l w) (hr : name_Right.f k n = some true) (ho : 0 ≤ ofI n l) :
    Calls Try.prog 13 #[.pointer (some ⟨p, 0, none⟩), .string n] w fun e w' => e = .returned (.tuple #[.int .i64 0, .int .i64 8]) ∧ Drawn0 w w' := by
  have HC := Lib.hid (of_calls p l n w h)
  rw [show decide (0 ≤ ofI n l) = true from decide_eq_true ho] at HC
  have HI := Lib.hid (fun (q : Nat) => index_calls p l ⟨#[]⟩ (w.drewN q) (h.drewN q))
  have HR := Lib.hid (fun W => name_Right.calls k n true W hr)
  clear h hr ho
  go_enter Try.func13, Try.ntmps13
  go_wp2_with fail
  refine HC.out.mono ?_
  rintro e w2 ⟨rfl, n2, rfl⟩
  go_wp2_with fail
  refine (HI.out n2).mono ?_
  rintro e w3 ⟨rfl, n3, rfl⟩
  go_wp2_with fail
  refine (HR.out _).mono ?_
  rintro e w4 ⟨rfl, n4, rfl⟩
  go_wp2
  go_ret2
  exact ⟨rfl, ⟨_, rfl⟩⟩
set_option maxRecDepth 100000 in
set_option maxHeartbeats 8000000 in
theorem take_full (p : Nat) (l : List ByteArray) (n : ByteArray) (k : Nat) (w : World) (h : IsRow p l w) (hr : name_Right.f k n = some true) (ho : ofI n l < 0) (hf : idxI ⟨#[]⟩ l < 0) :
    Calls Try.prog 13 #[.pointer (some ⟨p, 0, none⟩), .string n] w fun e w' => e = .returned (.tuple #[.int .i64 0, .int .i64 6]) ∧ Drawn0 w w' := by
  have HC := Lib.hid (of_calls p l n w h)
  rw [show decide (0 ≤ ofI n l) = false from decide_eq_false (by omega)] at HC
  obtain ⟨r, hrr⟩ : ∃ r, r = idxI ⟨#[]⟩ l := ⟨_, rfl⟩
  have hi := fun (q : Nat) => index_calls p l ⟨#[]⟩ (w.drewN q) (h.drewN q)
  rw [← hrr] at hi
  have HI := Lib.hid hi
  have HR := Lib.hid (fun W => name_Right.calls k n true W hr)
  have hr0 : r < 0 := by omega
  clear h hr ho hi hf hrr
  go_enter Try.func13, Try.ntmps13
  go_wp2_with fail
  refine HC.out.mono ?_
  rintro e w2 ⟨rfl, n2, rfl⟩
  go_wp2_with fail
  refine (HI.out n2).mono ?_
  rintro e w3 ⟨rfl, n3, rfl⟩
  go_wp2_with fail
  refine (HR.out _).mono ?_
  rintro e w4 ⟨rfl, n4, rfl⟩
  go_wp2
  go_ret2
  exact ⟨rfl, ⟨_, rfl⟩⟩
set_option maxRecDepth 100000 in
set_option maxHeartbeats 8000000 in
theorem take_ok (p : Nat) (l : List ByteArray) (n : ByteArray) (k : Nat) (w : World) (i : Nat) (h : IsRow p l w) (hr : name_Right.f k n = some true) (ho : ofI n l < 0) (hf : idxI ⟨#[]⟩ l = (i : Int)) :
    Calls Try.prog 13 #[.pointer (some ⟨p, 0, none⟩), .string n] w fun e w' => e = .returned (.tuple #[.int .i64 (i : Int), .int .i64 0]) ∧ IsRow p (l.set i n) w' ∧ Keep (fun g => g = p) w w' := by
  have hi8 : i < 8 := by
    have := (idxI_range ⟨#[]⟩ l).2
    rw [h.len] at this
    omega
  have HC := Lib.hid (of_calls p l n w h)
  rw [show decide (0 ≤ ofI n l) = false from decide_eq_false (by omega)] at HC
  have hi := fun (q : Nat) => index_calls p l ⟨#[]⟩ (w.drewN q) (h.drewN q)
  rw [hf] at hi
  have HI := Lib.hid hi
  have HR := Lib.hid (fun W => name_Right.calls k n true W hr)
  obtain ⟨x, hx⟩ : ∃ x, l[i]? = some x := ⟨_, List.getElem?_eq_getElem (by rw [h.len]; exact hi8)⟩
  have cx := h.cell hx
  have fz := blk_frozen h.blk i
  have hi64 : (i : Int) < 8 := by omega
  have H := Aside0.mk h
  clear h hr ho hi hf hx
  go_enter Try.func13, Try.ntmps13
  go_wp2_with fail
  refine HC.out.mono ?_
  rintro e w2 ⟨rfl, n2, rfl⟩
  go_wp2_with fail
  refine (HI.out n2).mono ?_
  rintro e w3 ⟨rfl, n3, rfl⟩
  go_wp2_with fail
  refine (HR.out _).mono ?_
  rintro e w4 ⟨rfl, n4, rfl⟩
  go_wp2
  go_ret2
  exact ⟨rfl, (H.out.drewN _).set i n, ((Keep.refl (fun g => g = p) w).drewN _).setCell (fun _ => rfl) _⟩
end Go.Proofs.Ytdbhejckpkifoaa
