/- hex.Text: the signs of bytes, two each: walked over the contracts of strings.Builder. Of at most 100,000 bytes. -/
import Derived.Test.YtafcogdplhljmaaBuild
import Derived.Test.YtafcogdplhljmaaShelf
import Derived.Test.YtafcogdplhljmaaWMore
import Derived.Deep.LoopGhost
import Derived.LoopTactic
import Derived.BigQuiet
import Derived.Deep.QuietTactic
import Derived.Outline
namespace Go.Proofs.Ytafcogdplhljmaa
open Go.RowKit Go.Proofs.YtafcogdplhljmaaW.PrintWords Go.Proofs.YtafcogdplhljmaaW.PrintLast Go.Proofs.YtafcogdplhljmaaW.PrintMore

def sgn (x : Int) : Int := if x < 10 then 48 + x else 87 + x
/-- The signs of bytes. -/
def hexL : List Int → List Int
  | [] => []
  | x :: r => sgn (x / 16) :: sgn (x % 16) :: hexL r
theorem hexL_length : ∀ l, (hexL l).length = 2 * l.length
  | [] => rfl
  | x :: r => by simp only [hexL, List.length_cons, hexL_length r]; omega
theorem hexL_append : ∀ a b, hexL (a ++ b) = hexL a ++ hexL b
  | [], _ => rfl
  | x :: r, b => by simp only [List.cons_append, hexL, hexL_append r b]
theorem sgn_range {x : Int} (h : 0 ≤ x ∧ x ≤ 15) : 48 ≤ sgn x ∧ sgn x ≤ 102 := by unfold sgn; split <;> omega
theorem hexL_range : ∀ (l : List Int), (∀ x ∈ l, 0 ≤ x ∧ x ≤ 255) → ∀ y ∈ hexL l, 0 ≤ y ∧ y ≤ 255
  | [], _, y, hy => by cases hy
  | x :: r, h, y, hy => by
    have hx := h x List.mem_cons_self
    rcases List.mem_cons.1 hy with rfl | hy
    · have := sgn_range (x := x / 16) (by omega); omega
    · rcases List.mem_cons.1 hy with rfl | hy
      · have := sgn_range (x := x % 16) (by omega); omega
      · exact hexL_range r (fun z hz => h z (List.mem_cons_of_mem _ hz)) y hy
theorem bytes_cells (xs : List Int) (h : ∀ x ∈ xs, 0 ≤ x ∧ x ≤ 255) : nums .u8 xs = Lib.byteCells (xs.map fun n => UInt8.ofNat n.toNat) := by
  unfold nums Lib.byteCells
  rw [List.map_map]
  apply List.map_congr_left
  intro x hx
  have := h x hx
  simp
  omega
theorem take_up (l : List Int) (i : Int) (h0 : 0 ≤ i) (h : i < l.length) : l.take (i + 1).toNat = l.take i.toNat ++ [rd l i] := by
  have e : (i + 1).toNat = i.toNat + 1 := by omega
  have hl : i.toNat < l.length := by omega
  rw [e, List.take_succ_eq_append_getElem hl]
  unfold rd
  simp [hl]
theorem rd_mem (l : List Int) (i : Int) (h0 : 0 ≤ i) (h : i < l.length) : rd l i ∈ l := by
  have hl : i.toNat < l.length := by omega
  unfold rd
  simp [hl]

set_option maxHeartbeats 400000 in
theorem sign_calls (x : Int) (h0 : 0 ≤ x) (h1 : x ≤ 15) (w : World) : Calls Try.prog 46 #[.int .u8 x] w fun e w' => e = .returned (.int .u8 (sgn x)) ∧ w = w' := by
  by_cases h : x < 10
  · have e : sgn x = 48 + x := by unfold sgn; rw [if_pos h]
    rw [e]
    go_enter Try.func46, Try.ntmps46
    go_wp2
    go_ret
    exact ⟨rfl, rfl⟩
  · have e : sgn x = 97 + x - 10 := by unfold sgn; rw [if_neg h]; omega
    rw [e]
    go_enter Try.func46, Try.ntmps46
    go_wp2
    go_ret
    exact ⟨by simp, rfl⟩

set_option maxHeartbeats 1000000 in
theorem text_calls (l : List Int) (A : Option Addr) (c : Nat) (w : World) (hr : Kd.C (Kd.int .u8) w A l.length l) (_ : l.length ≤ c) (hb : ∀ x ∈ l, 0 ≤ x ∧ x ≤ 255) (hn : l.length ≤ 100000) :
    Calls Try.prog 22 #[.slice A l.length c] w fun e w' => e = .returned (.string (strOfNums (hexL l))) ∧ Below w.heap.size w w' := by
  have HR := Aside0.mk hr
  have HB0 := Aside0.mk hb
  clear hr hb
  go_enter Try.func22, Try.ntmps22
  go_wp2
  go_loopw [8] (fun v8 wr => ∃ i : Int, 0 ≤ i ∧ i ≤ (l.length : Int) ∧ v8 = .int .i64 i ∧ Aside0 (Lib.IsBuilder 65 5 w.heap.size w.heap.size (nums .u8 (hexL (l.take i.toNat))) wr) ∧ Aside0 (Below w.heap.size w wr)) (fun v8 _ => l.length - (intOf v8).toNat)
  case atStart => exact ⟨0, by omega, by omega, rfl, ⟨Lib.fresh_isBuilder 65 5 w⟩, ⟨(Below.refl _ _).alloc (Nat.le_refl _) _⟩⟩
  case round =>
    obtain ⟨i, h0, h1, rfl, HI, HW⟩ := hrel
    by_cases hlt : i < (l.length : Int)
    · obtain ⟨ad, rfl, hx⟩ := Kd.at_int (Kd.C_below HR.out HW.out) i h0 hlt
      have hbx := HB0.out _ (rd_mem l i h0 hlt)
      have HT := Aside0.mk (take_up l i h0 hlt)
      generalize rd l i = x at hx hbx HT
      obtain ⟨hx0, hx1⟩ := hbx
      have hlen : (hexL (l.take i.toNat)).length ≤ 200000 := by
        rw [hexL_length, List.length_take]
        omega
      go_wp2_with fail
      refine (sign_calls (x / 16) (by omega) (by omega) _).mono ?_
      rintro e w1 ⟨rfl, rfl⟩
      go_wp2_with fail
      refine (writeByte_any w.heap.size w.heap.size _ (sgn (x / 16)) _ HI.out (by rw [nums_length]; omega) HW.out.size).mono ?_
      rintro e w2 ⟨rfl, hI2, hW2⟩
      have HI2 := Aside0.mk hI2
      have HW2 := Aside0.mk (HW.out.trans hW2)
      clear hI2 hW2
      go_wp2_with fail
      refine (sign_calls (x % 16) (by omega) (by omega) _).mono ?_
      rintro e w3 ⟨rfl, rfl⟩
      go_wp2_with fail
      refine (writeByte_any w.heap.size w.heap.size _ (sgn (x % 16)) _ (.inr HI2.out) (by rw [List.length_append, nums_length]; simp; omega) HW2.out.size).mono ?_
      rintro e w4 ⟨rfl, hI4, hW4⟩
      have HI4 := Aside0.mk hI4
      have HW4 := Aside0.mk (HW2.out.trans hW4)
      clear hI4 hW4
      go_wp2
      go_roundw
      case rel =>
        refine ⟨i + 1, by omega, by omega, rfl, ⟨.inr ?_⟩, HW4⟩
        have e : nums .u8 (hexL (l.take (i + 1).toNat)) = nums .u8 (hexL (l.take i.toNat)) ++ [.int .u8 (sgn (x / 16))] ++ [.int .u8 (sgn (x % 16))] := by
          rw [HT.out, hexL_append, nums_append]
          simp [hexL, nums]
        rw [e]
        exact HI4.out
      case measure => simp [intOf]; omega
    · have hi : i = (l.length : Int) := by omega
      have hS : nums .u8 (hexL (l.take i.toNat)) = Lib.byteCells ((hexL l).map fun n => UInt8.ofNat n.toNat) := by
        rw [hi, Int.toNat_natCast, List.take_length]
        exact bytes_cells _ (hexL_range l HB0.out)
      have hI := HI.out
      rw [hS] at hI
      have HI' := Aside0.mk hI
      clear hI hS hi
      go_wp2_with fail
      refine (Try.Builder_String_any w.heap.size w.heap.size _ _ HI'.out HW.out.size).mono ?_
      rintro e w1 ⟨rfl, hW1⟩
      have HW1 := Aside0.mk (HW.out.trans hW1)
      clear hW1
      go_wp2
      go_ret
      exact ⟨rfl, HW1.out⟩
end Go.Proofs.Ytafcogdplhljmaa
