/- mac.sign, mac.Token, walked. -/
import Derived.Test.YtjlnbklendkflaaBuild
import Derived.Test.YtjlnbklendkflaaShelf
import Derived.Test.YtjlnbklendkflaaMacC
import Derived.Lib.Hide
import Derived.LoopTactic
import Derived.Outline
import Derived.Laws.Rows
import Derived.Laws.CopyOwn
import Derived.WalkKit
set_option linter.unusedVariables false
set_option linter.unusedSimpArgs false
namespace Go.Proofs.Ytjlnbklendkflaa
open Go.RowKit Go.Proofs.YtjlnbklendkflaaW.PrintWords Go.Proofs.YtjlnbklendkflaaW.PrintLast Go.Proofs.YtjlnbklendkflaaW.PrintMore
open Go.Proofs.Ytjlnbklendkflaa.PHashSums


def tbl : ByteArray := ⟨#[48, 49, 50, 51, 52, 53, 54, 55, 56, 57, 97, 98, 99, 100, 101, 102]⟩
/-- The sign of the last four bits. -/
def dg (x : Int) : Int := bt tbl (x % 16)
theorem and15 {x : Int} (h : 0 ≤ x ∧ x < 256) : Go.bits .and .u8 x 15 = x % 16 := by
  obtain ⟨X, rfl⟩ := Int.eq_ofNat_of_zero_le h.1
  have e : Go.bits .and .u8 (X : Int) ((15 : Nat) : Int) = ((X &&& 15 : Nat) : Int) := u8_and_nat X 15 (by omega) (by omega)
  have e2 : X &&& 15 = X % 16 := Nat.and_two_pow_sub_one_eq_mod X 4
  rw [show (15 : Int) = ((15 : Nat) : Int) from rfl, e, e2]
  omega
set_option maxHeartbeats 8000000 in
set_option maxRecDepth 100000 in
theorem sign_calls (x : Int) (h : 0 ≤ x ∧ x < 256) (w : World) : Calls Try.prog 33 #[.int .u8 x] w fun e w' => e = .returned (.int .u8 (dg x)) ∧ w = w' := by
  have p4 : (0 ≤ x % 16) = True := eq_true (by omega)
  have q4 : (x % 16 < (16 : Int)) = True := eq_true (by omega)
  have hx4 := bt_at (⟨#[48, 49, 50, 51, 52, 53, 54, 55, 56, 57, 97, 98, 99, 100, 101, 102]⟩ : ByteArray) (x % 16)
  go_enter Try.func33, Try.ntmps33
  go_wp2
  go_ret
  exact ⟨by simp [dg, tbl, *], rfl⟩
theorem digest_range (m : List Int) : ∀ x ∈ digest m, 0 ≤ x ∧ x < 256 := by
  intro x hx
  unfold digest at hx
  obtain ⟨i, _, rfl⟩ := List.mem_map.1 hx
  unfold outB
  omega
/-- Two signs of each byte. -/
def hexs : List Int → List Int
  | [] => []
  | x :: r => dg (x / 16) :: dg x :: hexs r
theorem hexs_length : ∀ l, (hexs l).length = 2 * l.length
  | [] => rfl
  | x :: r => by simp only [hexs, List.length_cons, hexs_length r]; omega
theorem hexs_append : ∀ a b, hexs (a ++ b) = hexs a ++ hexs b
  | [], _ => rfl
  | x :: r, b => by simp only [List.cons_append, hexs, hexs_append r b]
theorem hexs_snoc (l : List Int) (x : Int) : hexs (l ++ [x]) = hexs l ++ [dg (x / 16)] ++ [dg x] := by rw [hexs_append]; simp [hexs]
def tokenOf (key n : List Int) : List Int := n ++ [46] ++ hexs ((codeOf key n).take 16)
theorem src_bytes (W : World) (s : ByteArray) (c : Nat) : SrcB (Lib.bytesWorld W 5 s) (.slice (some ⟨W.heap.size, 0, none⟩) s.size c) (bytesOf s) := by
  refine .inr ⟨⟨W.heap.size, 0, none⟩, c, by rw [bytesOf_length], fun j u hu => ?_⟩
  have hj : j < s.size := by
    have := (List.getElem?_eq_some_iff.1 hu).1
    rw [bytesOf_length] at this
    exact this
  rw [add_plain, Lib.bytesWorld_cell W 5 s j hj]
  have h' : j < s.data.toList.length := by rw [data_length]; exact hj
  unfold bytesOf at hu
  rw [List.getElem?_map, List.getElem?_eq_getElem h'] at hu
  injection hu with hu
  rw [← hu, List.getD_eq_getElem?_getD, List.getElem?_eq_getElem h']
  rfl
theorem tok_str (a b : List Int) : strOfNums (a ++ [46] ++ b) = ⟨(List.map (fun (n : Int) => UInt8.ofNat n.toNat) a ++ 46 :: List.map (fun (n : Int) => UInt8.ofNat n.toNat) b).toArray⟩ := by
  unfold strOfNums
  simp
theorem size_dot (s : ByteArray) : (s ++ (⟨#[46]⟩ : ByteArray)).size = s.size + 1 := by rw [ByteArray.size_append]; rfl
theorem bytesOf_append (s t : ByteArray) : bytesOf (s ++ t) = bytesOf s ++ bytesOf t := by
  unfold bytesOf
  rw [ByteArray.data_append, Array.toList_append, List.map_append]
theorem strCells_nums (s : ByteArray) : Lib.strCells s = nums .u8 (bytesOf s) := by
  unfold Lib.strCells nums bytesOf
  rw [List.map_map]
  rfl
theorem strCells_dot (s : ByteArray) : Lib.strCells (s ++ (⟨#[46]⟩ : ByteArray)) = nums .u8 (bytesOf s ++ [46]) := by rw [strCells_nums, bytesOf_append]; rfl
theorem bytesOf_range (s : ByteArray) : ∀ y ∈ bytesOf s, 0 ≤ y ∧ y ≤ 255 := by
  intro y hy
  unfold bytesOf at hy
  obtain ⟨b, _, rfl⟩ := List.mem_map.1 hy
  have := b.toNat_lt
  omega
theorem hexs_range : ∀ (l : List Int), ∀ y ∈ hexs l, 0 ≤ y ∧ y ≤ 255
  | [], y, hy => by cases hy
  | x :: r, y, hy => by
    rcases List.mem_cons.1 hy with rfl | hy
    · exact bt_range _ _
    · rcases List.mem_cons.1 hy with rfl | hy
      · exact bt_range _ _
      · exact hexs_range r y hy
theorem nums_bytesCells (xs : List Int) (h : ∀ x ∈ xs, 0 ≤ x ∧ x ≤ 255) : nums .u8 xs = Lib.byteCells (xs.map fun n => UInt8.ofNat n.toNat) := by
  unfold nums Lib.byteCells
  rw [List.map_map]
  apply List.map_congr_left
  intro x hx
  have := h x hx
  simp
  omega
set_option maxRecDepth 100000 in
set_option maxHeartbeats 8000000 in
theorem token_calls (A : Option Addr) (c : Nat) (key : List Int) (s : ByteArray) (w : World) (h : SrcB w (.slice A key.length c) key) (hl : key.length ≤ 90000) (hs : s.size ≤ 80000) :
    Calls Try.prog 20 #[.slice A key.length c, .string s] w fun e w' => e = .returned (.string (strOfNums (tokenOf key (bytesOf s)))) ∧ Below w.heap.size w w' := by
  have HS := Aside0.mk h
  have hinfo : (Try.prog.info? 25).map (·.size) = some 32 := by kernel_rfl
  have HIN := Aside0.mk hinfo
  have kb := fun W => print_bytes (P := Try.prog) 9 22 5 Try.underlying9 Try.underlying22 Try.underlying5 s W
  have HLEN := Aside0.mk (show ([] : List Value).length + (s ++ (⟨#[46]⟩ : ByteArray)).size ≤ 140737488355328 by rw [size_dot]; show 0 + (s.size + 1) ≤ _; omega)
  clear h hinfo
  go_enter Try.func20, Try.ntmps20
  go_wp2_with fail
  refine (code_calls A c key _ (bytesOf s) (Lib.bytesWorld w 5 s) (HS.out.below (bytes_below (Below.refl w.heap.size w) (Nat.le_refl _) 5 s)) (src_bytes w s _) hl (by rw [bytesOf_length]; omega)).mono ?_
  rintro e w1 ⟨rfl, hb1⟩
  obtain ⟨K, hK⟩ : ∃ K, K = codeOf key (bytesOf s) := ⟨_, rfl⟩
  rw [← hK]
  have HK := Aside0.mk hK
  have HB1 := Aside0.mk ((bytes_below (Below.refl w.heap.size w) (Nat.le_refl _) 5 s).trans (hb1.mono (by rw [Lib.bytesWorld_size]; omega)))
  have HZ := Aside0.mk (show (bytesA K).size = 32 by rw [bytesA_size, hK]; exact digest_length _)
  have HKL := Aside0.mk (show K.length = 32 by rw [hK]; exact digest_length _)
  have HKR := Aside0.mk (show ∀ x ∈ K, 0 ≤ x ∧ x < 256 by rw [hK]; exact digest_range _)
  clear hb1 hK
  go_wp2_with (first | (refine store_new rfl 25 (.tmp 5) (.tmp 12) rfl w1 _ (bytesA K) 25 rfl rfl (by rw [HZ.out]; exact HIN.out) (by rw [HZ.out]; rfl) (bytesA_one K) ?_; intro w2 hb2 hg2 hz2; have HB2 := Aside0.mk (HB1.out.trans (hb2.mono HB1.out.size)); have HG2 := Aside0.mk hg2; clear hb2 hg2 hz2) | fail)
  have HW2 := Aside0.mk (show Below w2.heap.size w2 (w2.alloc (Obj.cells #[Value.pointer none, Value.slice none 0 0] 59)) from (Below.refl _ _).alloc (Nat.le_refl _) _)
  have hwc := writeString_any w2.heap.size w2.heap.size [] (s ++ (⟨#[46]⟩ : ByteArray)) (w2.alloc (Obj.cells #[Value.pointer none, Value.slice none 0 0] 59)) (Lib.fresh_isBuilder 59 5 w2) HLEN.out HW2.out.size
  refine hwc.mono ?_
  rintro e w3 ⟨rfl, hI3, hb3⟩
  have HI3 := Aside0.mk (show Lib.IsBuilder 59 5 w2.heap.size w2.heap.size (nums .u8 (bytesOf s ++ [46] ++ hexs (K.take 0))) w3 by
    rw [List.nil_append, strCells_dot] at hI3
    rw [List.take_zero]
    show Lib.IsBuilder 59 5 _ _ (nums .u8 (bytesOf s ++ [46] ++ [])) w3
    rw [List.append_nil]
    exact .inr hI3)
  have HB3 := Aside0.mk (HW2.out.trans hb3)
  have HDL := Aside0.mk (show (bytesOf s ++ [46]).length = s.size + 1 by rw [List.length_append, bytesOf_length]; rfl)
  clear hI3 hb3
  go_wp2_with fail
  go_loopw [8, 18] (fun v8 v18 wr => ∃ i : Nat, i ≤ 16 ∧ v18 = .int .i64 (i : Int) ∧ Aside0 (Lib.IsBuilder 59 5 w2.heap.size w2.heap.size (nums .u8 (bytesOf s ++ [46] ++ hexs (K.take i))) wr) ∧ Aside0 (Below w2.heap.size w2 wr)) (fun _ v18 _ => 16 - (intOf v18).toNat)
  case atStart => exact ⟨0, by omega, rfl, HI3, HB3⟩
  case round =>
    obtain ⟨i, hi, rfl, HI, HW⟩ := hrel
    by_cases hlt : i < 16
    · obtain ⟨x, hx⟩ : ∃ x, K[i]? = some x := ⟨_, List.getElem?_eq_getElem (by rw [HKL.out]; omega)⟩
      have cx := bytes_cell ((HW.out.block _ (blk_lt HG2.out)).trans HG2.out) hx
      have hxr := HKR.out x (List.mem_of_getElem? hx)
      have HT := Aside0.mk (show hexs (K.take (i + 1)) = hexs (K.take i) ++ [dg (x / 16)] ++ [dg x] by rw [List.take_add_one, hx]; exact hexs_snoc _ _)
      have hi16 : (i : Int) < 16 := by omega
      have HL := Aside0.mk (show (nums .u8 (bytesOf s ++ [46] ++ hexs (K.take i))).length ≤ 90000 by rw [nums_length, List.length_append, HDL.out, hexs_length, List.length_take]; omega)
      clear hx
      go_wp2_with fail
      refine (sign_calls (x / 16) (by omega) _).mono ?_
      rintro e w4 ⟨rfl, rfl⟩
      go_wp2_with fail
      refine (writeByte_any w2.heap.size w2.heap.size _ (dg (x / 16)) _ HI.out (by have := HL.out; omega) HW.out.size).mono ?_
      rintro e w5 ⟨rfl, hI5, hW5⟩
      have HI5 := Aside0.mk hI5
      have HW5 := Aside0.mk (HW.out.trans hW5)
      clear hI5 hW5
      go_wp2_with fail
      refine (sign_calls x hxr _).mono ?_
      rintro e w6 ⟨rfl, rfl⟩
      go_wp2_with fail
      refine (writeByte_any w2.heap.size w2.heap.size _ (dg x) _ (.inr HI5.out) (by have h9 := HL.out; rw [List.length_append]; show (nums .u8 (bytesOf s ++ [46] ++ hexs (K.take i))).length + 1 + 1 ≤ 140737488355328; omega) HW5.out.size).mono ?_
      rintro e w7 ⟨rfl, hI7, hW7⟩
      have HI7 := Aside0.mk hI7
      have HW7 := Aside0.mk (HW5.out.trans hW7)
      clear hI7 hW7
      go_wp2
      go_roundw
      case rel =>
        refine ⟨i + 1, by omega, by simp, ⟨.inr ?_⟩, HW7⟩
        have e : nums .u8 (bytesOf s ++ [46] ++ hexs (K.take (i + 1))) = nums .u8 (bytesOf s ++ [46] ++ hexs (K.take i)) ++ [.int .u8 (dg (x / 16))] ++ [.int .u8 (dg x)] := by
          rw [HT.out]
          simp [nums]
        rw [e]
        exact HI7.out
      case measure => simp [intOf]; omega
    · have hie : i = 16 := by omega
      subst hie
      have hI := HI.out
      have HS2 := Aside0.mk (show strOfNums (tokenOf key (bytesOf s)) = ⟨(List.map (fun (n : Int) => UInt8.ofNat n.toNat) (bytesOf s) ++ 46 :: List.map (fun (n : Int) => UInt8.ofNat n.toNat) (hexs (K.take 16))).toArray⟩ by unfold tokenOf; rw [← HK.out]; exact tok_str _ _)
      rw [nums_bytesCells _ (by
        intro y hy
        rcases List.mem_append.1 hy with hy | hy
        · rcases List.mem_append.1 hy with hy | hy
          · exact bytesOf_range s y hy
          · simp at hy; omega
        · exact hexs_range _ y hy)] at hI
      have HI' := Aside0.mk hI
      clear hI
      go_wp2_with fail
      refine (Try.Builder_String_any w2.heap.size w2.heap.size _ _ HI'.out HW.out.size).mono ?_
      rintro e w8 ⟨rfl, hW8⟩
      have HW8 := Aside0.mk (HB2.out.trans ((HW.out.trans hW8).mono HB2.out.size))
      clear hW8
      go_wp2
      go_ret
      exact ⟨by rw [HS2.out]; rfl, HW8.out⟩
end Go.Proofs.Ytjlnbklendkflaa
