/- The statements' own Signs: the same signs, by slices of a text: walked. Of at most 100,000 bytes. -/
import Derived.Test.YtafcogdplhljmaaText
import Derived.WalkSpells
namespace Go.Proofs.Ytafcogdplhljmaa
open Go.RowKit Go.Proofs.YtafcogdplhljmaaW.PrintWords Go.Proofs.YtafcogdplhljmaaW.PrintLast Go.Proofs.YtafcogdplhljmaaW.PrintMore

theorem str_size (xs : List Int) : (strOfNums xs).size = xs.length := by
  show (xs.map fun n => UInt8.ofNat n.toNat).toArray.size = xs.length
  simp
theorem str_append (xs ys : List Int) : strOfNums (xs ++ ys) = strOfNums xs ++ strOfNums ys := by
  apply ByteArray.ext
  rw [ByteArray.data_append]
  simp [strOfNums]
theorem digit_at (n : Int) (h0 : 0 ≤ n) (h1 : n ≤ 15) : (⟨#[48, 49, 50, 51, 52, 53, 54, 55, 56, 57, 97, 98, 99, 100, 101, 102]⟩ : ByteArray).extract n.toNat (n + 1).toNat = strOfNums [sgn n] := by
  have : n = 0 ∨ n = 1 ∨ n = 2 ∨ n = 3 ∨ n = 4 ∨ n = 5 ∨ n = 6 ∨ n = 7 ∨ n = 8 ∨ n = 9 ∨ n = 10 ∨ n = 11 ∨ n = 12 ∨ n = 13 ∨ n = 14 ∨ n = 15 := by omega
  rcases this with rfl | rfl | rfl | rfl | rfl | rfl | rfl | rfl | rfl | rfl | rfl | rfl | rfl | rfl | rfl | rfl <;> rfl

set_option maxHeartbeats 1000000 in
theorem signs_calls (l : List Int) (A : Option Addr) (c : Nat) (w : World) (hr : Kd.C (Kd.int .u8) w A l.length l) (_ : l.length ≤ c) (hb : ∀ x ∈ l, 0 ≤ x ∧ x ≤ 255) (hn : l.length ≤ 100000) :
    Calls Try.prog 24 #[.slice A l.length c] w fun e w' => e = .returned (.string (strOfNums (hexL l))) ∧ Drawn0 w w' := by
  have HR := Aside0.mk hr
  have HB0 := Aside0.mk hb
  clear hr hb
  go_enter Try.func24, Try.ntmps24
  go_wp2
  repeat (go_quiet (fail); try go_wp2)
  go_loopw [3, 8] (fun v3 v8 wr => ∃ i : Int, 0 ≤ i ∧ i ≤ (l.length : Int) ∧ v8 = .int .i64 i ∧ v3 = .string (strOfNums (hexL (l.take i.toNat))) ∧ Drawn0 w wr) (fun _ v8 _ => l.length - (intOf v8).toNat)
  case atStart => exact ⟨0, by omega, by omega, rfl, rfl, by repeat (first | exact Drawn0.refl _ | apply Drawn0.step)⟩
  case round =>
    obtain ⟨i, h0, h1, rfl, rfl, ⟨m, rfl⟩⟩ := hrel
    by_cases hlt : i < (l.length : Int)
    · obtain ⟨ad, rfl, hx⟩ := Kd.at_int HR.out i h0 hlt
      have hbx := HB0.out _ (rd_mem l i h0 hlt)
      have HT := Aside0.mk (take_up l i h0 hlt)
      generalize rd l i = x at hx hbx HT
      obtain ⟨hx0, hx1⟩ := hbx
      have hlen : (hexL (l.take i.toNat)).length ≤ 200000 := by
        rw [hexL_length, List.length_take]
        omega
      have e1 : IntKind.u8.wrap (Int.tdiv x 16) = x / 16 := by rw [Int.tdiv_eq_ediv_of_nonneg hx0, IntKind.wrap_u8']; omega
      have e3 : Int.tmod x 16 = x % 16 := Int.tmod_eq_emod_of_nonneg hx0
      have HD := Aside0.mk (show 0 ≤ x / 16 ∧ x / 16 ≤ 15 ∧ 0 ≤ x % 16 ∧ x % 16 ≤ 15 from by omega)
      obtain ⟨p, hp⟩ : ∃ p, x / 16 = p := ⟨_, rfl⟩
      obtain ⟨q, hq⟩ : ∃ q, x % 16 = q := ⟨_, rfl⟩
      have HX := Aside0.mk (show hexL [x] = [sgn p, sgn q] from by rw [← hp, ← hq]; rfl)
      rw [hp] at e1 HD
      rw [hq] at e3 HD
      clear hp hq
      have HE := Aside0.mk (digit_at p (by have := HD.out; omega) (by have := HD.out; omega))
      have HF := Aside0.mk (digit_at q (by have := HD.out; omega) (by have := HD.out; omega))
      obtain ⟨p0, p1, q0, q1⟩ := HD.out
      have e2 : IntKind.u8.wrap (p + 1) = p + 1 := by rw [IntKind.wrap_u8']; omega
      have e4 : IntKind.u8.wrap (q + 1) = q + 1 := by rw [IntKind.wrap_u8']; omega
      have p2 : p ≤ p + 1 := by omega
      have p3 : p + 1 ≤ 16 := by omega
      have q2 : q ≤ q + 1 := by omega
      have q3 : q + 1 ≤ 16 := by omega
      have e5 := HE.out
      have e6 := HF.out
      obtain ⟨sp, hsp⟩ : ∃ s, strOfNums [sgn p] = s := ⟨_, rfl⟩
      obtain ⟨sq, hsq⟩ : ∃ s, strOfNums [sgn q] = s := ⟨_, rfl⟩
      obtain ⟨so, hso⟩ : ∃ s, strOfNums (hexL (l.take i.toNat)) = s := ⟨_, rfl⟩
      have z1 : sp.size = 1 := by rw [← hsp, str_size]; rfl
      have z2 : sq.size = 1 := by rw [← hsq, str_size]; rfl
      have z3 : so.size ≤ 200000 := by rw [← hso, str_size]; exact hlen
      have HN := Aside0.mk (show strOfNums (hexL (l.take (i + 1).toNat)) = so ++ (sp ++ sq) from by rw [HT.out, hexL_append, ← hsp, ← hsq, ← hso, HX.out, str_append, ← str_append [sgn p] [sgn q]]; rfl)
      rw [hsp] at e5
      rw [hsq] at e6
      rw [hso]
      have z4 : sp.size + sq.size ≤ 9223372036854775807 := by omega
      have z5 : so.size + (sp ++ sq).size ≤ 9223372036854775807 := by rw [ByteArray.size_append]; omega
      have z6 : so.size + (sp.size + sq.size) ≤ 9223372036854775807 := by omega
      clear z1 z2 hsp hsq hso HE HF HX
      go_wp2
      go_quiet (fail)
      go_wp2
      go_roundw
      case rel =>
        exact ⟨i + 1, by omega, by omega, rfl, by rw [HN.out], by repeat (first | exact Drawn0.refl _ | apply Drawn0.step)⟩
      case measure => simp [intOf]; omega
    · have hi : i = (l.length : Int) := by omega
      have e : l.take i.toNat = l := by rw [hi, Int.toNat_natCast, List.take_length]
      rw [e]
      clear e hi
      go_wp2
      go_ret
      exact ⟨rfl, by repeat (first | exact Drawn0.refl _ | apply Drawn0.step)⟩
end Go.Proofs.Ytafcogdplhljmaa
