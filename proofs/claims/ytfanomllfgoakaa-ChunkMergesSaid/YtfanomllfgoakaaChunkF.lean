/- The law's own bytes of a chunk, walked. -/
import Derived.Test.YtfanomllfgoakaaChunkE
import Derived.Test.YtfanomllfgoakaaPack
set_option linter.unusedVariables false
set_option linter.unusedSimpArgs false
namespace Go.Proofs.Ytfanomllfgoakaa
open Go.RowKit Go.Proofs.YtfanomllfgoakaaW.PrintWords Go.Proofs.YtfanomllfgoakaaW.PrintLast Go.Proofs.YtfanomllfgoakaaW.PrintMore
open Go.Proofs.Ytfanomllfgoakaa.BitsMath Go.Proofs.Ytfanomllfgoakaa.ChunkMath

theorem signs4_at (x : Nat) (n : Nat) (E : Int) (s : ByteArray) (w : World) (hE : (x : Int) = E) (hx : x < 18446744073709551616) (h1 : n ≤ 100) (hs : s = strB (bitsOf x n)) (N : Int) (hN : (n : Int) = N) :
    Calls Try.prog 38 #[.int .u64 E, .int .i64 N] w fun e w' => e = .returned (.string s) ∧ Below w.heap.size w w' := by
  subst hE
  subst hN
  have h := signs4_calls x n w hx (by omega) (by omega)
  rw [Int.toNat_natCast, ← hs] at h
  exact h
theorem own_at (x : Nat) (E : Int) (s : ByteArray) (w : World) (hE : (x : Int) = E) (hx : x < 18446744073709551616) (hs : s = strB (ChunkMath.own x)) :
    Calls Try.prog 40 #[.int .u64 E] w fun e w' => e = .returned (.string s) ∧ Below w.heap.size w w' := by
  subst hE
  have h := own_calls x w hx
  rw [← hs] at h
  exact h
theorem fold_at (a E : Int) (w : World) (hE : a = E) (h : I64 a) : Calls Try.prog 39 #[.int .i64 E] w fun e w' => e = .returned (.int .u64 (zig a : Int)) ∧ w = w' := by
  subst hE; exact fold_calls a w h
set_option maxRecDepth 100000 in
set_option maxHeartbeats 8000000 in
theorem lbytes_calls (v : Value) (l : List Pt) (w : World) (h : SrcP w v l) (hl : l.length ≤ 1000) (hg : ∀ x ∈ l, okPt x) (hr : rises l) :
    Calls Try.prog 26 #[v] w fun e w' => e = .returned (.string (strOfNums (ChunkMath.bytes l))) ∧ Below w.heap.size w w' := by
  obtain ⟨i0, hi, hz0, hz1, hz2⟩ := info_parts infoByte
  have HS := Aside0.mk h
  have HG := Aside0.mk hg
  have HR := Aside0.mk hr
  obtain ⟨A, c, rfl⟩ := h.form
  have HL := Aside0.mk (fun k => encTake_len l hg k)
  clear h hg hr
  obtain ⟨s0, hs0⟩ : ∃ s, s = strB (bitsOf l.length 16) := ⟨_, rfl⟩
  have HC := Lib.hid (signs4_at l.length 16 l.length s0 w rfl (by omega) (by omega) hs0 16 rfl)
  have HS0 := Aside0.mk hs0
  clear hs0
  go_enter Try.func26, Try.ntmps26
  go_wp2_with fail
  refine HC.out.mono ?_
  rintro e w1 ⟨rfl, h1⟩
  have H1 := Aside0.mk h1
  clear h1
  go_wp2_with fail
  go_loopw [3, 14] (fun v3 v14 wr => ∃ (j : Nat) (s : ByteArray), j ≤ l.length ∧ v14 = .int .i64 (j : Int) ∧ v3 = .string s ∧ Aside0 (s = strB (bitsOf l.length 16 ++ encAll (l.take j))) ∧ Aside0 (Below w.heap.size w wr)) (fun _ v _ => l.length - (intOf v).toNat)
  case atStart => exact ⟨0, s0, by omega, rfl, rfl, ⟨by rw [HS0.out]; simp [encAll]⟩, H1⟩
  case round =>
    obtain ⟨j, s, hj, hv, rfl, HE, HB⟩ := hrel
    have hss : s.size ≤ 142 * l.length + 16 := by have h := HE.out; have := HL.out j; rw [h, strB_size]; exact this
    by_cases hlt : j < l.length
    · obtain ⟨ad, rfl, hc⟩ := HS.out.cells (by omega)
      obtain ⟨q, hq⟩ : ∃ x, l[j]? = some x := ⟨_, List.getElem?_eq_getElem hlt⟩
      have hqok := HG.out q (List.mem_of_getElem? hq)
      obtain ⟨a, b⟩ := q
      obtain ⟨ha0, ha1, hb⟩ := hqok
      simp only at ha0 ha1 hb
      have HB1 := Aside0.mk hb
      have hb0 := hb.1
      have hb1 := hb.2
      unfold maxT at ha1
      have ce0 := bread HB.out (hc j _ hq).1
      have ce1 := bread HB.out (hc j _ hq).2
      simp only at ce0 ce1
      have HCC := Aside0.mk hc
      have HBA := Aside0.mk ((HB.out.alloc HB.out.size (Obj.cells #[.int .i64 a, .int .i64 b] 68)).drew)
      have hwz := HB.out.size
      clear hb hc
      cases j with
      | zero =>
        obtain rfl := hv
        rw [add_zero2] at ce0 ce1
        obtain ⟨s1, hs1⟩ : ∃ s, s = strB (bitsOf a.toNat 41) := ⟨_, rfl⟩
        obtain ⟨s2, hs2⟩ : ∃ s, s = strB (bitsOf (zig b) 64) := ⟨_, rfl⟩
        have hy1 : s1.size ≤ 41 := by rw [hs1, strB_size, bitsOf_length]; omega
        have hy2 : s2.size ≤ 64 := by rw [hs2, strB_size, bitsOf_length]; omega
        have HC1 := Aside0.mk (fun W => signs4_at a.toNat 41 (IntKind.u64.wrap a) s1 W (by rw [u64w]; omega) (by omega) (by omega) hs1 41 rfl)
        have HC2 := Aside0.mk (fun W => signs4_at (zig b) 64 (zig b) s2 W rfl (zig_lt b HB1.out) (by omega) hs2 64 rfl)
        have HE1 := Aside0.mk hs1
        have HE2 := Aside0.mk hs2
        have HQ := Aside0.mk hq
        clear hs1 hs2 hq
        have hA1 : ¬ 9223372036854775807 < s1.size + s2.size := by omega
        have hA2 : ¬ 9223372036854775807 < s.size + (s1.size + s2.size) := by omega
        have hA3 : ¬ 9223372036854775807 < s.size + (s1 ++ s2).size := by rw [ByteArray.size_append]; omega
        go_wp2_with fail
        refine start_ (n := 12) (S := fun w' => (w'.cell? ⟨wr.heap.size, 0, none⟩ = some (.int .i64 a)) ∧ (w'.cell? ⟨wr.heap.size, 1, none⟩ = some (.int .i64 b))) (ds := []) #[false, false, false, false, false, false, false, false, false, false, false, false] (by kernel_rfl) rfl rfl ⟨(by go_simp), (by go_simp)⟩ (fun hHeld => ?_)
        refine pure_ (i := 0) (N := some 21) (v := ?_) (a' := ?_) #[true, false, false, false, false, false, false, false, false, false, false, false] rfl rfl (by kernel_rfl) (fun _ _ _ h => h) (Or.inl ⟨by rfl, ?_⟩) ?_ ?_
        rotate_left
        · intro w'
          go_simp
          with_reducible rfl
        rotate_left
        · simp only [Act.put, List.setIfInBounds_toArray, List.set_cons_zero, List.set_cons_succ, i64_w, i32_w]
          rfl
        refine pure_ (i := 1) (N := some 22) (v := ?_) (a' := ?_) #[true, true, false, false, false, false, false, false, false, false, false, false] rfl rfl (by kernel_rfl) (fun _ _ _ h => h) (Or.inl ⟨by rfl, ?_⟩) ?_ ?_
        rotate_left
        · intro w'
          go_simp
          with_reducible rfl
        rotate_left
        · simp only [Act.put, List.setIfInBounds_toArray, List.set_cons_zero, List.set_cons_succ, i64_w, i32_w]
          rfl
        refine pure_ (i := 5) (N := some 26) (v := ?_) (a' := ?_) #[true, true, false, false, false, true, false, false, false, false, false, false] rfl rfl (by kernel_rfl) (fun _ _ _ h => h) (Or.inl ⟨by rfl, ?_⟩) ?_ ?_
        rotate_left
        · intro w'
          go_simp
          with_reducible rfl
        rotate_left
        · simp only [Act.put, List.setIfInBounds_toArray, List.set_cons_zero, List.set_cons_succ, i64_w, i32_w]
          rfl
        refine take_ (i := 2) (N := some 23) (v := ?_) (a' := ?_) #[true, true, true, false, false, true, false, false, false, false, false, false] rfl rfl (by kernel_rfl) (fun _ _ _ h => h) (Or.inl ⟨by rfl, ?_⟩) hHeld ?_ ?_
        rotate_left
        · rintro w' ⟨s0, s1⟩
          go_simp
          with_reducible rfl
        rotate_left
        · simp only [Act.put, List.setIfInBounds_toArray, List.set_cons_zero, List.set_cons_succ, i64_w, i32_w]
          rfl
        refine pure_ (i := 3) (N := some 24) (v := ?_) (a' := ?_) #[true, true, true, true, false, true, false, false, false, false, false, false] rfl rfl (by kernel_rfl) (fun _ _ _ h => h) (Or.inl ⟨by rfl, ?_⟩) ?_ ?_
        rotate_left
        · intro w'
          go_simp
          with_reducible rfl
        rotate_left
        · simp only [Act.put, List.setIfInBounds_toArray, List.set_cons_zero, List.set_cons_succ, i64_w, i32_w]
          rfl
        refine take_ (i := 6) (N := some 27) (v := ?_) (a' := ?_) #[true, true, true, true, false, true, true, false, false, false, false, false] rfl rfl (by kernel_rfl) (fun _ _ _ h => h) (Or.inl ⟨by rfl, ?_⟩) hHeld ?_ ?_
        rotate_left
        · rintro w' ⟨s0, s1⟩
          go_simp
          with_reducible rfl
        rotate_left
        · simp only [Act.put, List.setIfInBounds_toArray, List.set_cons_zero, List.set_cons_succ, i64_w, i32_w]
          rfl
        refine one_ (i := 4) (N := some 25) #[true, true, true, true, true, true, true, false, false, false, false, false] rfl rfl (by kernel_rfl) (by decide) (fun K hK => ?_)
        refine goes_ Try.func38 (by kernel_rfl) rfl #[.int .u64 (IntKind.u64.wrap a), .int .i64 41] (by rfl) rfl rfl (by simp only [List.map_toArray, List.map_cons, List.map_nil]; rfl) ?_
        with_reducible refine ((HC1.out _)).mono ?_
        rintro e w3 ⟨rfl, h3⟩
        have H3 := Aside0.mk (HBA.out.trans (h3.mono HBA.out.size))
        have k0 := bread h3 hHeld.1
        have k1 := bread h3 hHeld.2
        clear h3
        refine ⟨_, rfl, ?_⟩
        refine hK.out _ _ ⟨k0, k1⟩ (fun hHeld => ?_)
        clear hK K
        refine norm_ (a' := ?_) ?_ ?_
        rotate_left
        · show Act.put _ (some 25) _ = _
          simp only [Act.put, List.setIfInBounds_toArray, List.set_cons_zero, List.set_cons_succ, i64_w, i32_w]
          rfl
        refine one_ (i := 7) (N := some 28) #[true, true, true, true, true, true, true, true, false, false, false, false] rfl rfl (by kernel_rfl) (by decide) (fun K hK => ?_)
        refine goes_ Try.func39 (by kernel_rfl) rfl #[.int .i64 b] (by rfl) rfl rfl (by simp only [List.map_toArray, List.map_cons, List.map_nil]; rfl) ?_
        with_reducible refine (fold_calls b _ HB1.out).mono ?_
        rintro e w4 ⟨rfl, rfl⟩
        refine ⟨_, rfl, ?_⟩
        refine hK.out _ _ ⟨hHeld.1, hHeld.2⟩ (fun hHeld => ?_)
        clear hK K
        refine norm_ (a' := ?_) ?_ ?_
        rotate_left
        · show Act.put _ (some 28) _ = _
          simp only [Act.put, List.setIfInBounds_toArray, List.set_cons_zero, List.set_cons_succ, i64_w, i32_w]
          rfl
        refine one_ (i := 8) (N := some 29) #[true, true, true, true, true, true, true, true, true, false, false, false] rfl rfl (by kernel_rfl) (by decide) (fun K hK => ?_)
        refine goes_ Try.func38 (by kernel_rfl) rfl #[.int .u64 (zig b : Int), .int .i64 64] (by rfl) rfl rfl (by simp only [List.map_toArray, List.map_cons, List.map_nil]; rfl) ?_
        with_reducible refine ((HC2.out _)).mono ?_
        rintro e w4 ⟨rfl, h4⟩
        have H4 := Aside0.mk (H3.out.trans (h4.mono H3.out.size))
        have k2 := bread h4 hHeld.1
        have k3 := bread h4 hHeld.2
        clear h4
        refine ⟨_, rfl, ?_⟩
        refine hK.out _ _ ⟨k2, k3⟩ (fun hHeld => ?_)
        clear hK K
        refine norm_ (a' := ?_) ?_ ?_
        rotate_left
        · show Act.put _ (some 29) _ = _
          simp only [Act.put, List.setIfInBounds_toArray, List.set_cons_zero, List.set_cons_succ, i64_w, i32_w]
          rfl
        refine pure_ (i := 9) (N := some 30) (v := ?_) (a' := ?_) #[true, true, true, true, true, true, true, true, true, true, false, false] rfl rfl (by kernel_rfl) (fun _ _ _ h => h) (Or.inl ⟨by rfl, ?_⟩) ?_ ?_
        rotate_left
        · intro w'
          go_simp
          with_reducible rfl
        rotate_left
        · simp only [Act.put, List.setIfInBounds_toArray, List.set_cons_zero, List.set_cons_succ, i64_w, i32_w]
          rfl
        refine pure_ (i := 10) (N := some 31) (v := ?_) (a' := ?_) #[true, true, true, true, true, true, true, true, true, true, true, false] rfl rfl (by kernel_rfl) (fun _ _ _ h => h) (Or.inl ⟨by rfl, ?_⟩) ?_ ?_
        rotate_left
        · intro w'
          go_simp
          with_reducible rfl
        rotate_left
        · simp only [Act.put, List.setIfInBounds_toArray, List.set_cons_zero, List.set_cons_succ, i64_w, i32_w]
          rfl
        refine pure_ (i := 11) (N := some 3) (v := ?_) (a' := ?_) #[true, true, true, true, true, true, true, true, true, true, true, true] rfl rfl (by kernel_rfl) (fun _ _ _ h => h) (Or.inl ⟨by rfl, ?_⟩) ?_ ?_
        rotate_left
        · intro w'
          go_simp
          with_reducible rfl
        rotate_left
        · simp only [Act.put, List.setIfInBounds_toArray, List.set_cons_zero, List.set_cons_succ, i64_w, i32_w]
          rfl
        refine done_ (by kernel_rfl) ?_
        go_wp2
        go_roundw
        case rel =>
          refine ⟨0 + 1, _, by omega, by simp, rfl, ⟨?_⟩, ⟨H4.out⟩⟩
          rw [enc_one HQ.out, strB_append, strB_append, ← HE1.out, ← HE2.out]
          have h := HE.out
          rw [show l.take 0 = [] from rfl, show encAll [] = [] from rfl, List.append_nil] at h
          rw [← h]
        case measure => simp [intOf]; omega
      | succ k =>
        obtain ⟨p, hp⟩ : ∃ x, l[k]? = some x := ⟨_, List.getElem?_eq_getElem (by omega)⟩
        have hpok := HG.out p (List.mem_of_getElem? hp)
        have hup := rises_ix l HR.out k _ _ hp hq
        obtain ⟨a', b'⟩ := p
        obtain ⟨ha0', ha1', hb'⟩ := hpok
        simp only at ha0' ha1' hb' hup
        unfold maxT at ha1'
        have hb0' := hb'.1
        have hb1' := hb'.2
        have HP0 := Aside0.mk (bread HBA.out (HCC.out k _ hp).1)
        have HP1 := Aside0.mk (bread HBA.out (HCC.out k _ hp).2)
        have HST := Aside0.mk (enc_step hp hq)
        have hvv := hv
        rw [show (((k + 1 : Nat)) : Int) = (k : Int) + 1 from rfl] at hvv
        subst hvv
        obtain ⟨s1, hs1⟩ : ∃ s, s = strB (ChunkMath.own (a - a' - 1).toNat) := ⟨_, rfl⟩
        obtain ⟨s2, hs2⟩ : ∃ s, s = strB (ChunkMath.own (zig (w64 (b - b')))) := ⟨_, rfl⟩
        have hy1 : s1.size ≤ 71 := by rw [hs1, strB_size]; exact own_length _ (by omega)
        have hy2 : s2.size ≤ 71 := by rw [hs2, strB_size]; exact own_length _ (zig_w64 _)
        have HC1 := Aside0.mk (fun W => own_at (a - a' - 1).toNat (IntKind.u64.wrap (wrap64 (wrap64 (a - a') - 1))) s1 W (by rw [u64w]; unfold wrap64; omega) (by omega) hs1)
        have HC2 := Aside0.mk (fun W => own_at (zig (w64 (b - b'))) _ s2 W rfl (zig_w64 _) hs2)
        have HF := Aside0.mk (fun W => fold_at (w64 (b - b')) (wrap64 (b - b')) W (by unfold w64 wrap64; omega) (w64_in _))
        have HE1 := Aside0.mk hs1
        have HE2 := Aside0.mk hs2
        clear hs1 hs2
        have d0 : ((k : Int) + 1 == 0) = false := by simp; omega
        have hkl : k < l.length := by omega
        have hwk : wrap64 (k : Int) = (k : Int) := by unfold wrap64; omega
        have hA1 : ¬ 9223372036854775807 < s1.size + s2.size := by omega
        have hA2 : ¬ 9223372036854775807 < s.size + (s1.size + s2.size) := by omega
        have hA3 : ¬ 9223372036854775807 < s.size + (s1 ++ s2).size := by rw [ByteArray.size_append]; omega
        clear hup hy1 hy2 hss hwz
        go_wp2_with fail
        refine start_ (n := 27) (S := fun w' => (w'.cell? ⟨wr.heap.size, 0, none⟩ = some (.int .i64 a)) ∧ (w'.cell? ⟨wr.heap.size, 1, none⟩ = some (.int .i64 b)) ∧ (w'.cell? (ad.add (k * 2)) = some (.int .i64 a')) ∧ (w'.cell? ⟨(ad.add (k * 2)).block, (ad.add (k * 2)).off + 1, none⟩ = some (.int .i64 b'))) (ds := []) #[false, false, false, false, false, false, false, false, false, false, false, false, false, false, false, false, false, false, false, false, false, false, false, false, false, false, false] (by kernel_rfl) rfl rfl ⟨(by go_simp), (by go_simp), HP0.out, HP1.out⟩ (fun hHeld => ?_)
        refine pure_ (i := 0) (N := some 32) (v := ?_) (a' := ?_) #[true, false, false, false, false, false, false, false, false, false, false, false, false, false, false, false, false, false, false, false, false, false, false, false, false, false, false] rfl rfl (by kernel_rfl) (fun _ _ _ h => h) (Or.inl ⟨by rfl, ?_⟩) ?_ ?_
        rotate_left
        · intro w'
          go_simp
          with_reducible rfl
        rotate_left
        · simp only [Act.put, List.setIfInBounds_toArray, List.set_cons_zero, List.set_cons_succ, i64_w, i32_w]
          rfl
        refine pure_ (i := 1) (N := some 33) (v := ?_) (a' := ?_) #[true, true, false, false, false, false, false, false, false, false, false, false, false, false, false, false, false, false, false, false, false, false, false, false, false, false, false] rfl rfl (by kernel_rfl) (fun _ _ _ h => h) (Or.inl ⟨by rfl, ?_⟩) ?_ ?_
        rotate_left
        · intro w'
          go_simp
          with_reducible rfl
        rotate_left
        · simp only [Act.put, List.setIfInBounds_toArray, List.set_cons_zero, List.set_cons_succ, i64_w, i32_w]
          rfl
        refine pure_ (i := 3) (N := some 35) (v := ?_) (a' := ?_) #[true, true, false, true, false, false, false, false, false, false, false, false, false, false, false, false, false, false, false, false, false, false, false, false, false, false, false] rfl rfl (by kernel_rfl) (fun _ _ _ h => h) (Or.inl ⟨by rfl, ?_⟩) ?_ ?_
        rotate_left
        · intro w'
          go_simp
          with_reducible rfl
        rotate_left
        · simp only [Act.put, List.setIfInBounds_toArray, List.set_cons_zero, List.set_cons_succ, i64_w, i32_w]
          rfl
        refine pure_ (i := 4) (N := some 36) (v := ?_) (a' := ?_) #[true, true, false, true, true, false, false, false, false, false, false, false, false, false, false, false, false, false, false, false, false, false, false, false, false, false, false] rfl rfl (by kernel_rfl) (fun _ _ _ h => h) (Or.inl ⟨by rfl, ?_⟩) ?_ ?_
        rotate_left
        · intro w'
          go_simp
          with_reducible rfl
        rotate_left
        · simp only [Act.put, List.setIfInBounds_toArray, List.set_cons_zero, List.set_cons_succ, i64_w, i32_w]
          rfl
        refine pure_ (i := 5) (N := some 37) (v := ?_) (a' := ?_) #[true, true, false, true, true, true, false, false, false, false, false, false, false, false, false, false, false, false, false, false, false, false, false, false, false, false, false] rfl rfl (by kernel_rfl) (fun _ _ _ h => h) (Or.inl ⟨by rfl, ?_⟩) ?_ ?_
        rotate_left
        · intro w'
          go_simp
          with_reducible rfl
        rotate_left
        · simp only [Act.put, List.setIfInBounds_toArray, List.set_cons_zero, List.set_cons_succ, i64_w, i32_w]
          rfl
        refine pure_ (i := 6) (N := some 38) (v := ?_) (a' := ?_) #[true, true, false, true, true, true, true, false, false, false, false, false, false, false, false, false, false, false, false, false, false, false, false, false, false, false, false] rfl rfl (by kernel_rfl) (fun _ _ _ h => h) (Or.inl ⟨by rfl, ?_⟩) ?_ ?_
        rotate_left
        · intro w'
          go_simp
          with_reducible rfl
        rotate_left
        · simp only [Act.put, List.setIfInBounds_toArray, List.set_cons_zero, List.set_cons_succ, i64_w, i32_w]
          rfl
        refine pure_ (i := 7) (N := some 39) (v := ?_) (a' := ?_) #[true, true, false, true, true, true, true, true, false, false, false, false, false, false, false, false, false, false, false, false, false, false, false, false, false, false, false] rfl rfl (by kernel_rfl) (fun _ _ _ h => h) (Or.inl ⟨by rfl, ?_⟩) ?_ ?_
        rotate_left
        · intro w'
          go_simp
          with_reducible rfl
        rotate_left
        · simp only [Act.put, List.setIfInBounds_toArray, List.set_cons_zero, List.set_cons_succ, i64_w, i32_w]
          rfl
        refine pure_ (i := 13) (N := some 45) (v := ?_) (a' := ?_) #[true, true, false, true, true, true, true, true, false, false, false, false, false, true, false, false, false, false, false, false, false, false, false, false, false, false, false] rfl rfl (by kernel_rfl) (fun _ _ _ h => h) (Or.inl ⟨by rfl, ?_⟩) ?_ ?_
        rotate_left
        · intro w'
          go_simp
          with_reducible rfl
        rotate_left
        · simp only [Act.put, List.setIfInBounds_toArray, List.set_cons_zero, List.set_cons_succ, i64_w, i32_w]
          rfl
        refine pure_ (i := 15) (N := some 47) (v := ?_) (a' := ?_) #[true, true, false, true, true, true, true, true, false, false, false, false, false, true, false, true, false, false, false, false, false, false, false, false, false, false, false] rfl rfl (by kernel_rfl) (fun _ _ _ h => h) (Or.inl ⟨by rfl, ?_⟩) ?_ ?_
        rotate_left
        · intro w'
          go_simp
          with_reducible rfl
        rotate_left
        · simp only [Act.put, List.setIfInBounds_toArray, List.set_cons_zero, List.set_cons_succ, i64_w, i32_w]
          rfl
        refine pure_ (i := 16) (N := some 48) (v := ?_) (a' := ?_) #[true, true, false, true, true, true, true, true, false, false, false, false, false, true, false, true, true, false, false, false, false, false, false, false, false, false, false] rfl rfl (by kernel_rfl) (fun _ _ _ h => h) (Or.inl ⟨by rfl, ?_⟩) ?_ ?_
        rotate_left
        · intro w'
          go_simp
          with_reducible rfl
        rotate_left
        · simp only [Act.put, List.setIfInBounds_toArray, List.set_cons_zero, List.set_cons_succ, i64_w, i32_w]
          rfl
        refine pure_ (i := 17) (N := some 49) (v := ?_) (a' := ?_) #[true, true, false, true, true, true, true, true, false, false, false, false, false, true, false, true, true, true, false, false, false, false, false, false, false, false, false] rfl rfl (by kernel_rfl) (fun _ _ _ h => h) (Or.inl ⟨by rfl, ?_⟩) ?_ ?_
        rotate_left
        · intro w'
          go_simp
          with_reducible rfl
        rotate_left
        · simp only [Act.put, List.setIfInBounds_toArray, List.set_cons_zero, List.set_cons_succ, i64_w, i32_w]
          rfl
        refine pure_ (i := 18) (N := some 50) (v := ?_) (a' := ?_) #[true, true, false, true, true, true, true, true, false, false, false, false, false, true, false, true, true, true, true, false, false, false, false, false, false, false, false] rfl rfl (by kernel_rfl) (fun _ _ _ h => h) (Or.inl ⟨by rfl, ?_⟩) ?_ ?_
        rotate_left
        · intro w'
          go_simp
          with_reducible rfl
        rotate_left
        · simp only [Act.put, List.setIfInBounds_toArray, List.set_cons_zero, List.set_cons_succ, i64_w, i32_w]
          rfl
        refine pure_ (i := 19) (N := some 51) (v := ?_) (a' := ?_) #[true, true, false, true, true, true, true, true, false, false, false, false, false, true, false, true, true, true, true, true, false, false, false, false, false, false, false] rfl rfl (by kernel_rfl) (fun _ _ _ h => h) (Or.inl ⟨by rfl, ?_⟩) ?_ ?_
        rotate_left
        · intro w'
          go_simp
          with_reducible rfl
        rotate_left
        · simp only [Act.put, List.setIfInBounds_toArray, List.set_cons_zero, List.set_cons_succ, i64_w, i32_w]
          rfl
        refine take_ (i := 2) (N := some 34) (v := ?_) (a' := ?_) #[true, true, true, true, true, true, true, true, false, false, false, false, false, true, false, true, true, true, true, true, false, false, false, false, false, false, false] rfl rfl (by kernel_rfl) (fun _ _ _ h => h) (Or.inl ⟨by rfl, ?_⟩) hHeld ?_ ?_
        rotate_left
        · rintro w' ⟨s0, s1, s2, s3⟩
          go_simp
          with_reducible rfl
        rotate_left
        · simp only [Act.put, List.setIfInBounds_toArray, List.set_cons_zero, List.set_cons_succ, i64_w, i32_w]
          rfl
        refine take_ (i := 8) (N := some 40) (v := ?_) (a' := ?_) #[true, true, true, true, true, true, true, true, true, false, false, false, false, true, false, true, true, true, true, true, false, false, false, false, false, false, false] rfl rfl (by kernel_rfl) (fun _ _ _ h => h) (Or.inl ⟨by rfl, ?_⟩) hHeld ?_ ?_
        rotate_left
        · rintro w' ⟨s0, s1, s2, s3⟩
          go_simp
          with_reducible rfl
        rotate_left
        · simp only [Act.put, List.setIfInBounds_toArray, List.set_cons_zero, List.set_cons_succ, i64_w, i32_w]
          rfl
        refine pure_ (i := 9) (N := some 41) (v := ?_) (a' := ?_) #[true, true, true, true, true, true, true, true, true, true, false, false, false, true, false, true, true, true, true, true, false, false, false, false, false, false, false] rfl rfl (by kernel_rfl) (fun _ _ _ h => h) (Or.inl ⟨by rfl, ?_⟩) ?_ ?_
        rotate_left
        · intro w'
          go_simp
          with_reducible rfl
        rotate_left
        · simp only [Act.put, List.setIfInBounds_toArray, List.set_cons_zero, List.set_cons_succ, i64_w, i32_w]
          rfl
        refine pure_ (i := 10) (N := some 42) (v := ?_) (a' := ?_) #[true, true, true, true, true, true, true, true, true, true, true, false, false, true, false, true, true, true, true, true, false, false, false, false, false, false, false] rfl rfl (by kernel_rfl) (fun _ _ _ h => h) (Or.inl ⟨by rfl, ?_⟩) ?_ ?_
        rotate_left
        · intro w'
          go_simp
          with_reducible rfl
        rotate_left
        · simp only [Act.put, List.setIfInBounds_toArray, List.set_cons_zero, List.set_cons_succ, i64_w, i32_w]
          rfl
        refine pure_ (i := 11) (N := some 43) (v := ?_) (a' := ?_) #[true, true, true, true, true, true, true, true, true, true, true, true, false, true, false, true, true, true, true, true, false, false, false, false, false, false, false] rfl rfl (by kernel_rfl) (fun _ _ _ h => h) (Or.inl ⟨by rfl, ?_⟩) ?_ ?_
        rotate_left
        · intro w'
          go_simp
          with_reducible rfl
        rotate_left
        · simp only [Act.put, List.setIfInBounds_toArray, List.set_cons_zero, List.set_cons_succ, i64_w, i32_w]
          rfl
        refine take_ (i := 14) (N := some 46) (v := ?_) (a' := ?_) #[true, true, true, true, true, true, true, true, true, true, true, true, false, true, true, true, true, true, true, true, false, false, false, false, false, false, false] rfl rfl (by kernel_rfl) (fun _ _ _ h => h) (Or.inl ⟨by rfl, ?_⟩) hHeld ?_ ?_
        rotate_left
        · rintro w' ⟨s0, s1, s2, s3⟩
          go_simp
          with_reducible rfl
        rotate_left
        · simp only [Act.put, List.setIfInBounds_toArray, List.set_cons_zero, List.set_cons_succ, i64_w, i32_w]
          rfl
        refine take_ (i := 20) (N := some 52) (v := ?_) (a' := ?_) #[true, true, true, true, true, true, true, true, true, true, true, true, false, true, true, true, true, true, true, true, true, false, false, false, false, false, false] rfl rfl (by kernel_rfl) (fun _ _ _ h => h) (Or.inl ⟨by rfl, ?_⟩) hHeld ?_ ?_
        rotate_left
        · rintro w' ⟨s0, s1, s2, s3⟩
          go_simp
          with_reducible rfl
        rotate_left
        · simp only [Act.put, List.setIfInBounds_toArray, List.set_cons_zero, List.set_cons_succ, i64_w, i32_w]
          rfl
        refine pure_ (i := 21) (N := some 53) (v := ?_) (a' := ?_) #[true, true, true, true, true, true, true, true, true, true, true, true, false, true, true, true, true, true, true, true, true, true, false, false, false, false, false] rfl rfl (by kernel_rfl) (fun _ _ _ h => h) (Or.inl ⟨by rfl, ?_⟩) ?_ ?_
        rotate_left
        · intro w'
          go_simp
          with_reducible rfl
        rotate_left
        · simp only [Act.put, List.setIfInBounds_toArray, List.set_cons_zero, List.set_cons_succ, i64_w, i32_w]
          rfl
        refine one_ (i := 12) (N := some 44) #[true, true, true, true, true, true, true, true, true, true, true, true, true, true, true, true, true, true, true, true, true, true, false, false, false, false, false] rfl rfl (by kernel_rfl) (by decide) (fun K hK => ?_)
        refine goes_ Try.func40 (by kernel_rfl) rfl #[.int .u64 (IntKind.u64.wrap (wrap64 (wrap64 (a - a') - 1)))] (by rfl) rfl rfl (by simp only [List.map_toArray, List.map_cons, List.map_nil]; rfl) ?_
        with_reducible refine ((HC1.out _)).mono ?_
        rintro e w3 ⟨rfl, h3⟩
        have H3 := Aside0.mk (HBA.out.trans (h3.mono HBA.out.size))
        have k0 := bread h3 hHeld.1
        have k1 := bread h3 hHeld.2.1
        have k2 := bread h3 hHeld.2.2.1
        have k3 := bread h3 hHeld.2.2.2
        clear h3
        refine ⟨_, rfl, ?_⟩
        refine hK.out _ _ ⟨k0, k1, k2, k3⟩ (fun hHeld => ?_)
        clear hK K
        refine norm_ (a' := ?_) ?_ ?_
        rotate_left
        · show Act.put _ (some 44) _ = _
          simp only [Act.put, List.setIfInBounds_toArray, List.set_cons_zero, List.set_cons_succ, i64_w, i32_w]
          rfl
        refine one_ (i := 22) (N := some 54) #[true, true, true, true, true, true, true, true, true, true, true, true, true, true, true, true, true, true, true, true, true, true, true, false, false, false, false] rfl rfl (by kernel_rfl) (by decide) (fun K hK => ?_)
        refine goes_ Try.func39 (by kernel_rfl) rfl #[.int .i64 (wrap64 (b - b'))] (by rfl) rfl rfl (by simp only [List.map_toArray, List.map_cons, List.map_nil]; rfl) ?_
        with_reducible refine ((HF.out _)).mono ?_
        rintro e w4 ⟨rfl, rfl⟩
        refine ⟨_, rfl, ?_⟩
        refine hK.out _ _ ⟨hHeld.1, hHeld.2.1, hHeld.2.2.1, hHeld.2.2.2⟩ (fun hHeld => ?_)
        clear hK K
        refine norm_ (a' := ?_) ?_ ?_
        rotate_left
        · show Act.put _ (some 54) _ = _
          simp only [Act.put, List.setIfInBounds_toArray, List.set_cons_zero, List.set_cons_succ, i64_w, i32_w]
          rfl
        refine one_ (i := 23) (N := some 55) #[true, true, true, true, true, true, true, true, true, true, true, true, true, true, true, true, true, true, true, true, true, true, true, true, false, false, false] rfl rfl (by kernel_rfl) (by decide) (fun K hK => ?_)
        refine goes_ Try.func40 (by kernel_rfl) rfl #[.int .u64 (zig (w64 (b - b')) : Int)] (by rfl) rfl rfl (by simp only [List.map_toArray, List.map_cons, List.map_nil]; rfl) ?_
        with_reducible refine ((HC2.out _)).mono ?_
        rintro e w4 ⟨rfl, h4⟩
        have H4 := Aside0.mk (H3.out.trans (h4.mono H3.out.size))
        have m0 := bread h4 hHeld.1
        have m1 := bread h4 hHeld.2.1
        have m2 := bread h4 hHeld.2.2.1
        have m3 := bread h4 hHeld.2.2.2
        clear h4
        refine ⟨_, rfl, ?_⟩
        refine hK.out _ _ ⟨m0, m1, m2, m3⟩ (fun hHeld => ?_)
        clear hK K
        refine norm_ (a' := ?_) ?_ ?_
        rotate_left
        · show Act.put _ (some 55) _ = _
          simp only [Act.put, List.setIfInBounds_toArray, List.set_cons_zero, List.set_cons_succ, i64_w, i32_w]
          rfl
        refine pure_ (i := 24) (N := some 56) (v := ?_) (a' := ?_) #[true, true, true, true, true, true, true, true, true, true, true, true, true, true, true, true, true, true, true, true, true, true, true, true, true, false, false] rfl rfl (by kernel_rfl) (fun _ _ _ h => h) (Or.inl ⟨by rfl, ?_⟩) ?_ ?_
        rotate_left
        · intro w'
          go_simp
          with_reducible rfl
        rotate_left
        · simp only [Act.put, List.setIfInBounds_toArray, List.set_cons_zero, List.set_cons_succ, i64_w, i32_w]
          rfl
        refine pure_ (i := 25) (N := some 57) (v := ?_) (a' := ?_) #[true, true, true, true, true, true, true, true, true, true, true, true, true, true, true, true, true, true, true, true, true, true, true, true, true, true, false] rfl rfl (by kernel_rfl) (fun _ _ _ h => h) (Or.inl ⟨by rfl, ?_⟩) ?_ ?_
        rotate_left
        · intro w'
          go_simp
          with_reducible rfl
        rotate_left
        · simp only [Act.put, List.setIfInBounds_toArray, List.set_cons_zero, List.set_cons_succ, i64_w, i32_w]
          rfl
        refine pure_ (i := 26) (N := some 3) (v := ?_) (a' := ?_) #[true, true, true, true, true, true, true, true, true, true, true, true, true, true, true, true, true, true, true, true, true, true, true, true, true, true, true] rfl rfl (by kernel_rfl) (fun _ _ _ h => h) (Or.inl ⟨by rfl, ?_⟩) ?_ ?_
        rotate_left
        · intro w'
          go_simp
          with_reducible rfl
        rotate_left
        · simp only [Act.put, List.setIfInBounds_toArray, List.set_cons_zero, List.set_cons_succ, i64_w, i32_w]
          rfl
        refine done_ (by kernel_rfl) ?_
        go_wp2
        go_roundw
        case rel =>
          refine ⟨k + 1 + 1, _, by omega, by simp, rfl, ⟨?_⟩, ⟨H4.out⟩⟩
          rw [HST.out, ← List.append_assoc, strB_append _ (ChunkMath.own _ ++ _), strB_append (ChunkMath.own _), ← HE1.out, ← HE2.out]
          have h := HE.out
          rw [← h]
        case measure => simp [intOf]; omega
    · have hjl : j = l.length := by omega
      subst hv
      subst hjl
      obtain ⟨B, hBB⟩ : ∃ B, B = bitsOf l.length 16 ++ encAll (l.take l.length) := ⟨_, rfl⟩
      have hbl := HL.out l.length
      rw [← hBB] at HE hbl
      obtain ⟨n, hn2⟩ : ∃ n, n = B.length := ⟨_, rfl⟩
      have hsz : s.size = n := by rw [HE.out, strB_size, hn2]
      have hnn : n ≤ 1000000 := by omega
      have HBB := Aside0.mk (show pack B = ChunkMath.bytes l by rw [hBB, List.take_length]; rfl)
      have HS := HE
      have HN := Aside0.mk hn2
      have d2 : decide ((l.length : Int) < (l.length : Int)) = false := decide_eq_false (by omega)
      clear hBB hn2 hss hbl HE HS0 HC H1 HG HR HL
      go_wp2_with fail
      go_loopw [6, 61] (fun v3 v7 wr => ∃ (i : Nat) (v : Value), i ≤ n ∧ v7 = .int .i64 (i : Int) ∧ v = v3 ∧ Aside0 (wr.ownsRow w.heap.size 5 1 v (pack (B.take i)).length (nums .u8 (pack (B.take i)))) ∧ Aside0 (Below w.heap.size w wr)) (fun _ v _ => n - (intOf v).toNat)
      case atStart => exact ⟨0, .slice none 0 0, by omega, rfl, rfl, ⟨by rw [List.take_zero]; exact World.ownsRow_nil _ _ _ _⟩, ⟨HB.out⟩⟩
      case round =>
        obtain ⟨i, v, hin, rfl, rfl, HO, HW⟩ := hrel
        by_cases hlt : i < n
        · have hlt' : i < s.size := by omega
          have hil : (B.take i).length = i := by rw [List.length_take, ← HN.out]; omega
          have HT := Aside0.mk (take_snoc_bit B i (by rw [← HN.out]; exact hlt))
          have hlen := pack_length (B.take i)
          rw [hil] at hlen
          obtain ⟨L, hL⟩ : ∃ L, L = (pack (B.take i)).length := ⟨_, rfl⟩
          have HL := Aside0.mk hL
          rw [← hL] at hlen
          have HO2 := Aside0.mk (show wr.ownsRow w.heap.size 5 1 v L (nums .u8 (pack (B.take i))) by rw [hL]; exact HO.out)
          have HIL := Aside0.mk hil
          have HLEN := Aside0.mk hlen
          have hL2 : L ≤ 200000 := by omega
          clear hL hlen HO hil
          by_cases hm : i % 8 = 0
          · have dm : ((i : Int) % 8 == 0) = true := by simp; omega
            have HI8 := Aside0.mk (show i / 8 = L by have := HLEN.out; omega)
            have HP0 := Aside0.mk (pack_snoc0 (B.take i) (B.getD i false) (by rw [HIL.out]; exact hm))
            go_wp2_with (at_builtin; refine wpList_append_lies _ rfl _ _ 25 rfl w.heap.size 5 i0 (.int .u8 0) 1 1 Try.underlying25 hi hz0 hz1 hz2 rfl (by decide) _ _ _ rfl (HO2.out.alloc _) ⟨wr.heap.size, 0, none⟩ 1 1 [.int .u8 0] rfl rfl ?c1 ?c2 (by decide) ?c3 ?c4 ?c6 (wr.heap.size + 1) ?c5 ?_)
            case c1 => exact World.news_of_block (blk_new wr _)
            case c2 => intro u hu; simp at hu; subst hu; rfl
            case c3 => unfold maxLen; omega
            case c4 => omega
            case c5 => simp
            case c6 => have := HW.out.size; simp; omega
            intro g cap w2 hown' hgrow hlies _
            have HO3 := Aside0.mk hown'
            have HW3 := Aside0.mk ((HW.out.alloc HW.out.size _).grown hgrow (by have := HW.out.size; simp; omega) (fun k hk => (HO2.out.lt k hk).1))
            have hxl : (nums .u8 (pack (B.take i))).length = L := by rw [nums_length, HL.out]
            have e2 : w2.cell? ⟨g, i / 8, none⟩ = some (.int .u8 0) := by
              have h8 := HI8.out
              rw [World.ownsRow.cellAt hown' (i / 8) (by omega), List.getElem?_append_right (by omega), hxl, show i / 8 - L = 0 by omega]
              rfl
            have f2 : w2.frozen? ⟨g, i / 8, none⟩ = false := World.ownsRow.frozenAt hown' _
            have hgw := (hown'.lt g rfl).1
            clear hown' hgrow hlies hxl
            have hbb : (i : Int) / 8 < (L : Int) + 1 := by have := HI8.out; omega
            cases hbit : B.getD i false with
            | false =>
              have hb1 : (((s[i]'hlt').toNat : Int) == 49) = false := strB_zero HS.out (by rw [List.getElem?_eq_getElem (by rw [← HN.out]; exact hlt)]; rw [List.getD_eq_getElem?_getD, List.getElem?_eq_getElem (by rw [← HN.out]; exact hlt)] at hbit; simpa using hbit) hlt'
              have HBT := Aside0.mk hbit
              clear hbit
              go_wp2
              go_roundw
              case rel =>
                refine ⟨i + 1, _, by omega, by simp, rfl, ⟨?_⟩, HW3⟩
                rw [HT.out, HP0.out, HBT.out, nums_append, List.length_append, ← HL.out]
                exact HO3.out
              case measure => simp [intOf]; omega
            | true =>
              have hb1 : (((s[i]'hlt').toNat : Int) == 49) = true := strB_one HS.out (by rw [List.getElem?_eq_getElem (by rw [← HN.out]; exact hlt)]; rw [List.getD_eq_getElem?_getD, List.getElem?_eq_getElem (by rw [← HN.out]; exact hlt)] at hbit; simpa using hbit) hlt'
              have HBT := Aside0.mk hbit
              clear hbit
              go_wp2
              go_region
              all_goals go_wp2
              go_roundw
              case rel =>
                refine ⟨i + 1, _, by omega, by simp, rfl, ⟨?_⟩, ⟨bdrew (HW3.out.setCell (p := ⟨g, i / 8, none⟩) hgw _)⟩⟩
                rw [HT.out, HP0.out, HBT.out, nums_append, List.length_append, ← HL.out]
                have h := (HO3.out.stored (i / 8) (.int .u8 128)).1
                rw [List.set_append_right _ _ (by rw [nums_length, ← HL.out, HI8.out]; exact Nat.le_refl _), nums_length, ← HL.out, HI8.out, Nat.sub_self] at h
                rw [HI8.out]
                exact h
              case measure => simp [intOf]; omega
          · have dm : ((i : Int) % 8 == 0) = false := by simp; omega
            obtain ⟨g, cap, _, rfl, _⟩ := row_pos HO2.out (by have := HLEN.out; omega)
            have HP := Aside0.mk (pack_snoc (B.take i) (B.getD i false) (by rw [HIL.out]; exact hm))
            have HY := Aside0.mk (pack_getD (B.take i) (i / 8) (by rw [HIL.out]; omega))
            have hgw := (HO2.out.lt g rfl).1
            have HIX := Aside0.mk (show i / 8 < L by have := HLEN.out; omega)
            cases hbit : B.getD i false with
            | false =>
              have hb1 : (((s[i]'hlt').toNat : Int) == 49) = false := strB_zero HS.out (by rw [List.getElem?_eq_getElem (by rw [← HN.out]; exact hlt)]; rw [List.getD_eq_getElem?_getD, List.getElem?_eq_getElem (by rw [← HN.out]; exact hlt)] at hbit; simpa using hbit) hlt'
              have HBT := Aside0.mk hbit
              clear hbit
              go_wp2
              go_roundw
              case rel =>
                refine ⟨i + 1, _, by omega, by simp, rfl, ⟨?_⟩, HW⟩
                have e : pack (B.take (i + 1)) = pack (B.take i) := by
                  rw [HT.out, HP.out, HBT.out, HIL.out, show byteAt (B.take i) (i / 8) + bv false * wt i = (pack (B.take i)).getD (i / 8) 0 by rw [HY.out]; simp [bv]]
                  apply List.ext_getElem?
                  intro k
                  rw [List.getElem?_set]
                  by_cases hk : i / 8 = k
                  · subst hk
                    have hk2 : i / 8 < (pack (B.take i)).length := by rw [← HL.out]; exact HIX.out
                    rw [if_pos rfl, if_pos hk2, List.getD_eq_getElem?_getD, List.getElem?_eq_getElem hk2]
                    rfl
                  · rw [if_neg hk]
                rw [e, ← HL.out]
                exact HO2.out
              case measure => simp [intOf]; omega
            | true =>
              have hb1 : (((s[i]'hlt').toNat : Int) == 49) = true := strB_one HS.out (by rw [List.getElem?_eq_getElem (by rw [← HN.out]; exact hlt)]; rw [List.getD_eq_getElem?_getD, List.getElem?_eq_getElem (by rw [← HN.out]; exact hlt)] at hbit; simpa using hbit) hlt'
              have HBT := Aside0.mk hbit
              clear hbit
              have e2 : wr.cell? ⟨g, i / 8, none⟩ = some (.int .u8 (byteAt (B.take i) (i / 8))) := by
                rw [World.ownsRow.cellAt HO2.out (i / 8) (by have := HIX.out; omega)]
                unfold nums
                rw [List.getElem?_map, pack_get? _ _ (by rw [HIL.out]; omega)]
                rfl
              have f2 : wr.frozen? ⟨g, i / 8, none⟩ = false := World.ownsRow.frozenAt HO2.out _
              have hbb : (i : Int) / 8 < (L : Int) := by have := HIX.out; omega
              have hsum : 0 ≤ byteAt (B.take i) (i / 8) + wt i ∧ byteAt (B.take i) (i / 8) + wt i ≤ 255 := by
                have h1 := byteAt_snoc (B.take i) true (i / 8)
                rw [HIL.out, if_pos rfl] at h1
                have h2 := byteAt_range (B.take i ++ [true]) (i / 8)
                rw [h1] at h2
                simpa [bv] using h2
              have hy := byteAt_range (B.take i) (i / 8)
              have hwp := wt_pos i
              have hsh := shr_wt i
              obtain ⟨y, hyd⟩ : ∃ y, y = byteAt (B.take i) (i / 8) := ⟨_, rfl⟩
              obtain ⟨W, hWd⟩ : ∃ W, W = wt i := ⟨_, rfl⟩
              rw [← hyd] at e2 hsum hy
              rw [← hWd] at hsum hwp hsh
              have HYD := Aside0.mk hyd
              have HWD := Aside0.mk hWd
              have hs1 := hsum.1
              have hs2 := hsum.2
              have hy1 := hy.1
              have hw1 := hwp.1
              clear hyd hWd hsum hy hwp
              go_wp2
              go_region
              all_goals go_wp2
              go_roundw
              case rel =>
                refine ⟨i + 1, _, by omega, by simp, rfl, ⟨?_⟩, ⟨bdrew (HW.out.setCell (p := ⟨g, i / 8, none⟩) hgw _)⟩⟩
                have h := (HO2.out.stored (i / 8) (.int .u8 (y + W))).1
                have e : pack (B.take (i + 1)) = (pack (B.take i)).set (i / 8) (y + W) := by
                  rw [HT.out, HP.out, HBT.out, HIL.out, HYD.out, HWD.out]; simp [bv]
                rw [e, ← nums_set, List.length_set, ← HL.out]
                first | exact h | (trace_state; exact h)
              case measure => simp [intOf]; omega
        · have hcv : (convert 25 9 v).run Try.prog wr = .ok (.string (strOfNums (pack (B.take i)))) wr := conv_own HO.out
          have HE := Aside0.mk (show B.take i = B by rw [show i = B.length by rw [← HN.out]; omega]; exact List.take_length)
          go_wp2
          go_ret
          exact ⟨by rw [HE.out, HBB.out]; rfl, HW.out⟩
end Go.Proofs.Ytfanomllfgoakaa
