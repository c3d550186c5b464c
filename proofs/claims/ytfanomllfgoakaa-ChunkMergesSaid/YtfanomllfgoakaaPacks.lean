/- The law ChunkPacks. -/
import Derived.Test.YtfanomllfgoakaaUnpacks
set_option linter.unusedVariables false
set_option linter.unusedSimpArgs false
namespace Go.Proofs.Ytfanomllfgoakaa
open Go.RowKit Go.Proofs.YtfanomllfgoakaaW.PrintWords Go.Proofs.YtfanomllfgoakaaW.PrintLast Go.Proofs.YtfanomllfgoakaaW.PrintMore
open Go.Proofs.Ytfanomllfgoakaa.BitsMath Go.Proofs.Ytfanomllfgoakaa.ChunkMath

set_option maxHeartbeats 2000000 in
theorem same_calls (v u : Value) (l : List Pt) (w : World) (hv : SrcP w v l) (hu : SrcP w u l) (hl : l.length ≤ 100000) :
    Calls Try.prog 30 #[v, u] w fun e w' => e = .returned (.bool true) ∧ Below w.heap.size w w' := by
  have HV := Aside0.mk hv
  have HU := Aside0.mk hu
  obtain ⟨A, c, rfl⟩ := hv.form
  obtain ⟨B, d, rfl⟩ := hu.form
  clear hv hu
  have d9 : ((l.length : Int) != (l.length : Int)) = false := by simp
  go_enter Try.func30, Try.ntmps30
  go_wp2_with fail
  go_loopw [13] (fun vx wr => ∃ j : Nat, j ≤ l.length ∧ vx = .int .i64 (j : Int) ∧ Aside0 (Below w.heap.size w wr)) (fun vx _ => l.length - (intOf vx).toNat)
  case atStart => exact ⟨0, by omega, rfl, ⟨Below.refl _ _⟩⟩
  case round =>
    obtain ⟨j, hj, rfl, HB⟩ := hrel
    by_cases hlt : j < l.length
    · obtain ⟨ad, rfl, hc⟩ := HV.out.cells (by omega)
      obtain ⟨ae, rfl, hd⟩ := HU.out.cells (by omega)
      obtain ⟨q, hq⟩ : ∃ x, l[j]? = some x := ⟨_, List.getElem?_eq_getElem hlt⟩
      obtain ⟨a, b⟩ := q
      have ce0 := bread HB.out (hc j _ hq).1
      have ce1 := bread HB.out (hc j _ hq).2
      have cf0 := bread HB.out (hd j _ hq).1
      have cf1 := bread HB.out (hd j _ hq).2
      simp only at ce0 ce1 cf0 cf1
      clear hc hd hq
      go_wp2_with fail
      go_region
      go_wp2
      go_roundw
      case rel => exact ⟨j + 1, by omega, by simp, ⟨pw_below_drewN HB.out _⟩⟩
      case measure => simp [intOf]; omega
    · go_wp2
      go_ret
      exact ⟨rfl, HB.out⟩
theorem bytes_src (l : List Pt) (hl : ∀ q ∈ l, okPt q) (hr : rises l) (hn : l.length ≤ 1000) : 2 ≤ (ChunkMath.bytes l).length ∧ (ChunkMath.bytes l).length ≤ 100000 ∧ val ((unpack (ChunkMath.bytes l)).take 16) = l.length := by
  have hk := dec_ok (dec_bytes l hl hr (by omega))
  obtain ⟨t, hk⟩ := hk
  have ht := hk.1
  clear hk
  have h1 := unpack_length (ChunkMath.bytes l)
  have h2 := congrArg List.length ht
  have h3 := pack_length (enc l)
  have h4 := encTake_len l hl l.length
  rw [List.take_length] at h4
  have h5 : (enc l).length ≤ 142 * l.length + 16 := h4
  have h6 : 16 ≤ (enc l).length := by unfold enc; rw [List.length_append, bitsOf_length]; omega
  have h7 : (ChunkMath.bytes l).length = ((enc l).length + 7) / 8 := h3
  rw [List.length_append] at h2
  refine ⟨by omega, by omega, ?_⟩
  have e : unpack (ChunkMath.bytes l) = bitsOf l.length 16 ++ (encAll l ++ t) := by rw [ht]; unfold enc; rw [List.append_assoc]
  have e1 := take_bits l.length 16 (encAll l ++ t) (by omega)
  have e2 := take_long (k := 16) (s := bitsOf l.length 16 ++ (encAll l ++ t)) (by rw [List.length_append, bitsOf_length]; omega)
  rw [e1] at e2
  have e3 := Except.ok.inj e2
  rw [e]
  exact ((Prod.mk.inj e3).1).symm
set_option maxRecDepth 100000 in
set_option maxHeartbeats 8000000 in
theorem packs_calls (v : Value) (l : List Pt) (w : World) (h : SrcP w v l) (hlm : l.length ≤ 9223372036854775807) (hi64 : ∀ x ∈ l, I64 x.v) :
    Calls Try.prog 9 #[v] w fun e w' => e = .returned (.bool true) ∧ Below w.heap.size w w' := by
  have HS := Aside0.mk h
  have HI := Aside0.mk hi64
  obtain ⟨A, c, rfl⟩ := h.form
  clear h hi64
  by_cases hl : l.length ≤ 60
  · have d0 : decide (60 < (l.length : Int)) = false := decide_eq_false (by omega)
    by_cases ht : tell l = 0
    · have hz := tell_zero ht
      have hg : ∀ x ∈ l, okPt x := fun x hx => ⟨(hz.1 x hx).1, (hz.1 x hx).2, HI.out x hx⟩
      have hr := hz.2
      have HG := Aside0.mk hg
      have HR := Aside0.mk hr
      have HT := Aside0.mk ht
      clear hz hg hr ht
      go_enter Try.func9, Try.ntmps9
      go_wp2_with fail
      refine (lives4_calls _).mono ?_
      rintro e w1 ⟨rfl, h1⟩
      have H1 := Aside0.mk h1
      have HC1 := Lib.hid (cpack_ok _ l w1 (HS.out.below h1) (by omega) HG.out HR.out)
      clear h1
      go_wp2_with fail
      refine HC1.out.mono ?_
      rintro e w2 ⟨u, rfl, hu, h2⟩
      have H2 := Aside0.mk (H1.out.trans (h2.mono H1.out.size))
      have HU := Aside0.mk hu
      have hc2 := rightL_calls _ l w2 (HS.out.below H2.out) (by omega)
      rw [HT.out, show ((0 : Nat) : Int) = 0 from rfl] at hc2
      have HC2 := Lib.hid hc2
      obtain ⟨B, cb, rfl⟩ := row_form hu
      obtain ⟨m, hm⟩ : ∃ m, m = (ChunkMath.bytes l).length := ⟨_, rfl⟩
      rw [← hm] at hu ⊢
      have HM := Aside0.mk hm
      have HUM := Aside0.mk hu
      clear hc2 hu h2 hm
      go_wp2_with fail
      refine HC2.out.mono ?_
      rintro e w3 ⟨rfl, h3⟩
      have H3 := Aside0.mk (H2.out.trans (h3.mono H2.out.size))
      have HU3 := Aside0.mk (show w3.drew.ownsRow w1.heap.size 5 1 (.slice B m cb) m (nums .u8 (ChunkMath.bytes l)) from row_below h3.drew HUM.out)
      have HC3 := Aside0.mk (lbytes_calls _ l w3.drew (HS.out.below H3.out.drew) (by omega) HG.out HR.out)
      clear h3
      go_wp2_with fail
      refine start_ (n := 16) (S := fun w' => ((convert 25 9 (.slice B m cb)).run Try.prog w' = .ok (.string (strOfNums (ChunkMath.bytes l))) w')) (ds := []) #[false, false, false, false, false, false, false, false, false, false, false, false, false, false, false, false] (by kernel_rfl) rfl rfl ((conv_own HU3.out)) (fun hHeld => ?_)
      refine pure_ (i := 0) (N := some 40) (v := ?_) (a' := ?_) #[true, false, false, false, false, false, false, false, false, false, false, false, false, false, false, false] rfl rfl (by kernel_rfl) (fun _ _ _ h => h) (Or.inl ⟨by rfl, ?_⟩) ?_ ?_
      rotate_left
      · intro w'
        go_simp
        with_reducible rfl
      rotate_left
      · simp only [Act.put, List.setIfInBounds_toArray, List.set_cons_zero, List.set_cons_succ, i64_w, i32_w]
        rfl
      refine pure_ (i := 1) (N := some 41) (v := ?_) (a' := ?_) #[true, true, false, false, false, false, false, false, false, false, false, false, false, false, false, false] rfl rfl (by kernel_rfl) (fun _ _ _ h => h) (Or.inl ⟨by rfl, ?_⟩) ?_ ?_
      rotate_left
      · intro w'
        go_simp
        with_reducible rfl
      rotate_left
      · simp only [Act.put, List.setIfInBounds_toArray, List.set_cons_zero, List.set_cons_succ, i64_w, i32_w]
        rfl
      refine pure_ (i := 2) (N := some 42) (v := ?_) (a' := ?_) #[true, true, true, false, false, false, false, false, false, false, false, false, false, false, false, false] rfl rfl (by kernel_rfl) (fun _ _ _ h => h) (Or.inl ⟨by rfl, ?_⟩) ?_ ?_
      rotate_left
      · intro w'
        go_simp
        with_reducible rfl
      rotate_left
      · simp only [Act.put, List.setIfInBounds_toArray, List.set_cons_zero, List.set_cons_succ, i64_w, i32_w]
        rfl
      refine pure_ (i := 3) (N := some 43) (v := ?_) (a' := ?_) #[true, true, true, true, false, false, false, false, false, false, false, false, false, false, false, false] rfl rfl (by kernel_rfl) (fun _ _ _ h => h) (Or.inl ⟨by rfl, ?_⟩) ?_ ?_
      rotate_left
      · intro w'
        go_simp
        with_reducible rfl
      rotate_left
      · simp only [Act.put, List.setIfInBounds_toArray, List.set_cons_zero, List.set_cons_succ, i64_w, i32_w]
        rfl
      refine pure_ (i := 5) (N := some 45) (v := ?_) (a' := ?_) #[true, true, true, true, false, true, false, false, false, false, false, false, false, false, false, false] rfl rfl (by kernel_rfl) (fun _ _ _ h => h) (Or.inl ⟨by rfl, ?_⟩) ?_ ?_
      rotate_left
      · intro w'
        go_simp
        with_reducible rfl
      rotate_left
      · simp only [Act.put, List.setIfInBounds_toArray, List.set_cons_zero, List.set_cons_succ, i64_w, i32_w]
        rfl
      refine take_ (i := 4) (N := some 44) (v := ?_) (a' := ?_) #[true, true, true, true, true, true, false, false, false, false, false, false, false, false, false, false] rfl rfl (by kernel_rfl) (fun _ _ _ h => h) (Or.inl ⟨by rfl, ?_⟩) hHeld ?_ ?_
      rotate_left
      · rintro w' s0
        go_simp
        with_reducible rfl
      rotate_left
      · simp only [Act.put, List.setIfInBounds_toArray, List.set_cons_zero, List.set_cons_succ, i64_w, i32_w]
        rfl
      refine one_ (i := 6) (N := some 46) #[true, true, true, true, true, true, true, false, false, false, false, false, false, false, false, false] rfl rfl (by kernel_rfl) (by decide) (fun K hK => ?_)
      refine goes_ Try.func26 (by kernel_rfl) rfl #[.slice A l.length c] (by rfl) rfl rfl (by simp only [List.map_toArray, List.map_cons, List.map_nil]; rfl) ?_
      with_reducible refine (HC3.out).mono ?_
      rintro e w4 ⟨rfl, h4⟩
      have H4 := Aside0.mk (H3.out.drew.trans (h4.mono H3.out.size))
      have HU4 := Aside0.mk (row_below h4 HU3.out)
      have hc4 := csize_ok _ l w4 (HS.out.below H4.out) (by omega) HG.out HR.out
      rw [← HM.out] at hc4
      have HC4 := Lib.hid hc4
      clear h4 hc4
      refine ⟨_, rfl, ?_⟩
      refine hK.out _ _ ((conv_own HU4.out)) (fun hHeld => ?_)
      clear hK K
      refine norm_ (a' := ?_) ?_ ?_
      rotate_left
      · show Act.put _ (some 46) _ = _
        simp only [Act.put, List.setIfInBounds_toArray, List.set_cons_zero, List.set_cons_succ, i64_w, i32_w]
        rfl
      refine pure_ (i := 7) (N := some 47) (v := ?_) (a' := ?_) #[true, true, true, true, true, true, true, true, false, false, false, false, false, false, false, false] rfl rfl (by kernel_rfl) (fun _ _ _ h => h) (Or.inl ⟨by rfl, ?_⟩) ?_ ?_
      rotate_left
      · intro w'
        go_simp
        with_reducible rfl
      rotate_left
      · simp only [Act.put, List.setIfInBounds_toArray, List.set_cons_zero, List.set_cons_succ, i64_w, i32_w]
        rfl
      refine pure_ (i := 8) (N := some 48) (v := ?_) (a' := ?_) #[true, true, true, true, true, true, true, true, true, false, false, false, false, false, false, false] rfl rfl (by kernel_rfl) (fun _ _ _ h => h) (Or.inl ⟨by rfl, ?_⟩) ?_ ?_
      rotate_left
      · intro w'
        go_simp
        with_reducible rfl
      rotate_left
      · simp only [Act.put, List.setIfInBounds_toArray, List.set_cons_zero, List.set_cons_succ, i64_w, i32_w]
        rfl
      refine pure_ (i := 9) (N := some 49) (v := ?_) (a' := ?_) #[true, true, true, true, true, true, true, true, true, true, false, false, false, false, false, false] rfl rfl (by kernel_rfl) (fun _ _ _ h => h) (Or.inl ⟨by rfl, ?_⟩) ?_ ?_
      rotate_left
      · intro w'
        go_simp
        with_reducible rfl
      rotate_left
      · simp only [Act.put, List.setIfInBounds_toArray, List.set_cons_zero, List.set_cons_succ, i64_w, i32_w]
        rfl
      refine pure_ (i := 10) (N := some 50) (v := ?_) (a' := ?_) #[true, true, true, true, true, true, true, true, true, true, true, false, false, false, false, false] rfl rfl (by kernel_rfl) (fun _ _ _ h => h) (Or.inl ⟨by rfl, ?_⟩) ?_ ?_
      rotate_left
      · intro w'
        go_simp
        with_reducible rfl
      rotate_left
      · simp only [Act.put, List.setIfInBounds_toArray, List.set_cons_zero, List.set_cons_succ, i64_w, i32_w]
        rfl
      refine pure_ (i := 12) (N := some 52) (v := ?_) (a' := ?_) #[true, true, true, true, true, true, true, true, true, true, true, false, true, false, false, false] rfl rfl (by kernel_rfl) (fun _ _ _ h => h) (Or.inl ⟨by rfl, ?_⟩) ?_ ?_
      rotate_left
      · intro w'
        go_simp
        with_reducible rfl
      rotate_left
      · simp only [Act.put, List.setIfInBounds_toArray, List.set_cons_zero, List.set_cons_succ, i64_w, i32_w]
        rfl
      refine pure_ (i := 13) (N := some 53) (v := ?_) (a' := ?_) #[true, true, true, true, true, true, true, true, true, true, true, false, true, true, false, false] rfl rfl (by kernel_rfl) (fun _ _ _ h => h) (Or.inl ⟨by rfl, ?_⟩) ?_ ?_
      rotate_left
      · intro w'
        go_simp
        with_reducible rfl
      rotate_left
      · simp only [Act.put, List.setIfInBounds_toArray, List.set_cons_zero, List.set_cons_succ, i64_w, i32_w]
        rfl
      refine one_ (i := 11) (N := some 51) #[true, true, true, true, true, true, true, true, true, true, true, true, true, true, false, false] rfl rfl (by kernel_rfl) (by decide) (fun K hK => ?_)
      refine goes_ Try.func28 (by kernel_rfl) rfl #[.slice A l.length c] (by rfl) rfl rfl (by simp only [List.map_toArray, List.map_cons, List.map_nil]; rfl) ?_
      with_reducible refine (HC4.out).mono ?_
      rintro e w5 ⟨rfl, h5⟩
      have H5 := Aside0.mk (H4.out.trans (h5.mono H4.out.size))
      have HU5 := Aside0.mk (row_below h5 HU4.out)
      clear h5
      refine ⟨_, rfl, ?_⟩
      refine hK.out _ _ ((conv_own HU5.out)) (fun hHeld => ?_)
      clear hK K
      refine norm_ (a' := ?_) ?_ ?_
      rotate_left
      · show Act.put _ (some 51) _ = _
        simp only [Act.put, List.setIfInBounds_toArray, List.set_cons_zero, List.set_cons_succ, i64_w, i32_w]
        rfl
      refine pure_ (i := 14) (N := some 54) (v := ?_) (a' := ?_) #[true, true, true, true, true, true, true, true, true, true, true, true, true, true, true, false] rfl rfl (by kernel_rfl) (fun _ _ _ h => h) (Or.inl ⟨by rfl, ?_⟩) ?_ ?_
      rotate_left
      · intro w'
        go_simp
        with_reducible rfl
      rotate_left
      · simp only [Act.put, List.setIfInBounds_toArray, List.set_cons_zero, List.set_cons_succ, i64_w, i32_w]
        rfl
      refine pure_ (i := 15) (N := some 55) (v := ?_) (a' := ?_) #[true, true, true, true, true, true, true, true, true, true, true, true, true, true, true, true] rfl rfl (by kernel_rfl) (fun _ _ _ h => h) (Or.inl ⟨by rfl, ?_⟩) ?_ ?_
      rotate_left
      · intro w'
        go_simp
        with_reducible rfl
      rotate_left
      · simp only [Act.put, List.setIfInBounds_toArray, List.set_cons_zero, List.set_cons_succ, i64_w, i32_w]
        rfl
      refine done_ (by kernel_rfl) ?_
      have hby := bytes_src l HG.out HR.out (by omega)
      have HSB := Aside0.mk (show SrcB w5 (.slice B m cb) (ChunkMath.bytes l) from SrcB.of_row (base := w1.heap.size) (by rw [← HM.out]; exact HU5.out))
      have HBR := Aside0.mk (show ∀ x ∈ ChunkMath.bytes l, 0 ≤ x ∧ x ≤ 255 from pack_range (enc l))
      have HC6 := Lib.hid (unpack_calls _ _ w5 HSB.out hby.2.1 HBR.out)
      have HBY := Aside0.mk hby
      clear hby
      go_wp2_with fail
      refine HC6.out.mono ?_
      rintro e w6 ⟨hu, h6⟩
      have hu' : ∃ v, e = .returned (.tuple #[v, .int .i64 0]) ∧ w6.ownsRow w5.heap.size 68 2 v l.length (rowP l) := by unfold UnpR at hu; rw [dec_bytes l HG.out HR.out (by omega)] at hu; exact hu
      obtain ⟨v, rfl, hrow⟩ := hu'
      have H6 := Aside0.mk (H5.out.trans (h6.mono H5.out.size))
      have HROW := Aside0.mk hrow
      have hc7 := count_calls (.slice B m cb) (ChunkMath.bytes l) w6 (SrcB.of_row (base := w1.heap.size) (by rw [← HM.out]; exact row_below h6 HU5.out)) HBY.out.2.1 HBR.out HBY.out.1
      rw [HBY.out.2.2] at hc7
      have HC7 := Lib.hid hc7
      clear hu h6 hrow hc7
      go_wp2_with fail
      refine HC7.out.mono ?_
      rintro e w7 ⟨rfl, h7⟩
      have H7 := Aside0.mk (H6.out.trans (h7.mono H6.out.size))
      have HP7 := Aside0.mk (SrcP.of_row (row_below h7 HROW.out))
      have HC8 := Lib.hid (same_calls v _ l w7 HP7.out (HS.out.below H7.out) (by omega))
      clear h7
      go_wp2_with fail
      refine HC8.out.mono ?_
      rintro e w8 ⟨rfl, h8⟩
      have H8 := Aside0.mk (H7.out.trans (h8.mono H7.out.size))
      clear h8
      go_wp2
      go_ret
      exact ⟨rfl, H8.out⟩
    · obtain ⟨t, hT⟩ : ∃ t, t = tell l := ⟨_, rfl⟩
      have HT := Aside0.mk hT
      have d1 : ((t : Int) != 0) = true := by rw [hT]; simp; exact ht
      have d2 : ((t : Int) == (t : Int)) = true := by simp
      have HNE := Aside0.mk ht
      clear ht hT
      go_enter Try.func9, Try.ntmps9
      go_wp2_with fail
      refine (lives4_calls _).mono ?_
      rintro e w1 ⟨rfl, h1⟩
      have H1 := Aside0.mk h1
      have hc1 := cpack_bad _ l w1 (HS.out.below h1) (by omega) HNE.out
      rw [← HT.out] at hc1
      have HC1 := Lib.hid hc1
      clear h1 hc1
      go_wp2_with fail
      refine HC1.out.mono ?_
      rintro e w2 ⟨rfl, h2⟩
      have H2 := Aside0.mk (H1.out.trans (h2.mono H1.out.size))
      have hc2 := rightL_calls _ l w2 (HS.out.below H2.out) (by omega)
      rw [← HT.out] at hc2
      have HC2 := Lib.hid hc2
      clear h2 hc2
      go_wp2_with fail
      refine HC2.out.mono ?_
      rintro e w3 ⟨rfl, h3⟩
      have H3 := Aside0.mk (H2.out.trans (h3.mono H2.out.size))
      have HC3 := Lib.hid (csize_bad _ l w3 (HS.out.below H3.out) (by omega) HNE.out)
      clear h3
      go_wp2_with fail
      refine HC3.out.mono ?_
      rintro e w4 ⟨rfl, h4⟩
      have H4 := Aside0.mk (H3.out.trans (h4.mono H3.out.size))
      clear h4
      go_wp2
      go_ret
      exact ⟨rfl, H4.out⟩
  · have d0 : decide (60 < (l.length : Int)) = true := decide_eq_true (by omega)
    go_enter Try.func9, Try.ntmps9
    go_wp2_with fail
    refine (lives4_calls _).mono ?_
    rintro e w1 ⟨rfl, h1⟩
    have H1 := Aside0.mk h1
    clear h1
    go_wp2_with fail
    refine (lives4_calls _).mono ?_
    rintro e w2 ⟨rfl, h2⟩
    have H2 := Aside0.mk h2
    clear h2
    go_wp2
    go_ret
    exact ⟨rfl, H1.out.trans (H2.out.mono H1.out.size)⟩
/-- A point's cells by number, as a row names them. -/
abbrev ChunkMath.Pt.f0 (p : Pt) : Int := p.at_
abbrev ChunkMath.Pt.f1 (p : Pt) : Int := p.v
theorem chunkPacks_walk (A0 : Option Addr) (len0 cap0 : Nat) (l0 : List ChunkMath.Pt) (W : World)
    (hr0 : ReadsRow (fun (p : ChunkMath.Pt) c => c = [.int .i64 p.f0, .int .i64 p.f1]) 2 W A0 len0 l0) (_ : len0 ≤ cap0) (hq0 : ∀ p ∈ l0, (Lit.int .i64 p.f0).wf = true ∧ (Lit.int .i64 p.f1).wf = true) :
    Calls Try.prog 9 #[.slice A0 len0 cap0] W fun e w' => e = .returned (.bool true) ∧ Below W.heap.size W w' := by
  have e0 := hr0.1
  subst e0
  exact packs_calls _ l0 W (SrcP.of_reads hr0) hr0.2.1 (fun x hx => wf_i64 (hq0 x hx).2)
end Go.Proofs.Ytfanomllfgoakaa
