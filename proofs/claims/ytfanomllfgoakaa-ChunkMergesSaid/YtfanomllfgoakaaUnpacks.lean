/- The law ChunkUnpacks. -/
import Derived.Test.YtfanomllfgoakaaChunkG
set_option linter.unusedVariables false
set_option linter.unusedSimpArgs false
namespace Go.Proofs.Ytfanomllfgoakaa
open Go.RowKit Go.Proofs.YtfanomllfgoakaaW.PrintWords Go.Proofs.YtfanomllfgoakaaW.PrintLast Go.Proofs.YtfanomllfgoakaaW.PrintMore
open Go.Proofs.Ytfanomllfgoakaa.BitsMath Go.Proofs.Ytfanomllfgoakaa.ChunkMath

theorem all_err {n c : Nat} {s : List Bool} (h : ChunkMath.all n s = .error c) : c = 2 ∨ c = 3 ∨ c = 4 := by
  have hf : ∀ s c, ChunkMath.first s = .error c → c = 2 ∨ c = 3 ∨ c = 4 := by
    intro s c h
    unfold ChunkMath.first at h
    split at h
    · rename_i e h1
      injection h with h
      have := take_err h1
      omega
    · split at h
      · injection h with h; omega
      · split at h
        · rename_i e h1
          injection h with h
          have := take_err h1
          omega
        · cases h
  have hn : ∀ p s c, ChunkMath.next p s = .error c → c = 2 ∨ c = 3 ∨ c = 4 := by
    intro p s c h
    unfold ChunkMath.next at h
    split at h
    · rename_i e h1
      injection h with h
      have := get_err h1
      omega
    · split at h
      · injection h with h; omega
      · split at h
        · rename_i e h1
          injection h with h
          have := get_err h1
          omega
        · cases h
  have hm : ∀ n p s c, ChunkMath.more n p s = .error c → c = 2 ∨ c = 3 ∨ c = 4 := by
    intro n
    induction n with
    | zero => intro p s c h; unfold ChunkMath.more at h; cases h
    | succ n ih =>
      intro p s c h
      unfold ChunkMath.more at h
      split at h
      · rename_i e h1
        injection h with h
        have := hn _ _ _ h1
        omega
      · split at h
        · rename_i e h1
          injection h with h
          have := ih _ _ _ h1
          omega
        · cases h
  unfold ChunkMath.all at h
  split at h
  · cases h
  · split at h
    · rename_i e h1
      injection h with h
      have := hf _ _ h1
      omega
    · split at h
      · rename_i e h1
        injection h with h
        have := hm _ _ _ _ h1
        omega
      · cases h
theorem dec_err {c : Nat} {s : List Bool} (h : dec s = .error c) : c = 2 ∨ c = 3 ∨ c = 4 := by
  unfold dec at h
  split at h
  · rename_i e h1
    injection h with h
    have := take_err h1
    omega
  · split at h
    · rename_i e h1
      injection h with h
      have := all_err h1
      omega
    · split at h
      · cases h
      · injection h with h; omega
theorem encTail_more : ∀ (r : List Pt) (a : Pt), 14 * r.length ≤ (encTail a r).length
  | [], _ => by simp
  | q :: r, a => by
    have ih := encTail_more r q
    have h7 : ∀ x, 7 ≤ (ChunkMath.own x).length := fun x => by unfold ChunkMath.own; rw [List.length_append, bitsOf_length]; omega
    have h1 := h7 (q.at_ - a.at_ - 1).toNat
    have h2 := h7 (zig (w64 (q.v - a.v)))
    simp only [encTail, List.length_append, List.length_cons]
    omega
theorem enc_more (l : List Pt) : 14 * l.length ≤ (enc l).length := by
  cases l with
  | nil => simp
  | cons a r =>
    have := encTail_more r a
    simp only [enc, encAll, List.length_append, bitsOf_length, List.length_cons]
    omega
theorem dec_few {l : List Pt} {s : List Bool} (h : dec s = .ok l) : 14 * l.length ≤ s.length := by
  have hk := dec_ok h
  obtain ⟨t, hk⟩ := hk
  have hm := enc_more l
  have e := congrArg List.length hk.1
  rw [List.length_append] at e
  rw [e]
  exact Nat.le_trans hm (Nat.le_add_right _ _)
set_option maxHeartbeats 8000000 in
theorem unpacks_calls (A0 : Option Addr) (c0 : Nat) (l : List Int) (w : World) (h : ReadsInt w .u8 A0 l.length l) (hb : ∀ x ∈ l, 0 ≤ x ∧ x ≤ 255) :
    Calls Try.prog 7 #[.slice A0 l.length c0] w fun e w' => e = .returned (.bool true) ∧ Below w.heap.size w w' := by
  have hlm := h.2.1
  have H := Aside0.mk h
  have HB := Aside0.mk hb
  clear h hb
  by_cases hl : l.length ≤ 300
  · have d0 : decide (300 < (l.length : Int)) = false := decide_eq_false (by omega)
    go_enter Try.func7, Try.ntmps7
    go_wp2_with fail
    refine (lives4_calls _).mono ?_
    rintro e w1 ⟨rfl, h1⟩
    have H1 := Aside0.mk h1
    have HR1 := Aside0.mk (H.out.below h1)
    have HC := Lib.hid (unpack_calls (.slice A0 l.length c0) l w1 (src_of HR1.out) (by omega) HB.out)
    clear h1
    cases hd : dec (unpack l) with
    | error c =>
      have hcc := dec_err hd
      have HD := Aside0.mk hd
      clear hd
      go_wp2_with fail
      refine HC.out.mono ?_
      rintro e w2 ⟨hu, h2⟩
      have hu' : e = .returned (.tuple #[.slice none 0 0, .int .i64 (c : Int)]) := by unfold UnpR at hu; rw [HD.out] at hu; exact hu
      subst hu'
      have H2 := Aside0.mk (H1.out.trans (h2.mono H1.out.size))
      clear hu h2
      rcases hcc with rfl | rfl | rfl
      · go_wp2
        go_ret
        exact ⟨rfl, H2.out⟩
      · go_wp2
        go_ret
        exact ⟨rfl, H2.out⟩
      · go_wp2
        go_ret
        exact ⟨rfl, H2.out⟩
    | ok pts =>
      have hbd := bytes_dec l pts HB.out hd
      have hfew := dec_few hd
      rw [unpack_length] at hfew
      have HD := Aside0.mk hd
      have HE := Aside0.mk hbd.1
      have HG := Aside0.mk hbd.2.1
      have HU := Aside0.mk hbd.2.2
      have hp : pts.length ≤ 1000 := by omega
      clear hd hbd hfew
      go_wp2_with fail
      refine HC.out.mono ?_
      rintro e w2 ⟨hu, h2⟩
      have hu' : ∃ v, e = .returned (.tuple #[v, .int .i64 0]) ∧ w2.ownsRow w1.heap.size 68 2 v pts.length (rowP pts) := by unfold UnpR at hu; rw [HD.out] at hu; exact hu
      obtain ⟨v, rfl, hrow⟩ := hu'
      have H2 := Aside0.mk (H1.out.trans (h2.mono H1.out.size))
      have HP := Aside0.mk (show SrcP w2.drew v pts from SrcP.of_row hrow)
      have HCV := Aside0.mk (fun W (hW : Below w.heap.size w W) => string_of_reads Try.underlying25 Try.underlying5 Try.underlying9 (c := c0) (H.out.below hW))
      have hc1 := rightL_calls v pts w2.drew HP.out (by omega)
      rw [tell_ok (fun x hx => ⟨(HG.out x hx).1, (HG.out x hx).2.1⟩) HU.out, show ((0 : Nat) : Int) = 0 from rfl] at hc1
      have HC1 := Lib.hid hc1
      clear hu h2 hrow hc1
      go_wp2_with fail
      refine start_ (n := 11) (S := fun w' => ((convert 25 9 (.slice A0 l.length c0)).run Try.prog w' = .ok (.string (strOfNums l)) w')) (ds := []) #[false, false, false, false, false, false, false, false, false, false, false] (by kernel_rfl) rfl rfl ((HCV.out _ H2.out.drew)) (fun hHeld => ?_)
      refine pure_ (i := 0) (N := some 35) (v := ?_) (a' := ?_) #[true, false, false, false, false, false, false, false, false, false, false] rfl rfl (by kernel_rfl) (fun _ _ _ h => h) (Or.inl ⟨by rfl, ?_⟩) ?_ ?_
      rotate_left
      · intro w'
        go_simp
        with_reducible rfl
      rotate_left
      · simp only [Act.put, List.setIfInBounds_toArray, List.set_cons_zero, List.set_cons_succ, i64_w, i32_w]
        rfl
      refine one_ (i := 1) (N := some 36) #[true, true, false, false, false, false, false, false, false, false, false] rfl rfl (by kernel_rfl) (by decide) (fun K hK => ?_)
      refine goes_ Try.func25 (by kernel_rfl) rfl #[v] (by rfl) rfl rfl (by simp only [List.map_toArray, List.map_cons, List.map_nil]; rfl) ?_
      with_reducible refine (HC1.out).mono ?_
      rintro e w3 ⟨rfl, h3⟩
      have H3 := Aside0.mk (H2.out.drew.trans (h3.mono H2.out.size))
      have HC2 := Lib.hid (lbytes_calls v pts w3 (HP.out.below h3) hp HG.out HU.out)
      clear h3
      refine ⟨_, rfl, ?_⟩
      refine hK.out _ _ ((HCV.out _ H3.out)) (fun hHeld => ?_)
      clear hK K
      refine norm_ (a' := ?_) ?_ ?_
      rotate_left
      · show Act.put _ (some 36) _ = _
        simp only [Act.put, List.setIfInBounds_toArray, List.set_cons_zero, List.set_cons_succ, i64_w, i32_w]
        rfl
      refine pure_ (i := 2) (N := some 37) (v := ?_) (a' := ?_) #[true, true, true, false, false, false, false, false, false, false, false] rfl rfl (by kernel_rfl) (fun _ _ _ h => h) (Or.inl ⟨by rfl, ?_⟩) ?_ ?_
      rotate_left
      · intro w'
        go_simp
        with_reducible rfl
      rotate_left
      · simp only [Act.put, List.setIfInBounds_toArray, List.set_cons_zero, List.set_cons_succ, i64_w, i32_w]
        rfl
      refine pure_ (i := 3) (N := some 38) (v := ?_) (a' := ?_) #[true, true, true, true, false, false, false, false, false, false, false] rfl rfl (by kernel_rfl) (fun _ _ _ h => h) (Or.inl ⟨by rfl, ?_⟩) ?_ ?_
      rotate_left
      · intro w'
        go_simp
        with_reducible rfl
      rotate_left
      · simp only [Act.put, List.setIfInBounds_toArray, List.set_cons_zero, List.set_cons_succ, i64_w, i32_w]
        rfl
      refine pure_ (i := 4) (N := some 39) (v := ?_) (a' := ?_) #[true, true, true, true, true, false, false, false, false, false, false] rfl rfl (by kernel_rfl) (fun _ _ _ h => h) (Or.inl ⟨by rfl, ?_⟩) ?_ ?_
      rotate_left
      · intro w'
        go_simp
        with_reducible rfl
      rotate_left
      · simp only [Act.put, List.setIfInBounds_toArray, List.set_cons_zero, List.set_cons_succ, i64_w, i32_w]
        rfl
      refine pure_ (i := 6) (N := some 41) (v := ?_) (a' := ?_) #[true, true, true, true, true, false, true, false, false, false, false] rfl rfl (by kernel_rfl) (fun _ _ _ h => h) (Or.inl ⟨by rfl, ?_⟩) ?_ ?_
      rotate_left
      · intro w'
        go_simp
        with_reducible rfl
      rotate_left
      · simp only [Act.put, List.setIfInBounds_toArray, List.set_cons_zero, List.set_cons_succ, i64_w, i32_w]
        rfl
      refine take_ (i := 7) (N := some 42) (v := ?_) (a' := ?_) #[true, true, true, true, true, false, true, true, false, false, false] rfl rfl (by kernel_rfl) (fun _ _ _ h => h) (Or.inl ⟨by rfl, ?_⟩) hHeld ?_ ?_
      rotate_left
      · rintro w' s0
        go_simp
        with_reducible rfl
      rotate_left
      · simp only [Act.put, List.setIfInBounds_toArray, List.set_cons_zero, List.set_cons_succ, i64_w, i32_w]
        rfl
      refine one_ (i := 5) (N := some 40) #[true, true, true, true, true, true, true, true, false, false, false] rfl rfl (by kernel_rfl) (by decide) (fun K hK => ?_)
      refine goes_ Try.func26 (by kernel_rfl) rfl #[v] (by rfl) rfl rfl (by simp only [List.map_toArray, List.map_cons, List.map_nil]; rfl) ?_
      with_reducible refine (HC2.out).mono ?_
      rintro e w4 ⟨rfl, h4⟩
      have H4 := Aside0.mk (H3.out.trans (h4.mono H3.out.size))
      rw [HE.out]
      clear h4
      refine ⟨_, rfl, ?_⟩
      refine hK.out _ _ ((HCV.out _ H4.out)) (fun hHeld => ?_)
      clear hK K
      refine norm_ (a' := ?_) ?_ ?_
      rotate_left
      · show Act.put _ (some 40) _ = _
        simp only [Act.put, List.setIfInBounds_toArray, List.set_cons_zero, List.set_cons_succ, i64_w, i32_w]
        rfl
      refine pure_ (i := 8) (N := some 43) (v := ?_) (a' := ?_) #[true, true, true, true, true, true, true, true, true, false, false] rfl rfl (by kernel_rfl) (fun _ _ _ h => h) (Or.inl ⟨by rfl, ?_⟩) ?_ ?_
      rotate_left
      · intro w'
        go_simp
        with_reducible rfl
      rotate_left
      · simp only [Act.put, List.setIfInBounds_toArray, List.set_cons_zero, List.set_cons_succ, i64_w, i32_w]
        rfl
      refine pure_ (i := 9) (N := some 44) (v := ?_) (a' := ?_) #[true, true, true, true, true, true, true, true, true, true, false] rfl rfl (by kernel_rfl) (fun _ _ _ h => h) (Or.inl ⟨by rfl, ?_⟩) ?_ ?_
      rotate_left
      · intro w'
        go_simp
        with_reducible rfl
      rotate_left
      · simp only [Act.put, List.setIfInBounds_toArray, List.set_cons_zero, List.set_cons_succ, i64_w, i32_w]
        rfl
      refine pure_ (i := 10) (N := some 2) (v := ?_) (a' := ?_) #[true, true, true, true, true, true, true, true, true, true, true] rfl rfl (by kernel_rfl) (fun _ _ _ h => h) (Or.inl ⟨by rfl, ?_⟩) ?_ ?_
      rotate_left
      · intro w'
        go_simp
        with_reducible rfl
      rotate_left
      · simp only [Act.put, List.setIfInBounds_toArray, List.set_cons_zero, List.set_cons_succ, i64_w, i32_w]
        rfl
      refine done_ (by kernel_rfl) ?_
      go_wp2
      go_ret
      exact ⟨rfl, H4.out⟩
  · have d0 : decide (300 < (l.length : Int)) = true := decide_eq_true (by omega)
    go_enter Try.func7, Try.ntmps7
    go_wp2_with fail
    refine (lives4_calls _).mono ?_
    rintro e w1 ⟨rfl, h1⟩
    have H1 := Aside0.mk h1
    clear h1
    go_wp2_with fail
    refine (lives4_calls _).mono ?_
    rintro e w2 ⟨rfl, h2⟩
    have H2 := Aside0.mk h2
    clear h2
    go_wp2
    go_ret
    exact ⟨rfl, H1.out.trans (H2.out.mono H1.out.size)⟩
theorem chunkUnpacks_walk (A0 : Option Addr) (len0 cap0 : Nat) (l0 : List Int) (W : World)
    (hr0 : ReadsRow (fun (p : Int) c => c = [.int .u8 p]) 1 W A0 len0 l0) (_ : len0 ≤ cap0) (hq0 : ∀ p ∈ l0, (Lit.int .u8 p).wf = true) :
    Calls Try.prog 7 #[.slice A0 len0 cap0] W fun e w' => e = .returned (.bool true) ∧ Below W.heap.size W w' := by
  have e0 := hr0.1
  subst e0
  exact unpacks_calls A0 cap0 l0 W (ints_of_row hr0) (fun x hx => wf_u8 (hq0 x hx))
end Go.Proofs.Ytfanomllfgoakaa
