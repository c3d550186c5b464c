/- The law MacCodes, walked. -/
import Derived.Test.YtjlnbklendkflaaRefE
import Derived.Test.YtjlnbklendkflaaMacG
import Derived.Lib.Hide
import Derived.LoopTactic
import Derived.Outline
import Derived.Laws.Rows
import Derived.Laws.CopyOwn
import Derived.WalkKit
set_option linter.unusedVariables false
set_option linter.unusedSimpArgs false
namespace Go.Proofs.Ytjlnbklendkflaa
open Go.RowKit Go.Proofs.YtjlnbklendkflaaW.PrintWords Go.Proofs.YtjlnbklendkflaaW.PrintLast Go.Proofs.YtjlnbklendkflaaW.PrintMore
open Go.Proofs.Ytjlnbklendkflaa.PHashSums


set_option maxRecDepth 100000 in
set_option maxHeartbeats 8000000 in
theorem codes_main (A : Option Addr) (ca : Nat) (key : List Int) (B : Option Addr) (cb : Nat) (b : List Int) (w : World) (ha : SrcB w (.slice A key.length ca) key) (hb : SrcB w (.slice B b.length cb) b) (hla : key.length ≤ 200) (hlb : b.length ≤ 200) (hra : ∀ x ∈ key, 0 ≤ x ∧ x ≤ 255) (hrb : ∀ x ∈ b, 0 ≤ x ∧ x ≤ 255) :
    Calls Try.prog 6 #[.slice A key.length ca, .slice B b.length cb] w fun e w' => e = .returned (.bool true) ∧ Below w.heap.size w w' := by
  have HA := Aside0.mk ha
  have HB := Aside0.mk hb
  obtain ⟨ds, hds⟩ : ∃ ds, ds = codeOf key b := ⟨_, rfl⟩
  have HC1 := fun W (h1 : SrcB W (.slice A key.length ca) key) (h2 : SrcB W (.slice B b.length cb) b) => code_calls A ca key (.slice B b.length cb) b W h1 h2 (by omega) (by omega)
  have HC2 := fun W (h1 : SrcB W (.slice A key.length ca) key) (h2 : SrcB W (.slice B b.length cb) b) => refcode_calls A ca key B cb b W h1 h2 (by omega) (by omega) hra hrb
  rw [← hds] at HC1 HC2
  have HC1 := Lib.hid HC1
  have HC2 := Lib.hid HC2
  have HDL := Aside0.mk (show ds.length = 32 by rw [hds, codeOf_length])
  have HZ := Aside0.mk (show (bytesA ds).size = 32 by rw [bytesA_size, hds, codeOf_length])
  obtain ⟨s, hs⟩ : ∃ s, s = strOfNums ds := ⟨_, rfl⟩
  have HST := Aside0.mk (show ∀ {w' : World} {g : Nat} {t : TypeId}, w'.heap[g]? = some (.cells (bytesA ds) t (0, 0)) → Sem.run Try.prog (convert 22 9 (.slice (some ⟨g, 0, none⟩) 32 32)) w' = .ok (.string s) w' from fun {w' g t} h => by
    have h1 := arr_src h 32
    have h2 := src_string h1
    rw [HDL.out, ← hs] at h2
    exact h2)
  have hinfo : (Try.prog.info? 24).map (·.size) = some 32 := by kernel_rfl
  have hinfo2 : (Try.prog.info? 25).map (·.size) = some 32 := by kernel_rfl
  have HIN := Aside0.mk hinfo
  have HIN2 := Aside0.mk hinfo2
  have d1 : decide (200 < (key.length : Int)) = false := decide_eq_false (by omega)
  have d2 : decide (200 < (b.length : Int)) = false := decide_eq_false (by omega)
  clear ha hb hra hrb hds hs hinfo hinfo2 hla hlb
  go_enter Try.func6, Try.ntmps6
  go_wp2_with fail
  refine (lives6_calls _).mono ?_
  rintro e w1 ⟨rfl, h1⟩
  have H1 := Aside0.mk h1
  clear h1
  go_wp2_with fail
  refine (HC1.out _ (HA.out.below H1.out) (HB.out.below H1.out)).mono ?_
  rintro e w2 ⟨rfl, h2⟩
  have H2 := Aside0.mk (H1.out.trans (h2.mono H1.out.size))
  clear h2
  go_wp2_with (refine store_new rfl 25 (.tmp 5) (.tmp 22) rfl w2 _ (bytesA ds) 25 rfl rfl (by rw [HZ.out]; exact HIN2.out) (by rw [HZ.out]; rfl) (bytesA_one ds) ?_; intro w3 hb3 hg3 hz3; have H3 := Aside0.mk (H2.out.trans (hb3.mono H2.out.size)); have HG3 := Aside0.mk hg3; clear hb3 hg3 hz3)
  refine (HC2.out _ (HA.out.below H3.out) (HB.out.below H3.out)).mono ?_
  rintro e w4 ⟨rfl, h4⟩
  have H4 := Aside0.mk (H3.out.trans (h4.mono H3.out.size))
  have HG4 := Aside0.mk ((h4.block _ (blk_lt HG3.out)).trans HG3.out)
  clear h4
  go_wp2_with (refine store_new rfl 24 (.tmp 6) (.tmp 25) rfl w4 _ (bytesA ds) 24 rfl rfl (by rw [HZ.out]; exact HIN.out) (by rw [HZ.out]; rfl) (bytesA_one ds) ?_; intro w5 hb5 hg5 hz5; have H5 := Aside0.mk (H4.out.trans (hb5.mono H4.out.size)); have HG5 := Aside0.mk hg5; have HG45 := Aside0.mk ((hb5.block _ (blk_lt HG4.out)).trans HG4.out); clear hb5 hg5 hz5)
  have H6 := Aside0.mk H5.out.drew
  refine start_ (n := 6) (S := fun w' => (Sem.run Try.prog (convert 22 9 (.slice (some ⟨w2.heap.size, 0, none⟩) 32 32)) w' = .ok (.string s) w') ∧ (Sem.run Try.prog (convert 22 9 (.slice (some ⟨w4.heap.size, 0, none⟩) 32 32)) w' = .ok (.string s) w')) (ds := []) #[false, false, false, false, false, false] (by kernel_rfl) rfl rfl ⟨(HST.out (w' := w5.drew) HG45.out), (HST.out (w' := w5.drew) HG5.out)⟩ (fun hHeld => ?_)
  refine pure_ (i := 0) (N := some 26) (v := ?_) (a' := ?_) #[true, false, false, false, false, false] rfl rfl (by kernel_rfl) (fun _ _ _ h => h) (Or.inl ⟨by rfl, ?_⟩) ?_ ?_
  rotate_left
  · intro w'
    go_simp
    with_reducible rfl
  rotate_left
  · simp only [Act.put, List.setIfInBounds_toArray, List.set_cons_zero, List.set_cons_succ, i64_w, i32_w]
    rfl
  refine pure_ (i := 2) (N := some 28) (v := ?_) (a' := ?_) #[true, false, true, false, false, false] rfl rfl (by kernel_rfl) (fun _ _ _ h => h) (Or.inl ⟨by rfl, ?_⟩) ?_ ?_
  rotate_left
  · intro w'
    go_simp
    with_reducible rfl
  rotate_left
  · simp only [Act.put, List.setIfInBounds_toArray, List.set_cons_zero, List.set_cons_succ, i64_w, i32_w]
    rfl
  refine take_ (i := 1) (N := some 27) (v := ?_) (a' := ?_) #[true, true, true, false, false, false] rfl rfl (by kernel_rfl) (fun _ _ _ h => h) (Or.inl ⟨by rfl, ?_⟩) hHeld ?_ ?_
  rotate_left
  · rintro w' ⟨s0, s1⟩
    go_simp
    with_reducible rfl
  rotate_left
  · simp only [Act.put, List.setIfInBounds_toArray, List.set_cons_zero, List.set_cons_succ, i64_w, i32_w]
    rfl
  refine take_ (i := 3) (N := some 29) (v := ?_) (a' := ?_) #[true, true, true, true, false, false] rfl rfl (by kernel_rfl) (fun _ _ _ h => h) (Or.inl ⟨by rfl, ?_⟩) hHeld ?_ ?_
  rotate_left
  · rintro w' ⟨s0, s1⟩
    go_simp
    with_reducible rfl
  rotate_left
  · simp only [Act.put, List.setIfInBounds_toArray, List.set_cons_zero, List.set_cons_succ, i64_w, i32_w]
    rfl
  refine pure_ (i := 4) (N := some 30) (v := ?_) (a' := ?_) #[true, true, true, true, true, false] rfl rfl (by kernel_rfl) (fun _ _ _ h => h) (Or.inl ⟨by rfl, ?_⟩) ?_ ?_
  rotate_left
  · intro w'
    go_simp
    with_reducible rfl
  rotate_left
  · simp only [Act.put, List.setIfInBounds_toArray, List.set_cons_zero, List.set_cons_succ, i64_w, i32_w]
    rfl
  refine pure_ (i := 5) (N := some 4) (v := ?_) (a' := ?_) #[true, true, true, true, true, true] rfl rfl (by kernel_rfl) (fun _ _ _ h => h) (Or.inl ⟨by rfl, ?_⟩) ?_ ?_
  rotate_left
  · intro w'
    go_simp
    with_reducible rfl
  rotate_left
  · simp only [Act.put, List.setIfInBounds_toArray, List.set_cons_zero, List.set_cons_succ, i64_w, i32_w]
    rfl
  refine done_ (by kernel_rfl) ?_
  go_wp2
  go_ret
  exact ⟨by simp, H6.out⟩
set_option maxRecDepth 100000 in
set_option maxHeartbeats 8000000 in
theorem maccodes_calls (A : Option Addr) (ca : Nat) (key : List Int) (B : Option Addr) (cb : Nat) (b : List Int) (w : World) (ha : SrcB w (.slice A key.length ca) key) (hb : SrcB w (.slice B b.length cb) b) (hma : key.length ≤ 9223372036854775807) (hmb : b.length ≤ 9223372036854775807) (hra : ∀ x ∈ key, 0 ≤ x ∧ x ≤ 255) (hrb : ∀ x ∈ b, 0 ≤ x ∧ x ≤ 255) :
    Calls Try.prog 6 #[.slice A key.length ca, .slice B b.length cb] w fun e w' => e = .returned (.bool true) ∧ Below w.heap.size w w' := by
  by_cases hla : key.length ≤ 200
  · by_cases hlb : b.length ≤ 200
    · exact codes_main A ca key B cb b w ha hb hla hlb hra hrb
    · have d1 : decide (200 < (key.length : Int)) = false := decide_eq_false (by omega)
      have d2 : decide (200 < (b.length : Int)) = true := decide_eq_true (by omega)
      clear ha hb hra hrb
      go_enter Try.func6, Try.ntmps6
      go_wp2_with fail
      refine (lives6_calls _).mono ?_
      rintro e w1 ⟨rfl, h1⟩
      have H1 := Aside0.mk h1
      clear h1
      go_wp2_with fail
      refine (lives6_calls _).mono ?_
      rintro e w2 ⟨rfl, h2⟩
      have H2 := Aside0.mk (H1.out.trans (h2.mono H1.out.size))
      clear h2
      go_wp2
      go_ret
      exact ⟨rfl, H2.out⟩
  · have d1 : decide (200 < (key.length : Int)) = true := decide_eq_true (by omega)
    clear ha hb hra hrb
    go_enter Try.func6, Try.ntmps6
    go_wp2_with fail
    refine (lives6_calls _).mono ?_
    rintro e w1 ⟨rfl, h1⟩
    have H1 := Aside0.mk h1
    clear h1
    go_wp2_with fail
    refine (lives6_calls _).mono ?_
    rintro e w2 ⟨rfl, h2⟩
    have H2 := Aside0.mk (H1.out.trans (h2.mono H1.out.size))
    clear h2
    go_wp2
    go_ret
    exact ⟨rfl, H2.out⟩
theorem macCodes_walk (A0 : Option Addr) (len0 cap0 : Nat) (l0 : List Int) (A1 : Option Addr) (len1 cap1 : Nat) (l1 : List Int) (W : World)
    (hr0 : ReadsRow (fun (p : Int) c => c = [.int .u8 p]) 1 W A0 len0 l0) (hc0 : len0 ≤ cap0) (hq0 : ∀ x ∈ l0, (Lit.int .u8 x).wf = true) (hr1 : ReadsRow (fun (p : Int) c => c = [.int .u8 p]) 1 W A1 len1 l1) (hc1 : len1 ≤ cap1) (hq1 : ∀ x ∈ l1, (Lit.int .u8 x).wf = true) :
    Calls Try.prog 6 #[.slice A0 len0 cap0, .slice A1 len1 cap1] W fun e w' => e = .returned (.bool true) ∧ Below W.heap.size W w' := by
  have e0 := hr0.1
  have e1 := hr1.1
  subst e0
  subst e1
  exact maccodes_calls A0 cap0 l0 A1 cap1 l1 W (src_of (ints_of_row hr0)) (src_of (ints_of_row hr1)) hr0.2.1 hr1.2.1 (fun x hx => wf_u8 (hq0 x hx)) (fun x hx => wf_u8 (hq1 x hx))
end Go.Proofs.Ytjlnbklendkflaa
