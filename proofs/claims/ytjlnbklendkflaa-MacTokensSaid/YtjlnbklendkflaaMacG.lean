/- The law MacSame, walked. -/
import Derived.Test.YtjlnbklendkflaaMacF
import Derived.Test.YtjlnbklendkflaaHashI
import Derived.Lib.Hide
import Derived.LoopTactic
import Derived.Outline
import Derived.Laws.Rows
import Derived.Laws.CopyOwn
import Derived.WalkKit
set_option linter.unusedVariables false
set_option linter.unusedSimpArgs false
namespace Go.Proofs.Ytjlnbklendkflaa
open Go.RowKit Go.Proofs.YtjlnbklendkflaaW.PrintWords Go.Proofs.YtjlnbklendkflaaW.PrintLast Go.Proofs.YtjlnbklendkflaaW.PrintMore
open Go.Proofs.Ytjlnbklendkflaa.PHashSums


theorem src_string {w : World} {A : Option Addr} {c : Nat} {l : List Int} (h : SrcB w (.slice A l.length c) l) :
    Sem.run Try.prog (convert 22 9 (.slice A l.length c)) w = .ok (.string (strOfNums l)) w := by
  rcases h with ⟨c', e, h0⟩ | ⟨ad, c', e, hc⟩
  · subst h0
    injection e with e1 e2 e3
    subst e1
    exact run_convert_bytes_nil w 22 5 Try.underlying22 Try.underlying5 0 c 9 Try.underlying9
  · injection e with e1 e2 e3
    subst e1
    have hl : (loadCells ad l.length).run Try.prog w = .ok (l.map (Value.int .u8)).toArray w := by
      have := run_loadCells_list (P := Try.prog) w ad (l.map (Value.int .u8)) (fun j v hj => by
        rw [List.getElem?_map] at hj
        obtain ⟨x, hx, rfl⟩ := Option.map_eq_some_iff.1 hj
        exact hc j x hx)
      simpa using this
    rw [run_convert_bytes_string w 22 9 5 _ l.length c Try.underlying22 Try.underlying5 Try.underlying9, run_bytesToString w _ l.length c l hl, foldl_push_bytes]
    simp [strOfNums, ByteArray.empty, ByteArray.emptyWithCapacity]
    rfl
theorem strOfNums_inj {a b : List Int} (ha : ∀ x ∈ a, 0 ≤ x ∧ x ≤ 255) (hb : ∀ x ∈ b, 0 ≤ x ∧ x ≤ 255) (h : strOfNums a = strOfNums b) : a = b := by
  rw [← bytesOf_str a ha, ← bytesOf_str b hb, h]
set_option maxRecDepth 100000 in
set_option maxHeartbeats 8000000 in
theorem same_main (A B : Option Addr) (ca cb : Nat) (a b : List Int) (w : World) (ha : SrcB w (.slice A a.length ca) a) (hb : SrcB w (.slice B b.length cb) b) (hla : a.length ≤ 300) (hlb : b.length ≤ 300) (hwa : ∀ x ∈ a, 0 ≤ x ∧ x ≤ 255) (hwb : ∀ x ∈ b, 0 ≤ x ∧ x ≤ 255) :
    Calls Try.prog 9 #[.slice A a.length ca, .slice B b.length cb] w fun e w' => e = .returned (.bool true) ∧ Below w.heap.size w w' := by
  have HA := Aside0.mk ha
  have HB := Aside0.mk hb
  obtain ⟨sa, hsa⟩ : ∃ s, s = strOfNums a := ⟨_, rfl⟩
  obtain ⟨sb, hsb⟩ : ∃ s, s = strOfNums b := ⟨_, rfl⟩
  have HST := Aside0.mk (show ∀ {w'}, SrcB w' (.slice A a.length ca) a → Sem.run Try.prog (convert 22 9 (.slice A a.length ca)) w' = .ok (.string sa) w' from fun h => hsa ▸ src_string h)
  have HTT := Aside0.mk (show ∀ {w'}, SrcB w' (.slice B b.length cb) b → Sem.run Try.prog (convert 22 9 (.slice B b.length cb)) w' = .ok (.string sb) w' from fun h => hsb ▸ src_string h)
  obtain ⟨p, hp⟩ : ∃ p, p = decide (a = b) := ⟨_, rfl⟩
  have heq : (sa.toList == sb.toList) = p := by
    have h : sa = sb ↔ a = b := by
      subst hsa hsb
      exact ⟨strOfNums_inj hwa hwb, fun h => by rw [h]⟩
    rw [hp]
    by_cases h1 : a = b
    · rw [decide_eq_true h1, h.2 h1]; simp
    · rw [decide_eq_false h1]
      have h2 : sa.toList ≠ sb.toList := fun e => h1 (h.1 (by
        rw [ByteArray.toList_eq, ByteArray.toList_eq] at e
        exact ByteArray.ext (Array.toList_inj.1 e)))
      simpa using h2
  have HC1 := (fun (W : World) (h1 : SrcB W (.slice A a.length ca) a) (h2 : SrcB W (.slice B b.length cb) b) => same_calls A B ca cb a b W h1 h2 (by omega) (by omega) (fun x hx => by have := hwa x hx; omega) (fun x hx => by have := hwb x hx; omega))
  rw [← hp] at HC1
  have HC2 := (fun (W : World) (h1 : SrcB W (.slice A a.length ca) a) => same_calls A A ca ca a a W h1 h1 (by omega) (by omega) (fun x hx => by have := hwa x hx; omega) (fun x hx => by have := hwa x hx; omega))
  have htt : decide (a = a) = true := decide_eq_true rfl
  rw [htt] at HC2
  have HC1 := Lib.hid HC1
  have HC2 := Lib.hid HC2
  clear ha hb hsa hsb hp hwa hwb htt
  have d1 : decide (300 < (a.length : Int)) = false := decide_eq_false (by omega)
  have d2 : decide (300 < (b.length : Int)) = false := decide_eq_false (by omega)
  go_enter Try.func9, Try.ntmps9
  go_wp2_with fail
  refine (lives6_calls _).mono ?_
  rintro e w1 ⟨rfl, h1⟩
  have H1 := Aside0.mk h1
  clear h1
  go_wp2_with fail
  have HA1 := Aside0.mk ((HA.out.below H1.out).below (Below.refl _ _ |>.drew))
  have HB1 := Aside0.mk ((HB.out.below H1.out).below (Below.refl _ _ |>.drew))
  have H1 := Aside0.mk H1.out.drew
  clear HA HB hla hlb
  refine start_ (n := 15) (S := fun w' => (SrcB w' (.slice A a.length ca) a) ∧ (SrcB w' (.slice B b.length cb) b) ∧ (Sem.run Try.prog (convert 22 9 (.slice A a.length ca)) w' = .ok (.string sa) w') ∧ (Sem.run Try.prog (convert 22 9 (.slice B b.length cb)) w' = .ok (.string sb) w')) (ds := []) #[false, false, false, false, false, false, false, false, false, false, false, false, false, false, false] (by kernel_rfl) rfl rfl ⟨HA1.out, HB1.out, (HST.out HA1.out), (HTT.out HB1.out)⟩ (fun hHeld => ?_)
  refine pure_ (i := 0) (N := some 18) (v := ?_) (a' := ?_) #[true, false, false, false, false, false, false, false, false, false, false, false, false, false, false] rfl rfl (by kernel_rfl) (fun _ _ _ h => h) (Or.inl ⟨by rfl, ?_⟩) ?_ ?_
  rotate_left
  · intro w'
    go_simp
    with_reducible rfl
  rotate_left
  · simp only [Act.put, List.setIfInBounds_toArray, List.set_cons_zero, List.set_cons_succ, i64_w, i32_w]
    rfl
  refine pure_ (i := 1) (N := some 19) (v := ?_) (a' := ?_) #[true, true, false, false, false, false, false, false, false, false, false, false, false, false, false] rfl rfl (by kernel_rfl) (fun _ _ _ h => h) (Or.inl ⟨by rfl, ?_⟩) ?_ ?_
  rotate_left
  · intro w'
    go_simp
    with_reducible rfl
  rotate_left
  · simp only [Act.put, List.setIfInBounds_toArray, List.set_cons_zero, List.set_cons_succ, i64_w, i32_w]
    rfl
  refine pure_ (i := 3) (N := some 21) (v := ?_) (a' := ?_) #[true, true, false, true, false, false, false, false, false, false, false, false, false, false, false] rfl rfl (by kernel_rfl) (fun _ _ _ h => h) (Or.inl ⟨by rfl, ?_⟩) ?_ ?_
  rotate_left
  · intro w'
    go_simp
    with_reducible rfl
  rotate_left
  · simp only [Act.put, List.setIfInBounds_toArray, List.set_cons_zero, List.set_cons_succ, i64_w, i32_w]
    rfl
  refine pure_ (i := 5) (N := some 23) (v := ?_) (a' := ?_) #[true, true, false, true, false, true, false, false, false, false, false, false, false, false, false] rfl rfl (by kernel_rfl) (fun _ _ _ h => h) (Or.inl ⟨by rfl, ?_⟩) ?_ ?_
  rotate_left
  · intro w'
    go_simp
    with_reducible rfl
  rotate_left
  · simp only [Act.put, List.setIfInBounds_toArray, List.set_cons_zero, List.set_cons_succ, i64_w, i32_w]
    rfl
  refine take_ (i := 4) (N := some 22) (v := ?_) (a' := ?_) #[true, true, false, true, true, true, false, false, false, false, false, false, false, false, false] rfl rfl (by kernel_rfl) (fun _ _ _ h => h) (Or.inl ⟨by rfl, ?_⟩) hHeld ?_ ?_
  rotate_left
  · rintro w' ⟨s0, s1, s2, s3⟩
    go_simp
    with_reducible rfl
  rotate_left
  · simp only [Act.put, List.setIfInBounds_toArray, List.set_cons_zero, List.set_cons_succ, i64_w, i32_w]
    rfl
  refine take_ (i := 6) (N := some 24) (v := ?_) (a' := ?_) #[true, true, false, true, true, true, true, false, false, false, false, false, false, false, false] rfl rfl (by kernel_rfl) (fun _ _ _ h => h) (Or.inl ⟨by rfl, ?_⟩) hHeld ?_ ?_
  rotate_left
  · rintro w' ⟨s0, s1, s2, s3⟩
    go_simp
    with_reducible rfl
  rotate_left
  · simp only [Act.put, List.setIfInBounds_toArray, List.set_cons_zero, List.set_cons_succ, i64_w, i32_w]
    rfl
  refine pure_ (i := 7) (N := some 25) (v := ?_) (a' := ?_) #[true, true, false, true, true, true, true, true, false, false, false, false, false, false, false] rfl rfl (by kernel_rfl) (fun _ _ _ h => h) (Or.inl ⟨by rfl, ?_⟩) ?_ ?_
  rotate_left
  · intro w'
    go_simp
    with_reducible rfl
  rotate_left
  · simp only [Act.put, List.setIfInBounds_toArray, List.set_cons_zero, List.set_cons_succ, i64_w, i32_w]
    rfl
  refine one_ (i := 2) (N := some 20) #[true, true, true, true, true, true, true, true, false, false, false, false, false, false, false] rfl rfl (by kernel_rfl) (by decide) (fun K hK => ?_)
  refine goes_ Try.func22 (by kernel_rfl) rfl #[.slice A a.length ca, .slice B b.length cb] (by rfl) rfl rfl (by simp only [List.map_toArray, List.map_cons, List.map_nil]; rfl) ?_
  with_reducible refine ((HC1.out _ hHeld.1 hHeld.2.1)).mono ?_
  rintro e w3 ⟨rfl, h3⟩
  have H2 := Aside0.mk (H1.out.trans (h3.mono H1.out.size))
  have k0 := hHeld.1.below h3
  have k1 := hHeld.2.1.below h3
  clear h3
  refine ⟨_, rfl, ?_⟩
  refine hK.out _ _ ⟨k0, k1, HST.out k0, HTT.out k1⟩ (fun hHeld => ?_)
  clear hK K
  refine norm_ (a' := ?_) ?_ ?_
  rotate_left
  · show Act.put _ (some 20) _ = _
    simp only [Act.put, List.setIfInBounds_toArray, List.set_cons_zero, List.set_cons_succ, i64_w, i32_w]
    rfl
  refine pure_ (i := 8) (N := some 26) (v := ?_) (a' := ?_) #[true, true, true, true, true, true, true, true, true, false, false, false, false, false, false] rfl rfl (by kernel_rfl) (fun _ _ _ h => h) (Or.inl ⟨by rfl, ?_⟩) ?_ ?_
  rotate_left
  · intro w'
    go_simp
    with_reducible rfl
  rotate_left
  · simp only [Act.put, List.setIfInBounds_toArray, List.set_cons_zero, List.set_cons_succ, i64_w, i32_w]
    rfl
  refine pure_ (i := 9) (N := some 27) (v := ?_) (a' := ?_) #[true, true, true, true, true, true, true, true, true, true, false, false, false, false, false] rfl rfl (by kernel_rfl) (fun _ _ _ h => h) (Or.inl ⟨by rfl, ?_⟩) ?_ ?_
  rotate_left
  · intro w'
    go_simp
    with_reducible rfl
  rotate_left
  · simp only [Act.put, List.setIfInBounds_toArray, List.set_cons_zero, List.set_cons_succ, i64_w, i32_w]
    rfl
  refine pure_ (i := 10) (N := some 28) (v := ?_) (a' := ?_) #[true, true, true, true, true, true, true, true, true, true, true, false, false, false, false] rfl rfl (by kernel_rfl) (fun _ _ _ h => h) (Or.inl ⟨by rfl, ?_⟩) ?_ ?_
  rotate_left
  · intro w'
    go_simp
    with_reducible rfl
  rotate_left
  · simp only [Act.put, List.setIfInBounds_toArray, List.set_cons_zero, List.set_cons_succ, i64_w, i32_w]
    rfl
  refine pure_ (i := 11) (N := some 29) (v := ?_) (a' := ?_) #[true, true, true, true, true, true, true, true, true, true, true, true, false, false, false] rfl rfl (by kernel_rfl) (fun _ _ _ h => h) (Or.inl ⟨by rfl, ?_⟩) ?_ ?_
  rotate_left
  · intro w'
    go_simp
    with_reducible rfl
  rotate_left
  · simp only [Act.put, List.setIfInBounds_toArray, List.set_cons_zero, List.set_cons_succ, i64_w, i32_w]
    rfl
  refine one_ (i := 12) (N := some 30) #[true, true, true, true, true, true, true, true, true, true, true, true, true, false, false] rfl rfl (by kernel_rfl) (by decide) (fun K hK => ?_)
  refine goes_ Try.func22 (by kernel_rfl) rfl #[.slice A a.length ca, .slice A a.length ca] (by rfl) rfl rfl (by simp only [List.map_toArray, List.map_cons, List.map_nil]; rfl) ?_
  with_reducible refine ((HC2.out _ hHeld.1)).mono ?_
  rintro e w4 ⟨rfl, h4⟩
  have H3 := Aside0.mk (H2.out.trans (h4.mono H2.out.size))
  have m0 := hHeld.1.below h4
  have m1 := hHeld.2.1.below h4
  clear h4
  refine ⟨_, rfl, ?_⟩
  refine hK.out _ _ ⟨m0, m1, HST.out m0, HTT.out m1⟩ (fun hHeld => ?_)
  clear hK K
  refine norm_ (a' := ?_) ?_ ?_
  rotate_left
  · show Act.put _ (some 30) _ = _
    simp only [Act.put, List.setIfInBounds_toArray, List.set_cons_zero, List.set_cons_succ, i64_w, i32_w]
    rfl
  refine pure_ (i := 13) (N := some 31) (v := ?_) (a' := ?_) #[true, true, true, true, true, true, true, true, true, true, true, true, true, true, false] rfl rfl (by kernel_rfl) (fun _ _ _ h => h) (Or.inl ⟨by rfl, ?_⟩) ?_ ?_
  rotate_left
  · intro w'
    go_simp
    with_reducible rfl
  rotate_left
  · simp only [Act.put, List.setIfInBounds_toArray, List.set_cons_zero, List.set_cons_succ, i64_w, i32_w]
    rfl
  refine pure_ (i := 14) (N := some 4) (v := ?_) (a' := ?_) #[true, true, true, true, true, true, true, true, true, true, true, true, true, true, true] rfl rfl (by kernel_rfl) (fun _ _ _ h => h) (Or.inl ⟨by rfl, ?_⟩) ?_ ?_
  rotate_left
  · intro w'
    go_simp
    with_reducible rfl
  rotate_left
  · simp only [Act.put, List.setIfInBounds_toArray, List.set_cons_zero, List.set_cons_succ, i64_w, i32_w]
    rfl
  refine done_ (by kernel_rfl) ?_
  go_wp2
  go_ret
  exact ⟨rfl, H3.out⟩
set_option maxRecDepth 100000 in
set_option maxHeartbeats 8000000 in
theorem macsame_calls (A B : Option Addr) (ca cb : Nat) (a b : List Int) (w : World) (ha : SrcB w (.slice A a.length ca) a) (hb : SrcB w (.slice B b.length cb) b) (hma : a.length ≤ 9223372036854775807) (hmb : b.length ≤ 9223372036854775807) (hwa : ∀ x ∈ a, 0 ≤ x ∧ x ≤ 255) (hwb : ∀ x ∈ b, 0 ≤ x ∧ x ≤ 255) :
    Calls Try.prog 9 #[.slice A a.length ca, .slice B b.length cb] w fun e w' => e = .returned (.bool true) ∧ Below w.heap.size w w' := by
  by_cases hla : a.length ≤ 300
  · by_cases hlb : b.length ≤ 300
    · exact same_main A B ca cb a b w ha hb hla hlb hwa hwb
    · have d1 : decide (300 < (a.length : Int)) = false := decide_eq_false (by omega)
      have d2 : decide (300 < (b.length : Int)) = true := decide_eq_true (by omega)
      clear ha hb hwa hwb
      go_enter Try.func9, Try.ntmps9
      go_wp2_with fail
      refine (lives6_calls _).mono ?_
      rintro e w1 ⟨rfl, h1⟩
      have H1 := Aside0.mk h1
      clear h1
      go_wp2_with fail
      refine (lives6_calls _).mono ?_
      rintro e w2 ⟨rfl, h2⟩
      have H2 := Aside0.mk (H1.out.trans (h2.mono H1.out.size))
      clear h2
      go_wp2
      go_ret
      exact ⟨rfl, H2.out⟩
  · have d1 : decide (300 < (a.length : Int)) = true := decide_eq_true (by omega)
    clear ha hb hwa hwb
    go_enter Try.func9, Try.ntmps9
    go_wp2_with fail
    refine (lives6_calls _).mono ?_
    rintro e w1 ⟨rfl, h1⟩
    have H1 := Aside0.mk h1
    clear h1
    go_wp2_with fail
    refine (lives6_calls _).mono ?_
    rintro e w2 ⟨rfl, h2⟩
    have H2 := Aside0.mk (H1.out.trans (h2.mono H1.out.size))
    clear h2
    go_wp2
    go_ret
    exact ⟨rfl, H2.out⟩
theorem macSame_walk (A0 : Option Addr) (len0 cap0 : Nat) (l0 : List Int) (A1 : Option Addr) (len1 cap1 : Nat) (l1 : List Int) (W : World)
    (hr0 : ReadsRow (fun (p : Int) c => c = [.int .u8 p]) 1 W A0 len0 l0) (hc0 : len0 ≤ cap0) (hq0 : ∀ x ∈ l0, (Lit.int .u8 x).wf = true) (hr1 : ReadsRow (fun (p : Int) c => c = [.int .u8 p]) 1 W A1 len1 l1) (hc1 : len1 ≤ cap1) (hq1 : ∀ x ∈ l1, (Lit.int .u8 x).wf = true) :
    Calls Try.prog 9 #[.slice A0 len0 cap0, .slice A1 len1 cap1] W fun e w' => e = .returned (.bool true) ∧ Below W.heap.size W w' := by
  have e0 := hr0.1
  have e1 := hr1.1
  subst e0
  subst e1
  exact macsame_calls A0 A1 cap0 cap1 l0 l1 W (src_of (ints_of_row hr0)) (src_of (ints_of_row hr1)) hr0.2.1 hr1.2.1 (fun x hx => wf_u8 (hq0 x hx)) (fun x hx => wf_u8 (hq1 x hx))
end Go.Proofs.Ytjlnbklendkflaa
