/- The law MacTokens, walked. -/
import Derived.Test.YtjlnbklendkflaaRefE
import Derived.Test.YtjlnbklendkflaaMacI
import Derived.Lib.Hide
import Derived.LoopTactic
import Derived.Outline
import Derived.Laws.Rows
import Derived.Laws.CopyOwn
import Derived.WalkKit
set_option linter.unusedVariables false
set_option linter.unusedSimpArgs false
namespace Go.Proofs.Ytjlnbklendkflaa
open Go.RowKit Go.Proofs.YtjlnbklendkflaaW.PrintWords Go.Proofs.YtjlnbklendkflaaW.PrintLast Go.Proofs.YtjlnbklendkflaaW.PrintMore
open Go.Proofs.Ytjlnbklendkflaa.PHashSums


theorem strOfNums_append (a b : List Int) : strOfNums (a ++ b) = strOfNums a ++ strOfNums b := by
  apply ByteArray.ext
  apply Array.toList_inj.1
  rw [ByteArray.data_append, Array.toList_append, strOfNums_data, strOfNums_data, strOfNums_data, List.map_append]
theorem sign_str : ∀ a, a < 16 → (⟨#[48, 49, 50, 51, 52, 53, 54, 55, 56, 57, 97, 98, 99, 100, 101, 102]⟩ : ByteArray).extract a (a + 1) = strOfNums [bt tbl ((a : Nat) : Int)] := by decide +kernel
theorem str_of_bytes (s : ByteArray) : strOfNums (bytesOf s) = s := by
  apply ByteArray.ext
  apply Array.toList_inj.1
  rw [strOfNums_data]
  unfold bytesOf
  rw [List.map_map]
  conv => rhs; rw [← List.map_id s.data.toList]
  apply List.map_congr_left
  intro x _
  simp
set_option maxRecDepth 100000 in
set_option maxHeartbeats 8000000 in
theorem toks_main (A : Option Addr) (ca : Nat) (key : List Int) (name other : ByteArray) (w : World) (ha : SrcB w (.slice A key.length ca) key) (hla : key.length ≤ 100) (hls : name.size ≤ 100) (hlo : other.size ≤ 200) (hra : ∀ x ∈ key, 0 ≤ x ∧ x ≤ 255) :
    Calls Try.prog 7 #[.slice A key.length ca, .string name, .string other] w fun e w' => e = .returned (.bool true) ∧ Below w.heap.size w w' := by
  have HA := Aside0.mk ha
  obtain ⟨tl, htl⟩ : ∃ tl, tl = tokenOf key (bytesOf name) := ⟨_, rfl⟩
  obtain ⟨t, ht⟩ : ∃ t, t = strOfNums tl := ⟨_, rfl⟩
  have hlen : tl.length = name.size + 33 := by rw [htl, tokenOf_len, bytesOf_length]
  have htb : bytesOf t = tl := by rw [ht]; exact bytesOf_str _ (by rw [htl]; exact tokenOf_range _ _)
  have hts : t.size = name.size + 33 := by rw [← bytesOf_length t, htb, hlen]
  obtain ⟨ds, hds⟩ : ∃ ds, ds = codeOf key (bytesOf name) := ⟨_, rfl⟩
  have kb := fun W => print_bytes (P := Try.prog) 9 22 5 Try.underlying9 Try.underlying22 Try.underlying5 name W
  have hc1 := fun W (h : SrcB W (.slice A key.length ca) key) => token_calls A ca key name W h (by omega) (by omega)
  have hc2 := fun W (h1 : SrcB (Lib.bytesWorld W 5 name) (.slice A key.length ca) key) => refcode_calls A ca key (some ⟨W.heap.size, 0, none⟩) (grownCap W name.size 0 5) (bytesOf name) (Lib.bytesWorld W 5 name) h1 (by rw [bytesOf_length]; exact src_bytes W name _) (by omega) (by rw [bytesOf_length]; omega) hra (bytesOf_range name)
  rw [← htl, ← ht] at hc1
  rw [← hds, bytesOf_length] at hc2
  have HC1 := Lib.hid hc1
  have HC2 := Lib.hid hc2
  have HDL := Aside0.mk (show ds.length = 32 by rw [hds, codeOf_length])
  have HZ := Aside0.mk (show (bytesA ds).size = 32 by rw [bytesA_size, hds, codeOf_length])
  have HTL := Aside0.mk (show tl = bytesOf name ++ [46] ++ hexs (ds.take 16) by rw [htl, hds]; rfl)
  have hlast := last_of (l := tl) (k := name.size) (by rw [htl]; exact tokenOf_range _ _) (by have := tok_dot key (bytesOf name); rw [bytesOf_length] at this; rw [htl]; exact this) (fun j x hj h => tok_behind key (bytesOf name) j (by rw [bytesOf_length]; exact hj) x (htl ▸ h))
  have hpre := str_prefix (l := tl) (k := name.size) (s := name) (by have := tok_take key (bytesOf name); rw [bytesOf_length] at this; rw [htl]; exact this) (by omega)
  rw [← ht] at hlast hpre
  have hchk := fun W (h : SrcB W (.slice A key.length ca) key) => check_hit A ca key t name.size W h (by omega) (by omega) hlast (by omega) (by rw [hpre, htb]; exact htl)
  rw [hpre] at hchk
  have HCK := Lib.hid hchk
  have HOT := Aside0.mk (show ∀ s : ByteArray, bytesOf s = tokenOf key (bytesOf name) → s = t from fun s h => by rw [ht, htl, ← h, str_of_bytes])
  have HR := Aside0.mk hra
  have HTT := Aside0.mk (And.intro ht htl)
  have hinfo : (Try.prog.info? 24).map (·.size) = some 32 := by kernel_rfl
  have HIN := Aside0.mk hinfo
  have HDR := Aside0.mk (show ∀ x ∈ ds, 0 ≤ x ∧ x ≤ 255 from fun x hx => by have := digest_range _ x (hds ▸ hx); omega)
  have d1 : decide (100 < (key.length : Int)) = false := decide_eq_false (by omega)
  have d2 : decide (100 < (name.size : Int)) = false := decide_eq_false (by omega)
  have d3 : decide (200 < (other.size : Int)) = false := decide_eq_false (by omega)
  have HSZ := Aside0.mk (And.intro hls (And.intro hlo hla))
  have HTS := Aside0.mk hts
  have hA0 : ¬ 9223372036854775807 < name.size + 1 := by omega
  clear ha hra hds ht htl hc1 hc2 hlast hpre hchk hinfo hlen htb hts hla hls hlo
  go_enter Try.func7, Try.ntmps7
  go_wp2_with fail
  refine (lives6_calls _).mono ?_
  rintro e w1 ⟨rfl, h1⟩
  have H1 := Aside0.mk h1
  clear h1
  go_wp2_with fail
  refine (HC1.out _ (HA.out.below H1.out)).mono ?_
  rintro e w2 ⟨rfl, h2⟩
  have H2 := Aside0.mk (H1.out.trans (h2.mono H1.out.size))
  have HTB := Aside0.mk (bytes_below H2.out H2.out.size 5 name)
  clear h2
  go_wp2_with fail
  refine (HC2.out _ (HA.out.below HTB.out)).mono ?_
  rintro e w3 ⟨rfl, h3⟩
  have H3 := Aside0.mk (HTB.out.trans (h3.mono HTB.out.size))
  clear h3
  go_wp2_with (refine store_new rfl 24 (.tmp 8) (.tmp 38) rfl w3 _ (bytesA ds) 24 rfl rfl (by rw [HZ.out]; exact HIN.out) (by rw [HZ.out]; rfl) (bytesA_one ds) ?_; intro w4 hb4 hg4 hz4; have H4 := Aside0.mk (H3.out.trans (hb4.mono H3.out.size)); have HG4 := Aside0.mk hg4; clear hb4 hg4 hz4)
  have HE0 := Aside0.mk (show name ++ (⟨#[46]⟩ : ByteArray) = strOfNums (bytesOf name ++ [46] ++ hexs (ds.take 0)) by rw [List.take_zero]; show _ = strOfNums (bytesOf name ++ [46] ++ []); rw [List.append_nil, strOfNums_append, str_of_bytes]; rfl)
  have HB0 := Aside0.mk (Below.refl w4.heap.size w4)
  clear hA0
  go_loopw [43, 9] (fun v43 v9 wr => ∃ (i : Nat) (s : ByteArray), i ≤ 16 ∧ v43 = .int .i64 (i : Int) ∧ v9 = .string s ∧ Aside0 (s = strOfNums (bytesOf name ++ [46] ++ hexs (ds.take i))) ∧ Aside0 (Below w4.heap.size w4 wr)) (fun v _ _ => 16 - (intOf v).toNat)
  case atStart => exact ⟨0, _, by omega, rfl, rfl, HE0, HB0⟩
  case round =>
    obtain ⟨i, s, hi, rfl, rfl, HE, HBB⟩ := hrel
    by_cases hlt : i < 16
    · obtain ⟨x, hx⟩ : ∃ x, ds[i]? = some x := ⟨_, List.getElem?_eq_getElem (by have := HDL.out; omega)⟩
      have hxr := HDR.out x (List.mem_of_getElem? hx)
      have cx : wr.cell? ⟨w3.heap.size, i, none⟩ = some (.int .u8 x) := bytes_cell ((HBB.out.block _ (blk_lt HG4.out)).trans HG4.out) hx
      obtain ⟨a, ha⟩ : ∃ a : Nat, x / 16 = (a : Int) := ⟨(x / 16).toNat, by omega⟩
      obtain ⟨b, hb⟩ : ∃ b : Nat, x % 16 = (b : Int) := ⟨(x % 16).toNat, by omega⟩
      have ha16 : a < 16 := by omega
      have hb16 : b < 16 := by omega
      have hi16 : (i : Int) < 16 := by omega
      have hx0 : (0 : Int) ≤ x := hxr.1
      have k1 := sign_str a ha16
      have k2 := sign_str b hb16
      obtain ⟨s1, hs1⟩ : ∃ s1, s1 = strOfNums [bt tbl (a : Int)] := ⟨_, rfl⟩
      obtain ⟨s2, hs2⟩ : ∃ s2, s2 = strOfNums [bt tbl (b : Int)] := ⟨_, rfl⟩
      rw [← hs1] at k1
      rw [← hs2] at k2
      have hz1 : s1.size = 1 := by rw [hs1, strOfNums_size]; rfl
      have hz2 : s2.size = 1 := by rw [hs2, strOfNums_size]; rfl
      have hsz : s.size ≤ 200 := by rw [HE.out, strOfNums_size]; simp [hexs_length, bytesOf_length]; have := HSZ.out.1; omega
      have hN := Aside0.mk (show s ++ (s1 ++ s2) = strOfNums (bytesOf name ++ [46] ++ hexs (ds.take (i + 1))) by
        have e1 : ds.take (i + 1) = ds.take i ++ [x] := by rw [List.take_add_one, hx]; rfl
        have e2 : dg (x / 16) = bt tbl (a : Int) := by unfold dg; rw [ha, Int.emod_eq_of_lt (by omega) (by omega)]
        have e3 : dg x = bt tbl (b : Int) := by unfold dg; rw [hb]
        rw [e1, hexs_snoc, ← List.append_assoc, ← List.append_assoc, strOfNums_append, strOfNums_append, ← HE.out, e2, e3, ← hs1, ← hs2, ByteArray.append_assoc])
      have hm1 : ((a : Int) + 1) % 256 = (a : Int) + 1 := by omega
      have hm2 : ((b : Int) + 1) % 256 = (b : Int) + 1 := by omega
      have hw1 : IntKind.u8.wrap ((a : Int) + 1) = (a : Int) + 1 := by rw [IntKind.wrap_u8]; exact hm1
      have hw2 : IntKind.u8.wrap ((b : Int) + 1) = (b : Int) + 1 := by rw [IntKind.wrap_u8]; exact hm2
      have ht1 : ((a : Int) + 1).toNat = a + 1 := by omega
      have ht2 : ((b : Int) + 1).toNat = b + 1 := by omega
      have hr1 : (a : Int) + 1 ≤ 16 := by omega
      have hr2 : (b : Int) + 1 ≤ 16 := by omega
      have hA1 : ¬ 9223372036854775807 < s1.size + s2.size := by omega
      have hA2 : ¬ 9223372036854775807 < s.size + (s1.size + s2.size) := by omega
      have hA3 : ¬ 9223372036854775807 < s.size + (s1 ++ s2).size := by rw [ByteArray.size_append]; omega
      have hwa : IntKind.u8.wrap (a : Int) = (a : Int) := by rw [IntKind.wrap_u8]; omega
      have h0a : (0 : Int) ≤ (a : Int) + 1 := by omega
      have h0b : (0 : Int) ≤ (b : Int) + 1 := by omega
      have haa : (a : Int) ≤ (a : Int) + 1 := by omega
      have hbb : (b : Int) ≤ (b : Int) + 1 := by omega
      have hA4 : ¬ 9223372036854775807 < s.size + 2 := by omega
      have htd : Int.tdiv x 16 = (a : Int) := by rw [Int.tdiv_eq_ediv_of_nonneg hx0]; exact ha
      have htm : Int.tmod x 16 = (b : Int) := by rw [Int.tmod_eq_emod_of_nonneg hx0]; exact hb
      have HBN := Aside0.mk HBB.out.drew
      clear hs1 hs2 hx hxr
      go_wp2_with fail
      refine start_ (n := 16) (S := fun w' => True) (ds := []) #[false, false, false, false, false, false, false, false, false, false, false, false, false, false, false, false] (by kernel_rfl) rfl rfl trivial (fun hHeld => ?_)
      refine pure_ (i := 0) (N := some 47) (v := ?_) (a' := ?_) #[true, false, false, false, false, false, false, false, false, false, false, false, false, false, false, false] rfl rfl (by kernel_rfl) (fun _ _ _ h => h) (Or.inl ⟨by rfl, ?_⟩) ?_ ?_
      rotate_left
      · intro w'
        go_simp
        with_reducible rfl
      rotate_left
      · simp only [Act.put, List.setIfInBounds_toArray, List.set_cons_zero, List.set_cons_succ, i64_w, i32_w]
        rfl
      refine pure_ (i := 1) (N := some 48) (v := ?_) (a' := ?_) #[true, true, false, false, false, false, false, false, false, false, false, false, false, false, false, false] rfl rfl (by kernel_rfl) (fun _ _ _ h => h) (Or.inl ⟨by rfl, ?_⟩) ?_ ?_
      rotate_left
      · intro w'
        go_simp
        with_reducible rfl
      rotate_left
      · simp only [Act.put, List.setIfInBounds_toArray, List.set_cons_zero, List.set_cons_succ, i64_w, i32_w]
        rfl
      refine pure_ (i := 2) (N := some 49) (v := ?_) (a' := ?_) #[true, true, true, false, false, false, false, false, false, false, false, false, false, false, false, false] rfl rfl (by kernel_rfl) (fun _ _ _ h => h) (Or.inl ⟨by rfl, ?_⟩) ?_ ?_
      rotate_left
      · intro w'
        go_simp
        with_reducible rfl
      rotate_left
      · simp only [Act.put, List.setIfInBounds_toArray, List.set_cons_zero, List.set_cons_succ, i64_w, i32_w]
        rfl
      refine pure_ (i := 3) (N := some 50) (v := ?_) (a' := ?_) #[true, true, true, true, false, false, false, false, false, false, false, false, false, false, false, false] rfl rfl (by kernel_rfl) (fun _ _ _ h => h) (Or.inl ⟨by rfl, ?_⟩) ?_ ?_
      rotate_left
      · intro w'
        go_simp
        with_reducible rfl
      rotate_left
      · simp only [Act.put, List.setIfInBounds_toArray, List.set_cons_zero, List.set_cons_succ, i64_w, i32_w]
        rfl
      refine pure_ (i := 4) (N := some 51) (v := ?_) (a' := ?_) #[true, true, true, true, true, false, false, false, false, false, false, false, false, false, false, false] rfl rfl (by kernel_rfl) (fun _ _ _ h => h) (Or.inl ⟨by rfl, ?_⟩) ?_ ?_
      rotate_left
      · intro w'
        go_simp
        with_reducible rfl
      rotate_left
      · simp only [Act.put, List.setIfInBounds_toArray, List.set_cons_zero, List.set_cons_succ, i64_w, i32_w]
        rfl
      refine pure_ (i := 5) (N := some 52) (v := ?_) (a' := ?_) #[true, true, true, true, true, true, false, false, false, false, false, false, false, false, false, false] rfl rfl (by kernel_rfl) (fun _ _ _ h => h) (Or.inl ⟨by rfl, ?_⟩) ?_ ?_
      rotate_left
      · intro w'
        go_simp
        with_reducible rfl
      rotate_left
      · simp only [Act.put, List.setIfInBounds_toArray, List.set_cons_zero, List.set_cons_succ, i64_w, i32_w]
        rfl
      refine pure_ (i := 6) (N := some 53) (v := ?_) (a' := ?_) #[true, true, true, true, true, true, true, false, false, false, false, false, false, false, false, false] rfl rfl (by kernel_rfl) (fun _ _ _ h => h) (Or.inl ⟨by rfl, ?_⟩) ?_ ?_
      rotate_left
      · intro w'
        go_simp
        with_reducible rfl
      rotate_left
      · simp only [Act.put, List.setIfInBounds_toArray, List.set_cons_zero, List.set_cons_succ, i64_w, i32_w]
        rfl
      refine pure_ (i := 7) (N := some 54) (v := ?_) (a' := ?_) #[true, true, true, true, true, true, true, true, false, false, false, false, false, false, false, false] rfl rfl (by kernel_rfl) (fun _ _ _ h => h) (Or.inl ⟨by rfl, ?_⟩) ?_ ?_
      rotate_left
      · intro w'
        go_simp
        with_reducible rfl
      rotate_left
      · simp only [Act.put, List.setIfInBounds_toArray, List.set_cons_zero, List.set_cons_succ, i64_w, i32_w]
        rfl
      refine pure_ (i := 8) (N := some 55) (v := ?_) (a' := ?_) #[true, true, true, true, true, true, true, true, true, false, false, false, false, false, false, false] rfl rfl (by kernel_rfl) (fun _ _ _ h => h) (Or.inl ⟨by rfl, ?_⟩) ?_ ?_
      rotate_left
      · intro w'
        go_simp
        with_reducible rfl
      rotate_left
      · simp only [Act.put, List.setIfInBounds_toArray, List.set_cons_zero, List.set_cons_succ, i64_w, i32_w]
        rfl
      refine pure_ (i := 9) (N := some 56) (v := ?_) (a' := ?_) #[true, true, true, true, true, true, true, true, true, true, false, false, false, false, false, false] rfl rfl (by kernel_rfl) (fun _ _ _ h => h) (Or.inl ⟨by rfl, ?_⟩) ?_ ?_
      rotate_left
      · intro w'
        go_simp
        with_reducible rfl
      rotate_left
      · simp only [Act.put, List.setIfInBounds_toArray, List.set_cons_zero, List.set_cons_succ, i64_w, i32_w]
        rfl
      refine pure_ (i := 10) (N := some 57) (v := ?_) (a' := ?_) #[true, true, true, true, true, true, true, true, true, true, true, false, false, false, false, false] rfl rfl (by kernel_rfl) (fun _ _ _ h => h) (Or.inl ⟨by rfl, ?_⟩) ?_ ?_
      rotate_left
      · intro w'
        go_simp
        with_reducible rfl
      rotate_left
      · simp only [Act.put, List.setIfInBounds_toArray, List.set_cons_zero, List.set_cons_succ, i64_w, i32_w]
        rfl
      refine pure_ (i := 11) (N := some 58) (v := ?_) (a' := ?_) #[true, true, true, true, true, true, true, true, true, true, true, true, false, false, false, false] rfl rfl (by kernel_rfl) (fun _ _ _ h => h) (Or.inl ⟨by rfl, ?_⟩) ?_ ?_
      rotate_left
      · intro w'
        go_simp
        with_reducible rfl
      rotate_left
      · simp only [Act.put, List.setIfInBounds_toArray, List.set_cons_zero, List.set_cons_succ, i64_w, i32_w]
        rfl
      refine pure_ (i := 12) (N := some 59) (v := ?_) (a' := ?_) #[true, true, true, true, true, true, true, true, true, true, true, true, true, false, false, false] rfl rfl (by kernel_rfl) (fun _ _ _ h => h) (Or.inl ⟨by rfl, ?_⟩) ?_ ?_
      rotate_left
      · intro w'
        go_simp
        with_reducible rfl
      rotate_left
      · simp only [Act.put, List.setIfInBounds_toArray, List.set_cons_zero, List.set_cons_succ, i64_w, i32_w]
        rfl
      refine pure_ (i := 13) (N := some 60) (v := ?_) (a' := ?_) #[true, true, true, true, true, true, true, true, true, true, true, true, true, true, false, false] rfl rfl (by kernel_rfl) (fun _ _ _ h => h) (Or.inl ⟨by rfl, ?_⟩) ?_ ?_
      rotate_left
      · intro w'
        go_simp
        with_reducible rfl
      rotate_left
      · simp only [Act.put, List.setIfInBounds_toArray, List.set_cons_zero, List.set_cons_succ, i64_w, i32_w]
        rfl
      refine pure_ (i := 14) (N := some 61) (v := ?_) (a' := ?_) #[true, true, true, true, true, true, true, true, true, true, true, true, true, true, true, false] rfl rfl (by kernel_rfl) (fun _ _ _ h => h) (Or.inl ⟨by rfl, ?_⟩) ?_ ?_
      rotate_left
      · intro w'
        go_simp
        with_reducible rfl
      rotate_left
      · simp only [Act.put, List.setIfInBounds_toArray, List.set_cons_zero, List.set_cons_succ, i64_w, i32_w]
        rfl
      refine pure_ (i := 15) (N := some 9) (v := ?_) (a' := ?_) #[true, true, true, true, true, true, true, true, true, true, true, true, true, true, true, true] rfl rfl (by kernel_rfl) (fun _ _ _ h => h) (Or.inl ⟨by rfl, ?_⟩) ?_ ?_
      rotate_left
      · intro w'
        go_simp
        with_reducible rfl
      rotate_left
      · simp only [Act.put, List.setIfInBounds_toArray, List.set_cons_zero, List.set_cons_succ, i64_w, i32_w]
        rfl
      refine done_ (by kernel_rfl) ?_
      go_wp2
      go_roundw
      case rel => exact ⟨i + 1, _, by omega, by simp, rfl, hN, HBN⟩
      case measure => simp [intOf]; omega
    · have hie : i = 16 := by omega
      subst hie
      have hst : s = t := by rw [HE.out, ← HTL.out]; exact HTT.out.1.symm
      subst hst
      have H5 := Aside0.mk (H4.out.trans (HBB.out.mono H4.out.size))
      clear HE hlt hi
      have d4 : (s.toList != s.toList) = false := by simp
      have d5 : (name.toList != name.toList) = false := by simp
      go_wp2_with fail
      refine (HCK.out _ (HA.out.below H5.out)).mono ?_
      rintro e w6 ⟨rfl, h6⟩
      have H6 := Aside0.mk (H5.out.trans (h6.mono H5.out.size))
      clear h6
      by_cases hot : other = s
      · have e1 : (other.toList == s.toList) = true := by rw [hot]; simp
        have e1' : (s.toList == s.toList) = true := by simp
        go_wp2
        go_ret
        exact ⟨rfl, H6.out⟩
      · have e1 : (other.toList == s.toList) = false := beq_eq_false_iff_ne.2 fun e => hot (ByteArray.ext (Array.toList_inj.1 (by rw [ByteArray.toList_eq, ByteArray.toList_eq] at e; exact e)))
        rcases Lib.lastIndexByte_spec other 46 with ⟨hm, _⟩ | ⟨i, hi, he, _⟩
        · have hc := fun W => check_none A ca key other W (by have := HSZ.out.2.1; omega) (by rw [hm]; decide)
          have HC := Lib.hid hc
          clear hc hm
          go_wp2_with fail
          refine (HC.out _).mono ?_
          rintro e w7 ⟨rfl, h7⟩
          have H7 := Aside0.mk (H6.out.trans (h7.mono H6.out.size))
          clear h7
          go_wp2
          go_ret
          exact ⟨by simp, H7.out⟩
        · by_cases heq : bytesOf other = tokenOf key (bytesOf (other.extract 0 i))
          · have hc := fun W (h : SrcB W (.slice A key.length ca) key) => check_hit A ca key other i W h (by have := HSZ.out.2.2; omega) (by have := HSZ.out.2.1; omega) he hi heq
            have hx : (other.extract 0 i).size ≤ 200 := by rw [ByteArray.size_extract]; have := HSZ.out.2.1; omega
            obtain ⟨X, hX⟩ : ∃ X, X = other.extract 0 i := ⟨_, rfl⟩
            rw [← hX] at hc heq hx
            have hne : X ≠ name := fun e => hot (HOT.out other (by rw [← e]; exact heq))
            have e2 : (X.toList != name.toList) = true := by
              rw [bne_iff_ne]
              intro e
              exact hne (ByteArray.ext (Array.toList_inj.1 (by rw [ByteArray.toList_eq, ByteArray.toList_eq] at e; exact e)))
            have e2' : (X.toList == name.toList) = false := by
              rw [beq_eq_false_iff_ne]
              intro e
              exact hne (ByteArray.ext (Array.toList_inj.1 (by rw [ByteArray.toList_eq, ByteArray.toList_eq] at e; exact e)))
            have e3 : (other.toList == other.toList) = true := by simp
            have ht := fun W (h : SrcB W (.slice A key.length ca) key) => token_calls A ca key X W h (by have := HSZ.out.2.2; omega) (by omega)
            rw [← heq, str_of_bytes] at ht
            have HC := Lib.hid hc
            have HT := Lib.hid ht
            clear hc ht hX heq he hi hne
            go_wp2_with fail
            refine (HC.out _ (HA.out.below H6.out)).mono ?_
            rintro e w7 ⟨rfl, h7⟩
            have H7 := Aside0.mk (H6.out.trans (h7.mono H6.out.size))
            clear h7
            go_wp2_with fail
            refine (HT.out _ (HA.out.below H7.out)).mono ?_
            rintro e w8 ⟨rfl, h8⟩
            have H8 := Aside0.mk (H7.out.trans (h8.mono H7.out.size))
            clear h8
            go_wp2
            go_ret
            exact ⟨rfl, H8.out⟩
          · have hc := fun W (h : SrcB W (.slice A key.length ca) key) => check_miss A ca key other i W h (by have := HSZ.out.2.2; omega) (by have := HSZ.out.2.1; omega) he hi heq
            have HC := Lib.hid hc
            clear hc heq he hi
            go_wp2_with fail
            refine (HC.out _ (HA.out.below H6.out)).mono ?_
            rintro e w7 ⟨rfl, h7⟩
            have H7 := Aside0.mk (H6.out.trans (h7.mono H6.out.size))
            clear h7
            go_wp2
            go_ret
            exact ⟨by simp, H7.out⟩
set_option maxRecDepth 100000 in
set_option maxHeartbeats 8000000 in
theorem mactokens_calls (A : Option Addr) (ca : Nat) (key : List Int) (name other : ByteArray) (w : World) (ha : SrcB w (.slice A key.length ca) key) (hma : key.length ≤ 9223372036854775807) (hmn : name.size ≤ 140737488351232) (hmo : other.size ≤ 140737488351232) (hra : ∀ x ∈ key, 0 ≤ x ∧ x ≤ 255) :
    Calls Try.prog 7 #[.slice A key.length ca, .string name, .string other] w fun e w' => e = .returned (.bool true) ∧ Below w.heap.size w w' := by
  by_cases hla : key.length ≤ 100
  · by_cases hls : name.size ≤ 100
    · by_cases hlo : other.size ≤ 200
      · exact toks_main A ca key name other w ha hla hls hlo hra
      · have d1 : decide (100 < (key.length : Int)) = false := decide_eq_false (by omega)
        have d2 : decide (100 < (name.size : Int)) = false := decide_eq_false (by omega)
        have d3 : decide (200 < (other.size : Int)) = true := decide_eq_true (by omega)
        clear ha hra
        go_enter Try.func7, Try.ntmps7
        go_wp2_with fail
        refine (lives6_calls _).mono ?_
        rintro e w1 ⟨rfl, h1⟩
        have H1 := Aside0.mk h1
        clear h1
        go_wp2_with fail
        refine (lives6_calls _).mono ?_
        rintro e w2 ⟨rfl, h2⟩
        have H2 := Aside0.mk (H1.out.trans (h2.mono H1.out.size))
        clear h2
        go_wp2
        go_ret
        exact ⟨rfl, H2.out⟩
    · have d1 : decide (100 < (key.length : Int)) = false := decide_eq_false (by omega)
      have d2 : decide (100 < (name.size : Int)) = true := decide_eq_true (by omega)
      clear ha hra
      go_enter Try.func7, Try.ntmps7
      go_wp2_with fail
      refine (lives6_calls _).mono ?_
      rintro e w1 ⟨rfl, h1⟩
      have H1 := Aside0.mk h1
      clear h1
      go_wp2_with fail
      refine (lives6_calls _).mono ?_
      rintro e w2 ⟨rfl, h2⟩
      have H2 := Aside0.mk (H1.out.trans (h2.mono H1.out.size))
      clear h2
      go_wp2
      go_ret
      exact ⟨rfl, H2.out⟩
  · have d1 : decide (100 < (key.length : Int)) = true := decide_eq_true (by omega)
    clear ha hra
    go_enter Try.func7, Try.ntmps7
    go_wp2_with fail
    refine (lives6_calls _).mono ?_
    rintro e w1 ⟨rfl, h1⟩
    have H1 := Aside0.mk h1
    clear h1
    go_wp2_with fail
    refine (lives6_calls _).mono ?_
    rintro e w2 ⟨rfl, h2⟩
    have H2 := Aside0.mk (H1.out.trans (h2.mono H1.out.size))
    clear h2
    go_wp2
    go_ret
    exact ⟨rfl, H2.out⟩
theorem macTokens_walk (A0 : Option Addr) (len0 cap0 : Nat) (l0 : List Int) (name other : ByteArray) (W : World)
    (hr0 : ReadsRow (fun (p : Int) c => c = [.int .u8 p]) 1 W A0 len0 l0) (hc0 : len0 ≤ cap0) (hq0 : ∀ x ∈ l0, (Lit.int .u8 x).wf = true) (hn : name.size ≤ 140737488351232) (ho : other.size ≤ 140737488351232) :
    Calls Try.prog 7 #[.slice A0 len0 cap0, .string name, .string other] W fun e w' => e = .returned (.bool true) ∧ Below W.heap.size W w' := by
  have e0 := hr0.1
  subst e0
  exact mactokens_calls A0 cap0 l0 name other W (src_of (ints_of_row hr0)) hr0.2.1 hn ho (fun x hx => wf_u8 (hq0 x hx))
end Go.Proofs.Ytjlnbklendkflaa
