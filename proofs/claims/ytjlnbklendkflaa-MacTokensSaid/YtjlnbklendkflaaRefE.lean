/- The document's code of a key and bytes, walked. -/
import Derived.Test.YtjlnbklendkflaaRefB
import Derived.Test.YtjlnbklendkflaaMacF
import Derived.Lib.Hide
import Derived.LoopTactic
import Derived.Outline
import Derived.Laws.Rows
import Derived.Laws.CopyOwn
import Derived.WalkKit
set_option linter.unusedVariables false
set_option linter.unusedSimpArgs false
namespace Go.Proofs.Ytjlnbklendkflaa
open Go.RowKit Go.Proofs.YtjlnbklendkflaaW.PrintWords Go.Proofs.YtjlnbklendkflaaW.PrintLast Go.Proofs.YtjlnbklendkflaaW.PrintMore
open Go.Proofs.Ytjlnbklendkflaa.PHashSums

theorem padB_take (K : List Int) (x : Int) (i : Nat) (h : i < 64) : (padB K x).take (i + 1) = (padB K x).take i ++ [Go.bits .xor .u8 (K.getD i 0) x] := by
  rw [List.take_add_one]
  unfold padB
  rw [List.getElem?_map, List.getElem?_range h]
  rfl
theorem padB_range (K : List Int) (x : Int) (h : ∀ y ∈ K, 0 ≤ y ∧ y ≤ 255) (hx : 0 ≤ x ∧ x ≤ 255) : ∀ y ∈ padB K x, 0 ≤ y ∧ y ≤ 255 := by
  intro y hy
  unfold padB at hy
  obtain ⟨i, _, rfl⟩ := List.mem_map.1 hy
  have hk : 0 ≤ K.getD i 0 ∧ K.getD i 0 ≤ 255 := by
    rw [List.getD_eq_getElem?_getD]
    cases hg : K[i]? with
    | none => exact ⟨by decide, by decide⟩
    | some z => exact h z (List.mem_of_getElem? hg)
  obtain ⟨X, hX⟩ := Int.eq_ofNat_of_zero_le hk.1
  obtain ⟨Y, rfl⟩ := Int.eq_ofNat_of_zero_le hx.1
  rw [hX] at hk ⊢
  have e : Go.bits .xor .u8 (X : Int) (Y : Int) = ((X ^^^ Y : Nat) : Int) := u8_xor_nat X Y (by omega) (by omega)
  have hx' : X ^^^ Y < 2 ^ 8 := Nat.xor_lt_two_pow (by omega) (by omega)
  rw [e]
  omega
/-- Two rows of one's own, apart. -/
structure Rows2 (base : Nat) (w : World) (v6 v7 : Value) (a b : List Int) : Prop where
  o6 : w.ownsRow base 5 1 v6 a.length (nums .u8 a)
  o7 : w.ownsRow base 5 1 v7 b.length (nums .u8 b)
  ne : ∀ g, v6.ownBlock = some g → v7.ownBlock ≠ some g
theorem none_or {v : Value} {r : Option Nat} (h : ∀ g, v.ownBlock = some g → r ≠ some g) : v.ownBlock = none ∨ v.ownBlock ≠ r := by
  cases hv : v.ownBlock with
  | none => exact .inl rfl
  | some g => exact .inr fun e => h g hv e.symm
theorem Rows2.first {base : Nat} {w w1 : World} {v6 v7 v1 : Value} {a b : List Int} {y : Int} (h : Rows2 base w v6 v7 a b) (hown : w1.ownsRow base 5 1 v1 (a ++ [y]).length (nums .u8 (a ++ [y]))) (hg : w.grownBy w1 v6.ownBlock)
    (hat : v1.ownBlock = v6.ownBlock ∨ ∃ k, v1.ownBlock = some k ∧ w.heap.size ≤ k) : Rows2 base w1 v1 v7 (a ++ [y]) b :=
  ⟨hown, h.o7.kept hg (none_or fun g hv e => h.ne g e hv), fun g hv e => by
    rcases hat with h1 | ⟨k, h1, h2⟩
    · rw [h1] at hv; exact h.ne g hv e
    · rw [h1] at hv
      injection hv with hv
      have := (h.o7.lt g e).2
      omega⟩
theorem Rows2.second {base : Nat} {w w1 : World} {v6 v7 v1 : Value} {a b : List Int} {y : Int} (h : Rows2 base w v6 v7 a b) (hown : w1.ownsRow base 5 1 v1 (b ++ [y]).length (nums .u8 (b ++ [y]))) (hg : w.grownBy w1 v7.ownBlock)
    (hat : v1.ownBlock = v7.ownBlock ∨ ∃ k, v1.ownBlock = some k ∧ w.heap.size ≤ k) : Rows2 base w1 v6 v1 a (b ++ [y]) :=
  ⟨h.o6.kept hg (none_or fun g hv e => h.ne g hv e), hown, fun g hv e => by
    rcases hat with h1 | ⟨k, h1, h2⟩
    · rw [h1] at e; exact h.ne g hv e
    · rw [h1] at e
      injection e with e
      have := (h.o6.lt g hv).2
      omega⟩
set_option maxRecDepth 100000 in
set_option maxHeartbeats 8000000 in
theorem refcode_short (A : Option Addr) (c : Nat) (K : List Int) (u : Option Addr) (cu : Nat) (b : List Int) (w : World) (h : SrcB w (.slice A K.length c) K) (hu : SrcB w (.slice u b.length cu) b) (hl : K.length ≤ 64) (hb : b.length ≤ 80000) (hrK : ∀ x ∈ K, 0 ≤ x ∧ x ≤ 255) (hrb : ∀ x ∈ b, 0 ≤ x ∧ x ≤ 255) :
    Calls Try.prog 19 #[.slice A K.length c, .slice u b.length cu] w fun e w' => e = .returned (.agg (bytesA (codeOf K b))) ∧ Below w.heap.size w w' := by
  obtain ⟨KA, hKA⟩ : ∃ KA, KA = A := ⟨_, rfl⟩
  subst hKA
  have hk64 : ¬ (64 : Int) < (K.length : Int) := by omega
  obtain ⟨w2, hw2⟩ : ∃ w2, w2 = w.alloc (Obj.cells #[.int .u8 0, .int .u8 0, .int .u8 0, .int .u8 0, .int .u8 0, .int .u8 0, .int .u8 0, .int .u8 0, .int .u8 0, .int .u8 0, .int .u8 0, .int .u8 0, .int .u8 0, .int .u8 0, .int .u8 0, .int .u8 0, .int .u8 0, .int .u8 0, .int .u8 0, .int .u8 0, .int .u8 0, .int .u8 0, .int .u8 0, .int .u8 0, .int .u8 0, .int .u8 0, .int .u8 0, .int .u8 0, .int .u8 0, .int .u8 0, .int .u8 0, .int .u8 0] 24) := ⟨_, rfl⟩
  have HB2 := Aside0.mk (show Below w.heap.size w w2 by rw [hw2]; exact (Below.refl _ _).alloc (Nat.le_refl _) _)
  have HSK := Aside0.mk (h.below HB2.out)
  have HU := Aside0.mk (hu.below HB2.out)
  have HR2 := Aside0.mk (show ∃ cs : Array Value, w2.heap[w.heap.size]? = some (.cells cs 24 (0, 0)) ∧ cs.size = 32 from ⟨_, by rw [hw2]; exact blk_new w _, rfl⟩)
  have HW2 := Aside0.mk hw2
  have HRK := Aside0.mk hrK
  have HRB := Aside0.mk hrb
  have HLB := Aside0.mk hb
  have hinfo : (Try.prog.info? 24).map (·.size) = some 32 := by kernel_rfl
  have HIN := Aside0.mk hinfo
  have HKO := Aside0.mk (show keyOf K = K by unfold keyOf; rw [if_neg (by omega)])
  clear h hu hw2 hrK hrb hb hinfo
  go_enter Try.func19, Try.ntmps19
  go_wp2_with (rw [← HW2.out])
  have HKL := Aside0.mk (show K.length = K.length by rfl)
  have HR0 := Aside0.mk (show Rows2 w2.heap.size w2 (.slice none 0 0) (.slice none 0 0) ((padB K 54).take 0) ((padB K 92).take 0) from ⟨⟨by simp [nums], .inl ⟨rfl, rfl⟩⟩, ⟨by simp [nums], .inl ⟨rfl, rfl⟩⟩, fun g h => by cases h⟩)
  have HBB0 := Aside0.mk (Below.refl w2.heap.size w2)
  go_wp2_with fail
  go_loopw [17, 6, 7] (fun v17 v6 v7 wr => ∃ i : Nat, i ≤ 64 ∧ v17 = .int .i64 (i : Int) ∧ Aside0 (Rows2 w2.heap.size wr v6 v7 ((padB K 54).take i) ((padB K 92).take i)) ∧ Aside0 (Below w2.heap.size w2 wr)) (fun v _ _ _ => 64 - (intOf v).toNat)
  case atStart => exact ⟨0, by omega, rfl, HR0, HBB0⟩
  case round =>
    obtain ⟨i, hi, rfl, HRW, HBB⟩ := hrel
    by_cases hlt : i < 64
    · have hi64 : (i : Int) < 64 := by omega
      have h6l : ((padB K 54).take i).length = i := by rw [List.length_take, padB_length]; omega
      have h7l : ((padB K 92).take i).length = i := by rw [List.length_take, padB_length]; omega
      obtain ⟨a6, ha6⟩ : ∃ l, l = (padB K 54).take i := ⟨_, rfl⟩
      obtain ⟨a7, ha7⟩ : ∃ l, l = (padB K 92).take i := ⟨_, rfl⟩
      rw [← ha6, ← ha7] at HRW
      rw [← ha6] at h6l
      rw [← ha7] at h7l
      have HA6 := Aside0.mk ha6
      have HA7 := Aside0.mk ha7
      have hP6 : (a6.length + 1) * 1 ≤ 140737488355328 := by omega
      have hP7 : (a7.length + 1) * 1 ≤ 140737488355328 := by omega
      have HP6 := Aside0.mk hP6
      have HP7 := Aside0.mk hP7
      have hbb := HBB.out.size
      obtain ⟨y, hy⟩ : ∃ y, y = K.getD i 0 := ⟨_, rfl⟩
      have HY := Aside0.mk hy
      clear ha6 ha7 h6l h7l hP6 hP7
      by_cases hk : i < K.length
      · have hik : (i : Int) < (K.length : Int) := by omega
        obtain ⟨ad, e, hc⟩ : ∃ ad, KA = some ad ∧ w2.cell? (ad.add i) = some (.int .u8 y) := by
          rcases HSK.out with ⟨c', e, h0⟩ | ⟨ad, c', e, h⟩
          · have h1 : K.length = 0 := by rw [h0]; rfl
            have h2 := HKL.out
            omega
          · injection e with e1 e2 e3
            exact ⟨ad, e1, h i y (by rw [hy, List.getD_eq_getElem?_getD, List.getElem?_eq_getElem (by have := HKL.out; omega)]; rfl)⟩
        subst e
        have cy := bread HBB.out hc
        clear hc
        clear hy
        go_wp2_with (at_builtin; refine print_append_num w2.heap.size rfl (.tmp 28) (.tmp 31) 22 5 .u8 1 rfl Try.underlying22 infoByte (by decide) _ a6 _ rfl rfl HRW.out.o6 HBB.out hbb HP6.out ?_)
        intro v1 w4 hown hB4 hg hat
        have HRX := Aside0.mk (Rows2.first (y := Go.bits .xor .u8 y 54) HRW.out (by simpa using hown) hg hat)
        have HB4 := Aside0.mk hB4
        have hb4 := hB4.size
        clear hown hg hat hB4
        go_wp2_with (at_builtin; refine print_append_num w2.heap.size rfl (.tmp 33) (.tmp 36) 22 5 .u8 1 rfl Try.underlying22 infoByte (by decide) _ a7 _ rfl rfl HRX.out.o7 HB4.out hb4 HP7.out ?_)
        intro v2 w5 hown hB5 hg hat
        have HRY := Aside0.mk (Rows2.second (y := Go.bits .xor .u8 y 92) HRX.out (by simpa using hown) hg hat)
        have HB5 := Aside0.mk hB5
        clear hown hg hat hB5
        have HN := Aside0.mk (show Rows2 w2.heap.size w5 v1 v2 ((padB K 54).take (i + 1)) ((padB K 92).take (i + 1)) by
          rw [padB_take K 54 i hlt, padB_take K 92 i hlt, ← HA6.out, ← HA7.out, ← HY.out]
          exact HRY.out)
        go_wp2
        go_roundw
        case rel => exact ⟨i + 1, by omega, by simp, HN, HB5⟩
        case measure => simp [intOf]; omega
      · have hik : ¬ (i : Int) < (K.length : Int) := by omega
        have hy0 : y = 0 := by rw [hy, List.getD_eq_getElem?_getD, List.getElem?_eq_none (by have := HKL.out; omega)]; rfl
        subst hy0
        clear hy
        go_wp2_with (at_builtin; refine print_append_num w2.heap.size rfl (.tmp 28) (.tmp 31) 22 5 .u8 1 rfl Try.underlying22 infoByte (by decide) _ a6 _ rfl rfl HRW.out.o6 HBB.out hbb HP6.out ?_)
        intro v1 w4 hown hB4 hg hat
        have HRX := Aside0.mk (Rows2.first (y := Go.bits .xor .u8 0 54) HRW.out (by simpa using hown) hg hat)
        have HB4 := Aside0.mk hB4
        have hb4 := hB4.size
        clear hown hg hat hB4
        go_wp2_with (at_builtin; refine print_append_num w2.heap.size rfl (.tmp 33) (.tmp 36) 22 5 .u8 1 rfl Try.underlying22 infoByte (by decide) _ a7 _ rfl rfl HRX.out.o7 HB4.out hb4 HP7.out ?_)
        intro v2 w5 hown hB5 hg hat
        have HRY := Aside0.mk (Rows2.second (y := Go.bits .xor .u8 0 92) HRX.out (by simpa using hown) hg hat)
        have HB5 := Aside0.mk hB5
        clear hown hg hat hB5
        have HN := Aside0.mk (show Rows2 w2.heap.size w5 v1 v2 ((padB K 54).take (i + 1)) ((padB K 92).take (i + 1)) by
          rw [padB_take K 54 i hlt, padB_take K 92 i hlt, ← HA6.out, ← HA7.out, ← HY.out]
          exact HRY.out)
        go_wp2
        go_roundw
        case rel => exact ⟨i + 1, by omega, by simp, HN, HB5⟩
        case measure => simp [intOf]; omega
    · have hie : i = 64 := by omega
      subst hie
      have e6 : (padB K 54).take 64 = padB K 54 := List.take_of_length_le (by rw [padB_length]; exact Nat.le_refl _)
      have e7 : (padB K 92).take 64 = padB K 92 := List.take_of_length_le (by rw [padB_length]; exact Nat.le_refl _)
      rw [e6, e7] at HRW
      obtain ⟨P6, hP6⟩ : ∃ l, l = padB K 54 := ⟨_, rfl⟩
      obtain ⟨P7, hP7⟩ : ∃ l, l = padB K 92 := ⟨_, rfl⟩
      rw [← hP6, ← hP7] at HRW
      have HP6 := Aside0.mk hP6
      have HP7 := Aside0.mk hP7
      have HL6 := Aside0.mk (show P6.length = 64 by rw [hP6, padB_length])
      have HL7 := Aside0.mk (show P7.length = 64 by rw [hP7, padB_length])
      have HR6 := Aside0.mk (show ∀ x ∈ P6, 0 ≤ x ∧ x ≤ 255 by rw [hP6]; exact padB_range K 54 HRK.out (by decide))
      have HR7 := Aside0.mk (show ∀ x ∈ P7, 0 ≤ x ∧ x ≤ 255 by rw [hP7]; exact padB_range K 92 HRK.out (by decide))
      have HUW := Aside0.mk (HU.out.below (HBB.out))
      have HPB := Aside0.mk HBB.out.size
      have HPL := Aside0.mk (show P6.length + b.length ≤ 1000000000 by have := HL6.out; have := HLB.out; omega)
      clear e6 e7 hP6 hP7 hlt hi
      go_wp2_with (at_builtin; refine append_src w2.heap.size rfl (.tmp 39) (.tmp 40) rfl _ P6 b u b.length cu rfl rfl HRW.out.o6 HUW.out rfl HPB.out HPL.out ?_)
      intro v3 w3 hown hgr
      obtain ⟨M6, hM6⟩ : ∃ l, l = P6 ++ b := ⟨_, rfl⟩
      rw [← List.length_append, ← hM6] at hown
      obtain ⟨A3, c3, e3⟩ := row_form hown
      subst e3
      have ho7 : w3.ownsRow w2.heap.size 5 1 u7 P7.length (nums .u8 P7) := HRW.out.o7.kept hgr (none_or fun g hv e => HRW.out.ne g e hv)
      have HO7 := Aside0.mk ho7
      have HB3 := Aside0.mk (show Below w2.heap.size w2 w3 from HBB.out.grown hgr HPB.out (fun k hk => (HRW.out.o6.lt k hk).1))
      have hc3 := ref_calls A3 c3 M6 w3 (SrcB.of_row hown) (by rw [hM6, List.length_append]; have := HL6.out; have := HLB.out; omega) (fun x hx => by
        rw [hM6] at hx
        rcases List.mem_append.1 hx with hx | hx
        · exact HR6.out x hx
        · exact HRB.out x hx)
      obtain ⟨ds, hds⟩ : ∃ ds, ds = digest (P6 ++ b) := ⟨_, rfl⟩
      rw [show digest M6 = ds by rw [hM6, hds]] at hc3
      have HC3 := Lib.hid hc3
      have HDS := Aside0.mk hds
      have HDL := Aside0.mk (show ds.length = 32 by rw [hds, digest_length])
      have HZ := Aside0.mk (show (bytesA ds).size = 32 by rw [bytesA_size, hds, digest_length])
      have HRD := Aside0.mk (show ∀ x ∈ ds, 0 ≤ x ∧ x ≤ 255 from fun x hx => by have := digest_range (P6 ++ b) x (hds ▸ hx); omega)
      clear hown hgr ho7 hc3 hds hM6
      go_wp2_with fail
      refine HC3.out.mono ?_
      rintro e w4 ⟨rfl, hb4⟩
      have HB4 := Aside0.mk (HB3.out.trans (hb4.mono HB3.out.size))
      have HO74 := Aside0.mk ((Keep.of_below hb4).row HO7.out (fun g hg hc => by have := (HO7.out.lt g hg).2; omega))
      clear hb4
      go_wp2_with (first
        | (refine store_new rfl 24 (.tmp 10) (.tmp 42) rfl w4 _ (bytesA ds) 24 rfl rfl (by rw [HZ.out]; exact HIN.out) (by rw [HZ.out]; rfl) (bytesA_one ds) ?_
           intro w5 hb5 hg5 hz5
           have HB5 := Aside0.mk (HB4.out.trans (hb5.mono HB4.out.size))
           have HG5 := Aside0.mk hg5
           have HO75 := Aside0.mk ((Keep.of_below hb5).row HO74.out (fun g hg hc => by have := (HO74.out.lt g hg).2; omega))
           have HS5 := Aside0.mk (show SrcB w5 (.slice (some ⟨w4.heap.size, 0, none⟩) 32 32) ds by have h := arr_src hg5 32; rw [HDL.out] at h; exact h)
           have HPB5 := Aside0.mk HB5.out.size
           have HPL5 := Aside0.mk (show P7.length + ds.length ≤ 1000000000 by have := HL7.out; have := HDL.out; omega)
           clear hb5 hg5 hz5)
        | (at_builtin; refine append_src w2.heap.size rfl (.tmp 43) (.tmp 44) rfl _ P7 ds (some ⟨w4.heap.size, 0, none⟩) 32 32 rfl rfl HO75.out HS5.out HDL.out.symm HPB5.out HPL5.out ?_))
      intro v6 w6 hown hgr
      obtain ⟨M7, hM7⟩ : ∃ l, l = P7 ++ ds := ⟨_, rfl⟩
      rw [← List.length_append, ← hM7] at hown
      obtain ⟨A6, c6, e6⟩ := row_form hown
      subst e6
      have HB6 := Aside0.mk (show Below w2.heap.size w2 w6 from HB5.out.grown hgr HPB5.out (fun k hk => (HO75.out.lt k hk).1))
      have hc6 := ref_calls A6 c6 M7 w6 (SrcB.of_row hown) (by rw [hM7, List.length_append]; have := HL7.out; have := HDL.out; omega) (fun x hx => by
        rw [hM7] at hx
        rcases List.mem_append.1 hx with hx | hx
        · exact HR7.out x hx
        · exact HRD.out x hx)
      obtain ⟨es, hes⟩ : ∃ es, es = digest (P7 ++ ds) := ⟨_, rfl⟩
      rw [show digest M7 = es by rw [hM7, hes]] at hc6
      have HC6 := Lib.hid hc6
      have HES := Aside0.mk (show es = codeOf K b by unfold codeOf; rw [HKO.out, ← HP6.out, ← HP7.out, ← HDS.out]; exact hes)
      have HEZ := Aside0.mk (show (bytesA es).size = 32 by rw [bytesA_size, hes, digest_length])
      clear hown hgr hc6 hes hM7
      go_wp2_with fail
      refine HC6.out.mono ?_
      rintro e w7 ⟨rfl, hb7⟩
      have HB7 := Aside0.mk (HB2.out.trans ((HB6.out.trans (hb7.mono HB6.out.size)).mono HB2.out.size))
      obtain ⟨cs, hcs, hcz⟩ := HR2.out
      have HCS := Aside0.mk (show w7.heap[w.heap.size]? = some (.cells cs 24 (0, 0)) from ((HB6.out.trans (hb7.mono HB6.out.size)).block _ (blk_lt hcs)).trans hcs)
      have HCZ := Aside0.mk hcz
      clear hb7 hcs hcz
      go_wp2_with (refine wpList_store_row rfl 24 (.tmp 4) (.tmp 46) rfl w.heap.size (bytesA es) rfl rfl 24 cs HCS.out (by rw [HEZ.out]; exact HIN.out) (by rw [HEZ.out]; exact HCZ.out) (bytesA_one es) ?_)
      refine bodyPost_ret (v := .agg (bytesA es)) (results_cell_row (p := 4) (ty := 24) rfl _ _ w.heap.size 24 (bytesA es) (0, 0) _ rfl (setRow_heap _ _ _ _ _ _ HCS.out) Try.underlying24 rfl (by rw [HEZ.out]; exact HIN.out)) rfl ⟨by rw [HES.out], below_setRow HB7.out (Nat.le_refl _) _⟩
set_option maxRecDepth 100000 in
set_option maxHeartbeats 8000000 in
theorem refcode_long (A : Option Addr) (c : Nat) (key : List Int) (u : Option Addr) (cu : Nat) (b : List Int) (w : World) (h : SrcB w (.slice A key.length c) key) (hu : SrcB w (.slice u b.length cu) b) (hl : 64 < key.length) (hl2 : key.length ≤ 90000) (hb : b.length ≤ 80000) (hrk : ∀ x ∈ key, 0 ≤ x ∧ x ≤ 255) (hrb : ∀ x ∈ b, 0 ≤ x ∧ x ≤ 255) :
    Calls Try.prog 19 #[.slice A key.length c, .slice u b.length cu] w fun e w' => e = .returned (.agg (bytesA (codeOf key b))) ∧ Below w.heap.size w w' := by
  have hk64 : (64 : Int) < (key.length : Int) := by omega
  obtain ⟨w0, hw0⟩ : ∃ w0, w0 = w.alloc (Obj.cells #[.int .u8 0, .int .u8 0, .int .u8 0, .int .u8 0, .int .u8 0, .int .u8 0, .int .u8 0, .int .u8 0, .int .u8 0, .int .u8 0, .int .u8 0, .int .u8 0, .int .u8 0, .int .u8 0, .int .u8 0, .int .u8 0, .int .u8 0, .int .u8 0, .int .u8 0, .int .u8 0, .int .u8 0, .int .u8 0, .int .u8 0, .int .u8 0, .int .u8 0, .int .u8 0, .int .u8 0, .int .u8 0, .int .u8 0, .int .u8 0, .int .u8 0, .int .u8 0] 24) := ⟨_, rfl⟩
  have HB0 := Aside0.mk (show Below w.heap.size w w0 by rw [hw0]; exact (Below.refl _ _).alloc (Nat.le_refl _) _)
  have HU0 := Aside0.mk (hu.below HB0.out)
  have HRS0 := Aside0.mk (show ∃ cs : Array Value, w0.heap[w.heap.size]? = some (.cells cs 24 (0, 0)) ∧ cs.size = 32 from ⟨_, by rw [hw0]; exact blk_new w _, rfl⟩)
  obtain ⟨K, hK⟩ : ∃ K, K = digest key := ⟨_, rfl⟩
  have hc := ref_calls A c key w0 (h.below HB0.out) hl2 hrk
  rw [← hK] at hc
  have HC := Lib.hid hc
  have HKL := Aside0.mk (show 32 = K.length by rw [hK, digest_length])
  have HRK := Aside0.mk (show ∀ x ∈ K, 0 ≤ x ∧ x ≤ 255 from fun x hx => by have := digest_range key x (hK ▸ hx); omega)
  have HKZ := Aside0.mk (show (bytesA K).size = 32 by rw [bytesA_size, hK, digest_length])
  have HKO := Aside0.mk (show keyOf key = K by unfold keyOf; rw [if_pos hl]; exact hK.symm)
  have HRB := Aside0.mk hrb
  have HLB := Aside0.mk hb
  have HW0 := Aside0.mk hw0
  have hinfo : (Try.prog.info? 24).map (·.size) = some 32 := by kernel_rfl
  have HIN := Aside0.mk hinfo
  clear h hu hw0 hrk hrb hb hinfo hc hK hl hl2
  go_enter Try.func19, Try.ntmps19
  go_wp2_with fail
  rw [← HW0.out]
  refine HC.out.mono ?_
  rintro e w1 ⟨rfl, hb1⟩
  have HB1 := Aside0.mk (HB0.out.trans (hb1.mono HB0.out.size))
  have HB01 := Aside0.mk hb1
  clear hb1
  go_wp2_with (refine store_new rfl 24 (.tmp 5) (.tmp 15) rfl w1 _ (bytesA K) 24 rfl rfl (by rw [HKZ.out]; exact HIN.out) (by rw [HKZ.out]; rfl) (bytesA_one K) ?_; intro w2 hb2 hg2 hz2; have HG2 := Aside0.mk hg2; have HB12 := Aside0.mk hb2; clear hb2 hg2 hz2)
  have HB2 := Aside0.mk (HB1.out.trans (HB12.out.mono HB1.out.size))
  have HU := Aside0.mk (HU0.out.below (HB01.out.trans (HB12.out.mono HB01.out.size)))
  have HR2 := Aside0.mk (show ∃ cs : Array Value, w2.heap[w.heap.size]? = some (.cells cs 24 (0, 0)) ∧ cs.size = 32 from by
    obtain ⟨cs, h1, h2⟩ := HRS0.out
    exact ⟨cs, ((HB01.out.trans (HB12.out.mono HB01.out.size)).block _ (blk_lt h1)).trans h1, h2⟩)
  have HKL := Aside0.mk (show 32 = K.length by exact HKL.out)
  have HR0 := Aside0.mk (show Rows2 w2.heap.size w2 (.slice none 0 0) (.slice none 0 0) ((padB K 54).take 0) ((padB K 92).take 0) from ⟨⟨by simp [nums], .inl ⟨rfl, rfl⟩⟩, ⟨by simp [nums], .inl ⟨rfl, rfl⟩⟩, fun g h => by cases h⟩)
  have HBB0 := Aside0.mk (Below.refl w2.heap.size w2)
  go_wp2_with fail
  go_loopw [17, 6, 7] (fun v17 v6 v7 wr => ∃ i : Nat, i ≤ 64 ∧ v17 = .int .i64 (i : Int) ∧ Aside0 (Rows2 w2.heap.size wr v6 v7 ((padB K 54).take i) ((padB K 92).take i)) ∧ Aside0 (Below w2.heap.size w2 wr)) (fun v _ _ _ => 64 - (intOf v).toNat)
  case atStart => exact ⟨0, by omega, rfl, HR0, HBB0⟩
  case round =>
    obtain ⟨i, hi, rfl, HRW, HBB⟩ := hrel
    by_cases hlt : i < 64
    · have hi64 : (i : Int) < 64 := by omega
      have h6l : ((padB K 54).take i).length = i := by rw [List.length_take, padB_length]; omega
      have h7l : ((padB K 92).take i).length = i := by rw [List.length_take, padB_length]; omega
      obtain ⟨a6, ha6⟩ : ∃ l, l = (padB K 54).take i := ⟨_, rfl⟩
      obtain ⟨a7, ha7⟩ : ∃ l, l = (padB K 92).take i := ⟨_, rfl⟩
      rw [← ha6, ← ha7] at HRW
      rw [← ha6] at h6l
      rw [← ha7] at h7l
      have HA6 := Aside0.mk ha6
      have HA7 := Aside0.mk ha7
      have hP6 : (a6.length + 1) * 1 ≤ 140737488355328 := by omega
      have hP7 : (a7.length + 1) * 1 ≤ 140737488355328 := by omega
      have HP6 := Aside0.mk hP6
      have HP7 := Aside0.mk hP7
      have hbb := HBB.out.size
      obtain ⟨y, hy⟩ : ∃ y, y = K.getD i 0 := ⟨_, rfl⟩
      have HY := Aside0.mk hy
      clear ha6 ha7 h6l h7l hP6 hP7
      by_cases hk : i < 32
      · have hik : (i : Int) < 32 := by omega
        have hkey : K[i]? = some y := by rw [hy, List.getD_eq_getElem?_getD, List.getElem?_eq_getElem (by have := HKL.out; omega)]; rfl
        have cy := bytes_cell ((HBB.out.block _ (blk_lt HG2.out)).trans HG2.out) hkey
        clear hkey
        clear hy
        go_wp2_with (at_builtin; refine print_append_num w2.heap.size rfl (.tmp 28) (.tmp 31) 22 5 .u8 1 rfl Try.underlying22 infoByte (by decide) _ a6 _ rfl rfl HRW.out.o6 HBB.out hbb HP6.out ?_)
        intro v1 w4 hown hB4 hg hat
        have HRX := Aside0.mk (Rows2.first (y := Go.bits .xor .u8 y 54) HRW.out (by simpa using hown) hg hat)
        have HB4 := Aside0.mk hB4
        have hb4 := hB4.size
        clear hown hg hat hB4
        go_wp2_with (at_builtin; refine print_append_num w2.heap.size rfl (.tmp 33) (.tmp 36) 22 5 .u8 1 rfl Try.underlying22 infoByte (by decide) _ a7 _ rfl rfl HRX.out.o7 HB4.out hb4 HP7.out ?_)
        intro v2 w5 hown hB5 hg hat
        have HRY := Aside0.mk (Rows2.second (y := Go.bits .xor .u8 y 92) HRX.out (by simpa using hown) hg hat)
        have HB5 := Aside0.mk hB5
        clear hown hg hat hB5
        have HN := Aside0.mk (show Rows2 w2.heap.size w5 v1 v2 ((padB K 54).take (i + 1)) ((padB K 92).take (i + 1)) by
          rw [padB_take K 54 i hlt, padB_take K 92 i hlt, ← HA6.out, ← HA7.out, ← HY.out]
          exact HRY.out)
        go_wp2
        go_roundw
        case rel => exact ⟨i + 1, by omega, by simp, HN, HB5⟩
        case measure => simp [intOf]; omega
      · have hik : ¬ (i : Int) < 32 := by omega
        have hy0 : y = 0 := by rw [hy, List.getD_eq_getElem?_getD, List.getElem?_eq_none (by have := HKL.out; omega)]; rfl
        subst hy0
        clear hy
        go_wp2_with (at_builtin; refine print_append_num w2.heap.size rfl (.tmp 28) (.tmp 31) 22 5 .u8 1 rfl Try.underlying22 infoByte (by decide) _ a6 _ rfl rfl HRW.out.o6 HBB.out hbb HP6.out ?_)
        intro v1 w4 hown hB4 hg hat
        have HRX := Aside0.mk (Rows2.first (y := Go.bits .xor .u8 0 54) HRW.out (by simpa using hown) hg hat)
        have HB4 := Aside0.mk hB4
        have hb4 := hB4.size
        clear hown hg hat hB4
        go_wp2_with (at_builtin; refine print_append_num w2.heap.size rfl (.tmp 33) (.tmp 36) 22 5 .u8 1 rfl Try.underlying22 infoByte (by decide) _ a7 _ rfl rfl HRX.out.o7 HB4.out hb4 HP7.out ?_)
        intro v2 w5 hown hB5 hg hat
        have HRY := Aside0.mk (Rows2.second (y := Go.bits .xor .u8 0 92) HRX.out (by simpa using hown) hg hat)
        have HB5 := Aside0.mk hB5
        clear hown hg hat hB5
        have HN := Aside0.mk (show Rows2 w2.heap.size w5 v1 v2 ((padB K 54).take (i + 1)) ((padB K 92).take (i + 1)) by
          rw [padB_take K 54 i hlt, padB_take K 92 i hlt, ← HA6.out, ← HA7.out, ← HY.out]
          exact HRY.out)
        go_wp2
        go_roundw
        case rel => exact ⟨i + 1, by omega, by simp, HN, HB5⟩
        case measure => simp [intOf]; omega
    · have hie : i = 64 := by omega
      subst hie
      have e6 : (padB K 54).take 64 = padB K 54 := List.take_of_length_le (by rw [padB_length]; exact Nat.le_refl _)
      have e7 : (padB K 92).take 64 = padB K 92 := List.take_of_length_le (by rw [padB_length]; exact Nat.le_refl _)
      rw [e6, e7] at HRW
      obtain ⟨P6, hP6⟩ : ∃ l, l = padB K 54 := ⟨_, rfl⟩
      obtain ⟨P7, hP7⟩ : ∃ l, l = padB K 92 := ⟨_, rfl⟩
      rw [← hP6, ← hP7] at HRW
      have HP6 := Aside0.mk hP6
      have HP7 := Aside0.mk hP7
      have HL6 := Aside0.mk (show P6.length = 64 by rw [hP6, padB_length])
      have HL7 := Aside0.mk (show P7.length = 64 by rw [hP7, padB_length])
      have HR6 := Aside0.mk (show ∀ x ∈ P6, 0 ≤ x ∧ x ≤ 255 by rw [hP6]; exact padB_range K 54 HRK.out (by decide))
      have HR7 := Aside0.mk (show ∀ x ∈ P7, 0 ≤ x ∧ x ≤ 255 by rw [hP7]; exact padB_range K 92 HRK.out (by decide))
      have HUW := Aside0.mk (HU.out.below (HBB.out))
      have HPB := Aside0.mk HBB.out.size
      have HPL := Aside0.mk (show P6.length + b.length ≤ 1000000000 by have := HL6.out; have := HLB.out; omega)
      clear e6 e7 hP6 hP7 hlt hi
      go_wp2_with (at_builtin; refine append_src w2.heap.size rfl (.tmp 39) (.tmp 40) rfl _ P6 b u b.length cu rfl rfl HRW.out.o6 HUW.out rfl HPB.out HPL.out ?_)
      intro v3 w3 hown hgr
      obtain ⟨M6, hM6⟩ : ∃ l, l = P6 ++ b := ⟨_, rfl⟩
      rw [← List.length_append, ← hM6] at hown
      obtain ⟨A3, c3, e3⟩ := row_form hown
      subst e3
      have ho7 : w3.ownsRow w2.heap.size 5 1 u7 P7.length (nums .u8 P7) := HRW.out.o7.kept hgr (none_or fun g hv e => HRW.out.ne g e hv)
      have HO7 := Aside0.mk ho7
      have HB3 := Aside0.mk (show Below w2.heap.size w2 w3 from HBB.out.grown hgr HPB.out (fun k hk => (HRW.out.o6.lt k hk).1))
      have hc3 := ref_calls A3 c3 M6 w3 (SrcB.of_row hown) (by rw [hM6, List.length_append]; have := HL6.out; have := HLB.out; omega) (fun x hx => by
        rw [hM6] at hx
        rcases List.mem_append.1 hx with hx | hx
        · exact HR6.out x hx
        · exact HRB.out x hx)
      obtain ⟨ds, hds⟩ : ∃ ds, ds = digest (P6 ++ b) := ⟨_, rfl⟩
      rw [show digest M6 = ds by rw [hM6, hds]] at hc3
      have HC3 := Lib.hid hc3
      have HDS := Aside0.mk hds
      have HDL := Aside0.mk (show ds.length = 32 by rw [hds, digest_length])
      have HZ := Aside0.mk (show (bytesA ds).size = 32 by rw [bytesA_size, hds, digest_length])
      have HRD := Aside0.mk (show ∀ x ∈ ds, 0 ≤ x ∧ x ≤ 255 from fun x hx => by have := digest_range (P6 ++ b) x (hds ▸ hx); omega)
      clear hown hgr ho7 hc3 hds hM6
      go_wp2_with fail
      refine HC3.out.mono ?_
      rintro e w4 ⟨rfl, hb4⟩
      have HB4 := Aside0.mk (HB3.out.trans (hb4.mono HB3.out.size))
      have HO74 := Aside0.mk ((Keep.of_below hb4).row HO7.out (fun g hg hc => by have := (HO7.out.lt g hg).2; omega))
      clear hb4
      go_wp2_with (first
        | (refine store_new rfl 24 (.tmp 10) (.tmp 42) rfl w4 _ (bytesA ds) 24 rfl rfl (by rw [HZ.out]; exact HIN.out) (by rw [HZ.out]; rfl) (bytesA_one ds) ?_
           intro w5 hb5 hg5 hz5
           have HB5 := Aside0.mk (HB4.out.trans (hb5.mono HB4.out.size))
           have HG5 := Aside0.mk hg5
           have HO75 := Aside0.mk ((Keep.of_below hb5).row HO74.out (fun g hg hc => by have := (HO74.out.lt g hg).2; omega))
           have HS5 := Aside0.mk (show SrcB w5 (.slice (some ⟨w4.heap.size, 0, none⟩) 32 32) ds by have h := arr_src hg5 32; rw [HDL.out] at h; exact h)
           have HPB5 := Aside0.mk HB5.out.size
           have HPL5 := Aside0.mk (show P7.length + ds.length ≤ 1000000000 by have := HL7.out; have := HDL.out; omega)
           clear hb5 hg5 hz5)
        | (at_builtin; refine append_src w2.heap.size rfl (.tmp 43) (.tmp 44) rfl _ P7 ds (some ⟨w4.heap.size, 0, none⟩) 32 32 rfl rfl HO75.out HS5.out HDL.out.symm HPB5.out HPL5.out ?_))
      intro v6 w6 hown hgr
      obtain ⟨M7, hM7⟩ : ∃ l, l = P7 ++ ds := ⟨_, rfl⟩
      rw [← List.length_append, ← hM7] at hown
      obtain ⟨A6, c6, e6⟩ := row_form hown
      subst e6
      have HB6 := Aside0.mk (show Below w2.heap.size w2 w6 from HB5.out.grown hgr HPB5.out (fun k hk => (HO75.out.lt k hk).1))
      have hc6 := ref_calls A6 c6 M7 w6 (SrcB.of_row hown) (by rw [hM7, List.length_append]; have := HL7.out; have := HDL.out; omega) (fun x hx => by
        rw [hM7] at hx
        rcases List.mem_append.1 hx with hx | hx
        · exact HR7.out x hx
        · exact HRD.out x hx)
      obtain ⟨es, hes⟩ : ∃ es, es = digest (P7 ++ ds) := ⟨_, rfl⟩
      rw [show digest M7 = es by rw [hM7, hes]] at hc6
      have HC6 := Lib.hid hc6
      have HES := Aside0.mk (show es = codeOf key b by unfold codeOf; rw [HKO.out, ← HP6.out, ← HP7.out, ← HDS.out]; exact hes)
      have HEZ := Aside0.mk (show (bytesA es).size = 32 by rw [bytesA_size, hes, digest_length])
      clear hown hgr hc6 hes hM7
      go_wp2_with fail
      refine HC6.out.mono ?_
      rintro e w7 ⟨rfl, hb7⟩
      have HB7 := Aside0.mk (HB2.out.trans ((HB6.out.trans (hb7.mono HB6.out.size)).mono HB2.out.size))
      obtain ⟨cs, hcs, hcz⟩ := HR2.out
      have HCS := Aside0.mk (show w7.heap[w.heap.size]? = some (.cells cs 24 (0, 0)) from ((HB6.out.trans (hb7.mono HB6.out.size)).block _ (blk_lt hcs)).trans hcs)
      have HCZ := Aside0.mk hcz
      clear hb7 hcs hcz
      go_wp2_with (refine wpList_store_row rfl 24 (.tmp 4) (.tmp 46) rfl w.heap.size (bytesA es) rfl rfl 24 cs HCS.out (by rw [HEZ.out]; exact HIN.out) (by rw [HEZ.out]; exact HCZ.out) (bytesA_one es) ?_)
      refine bodyPost_ret (v := .agg (bytesA es)) (results_cell_row (p := 4) (ty := 24) rfl _ _ w.heap.size 24 (bytesA es) (0, 0) _ rfl (setRow_heap _ _ _ _ _ _ HCS.out) Try.underlying24 rfl (by rw [HEZ.out]; exact HIN.out)) rfl ⟨by rw [HES.out], below_setRow HB7.out (Nat.le_refl _) _⟩
theorem refcode_calls (A : Option Addr) (c : Nat) (key : List Int) (u : Option Addr) (cu : Nat) (b : List Int) (w : World) (h : SrcB w (.slice A key.length c) key) (hu : SrcB w (.slice u b.length cu) b) (hl : key.length ≤ 80000) (hb : b.length ≤ 80000) (hrK : ∀ x ∈ key, 0 ≤ x ∧ x ≤ 255) (hrb : ∀ x ∈ b, 0 ≤ x ∧ x ≤ 255) :
    Calls Try.prog 19 #[.slice A key.length c, .slice u b.length cu] w fun e w' => e = .returned (.agg (bytesA (codeOf key b))) ∧ Below w.heap.size w w' := by
  by_cases h64 : key.length ≤ 64
  · exact refcode_short A c key u cu b w h hu h64 hb hrK hrb
  · exact refcode_long A c key u cu b w h hu (by omega) (by omega) hb hrK hrb
end Go.Proofs.Ytjlnbklendkflaa
