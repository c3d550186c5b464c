/- The law ChunkCuts. -/
import Derived.Test.YtfanomllfgoakaaPacks
set_option linter.unusedVariables false
set_option linter.unusedSimpArgs false
namespace Go.Proofs.Ytfanomllfgoakaa
open Go.RowKit Go.Proofs.YtfanomllfgoakaaW.PrintWords Go.Proofs.YtfanomllfgoakaaW.PrintLast Go.Proofs.YtfanomllfgoakaaW.PrintMore
open Go.Proofs.Ytfanomllfgoakaa.BitsMath Go.Proofs.Ytfanomllfgoakaa.ChunkMath

theorem bytes_small (l : List Pt) (hl : ∀ q ∈ l, okPt q) (hn : l.length ≤ 60) : (ChunkMath.bytes l).length ≤ 90000 := by
  have h3 := pack_length (enc l)
  have h4 := encTake_len l hl l.length
  rw [List.take_length] at h4
  have h5 : (enc l).length ≤ 142 * l.length + 16 := h4
  have h7 : (ChunkMath.bytes l).length = ((enc l).length + 7) / 8 := h3
  omega
theorem bytesOf_strOfNums (xs : List Int) (h : ∀ x ∈ xs, 0 ≤ x ∧ x ≤ 255) : bytesOf (strOfNums xs) = xs := by
  unfold bytesOf strOfNums
  simp only [List.map_map]
  refine Eq.trans (List.map_congr_left (g := id) fun x hx => ?_) (List.map_id _)
  have := h x hx
  simp
  omega
set_option maxRecDepth 100000 in
set_option maxHeartbeats 8000000 in
theorem cuts_calls (v : Value) (l : List Pt) (x : Int) (w : World) (h : SrcP w v l) (hlm : l.length ≤ 9223372036854775807) (hi64 : ∀ x ∈ l, I64 x.v) (hx0 : 0 ≤ x) (hx1 : x ≤ 65535) :
    Calls Try.prog 8 #[v, .int .u16 x] w fun e w' => e = .returned (.bool true) ∧ Below w.heap.size w w' := by
  have HS := Aside0.mk h
  have HI := Aside0.mk hi64
  obtain ⟨A, c, rfl⟩ := h.form
  clear h hi64
  by_cases hl : l.length ≤ 60
  · have d0 : decide (60 < (l.length : Int)) = false := decide_eq_false (by omega)
    by_cases ht : tell l = 0
    · have hz := tell_zero ht
      have hg : ∀ x ∈ l, okPt x := fun x hx => ⟨(hz.1 x hx).1, (hz.1 x hx).2, HI.out x hx⟩
      have hr := hz.2
      have HG := Aside0.mk hg
      have HR := Aside0.mk hr
      have HT := Aside0.mk ht
      clear hz hg hr ht
      go_enter Try.func8, Try.ntmps8
      go_wp2_with fail
      refine (lives4_calls _).mono ?_
      rintro e w1 ⟨rfl, h1⟩
      have H1 := Aside0.mk h1
      have hc2 := rightL_calls _ l w1 (HS.out.below h1) (by omega)
      rw [HT.out, show ((0 : Nat) : Int) = 0 from rfl] at hc2
      have HC2 := Lib.hid hc2
      clear h1 hc2
      go_wp2_with fail
      refine HC2.out.mono ?_
      rintro e w2 ⟨rfl, h2⟩
      have H2 := Aside0.mk (H1.out.trans (h2.mono H1.out.size))
      have hby := bytes_src l HG.out HR.out (by omega)
      obtain ⟨s, hs⟩ : ∃ s, s = strOfNums (ChunkMath.bytes l) := ⟨_, rfl⟩
      have hc3 := lbytes_calls _ l w2 (HS.out.below H2.out) (by omega) HG.out HR.out
      rw [← hs] at hc3
      have HC3 := Lib.hid hc3
      have hbo : bytesOf s = ChunkMath.bytes l := by rw [hs]; exact bytesOf_strOfNums _ (pack_range (enc l))
      have hsz : s.size = (ChunkMath.bytes l).length := by rw [← hbo, bytesOf_length]
      have HBO := Aside0.mk hbo
      have HSZ := Aside0.mk hsz
      have hs2 : 2 ≤ s.size := by rw [hsz]; exact hby.1
      have hs3 : s.size ≤ 100000 := by rw [hsz]; exact hby.2.1
      have HBS := Aside0.mk (show (ChunkMath.bytes l).length ≤ 90000 from bytes_small l HG.out hl)
      have kb := fun W => print_bytes (P := Try.prog) 9 25 5 Try.underlying9 Try.underlying25 Try.underlying5 s W
      clear h2 hc3 hbo hsz hs hby
      go_wp2_with fail
      refine HC3.out.mono ?_
      rintro e w3 ⟨rfl, h3⟩
      have H3 := Aside0.mk (H2.out.trans (h3.mono H2.out.size))
      clear h3
      have hg1 := grownCap_ge w3 s.size 0 5
      obtain ⟨G, hG⟩ : ∃ G, G = grownCap w3 s.size 0 5 := ⟨_, rfl⟩
      have kb3 := kb w3
      rw [← hG] at kb3 hg1
      clear kb hG
      have hq0 : 0 ≤ x % (s.size : Int) := Int.emod_nonneg _ (by omega)
      have hq1 : x % (s.size : Int) < (s.size : Int) := Int.emod_lt_of_pos _ (by omega)
      have hq2 : x % (s.size : Int) ≤ (G : Int) := by omega
      have hq3 : (x % (s.size : Int)).toNat ≤ G := by omega
      have hs0 : ((s.size : Int) == 0) = false := beq_eq_false_iff_ne.2 (by omega)
      have HW3 := Aside0.mk (bytes_below H3.out H3.out.size 5 s)
      have hr0 := bytes_reads w3 5 s (by omega)
      rw [HBO.out, HSZ.out] at hr0
      have HR0 := Aside0.mk hr0
      obtain ⟨K, hK⟩ : ∃ K, K = (x % (s.size : Int)).toNat := ⟨_, rfl⟩
      rw [← hK] at hq3
      have hK2 : K < (ChunkMath.bytes l).length := by have := HSZ.out; omega
      have hlk : ((ChunkMath.bytes l).take K).length = K := by rw [List.length_take]; omega
      have hc4 := unpack_calls _ ((ChunkMath.bytes l).take K) _ (src_of (cap := G) (reads_take hr0 K (by omega))) (by omega) (fun y hy => pack_range (enc l) y (List.mem_of_mem_take hy))
      rw [hlk, hK] at hc4
      have HC4 := Lib.hid hc4
      have HCUT := Aside0.mk (show dec (unpack ((ChunkMath.bytes l).take (x % (s.size : Int)).toNat)) = .error 4 by rw [← hK]; exact dec_bytes_cut l K HG.out HR.out (by omega) hK2)
      rw [hK] at hq3
      clear hc4 hr0 hK2 hlk hK
      go_wp2_with fail
      refine HC4.out.mono ?_
      rintro e w4 ⟨hu, h4⟩
      have hu' : e = .returned (.tuple #[.slice none 0 0, .int .i64 4]) := by unfold UnpR at hu; rw [HCUT.out] at hu; exact hu
      subst hu'
      have H4 := Aside0.mk (HW3.out.trans (h4.mono HW3.out.size))
      have HR4 := Aside0.mk (HR0.out.below h4)
      clear hu h4 HC4 HC3 HC2
      have h4z := H4.out.size
      have HO4 := Aside0.mk (show (w4.alloc (Obj.cells #[] 5)).ownsRow w.heap.size 5 1 (.slice (some ⟨w4.heap.size, 0, none⟩) 0 0) ([] : List Int).length (nums .u8 []) from ⟨by simp [nums], .inr ⟨w4.heap.size, 0, #[], rfl, h4z, blk_new _ _, Nat.le_refl _, by decide, rfl, by simp [nums]⟩⟩)
      have HR5 := Aside0.mk (show ReadsInt (w4.alloc (Obj.cells #[] 5)) .u8 (some ⟨w3.heap.size, 0, none⟩) s.size (ChunkMath.bytes l) by rw [HSZ.out]; exact HR4.out.allocS _)
      have HB5 := Aside0.mk (H4.out.alloc h4z (Obj.cells #[] 5))
      have hz5 : w.heap.size ≤ (w4.alloc (Obj.cells #[] 5)).heap.size := HB5.out.size
      have HZ5 := Aside0.mk hz5
      clear hz5 h4z
      go_wp2_with (at_builtin; refine print_append_row w.heap.size rfl (.tmp 38) (.tmp 39) 25 5 .u8 1 rfl Try.underlying25 infoByte (by decide) _ [] (ChunkMath.bytes l) _ _ _ rfl rfl HO4.out HR5.out HB5.out HZ5.out (by simp; omega) ?_)
      intro v1 w5 hown hB5 _ _
      have HO5 := Aside0.mk hown
      have HB6 := Aside0.mk hB5
      have HZ6 := Aside0.mk hB5.size
      have hbl : ((ChunkMath.bytes l).length + 1) * 1 ≤ 140737488355328 := by have := HSZ.out; omega
      have HBL := Aside0.mk hbl
      clear hown hB5 hbl
      go_wp2_with (at_builtin; refine print_append_num w.heap.size rfl (.tmp 40) (.tmp 43) 25 5 .u8 1 rfl Try.underlying25 infoByte (by decide) _ (ChunkMath.bytes l) _ rfl rfl HO5.out HB6.out HZ6.out HBL.out ?_)
      intro v2 w6 hown hB7 _ _
      have HO7 := Aside0.mk hown
      have HB7 := Aside0.mk hB7
      have hlb : ((ChunkMath.bytes l ++ [x % 256]).length) ≤ 100000 + 1 := by rw [List.length_append]; have := HSZ.out; simp only [List.length_singleton]; omega
      have hrange : ∀ y ∈ ChunkMath.bytes l ++ [x % 256], 0 ≤ y ∧ y ≤ 255 := fun y hy => by
        rcases List.mem_append.1 hy with hy | hy
        · exact pack_range (enc l) y hy
        · rw [List.mem_singleton] at hy
          subst hy
          omega
      have hc7 := unpack_calls v2 (ChunkMath.bytes l ++ [x % 256]) w6 (SrcB.of_row (base := w.heap.size) (by rw [List.length_append]; exact hown)) (by have := HBS.out; rw [List.length_append]; simp only [List.length_singleton]; omega) hrange
      have HC7 := Lib.hid hc7
      have HLONG := Aside0.mk (dec_bytes_long l (x % 256) HG.out HR.out (by omega))
      clear hown hB7 hc7 hlb hrange
      go_wp2_with fail
      refine HC7.out.mono ?_
      rintro e w7 ⟨hu, h7⟩
      have hu' : e = .returned (.tuple #[.slice none 0 0, .int .i64 2]) := by unfold UnpR at hu; rw [HLONG.out] at hu; exact hu
      subst hu'
      have H7 := Aside0.mk (HB7.out.trans (h7.mono HB7.out.size))
      clear hu h7
      go_wp2
      go_ret
      exact ⟨rfl, H7.out⟩
    · obtain ⟨t, hT⟩ : ∃ t, t = tell l := ⟨_, rfl⟩
      rw [← hT] at ht
      have HT := Aside0.mk hT
      have d1 : ((t : Int) != 0) = true := by simp; exact ht
      clear ht hT
      go_enter Try.func8, Try.ntmps8
      go_wp2_with fail
      refine (lives4_calls _).mono ?_
      rintro e w1 ⟨rfl, h1⟩
      have H1 := Aside0.mk h1
      have hc2 := rightL_calls _ l w1 (HS.out.below h1) (by omega)
      rw [← HT.out] at hc2
      have HC2 := Lib.hid hc2
      clear h1 hc2
      go_wp2_with fail
      refine HC2.out.mono ?_
      rintro e w2 ⟨rfl, h2⟩
      have H2 := Aside0.mk (H1.out.trans (h2.mono H1.out.size))
      clear h2
      go_wp2_with fail
      refine (lives4_calls _).mono ?_
      rintro e w3 ⟨rfl, h3⟩
      have H3 := Aside0.mk (H2.out.trans (h3.mono H2.out.size))
      clear h3
      go_wp2
      go_ret
      exact ⟨rfl, H3.out⟩
  · have d0 : decide (60 < (l.length : Int)) = true := decide_eq_true (by omega)
    go_enter Try.func8, Try.ntmps8
    go_wp2_with fail
    refine (lives4_calls _).mono ?_
    rintro e w1 ⟨rfl, h1⟩
    have H1 := Aside0.mk h1
    clear h1
    go_wp2_with fail
    refine (lives4_calls _).mono ?_
    rintro e w2 ⟨rfl, h2⟩
    have H2 := Aside0.mk h2
    clear h2
    go_wp2
    go_ret
    exact ⟨rfl, H1.out.trans (H2.out.mono H1.out.size)⟩
theorem wf_u16 {x : Int} (h : (Lit.int .u16 x).wf = true) : 0 ≤ x ∧ x ≤ 65535 := by
  simp [Lit.wf, IntKind.min, IntKind.max, IntKind.bits, IntKind.signed] at h
  omega
theorem chunkCuts_walk (A0 : Option Addr) (len0 cap0 : Nat) (l0 : List ChunkMath.Pt) (a1 : Int) (W : World)
    (hr0 : ReadsRow (fun (p : ChunkMath.Pt) c => c = [.int .i64 p.f0, .int .i64 p.f1]) 2 W A0 len0 l0) (_ : len0 ≤ cap0) (hq0 : ∀ p ∈ l0, (Lit.int .i64 p.f0).wf = true ∧ (Lit.int .i64 p.f1).wf = true) (hw1 : (Lit.int .u16 a1).wf = true) :
    Calls Try.prog 8 #[.slice A0 len0 cap0, .int .u16 a1] W fun e w' => e = .returned (.bool true) ∧ Below W.heap.size W w' := by
  have e0 := hr0.1
  subst e0
  exact cuts_calls _ l0 a1 W (SrcP.of_reads hr0) hr0.2.1 (fun x hx => wf_i64 (hq0 x hx).2) (wf_u16 hw1).1 (wf_u16 hw1).2
end Go.Proofs.Ytfanomllfgoakaa
