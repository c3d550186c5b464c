/- chunk.Pack and chunk.Size, walked. -/
import Derived.Test.YtfanomllfgoakaaChunkD
set_option linter.unusedVariables false
set_option linter.unusedSimpArgs false
namespace Go.Proofs.Ytfanomllfgoakaa
open Go.RowKit Go.Proofs.YtfanomllfgoakaaW.PrintWords Go.Proofs.YtfanomllfgoakaaW.PrintLast Go.Proofs.YtfanomllfgoakaaW.PrintMore
open Go.Proofs.Ytfanomllfgoakaa.BitsMath Go.Proofs.Ytfanomllfgoakaa.ChunkMath

theorem encTail_snoc : ∀ (r : List Pt) (a p q : Pt), encTail a ((r ++ [p]) ++ [q]) = encTail a (r ++ [p]) ++ (ChunkMath.own (q.at_ - p.at_ - 1).toNat ++ ChunkMath.own (zig (w64 (q.v - p.v))))
  | [], a, p, q => by simp [encTail]
  | x :: r, a, p, q => by
    have ih := encTail_snoc r x p q
    simp only [List.cons_append, encTail]
    rw [ih]
    simp only [List.append_assoc]
theorem encAll_snoc (l : List Pt) (p q : Pt) : encAll ((l ++ [p]) ++ [q]) = encAll (l ++ [p]) ++ (ChunkMath.own (q.at_ - p.at_ - 1).toNat ++ ChunkMath.own (zig (w64 (q.v - p.v)))) := by
  cases l with
  | nil => simp [encAll, encTail]
  | cons a r =>
    simp only [List.cons_append, encAll]
    rw [encTail_snoc r a p q]
    simp only [List.append_assoc]
theorem take_snoc {l : List Pt} {k : Nat} {p : Pt} (h : l[k]? = some p) : l.take (k + 1) = l.take k ++ [p] := by
  rw [List.take_add_one, h]; rfl
theorem enc_step {l : List Pt} {k : Nat} {p q : Pt} (hp : l[k]? = some p) (hq : l[k + 1]? = some q) :
    encAll (l.take (k + 1 + 1)) = encAll (l.take (k + 1)) ++ (ChunkMath.own (q.at_ - p.at_ - 1).toNat ++ ChunkMath.own (zig (w64 (q.v - p.v)))) := by
  rw [take_snoc hq, take_snoc hp, encAll_snoc]
theorem enc_one {l : List Pt} {p : Pt} (hp : l[0]? = some p) : encAll (l.take (0 + 1)) = bitsOf p.at_.toNat 41 ++ bitsOf (zig p.v) 64 := by
  rw [take_snoc hp]; simp [encAll, encTail]
theorem own_length (x : Nat) (h : x < 18446744073709551616) : (ChunkMath.own x).length ≤ 71 := by
  have := blen_64 x h
  unfold ChunkMath.own
  rw [List.length_append, bitsOf_length, bitsOf_length]; omega
theorem zig_w64 (n : Int) : zig (w64 n) < 18446744073709551616 := zig_lt _ (w64_in n)
theorem encTail_len : ∀ (r : List Pt) (a : Pt), okPt a → (∀ q ∈ r, okPt q) → (encTail a r).length ≤ 142 * r.length
  | [], _, _, _ => by simp [encTail]
  | q :: r, a, ha, hr => by
    have hq := hr q List.mem_cons_self
    have ih := encTail_len r q hq fun x hx => hr x (List.mem_cons_of_mem _ hx)
    have h1 := own_length (q.at_ - a.at_ - 1).toNat (by have := ha.1; have := hq.2.1; unfold maxT at this; omega)
    have h2 := own_length _ (zig_w64 (q.v - a.v))
    simp only [encTail, List.length_append, List.length_cons]
    omega
theorem encAll_len (l : List Pt) (h : ∀ q ∈ l, okPt q) : (encAll l).length ≤ 142 * l.length := by
  cases l with
  | nil => simp [encAll]
  | cons a r =>
    have h1 := encTail_len r a (h a List.mem_cons_self) fun q hq => h q (List.mem_cons_of_mem _ hq)
    simp only [encAll, List.length_append, bitsOf_length, List.length_cons]
    omega
theorem encTake_len (l : List Pt) (h : ∀ q ∈ l, okPt q) (k : Nat) : (bitsOf l.length 16 ++ encAll (l.take k)).length ≤ 142 * l.length + 16 := by
  have h1 := encAll_len (l.take k) fun q hq => h q (List.mem_of_mem_take hq)
  have h2 : (l.take k).length ≤ l.length := by rw [List.length_take]; omega
  rw [List.length_append, bitsOf_length]
  omega
theorem add_zero2 (ad : Addr) : ad.add (0 * 2) = ad := rfl
/-- What the writing of a chunk keeps. -/
structure PInv (B p : Nat) (bs : List Bool) (w wr : World) : Prop where
  is : IsW p bs wr
  bel : Below B w wr
  foot : ∀ i, WFoot p wr i → B ≤ i
theorem PInv.step {B p : Nat} {bs bs' : List Bool} {w wr w2 : World} {o : Obj} (h : PInv B p bs w wr) (hB : B ≤ w.heap.size) (st : WStep p (wr.alloc o) w2 bs') : PInv B p bs' w w2 := by
  have k : Keep (fun _ => False) wr (wr.alloc o) := (Keep.refl _ _).alloc o
  have hf : ∀ i, WFoot p (wr.alloc o) i → B ≤ i := fun i hi => h.foot i (((h.is.kept k fun _ _ h => h).2 i).1 hi)
  have hs : B ≤ wr.heap.size := Nat.le_trans hB h.bel.size
  refine ⟨st.is, Keep.below_trans (h.bel.alloc hs o) st.keep (fun i _ hi => hf i hi) hB, fun i hi => (st.foot i hi).elim (hf i) fun hc => ?_⟩
  simp at hc
  omega
theorem PInv.drew {B p : Nat} {bs : List Bool} {w wr : World} (h : PInv B p bs w wr) : PInv B p bs w wr.drew := ⟨h.is, h.bel.drew, h.foot⟩
theorem WStep.undrew {p : Nat} {bs : List Bool} {w w1 : World} (h : WStep p w.drew w1 bs) : WStep p w w1 bs := ⟨h.is, ⟨h.keep.os, h.keep.tape, h.keep.output, h.keep.size, h.keep.block⟩, h.foot⟩
theorem WStep.drew {p : Nat} {bs : List Bool} {w w1 : World} (h : WStep p w w1 bs) : WStep p w w1.drew bs := ⟨h.is, h.keep.drew, h.foot⟩
theorem foot_alloc2 {p : Nat} {bs : List Bool} {w : World} (h : IsW p bs w) (o : Obj) {i : Nat} (hi : WFoot p (w.alloc o) i) : i < w.heap.size := by
  have k : Keep (fun _ => False) w (w.alloc o) := (Keep.refl _ _).alloc o
  exact h.foot_lt (((h.kept k fun _ _ h => h).2 i).1 hi)
theorem bread_alloc {w : World} {p : Addr} {v : Value} (h : w.cell? p = some v) (o : Obj) : (w.alloc o).cell? p = some v := bread ((Below.refl _ _).alloc (Nat.le_refl _) o) h
theorem foot_fresh {p : Nat} {bs : List Bool} {w : World} (h : IsW p bs w) (o : Obj) : ¬ WFoot p (w.alloc o) w.heap.size := fun hc => Nat.lt_irrefl _ (foot_alloc2 h o hc)
theorem SrcP.form {w : World} {v : Value} {l : List Pt} (h : SrcP w v l) : ∃ A c, v = .slice A l.length c := by
  rcases h with ⟨c, rfl, rfl⟩ | ⟨ad, c, rfl, _⟩
  · exact ⟨none, c, rfl⟩
  · exact ⟨some ad, c, rfl⟩
theorem SrcP.cells {w : World} {A : Option Addr} {n c : Nat} {l : List Pt} (h : SrcP w (.slice A n c) l) (h0 : 0 < l.length) : ∃ ad, A = some ad ∧ ∀ (j : Nat) (x : Pt), l[j]? = some x → w.cell? (ad.add (j * 2)) = some (.int .i64 x.at_) ∧ w.cell? ⟨(ad.add (j * 2)).block, (ad.add (j * 2)).off + 1, none⟩ = some (.int .i64 x.v) := by
  rcases h with ⟨c, e, rfl⟩ | ⟨ad, c, e, hc⟩
  · cases h0
  · injection e with e
    exact ⟨ad, e, hc⟩
set_option maxHeartbeats 1000000 in
theorem cpack_bad (v : Value) (l : List Pt) (w : World) (h : SrcP w v l) (hl : l.length ≤ 60000) (ht : tell l ≠ 0) :
    Calls Try.prog 27 #[v] w fun e w' => e = .returned (.tuple #[.slice none 0 0, .int .i64 (tell l : Int)]) ∧ Below w.heap.size w w' := by
  have HS := Aside0.mk h
  obtain ⟨A, c, rfl⟩ := h.form
  clear h
  obtain ⟨t, hT⟩ : ∃ t, t = tell l := ⟨_, rfl⟩
  have hcall := rightP_calls _ l w HS.out (by omega)
  rw [← hT] at hcall ht ⊢
  have HC := Lib.hid hcall
  have d1 : ((t : Int) != 0) = true := by simp; exact ht
  clear hcall hT ht
  go_enter Try.func27, Try.ntmps27
  go_wp2_with fail
  refine HC.out.mono ?_
  rintro e w1 ⟨rfl, h1⟩
  have H1 := Aside0.mk h1
  clear h1
  go_wp2
  go_ret2
  exact ⟨rfl, H1.out⟩
set_option maxHeartbeats 8000000 in
theorem cpack_ok (v : Value) (l : List Pt) (w : World) (h : SrcP w v l) (hl : l.length ≤ 1000) (hg : ∀ x ∈ l, okPt x) (hr : rises l) :
    Calls Try.prog 27 #[v] w fun e w' => ∃ u, e = .returned (.tuple #[u, .int .i64 0]) ∧ w'.ownsRow w.heap.size 5 1 u (ChunkMath.bytes l).length (nums .u8 (ChunkMath.bytes l)) ∧ Below w.heap.size w w' := by
  have HS := Aside0.mk h
  have HG := Aside0.mk hg
  have HR := Aside0.mk hr
  obtain ⟨A, c, rfl⟩ := h.form
  clear h
  have hcall := rightP_calls _ l w HS.out (by omega)
  rw [tell_ok (fun x hx => ⟨(hg x hx).1, (hg x hx).2.1⟩) hr, show ((0 : Nat) : Int) = 0 from rfl] at hcall
  have HC := Lib.hid hcall
  have HL := Aside0.mk (fun k => encTake_len l hg k)
  clear hcall hg hr
  go_enter Try.func27, Try.ntmps27
  go_wp2_with fail
  refine HC.out.mono ?_
  rintro e w1 ⟨rfl, h1⟩
  have H1 := Aside0.mk h1
  clear h1
  go_wp2_with fail
  have hput := put_ok w1.heap.size [] l.length 16 (w1.alloc (.cells #[.slice none 0 0, .int .i64 0] 27)) (by omega) (by omega) (by omega) (decide_eq_false (by have := (blen_le 16 l.length).2 (by omega); omega)) (IsW.new w1) (by simp)
  rw [List.nil_append, show (16 : Int).toNat = 16 from rfl] at hput
  have HP := Lib.hid hput
  clear hput
  refine HP.out.mono ?_
  rintro e w2 ⟨rfl, h2⟩
  have hw1 := H1.out.size
  have HI0 := Aside0.mk (show PInv w.heap.size w1.heap.size (bitsOf l.length 16 ++ encAll (l.take 0)) w w2 from by
    have hf : ∀ i, WFoot w1.heap.size (w1.alloc (.cells #[.slice none 0 0, .int .i64 0] 27)) i → w.heap.size ≤ i := fun i hi => by rw [WFoot.new w1 i hi]; exact hw1
    refine ⟨by simpa [encAll] using h2.is, Keep.below_trans (H1.out.alloc hw1 _) h2.keep (fun i _ hi => hf i hi) (Nat.le_refl _), fun i hi => (h2.foot i hi).elim (hf i) fun hc => ?_⟩
    simp at hc
    omega)
  clear h2
  go_wp2_with fail
  go_loopw [22] (fun v22 wr => ∃ j : Nat, j ≤ l.length ∧ v22 = .int .i64 (j : Int) ∧ Aside0 (PInv w.heap.size w1.heap.size (bitsOf l.length 16 ++ encAll (l.take j)) w wr)) (fun v _ => l.length - (intOf v).toNat)
  case atStart => exact ⟨0, by omega, rfl, HI0⟩
  case round =>
    obtain ⟨j, hj, hv, HI⟩ := hrel
    by_cases hlt : j < l.length
    · obtain ⟨ad, rfl, hc⟩ := HS.out.cells (by omega)
      obtain ⟨q, hq⟩ : ∃ x, l[j]? = some x := ⟨_, List.getElem?_eq_getElem hlt⟩
      have hqok := HG.out q (List.mem_of_getElem? hq)
      obtain ⟨a, b⟩ := q
      obtain ⟨ha0, ha1, hb⟩ := hqok
      simp only at ha0 ha1 hb
      have HB := Aside0.mk hb
      have hb0 := hb.1
      have hb1 := hb.2
      unfold maxT at ha1
      have ce0 := bread HI.out.bel (hc j _ hq).1
      have ce1 := bread HI.out.bel (hc j _ hq).2
      simp only at ce0 ce1
      have HF := Aside0.mk (foot_fresh HI.out.is (Obj.cells #[.int .i64 a, .int .i64 b] 68))
      have HIA := Aside0.mk (HI.out.is.alloc (Obj.cells #[.int .i64 a, .int .i64 b] 68))
      have HCC := Aside0.mk hc
      have HLj := Aside0.mk (HL.out j)
      clear hb hc
      cases j with
      | zero =>
        obtain rfl := hv
        obtain ⟨X, rfl⟩ := Int.eq_ofNat_of_zero_le ha0
        have HQ := Aside0.mk hq
        rw [add_zero2] at ce0 ce1
        have hput := put_ok w1.heap.size _ X 41 _ (by omega) (by omega) (by omega) (decide_eq_false (by have := (blen_le 41 X).2 (by omega); omega)) HIA.out (by have := HLj.out; omega)
        have HP1 := Lib.hid hput
        clear hput hq
        go_wp2_with fail
        refine HP1.out.mono ?_
        rintro e w3 ⟨rfl, h3⟩
        have H3 := Aside0.mk h3
        have hk := h3.keep.blk (blk_new wr _) HF.out
        have cr1 : w3.cell? ⟨wr.heap.size, 1, none⟩ = some (.int .i64 b) := blk_cell hk 1
        clear h3 hk
        go_wp2_with fail
        refine (nfold_calls b _ HB.out).mono ?_
        rintro e w4 ⟨rfl, rfl⟩
        have hz := zig_lt b HB.out
        have hput := put_ok w1.heap.size _ (zig b) 64 _ hz (by omega) (by omega) (decide_eq_false (by have := blen_64 _ hz; omega)) H3.out.is (by have := HLj.out; rw [List.length_append, bitsOf_length]; omega)
        have HP2 := Lib.hid hput
        clear hput
        go_wp2_with fail
        refine HP2.out.mono ?_
        rintro e w4 ⟨rfl, h4⟩
        have HN := Aside0.mk (HI.out.step (Nat.le_refl _) (H3.out.trans h4))
        clear h4
        go_wp2
        go_roundw
        case rel =>
          refine ⟨0 + 1, by omega, by simp, ⟨?_⟩⟩
          have h := HN.out
          rw [enc_one HQ.out]
          simpa [encAll] using h
        case measure => simp [intOf]; omega
      | succ k =>
        obtain ⟨p, hp⟩ : ∃ x, l[k]? = some x := ⟨_, List.getElem?_eq_getElem (by omega)⟩
        have hpok := HG.out p (List.mem_of_getElem? hp)
        have hup := rises_ix l HR.out k _ _ hp hq
        obtain ⟨a', b'⟩ := p
        obtain ⟨ha0', ha1', hb'⟩ := hpok
        simp only at ha0' ha1' hb' hup
        unfold maxT at ha1'
        have HB' := Aside0.mk hb'
        have hb0' := hb'.1
        have hb1' := hb'.2
        have cp0 := bread HI.out.bel (HCC.out k _ hp).1
        have cp1 := bread HI.out.bel (HCC.out k _ hp).2
        simp only at cp0 cp1
        have HST := Aside0.mk (enc_step hp hq)
        have hvv := hv
        rw [show (((k + 1 : Nat)) : Int) = (k : Int) + 1 from rfl] at hvv
        subst hvv
        have ex : (((a - a' - 1).toNat : Nat) : Int) = IntKind.u64.wrap (wrap64 (wrap64 (a - a') - 1)) := by rw [u64w]; unfold wrap64; omega
        have hput := cput_calls w1.heap.size _ (a - a' - 1).toNat ((wr.alloc (Obj.cells #[.int .i64 a, .int .i64 b] 68)).drew) (by omega) HIA.out (by have := HLj.out; omega)
        rw [ex] at hput
        have HQ1 := Lib.hid hput
        clear hput ex
        have d0 : ((k : Int) + 1 == 0) = false := by simp; omega
        have hwk : wrap64 (k : Int) = (k : Int) := by unfold wrap64; omega
        have hkl : k < l.length := by omega
        go_wp2_with fail
        refine start_ (n := 13) (S := fun w' => (w'.cell? ⟨wr.heap.size, 0, none⟩ = some (.int .i64 a)) ∧ (w'.cell? (ad.add (k * 2)) = some (.int .i64 a'))) (ds := []) #[false, false, false, false, false, false, false, false, false, false, false, false, false] (by kernel_rfl) rfl rfl ⟨(by go_simp), (bread_alloc cp0 _)⟩ (fun hHeld => ?_)
        refine pure_ (i := 0) (N := some 39) (v := ?_) (a' := ?_) #[true, false, false, false, false, false, false, false, false, false, false, false, false] rfl rfl (by kernel_rfl) (fun _ _ _ h => h) (Or.inl ⟨by rfl, ?_⟩) ?_ ?_
        rotate_left
        · intro w'
          go_simp
          with_reducible rfl
        rotate_left
        · simp only [Act.put, List.setIfInBounds_toArray, List.set_cons_zero, List.set_cons_succ, i64_w, i32_w]
          rfl
        refine pure_ (i := 1) (N := some 40) (v := ?_) (a' := ?_) #[true, true, false, false, false, false, false, false, false, false, false, false, false] rfl rfl (by kernel_rfl) (fun _ _ _ h => h) (Or.inl ⟨by rfl, ?_⟩) ?_ ?_
        rotate_left
        · intro w'
          go_simp
          with_reducible rfl
        rotate_left
        · simp only [Act.put, List.setIfInBounds_toArray, List.set_cons_zero, List.set_cons_succ, i64_w, i32_w]
          rfl
        refine pure_ (i := 3) (N := some 42) (v := ?_) (a' := ?_) #[true, true, false, true, false, false, false, false, false, false, false, false, false] rfl rfl (by kernel_rfl) (fun _ _ _ h => h) (Or.inl ⟨by rfl, ?_⟩) ?_ ?_
        rotate_left
        · intro w'
          go_simp
          with_reducible rfl
        rotate_left
        · simp only [Act.put, List.setIfInBounds_toArray, List.set_cons_zero, List.set_cons_succ, i64_w, i32_w]
          rfl
        refine pure_ (i := 4) (N := some 43) (v := ?_) (a' := ?_) #[true, true, false, true, true, false, false, false, false, false, false, false, false] rfl rfl (by kernel_rfl) (fun _ _ _ h => h) (Or.inl ⟨by rfl, ?_⟩) ?_ ?_
        rotate_left
        · intro w'
          go_simp
          with_reducible rfl
        rotate_left
        · simp only [Act.put, List.setIfInBounds_toArray, List.set_cons_zero, List.set_cons_succ, i64_w, i32_w]
          rfl
        refine pure_ (i := 5) (N := some 44) (v := ?_) (a' := ?_) #[true, true, false, true, true, true, false, false, false, false, false, false, false] rfl rfl (by kernel_rfl) (fun _ _ _ h => h) (Or.inl ⟨by rfl, ?_⟩) ?_ ?_
        rotate_left
        · intro w'
          go_simp
          with_reducible rfl
        rotate_left
        · simp only [Act.put, List.setIfInBounds_toArray, List.set_cons_zero, List.set_cons_succ, i64_w, i32_w]
          rfl
        refine pure_ (i := 6) (N := some 45) (v := ?_) (a' := ?_) #[true, true, false, true, true, true, true, false, false, false, false, false, false] rfl rfl (by kernel_rfl) (fun _ _ _ h => h) (Or.inl ⟨by rfl, ?_⟩) ?_ ?_
        rotate_left
        · intro w'
          go_simp
          with_reducible rfl
        rotate_left
        · simp only [Act.put, List.setIfInBounds_toArray, List.set_cons_zero, List.set_cons_succ, i64_w, i32_w]
          rfl
        refine pure_ (i := 7) (N := some 46) (v := ?_) (a' := ?_) #[true, true, false, true, true, true, true, true, false, false, false, false, false] rfl rfl (by kernel_rfl) (fun _ _ _ h => h) (Or.inl ⟨by rfl, ?_⟩) ?_ ?_
        rotate_left
        · intro w'
          go_simp
          with_reducible rfl
        rotate_left
        · simp only [Act.put, List.setIfInBounds_toArray, List.set_cons_zero, List.set_cons_succ, i64_w, i32_w]
          rfl
        refine take_ (i := 2) (N := some 41) (v := ?_) (a' := ?_) #[true, true, true, true, true, true, true, true, false, false, false, false, false] rfl rfl (by kernel_rfl) (fun _ _ _ h => h) (Or.inl ⟨by rfl, ?_⟩) hHeld ?_ ?_
        rotate_left
        · rintro w' ⟨s0, s1⟩
          go_simp
          with_reducible rfl
        rotate_left
        · simp only [Act.put, List.setIfInBounds_toArray, List.set_cons_zero, List.set_cons_succ, i64_w, i32_w]
          rfl
        refine take_ (i := 8) (N := some 47) (v := ?_) (a' := ?_) #[true, true, true, true, true, true, true, true, true, false, false, false, false] rfl rfl (by kernel_rfl) (fun _ _ _ h => h) (Or.inl ⟨by rfl, ?_⟩) hHeld ?_ ?_
        rotate_left
        · rintro w' ⟨s0, s1⟩
          go_simp
          with_reducible rfl
        rotate_left
        · simp only [Act.put, List.setIfInBounds_toArray, List.set_cons_zero, List.set_cons_succ, i64_w, i32_w]
          rfl
        refine pure_ (i := 9) (N := some 48) (v := ?_) (a' := ?_) #[true, true, true, true, true, true, true, true, true, true, false, false, false] rfl rfl (by kernel_rfl) (fun _ _ _ h => h) (Or.inl ⟨by rfl, ?_⟩) ?_ ?_
        rotate_left
        · intro w'
          go_simp
          with_reducible rfl
        rotate_left
        · simp only [Act.put, List.setIfInBounds_toArray, List.set_cons_zero, List.set_cons_succ, i64_w, i32_w]
          rfl
        refine pure_ (i := 10) (N := some 49) (v := ?_) (a' := ?_) #[true, true, true, true, true, true, true, true, true, true, true, false, false] rfl rfl (by kernel_rfl) (fun _ _ _ h => h) (Or.inl ⟨by rfl, ?_⟩) ?_ ?_
        rotate_left
        · intro w'
          go_simp
          with_reducible rfl
        rotate_left
        · simp only [Act.put, List.setIfInBounds_toArray, List.set_cons_zero, List.set_cons_succ, i64_w, i32_w]
          rfl
        refine pure_ (i := 11) (N := some 50) (v := ?_) (a' := ?_) #[true, true, true, true, true, true, true, true, true, true, true, true, false] rfl rfl (by kernel_rfl) (fun _ _ _ h => h) (Or.inl ⟨by rfl, ?_⟩) ?_ ?_
        rotate_left
        · intro w'
          go_simp
          with_reducible rfl
        rotate_left
        · simp only [Act.put, List.setIfInBounds_toArray, List.set_cons_zero, List.set_cons_succ, i64_w, i32_w]
          rfl
        refine one_ (i := 12) (N := some 51) #[true, true, true, true, true, true, true, true, true, true, true, true, true] rfl rfl (by kernel_rfl) (by decide) (fun K hK => ?_)
        refine goes_ Try.func43 (by kernel_rfl) rfl #[.pointer (some ⟨w1.heap.size, 0, none⟩), .int .u64 (IntKind.u64.wrap (wrap64 (wrap64 (a - a') - 1)))] (by rfl) rfl rfl (by simp only [List.map_toArray, List.map_cons, List.map_nil]; rfl) ?_
        with_reducible refine (HQ1.out).mono ?_
        rintro e w4 ⟨rfl, h4⟩
        have H4 := Aside0.mk h4.undrew
        clear h4
        have hk := H4.out.keep.blk (blk_new wr _) HF.out
        have cr0 : w4.cell? ⟨wr.heap.size, 0, none⟩ = some (.int .i64 a) := blk_cell hk 0
        have HN1 := Aside0.mk (HI.out.step (Nat.le_refl _) H4.out)
        have cp4 := bread HN1.out.bel (HCC.out k _ hp).1
        refine ⟨_, rfl, ?_⟩
        refine hK.out _ _ ⟨cr0, cp4⟩ (fun hHeld => ?_)
        clear hK K
        refine norm_ (a' := ?_) ?_ ?_
        rotate_left
        · show Act.put _ (some 51) _ = _
          simp only [Act.put, List.setIfInBounds_toArray, List.set_cons_zero, List.set_cons_succ, i64_w, i32_w]
          rfl
        refine done_ (by kernel_rfl) ?_
        go_wp2_with fail
        have cr1 : w4.cell? ⟨wr.heap.size, 1, none⟩ = some (.int .i64 b) := blk_cell hk 1
        have cp3 := bread HN1.out.bel (HCC.out k _ hp).2
        have hL := own_length (a - a' - 1).toNat (by omega)
        have hput := cput_calls w1.heap.size _ (zig (w64 (b - b'))) w4.drew (zig_w64 _) H4.out.is (by have := HLj.out; rw [List.length_append]; omega)
        have HQ2 := Lib.hid hput
        clear hput
        refine start_ (n := 11) (S := fun w' => (w'.cell? ⟨wr.heap.size, 1, none⟩ = some (.int .i64 b)) ∧ (w'.cell? ⟨(ad.add (k * 2)).block, (ad.add (k * 2)).off + 1, none⟩ = some (.int .i64 b'))) (ds := []) #[false, false, false, false, false, false, false, false, false, false, false] (by kernel_rfl) rfl rfl ⟨cr1, cp3⟩ (fun hHeld => ?_)
        refine pure_ (i := 0) (N := some 52) (v := ?_) (a' := ?_) #[true, false, false, false, false, false, false, false, false, false, false] rfl rfl (by kernel_rfl) (fun _ _ _ h => h) (Or.inl ⟨by rfl, ?_⟩) ?_ ?_
        rotate_left
        · intro w'
          go_simp
          with_reducible rfl
        rotate_left
        · simp only [Act.put, List.setIfInBounds_toArray, List.set_cons_zero, List.set_cons_succ, i64_w, i32_w]
          rfl
        refine pure_ (i := 1) (N := some 53) (v := ?_) (a' := ?_) #[true, true, false, false, false, false, false, false, false, false, false] rfl rfl (by kernel_rfl) (fun _ _ _ h => h) (Or.inl ⟨by rfl, ?_⟩) ?_ ?_
        rotate_left
        · intro w'
          go_simp
          with_reducible rfl
        rotate_left
        · simp only [Act.put, List.setIfInBounds_toArray, List.set_cons_zero, List.set_cons_succ, i64_w, i32_w]
          rfl
        refine pure_ (i := 2) (N := some 54) (v := ?_) (a' := ?_) #[true, true, true, false, false, false, false, false, false, false, false] rfl rfl (by kernel_rfl) (fun _ _ _ h => h) (Or.inl ⟨by rfl, ?_⟩) ?_ ?_
        rotate_left
        · intro w'
          go_simp
          with_reducible rfl
        rotate_left
        · simp only [Act.put, List.setIfInBounds_toArray, List.set_cons_zero, List.set_cons_succ, i64_w, i32_w]
          rfl
        refine pure_ (i := 3) (N := some 55) (v := ?_) (a' := ?_) #[true, true, true, true, false, false, false, false, false, false, false] rfl rfl (by kernel_rfl) (fun _ _ _ h => h) (Or.inl ⟨by rfl, ?_⟩) ?_ ?_
        rotate_left
        · intro w'
          go_simp
          with_reducible rfl
        rotate_left
        · simp only [Act.put, List.setIfInBounds_toArray, List.set_cons_zero, List.set_cons_succ, i64_w, i32_w]
          rfl
        refine pure_ (i := 4) (N := some 56) (v := ?_) (a' := ?_) #[true, true, true, true, true, false, false, false, false, false, false] rfl rfl (by kernel_rfl) (fun _ _ _ h => h) (Or.inl ⟨by rfl, ?_⟩) ?_ ?_
        rotate_left
        · intro w'
          go_simp
          with_reducible rfl
        rotate_left
        · simp only [Act.put, List.setIfInBounds_toArray, List.set_cons_zero, List.set_cons_succ, i64_w, i32_w]
          rfl
        refine pure_ (i := 5) (N := some 57) (v := ?_) (a' := ?_) #[true, true, true, true, true, true, false, false, false, false, false] rfl rfl (by kernel_rfl) (fun _ _ _ h => h) (Or.inl ⟨by rfl, ?_⟩) ?_ ?_
        rotate_left
        · intro w'
          go_simp
          with_reducible rfl
        rotate_left
        · simp only [Act.put, List.setIfInBounds_toArray, List.set_cons_zero, List.set_cons_succ, i64_w, i32_w]
          rfl
        refine pure_ (i := 7) (N := some 59) (v := ?_) (a' := ?_) #[true, true, true, true, true, true, false, true, false, false, false] rfl rfl (by kernel_rfl) (fun _ _ _ h => h) (Or.inl ⟨by rfl, ?_⟩) ?_ ?_
        rotate_left
        · intro w'
          go_simp
          with_reducible rfl
        rotate_left
        · simp only [Act.put, List.setIfInBounds_toArray, List.set_cons_zero, List.set_cons_succ, i64_w, i32_w]
          rfl
        refine take_ (i := 6) (N := some 58) (v := ?_) (a' := ?_) #[true, true, true, true, true, true, true, true, false, false, false] rfl rfl (by kernel_rfl) (fun _ _ _ h => h) (Or.inl ⟨by rfl, ?_⟩) hHeld ?_ ?_
        rotate_left
        · rintro w' ⟨s0, s1⟩
          go_simp
          with_reducible rfl
        rotate_left
        · simp only [Act.put, List.setIfInBounds_toArray, List.set_cons_zero, List.set_cons_succ, i64_w, i32_w]
          rfl
        refine take_ (i := 8) (N := some 60) (v := ?_) (a' := ?_) #[true, true, true, true, true, true, true, true, true, false, false] rfl rfl (by kernel_rfl) (fun _ _ _ h => h) (Or.inl ⟨by rfl, ?_⟩) hHeld ?_ ?_
        rotate_left
        · rintro w' ⟨s0, s1⟩
          go_simp
          with_reducible rfl
        rotate_left
        · simp only [Act.put, List.setIfInBounds_toArray, List.set_cons_zero, List.set_cons_succ, i64_w, i32_w]
          rfl
        refine one_ (i := 9) (N := some 61) #[true, true, true, true, true, true, true, true, true, true, false] rfl rfl (by kernel_rfl) (by decide) (fun K hK => ?_)
        refine goes_ Try.func44 (by kernel_rfl) rfl #[.int .i64 b', .int .i64 b] (by rfl) rfl rfl (by simp only [List.map_toArray, List.map_cons, List.map_nil]; rfl) ?_
        with_reducible refine (change_calls b' b _ HB'.out HB.out).mono ?_
        rintro e w5 ⟨rfl, rfl⟩
        refine ⟨_, rfl, ?_⟩
        refine hK.out _ _ ⟨hHeld.1, hHeld.2⟩ (fun hHeld => ?_)
        clear hK K
        refine norm_ (a' := ?_) ?_ ?_
        rotate_left
        · show Act.put _ (some 61) _ = _
          simp only [Act.put, List.setIfInBounds_toArray, List.set_cons_zero, List.set_cons_succ, i64_w, i32_w]
          rfl
        refine one_ (i := 10) (N := some 62) #[true, true, true, true, true, true, true, true, true, true, true] rfl rfl (by kernel_rfl) (by decide) (fun K hK => ?_)
        refine goes_ Try.func43 (by kernel_rfl) rfl #[.pointer (some ⟨w1.heap.size, 0, none⟩), .int .u64 (zig (w64 (b - b')) : Int)] (by rfl) rfl rfl (by simp only [List.map_toArray, List.map_cons, List.map_nil]; rfl) ?_
        with_reducible refine (HQ2.out).mono ?_
        rintro e w5 ⟨rfl, h5⟩
        have H5 := Aside0.mk (H4.out.trans h5.undrew)
        clear h5
        have hk5 := H5.out.keep.blk (blk_new wr _) HF.out
        have cr5 : w5.cell? ⟨wr.heap.size, 1, none⟩ = some (.int .i64 b) := blk_cell hk5 1
        have HN2 := Aside0.mk (HI.out.step (Nat.le_refl _) H5.out)
        have cp5 := bread HN2.out.bel (HCC.out k _ hp).2
        refine ⟨_, rfl, ?_⟩
        refine hK.out _ _ ⟨cr5, cp5⟩ (fun hHeld => ?_)
        clear hK K
        refine norm_ (a' := ?_) ?_ ?_
        rotate_left
        · show Act.put _ (some 62) _ = _
          simp only [Act.put, List.setIfInBounds_toArray, List.set_cons_zero, List.set_cons_succ, i64_w, i32_w]
          rfl
        refine done_ (by kernel_rfl) ?_
        go_wp2
        go_roundw
        case rel =>
          refine ⟨k + 1 + 1, by omega, by simp, ⟨?_⟩⟩
          have h := HN2.out
          rw [HST.out]
          simpa only [List.append_assoc] using h
        case measure => simp [intOf]; omega
    · have hjl : j = l.length := by omega
      subst hv
      subst hjl
      have HBY := Aside0.mk (bytesW_calls w1.heap.size _ wr HI.out.is (by have := HL.out l.length; omega))
      have d2 : decide ((l.length : Int) < (l.length : Int)) = false := decide_eq_false (by omega)
      go_wp2_with fail
      refine HBY.out.mono ?_
      rintro e w3 ⟨u, rfl, hu, h3⟩
      have HU := Aside0.mk hu
      have H3 := Aside0.mk h3
      clear hu h3
      go_wp2
      go_ret2
      have hw := HI.out.bel.size
      have h := HU.out
      rw [List.take_length] at h
      exact ⟨u, rfl, row_mono h hw, HI.out.bel.trans (H3.out.mono hw)⟩
set_option maxHeartbeats 1000000 in
theorem csize_bad (v : Value) (l : List Pt) (w : World) (h : SrcP w v l) (hl : l.length ≤ 60000) (ht : tell l ≠ 0) :
    Calls Try.prog 28 #[v] w fun e w' => e = .returned (.int .i64 0) ∧ Below w.heap.size w w' := by
  have HC := Lib.hid (cpack_bad v l w h hl ht)
  clear h ht
  go_enter Try.func28, Try.ntmps28
  go_wp2_with fail
  refine HC.out.mono ?_
  rintro e w1 ⟨rfl, h1⟩
  have H1 := Aside0.mk h1
  clear h1
  go_wp2
  go_ret
  exact ⟨rfl, H1.out⟩
set_option maxHeartbeats 1000000 in
theorem csize_ok (v : Value) (l : List Pt) (w : World) (h : SrcP w v l) (hl : l.length ≤ 1000) (hg : ∀ x ∈ l, okPt x) (hr : rises l) :
    Calls Try.prog 28 #[v] w fun e w' => e = .returned (.int .i64 ((ChunkMath.bytes l).length : Int)) ∧ Below w.heap.size w w' := by
  have HC := Lib.hid (cpack_ok v l w h hl hg hr)
  clear h hg hr
  obtain ⟨n, hn⟩ : ∃ n, n = (ChunkMath.bytes l).length := ⟨_, rfl⟩
  rw [← hn] at HC ⊢
  have HN := Aside0.mk hn
  clear hn
  go_enter Try.func28, Try.ntmps28
  go_wp2_with fail
  refine HC.out.mono ?_
  rintro e w1 ⟨u, rfl, hu, h1⟩
  obtain ⟨A, c, rfl⟩ := row_form hu
  have H1 := Aside0.mk h1
  clear h1 hu
  go_wp2
  go_ret
  exact ⟨rfl, H1.out⟩
end Go.Proofs.Ytfanomllfgoakaa
