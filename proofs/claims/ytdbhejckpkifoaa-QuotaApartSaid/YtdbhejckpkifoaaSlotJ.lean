/- The law SlotsTurn, walked. -/
import Derived.Test.YtdbhejckpkifoaaSlotI
import Derived.Lib.Hide
import Derived.LoopTactic
import Derived.Outline
import Derived.Laws.Rows
import Derived.Laws.CopyOwn
import Derived.WalkKit
set_option linter.unusedVariables false
set_option linter.unusedSimpArgs false
namespace Go.Proofs.Ytdbhejckpkifoaa
open Go.RowKit Go.Proofs.YtdbhejckpkifoaaW.PrintWords Go.Proofs.YtdbhejckpkifoaaW.PrintLast Go.Proofs.YtdbhejckpkifoaaW.PrintMore
open Go.Proofs.Ytdbhejckpkifoaa.PSlotsBack
attribute [local go_sem] max2_int min2_int max_two min_two max_three min_three max_four min_four

theorem keyOf_string_inv9 {key : Value} {kl : Lit} (h : Go.keyOf Try.prog 9 key = some kl) : ∃ s : ByteArray, key = .string s ∧ kl = litS s := by
  cases key <;> simp [Go.keyOf, Try.underlying9, mapKey] at h
  exact ⟨_, rfl, h.2.symm⟩
theorem key9 {s : ByteArray} (h : s.size ≤ 1000) : Go.keyOf Try.prog 9 (.string s) = some (litS s) := by
  exact WideMaps.keyOf_string_mk Try.underlying9 (by unfold maxLen; omega)
theorem run_mk35 (W : World) : Sem.run Try.prog (Instr.makeMap 35 none) W = .ok (.map (some W.heap.size)) (W.alloc (.map #[] 0)) := by
  simp [Instr.makeMap, run_underlying Try.underlying35]
theorem zero3 (W : World) : (zeroValue 3).run Try.prog W = .ok (.int .i64 0) W := by kernel_rfl
/-- What a name that is asked for comes to. -/
inductive Took (p : Nat) (L : List ByteArray) (s : ByteArray) (w w' : World) (r : Int) : List ByteArray → Prop
  | no (q : 0 < r) (h : Drawn0 w w') : Took p L s w w' r L
  | ok (i : Nat) (q : r = 0) (ho : ofI s L < 0) (hf : idxI ⟨#[]⟩ L = (i : Int)) (hn : s.toList ≠ []) (h : IsRow p (L.set i s) w') (k : Keep (fun g => g = p) w w') : Took p L s w w' r (L.set i s)
def TookE (p : Nat) (L : List ByteArray) (s : ByteArray) (w : World) (e : Ending) (w' : World) : Prop := ∃ (a r : Int) (L' : List ByteArray), e = .returned (.tuple #[.int .i64 a, .int .i64 r]) ∧ Took p L s w w' r L'
theorem take_any (p : Nat) (L : List ByteArray) (s : ByteArray) (hs : s.size ≤ 1000) (w : World) (h : IsRow p L w) : Calls Try.prog 13 #[.pointer (some ⟨p, 0, none⟩), .string s] w (TookE p L s w) := by
  obtain ⟨b, hb⟩ := right_total s hs
  cases b with
  | false => exact (take_wrong p L s 1100 w h hb).mono fun e w' ⟨he, hd⟩ => ⟨0, 15, L, he, .no (by omega) hd⟩
  | true =>
    by_cases ho : 0 ≤ ofI s L
    · exact (take_same p L s 1100 w h hb ho).mono fun e w' ⟨he, hd⟩ => ⟨0, 8, L, he, .no (by omega) hd⟩
    · by_cases hf : idxI ⟨#[]⟩ L < 0
      · exact (take_full p L s 1100 w h hb (by omega) hf).mono fun e w' ⟨he, hd⟩ => ⟨0, 6, L, he, .no (by omega) hd⟩
      · obtain ⟨i, hi⟩ : ∃ i : Nat, idxI ⟨#[]⟩ L = (i : Int) := ⟨(idxI ⟨#[]⟩ L).toNat, by omega⟩
        exact (take_ok p L s 1100 w i h hb (by omega) hi).mono fun e w' ⟨he, hr, hk⟩ => ⟨i, 0, _, he, .ok i rfl (by omega) hi (right_full s hb) hr hk⟩
set_option maxRecDepth 100000 in
set_option maxHeartbeats 16000000 in
theorem sturn_main (A : Option Addr) (ca : Nat) (l : List ByteArray) (n : Int) (w : World) (h : ReadsRow (fun (s : ByteArray) c => c = [.string s]) 1 w A l.length l) (hl : l.length ≤ 20) (hn : 0 ≤ n) :
    Calls Try.prog 4 #[.slice A l.length ca, .int .u64 n] w fun e w' => e = .returned (.bool true) ∧ Below w.heap.size w w' := by
  have HL := Aside0.mk h
  have d1 : decide (20 < (l.length : Int)) = false := decide_eq_false (by omega)
  clear h
  go_enter Try.func4, Try.ntmps4
  go_wp2_with fail
  refine (lives24_calls _).mono ?_
  rintro e w1 ⟨rfl, h1⟩
  have H1 := Aside0.mk h1
  clear h1
  go_wp2_with fail
  refine (rnew_calls w1).mono ?_
  rintro e w2 ⟨rfl, hrow, hb2⟩
  obtain ⟨p, hp⟩ : ∃ p, p = w1.heap.size := ⟨_, rfl⟩
  have HPW := Aside0.mk (show w.heap.size ≤ p by rw [hp]; exact H1.out.size)
  rw [← hp] at hrow ⊢
  have HR0 := Aside0.mk hrow
  have HB0 := Aside0.mk (show Below w.heap.size w w2 from H1.out.trans (hb2.mono H1.out.size))
  have HG0 := Aside0.mk grow_start
  have HC0 := Aside0.mk cnt_start
  have HS0 := Aside0.mk (show ∀ x ∈ List.replicate 8 (⟨#[]⟩ : ByteArray), x.size ≤ 60 from fun x hx => by rw [(List.mem_replicate.1 hx).2]; exact Nat.zero_le _)
  clear hrow hb2 hp
  go_wp2_with fail
  go_loopw [6, 36] (fun v6 v36 wr => ∃ (j c : Nat) (L : List ByteArray), j ≤ l.length ∧ c ≤ j ∧ v6 = .int .i64 (c : Int) ∧ v36 = .int .i64 (j : Int) ∧ Aside0 (cnt L = c) ∧ Aside0 (∀ x ∈ L, x.size ≤ 60) ∧ Aside0 (GRow L) ∧ Aside0 (IsRow p L wr) ∧ Aside0 (Below w.heap.size w wr)) (fun _ v _ => l.length - (intOf v).toNat)
  case atStart => exact ⟨0, 0, _, by omega, by omega, rfl, rfl, HC0, HS0, HG0, HR0, HB0⟩
  case round =>
    obtain ⟨j, c, L, hj, hc, rfl, rfl, HC, HS, HG, HI, HB⟩ := hrel
    by_cases hlt : j < l.length
    · obtain ⟨ad, rfl, hcell⟩ := HL.out.2.2 (by omega)
      obtain ⟨x, hx⟩ : ∃ x, l[j]? = some x := ⟨_, List.getElem?_eq_getElem hlt⟩
      obtain ⟨cs, _, rfl, hcj⟩ := hcell j x hx
      have hcj := hcj 0 (.string x) rfl
      rw [Nat.mul_one, Nat.add_zero] at hcj
      have cx : wr.cell? (ad.add j) = some (.string x) := by rw [HB.out.cell (World.block_lt_of_cell? w _ hcj)]; exact hcj
      have hjl : (j : Int) < (l.length : Int) := by omega
      clear hcell hcj hx
      by_cases hsz : x.size ≤ 60
      · have d2 : decide (60 < (x.size : Int)) = false := decide_eq_false (by omega)
        have HT := Lib.hid (take_any p L x (by omega) wr HI.out)
        have HIL := Aside0.mk hlt
        go_wp2_with fail
        refine HT.out.mono ?_
        rintro e w3 ⟨a, r, L', rfl, ht⟩
        cases ht with
        | no q hd =>
          obtain ⟨n3, rfl⟩ := hd
          have hr0 : (r == 0) = false := beq_eq_false_iff_ne.2 (by omega)
          have B3 := Aside0.mk (pw_below_drewN HB.out n3)
          have I3 := Aside0.mk (HI.out.drewN n3)
          clear q
          go_wp2
          go_roundw
          case rel => exact ⟨j + 1, c, L, by omega, by omega, rfl, by simp, HC, HS, HG, I3, B3⟩
          case measure => simp [intOf]; omega
        | ok i q ho hf hne hrow hk =>
          subst q
          have B3 := Aside0.mk (keep_below' HB.out hk HPW.out HB.out.size)
          have I3 := Aside0.mk hrow
          have G3 := Aside0.mk (HG.out.set hf ho hne)
          have S3 := Aside0.mk (show ∀ y ∈ L.set i x, y.size ≤ 60 from fun y hy => by
            rcases List.mem_or_eq_of_mem_set hy with h1 | rfl
            · exact HS.out y h1
            · exact hsz)
          have C3 := Aside0.mk (show cnt (L.set i x) = c + 1 by rw [cnt_set hf (by unfold fullB; simpa using hne), HC.out])
          clear ho hf hne hrow hk
          go_wp2
          go_roundw
          case rel => exact ⟨j + 1, c + 1, _, by omega, by omega, by simp, by simp, C3, S3, G3, I3, B3⟩
          case measure => simp [intOf]; omega
      · have d2 : decide (60 < (x.size : Int)) = true := decide_eq_true (by omega)
        go_wp2
        go_ret
        exact ⟨rfl, HB.out⟩
    · have hje : j = l.length := by omega
      subst hje
      obtain ⟨m, hm⟩ : ∃ m : Nat, n % 9223372036854775808 = (m : Int) := ⟨(n % 9223372036854775808).toNat, by omega⟩
      have hm63 : (m : Int) < 9223372036854775808 := by omega
      have hmt : Int.tmod n 9223372036854775808 = (m : Int) := by rw [Int.tmod_eq_emod_of_nonneg hn]; exact hm
      have hc8 : c ≤ 8 := by
        rw [← HC.out]
        unfold cnt
        have := List.countP_le_length (p := fun x : ByteArray => !x.toList.isEmpty) (l := L)
        rw [HG.out.len] at this
        exact this
      have km := fun W => run_mk35 W
      go_wp2_with fail
      clear km
      obtain ⟨b, hb⟩ : ∃ b, b = wr.heap.size := ⟨_, rfl⟩
      have HPB := Aside0.mk (show p < b by rw [hb]; exact blk_lt HI.out.blk)
      have HBW := Aside0.mk (show w.heap.size ≤ b by rw [hb]; exact HB.out.size)
      have HR1 := Aside0.mk (show IsRow p L (wr.alloc (.map #[] 0)) from ⟨blk_alloc HI.out.blk _, HI.out.len⟩)
      have HG1 := Aside0.mk (show (wr.alloc (.map #[] 0)).ownsMap Try.prog 9 (plainElem Try.prog 3) b 0 (mapN L m 0) by rw [hb]; exact World.ownsMap_made (H := Unit) wr Try.prog 9 (plainElem Try.prog 3))
      have HB1 := Aside0.mk (show Below w.heap.size w (wr.alloc (.map #[] 0)) from Below.alloc HB.out HB.out.size _)
      have hbe : wr.heap.size = b := hb.symm
      clear hb HI HB hm hmt hlt hj
      go_wp2_with fail
      rw [hbe]
      clear hbe
      go_loopw [12, 13, 57] (fun v12 v13 v57 wr => ∃ k : Nat, k ≤ 8 ∧ v12 = .int .u64 (metN L m k).1 ∧ v13 = .bool (metN L m k).2 ∧ v57 = .int .u64 (k : Int) ∧ Aside0 (IsRow p L wr) ∧ Aside0 (wr.ownsMap Try.prog 9 (plainElem Try.prog 3) b k (mapN L m k)) ∧ Aside0 (Below w.heap.size w wr)) (fun _ _ v _ => 8 - (intOf v).toNat)
      case atStart => exact ⟨0, by omega, rfl, rfl, rfl, HR1, HG1, HB1⟩
      case round =>
        obtain ⟨k, hk, rfl, rfl, rfl, HI, HM, HB⟩ := hrel
        obtain ⟨f, hf⟩ : ∃ f, f = metN L m k := ⟨_, rfl⟩
        rw [← hf]
        by_cases hlt : k < 8
        · have hk8 : (k : Int) < 8 := by omega
          have hw : IntKind.u64.wrap ((m : Int) + (k : Int)) = (m : Int) + (k : Int) := by rw [IntKind.wrap_u64]; omega
          have hkw : IntKind.u64.wrap ((k : Int) + 1) = (k : Int) + 1 := by rw [IntKind.wrap_u64]; omega
          have hc := turn_calls p L ((m : Int) + (k : Int)) wr HI.out (by omega)
          rw [show (((m : Int) + (k : Int)) % 8).toNat = (m + k) % 8 by omega] at hc
          obtain ⟨x, hx⟩ : ∃ x, x = slN L m k := ⟨_, rfl⟩
          rw [show L.getD ((m + k) % 8) ⟨#[]⟩ = x from hx.symm] at hc
          have HX := Aside0.mk hx
          have HF := Aside0.mk hf
          by_cases he : x.toList.isEmpty = true
          · have hfb : fullB (slN L m k) = false := by rw [← hx]; unfold fullB; rw [he]; rfl
            have HM2 := Aside0.mk (show wr.ownsMap Try.prog 9 (plainElem Try.prog 3) b (k + 1) (mapN L m (k + 1)) by rw [mapN_empty hfb]; exact HM.out.mono (by omega))
            have HF2 := Aside0.mk (show metN L m (k + 1) = f by
              conv => lhs; unfold metN
              rw [← hf, hfb]
              by_cases h2 : f.2 = true
              · rw [if_pos h2]
              · rw [if_neg h2, hf, metN_false k (by rw [← hf]; simpa using h2)]; rfl)
            rw [he] at hc
            have HC2 := Lib.hid hc
            clear hc he hfb hx hf
            go_wp2_with fail
            refine HC2.out.mono ?_
            rintro e w3 ⟨rfl, rfl⟩
            go_wp2
            go_roundw
            case rel => exact ⟨k + 1, by omega, by rw [HF2.out], by rw [HF2.out], by simp, HI, HM2, HB⟩
            case measure => simp [intOf]; omega
          · have he' : x.toList.isEmpty = false := by simpa using he
            have hfb : fullB (slN L m k) = true := by rw [← hx]; unfold fullB; rw [he']; rfl
            have hxs : x.size ≤ 1000 := by
              have : x ∈ L := by
                rw [hx]
                unfold slN
                have : (m + k) % 8 < L.length := by rw [HG.out.len]; omega
                rw [List.getD_eq_getElem?_getD, List.getElem?_eq_getElem this]
                exact List.getElem_mem this
              have := HS.out x this
              omega
            obtain ⟨c0, hrun, hat, _⟩ := HM.out.lookup_int (Maps.string_keyed Try.underlying9) Try.underlying35 Try.underlying3 (zero3 _) (key9 hxs)
            rw [Maps.atKey_of_not_has (by rw [hx]; exact has_mapN_new HG.out hlt hfb)] at hat
            injection hat with hat
            injection hat with _ hat
            subst hat
            have HK := Aside0.mk (key9 hxs)
            have HX2 := Aside0.mk (mapN_full hfb)
            have HF2 := Aside0.mk (show metN L m (k + 1) = if f.2 then f else (((m + k : Nat) : Int), true) by
              conv => lhs; unfold metN
              rw [← hf, hfb]
              rfl)
            rw [he'] at hc
            have HC2 := Lib.hid hc
            obtain ⟨f1, f2⟩ := f
            clear hc he he' hfb hx hf hxs
            go_wp2_with fail
            refine HC2.out.mono ?_
            rintro e w3 ⟨rfl, rfl⟩
            go_wp2_with (first | (at_mapUpdate; refine wpList_mapUpdate_own _ rfl _ _ _ 35 rfl 9 3 (Maps.string_keyed Try.underlying9) Try.underlying35 _ b k (mapN L m k) rfl HM.out (by unfold maxLen; omega) _ _ (litS x) rfl rfl HK.out (.lit (.int .i64 1)) [] (plainElem_int Try.underlying3 (by decide)) ?_) | go_in)
            intro w5 hown5 hgr5
            have M5 := Aside0.mk (show w5.ownsMap Try.prog 9 (plainElem Try.prog 3) b (k + 1) (mapN L m (k + 1)) by rw [HX2.out, ← HX.out]; exact hown5)
            have I5 := Aside0.mk (show IsRow p L w5 from ⟨(hgr5.block p (blk_lt HI.out.blk) (by intro e; injection e with e; have := HPB.out; omega)).trans HI.out.blk, HI.out.len⟩)
            have B5 := Aside0.mk (HB.out.grown hgr5 HB.out.size (fun k hk => by injection hk with hk; have := HBW.out; omega))
            clear hown5 hgr5 hrun
            cases f2 with
            | true =>
              go_wp2
              go_roundw
              case rel => exact ⟨k + 1, by omega, by rw [HF2.out]; rfl, by rw [HF2.out]; rfl, by simp, I5, M5, B5⟩
              case measure => simp [intOf]; omega
            | false =>
              go_wp2
              go_roundw
              case rel => exact ⟨k + 1, by omega, by rw [HF2.out]; simp, by rw [HF2.out]; rfl, by simp, I5, M5, B5⟩
              case measure => simp [intOf]; omega
        · have hke : k = 8 := by omega
          subst hke
          have HN := Lib.hid (next_calls p L m wr HI.out (by omega))
          have HF := Aside0.mk hf
          have HE := Aside0.mk (show nextI L m 8 = f by rw [next_is L m (by omega), hf])
          rw [HE.out] at HN
          clear hf hlt hk
          go_wp2_with fail
          refine HN.out.mono ?_
          rintro e w3 ⟨rfl, rfl⟩
          obtain ⟨r, hr⟩ : ∃ r, r = wr.heap.size := ⟨_, rfl⟩
          have HRS := Aside0.mk (show w.heap.size ≤ r by rw [hr]; exact HB.out.size)
          have HPR := Aside0.mk (show p < r by rw [hr]; exact blk_lt HI.out.blk)
          go_wp2_with (first | (at_range; refine wpList_range_own _ rfl _ 35 rfl 9 3 (Maps.string_keyed Try.underlying9) Try.underlying35 _ b 8 (mapN L m 8) rfl HM.out ?_; intro w0 hrg0 hg0 hs0) | go_in)
          go_frame
          rw [← hr] at hrg0 ⊢
          have I0 := Aside0.mk (show IsRow p L w0 from ⟨(hg0.block p (blk_lt HI.out.blk) (by simp)).trans HI.out.blk, HI.out.len⟩)
          have B0 := Aside0.mk (HB.out.grown hg0 HB.out.size (fun k hk => by cases hk))
          have R0 := Aside0.mk hrg0
          clear hrg0 hg0 hs0 hr HI HB HM
          have hR4 : (9223372036854775807 : Int) < 18446744073709551615 := by omega
          go_loopw [] (fun wr => ∃ (left : Lit → Bool) (cn : Nat), Aside0 (wr.ranges Try.prog 9 (plainElem (H := Unit) Try.prog 3) b r 8 (mapN L m 8) left cn) ∧ Aside0 (IsRow p L wr) ∧ Aside0 (Below w.heap.size w wr)) (fun wr => wr.rangeLeft b r)
          case atStart => exact ⟨_, _, R0, I0, B0⟩
          case round =>
            obtain ⟨left, cn, HRG, HI, HB⟩ := hrel
            go_wp2_with (first | (at_next; refine wpList_next_ranges _ rfl _ rfl 9 (Maps.string_keyed Try.underlying9) (plainElem Try.prog 3) Value.string (Value.int .i64) (fun key kl hk => by obtain ⟨s, e, _⟩ := keyOf_string_inv9 hk; exact ⟨s, e⟩) (fun v y hv => by obtain ⟨a, e, _, _⟩ := plainElem_int_inv Try.underlying3 hv; exact ⟨a, e⟩) b r 8 _ _ _ rfl HRG.out ?_ ?_) | go_in)
            · intro hc0 hl0
              have HM := Aside0.mk HRG.out.owns
              obtain ⟨g, hg⟩ : ∃ g, g = nextI L 18446744073709551615 8 := ⟨_, rfl⟩
              have hN2 := next_calls p L 18446744073709551615 wr HI.out (by omega)
              rw [← hg] at hN2
              have HG2 := Aside0.mk (show g.2 = fullB (L.getD 7 ⟨#[]⟩) by rw [hg]; exact next_last L)
              have hT2 := turn_calls p L 18446744073709551615 wr HI.out (by decide)
              rw [show ((18446744073709551615 : Int) % 8).toNat = 7 from by decide] at hT2
              obtain ⟨x7, hx7⟩ : ∃ x, x = L.getD 7 ⟨#[]⟩ := ⟨_, rfl⟩
              rw [← hx7] at hT2
              have HG3 := Aside0.mk (show g.2 = fullB x7 by rw [HG2.out, hx7])
              have HN2 := Lib.hid hN2
              have HT2 := Lib.hid hT2
              clear hN2 hT2 hg hc0 hl0 hx7
              go_wp2_with fail
              refine HN2.out.mono ?_
              rintro e w4 ⟨rfl, rfl⟩
              go_wp2_with fail
              refine HT2.out.mono ?_
              rintro e w5 ⟨rfl, rfl⟩
              obtain ⟨D, hD⟩ : ∃ D, D = mapN L m 8 := ⟨_, rfl⟩
              have hsz : Maps.size D = c := by rw [hD, size_mapN HG.out m 8 (by omega), seen_all HG.out.len, HC.out]
              have HMD := Aside0.mk (show wr.ownsMap Try.prog 9 (plainElem Try.prog 3) b 8 D by rw [hD]; exact HM.out)
              obtain ⟨f1, f2⟩ := f
              have klen : ∀ ty, (Builtin.len_ #[35] ty #[.map (some b)]).run Try.prog wr = .ok (.int .i64 (c : Int)) wr := fun ty => by rw [HMD.out.len Try.underlying35, hsz]
              clear hsz hD
              have hb1 : (f2 == f2) = true := by cases f2 <;> rfl
              have hb2 : (g.2 == !x7.toList.isEmpty) = true := by rw [HG3.out]; unfold fullB; cases x7.toList.isEmpty <;> rfl
              go_wp2
              go_ret
              exact ⟨rfl, HB.out⟩
            · intro x c1 kl y1 y2 w6 cn1 hkey hlx hv hat hrg1 hlt hg1 hs1 hen
              obtain ⟨a, e1, e2, _⟩ := plainElem_int_inv Try.underlying3 hv
              injection e1 with _ e1
              subst e1
              have h1 := hat (.lit (.int .i64 1))
              rw [atKey_mapN, show y1 = DataW.lit (.int .i64 c1) from congrArg Prod.fst e2] at h1
              injection h1 with h1
              injection h1 with _ h1
              subst h1
              have I6 := Aside0.mk (show IsRow p L w6 from ⟨(hg1.block p (blk_lt HI.out.blk) (by intro e; injection e with e; have := HPR.out; omega)).trans HI.out.blk, HI.out.len⟩)
              have B6 := Aside0.mk (HB.out.grown hg1 HB.out.size (fun k hk => by injection hk with hk; have := HRS.out; omega))
              have hl1 := hrg1.left_eq
              have hl0 := HRG.out.left_eq
              have HLT := Aside0.mk (show w6.rangeLeft b r < wr.rangeLeft b r by rw [hl1, hl0]; exact hlt)
              have R6 := Aside0.mk hrg1
              clear hkey hlx hv hat hrg1 hlt hg1 hs1 hl1 hl0 e2
              go_wp2
              go_roundw
              case rel => exact ⟨_, _, R6, I6, B6⟩
              case measure => exact HLT.out
end Go.Proofs.Ytdbhejckpkifoaa
