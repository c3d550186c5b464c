/- Points as a function reads them; chunk.right and the law's Right, walked; chunk.put; chunk.Count. -/
import Derived.Test.YtfanomllfgoakaaUnpack
set_option linter.unusedVariables false
namespace Go.Proofs.Ytfanomllfgoakaa
open Go.RowKit Go.Proofs.YtfanomllfgoakaaW.PrintWords Go.Proofs.YtfanomllfgoakaaW.PrintLast Go.Proofs.YtfanomllfgoakaaW.PrintMore
open Go.Proofs.Ytfanomllfgoakaa.BitsMath Go.Proofs.Ytfanomllfgoakaa.ChunkMath

theorem bread {w w1 : World} (h : Below w.heap.size w w1) {p : Addr} {v : Value} (hc : w.cell? p = some v) : w1.cell? p = some v := by
  have hlt : p.block < w.heap.size := World.block_lt_of_cell? w p hc
  rw [h.cell hlt]; exact hc
/-- Points that lie in a row. -/
def SrcP (w : World) (v : Value) (l : List Pt) : Prop :=
  (∃ c, v = .slice none 0 c ∧ l = []) ∨ ∃ ad c, v = .slice (some ad) l.length c ∧ ∀ (j : Nat) (x : Pt), l[j]? = some x → w.cell? (ad.add (j * 2)) = some (.int .i64 x.at_) ∧ w.cell? ⟨(ad.add (j * 2)).block, (ad.add (j * 2)).off + 1, none⟩ = some (.int .i64 x.v)
theorem SrcP.below {w w1 : World} {v : Value} {l : List Pt} (h : SrcP w v l) (hb : Below w.heap.size w w1) : SrcP w1 v l := by
  rcases h with h | ⟨ad, c, rfl, hc⟩
  · exact .inl h
  · exact .inr ⟨ad, c, rfl, fun j x hx => ⟨bread hb (hc j x hx).1, bread hb (hc j x hx).2⟩⟩
theorem SrcP.keep {S : Nat → Prop} {w w1 : World} {v : Value} {l : List Pt} (h : SrcP w v l) (k : Keep S w w1) (hs : ∀ i, S i → v.ownBlock ≠ some i) : SrcP w1 v l := by
  rcases h with h | ⟨ad, c, rfl, hc⟩
  · exact .inl h
  · have hn : ¬ S ad.block := fun hS => hs _ hS rfl
    have hab : ∀ m, (ad.add m).block = ad.block := fun m => by unfold Addr.add; split <;> rfl
    exact .inr ⟨ad, c, rfl, fun j x hx => ⟨k.cell (hc j x hx).1 (by rw [hab]; exact hn), k.cell (hc j x hx).2 (by rw [hab]; exact hn)⟩⟩
theorem SrcP.of_reads {w : World} {A : Option Addr} {c : Nat} {l : List Pt} (h : ReadsRow (fun (p : Pt) cs => cs = [.int .i64 p.at_, .int .i64 p.v]) 2 w A l.length l) : SrcP w (.slice A l.length c) l := by
  by_cases h0 : l.length = 0
  · cases A with
    | none => exact .inl ⟨c, by rw [h0], List.eq_nil_of_length_eq_zero h0⟩
    | some ad => exact .inr ⟨ad, c, rfl, fun j x hx => by rw [List.eq_nil_of_length_eq_zero h0] at hx; cases hx⟩
  · obtain ⟨ad0, c0, e0, _⟩ := ReadsRow.get_ h (⟨0, 0⟩ : Pt) ((0 : Nat) : Int) (by omega) (by omega)
    subst e0
    refine .inr ⟨ad0, c, rfl, fun j x hx => ?_⟩
    have hj : j < l.length := (List.getElem?_eq_some_iff.1 hx).1
    obtain ⟨ad, c1, e1, _, hR, hc⟩ := ReadsRow.get_ h (⟨0, 0⟩ : Pt) ((j : Nat) : Int) (by omega) (by omega)
    rw [Int.toNat_natCast, List.getD_eq_getElem?_getD, hx] at hR
    rw [Int.toNat_natCast] at hc
    injection e1 with e1
    subst e1
    subst hR
    have c0 := hc 0 _ rfl
    have c1 := hc 1 _ rfl
    rw [Nat.add_zero] at c0
    rw [add_field _ _ 1 (by omega)] at c1
    exact ⟨c0, c1⟩
theorem SrcP.of_row {w : World} {base : Nat} {v : Value} {l : List Pt} (h : w.ownsRow base 68 2 v l.length (rowP l)) : SrcP w v l := by
  rcases h.2 with ⟨rfl, h0⟩ | ⟨g, cap, cur, rfl, _⟩
  · exact .inl ⟨0, rfl, List.eq_nil_of_length_eq_zero h0⟩
  · refine .inr ⟨⟨g, 0, none⟩, cap, rfl, fun j x hx => ?_⟩
    have hj : j < l.length := (List.getElem?_eq_some_iff.1 hx).1
    have e : Addr.add ⟨g, 0, none⟩ (j * 2) = ⟨g, j * 2, none⟩ := by unfold Addr.add; split <;> simp_all
    have h0 := World.ownsRow.cellAt h (j * 2 + 0) (by omega)
    have h1 := World.ownsRow.cellAt h (j * 2 + 1) (by omega)
    rw [rowP_get l j 0 _ hx (by omega)] at h0
    rw [rowP_get l j 1 _ hx (by omega)] at h1
    rw [e]
    exact ⟨h0, h1⟩
open Classical in
/-- What a judge of points tells. -/
noncomputable def tell (l : List Pt) : Nat := if ∀ x ∈ l, 0 ≤ x.at_ ∧ x.at_ ≤ 1099511627776 then if rises l then 0 else 17 else 3
theorem tell_far {l : List Pt} {x : Pt} (hx : x ∈ l) (h : ¬ (0 ≤ x.at_ ∧ x.at_ ≤ 1099511627776)) : tell l = 3 := if_neg fun hc => h (hc x hx)
theorem tell_ok {l : List Pt} (h : ∀ x ∈ l, 0 ≤ x.at_ ∧ x.at_ ≤ 1099511627776) (hr : rises l) : tell l = 0 := by unfold tell; rw [if_pos h, if_pos hr]
theorem tell_zero {l : List Pt} (h : tell l = 0) : (∀ x ∈ l, 0 ≤ x.at_ ∧ x.at_ ≤ 1099511627776) ∧ rises l := by
  unfold tell at h
  split at h
  · split at h
    · exact ⟨by assumption, by assumption⟩
    · cases h
  · cases h
theorem rises_of_ix : ∀ (l : List Pt), (∀ (k : Nat) (p q : Pt), l[k]? = some p → l[k + 1]? = some q → p.at_ < q.at_) → rises l
  | [], _ => trivial
  | [p], _ => trivial
  | p :: q :: r, h => ⟨h 0 p q rfl rfl, rises_of_ix (q :: r) fun k x y hx hy => h (k + 1) x y (by simpa using hx) (by simpa using hy)⟩
theorem rises_ix : ∀ (l : List Pt), rises l → ∀ (k : Nat) (p q : Pt), l[k]? = some p → l[k + 1]? = some q → p.at_ < q.at_
  | [], _, _, _, _, h1, _ => by cases h1
  | [p], _, k, _, _, _, h2 => by simp at h2
  | p :: q :: r, h, 0, _, _, h1, h2 => by cases h1; cases h2; exact h.1
  | p :: q :: r, h, k + 1, x, y, h1, h2 => rises_ix (q :: r) h.2 k x y (by simpa using h1) (by simpa using h2)
theorem tell_falls {l : List Pt} {k : Nat} {p q : Pt} (h : ∀ x ∈ l, 0 ≤ x.at_ ∧ x.at_ ≤ 1099511627776) (h1 : l[k]? = some p) (h2 : l[k + 1]? = some q) (hpq : ¬ p.at_ < q.at_) : tell l = 17 := by
  unfold tell
  rw [if_pos h, if_neg fun hr => hpq (rises_ix l hr k p q h1 h2)]
def InR (l : List Pt) (j : Nat) : Prop := ∀ (k : Nat) (x : Pt), k < j → l[k]? = some x → 0 ≤ x.at_ ∧ x.at_ ≤ 1099511627776
def Up (l : List Pt) (i : Nat) : Prop := ∀ (k : Nat) (p q : Pt), k < i → l[k]? = some p → l[k + 1]? = some q → p.at_ < q.at_
theorem InR.all {l : List Pt} {j : Nat} (h : InR l j) (hj : l.length ≤ j) : ∀ x ∈ l, 0 ≤ x.at_ ∧ x.at_ ≤ 1099511627776 := fun x hx => by
  obtain ⟨k, hk, he⟩ := List.getElem_of_mem hx
  exact h k x (by omega) (by rw [List.getElem?_eq_getElem hk, he])
theorem InR.more {l : List Pt} {j : Nat} {x : Pt} (h : InR l j) (hx : l[j]? = some x) (h0 : 0 ≤ x.at_) (h1 : x.at_ ≤ 1099511627776) : InR l (j + 1) := fun k y hk hy => by
  rcases Nat.lt_or_ge k j with h' | h'
  · exact h k y h' hy
  · have e : k = j := by omega
    subst e
    rw [hx] at hy
    cases hy
    exact ⟨h0, h1⟩
theorem Up.more {l : List Pt} {i : Nat} {p q : Pt} (h : Up l i) (hp : l[i]? = some p) (hq : l[i + 1]? = some q) (hpq : p.at_ < q.at_) : Up l (i + 1) := fun k x y hk hx hy => by
  rcases Nat.lt_or_ge k i with h' | h'
  · exact h k x y h' hx hy
  · have e : k = i := by omega
    subst e
    rw [hp] at hx; rw [hq] at hy
    cases hx; cases hy
    exact hpq
theorem Up.all {l : List Pt} {i : Nat} (h : Up l i) (hi : l.length ≤ i + 1) : rises l := rises_of_ix l fun k p q hp hq => h k p q (by have := (List.getElem?_eq_some_iff.1 hq).1; omega) hp hq
set_option maxHeartbeats 4000000 in
theorem rightL_calls (v : Value) (l : List Pt) (w : World) (h : SrcP w v l) (hl : l.length ≤ 1000000000) :
    Calls Try.prog 25 #[v] w fun e w' => e = .returned (.int .i64 (tell l : Int)) ∧ Below w.heap.size w w' := by
  rcases h with ⟨c, rfl, rfl⟩ | ⟨ad, c, rfl, hc⟩
  · have HT := Aside0.mk (show tell [] = 0 from tell_ok (fun x hx => by cases hx) trivial)
    go_enter Try.func25, Try.ntmps25
    go_wp2_with fail
    go_loop [8] (fun vx => vx = .int .i64 0) (fun _ => 0)
    case atStart => rfl
    case round =>
      obtain rfl := hrel
      go_wp2_with fail
      go_loop [5] (fun vx => vx = .int .i64 1) (fun _ => 0)
      case atStart => rfl
      case round =>
        obtain rfl := hrel
        go_wp2
        go_ret
        rw [HT.out]
        exact ⟨rfl, Below.refl _ _⟩
  · have HC := Aside0.mk hc
    clear hc
    go_enter Try.func25, Try.ntmps25
    go_wp2_with fail
    go_loopw [8] (fun vx wr => ∃ j : Nat, j ≤ l.length ∧ vx = .int .i64 (j : Int) ∧ Aside0 (InR l j) ∧ Aside0 (Below w.heap.size w wr)) (fun vx _ => l.length - (intOf vx).toNat)
    case atStart => exact ⟨0, by omega, rfl, ⟨fun k x hk => absurd hk (by omega)⟩, ⟨Below.refl _ _⟩⟩
    case round =>
      obtain ⟨j, hj, rfl, HI, HB⟩ := hrel
      by_cases hlt : j < l.length
      · obtain ⟨x, hx⟩ : ∃ x, l[j]? = some x := ⟨_, List.getElem?_eq_getElem hlt⟩
        have ce := HC.out j x hx
        have ce0 := bread HB.out ce.1
        have ce1 := bread HB.out ce.2
        have HX := Aside0.mk hx
        clear ce hx
        by_cases g0 : 0 ≤ x.at_
        · have d0 : decide (x.at_ < 0) = false := decide_eq_false (by omega)
          by_cases g1 : x.at_ ≤ 1099511627776
          · have d1 : decide (1099511627776 < x.at_) = false := decide_eq_false (by omega)
            go_wp2
            go_roundw
            case rel => exact ⟨j + 1, by omega, by simp, ⟨HI.out.more HX.out g0 g1⟩, ⟨HB.out.alloc HB.out.size _⟩⟩
            case measure => simp [intOf]; omega
          · have d1 : decide (1099511627776 < x.at_) = true := decide_eq_true (by omega)
            have HT := Aside0.mk (show tell l = 3 from tell_far (List.mem_of_getElem? HX.out) fun hh => g1 hh.2)
            go_wp2
            go_ret
            rw [HT.out]
            exact ⟨rfl, HB.out.alloc HB.out.size _⟩
        · have d0 : decide (x.at_ < 0) = true := decide_eq_true (by omega)
          have HT := Aside0.mk (show tell l = 3 from tell_far (List.mem_of_getElem? HX.out) fun hh => g0 hh.1)
          go_wp2
          go_ret
          rw [HT.out]
          exact ⟨rfl, HB.out.alloc HB.out.size _⟩
      · have HA := Aside0.mk (HI.out.all (by omega))
        go_wp2_with fail
        go_loopw [5] (fun vx wr' => ∃ k : Nat, k ≤ l.length ∧ vx = .int .i64 ((k : Int) + 1) ∧ Aside0 (Up l k) ∧ Aside0 (Below w.heap.size w wr')) (fun vx _ => l.length + 1 - (intOf vx).toNat)
        case atStart => exact ⟨0, by omega, rfl, ⟨fun k x y hk => absurd hk (by omega)⟩, HB⟩
        case round =>
          rename_i wr2 _ _
          obtain ⟨k, hk, rfl, HU, HB2⟩ := hrel
          by_cases hlt2 : k + 1 < l.length
          · have d2 : decide ((k : Int) + 1 < (l.length : Int)) = true := decide_eq_true (by omega)
            obtain ⟨p, hp⟩ : ∃ x, l[k]? = some x := ⟨_, List.getElem?_eq_getElem (by omega)⟩
            obtain ⟨q, hq⟩ : ∃ x, l[k + 1]? = some x := ⟨_, List.getElem?_eq_getElem hlt2⟩
            have cp0 := bread HB2.out (HC.out k p hp).1
            have cq0 := bread HB2.out (HC.out (k + 1) q hq).1
            have HP := Aside0.mk hp
            have HQ := Aside0.mk hq
            clear hp hq
            by_cases g : p.at_ < q.at_
            · have d3 : decide (q.at_ ≤ p.at_) = false := decide_eq_false (by omega)
              go_wp2_with fail
              go_region
              go_wp2
              go_roundw
              case rel => exact ⟨k + 1, by omega, by simp, ⟨HU.out.more HP.out HQ.out g⟩, ⟨pw_below_drewN HB2.out _⟩⟩
              case measure => simp [intOf]; omega
            · have d3 : decide (q.at_ ≤ p.at_) = true := decide_eq_true (by omega)
              have HT := Aside0.mk (show tell l = 17 from tell_falls HA.out HP.out HQ.out g)
              go_wp2_with fail
              go_region
              go_wp2
              go_ret
              rw [HT.out]
              exact ⟨rfl, pw_below_drewN HB2.out _⟩
          · have d2 : decide ((k : Int) + 1 < (l.length : Int)) = false := decide_eq_false (by omega)
            have HT := Aside0.mk (show tell l = 0 from tell_ok HA.out (HU.out.all (by omega)))
            go_wp2
            go_ret
            rw [HT.out]
            exact ⟨rfl, HB2.out⟩
set_option maxHeartbeats 4000000 in
theorem rightP_calls (v : Value) (l : List Pt) (w : World) (h : SrcP w v l) (hl : l.length ≤ 65535) :
    Calls Try.prog 41 #[v] w fun e w' => e = .returned (.int .i64 (tell l : Int)) ∧ Below w.heap.size w w' := by
  rcases h with ⟨c, rfl, rfl⟩ | ⟨ad, c, rfl, hc⟩
  · have HT := Aside0.mk (show tell [] = 0 from tell_ok (fun x hx => by cases hx) trivial)
    go_enter Try.func41, Try.ntmps41
    go_wp2_with fail
    go_loop [11] (fun vx => vx = .int .i64 0) (fun _ => 0)
    case atStart => rfl
    case round =>
      obtain rfl := hrel
      go_wp2_with fail
      go_loop [5] (fun vx => vx = .int .i64 1) (fun _ => 0)
      case atStart => rfl
      case round =>
        obtain rfl := hrel
        go_wp2
        go_ret
        rw [HT.out]
        exact ⟨rfl, Below.refl _ _⟩
  · have HC := Aside0.mk hc
    clear hc
    have d9 : decide (65535 < (l.length : Int)) = false := decide_eq_false (by omega)
    go_enter Try.func41, Try.ntmps41
    go_wp2_with fail
    go_loopw [11] (fun vx wr => ∃ j : Nat, j ≤ l.length ∧ vx = .int .i64 (j : Int) ∧ Aside0 (InR l j) ∧ Aside0 (Below w.heap.size w wr)) (fun vx _ => l.length - (intOf vx).toNat)
    case atStart => exact ⟨0, by omega, rfl, ⟨fun k x hk => absurd hk (by omega)⟩, ⟨Below.refl _ _⟩⟩
    case round =>
      obtain ⟨j, hj, rfl, HI, HB⟩ := hrel
      by_cases hlt : j < l.length
      · obtain ⟨x, hx⟩ : ∃ x, l[j]? = some x := ⟨_, List.getElem?_eq_getElem hlt⟩
        have ce := HC.out j x hx
        have ce0 := bread HB.out ce.1
        have ce1 := bread HB.out ce.2
        have HX := Aside0.mk hx
        clear ce hx
        by_cases g0 : 0 ≤ x.at_
        · have d0 : decide (x.at_ < 0) = false := decide_eq_false (by omega)
          by_cases g1 : x.at_ ≤ 1099511627776
          · have d1 : decide (1099511627776 < x.at_) = false := decide_eq_false (by omega)
            go_wp2
            go_roundw
            case rel => exact ⟨j + 1, by omega, by simp, ⟨HI.out.more HX.out g0 g1⟩, ⟨HB.out.alloc HB.out.size _⟩⟩
            case measure => simp [intOf]; omega
          · have d1 : decide (1099511627776 < x.at_) = true := decide_eq_true (by omega)
            have HT := Aside0.mk (show tell l = 3 from tell_far (List.mem_of_getElem? HX.out) fun hh => g1 hh.2)
            go_wp2
            go_ret
            rw [HT.out]
            exact ⟨rfl, HB.out.alloc HB.out.size _⟩
        · have d0 : decide (x.at_ < 0) = true := decide_eq_true (by omega)
          have HT := Aside0.mk (show tell l = 3 from tell_far (List.mem_of_getElem? HX.out) fun hh => g0 hh.1)
          go_wp2
          go_ret
          rw [HT.out]
          exact ⟨rfl, HB.out.alloc HB.out.size _⟩
      · have HA := Aside0.mk (HI.out.all (by omega))
        go_wp2_with fail
        go_loopw [5] (fun vx wr' => ∃ k : Nat, k ≤ l.length ∧ vx = .int .i64 ((k : Int) + 1) ∧ Aside0 (Up l k) ∧ Aside0 (Below w.heap.size w wr')) (fun vx _ => l.length + 1 - (intOf vx).toNat)
        case atStart => exact ⟨0, by omega, rfl, ⟨fun k x y hk => absurd hk (by omega)⟩, HB⟩
        case round =>
          rename_i wr2 _ _
          obtain ⟨k, hk, rfl, HU, HB2⟩ := hrel
          by_cases hlt2 : k + 1 < l.length
          · have d2 : decide ((k : Int) + 1 < (l.length : Int)) = true := decide_eq_true (by omega)
            obtain ⟨p, hp⟩ : ∃ x, l[k]? = some x := ⟨_, List.getElem?_eq_getElem (by omega)⟩
            obtain ⟨q, hq⟩ : ∃ x, l[k + 1]? = some x := ⟨_, List.getElem?_eq_getElem hlt2⟩
            have cp0 := bread HB2.out (HC.out k p hp).1
            have cq0 := bread HB2.out (HC.out (k + 1) q hq).1
            have HP := Aside0.mk hp
            have HQ := Aside0.mk hq
            clear hp hq
            by_cases g : p.at_ < q.at_
            · have d3 : decide (q.at_ ≤ p.at_) = false := decide_eq_false (by omega)
              go_wp2_with fail
              go_region
              go_wp2
              go_roundw
              case rel => exact ⟨k + 1, by omega, by simp, ⟨HU.out.more HP.out HQ.out g⟩, ⟨pw_below_drewN HB2.out _⟩⟩
              case measure => simp [intOf]; omega
            · have d3 : decide (q.at_ ≤ p.at_) = true := decide_eq_true (by omega)
              have HT := Aside0.mk (show tell l = 17 from tell_falls HA.out HP.out HQ.out g)
              go_wp2_with fail
              go_region
              go_wp2
              go_ret
              rw [HT.out]
              exact ⟨rfl, pw_below_drewN HB2.out _⟩
          · have d2 : decide ((k : Int) + 1 < (l.length : Int)) = false := decide_eq_false (by omega)
            have HT := Aside0.mk (show tell l = 0 from tell_ok HA.out (HU.out.all (by omega)))
            go_wp2
            go_ret
            rw [HT.out]
            exact ⟨rfl, HB2.out⟩
set_option maxHeartbeats 2000000 in
theorem cput_calls (p : Nat) (bs : List Bool) (x : Nat) (w : World) (hx : x < 18446744073709551616) (hw : IsW p bs w) (hn : bs.length ≤ 900000000) :
    Calls Try.prog 43 #[.pointer (some ⟨p, 0, none⟩), .int .u64 x] w fun e w' => e = .returned (.tuple #[]) ∧ WStep p w w' (bs ++ ChunkMath.own x) := by
  have hbl := blen_64 x hx
  obtain ⟨m, hm⟩ : ∃ m, m = blen x := ⟨_, rfl⟩
  rw [← hm] at hbl
  have HM := Aside0.mk hm
  have d1 : decide ((m : Int) < (blen x : Int)) = false := decide_eq_false (by omega)
  have d7 : decide ((7 : Int) < (blen m : Int)) = false := decide_eq_false (by have := (blen_le 7 m).2 (by omega); omega)
  have hc0 := width_blen x hx
  rw [← hm] at hc0
  have HC0 := Aside0.mk hc0
  have hcall1 := put_ok p bs m 7 w (by omega) (by omega) (by omega) d7 hw (by omega)
  have HC1 := Aside0.mk hcall1
  have HD1 := Aside0.mk d1
  clear hc0 hcall1 d1 d7 hm
  go_enter Try.func43, Try.ntmps43
  go_wp2_with fail
  refine (HC0.out _).mono ?_
  rintro e w1 ⟨rfl, rfl⟩
  go_wp2_with fail
  refine HC1.out.mono ?_
  rintro e w2 ⟨rfl, h2⟩
  have H2 := Aside0.mk h2
  have hcall2 := put_ok p _ x m w2 hx (by omega) (by omega) HD1.out h2.is (by rw [List.length_append, bitsOf_length]; omega)
  have HC2 := Aside0.mk hcall2
  clear h2 hcall2
  go_wp2_with fail
  refine HC2.out.mono ?_
  rintro e w3 ⟨rfl, h3⟩
  have H3 := Aside0.mk h3
  clear h3
  go_wp2
  go_end0
  refine ⟨rfl, ?_⟩
  have h := H2.out.trans H3.out
  rw [List.append_assoc] at h
  unfold ChunkMath.own
  rw [← HM.out]
  exact h
set_option maxHeartbeats 1000000 in
theorem count_calls (v : Value) (l : List Int) (w : World) (h : SrcB w v l) (hl : l.length ≤ 100000) (hb : ∀ x ∈ l, 0 ≤ x ∧ x ≤ 255) (h2 : 2 ≤ l.length) :
    Calls Try.prog 29 #[v] w fun e w' => e = .returned (.tuple #[.int .i64 (val ((unpack l).take 16) : Int), .int .i64 0]) ∧ Below w.heap.size w w' := by
  have HS := Aside0.mk h
  have HB := Aside0.mk hb
  have hb0 : bs_ l 0 = unpack l := by unfold bs_; rw [List.drop_zero]
  have hlen := bs_length l 0
  have hN1 := val_lt 16 ((bs_ l 0).take 16) (by rw [List.length_take]; omega)
  obtain ⟨N, hN⟩ : ∃ N, N = val ((bs_ l 0).take 16) := ⟨_, rfl⟩
  rw [← hN] at hN1
  rw [← hb0, ← hN]
  have hN2 : N < 65536 := by omega
  have HN := Aside0.mk hN
  clear h hb hb0 hN hN1
  go_enter Try.func29, Try.ntmps29
  go_wp2_with fail
  refine (read_calls v l _ HS.out (by omega)).mono ?_
  rintro e w1 ⟨p, rfl, hp, hR, h1⟩
  have HR := Aside0.mk hR
  have H1 := Aside0.mk h1
  clear hR h1
  have hcall := get_ok p 0 l 16 w1 HR.out (by omega) HB.out (by omega) (by omega) (by omega) (by omega)
  rw [show (16 : Int).toNat = 16 from rfl, ← HN.out] at hcall
  have HC := Lib.hid hcall
  clear hcall
  go_wp2_with fail
  refine HC.out.mono ?_
  rintro e w2 ⟨rfl, h2⟩
  have H2 := Aside0.mk (H1.out.trans (h2.keep.to_below (fun i hi => by rw [hi]; exact hp) H1.out.size))
  clear h2
  go_wp2
  go_ret2
  exact ⟨rfl, H2.out⟩
end Go.Proofs.Ytfanomllfgoakaa
