/- Roll and Mark of a stock, walked. -/
import Derived.Test.YtnjdngjlbonieaaTierH
import Derived.Lib.Hide
import Derived.LoopTactic
import Derived.Outline
import Derived.Laws.Rows
import Derived.Laws.CopyOwn
import Derived.WalkKit
set_option linter.unusedVariables false
set_option linter.unusedSimpArgs false
namespace Go.Proofs.Ytnjdngjlbonieaa
open Go.RowKit Go.Proofs.YtnjdngjlbonieaaW.PrintWords Go.Proofs.YtnjdngjlbonieaaW.PrintLast Go.Proofs.YtnjdngjlbonieaaW.PrintMore
open Go.Proofs.Ytnjdngjlbonieaa.PTierForgets
attribute [local go_sem] max2_int min2_int max_two min_two max_three min_three max_four min_four

theorem start1_is {now : Int} (h : 0 ≤ now) (h2 : now ≤ 9223372036854775807) : window_Start.f 1 now = some (stW 300 now) := start_is 1 now h h2 (by decide)
theorem start2_is {now : Int} (h : 0 ≤ now) (h2 : now ≤ 9223372036854775807) : window_Start.f 2 now = some (stW 3600 now) := start_is 2 now h h2 (by decide)
theorem roll2_tk {s : Stk} {now : Int} (h : GoodT s) : Tk (roll1 s now).1 ∧ 0 ≤ (roll1 s now).2.1 ∧ (roll1 s now).2.1 ≤ 1099511627776 ∨ 1099511627776 < stW 300 now := by
  rcases ltge 1099511627776 (stW 300 now) with c | c
  · exact .inr c
  · have hl := h.low
    have hle := h.le
    have hup := h.up
    obtain ⟨a1, a2, a3, a4, _, _⟩ := rollF_good (soon := fun m => soonR m s.raw) (ofw := of1 s.raw) (wd := 300) (tt := stW 300 now) (made := 0) (.inl rfl) (of1_ok h.tick) (stW_mod (.inl rfl)) h.g1 h.d1 (by omega)
    refine .inl ⟨a1.tk, ?_, ?_⟩
    · show 0 ≤ (rollF _ _ _ _ _ _ _).2.1; omega
    · show (rollF _ _ _ _ _ _ _).2.1 ≤ _
      rcases a4 with a4 | a4 <;> omega
set_option maxRecDepth 100000 in
set_option maxHeartbeats 16000000 in
theorem troll_calls (F : Nat → Prop) (p : Nat) (s : Stk) (now : Int) (w : World) (hS : IsStk F p s w) (hF : ∀ b, F b → b < w.heap.size) (hG : GoodT s) (hn : 0 ≤ now) (hn2 : now ≤ 1099511627776) :
    Calls Try.prog 33 #[.pointer (some ⟨p, 0, none⟩), .int .i64 now] w (StkPost F p (rollT s now).1 (.tuple #[.int .i64 (rollT s now).2.1, .int .i64 (rollT s now).2.2]) w) := by
  have hnn := nn57 p
  have hu100 := Try.underlying100
  have hu72 := Try.underlying72
  have d1 : decide (now < 0) = false := decide_eq_false (by omega)
  have d2 : decide (now > 1099511627776) = false := decide_eq_false (by omega)
  have d3 : decide (1099511627776 < now) = false := decide_eq_false (by omega)
  have hst := stW_bd (wd := 300) (by decide) hn
  obtain ⟨ht1, ht2, ht3⟩ : Tk (roll1 s now).1 ∧ 0 ≤ (roll1 s now).2.1 ∧ (roll1 s now).2.1 ≤ 1099511627776 := by
    rcases roll2_tk (now := now) hG with h | h
    · exact h
    · omega
  have hmd := rollT_made (now := now) hG
  have HTK := Lib.hid ht1
  have HC1 := Lib.hid (fun W => window_Start.calls 1 now _ W (start1_is hn (by omega)))
  have HC2 := Lib.hid (fun W => window_Start.calls 2 (roll1 s now).2.1 _ W (start2_is ht2 (by omega)))
  have HR1 := Lib.hid (fun (W : World) (h : IsStk (More F w W) p s W) (hf : ∀ b, More F w W b → b < W.heap.size) => rolled1_calls (More F w W) p s (stW 300 now) W h hf hG.tick (roll1 s now) rfl)
  obtain ⟨r, hr⟩ : ∃ r, r = roll1 s now := ⟨_, rfl⟩
  rw [← hr] at HR1 HC2 ht2 ht3 hmd HTK
  have HR2 := Lib.hid (fun (W : World) (h : IsStk (More F w W) p { s with a1 := r.1, m1 := r.2.1 } W) (hf : ∀ b, More F w W b → b < W.heap.size) => rolled2_calls (More F w W) p { s with a1 := r.1, m1 := r.2.1 } (stW 3600 r.2.1) W h hf HTK.out (roll2 s r.1 r.2.1) rfl)
  obtain ⟨k, hk⟩ : ∃ k, k = roll2 s r.1 r.2.1 := ⟨_, rfl⟩
  rw [← hk] at HR2 hmd
  have HE := Aside0.mk (show rollT s now = (⟨s.raw, r.1, k.1, r.2.1, k.2.1⟩, r.2.2.1 + k.2.2.1, mx r.2.2.2 k.2.2.2) by unfold rollT; rw [← hr, ← hk])
  have hw : wrap64 (r.2.2.1 + k.2.2.1) = r.2.2.1 + k.2.2.1 := by unfold wrap64; omega
  have hmx : (if r.2.2.2 < k.2.2.2 then k.2.2.2 else r.2.2.2) = mx r.2.2.2 k.2.2.2 := rfl
  have HS := Aside0.mk (hS.below ((Below.refl _ _).drew))
  have HS0 := Aside0.mk hS
  have HF := Lib.hid hF
  clear hS hF hG hn hn2 hst ht1 ht2 ht3 hmd hr hk HTK HS
  go_enter Try.func33, Try.ntmps33
  go_wp2_with fail
  refine (HC1.out w).mono ?_
  rintro e w1 ⟨rfl, h1d⟩
  have h1 := below_drewN0 h1d
  have HS1 := Aside0.mk ((HS0.out.below h1).mono (show ∀ b, F b → More F w w1 b from fun b hb => .inl hb))
  have HK1 := Aside0.mk (Keep.of_below' (S := F) h1)
  clear h1 h1d HC1
  go_wp2_with fail
  refine (HR1.out w1 HS1.out (More.lt HF.out HK1.out.size)).mono ?_
  rintro e w2 ⟨rfl, hs2, hk2⟩
  have HS2 := Aside0.mk (hs2.mono (More.trans HK1.out.size hk2.size))
  have HK2 := Aside0.mk (HK1.out.trans' hk2 (fun b hb h => h.low hb))
  clear hs2 hk2 HR1 HS1 HK1
  obtain ⟨pr, v1, v2, hp, _⟩ := HS2.out.row
  have q0 : w2.cell? ⟨p, 5, none⟩ = some (.int .i64 r.2.1) := blk_cell hp 5
  clear hp
  go_wp2_with fail
  refine (HC2.out w2).mono ?_
  rintro e w3 ⟨rfl, h3d⟩
  have h3 := below_drewN0 h3d
  have HS3 := Aside0.mk ((HS2.out.below h3).mono (More.up h3.size))
  have HK3 := Aside0.mk (HK2.out.trans' (Keep.of_below' (S := F) h3) (fun b _ h => h))
  clear h3 h3d HC2 HS2 HK2 q0
  go_wp2_with fail
  refine (HR2.out w3 HS3.out (More.lt HF.out HK3.out.size)).mono ?_
  rintro e w4 ⟨rfl, hs4, hk4⟩
  have HS4 := Aside0.mk (hs4.mono (More.trans HK3.out.size hk4.size))
  have HK4 := Aside0.mk (HK3.out.trans' hk4 (fun b hb h => h.low hb))
  clear hs4 hk4 HR2 HS3 HK3
  go_wp2
  go_ret2
  rw [HE.out]
  refine ⟨?_, HS4.out, HK4.out⟩
  show Ending.returned (.tuple #[.int .i64 (wrap64 (r.2.2.1 + k.2.2.1)), .int .i64 (mx r.2.2.2 k.2.2.2)]) = _
  rw [hw]
set_option maxRecDepth 100000 in
theorem troll_bad (p : Nat) (now : Int) (w : World) (hn : now < 0 ∨ 1099511627776 < now) : Calls Try.prog 33 #[.pointer (some ⟨p, 0, none⟩), .int .i64 now] w fun e w' => e = .returned (.tuple #[.int .i64 0, .int .i64 3]) ∧ Below w.heap.size w w' := by
  have hnn := nn57 p
  by_cases h : now < 0
  · have d1 : decide (now < 0) = true := decide_eq_true h
    go_enter Try.func33, Try.ntmps33
    go_wp2
    go_ret2
    exact ⟨rfl, Below.refl _ _⟩
  · have d1 : decide (now < 0) = false := decide_eq_false h
    have d2 : decide (now > 1099511627776) = true := decide_eq_true (by omega)
    have d3 : decide (1099511627776 < now) = true := decide_eq_true (by omega)
    go_enter Try.func33, Try.ntmps33
    go_wp2
    go_ret2
    exact ⟨rfl, Below.refl _ _⟩
set_option maxRecDepth 100000 in
theorem troll_nil (now : Int) (w : World) : Calls Try.prog 33 #[.pointer none, .int .i64 now] w fun e w' => e = .returned (.tuple #[.int .i64 0, .int .i64 1]) ∧ Below w.heap.size w w' := by
  have hn := nil57
  go_enter Try.func33, Try.ntmps33
  go_wp2
  go_ret2
  exact ⟨rfl, Below.refl _ _⟩
set_option maxRecDepth 100000 in
theorem tmark1_calls (F : Nat → Prop) (p : Nat) (s : Stk) (w : World) (hS : IsStk F p s w) : Calls Try.prog 36 #[.pointer (some ⟨p, 0, none⟩), .int .i64 1] w fun e w' => e = .returned (.int .i64 s.m1) ∧ Below w.heap.size w w' := by
  obtain ⟨pr, v1, v2, hp, _⟩ := hS.row
  have hn := nn57 p
  have hu100 := Try.underlying100
  have hu72 := Try.underlying72
  have HP := Aside0.mk hp
  have HWD := Lib.hid (tier_wide.calls 1 true)
  clear hS hp
  go_enter Try.func36, Try.ntmps36
  go_wp2_with fail
  refine (HWD.out _ rfl).mono ?_
  rintro e w1 ⟨rfl, h1d⟩
  have h1 := below_drewN0 h1d
  have HB := Aside0.mk h1
  have q0 : w1.cell? ⟨p, 5, none⟩ = some (.int .i64 s.m1) := bread h1 (blk_cell HP.out 5)
  clear h1 h1d HWD
  go_wp2
  go_ret
  exact ⟨rfl, HB.out⟩
set_option maxRecDepth 100000 in
theorem tmark2_calls (F : Nat → Prop) (p : Nat) (s : Stk) (w : World) (hS : IsStk F p s w) : Calls Try.prog 36 #[.pointer (some ⟨p, 0, none⟩), .int .i64 2] w fun e w' => e = .returned (.int .i64 s.m2) ∧ Below w.heap.size w w' := by
  obtain ⟨pr, v1, v2, hp, _⟩ := hS.row
  have hn := nn57 p
  have hu100 := Try.underlying100
  have hu72 := Try.underlying72
  have HP := Aside0.mk hp
  have HWD := Lib.hid (tier_wide.calls 2 true)
  clear hS hp
  go_enter Try.func36, Try.ntmps36
  go_wp2_with fail
  refine (HWD.out _ rfl).mono ?_
  rintro e w1 ⟨rfl, h1d⟩
  have h1 := below_drewN0 h1d
  have HB := Aside0.mk h1
  have q0 : w1.cell? ⟨p, 6, none⟩ = some (.int .i64 s.m2) := bread h1 (blk_cell HP.out 6)
  clear h1 h1d HWD
  go_wp2
  go_ret
  exact ⟨rfl, HB.out⟩
/-- A stock of few points, and no more. -/
def rawS (R : List S29) : Stk := ⟨R, [], [], 0, 0⟩
theorem rawS_good {R : List S29} (h1 : Ris R) (h2 : TickOk R) (h3 : R.length ≤ 256) : GoodT (rawS R) :=
  ⟨h1, h2, h3, ⟨fun x hx => (by cases hx), List.Pairwise.nil, by show 0 ≤ 256; decide⟩, ⟨fun x hx => (by cases hx), List.Pairwise.nil, by show 0 ≤ 256; decide⟩, by show (0 : Int) % 300 = 0; decide, by show (0 : Int) % 3600 = 0; decide, by show (0 : Int) ≤ 0; decide, by show (0 : Int) ≤ 0; decide, by show (0 : Int) ≤ _; decide⟩
end Go.Proofs.Ytnjdngjlbonieaa
