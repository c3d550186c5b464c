/- quota.Ledger: own, Left, Open, Close, walked. -/
import Derived.Test.YtdbhejckpkifoaaQuotB
import Derived.Lib.Hide
import Derived.LoopTactic
import Derived.Outline
import Derived.Laws.Rows
import Derived.Laws.CopyOwn
import Derived.WalkKit
set_option linter.unusedVariables false
set_option linter.unusedSimpArgs false
namespace Go.Proofs.Ytdbhejckpkifoaa
open Go.RowKit Go.Proofs.YtdbhejckpkifoaaW.PrintWords Go.Proofs.YtdbhejckpkifoaaW.PrintLast Go.Proofs.YtdbhejckpkifoaaW.PrintMore
open Go.Proofs.Ytdbhejckpkifoaa.PSlotsBack
attribute [local go_sem] max2_int min2_int max_two min_two max_three min_three max_four min_four

set_option maxRecDepth 100000 in
set_option maxHeartbeats 8000000 in
theorem qown_none (p b : Nat) (cap : Int) (M : Mdl) (s : ByteArray) (hs : s.size ≤ 1000) (w : World) (h : IsLed p b cap M w) (hg : getM s M = none) :
    Calls Try.prog 43 #[.pointer (some ⟨p, 0, none⟩), .string s] w fun e w' => e = .returned (.tuple #[.agg #[.int .i64 0, .int .i64 0, .int .i64 0, .int .i64 0], .int .i64 7]) ∧ Below w.heap.size w w' := by
  have c1 := h.c1
  have hb1 := h.blt
  have hlk := (h.below ((Below.refl _ _).alloc (Nat.le_refl _) (.cells #[.int .i64 0, .int .i64 0, .int .i64 0, .int .i64 0] 65))).look s hs
  rw [hg] at hlk
  unfold acctV zeroA at hlk
  simp only [Option.getD_none, Option.isSome_none] at hlk
  have hp := h.plt
  clear h hg
  go_enter Try.func43, Try.ntmps43
  go_wp2
  refine bodyPost_ret (v := .tuple #[.agg #[.int .i64 0, .int .i64 0, .int .i64 0, .int .i64 0], .int .i64 7]) (by simp [results, Try.results43, go_sem]) rfl ⟨rfl, ?_⟩
  exact ((Below.refl _ _).alloc (Nat.le_refl _) _).alloc (by simp) _
set_option maxRecDepth 100000 in
set_option maxHeartbeats 8000000 in
theorem qown_some (p b : Nat) (cap : Int) (M : Mdl) (s : ByteArray) (hs : s.size ≤ 1000) (w : World) (h : IsLed p b cap M w) (a : Acct) (hg : getM s M = some a) :
    Calls Try.prog 43 #[.pointer (some ⟨p, 0, none⟩), .string s] w fun e w' => e = .returned (.tuple #[.agg #[.int .i64 a.b, .int .i64 a.s, .int .i64 a.ub, .int .i64 a.us], .int .i64 0]) ∧ Below w.heap.size w w' := by
  have c1 := h.c1
  have hb1 := h.blt
  have hlk := (h.below ((Below.refl _ _).alloc (Nat.le_refl _) (.cells #[.int .i64 0, .int .i64 0, .int .i64 0, .int .i64 0] 65))).look s hs
  rw [hg] at hlk
  obtain ⟨a1, a2, a3, a4⟩ := a
  unfold acctV at hlk
  simp only [Option.getD_some, Option.isSome_some] at hlk
  have hp := h.plt
  clear h hg
  go_enter Try.func43, Try.ntmps43
  go_wp2
  refine bodyPost_ret (v := .tuple #[.agg #[.int .i64 a1, .int .i64 a2, .int .i64 a3, .int .i64 a4], .int .i64 0]) (by simp [results, Try.results43, go_sem]) rfl ⟨rfl, ?_⟩
  exact ((Below.refl _ _).alloc (Nat.le_refl _) _).alloc (by simp) _
theorem sumB_strike {M : Mdl} (hd : Dis M) {s : ByteArray} {c : Acct} (hc : getM s M = some c) {left : Lit → Bool} (hl : left (litS s) = true) :
    sumB (M.filter fun q => (left (litS q.1) && !(litS q.1).sameKey (litS s))) = sumB (M.filter fun q => left (litS q.1)) - c.b := by
  have hd2 : Dis (M.filter fun q => left (litS q.1)) := List.Pairwise.filter _ hd
  have hm : getM s (M.filter fun q => left (litS q.1)) = some c := getM_of_mem hd2 (List.mem_filter.2 ⟨getM_mem hc, hl⟩)
  rw [← sumB_del hd2 hm]
  unfold delM
  rw [List.filter_filter]
  congr 1
  apply List.filter_congr
  intro q _
  by_cases e : q.1 = s
  · rw [e, WideAt.sameKey_self (isKey_litS s)]; simp
  · rw [Maps.sameKey_ne (fun e' => e (litS_inj e'))]; simp [e]
theorem sumB_filter_le {M : Mdl} (h : ∀ q ∈ M, 0 ≤ q.2.b) (f : ByteArray × Acct → Bool) : 0 ≤ sumB (M.filter f) ∧ sumB (M.filter f) ≤ sumB M := by
  induction M with
  | nil => exact ⟨Int.le_refl _, Int.le_refl _⟩
  | cons q r ih =>
    obtain ⟨i1, i2⟩ := ih fun x hx => h x (List.mem_cons_of_mem _ hx)
    have := h q List.mem_cons_self
    rw [List.filter_cons]
    split
    · rw [sumB_cons, sumB_cons]; omega
    · rw [sumB_cons]; omega
set_option maxRecDepth 100000 in
set_option maxHeartbeats 8000000 in
theorem qleft_calls (p b : Nat) (cap : Int) (M : Mdl) (w : World) (h : IsLed p b cap M w) (hG : GoodM cap M) :
    Calls Try.prog 25 #[.pointer (some ⟨p, 0, none⟩)] w fun e w' => e = .returned (.int .i64 (cap - sumB M)) ∧ Below w.heap.size w w' := by
  have c0 := h.c0
  have c1 := h.c1
  have hb1 := h.blt
  obtain ⟨D, ho, hr⟩ := h.map
  have HO := Aside0.mk ho
  have HR := Aside0.mk hr
  have HGM := Aside0.mk hG
  have HBN := Aside0.mk (show b < w.heap.size from hb1)
  clear h ho hr hG
  go_enter Try.func25, Try.ntmps25
  go_wp2_with (first | (at_range; refine wpList_range_own _ rfl _ 84 rfl 9 65 (Maps.string_keyed Try.underlying9) Try.underlying84 _ b M.length D rfl HO.out ?_; intro w0 hrg0 hg0 hs0) | go_in)
  go_frame
  have R0 := Aside0.mk hrg0
  have B0 := Aside0.mk (show Below w.heap.size w w0 from (Below.refl w.heap.size w).grown hg0 (Nat.le_refl _) (fun k hk => by cases hk))
  have V0 := Aside0.mk (show cap - sumB M + sumB (M.filter fun q => Maps.has D (litS q.1)) = cap by
    rw [List.filter_eq_self.2 (fun q hq => by rw [HR.out.has, getM_of_mem HR.out.dis hq]; rfl)]
    omega)
  clear hrg0 hg0 hs0 c0 c1
  go_loopw [3] (fun v3 wr => ∃ (left : Lit → Bool) (cn : Nat) (V : Int), v3 = .int .i64 V ∧ Aside0 (V = cap - sumB M + sumB (M.filter fun q => left (litS q.1))) ∧ Aside0 (wr.ranges Try.prog 9 RA b w.heap.size M.length D left cn) ∧ Aside0 (Below w.heap.size w wr)) (fun _ wr => wr.rangeLeft b w.heap.size)
  case atStart => exact ⟨_, _, cap, rfl, ⟨V0.out.symm⟩, R0, B0⟩
  case round =>
    obtain ⟨left, cn, V, rfl, HV, HRG, HB⟩ := hrel
    go_wp2_with (first | (at_next; refine wpList_next_ranges _ rfl _ rfl 9 (Maps.string_keyed Try.underlying9) RA Value.string (fun c : Acct => .agg #[.int .i64 c.b, .int .i64 c.s, .int .i64 c.ub, .int .i64 c.us]) (fun key kl hk => by obtain ⟨s, e, _⟩ := keyOf_string_inv9 hk; exact ⟨s, e⟩) (fun v y hv => by obtain ⟨a, e, _⟩ := RA_inv hv; exact ⟨a, e⟩) b w.heap.size M.length _ _ _ rfl HRG.out ?_ ?_) | go_in)
    · intro hc0 hl0
      have hv : V = cap - sumB M := by
        rw [HV.out, List.filter_eq_nil_iff.2 (fun q _ => by rw [hl0]; simp)]
        show cap - sumB M + 0 = _
        omega
      subst hv
      clear hc0 hl0
      go_wp2
      go_ret
      exact ⟨rfl, HB.out⟩
    · intro x c kl y1 y2 w6 cn1 hkey hlx hv hat hrg1 hlt hg1 hs1 hen
      obtain ⟨s, e, rfl⟩ := keyOf_string_inv9 hkey
      injection e with e
      subst e
      obtain ⟨a, e1, e2⟩ := RA_inv hv
      have hy : y1 = acctD c := by
        have hac : acctV c = acctV a := e1
        have : c = a := by
          cases a; cases c
          simp only [acctV, Value.agg.injEq, Array.mk.injEq, List.cons.injEq, Value.int.injEq, true_and, and_true] at hac
          obtain ⟨rfl, rfl, rfl, rfl⟩ := hac
          rfl
        rw [this]
        exact congrArg Prod.fst e2
      have hgc : getM x M = some c := by
        have h1 := hat .nil
        rw [HR.out.at_, hy] at h1
        cases hgx : getM x M with
        | none => rw [hgx] at h1; cases h1
        | some d => rw [hgx] at h1; rw [acctD_inj h1]
      have hst := sumB_strike HR.out.dis hgc (left := left) hlx
      have hsub := sumB_filter_le (M := M) (fun q hq => by have := HGM.out.acc q hq; omega) (fun q => left (litS q.1))
      have hsub2 := sumB_filter_le (M := M) (fun q hq => by have := HGM.out.acc q hq; omega) (fun q => (left (litS q.1) && !(litS q.1).sameKey (litS x)))
      have hsum := HGM.out.sum
      have hcap := HGM.out.cap1
      have hcap0 := HGM.out.cap0
      have hVe := HV.out
      have hca := HGM.out.get hgc
      have hV2 : V - c.b = cap - sumB M + sumB (M.filter fun q => (left (litS q.1) && !(litS q.1).sameKey (litS x))) := by omega
      have HV2 := Aside0.mk hV2
      have hw : IntKind.i64.wrap (V - c.b) = V - c.b := by rw [IntKind.wrap_i64]; omega
      have hlo : 0 ≤ V - c.b := by omega
      have hhi : V - c.b ≤ 1099511627776 := by omega
      have hV0 : 0 ≤ V := by omega
      have hV1 : V ≤ 1099511627776 := by omega
      have hcb0 : 0 ≤ c.b := by omega
      have hcb1 : c.b ≤ 1099511627776 := by omega
      obtain ⟨cb, hcb⟩ : ∃ q, q = c.b := ⟨_, rfl⟩
      rw [← hcb] at hen HV2 hw hlo hhi hcb0 hcb1 ⊢
      have B6 := Aside0.mk (HB.out.grown hg1 HB.out.size (fun k hk => by injection hk with hk; omega))
      have hl1 := hrg1.left_eq
      have hl0 := HRG.out.left_eq
      have HLT := Aside0.mk (show w6.rangeLeft b w.heap.size < wr.rangeLeft b w.heap.size by rw [hl1, hl0]; exact hlt)
      have R6 := Aside0.mk hrg1
      clear hkey hlx hv hat hrg1 hlt hg1 hs1 hl1 hl0 e1 e2 hy hgc hst hsub hsub2 hsum hcap hcap0 hVe hca hV2 hcb
      go_wp2
      go_roundw
      case rel => exact ⟨_, _, _, rfl, HV2, ⟨R6.out.alloc _⟩, ⟨Below.alloc B6.out B6.out.size _⟩⟩
      case measure => rw [(R6.out.alloc _).left_eq, ← R6.out.left_eq]; exact HLT.out
end Go.Proofs.Ytdbhejckpkifoaa
