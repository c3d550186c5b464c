/- A tier of a stock rolled as far as a tick, walked. -/
import Derived.Test.YtnjdngjlbonieaaTierF
import Derived.Lib.Hide
import Derived.LoopTactic
import Derived.Outline
import Derived.Laws.Rows
import Derived.Laws.CopyOwn
import Derived.WalkKit
set_option linter.unusedVariables false
set_option linter.unusedSimpArgs false
namespace Go.Proofs.Ytnjdngjlbonieaa
open Go.RowKit Go.Proofs.YtnjdngjlbonieaaW.PrintWords Go.Proofs.YtnjdngjlbonieaaW.PrintLast Go.Proofs.YtnjdngjlbonieaaW.PrintMore
open Go.Proofs.Ytnjdngjlbonieaa.PTierForgets
attribute [local go_sem] max2_int min2_int max_two min_two max_three min_three max_four min_four

/-- A tier, as far as a tick: soon: where the tier below has something; ofw: what that window comes to. -/
def rollP (soon : Int → Option Int) (ofw : Int → S31) (wd tt : Int) : Nat → List S31 → Int → Int → List S31 × Int × Int × Int
  | 0, A, m, made => (A, m, made, 0)
  | k + 1, A, m, made => if tt ≤ m then (A, m, made, 0) else match soon m with
    | none => (A, tt, made, 0)
    | some nx => if tt ≤ nx then (A, tt, made, 0) else if 256 ≤ A.length then (A, mx m (stW wd nx), made, 6) else rollP soon ofw wd tt k (A ++ [ofw nx]) (stW wd nx + wd) (made + 1)
def of1 (raw : List S29) (nx : Int) : S31 := (ofP (stW 300 nx) (inR (stW 300 nx) (stW 300 nx + 300) raw)).1
def of2 (a1 : List S31) (nx : Int) : S31 := (joinP (stW 3600 nx) (aggR 300 (stW 3600 nx) (stW 3600 nx + 3600) a1)).1
theorem IsSer.cell {F : Nat → Prop} {pr p : Nat} {l : List S29} {w : World} {cs : Array Value} (h : IsSer F pr l w) (hp : w.heap[p]? = some (.cells cs 100 (0, 0))) (i : Nat) (y : Value) : IsSer F pr l (w.setCell ⟨p, i, none⟩ y) := by
  obtain ⟨v, h1, h2, h3⟩ := h.row
  refine ⟨h.ris, h.len, h.own, v, blk_far h1 (fun e => ?_) y, own_cell h2 hp (by decide) i y, h3⟩
  have e : p = pr := e
  rw [e, h1] at hp
  injection hp with hp
  injection hp with _ hp
  cases hp
section
variable {F : Nat → Prop} {p : Nat} {s : Stk} {w w1 : World}
theorem IsStk.mark1 (h : IsStk F p s w) (v : Int) : IsStk F p { s with m1 := v } (w.setCell ⟨p, 5, none⟩ (.int .i64 v)) := by
  obtain ⟨ps, v1, v2, h1, h2, h3, h4, h5, h6, h7⟩ := h.row
  exact ⟨h.own, h.l1, h.l2, ps, v1, v2, blk_set h1 5 _, h2.cell h1 5 _, own_cell h3 h1 (by decide) 5 _, own_cell h4 h1 (by decide) 5 _, h5, h6, h7⟩
theorem IsStk.mark2 (h : IsStk F p s w) (v : Int) : IsStk F p { s with m2 := v } (w.setCell ⟨p, 6, none⟩ (.int .i64 v)) := by
  obtain ⟨ps, v1, v2, h1, h2, h3, h4, h5, h6, h7⟩ := h.row
  exact ⟨h.own, h.l1, h.l2, ps, v1, v2, blk_set h1 6 _, h2.cell h1 6 _, own_cell h3 h1 (by decide) 6 _, own_cell h4 h1 (by decide) 6 _, h5, h6, h7⟩
theorem IsSer.grown31 {pr n : Nat} {l : List S29} {v : Value} {xs : List Value} (h : IsSer F pr l w) (hv : w.ownsRow 0 31 5 v n xs) (hg : w.grownBy w1 v.ownBlock) : IsSer F pr l w1 := by
  obtain ⟨u, h1, h2, h3⟩ := h.row
  refine ⟨h.ris, h.len, h.own, u, (hg.block pr (blk_lt h1) (fun e => row_ne hv h1 (by decide) e.symm)).trans h1, own_kept h2 (fun b hb => hg.block b (h2.lt b hb).2 (fun e => ?_)), h3⟩
  obtain ⟨c1, e1⟩ := own_typed h2 b hb
  exact row_ne hv e1 (by decide) e.symm
/-- A row of a stock's has grown, and is laid in its place. -/
theorem IsStk.push1 {v' : Value} {l' : List S31} (h : IsStk F p s w) {ps : Nat} {v1 v2 : Value} (h1 : w.heap[p]? = some (.cells (stkCells ps v1 v2 s) 100 (0, 0))) (h2 : IsSer F ps s.raw w) (h3 : w.ownsRow 0 31 5 v1 s.a1.length (s.a1.flatMap aggP)) (h4 : w.ownsRow 0 31 5 v2 s.a2.length (s.a2.flatMap aggP))
    (h5 : ∀ g, v1.ownBlock = some g → F g) (h6 : ∀ g, v2.ownBlock = some g → F g) (h7 : ∀ g, v1.ownBlock = some g → v2.ownBlock ≠ some g) (hg : w.grownBy w1 v1.ownBlock) (ho : w1.ownsRow 0 31 5 v' l'.length (l'.flatMap aggP)) (hb : v'.ownBlock = v1.ownBlock ∨ v'.ownBlock = some w.heap.size) (hl : l'.length ≤ 256) :
    IsStk (More F w w1) p { s with a1 := l' } (w1.setCell ⟨p, 2, none⟩ v') := by
  have hp1 : w1.heap[p]? = _ := (hg.block p (blk_lt h1) (fun e => row_ne h3 h1 (by decide) e.symm)).trans h1
  refine ⟨.inl h.own, hl, h.l2, ps, v', v2, blk_set hp1 2 _, ((h2.grown31 h3 hg).cell hp1 2 _).mono (fun b hb => .inl hb), own_cell ho hp1 (by decide) 2 _, own_cell (own_kept h4 (fun b hb => hg.block b (h4.lt b hb).2 (fun e => h7 b e.symm hb))) hp1 (by decide) 2 _, fun g hgg => ?_, fun g hgg => .inl (h6 g hgg), fun g hgg e => ?_⟩
  · rcases hb with hb | hb
    · exact .inl (h5 g (by rw [← hb]; exact hgg))
    · rw [hb] at hgg
      injection hgg with hgg
      have := (ho.lt g (by rw [hb, hgg])).2
      exact .inr ⟨by omega, this⟩
  · rcases hb with hb | hb
    · exact h7 g (by rw [← hb]; exact hgg) e
    · rw [hb] at hgg
      injection hgg with hgg
      have := (h4.lt g e).2
      omega
theorem IsStk.push2 {v' : Value} {l' : List S31} (h : IsStk F p s w) {ps : Nat} {v1 v2 : Value} (h1 : w.heap[p]? = some (.cells (stkCells ps v1 v2 s) 100 (0, 0))) (h2 : IsSer F ps s.raw w) (h3 : w.ownsRow 0 31 5 v1 s.a1.length (s.a1.flatMap aggP)) (h4 : w.ownsRow 0 31 5 v2 s.a2.length (s.a2.flatMap aggP))
    (h5 : ∀ g, v1.ownBlock = some g → F g) (h6 : ∀ g, v2.ownBlock = some g → F g) (h7 : ∀ g, v1.ownBlock = some g → v2.ownBlock ≠ some g) (hg : w.grownBy w1 v2.ownBlock) (ho : w1.ownsRow 0 31 5 v' l'.length (l'.flatMap aggP)) (hb : v'.ownBlock = v2.ownBlock ∨ v'.ownBlock = some w.heap.size) (hl : l'.length ≤ 256) :
    IsStk (More F w w1) p { s with a2 := l' } (w1.setCell ⟨p, 3, none⟩ v') := by
  have hp1 : w1.heap[p]? = _ := (hg.block p (blk_lt h1) (fun e => row_ne h4 h1 (by decide) e.symm)).trans h1
  refine ⟨.inl h.own, h.l1, hl, ps, v1, v', blk_set hp1 3 _, ((h2.grown31 h4 hg).cell hp1 3 _).mono (fun b hb => .inl hb), own_cell (own_kept h3 (fun b hb => hg.block b (h3.lt b hb).2 (fun e => h7 b hb e.symm))) hp1 (by decide) 3 _, own_cell ho hp1 (by decide) 3 _, fun g hgg => .inl (h5 g hgg), fun g hgg => ?_, fun g hgg e => ?_⟩
  · rcases hb with hb | hb
    · exact .inl (h6 g (by rw [← hb]; exact hgg))
    · rw [hb] at hgg
      injection hgg with hgg
      have := (ho.lt g (by rw [hb, hgg])).2
      exact .inr ⟨by omega, this⟩
  · rcases hb with hb | hb
    · exact h7 g hgg (by rw [← hb]; exact e)
    · rw [hb] at e
      injection e with e
      have := (h3.lt g hgg).2
      omega
end
/-- append of one aggregate out of a block. -/
theorem app31 (W : World) (B nb : Nat) (v : Value) (l : List S31) (x : S31) (hv : W.ownsRow B 31 5 v l.length (l.flatMap aggP)) (hb : W.heap[nb]? = some (.cells #[.int .i64 x.f0, .int .i64 x.f1, .int .i64 x.f2, .int .i64 x.f3, .int .i64 x.f4] 31 (0, 0))) (hs : l.length ≤ 1000) (hB : B ≤ W.heap.size) :
    ∃ A' c' w', (Builtin.append_ #[24, 24] 24 #[v, .slice (some ⟨nb, 0, none⟩) 1 1]).run Try.prog W = .ok (.slice A' (l.length + 1) c') w' ∧ w'.ownsRow B 31 5 (.slice A' (l.length + 1) c') (l ++ [x]).length ((l ++ [x]).flatMap aggP) ∧ W.grownBy w' v.ownBlock ∧ ((Value.slice A' (l.length + 1) c').ownBlock = v.ownBlock ∨ (Value.slice A' (l.length + 1) c').ownBlock = some W.heap.size) := by
  obtain ⟨i31, hi31, z0, z1, z2⟩ := info_parts info31
  obtain ⟨v', w', h1, h2, h3, _, h5⟩ := run_append_own_at (P := Try.prog) W B 24 24 31 i31 _ 5 40 Try.underlying24 hi31 z0 z1 z2 rfl (by decide) v l.length (l.flatMap aggP) hv ⟨nb, 0, none⟩ 1 1 (aggP x) rfl (fun j u hu => by
    rw [Addr.add_lit, Nat.zero_add, blk_cell hb j]
    simpa using hu) (by simp [Value.oneCell']) (by unfold maxLen; omega) (by omega) hB
  obtain ⟨A', c', rfl⟩ := row_form h2
  exact ⟨A', c', w', h1, by rw [List.length_append, List.flatMap_append]; simpa using h2, h3, h5⟩
theorem More.up {F : Nat → Prop} {w w1 w2 : World} (h : w1.heap.size ≤ w2.heap.size) : ∀ b, More F w w1 b → More F w w2 b := by
  rintro b (h1 | ⟨h1, h2⟩)
  · exact .inl h1
  · exact .inr ⟨h1, by omega⟩
theorem More.lt {F : Nat → Prop} {w w1 : World} (hF : ∀ b, F b → b < w.heap.size) (h : w.heap.size ≤ w1.heap.size) : ∀ b, More F w w1 b → b < w1.heap.size := by
  rintro b (h1 | ⟨h1, h2⟩)
  · have := hF b h1; omega
  · exact h2
theorem More.low {F : Nat → Prop} {w w1 : World} {b : Nat} (h : More F w w1 b) (hb : b < w.heap.size) : F b := by
  rcases h with h | ⟨h, _⟩
  · exact h
  · omega
theorem soonR_mem {m nx : Int} {l : List S29} (h : soonR m l = some nx) : m ≤ nx ∧ ∃ x ∈ l, x.f0 = nx := by
  obtain ⟨x, hx, rfl⟩ := Option.map_eq_some_iff.1 h
  exact ⟨by simpa using List.find?_some hx, x, List.mem_of_find?_eq_some hx, rfl⟩
theorem soonA_mem {m nx : Int} {l : List S31} (h : soonA m l = some nx) : m ≤ nx ∧ ∃ x ∈ l, x.f0 = nx := by
  obtain ⟨x, hx, rfl⟩ := Option.map_eq_some_iff.1 h
  exact ⟨by simpa using List.find?_some hx, x, List.mem_of_find?_eq_some hx, rfl⟩
set_option maxRecDepth 100000 in
set_option maxHeartbeats 64000000 in
theorem rolled1_calls (F : Nat → Prop) (p : Nat) (s : Stk) (tt : Int) (w : World) (hS : IsStk F p s w) (hF : ∀ b, F b → b < w.heap.size) (hk : TickOk s.raw) (R : List S31 × Int × Int × Int) (hR : rollP (fun m => soonR m s.raw) (of1 s.raw) 300 tt (257 - s.a1.length) s.a1 s.m1 0 = R) :
    Calls Try.prog 67 #[.pointer (some ⟨p, 0, none⟩), .int .i64 1, .int .i64 tt] w (StkPost F p { s with a1 := R.1, m1 := R.2.1 } (.tuple #[.int .i64 R.2.2.1, .int .i64 R.2.2.2]) w) := by
  have hu42 := Try.underlying42
  have hu31 := Try.underlying31
  have hu100 := Try.underlying100
  have hu98 := Try.underlying98
  have hu72 := Try.underlying72
  have HS0 := Aside0.mk hS
  have HF := Lib.hid hF
  have HK := Lib.hid hk
  have HR0 := Aside0.mk hR
  clear hS hF hk hR
  go_enter Try.func67, Try.ntmps67
  go_wp2_with fail
  go_loopw [8] (fun v8 wr => ∃ (A : List S31) (m : Int) (made : Nat), v8 = .int .i64 (made : Int) ∧ made ≤ A.length ∧ A.length ≤ 256 ∧ Aside0 (IsStk (More F w wr) p { s with a1 := A, m1 := m } wr) ∧ Aside0 (Keep F w wr) ∧ Aside0 (rollP (fun m => soonR m s.raw) (of1 s.raw) 300 tt (257 - A.length) A m (made : Int) = R)) (fun v _ => 300 - (intOf v).toNat)
  case atStart => exact ⟨s.a1, s.m1, 0, rfl, Nat.zero_le _, HS0.out.l1, ⟨HS0.out.mono fun b hb => .inl hb⟩, ⟨Keep.refl _ _⟩, HR0⟩
  case round =>
    clear HR0 HS0
    obtain ⟨A, m, made, rfl, hmA, hA, HS, HKP, HR⟩ := hrel
    obtain ⟨pr, v1, v2, hp, _⟩ := HS.out.row
    have q0 : wr.cell? ⟨p, 5, none⟩ = some (.int .i64 m) := blk_cell hp 5
    have HSZ := Aside0.mk HKP.out.size
    clear hp
    by_cases hm : m < tt
    · have hmI : decide (m < tt) = true := decide_eq_true hm
      obtain ⟨k, hk⟩ : ∃ k, 257 - A.length = k + 1 := ⟨256 - A.length, by omega⟩
      have hr := HR.out
      rw [hk] at hr
      unfold rollP at hr
      rw [if_neg (by omega)] at hr
      have HSO := Aside0.mk (show Calls Try.prog 82 #[.pointer (some ⟨p, 0, none⟩), .int .i64 1] wr (SoonPost (soonR m s.raw) wr) from soon1_calls (More F w wr) p { s with a1 := A, m1 := m } wr HS.out (More.lt HF.out HSZ.out))
      obtain ⟨o, ho⟩ : ∃ o, o = soonR m s.raw := ⟨_, rfl⟩
      rw [← ho] at HSO
      have HO := Aside0.mk ho
      simp only [← ho] at hr
      have HRR := Aside0.mk hr
      have HKK := Aside0.mk hk
      clear ho hr hk HR
      go_wp2_with fail
      refine HSO.out.mono ?_
      rintro e w2 ⟨rfl, h2⟩
      have HS2 := Aside0.mk ((HS.out.below h2).mono (More.up h2.size))
      have HK2 := Aside0.mk (HKP.out.trans' (Keep.of_below' (S := F) h2) (fun b _ h => h))
      clear h2 HSO q0
      obtain ⟨pr, v1, v2, hp, _⟩ := HS2.out.row
      have q0 : w2.cell? ⟨p, 5, none⟩ = some (.int .i64 m) := blk_cell hp 5
      have x0 : w2.frozen? ⟨p, 5, none⟩ = false := blk_frozen hp 5
      have HP2 := Aside0.mk hp
      clear hp
      by_cases hcase : o = none ∨ ∃ nx, o = some nx ∧ tt ≤ nx
      · have HRE := Aside0.mk (show R = (A, tt, (made : Int), 0) by
          have h := HRR.out
          rcases hcase with rfl | ⟨nx, rfl, hn⟩
          · exact h.symm
          · simp only [if_pos hn] at h
            exact h.symm)
        have HFIN := Aside0.mk (show IsStk (More F w (w2.setCell ⟨p, 5, none⟩ (.int .i64 tt))) p { s with a1 := A, m1 := tt } (w2.setCell ⟨p, 5, none⟩ (.int .i64 tt)) from (HS2.out.mark1 tt).mono (More.up (by simp [World.setCell])))
        have HKF := Aside0.mk (show Keep F w (w2.setCell ⟨p, 5, none⟩ (.int .i64 tt)) from HK2.out.setCell (p := ⟨p, 5, none⟩) (fun h => HS2.out.own.low h) _)
        rcases hcase with rfl | ⟨nx, rfl, hn⟩
        · go_wp2
          go_ret2
          rw [HRE.out]
          exact ⟨rfl, HFIN.out, HKF.out⟩
        · have d1 : decide (tt ≤ nx) = true := decide_eq_true hn
          have d2 : decide (nx ≥ tt) = true := decide_eq_true hn
          go_wp2
          go_ret2
          rw [HRE.out]
          exact ⟨rfl, HFIN.out, HKF.out⟩
      · obtain ⟨nx, rfl⟩ : ∃ nx, o = some nx := by
          cases o with
          | none => exact absurd (.inl rfl) hcase
          | some nx => exact ⟨nx, rfl⟩
        have hn : ¬ tt ≤ nx := fun h => hcase (.inr ⟨nx, rfl, h⟩)
        have d1 : decide (tt ≤ nx) = false := decide_eq_false hn
        have d2 : decide (nx ≥ tt) = false := decide_eq_false hn
        have HNX := Aside0.mk (show 0 ≤ nx ∧ nx ≤ 4611686018427380000 from by
          obtain ⟨_, x, hx, he⟩ := soonR_mem HO.out.symm
          have := HK.out x hx
          omega)
        have HRQ := Aside0.mk (show (if 256 ≤ A.length then (A, mx m (stW 300 nx), (made : Int), 6) else rollP (fun m => soonR m s.raw) (of1 s.raw) 300 tt k (A ++ [(of1 s.raw) nx]) (stW 300 nx + 300) ((made : Int) + 1)) = R from by
          have h := HRR.out
          simp only [if_neg hn] at h
          exact h)
        clear hcase HRR HO hn
        have HOF := Aside0.mk (show Calls Try.prog 71 #[.int .i64 1, .int .i64 nx] w2 _ from window_Of.calls 10 1 nx _ _ w2 (wOf_is (t := 1) (.inl rfl) HNX.out.1 HNX.out.2))
        have hwd : widthT 1 = 300 := by decide
        rw [hwd] at HOF
        clear hwd
        obtain ⟨from_, hfrom⟩ : ∃ f, f = stW 300 nx := ⟨_, rfl⟩
        rw [← hfrom] at HOF HRQ
        have HFR := Aside0.mk hfrom
        clear hfrom
        go_wp2_with fail
        refine HOF.out.mono ?_
        rintro e w3 ⟨rfl, h3⟩
        obtain ⟨W3, hW3⟩ : ∃ W, W = w3.alloc (.cells #[.int .i64 from_, .int .i64 (from_ + 300)] 42) := ⟨_, rfl⟩
        obtain ⟨X, hX⟩ : ∃ X, X = w3.heap.size := ⟨_, rfl⟩
        have hb3 : Below w2.heap.size w2 W3 := by rw [hW3]; exact h3.alloc h3.size _
        have HX3 := Aside0.mk (show W3.heap[X]? = some (.cells #[.int .i64 from_, .int .i64 (from_ + 300)] 42 (0, 0)) by rw [hW3, hX]; exact blk_new w3 _)
        have HS3 := Aside0.mk ((HS2.out.below hb3).mono (More.up hb3.size))
        have HK3 := Aside0.mk (HK2.out.trans' (Keep.of_below' (S := F) hb3) (fun b _ h => h))
        have HP3 := Aside0.mk (show W3.heap[p]? = some (.cells (stkCells pr v1 v2 { s with a1 := A, m1 := m }) 100 (0, 0)) from (hb3.block p (blk_lt HP2.out)).trans HP2.out)
        have u0 : W3.cell? ⟨X, 0, none⟩ = some (.int .i64 from_) := blk_cell HX3.out 0
        have u1 : W3.cell? ⟨X, 1, none⟩ = some (.int .i64 (from_ + 300)) := blk_cell HX3.out 1
        clear HOF h3 hb3 HS2 HK2 HP2 q0 x0 HS HKP
        go_upto_region 7 with (fail)
        rw [← hW3, ← hX]
        clear hW3 hX
        have HOC := Aside0.mk (show Calls Try.prog 83 #[.pointer (some ⟨p, 0, none⟩), .int .i64 1, .agg #[.int .i64 from_, .int .i64 (from_ + 300)]] W3 (OfPost (ofP from_ (inR from_ (from_ + 300) s.raw)) W3) from tof1_calls _ p { s with a1 := A, m1 := m } from_ (from_ + 300) W3 HS3.out)
        obtain ⟨y, hy⟩ : ∃ y, y = (ofP from_ (inR from_ (from_ + 300) s.raw)) := ⟨_, rfl⟩
        rw [← hy] at HOC
        have HY := Aside0.mk (show y.1 = (of1 s.raw) nx by rw [hy, HFR.out]; rfl)
        clear hy
        go_wp2_with fail
        refine HOC.out.mono ?_
        rintro e w4 ⟨rfl, h4⟩
        obtain ⟨W, hW⟩ : ∃ W, W = w4.alloc (.cells #[.int .i64 y.1.f0, .int .i64 y.1.f1, .int .i64 y.1.f2, .int .i64 y.1.f3, .int .i64 y.1.f4] 31) := ⟨_, rfl⟩
        obtain ⟨Y, hY⟩ : ∃ Y, Y = w4.heap.size := ⟨_, rfl⟩
        have hb4 : Below W3.heap.size W3 W := by rw [hW]; exact h4.alloc h4.size _
        have hYb : W.heap[Y]? = some (.cells #[.int .i64 y.1.f0, .int .i64 y.1.f1, .int .i64 y.1.f2, .int .i64 y.1.f3, .int .i64 y.1.f4] 31 (0, 0)) := by rw [hW, hY]; exact blk_new w4 _
        have hXb : W.heap[X]? = some (.cells #[.int .i64 from_, .int .i64 (from_ + 300)] 42 (0, 0)) := (hb4.block X (blk_lt HX3.out)).trans HX3.out
        have hPb : W.heap[p]? = some (.cells (stkCells pr v1 v2 { s with a1 := A, m1 := m }) 100 (0, 0)) := (hb4.block p (blk_lt HP3.out)).trans HP3.out
        have HSW := Aside0.mk ((HS3.out.below hb4).mono (More.up hb4.size))
        have HKW := Aside0.mk (HK3.out.trans' (Keep.of_below' (S := F) hb4) (fun b _ h => h))
        clear HOC h4 hb4 HS3 HK3 HP3 HX3 u0 u1
        go_upto_region 8 with (fail)
        rw [← hW, ← hY]
        clear hW hY
        obtain ⟨pr2, u1_, u2_, hp9, hsr9, ho1, ho2, hf1, hf2, hap⟩ := HSW.out.row
        have hcell : u1_ = v1 ∧ u2_ = v2 ∧ pr2 = pr := by
          rw [hPb] at hp9
          injection hp9 with hp9
          injection hp9 with hp9
          unfold stkCells at hp9
          simp at hp9
          exact ⟨hp9.2.1.symm, hp9.2.2.symm, hp9.1.symm⟩
        obtain ⟨rfl, rfl, rfl⟩ := hcell
        obtain ⟨Ar, cr, hvr⟩ := row_form ho1
        subst hvr
        have HPB := Aside0.mk hPb
        have HXB := Aside0.mk hXb
        have HYB := Aside0.mk hYb
        have q0 : W.cell? ⟨p, 2, none⟩ = some (.slice Ar A.length cr) := blk_cell hPb 2
        have HPARTS := Lib.hid (And.intro hsr9 (And.intro ho1 (And.intro ho2 (And.intro hf1 (And.intro hf2 hap)))))
        clear hp9 hsr9 ho1 ho2 hf1 hf2 hap hPb hXb hYb
        by_cases hfull : 256 ≤ A.length
        · have f1 : decide ((A.length : Int) ≥ 256) = true := decide_eq_true (by omega)
          have f2 : decide ((256 : Int) ≤ (A.length : Int)) = true := decide_eq_true (by omega)
          have f3 : decide (256 ≤ A.length) = true := decide_eq_true hfull
          obtain ⟨mv, hmv⟩ : ∃ v, v = mx m from_ := ⟨_, rfl⟩
          have hmx : (if m < from_ then from_ else m) = mv := hmv.symm
          have HRE := Aside0.mk (show R = (A, mv, (made : Int), 6) by have h := HRQ.out; rw [if_pos hfull, ← hmv] at h; exact h.symm)
          clear hmv
          have HFIN := Aside0.mk (show IsStk (More F w (W.drew.setCell ⟨p, 5, none⟩ (.int .i64 mv))) p { s with a1 := A, m1 := mv } (W.drew.setCell ⟨p, 5, none⟩ (.int .i64 mv)) from ((HSW.out.below (pw_below_drewN (Below.refl _ _) 1)).mark1 mv).mono (More.up (by simp [World.setCell])))
          have HKF := Aside0.mk (show Keep F w (W.drew.setCell ⟨p, 5, none⟩ (.int .i64 mv)) from HKW.out.drew.setCell (p := ⟨p, 5, none⟩) (fun h => HSW.out.own.low h) _)
          have HPL := Aside0.mk HPB.out
          have HXL := Aside0.mk HXB.out
          go_wp2_with fail
          refine start_ (n := 15) (S := fun w' => (w'.heap[p]? = some (.cells (stkCells pr2 (.slice Ar A.length cr) u2_ { s with a1 := A, m1 := m }) 100 (0, 0))) ∧ (w'.heap[X]? = some (.cells #[.int .i64 from_, .int .i64 (from_ + 300)] 42 (0, 0)))) (ds := [14]) #[false, false, false, false, false, false, false, false, false, false, false, false, false, false, false] (by kernel_rfl) rfl rfl ⟨HPL.out, HXL.out⟩ (fun hHeld => ?_)
          refine pure_ (i := 0) (N := some 59) (v := ?_) (a' := ?_) #[true, false, false, false, false, false, false, false, false, false, false, false, false, false, false] rfl rfl (by kernel_rfl) (fun _ _ _ h => h) (Or.inl ⟨by rfl, ?_⟩) ?_ ?_
          rotate_left
          · intro w'
            go_simp
            with_reducible rfl
          rotate_left
          · simp only [Act.put, List.setIfInBounds_toArray, List.set_cons_zero, List.set_cons_succ, i64_w, i32_w]
            rfl
          refine pure_ (i := 1) (N := some 60) (v := ?_) (a' := ?_) #[true, true, false, false, false, false, false, false, false, false, false, false, false, false, false] rfl rfl (by kernel_rfl) (fun _ _ _ h => h) (Or.inl ⟨by rfl, ?_⟩) ?_ ?_
          rotate_left
          · intro w'
            go_simp
            with_reducible rfl
          rotate_left
          · simp only [Act.put, List.setIfInBounds_toArray, List.set_cons_zero, List.set_cons_succ, i64_w, i32_w]
            rfl
          refine pure_ (i := 2) (N := some 61) (v := ?_) (a' := ?_) #[true, true, true, false, false, false, false, false, false, false, false, false, false, false, false] rfl rfl (by kernel_rfl) (fun _ _ _ h => h) (Or.inl ⟨by rfl, ?_⟩) ?_ ?_
          rotate_left
          · intro w'
            go_simp
            with_reducible rfl
          rotate_left
          · simp only [Act.put, List.setIfInBounds_toArray, List.set_cons_zero, List.set_cons_succ, i64_w, i32_w]
            rfl
          refine pure_ (i := 3) (N := some 62) (v := ?_) (a' := ?_) #[true, true, true, true, false, false, false, false, false, false, false, false, false, false, false] rfl rfl (by kernel_rfl) (fun _ _ _ h => h) (Or.inl ⟨by rfl, ?_⟩) ?_ ?_
          rotate_left
          · intro w'
            go_simp
            with_reducible rfl
          rotate_left
          · simp only [Act.put, List.setIfInBounds_toArray, List.set_cons_zero, List.set_cons_succ, i64_w, i32_w]
            rfl
          refine pure_ (i := 4) (N := some 63) (v := ?_) (a' := ?_) #[true, true, true, true, true, false, false, false, false, false, false, false, false, false, false] rfl rfl (by kernel_rfl) (fun _ _ _ h => h) (Or.inl ⟨by rfl, ?_⟩) ?_ ?_
          rotate_left
          · intro w'
            go_simp
            with_reducible rfl
          rotate_left
          · simp only [Act.put, List.setIfInBounds_toArray, List.set_cons_zero, List.set_cons_succ, i64_w, i32_w]
            rfl
          refine pure_ (i := 5) (N := some 64) (v := ?_) (a' := ?_) #[true, true, true, true, true, true, false, false, false, false, false, false, false, false, false] rfl rfl (by kernel_rfl) (fun _ _ _ h => h) (Or.inl ⟨by rfl, ?_⟩) ?_ ?_
          rotate_left
          · intro w'
            go_simp
            with_reducible rfl
          rotate_left
          · simp only [Act.put, List.setIfInBounds_toArray, List.set_cons_zero, List.set_cons_succ, i64_w, i32_w]
            rfl
          refine pure_ (i := 6) (N := some 65) (v := ?_) (a' := ?_) #[true, true, true, true, true, true, true, false, false, false, false, false, false, false, false] rfl rfl (by kernel_rfl) (fun _ _ _ h => h) (Or.inl ⟨by rfl, ?_⟩) ?_ ?_
          rotate_left
          · intro w'
            go_simp
            with_reducible rfl
          rotate_left
          · simp only [Act.put, List.setIfInBounds_toArray, List.set_cons_zero, List.set_cons_succ, i64_w, i32_w]
            rfl
          refine pure_ (i := 8) (N := some 67) (v := ?_) (a' := ?_) #[true, true, true, true, true, true, true, false, true, false, false, false, false, false, false] rfl rfl (by kernel_rfl) (fun _ _ _ h => h) (Or.inl ⟨by rfl, ?_⟩) ?_ ?_
          rotate_left
          · intro w'
            go_simp
            with_reducible rfl
          rotate_left
          · simp only [Act.put, List.setIfInBounds_toArray, List.set_cons_zero, List.set_cons_succ, i64_w, i32_w]
            rfl
          refine pure_ (i := 11) (N := some 70) (v := ?_) (a' := ?_) #[true, true, true, true, true, true, true, false, true, false, false, true, false, false, false] rfl rfl (by kernel_rfl) (fun _ _ _ h => h) (Or.inl ⟨by rfl, ?_⟩) ?_ ?_
          rotate_left
          · intro w'
            go_simp
            with_reducible rfl
          rotate_left
          · simp only [Act.put, List.setIfInBounds_toArray, List.set_cons_zero, List.set_cons_succ, i64_w, i32_w]
            rfl
          refine pure_ (i := 12) (N := some 71) (v := ?_) (a' := ?_) #[true, true, true, true, true, true, true, false, true, false, false, true, true, false, false] rfl rfl (by kernel_rfl) (fun _ _ _ h => h) (Or.inl ⟨by rfl, ?_⟩) ?_ ?_
          rotate_left
          · intro w'
            go_simp
            with_reducible rfl
          rotate_left
          · simp only [Act.put, List.setIfInBounds_toArray, List.set_cons_zero, List.set_cons_succ, i64_w, i32_w]
            rfl
          refine take_ (i := 7) (N := some 66) (v := ?_) (a' := ?_) #[true, true, true, true, true, true, true, true, true, false, false, true, true, false, false] rfl rfl (by kernel_rfl) (fun _ _ _ h => h) (Or.inl ⟨by rfl, ?_⟩) hHeld ?_ ?_
          rotate_left
          · rintro w' ⟨s0, s1⟩
            have t0 : w'.cell? ⟨p, 5, none⟩ = some (.int .i64 m) := blk_cell s0 5
            have t1 : w'.cell? ⟨X, 0, none⟩ = some (.int .i64 from_) := blk_cell s1 0
            go_simp
            with_reducible rfl
          rotate_left
          · simp only [Act.put, List.setIfInBounds_toArray, List.set_cons_zero, List.set_cons_succ, i64_w, i32_w]
            rfl
          refine take_ (i := 9) (N := some 68) (v := ?_) (a' := ?_) #[true, true, true, true, true, true, true, true, true, true, false, true, true, false, false] rfl rfl (by kernel_rfl) (fun _ _ _ h => h) (Or.inl ⟨by rfl, ?_⟩) hHeld ?_ ?_
          rotate_left
          · rintro w' ⟨s0, s1⟩
            have t0 : w'.cell? ⟨p, 5, none⟩ = some (.int .i64 m) := blk_cell s0 5
            have t1 : w'.cell? ⟨X, 0, none⟩ = some (.int .i64 from_) := blk_cell s1 0
            go_simp
            with_reducible rfl
          rotate_left
          · simp only [Act.put, List.setIfInBounds_toArray, List.set_cons_zero, List.set_cons_succ, i64_w, i32_w]
            rfl
          refine pure_ (i := 10) (N := some 69) (v := ?_) (a' := ?_) #[true, true, true, true, true, true, true, true, true, true, true, true, true, false, false] rfl rfl (by kernel_rfl) (fun _ _ _ h => h) (Or.inl ⟨by rfl, ?_⟩) ?_ ?_
          rotate_left
          · intro w'
            go_simp
            with_reducible rfl
          rotate_left
          · simp only [Act.put, List.setIfInBounds_toArray, List.set_cons_zero, List.set_cons_succ, i64_w, i32_w]
            rfl
          refine pure_ (i := 13) (N := some 72) (v := ?_) (a' := ?_) #[true, true, true, true, true, true, true, true, true, true, true, true, true, true, false] rfl rfl (by kernel_rfl) (fun _ _ _ h => h) (Or.inl ⟨by rfl, ?_⟩) ?_ ?_
          rotate_left
          · intro w'
            go_simp
            with_reducible rfl
          rotate_left
          · simp only [Act.put, List.setIfInBounds_toArray, List.set_cons_zero, List.set_cons_succ, i64_w, i32_w]
            rfl
          refine last_ (i := 14) (N := none) #[true, true, true, true, true, true, true, true, true, true, true, true, true, true, true] rfl rfl (by kernel_rfl) (by decide) (fun K hK => ?_)
          have y0 : _ = some (Value.int .i64 m) := blk_cell hHeld.1 5
          have x0 := blk_frozen hHeld.1 5
          refine skip_ (w1 := ?_) (by rfl) rfl ?_ ?_
          rotate_left
          · go_simp
            rfl
          clear x0 y0
          refine hK.out _ _ ?_
          clear hK K
          refine done_ (by kernel_rfl) ?_
          go_wp2
          go_ret2
          rw [HRE.out]
          exact ⟨rfl, HFIN.out, HKF.out⟩
        · have f1 : decide ((A.length : Int) ≥ 256) = false := decide_eq_false (by omega)
          have f2 : decide ((256 : Int) ≤ (A.length : Int)) = false := decide_eq_false (by omega)
          have f3 : decide (256 ≤ A.length) = false := decide_eq_false hfull
          have HRN := Aside0.mk (show rollP (fun m => soonR m s.raw) (of1 s.raw) 300 tt (257 - (A ++ [y.1]).length) (A ++ [y.1]) (from_ + 300) ((made + 1 : Nat) : Int) = R by
            have h := HRQ.out
            rw [if_neg hfull] at h
            have e := HKK.out
            rw [List.length_append, List.length_singleton, show 257 - (A.length + 1) = k by omega, HY.out]
            rw [HFR.out] at h ⊢
            exact h)
          obtain ⟨hsr9, ho1, ho2, hf1, hf2, hap⟩ := HPARTS.out
          obtain ⟨W6, hW6⟩ : ∃ W6, W6 = W.drew.alloc (.cells #[.int .i64 y.1.f0, .int .i64 y.1.f1, .int .i64 y.1.f2, .int .i64 y.1.f3, .int .i64 y.1.f4] 31) := ⟨_, rfl⟩
          have hb6 : Below W.heap.size W W6 := by rw [hW6]; exact (pw_below_drewN (Below.refl _ _) 1).alloc (Nat.le_refl _) _
          have hS6 := (HSW.out.below hb6).mono (More.up hb6.size)
          have hP6 : W6.heap[p]? = _ := (hb6.block p (blk_lt HPB.out)).trans HPB.out
          have hX6 : W6.heap[X]? = _ := (hb6.block X (blk_lt HXB.out)).trans HXB.out
          have ho16 := own_kept (w' := W6) ho1 fun b hb => hb6.block b (ho1.lt b hb).2
          have ho26 := own_kept (w' := W6) ho2 fun b hb => hb6.block b (ho2.lt b hb).2
          have hN6 : W6.heap[W.heap.size]? = some (.cells #[.int .i64 y.1.f0, .int .i64 y.1.f1, .int .i64 y.1.f2, .int .i64 y.1.f3, .int .i64 y.1.f4] 31 (0, 0)) := by rw [hW6]; exact blk_new W.drew _
          obtain ⟨A', c', w7, hr7, ho7, hg7, hb7⟩ := app31 W6 0 W.heap.size _ A y.1 ho16 hN6 (by omega) (Nat.zero_le _)
          have hS8 := (hS6.push1 hP6 ((hsr9.below hb6).mono (More.up hb6.size)) ho16 ho26 (fun g hg => More.up hb6.size g (hf1 g hg)) (fun g hg => More.up hb6.size g (hf2 g hg)) hap hg7 ho7 hb7 (by rw [List.length_append, List.length_singleton]; omega)).mono (More.trans (by have h1 := HKW.out.size; have h2 := hb6.size; omega) hg7.size)
          have hK6 := HKW.out.trans' (Keep.of_below' (S := F) hb6) (fun b _ h => h)
          have hK7 := hK6.grown hg7 (fun g hg hl => (hf1 g hg).low hl)
          have hK8 := hK7.setCell (p := ⟨p, 2, none⟩) (fun h => hS6.own.low h) (.slice A' (A.length + 1) c')
          have hP7 : w7.heap[p]? = _ := (hg7.block p (blk_lt hP6) (fun e => row_ne ho16 hP6 (by decide) e.symm)).trans hP6
          have hX7 : w7.heap[X]? = _ := (hg7.block X (blk_lt hX6) (fun e => row_ne ho16 hX6 (by decide) e.symm)).trans hX6
          have HXP := Aside0.mk (show X ≠ p from fun e => by rw [e] at hX7; rw [hX7] at hP7; injection hP7 with hP7; injection hP7 with _ hP7; cases hP7)
          have hX8 := blk_far hX7 (p := ⟨p, 2, none⟩) (fun e => HXP.out e.symm) (.slice A' (A.length + 1) c')
          have hsz7 : (w7.setCell ⟨p, 2, none⟩ (.slice A' (A.length + 1) c')).heap.size = w7.heap.size := by simp [World.setCell]
          have HS8 := Aside0.mk (hS8.mono (More.up (Nat.le_of_eq hsz7.symm)))
          have HK8 := Aside0.mk hK8
          have HX8 := Aside0.mk hX8
          have HR7 := Aside0.mk hr7
          have HP7 := Aside0.mk hP7
          have HW6 := Aside0.mk hW6
          clear hsr9 ho1 ho2 hf1 hf2 hap hb6 hS6 hP6 hX6 ho16 ho26 hN6 hr7 ho7 hg7 hb7 hS8 hK6 hK7 hK8 hP7 hX7 hX8 hsz7 hW6 HPARTS
          go_wp2_with fail
          refine start_ (n := 15) (S := fun w' => (w'.heap[p]? = some (.cells (stkCells pr2 (.slice Ar A.length cr) u2_ { s with a1 := A, m1 := m }) 100 (0, 0))) ∧ (w'.heap[Y]? = some (.cells #[.int .i64 y.1.f0, .int .i64 y.1.f1, .int .i64 y.1.f2, .int .i64 y.1.f3, .int .i64 y.1.f4] 31 (0, 0)))) (ds := [10, 14]) #[false, false, false, false, false, false, false, false, false, false, false, false, false, false, false] (by kernel_rfl) rfl rfl ⟨HPB.out, HYB.out⟩ (fun hHeld => ?_)
          refine pure_ (i := 0) (N := some 74) (v := ?_) (a' := ?_) #[true, false, false, false, false, false, false, false, false, false, false, false, false, false, false] rfl rfl (by kernel_rfl) (fun _ _ _ h => h) (Or.inl ⟨by rfl, ?_⟩) ?_ ?_
          rotate_left
          · intro w'
            go_simp
            with_reducible rfl
          rotate_left
          · simp only [Act.put, List.setIfInBounds_toArray, List.set_cons_zero, List.set_cons_succ, i64_w, i32_w]
            rfl
          refine pure_ (i := 1) (N := some 75) (v := ?_) (a' := ?_) #[true, true, false, false, false, false, false, false, false, false, false, false, false, false, false] rfl rfl (by kernel_rfl) (fun _ _ _ h => h) (Or.inl ⟨by rfl, ?_⟩) ?_ ?_
          rotate_left
          · intro w'
            go_simp
            with_reducible rfl
          rotate_left
          · simp only [Act.put, List.setIfInBounds_toArray, List.set_cons_zero, List.set_cons_succ, i64_w, i32_w]
            rfl
          refine pure_ (i := 2) (N := some 76) (v := ?_) (a' := ?_) #[true, true, true, false, false, false, false, false, false, false, false, false, false, false, false] rfl rfl (by kernel_rfl) (fun _ _ _ h => h) (Or.inl ⟨by rfl, ?_⟩) ?_ ?_
          rotate_left
          · intro w'
            go_simp
            with_reducible rfl
          rotate_left
          · simp only [Act.put, List.setIfInBounds_toArray, List.set_cons_zero, List.set_cons_succ, i64_w, i32_w]
            rfl
          refine pure_ (i := 3) (N := some 77) (v := ?_) (a' := ?_) #[true, true, true, true, false, false, false, false, false, false, false, false, false, false, false] rfl rfl (by kernel_rfl) (fun _ _ _ h => h) (Or.inl ⟨by rfl, ?_⟩) ?_ ?_
          rotate_left
          · intro w'
            go_simp
            with_reducible rfl
          rotate_left
          · simp only [Act.put, List.setIfInBounds_toArray, List.set_cons_zero, List.set_cons_succ, i64_w, i32_w]
            rfl
          refine pure_ (i := 4) (N := some 78) (v := ?_) (a' := ?_) #[true, true, true, true, true, false, false, false, false, false, false, false, false, false, false] rfl rfl (by kernel_rfl) (fun _ _ _ h => h) (Or.inl ⟨by rfl, ?_⟩) ?_ ?_
          rotate_left
          · intro w'
            go_simp
            with_reducible rfl
          rotate_left
          · simp only [Act.put, List.setIfInBounds_toArray, List.set_cons_zero, List.set_cons_succ, i64_w, i32_w]
            rfl
          refine pure_ (i := 5) (N := some 79) (v := ?_) (a' := ?_) #[true, true, true, true, true, true, false, false, false, false, false, false, false, false, false] rfl rfl (by kernel_rfl) (fun _ _ _ h => h) (Or.inl ⟨by rfl, ?_⟩) ?_ ?_
          rotate_left
          · intro w'
            go_simp
            with_reducible rfl
          rotate_left
          · simp only [Act.put, List.setIfInBounds_toArray, List.set_cons_zero, List.set_cons_succ, i64_w, i32_w]
            rfl
          refine pure_ (i := 6) (N := some 80) (v := ?_) (a' := ?_) #[true, true, true, true, true, true, true, false, false, false, false, false, false, false, false] rfl rfl (by kernel_rfl) (fun _ _ _ h => h) (Or.inl ⟨by rfl, ?_⟩) ?_ ?_
          rotate_left
          · intro w'
            go_simp
            with_reducible rfl
          rotate_left
          · simp only [Act.put, List.setIfInBounds_toArray, List.set_cons_zero, List.set_cons_succ, i64_w, i32_w]
            rfl
          refine pure_ (i := 11) (N := some 85) (v := ?_) (a' := ?_) #[true, true, true, true, true, true, true, false, false, false, false, true, false, false, false] rfl rfl (by kernel_rfl) (fun _ _ _ h => h) (Or.inl ⟨by rfl, ?_⟩) ?_ ?_
          rotate_left
          · intro w'
            go_simp
            with_reducible rfl
          rotate_left
          · simp only [Act.put, List.setIfInBounds_toArray, List.set_cons_zero, List.set_cons_succ, i64_w, i32_w]
            rfl
          refine pure_ (i := 12) (N := some 86) (v := ?_) (a' := ?_) #[true, true, true, true, true, true, true, false, false, false, false, true, true, false, false] rfl rfl (by kernel_rfl) (fun _ _ _ h => h) (Or.inl ⟨by rfl, ?_⟩) ?_ ?_
          rotate_left
          · intro w'
            go_simp
            with_reducible rfl
          rotate_left
          · simp only [Act.put, List.setIfInBounds_toArray, List.set_cons_zero, List.set_cons_succ, i64_w, i32_w]
            rfl
          refine take_ (i := 7) (N := some 81) (v := ?_) (a' := ?_) #[true, true, true, true, true, true, true, true, false, false, false, true, true, false, false] rfl rfl (by kernel_rfl) (fun _ _ _ h => h) (Or.inl ⟨by rfl, ?_⟩) hHeld ?_ ?_
          rotate_left
          · rintro w' ⟨s0, s1⟩
            have t0 : w'.cell? ⟨p, 2, none⟩ = some (.slice Ar A.length cr) := blk_cell s0 2
            have y0 : w'.cell? ⟨Y, 0, none⟩ = some (.int .i64 y.1.f0) := blk_cell s1 0
            have y1 : w'.cell? ⟨Y, 1, none⟩ = some (.int .i64 y.1.f1) := blk_cell s1 1
            have y2 : w'.cell? ⟨Y, 2, none⟩ = some (.int .i64 y.1.f2) := blk_cell s1 2
            have y3 : w'.cell? ⟨Y, 3, none⟩ = some (.int .i64 y.1.f3) := blk_cell s1 3
            have y4 : w'.cell? ⟨Y, 4, none⟩ = some (.int .i64 y.1.f4) := blk_cell s1 4
            go_simp
            with_reducible rfl
          rotate_left
          · simp only [Act.put, List.setIfInBounds_toArray, List.set_cons_zero, List.set_cons_succ, i64_w, i32_w]
            rfl
          refine take_ (i := 8) (N := some 82) (v := ?_) (a' := ?_) #[true, true, true, true, true, true, true, true, true, false, false, true, true, false, false] rfl rfl (by kernel_rfl) (fun _ _ _ h => h) (Or.inl ⟨by rfl, ?_⟩) hHeld ?_ ?_
          rotate_left
          · rintro w' ⟨s0, s1⟩
            have t0 : w'.cell? ⟨p, 2, none⟩ = some (.slice Ar A.length cr) := blk_cell s0 2
            have y0 : w'.cell? ⟨Y, 0, none⟩ = some (.int .i64 y.1.f0) := blk_cell s1 0
            have y1 : w'.cell? ⟨Y, 1, none⟩ = some (.int .i64 y.1.f1) := blk_cell s1 1
            have y2 : w'.cell? ⟨Y, 2, none⟩ = some (.int .i64 y.1.f2) := blk_cell s1 2
            have y3 : w'.cell? ⟨Y, 3, none⟩ = some (.int .i64 y.1.f3) := blk_cell s1 3
            have y4 : w'.cell? ⟨Y, 4, none⟩ = some (.int .i64 y.1.f4) := blk_cell s1 4
            go_simp
            with_reducible rfl
          rotate_left
          · simp only [Act.put, List.setIfInBounds_toArray, List.set_cons_zero, List.set_cons_succ, i64_w, i32_w]
            rfl
          refine one_ (i := 9) (N := some 83) #[true, true, true, true, true, true, true, true, true, true, false, true, true, false, false] rfl rfl (by kernel_rfl) (by decide) (fun K hK => ?_)
          have HB9 := Aside0.mk hHeld
          refine value_ (w1 := ?_) (v := ?_) (by rfl) rfl ?_ ?_
          rotate_left 2
          · go_simp
            constructor
            · rfl
            · rfl
          refine hK.out _ _ ⟨(blk_alloc HB9.out.1 _), (blk_alloc HB9.out.2 _)⟩ (fun hHeld => ?_)
          clear hK K
          refine norm_ (a' := ?_) ?_ ?_
          rotate_left
          · show Act.put _ (some 83) _ = _
            simp only [Act.put, List.setIfInBounds_toArray, List.set_cons_zero, List.set_cons_succ, i64_w, i32_w]
            rfl
          refine last_ (i := 10) (N := some 84) #[true, true, true, true, true, true, true, true, true, true, true, true, true, false, false] rfl rfl (by kernel_rfl) (by decide) (fun K hK => ?_)
          refine appends_ (.tmp 81) (.tmp 83) 24 24 _ _ (by rfl) rfl rfl rfl (by rfl) (by rfl) (by have h := HR7.out; rw [HW6.out] at h; exact h) ?_
          refine hK.out _ _ ?_
          clear hK K
          refine norm_ (a' := ?_) ?_ ?_
          rotate_left
          · show Act.put _ (some 84) _ = _
            simp only [Act.put, List.setIfInBounds_toArray, List.set_cons_zero, List.set_cons_succ, i64_w, i32_w]
            rfl
          refine pure_ (i := 13) (N := some 87) (v := ?_) (a' := ?_) #[true, true, true, true, true, true, true, true, true, true, true, true, true, true, false] rfl rfl (by kernel_rfl) (fun _ _ _ h => h) (Or.inl ⟨by rfl, ?_⟩) ?_ ?_
          rotate_left
          · intro w'
            go_simp
            with_reducible rfl
          rotate_left
          · simp only [Act.put, List.setIfInBounds_toArray, List.set_cons_zero, List.set_cons_succ, i64_w, i32_w]
            rfl
          refine last_ (i := 14) (N := none) #[true, true, true, true, true, true, true, true, true, true, true, true, true, true, true] rfl rfl (by kernel_rfl) (by decide) (fun K hK => ?_)
          have y0 : _ = some (Value.slice Ar A.length cr) := blk_cell HP7.out 2
          have x0 := blk_frozen HP7.out 2
          refine skip_ (w1 := ?_) (by rfl) rfl ?_ ?_
          rotate_left
          · go_simp
            rfl
          clear x0 y0
          refine hK.out _ _ ?_
          clear hK K
          refine done_ (by kernel_rfl) ?_
          obtain ⟨W8, hW8⟩ : ∃ W8, W8 = w7.setCell ⟨p, 2, none⟩ (.slice A' (A.length + 1) c') := ⟨_, rfl⟩
          rw [← hW8] at HS8 HK8 HX8 ⊢
          obtain ⟨pr3, z1_, z2_, hp8, _⟩ := HS8.out.row
          have HP8 := Aside0.mk hp8
          clear hW8 hp8
          have HFIN := Aside0.mk (show IsStk (More F w (W8.drew.setCell ⟨p, 5, none⟩ (.int .i64 (from_ + 300)))) p { s with a1 := A ++ [y.1], m1 := from_ + 300 } (W8.drew.setCell ⟨p, 5, none⟩ (.int .i64 (from_ + 300))) from ((HS8.out.below (pw_below_drewN (Below.refl _ _) 1)).mark1 (from_ + 300)).mono (More.up (by simp [World.setCell])))
          have HKF := Aside0.mk (show Keep F w (W8.drew.setCell ⟨p, 5, none⟩ (.int .i64 (from_ + 300))) from HK8.out.drew.setCell (p := ⟨p, 5, none⟩) (fun h => HS8.out.own.low h) _)
          go_wp2_with fail
          refine start_ (n := 8) (S := fun w' => (w'.heap[X]? = some (.cells #[.int .i64 from_, .int .i64 (from_ + 300)] 42 (0, 0)))) (ds := [7]) #[false, false, false, false, false, false, false, false] (by kernel_rfl) rfl rfl (HX8.out) (fun hHeld => ?_)
          refine pure_ (i := 0) (N := some 88) (v := ?_) (a' := ?_) #[true, false, false, false, false, false, false, false] rfl rfl (by kernel_rfl) (fun _ _ _ h => h) (Or.inl ⟨by rfl, ?_⟩) ?_ ?_
          rotate_left
          · intro w'
            go_simp
            with_reducible rfl
          rotate_left
          · simp only [Act.put, List.setIfInBounds_toArray, List.set_cons_zero, List.set_cons_succ, i64_w, i32_w]
            rfl
          refine pure_ (i := 1) (N := some 89) (v := ?_) (a' := ?_) #[true, true, false, false, false, false, false, false] rfl rfl (by kernel_rfl) (fun _ _ _ h => h) (Or.inl ⟨by rfl, ?_⟩) ?_ ?_
          rotate_left
          · intro w'
            go_simp
            with_reducible rfl
          rotate_left
          · simp only [Act.put, List.setIfInBounds_toArray, List.set_cons_zero, List.set_cons_succ, i64_w, i32_w]
            rfl
          refine pure_ (i := 2) (N := some 90) (v := ?_) (a' := ?_) #[true, true, true, false, false, false, false, false] rfl rfl (by kernel_rfl) (fun _ _ _ h => h) (Or.inl ⟨by rfl, ?_⟩) ?_ ?_
          rotate_left
          · intro w'
            go_simp
            with_reducible rfl
          rotate_left
          · simp only [Act.put, List.setIfInBounds_toArray, List.set_cons_zero, List.set_cons_succ, i64_w, i32_w]
            rfl
          refine pure_ (i := 4) (N := some 92) (v := ?_) (a' := ?_) #[true, true, true, false, true, false, false, false] rfl rfl (by kernel_rfl) (fun _ _ _ h => h) (Or.inl ⟨by rfl, ?_⟩) ?_ ?_
          rotate_left
          · intro w'
            go_simp
            with_reducible rfl
          rotate_left
          · simp only [Act.put, List.setIfInBounds_toArray, List.set_cons_zero, List.set_cons_succ, i64_w, i32_w]
            rfl
          refine pure_ (i := 5) (N := some 93) (v := ?_) (a' := ?_) #[true, true, true, false, true, true, false, false] rfl rfl (by kernel_rfl) (fun _ _ _ h => h) (Or.inl ⟨by rfl, ?_⟩) ?_ ?_
          rotate_left
          · intro w'
            go_simp
            with_reducible rfl
          rotate_left
          · simp only [Act.put, List.setIfInBounds_toArray, List.set_cons_zero, List.set_cons_succ, i64_w, i32_w]
            rfl
          refine take_ (i := 3) (N := some 91) (v := ?_) (a' := ?_) #[true, true, true, true, true, true, false, false] rfl rfl (by kernel_rfl) (fun _ _ _ h => h) (Or.inl ⟨by rfl, ?_⟩) hHeld ?_ ?_
          rotate_left
          · rintro w' s0
            have t1 : w'.cell? ⟨X, 1, none⟩ = some (.int .i64 (from_ + 300)) := blk_cell s0 1
            go_simp
            with_reducible rfl
          rotate_left
          · simp only [Act.put, List.setIfInBounds_toArray, List.set_cons_zero, List.set_cons_succ, i64_w, i32_w]
            rfl
          refine pure_ (i := 6) (N := some 94) (v := ?_) (a' := ?_) #[true, true, true, true, true, true, true, false] rfl rfl (by kernel_rfl) (fun _ _ _ h => h) (Or.inl ⟨by rfl, ?_⟩) ?_ ?_
          rotate_left
          · intro w'
            go_simp
            with_reducible rfl
          rotate_left
          · simp only [Act.put, List.setIfInBounds_toArray, List.set_cons_zero, List.set_cons_succ, i64_w, i32_w]
            rfl
          refine last_ (i := 7) (N := none) #[true, true, true, true, true, true, true, true] rfl rfl (by kernel_rfl) (by decide) (fun K hK => ?_)
          have y0 : _ = some (Value.int .i64 m) := blk_cell HP8.out 5
          have x0 := blk_frozen HP8.out 5
          have y1 : W8.drew.cell? ⟨p, 5, none⟩ = some (.int .i64 m) := y0
          have x1 : W8.drew.frozen? ⟨p, 5, none⟩ = false := x0
          refine skip_ (w1 := ?_) (by rfl) rfl ?_ ?_
          rotate_left
          · go_simp
            rfl
          clear x0 y0 x1 y1
          refine hK.out _ _ ?_
          clear hK K
          refine done_ (by kernel_rfl) ?_
          obtain ⟨W9, hW9⟩ : ∃ W9, W9 = (W8.setCell ⟨p, 5, none⟩ (.int .i64 (from_ + 300))).drew := ⟨_, rfl⟩
          rw [← hW9]
          have HFIN2 := Aside0.mk (show IsStk (More F w W9) p { s with a1 := A ++ [y.1], m1 := from_ + 300 } W9 by rw [hW9]; exact HFIN.out)
          have HKF2 := Aside0.mk (show Keep F w W9 by rw [hW9]; exact HKF.out)
          clear hW9 HFIN HKF
          go_wp2_with fail
          go_roundw
          case rel => exact ⟨A ++ [y.1], from_ + 300, made + 1, by go_num, by rw [List.length_append, List.length_singleton]; omega, by rw [List.length_append, List.length_singleton]; omega, HFIN2, HKF2, HRN⟩
          case measure => simp [intOf]; omega
    · have hmI : decide (m < tt) = false := decide_eq_false hm
      have HRE := Aside0.mk (show R = (A, m, (made : Int), 0) by
        obtain ⟨k, hk⟩ : ∃ k, 257 - A.length = k + 1 := ⟨256 - A.length, by omega⟩
        have h := HR.out
        rw [hk] at h
        unfold rollP at h
        rw [if_pos (by omega)] at h
        exact h.symm)
      go_wp2
      go_ret2
      rw [HRE.out]
      exact ⟨rfl, HS.out, HKP.out⟩
set_option maxRecDepth 100000 in
set_option maxHeartbeats 64000000 in
theorem rolled2_calls (F : Nat → Prop) (p : Nat) (s : Stk) (tt : Int) (w : World) (hS : IsStk F p s w) (hF : ∀ b, F b → b < w.heap.size) (hk : Tk s.a1) (R : List S31 × Int × Int × Int) (hR : rollP (fun m => soonA m s.a1) (of2 s.a1) 3600 tt (257 - s.a2.length) s.a2 s.m2 0 = R) :
    Calls Try.prog 67 #[.pointer (some ⟨p, 0, none⟩), .int .i64 2, .int .i64 tt] w (StkPost F p { s with a2 := R.1, m2 := R.2.1 } (.tuple #[.int .i64 R.2.2.1, .int .i64 R.2.2.2]) w) := by
  have hu42 := Try.underlying42
  have hu31 := Try.underlying31
  have hu100 := Try.underlying100
  have hu98 := Try.underlying98
  have hu72 := Try.underlying72
  have HS0 := Aside0.mk hS
  have HF := Lib.hid hF
  have HK := Lib.hid hk
  have HR0 := Aside0.mk hR
  clear hS hF hk hR
  go_enter Try.func67, Try.ntmps67
  go_wp2_with fail
  go_loopw [8] (fun v8 wr => ∃ (A : List S31) (m : Int) (made : Nat), v8 = .int .i64 (made : Int) ∧ made ≤ A.length ∧ A.length ≤ 256 ∧ Aside0 (IsStk (More F w wr) p { s with a2 := A, m2 := m } wr) ∧ Aside0 (Keep F w wr) ∧ Aside0 (rollP (fun m => soonA m s.a1) (of2 s.a1) 3600 tt (257 - A.length) A m (made : Int) = R)) (fun v _ => 300 - (intOf v).toNat)
  case atStart => exact ⟨s.a2, s.m2, 0, rfl, Nat.zero_le _, HS0.out.l2, ⟨HS0.out.mono fun b hb => .inl hb⟩, ⟨Keep.refl _ _⟩, HR0⟩
  case round =>
    clear HR0 HS0
    obtain ⟨A, m, made, rfl, hmA, hA, HS, HKP, HR⟩ := hrel
    obtain ⟨pr, v1, v2, hp, _⟩ := HS.out.row
    have q0 : wr.cell? ⟨p, 6, none⟩ = some (.int .i64 m) := blk_cell hp 6
    have HSZ := Aside0.mk HKP.out.size
    clear hp
    by_cases hm : m < tt
    · have hmI : decide (m < tt) = true := decide_eq_true hm
      obtain ⟨k, hk⟩ : ∃ k, 257 - A.length = k + 1 := ⟨256 - A.length, by omega⟩
      have hr := HR.out
      rw [hk] at hr
      unfold rollP at hr
      rw [if_neg (by omega)] at hr
      have HSO := Aside0.mk (show Calls Try.prog 82 #[.pointer (some ⟨p, 0, none⟩), .int .i64 2] wr (SoonPost (soonA m s.a1) wr) from soon2_calls (More F w wr) p { s with a2 := A, m2 := m } wr HS.out)
      obtain ⟨o, ho⟩ : ∃ o, o = soonA m s.a1 := ⟨_, rfl⟩
      rw [← ho] at HSO
      have HO := Aside0.mk ho
      simp only [← ho] at hr
      have HRR := Aside0.mk hr
      have HKK := Aside0.mk hk
      clear ho hr hk HR
      go_wp2_with fail
      refine HSO.out.mono ?_
      rintro e w2 ⟨rfl, h2⟩
      have HS2 := Aside0.mk ((HS.out.below h2).mono (More.up h2.size))
      have HK2 := Aside0.mk (HKP.out.trans' (Keep.of_below' (S := F) h2) (fun b _ h => h))
      clear h2 HSO q0
      obtain ⟨pr, v1, v2, hp, _⟩ := HS2.out.row
      have q0 : w2.cell? ⟨p, 6, none⟩ = some (.int .i64 m) := blk_cell hp 6
      have x0 : w2.frozen? ⟨p, 6, none⟩ = false := blk_frozen hp 6
      have HP2 := Aside0.mk hp
      clear hp
      by_cases hcase : o = none ∨ ∃ nx, o = some nx ∧ tt ≤ nx
      · have HRE := Aside0.mk (show R = (A, tt, (made : Int), 0) by
          have h := HRR.out
          rcases hcase with rfl | ⟨nx, rfl, hn⟩
          · exact h.symm
          · simp only [if_pos hn] at h
            exact h.symm)
        have HFIN := Aside0.mk (show IsStk (More F w (w2.setCell ⟨p, 6, none⟩ (.int .i64 tt))) p { s with a2 := A, m2 := tt } (w2.setCell ⟨p, 6, none⟩ (.int .i64 tt)) from (HS2.out.mark2 tt).mono (More.up (by simp [World.setCell])))
        have HKF := Aside0.mk (show Keep F w (w2.setCell ⟨p, 6, none⟩ (.int .i64 tt)) from HK2.out.setCell (p := ⟨p, 6, none⟩) (fun h => HS2.out.own.low h) _)
        rcases hcase with rfl | ⟨nx, rfl, hn⟩
        · go_wp2
          go_ret2
          rw [HRE.out]
          exact ⟨rfl, HFIN.out, HKF.out⟩
        · have d1 : decide (tt ≤ nx) = true := decide_eq_true hn
          have d2 : decide (nx ≥ tt) = true := decide_eq_true hn
          go_wp2
          go_ret2
          rw [HRE.out]
          exact ⟨rfl, HFIN.out, HKF.out⟩
      · obtain ⟨nx, rfl⟩ : ∃ nx, o = some nx := by
          cases o with
          | none => exact absurd (.inl rfl) hcase
          | some nx => exact ⟨nx, rfl⟩
        have hn : ¬ tt ≤ nx := fun h => hcase (.inr ⟨nx, rfl, h⟩)
        have d1 : decide (tt ≤ nx) = false := decide_eq_false hn
        have d2 : decide (nx ≥ tt) = false := decide_eq_false hn
        have HNX := Aside0.mk (show 0 ≤ nx ∧ nx ≤ 4611686018427380000 from by
          obtain ⟨_, x, hx, he⟩ := soonA_mem HO.out.symm
          have := HK.out x hx
          omega)
        have HRQ := Aside0.mk (show (if 256 ≤ A.length then (A, mx m (stW 3600 nx), (made : Int), 6) else rollP (fun m => soonA m s.a1) (of2 s.a1) 3600 tt k (A ++ [(of2 s.a1) nx]) (stW 3600 nx + 3600) ((made : Int) + 1)) = R from by
          have h := HRR.out
          simp only [if_neg hn] at h
          exact h)
        clear hcase HRR HO hn
        have HOF := Aside0.mk (show Calls Try.prog 71 #[.int .i64 2, .int .i64 nx] w2 _ from window_Of.calls 10 2 nx _ _ w2 (wOf_is (t := 2) (.inr rfl) HNX.out.1 HNX.out.2))
        have hwd : widthT 2 = 3600 := by decide
        rw [hwd] at HOF
        clear hwd
        obtain ⟨from_, hfrom⟩ : ∃ f, f = stW 3600 nx := ⟨_, rfl⟩
        rw [← hfrom] at HOF HRQ
        have HFR := Aside0.mk hfrom
        clear hfrom
        go_wp2_with fail
        refine HOF.out.mono ?_
        rintro e w3 ⟨rfl, h3⟩
        obtain ⟨W3, hW3⟩ : ∃ W, W = w3.alloc (.cells #[.int .i64 from_, .int .i64 (from_ + 3600)] 42) := ⟨_, rfl⟩
        obtain ⟨X, hX⟩ : ∃ X, X = w3.heap.size := ⟨_, rfl⟩
        have hb3 : Below w2.heap.size w2 W3 := by rw [hW3]; exact h3.alloc h3.size _
        have HX3 := Aside0.mk (show W3.heap[X]? = some (.cells #[.int .i64 from_, .int .i64 (from_ + 3600)] 42 (0, 0)) by rw [hW3, hX]; exact blk_new w3 _)
        have HS3 := Aside0.mk ((HS2.out.below hb3).mono (More.up hb3.size))
        have HK3 := Aside0.mk (HK2.out.trans' (Keep.of_below' (S := F) hb3) (fun b _ h => h))
        have HP3 := Aside0.mk (show W3.heap[p]? = some (.cells (stkCells pr v1 v2 { s with a2 := A, m2 := m }) 100 (0, 0)) from (hb3.block p (blk_lt HP2.out)).trans HP2.out)
        have u0 : W3.cell? ⟨X, 0, none⟩ = some (.int .i64 from_) := blk_cell HX3.out 0
        have u1 : W3.cell? ⟨X, 1, none⟩ = some (.int .i64 (from_ + 3600)) := blk_cell HX3.out 1
        clear HOF h3 hb3 HS2 HK2 HP2 q0 x0 HS HKP
        go_upto_region 7 with (fail)
        rw [← hW3, ← hX]
        clear hW3 hX
        have HOC := Aside0.mk (show Calls Try.prog 83 #[.pointer (some ⟨p, 0, none⟩), .int .i64 2, .agg #[.int .i64 from_, .int .i64 (from_ + 3600)]] W3 (OfPost (joinP from_ (aggR 300 from_ (from_ + 3600) s.a1)) W3) from tof2_calls _ p { s with a2 := A, m2 := m } from_ (from_ + 3600) W3 HS3.out HK.out)
        obtain ⟨y, hy⟩ : ∃ y, y = (joinP from_ (aggR 300 from_ (from_ + 3600) s.a1)) := ⟨_, rfl⟩
        rw [← hy] at HOC
        have HY := Aside0.mk (show y.1 = (of2 s.a1) nx by rw [hy, HFR.out]; rfl)
        clear hy
        go_wp2_with fail
        refine HOC.out.mono ?_
        rintro e w4 ⟨rfl, h4⟩
        obtain ⟨W, hW⟩ : ∃ W, W = w4.alloc (.cells #[.int .i64 y.1.f0, .int .i64 y.1.f1, .int .i64 y.1.f2, .int .i64 y.1.f3, .int .i64 y.1.f4] 31) := ⟨_, rfl⟩
        obtain ⟨Y, hY⟩ : ∃ Y, Y = w4.heap.size := ⟨_, rfl⟩
        have hb4 : Below W3.heap.size W3 W := by rw [hW]; exact h4.alloc h4.size _
        have hYb : W.heap[Y]? = some (.cells #[.int .i64 y.1.f0, .int .i64 y.1.f1, .int .i64 y.1.f2, .int .i64 y.1.f3, .int .i64 y.1.f4] 31 (0, 0)) := by rw [hW, hY]; exact blk_new w4 _
        have hXb : W.heap[X]? = some (.cells #[.int .i64 from_, .int .i64 (from_ + 3600)] 42 (0, 0)) := (hb4.block X (blk_lt HX3.out)).trans HX3.out
        have hPb : W.heap[p]? = some (.cells (stkCells pr v1 v2 { s with a2 := A, m2 := m }) 100 (0, 0)) := (hb4.block p (blk_lt HP3.out)).trans HP3.out
        have HSW := Aside0.mk ((HS3.out.below hb4).mono (More.up hb4.size))
        have HKW := Aside0.mk (HK3.out.trans' (Keep.of_below' (S := F) hb4) (fun b _ h => h))
        clear HOC h4 hb4 HS3 HK3 HP3 HX3 u0 u1
        go_upto_region 8 with (fail)
        rw [← hW, ← hY]
        clear hW hY
        obtain ⟨pr2, u1_, u2_, hp9, hsr9, ho1, ho2, hf1, hf2, hap⟩ := HSW.out.row
        have hcell : u1_ = v1 ∧ u2_ = v2 ∧ pr2 = pr := by
          rw [hPb] at hp9
          injection hp9 with hp9
          injection hp9 with hp9
          unfold stkCells at hp9
          simp at hp9
          exact ⟨hp9.2.1.symm, hp9.2.2.symm, hp9.1.symm⟩
        obtain ⟨rfl, rfl, rfl⟩ := hcell
        obtain ⟨Ar, cr, hvr⟩ := row_form ho2
        subst hvr
        have HPB := Aside0.mk hPb
        have HXB := Aside0.mk hXb
        have HYB := Aside0.mk hYb
        have q0 : W.cell? ⟨p, 3, none⟩ = some (.slice Ar A.length cr) := blk_cell hPb 3
        have HPARTS := Lib.hid (And.intro hsr9 (And.intro ho1 (And.intro ho2 (And.intro hf1 (And.intro hf2 hap)))))
        clear hp9 hsr9 ho1 ho2 hf1 hf2 hap hPb hXb hYb
        by_cases hfull : 256 ≤ A.length
        · have f1 : decide ((A.length : Int) ≥ 256) = true := decide_eq_true (by omega)
          have f2 : decide ((256 : Int) ≤ (A.length : Int)) = true := decide_eq_true (by omega)
          have f3 : decide (256 ≤ A.length) = true := decide_eq_true hfull
          obtain ⟨mv, hmv⟩ : ∃ v, v = mx m from_ := ⟨_, rfl⟩
          have hmx : (if m < from_ then from_ else m) = mv := hmv.symm
          have HRE := Aside0.mk (show R = (A, mv, (made : Int), 6) by have h := HRQ.out; rw [if_pos hfull, ← hmv] at h; exact h.symm)
          clear hmv
          have HFIN := Aside0.mk (show IsStk (More F w (W.drew.setCell ⟨p, 6, none⟩ (.int .i64 mv))) p { s with a2 := A, m2 := mv } (W.drew.setCell ⟨p, 6, none⟩ (.int .i64 mv)) from ((HSW.out.below (pw_below_drewN (Below.refl _ _) 1)).mark2 mv).mono (More.up (by simp [World.setCell])))
          have HKF := Aside0.mk (show Keep F w (W.drew.setCell ⟨p, 6, none⟩ (.int .i64 mv)) from HKW.out.drew.setCell (p := ⟨p, 6, none⟩) (fun h => HSW.out.own.low h) _)
          have HPL := Aside0.mk HPB.out
          have HXL := Aside0.mk HXB.out
          go_wp2_with fail
          refine start_ (n := 15) (S := fun w' => (w'.heap[p]? = some (.cells (stkCells pr2 u1_ (.slice Ar A.length cr) { s with a2 := A, m2 := m }) 100 (0, 0))) ∧ (w'.heap[X]? = some (.cells #[.int .i64 from_, .int .i64 (from_ + 3600)] 42 (0, 0)))) (ds := [14]) #[false, false, false, false, false, false, false, false, false, false, false, false, false, false, false] (by kernel_rfl) rfl rfl ⟨HPL.out, HXL.out⟩ (fun hHeld => ?_)
          refine pure_ (i := 0) (N := some 59) (v := ?_) (a' := ?_) #[true, false, false, false, false, false, false, false, false, false, false, false, false, false, false] rfl rfl (by kernel_rfl) (fun _ _ _ h => h) (Or.inl ⟨by rfl, ?_⟩) ?_ ?_
          rotate_left
          · intro w'
            go_simp
            with_reducible rfl
          rotate_left
          · simp only [Act.put, List.setIfInBounds_toArray, List.set_cons_zero, List.set_cons_succ, i64_w, i32_w]
            rfl
          refine pure_ (i := 1) (N := some 60) (v := ?_) (a' := ?_) #[true, true, false, false, false, false, false, false, false, false, false, false, false, false, false] rfl rfl (by kernel_rfl) (fun _ _ _ h => h) (Or.inl ⟨by rfl, ?_⟩) ?_ ?_
          rotate_left
          · intro w'
            go_simp
            with_reducible rfl
          rotate_left
          · simp only [Act.put, List.setIfInBounds_toArray, List.set_cons_zero, List.set_cons_succ, i64_w, i32_w]
            rfl
          refine pure_ (i := 2) (N := some 61) (v := ?_) (a' := ?_) #[true, true, true, false, false, false, false, false, false, false, false, false, false, false, false] rfl rfl (by kernel_rfl) (fun _ _ _ h => h) (Or.inl ⟨by rfl, ?_⟩) ?_ ?_
          rotate_left
          · intro w'
            go_simp
            with_reducible rfl
          rotate_left
          · simp only [Act.put, List.setIfInBounds_toArray, List.set_cons_zero, List.set_cons_succ, i64_w, i32_w]
            rfl
          refine pure_ (i := 3) (N := some 62) (v := ?_) (a' := ?_) #[true, true, true, true, false, false, false, false, false, false, false, false, false, false, false] rfl rfl (by kernel_rfl) (fun _ _ _ h => h) (Or.inl ⟨by rfl, ?_⟩) ?_ ?_
          rotate_left
          · intro w'
            go_simp
            with_reducible rfl
          rotate_left
          · simp only [Act.put, List.setIfInBounds_toArray, List.set_cons_zero, List.set_cons_succ, i64_w, i32_w]
            rfl
          refine pure_ (i := 4) (N := some 63) (v := ?_) (a' := ?_) #[true, true, true, true, true, false, false, false, false, false, false, false, false, false, false] rfl rfl (by kernel_rfl) (fun _ _ _ h => h) (Or.inl ⟨by rfl, ?_⟩) ?_ ?_
          rotate_left
          · intro w'
            go_simp
            with_reducible rfl
          rotate_left
          · simp only [Act.put, List.setIfInBounds_toArray, List.set_cons_zero, List.set_cons_succ, i64_w, i32_w]
            rfl
          refine pure_ (i := 5) (N := some 64) (v := ?_) (a' := ?_) #[true, true, true, true, true, true, false, false, false, false, false, false, false, false, false] rfl rfl (by kernel_rfl) (fun _ _ _ h => h) (Or.inl ⟨by rfl, ?_⟩) ?_ ?_
          rotate_left
          · intro w'
            go_simp
            with_reducible rfl
          rotate_left
          · simp only [Act.put, List.setIfInBounds_toArray, List.set_cons_zero, List.set_cons_succ, i64_w, i32_w]
            rfl
          refine pure_ (i := 6) (N := some 65) (v := ?_) (a' := ?_) #[true, true, true, true, true, true, true, false, false, false, false, false, false, false, false] rfl rfl (by kernel_rfl) (fun _ _ _ h => h) (Or.inl ⟨by rfl, ?_⟩) ?_ ?_
          rotate_left
          · intro w'
            go_simp
            with_reducible rfl
          rotate_left
          · simp only [Act.put, List.setIfInBounds_toArray, List.set_cons_zero, List.set_cons_succ, i64_w, i32_w]
            rfl
          refine pure_ (i := 8) (N := some 67) (v := ?_) (a' := ?_) #[true, true, true, true, true, true, true, false, true, false, false, false, false, false, false] rfl rfl (by kernel_rfl) (fun _ _ _ h => h) (Or.inl ⟨by rfl, ?_⟩) ?_ ?_
          rotate_left
          · intro w'
            go_simp
            with_reducible rfl
          rotate_left
          · simp only [Act.put, List.setIfInBounds_toArray, List.set_cons_zero, List.set_cons_succ, i64_w, i32_w]
            rfl
          refine pure_ (i := 11) (N := some 70) (v := ?_) (a' := ?_) #[true, true, true, true, true, true, true, false, true, false, false, true, false, false, false] rfl rfl (by kernel_rfl) (fun _ _ _ h => h) (Or.inl ⟨by rfl, ?_⟩) ?_ ?_
          rotate_left
          · intro w'
            go_simp
            with_reducible rfl
          rotate_left
          · simp only [Act.put, List.setIfInBounds_toArray, List.set_cons_zero, List.set_cons_succ, i64_w, i32_w]
            rfl
          refine pure_ (i := 12) (N := some 71) (v := ?_) (a' := ?_) #[true, true, true, true, true, true, true, false, true, false, false, true, true, false, false] rfl rfl (by kernel_rfl) (fun _ _ _ h => h) (Or.inl ⟨by rfl, ?_⟩) ?_ ?_
          rotate_left
          · intro w'
            go_simp
            with_reducible rfl
          rotate_left
          · simp only [Act.put, List.setIfInBounds_toArray, List.set_cons_zero, List.set_cons_succ, i64_w, i32_w]
            rfl
          refine take_ (i := 7) (N := some 66) (v := ?_) (a' := ?_) #[true, true, true, true, true, true, true, true, true, false, false, true, true, false, false] rfl rfl (by kernel_rfl) (fun _ _ _ h => h) (Or.inl ⟨by rfl, ?_⟩) hHeld ?_ ?_
          rotate_left
          · rintro w' ⟨s0, s1⟩
            have t0 : w'.cell? ⟨p, 6, none⟩ = some (.int .i64 m) := blk_cell s0 6
            have t1 : w'.cell? ⟨X, 0, none⟩ = some (.int .i64 from_) := blk_cell s1 0
            go_simp
            with_reducible rfl
          rotate_left
          · simp only [Act.put, List.setIfInBounds_toArray, List.set_cons_zero, List.set_cons_succ, i64_w, i32_w]
            rfl
          refine take_ (i := 9) (N := some 68) (v := ?_) (a' := ?_) #[true, true, true, true, true, true, true, true, true, true, false, true, true, false, false] rfl rfl (by kernel_rfl) (fun _ _ _ h => h) (Or.inl ⟨by rfl, ?_⟩) hHeld ?_ ?_
          rotate_left
          · rintro w' ⟨s0, s1⟩
            have t0 : w'.cell? ⟨p, 6, none⟩ = some (.int .i64 m) := blk_cell s0 6
            have t1 : w'.cell? ⟨X, 0, none⟩ = some (.int .i64 from_) := blk_cell s1 0
            go_simp
            with_reducible rfl
          rotate_left
          · simp only [Act.put, List.setIfInBounds_toArray, List.set_cons_zero, List.set_cons_succ, i64_w, i32_w]
            rfl
          refine pure_ (i := 10) (N := some 69) (v := ?_) (a' := ?_) #[true, true, true, true, true, true, true, true, true, true, true, true, true, false, false] rfl rfl (by kernel_rfl) (fun _ _ _ h => h) (Or.inl ⟨by rfl, ?_⟩) ?_ ?_
          rotate_left
          · intro w'
            go_simp
            with_reducible rfl
          rotate_left
          · simp only [Act.put, List.setIfInBounds_toArray, List.set_cons_zero, List.set_cons_succ, i64_w, i32_w]
            rfl
          refine pure_ (i := 13) (N := some 72) (v := ?_) (a' := ?_) #[true, true, true, true, true, true, true, true, true, true, true, true, true, true, false] rfl rfl (by kernel_rfl) (fun _ _ _ h => h) (Or.inl ⟨by rfl, ?_⟩) ?_ ?_
          rotate_left
          · intro w'
            go_simp
            with_reducible rfl
          rotate_left
          · simp only [Act.put, List.setIfInBounds_toArray, List.set_cons_zero, List.set_cons_succ, i64_w, i32_w]
            rfl
          refine last_ (i := 14) (N := none) #[true, true, true, true, true, true, true, true, true, true, true, true, true, true, true] rfl rfl (by kernel_rfl) (by decide) (fun K hK => ?_)
          have y0 : _ = some (Value.int .i64 m) := blk_cell hHeld.1 6
          have x0 := blk_frozen hHeld.1 6
          refine skip_ (w1 := ?_) (by rfl) rfl ?_ ?_
          rotate_left
          · go_simp
            rfl
          clear x0 y0
          refine hK.out _ _ ?_
          clear hK K
          refine done_ (by kernel_rfl) ?_
          go_wp2
          go_ret2
          rw [HRE.out]
          exact ⟨rfl, HFIN.out, HKF.out⟩
        · have f1 : decide ((A.length : Int) ≥ 256) = false := decide_eq_false (by omega)
          have f2 : decide ((256 : Int) ≤ (A.length : Int)) = false := decide_eq_false (by omega)
          have f3 : decide (256 ≤ A.length) = false := decide_eq_false hfull
          have HRN := Aside0.mk (show rollP (fun m => soonA m s.a1) (of2 s.a1) 3600 tt (257 - (A ++ [y.1]).length) (A ++ [y.1]) (from_ + 3600) ((made + 1 : Nat) : Int) = R by
            have h := HRQ.out
            rw [if_neg hfull] at h
            have e := HKK.out
            rw [List.length_append, List.length_singleton, show 257 - (A.length + 1) = k by omega, HY.out]
            rw [HFR.out] at h ⊢
            exact h)
          obtain ⟨hsr9, ho1, ho2, hf1, hf2, hap⟩ := HPARTS.out
          obtain ⟨W6, hW6⟩ : ∃ W6, W6 = W.drew.alloc (.cells #[.int .i64 y.1.f0, .int .i64 y.1.f1, .int .i64 y.1.f2, .int .i64 y.1.f3, .int .i64 y.1.f4] 31) := ⟨_, rfl⟩
          have hb6 : Below W.heap.size W W6 := by rw [hW6]; exact (pw_below_drewN (Below.refl _ _) 1).alloc (Nat.le_refl _) _
          have hS6 := (HSW.out.below hb6).mono (More.up hb6.size)
          have hP6 : W6.heap[p]? = _ := (hb6.block p (blk_lt HPB.out)).trans HPB.out
          have hX6 : W6.heap[X]? = _ := (hb6.block X (blk_lt HXB.out)).trans HXB.out
          have ho16 := own_kept (w' := W6) ho1 fun b hb => hb6.block b (ho1.lt b hb).2
          have ho26 := own_kept (w' := W6) ho2 fun b hb => hb6.block b (ho2.lt b hb).2
          have hN6 : W6.heap[W.heap.size]? = some (.cells #[.int .i64 y.1.f0, .int .i64 y.1.f1, .int .i64 y.1.f2, .int .i64 y.1.f3, .int .i64 y.1.f4] 31 (0, 0)) := by rw [hW6]; exact blk_new W.drew _
          obtain ⟨A', c', w7, hr7, ho7, hg7, hb7⟩ := app31 W6 0 W.heap.size _ A y.1 ho26 hN6 (by omega) (Nat.zero_le _)
          have hS8 := (hS6.push2 hP6 ((hsr9.below hb6).mono (More.up hb6.size)) ho16 ho26 (fun g hg => More.up hb6.size g (hf1 g hg)) (fun g hg => More.up hb6.size g (hf2 g hg)) hap hg7 ho7 hb7 (by rw [List.length_append, List.length_singleton]; omega)).mono (More.trans (by have h1 := HKW.out.size; have h2 := hb6.size; omega) hg7.size)
          have hK6 := HKW.out.trans' (Keep.of_below' (S := F) hb6) (fun b _ h => h)
          have hK7 := hK6.grown hg7 (fun g hg hl => (hf2 g hg).low hl)
          have hK8 := hK7.setCell (p := ⟨p, 3, none⟩) (fun h => hS6.own.low h) (.slice A' (A.length + 1) c')
          have hP7 : w7.heap[p]? = _ := (hg7.block p (blk_lt hP6) (fun e => row_ne ho26 hP6 (by decide) e.symm)).trans hP6
          have hX7 : w7.heap[X]? = _ := (hg7.block X (blk_lt hX6) (fun e => row_ne ho26 hX6 (by decide) e.symm)).trans hX6
          have HXP := Aside0.mk (show X ≠ p from fun e => by rw [e] at hX7; rw [hX7] at hP7; injection hP7 with hP7; injection hP7 with _ hP7; cases hP7)
          have hX8 := blk_far hX7 (p := ⟨p, 3, none⟩) (fun e => HXP.out e.symm) (.slice A' (A.length + 1) c')
          have hsz7 : (w7.setCell ⟨p, 3, none⟩ (.slice A' (A.length + 1) c')).heap.size = w7.heap.size := by simp [World.setCell]
          have HS8 := Aside0.mk (hS8.mono (More.up (Nat.le_of_eq hsz7.symm)))
          have HK8 := Aside0.mk hK8
          have HX8 := Aside0.mk hX8
          have HR7 := Aside0.mk hr7
          have HP7 := Aside0.mk hP7
          have HW6 := Aside0.mk hW6
          clear hsr9 ho1 ho2 hf1 hf2 hap hb6 hS6 hP6 hX6 ho16 ho26 hN6 hr7 ho7 hg7 hb7 hS8 hK6 hK7 hK8 hP7 hX7 hX8 hsz7 hW6 HPARTS
          go_wp2_with fail
          refine start_ (n := 15) (S := fun w' => (w'.heap[p]? = some (.cells (stkCells pr2 u1_ (.slice Ar A.length cr) { s with a2 := A, m2 := m }) 100 (0, 0))) ∧ (w'.heap[Y]? = some (.cells #[.int .i64 y.1.f0, .int .i64 y.1.f1, .int .i64 y.1.f2, .int .i64 y.1.f3, .int .i64 y.1.f4] 31 (0, 0)))) (ds := [10, 14]) #[false, false, false, false, false, false, false, false, false, false, false, false, false, false, false] (by kernel_rfl) rfl rfl ⟨HPB.out, HYB.out⟩ (fun hHeld => ?_)
          refine pure_ (i := 0) (N := some 74) (v := ?_) (a' := ?_) #[true, false, false, false, false, false, false, false, false, false, false, false, false, false, false] rfl rfl (by kernel_rfl) (fun _ _ _ h => h) (Or.inl ⟨by rfl, ?_⟩) ?_ ?_
          rotate_left
          · intro w'
            go_simp
            with_reducible rfl
          rotate_left
          · simp only [Act.put, List.setIfInBounds_toArray, List.set_cons_zero, List.set_cons_succ, i64_w, i32_w]
            rfl
          refine pure_ (i := 1) (N := some 75) (v := ?_) (a' := ?_) #[true, true, false, false, false, false, false, false, false, false, false, false, false, false, false] rfl rfl (by kernel_rfl) (fun _ _ _ h => h) (Or.inl ⟨by rfl, ?_⟩) ?_ ?_
          rotate_left
          · intro w'
            go_simp
            with_reducible rfl
          rotate_left
          · simp only [Act.put, List.setIfInBounds_toArray, List.set_cons_zero, List.set_cons_succ, i64_w, i32_w]
            rfl
          refine pure_ (i := 2) (N := some 76) (v := ?_) (a' := ?_) #[true, true, true, false, false, false, false, false, false, false, false, false, false, false, false] rfl rfl (by kernel_rfl) (fun _ _ _ h => h) (Or.inl ⟨by rfl, ?_⟩) ?_ ?_
          rotate_left
          · intro w'
            go_simp
            with_reducible rfl
          rotate_left
          · simp only [Act.put, List.setIfInBounds_toArray, List.set_cons_zero, List.set_cons_succ, i64_w, i32_w]
            rfl
          refine pure_ (i := 3) (N := some 77) (v := ?_) (a' := ?_) #[true, true, true, true, false, false, false, false, false, false, false, false, false, false, false] rfl rfl (by kernel_rfl) (fun _ _ _ h => h) (Or.inl ⟨by rfl, ?_⟩) ?_ ?_
          rotate_left
          · intro w'
            go_simp
            with_reducible rfl
          rotate_left
          · simp only [Act.put, List.setIfInBounds_toArray, List.set_cons_zero, List.set_cons_succ, i64_w, i32_w]
            rfl
          refine pure_ (i := 4) (N := some 78) (v := ?_) (a' := ?_) #[true, true, true, true, true, false, false, false, false, false, false, false, false, false, false] rfl rfl (by kernel_rfl) (fun _ _ _ h => h) (Or.inl ⟨by rfl, ?_⟩) ?_ ?_
          rotate_left
          · intro w'
            go_simp
            with_reducible rfl
          rotate_left
          · simp only [Act.put, List.setIfInBounds_toArray, List.set_cons_zero, List.set_cons_succ, i64_w, i32_w]
            rfl
          refine pure_ (i := 5) (N := some 79) (v := ?_) (a' := ?_) #[true, true, true, true, true, true, false, false, false, false, false, false, false, false, false] rfl rfl (by kernel_rfl) (fun _ _ _ h => h) (Or.inl ⟨by rfl, ?_⟩) ?_ ?_
          rotate_left
          · intro w'
            go_simp
            with_reducible rfl
          rotate_left
          · simp only [Act.put, List.setIfInBounds_toArray, List.set_cons_zero, List.set_cons_succ, i64_w, i32_w]
            rfl
          refine pure_ (i := 6) (N := some 80) (v := ?_) (a' := ?_) #[true, true, true, true, true, true, true, false, false, false, false, false, false, false, false] rfl rfl (by kernel_rfl) (fun _ _ _ h => h) (Or.inl ⟨by rfl, ?_⟩) ?_ ?_
          rotate_left
          · intro w'
            go_simp
            with_reducible rfl
          rotate_left
          · simp only [Act.put, List.setIfInBounds_toArray, List.set_cons_zero, List.set_cons_succ, i64_w, i32_w]
            rfl
          refine pure_ (i := 11) (N := some 85) (v := ?_) (a' := ?_) #[true, true, true, true, true, true, true, false, false, false, false, true, false, false, false] rfl rfl (by kernel_rfl) (fun _ _ _ h => h) (Or.inl ⟨by rfl, ?_⟩) ?_ ?_
          rotate_left
          · intro w'
            go_simp
            with_reducible rfl
          rotate_left
          · simp only [Act.put, List.setIfInBounds_toArray, List.set_cons_zero, List.set_cons_succ, i64_w, i32_w]
            rfl
          refine pure_ (i := 12) (N := some 86) (v := ?_) (a' := ?_) #[true, true, true, true, true, true, true, false, false, false, false, true, true, false, false] rfl rfl (by kernel_rfl) (fun _ _ _ h => h) (Or.inl ⟨by rfl, ?_⟩) ?_ ?_
          rotate_left
          · intro w'
            go_simp
            with_reducible rfl
          rotate_left
          · simp only [Act.put, List.setIfInBounds_toArray, List.set_cons_zero, List.set_cons_succ, i64_w, i32_w]
            rfl
          refine take_ (i := 7) (N := some 81) (v := ?_) (a' := ?_) #[true, true, true, true, true, true, true, true, false, false, false, true, true, false, false] rfl rfl (by kernel_rfl) (fun _ _ _ h => h) (Or.inl ⟨by rfl, ?_⟩) hHeld ?_ ?_
          rotate_left
          · rintro w' ⟨s0, s1⟩
            have t0 : w'.cell? ⟨p, 3, none⟩ = some (.slice Ar A.length cr) := blk_cell s0 3
            have y0 : w'.cell? ⟨Y, 0, none⟩ = some (.int .i64 y.1.f0) := blk_cell s1 0
            have y1 : w'.cell? ⟨Y, 1, none⟩ = some (.int .i64 y.1.f1) := blk_cell s1 1
            have y2 : w'.cell? ⟨Y, 2, none⟩ = some (.int .i64 y.1.f2) := blk_cell s1 2
            have y3 : w'.cell? ⟨Y, 3, none⟩ = some (.int .i64 y.1.f3) := blk_cell s1 3
            have y4 : w'.cell? ⟨Y, 4, none⟩ = some (.int .i64 y.1.f4) := blk_cell s1 4
            go_simp
            with_reducible rfl
          rotate_left
          · simp only [Act.put, List.setIfInBounds_toArray, List.set_cons_zero, List.set_cons_succ, i64_w, i32_w]
            rfl
          refine take_ (i := 8) (N := some 82) (v := ?_) (a' := ?_) #[true, true, true, true, true, true, true, true, true, false, false, true, true, false, false] rfl rfl (by kernel_rfl) (fun _ _ _ h => h) (Or.inl ⟨by rfl, ?_⟩) hHeld ?_ ?_
          rotate_left
          · rintro w' ⟨s0, s1⟩
            have t0 : w'.cell? ⟨p, 3, none⟩ = some (.slice Ar A.length cr) := blk_cell s0 3
            have y0 : w'.cell? ⟨Y, 0, none⟩ = some (.int .i64 y.1.f0) := blk_cell s1 0
            have y1 : w'.cell? ⟨Y, 1, none⟩ = some (.int .i64 y.1.f1) := blk_cell s1 1
            have y2 : w'.cell? ⟨Y, 2, none⟩ = some (.int .i64 y.1.f2) := blk_cell s1 2
            have y3 : w'.cell? ⟨Y, 3, none⟩ = some (.int .i64 y.1.f3) := blk_cell s1 3
            have y4 : w'.cell? ⟨Y, 4, none⟩ = some (.int .i64 y.1.f4) := blk_cell s1 4
            go_simp
            with_reducible rfl
          rotate_left
          · simp only [Act.put, List.setIfInBounds_toArray, List.set_cons_zero, List.set_cons_succ, i64_w, i32_w]
            rfl
          refine one_ (i := 9) (N := some 83) #[true, true, true, true, true, true, true, true, true, true, false, true, true, false, false] rfl rfl (by kernel_rfl) (by decide) (fun K hK => ?_)
          have HB9 := Aside0.mk hHeld
          refine value_ (w1 := ?_) (v := ?_) (by rfl) rfl ?_ ?_
          rotate_left 2
          · go_simp
            constructor
            · rfl
            · rfl
          refine hK.out _ _ ⟨(blk_alloc HB9.out.1 _), (blk_alloc HB9.out.2 _)⟩ (fun hHeld => ?_)
          clear hK K
          refine norm_ (a' := ?_) ?_ ?_
          rotate_left
          · show Act.put _ (some 83) _ = _
            simp only [Act.put, List.setIfInBounds_toArray, List.set_cons_zero, List.set_cons_succ, i64_w, i32_w]
            rfl
          refine last_ (i := 10) (N := some 84) #[true, true, true, true, true, true, true, true, true, true, true, true, true, false, false] rfl rfl (by kernel_rfl) (by decide) (fun K hK => ?_)
          refine appends_ (.tmp 81) (.tmp 83) 24 24 _ _ (by rfl) rfl rfl rfl (by rfl) (by rfl) (by have h := HR7.out; rw [HW6.out] at h; exact h) ?_
          refine hK.out _ _ ?_
          clear hK K
          refine norm_ (a' := ?_) ?_ ?_
          rotate_left
          · show Act.put _ (some 84) _ = _
            simp only [Act.put, List.setIfInBounds_toArray, List.set_cons_zero, List.set_cons_succ, i64_w, i32_w]
            rfl
          refine pure_ (i := 13) (N := some 87) (v := ?_) (a' := ?_) #[true, true, true, true, true, true, true, true, true, true, true, true, true, true, false] rfl rfl (by kernel_rfl) (fun _ _ _ h => h) (Or.inl ⟨by rfl, ?_⟩) ?_ ?_
          rotate_left
          · intro w'
            go_simp
            with_reducible rfl
          rotate_left
          · simp only [Act.put, List.setIfInBounds_toArray, List.set_cons_zero, List.set_cons_succ, i64_w, i32_w]
            rfl
          refine last_ (i := 14) (N := none) #[true, true, true, true, true, true, true, true, true, true, true, true, true, true, true] rfl rfl (by kernel_rfl) (by decide) (fun K hK => ?_)
          have y0 : _ = some (Value.slice Ar A.length cr) := blk_cell HP7.out 3
          have x0 := blk_frozen HP7.out 3
          refine skip_ (w1 := ?_) (by rfl) rfl ?_ ?_
          rotate_left
          · go_simp
            rfl
          clear x0 y0
          refine hK.out _ _ ?_
          clear hK K
          refine done_ (by kernel_rfl) ?_
          obtain ⟨W8, hW8⟩ : ∃ W8, W8 = w7.setCell ⟨p, 3, none⟩ (.slice A' (A.length + 1) c') := ⟨_, rfl⟩
          rw [← hW8] at HS8 HK8 HX8 ⊢
          obtain ⟨pr3, z1_, z2_, hp8, _⟩ := HS8.out.row
          have HP8 := Aside0.mk hp8
          clear hW8 hp8
          have HFIN := Aside0.mk (show IsStk (More F w (W8.drew.setCell ⟨p, 6, none⟩ (.int .i64 (from_ + 3600)))) p { s with a2 := A ++ [y.1], m2 := from_ + 3600 } (W8.drew.setCell ⟨p, 6, none⟩ (.int .i64 (from_ + 3600))) from ((HS8.out.below (pw_below_drewN (Below.refl _ _) 1)).mark2 (from_ + 3600)).mono (More.up (by simp [World.setCell])))
          have HKF := Aside0.mk (show Keep F w (W8.drew.setCell ⟨p, 6, none⟩ (.int .i64 (from_ + 3600))) from HK8.out.drew.setCell (p := ⟨p, 6, none⟩) (fun h => HS8.out.own.low h) _)
          go_wp2_with fail
          refine start_ (n := 8) (S := fun w' => (w'.heap[X]? = some (.cells #[.int .i64 from_, .int .i64 (from_ + 3600)] 42 (0, 0)))) (ds := [7]) #[false, false, false, false, false, false, false, false] (by kernel_rfl) rfl rfl (HX8.out) (fun hHeld => ?_)
          refine pure_ (i := 0) (N := some 88) (v := ?_) (a' := ?_) #[true, false, false, false, false, false, false, false] rfl rfl (by kernel_rfl) (fun _ _ _ h => h) (Or.inl ⟨by rfl, ?_⟩) ?_ ?_
          rotate_left
          · intro w'
            go_simp
            with_reducible rfl
          rotate_left
          · simp only [Act.put, List.setIfInBounds_toArray, List.set_cons_zero, List.set_cons_succ, i64_w, i32_w]
            rfl
          refine pure_ (i := 1) (N := some 89) (v := ?_) (a' := ?_) #[true, true, false, false, false, false, false, false] rfl rfl (by kernel_rfl) (fun _ _ _ h => h) (Or.inl ⟨by rfl, ?_⟩) ?_ ?_
          rotate_left
          · intro w'
            go_simp
            with_reducible rfl
          rotate_left
          · simp only [Act.put, List.setIfInBounds_toArray, List.set_cons_zero, List.set_cons_succ, i64_w, i32_w]
            rfl
          refine pure_ (i := 2) (N := some 90) (v := ?_) (a' := ?_) #[true, true, true, false, false, false, false, false] rfl rfl (by kernel_rfl) (fun _ _ _ h => h) (Or.inl ⟨by rfl, ?_⟩) ?_ ?_
          rotate_left
          · intro w'
            go_simp
            with_reducible rfl
          rotate_left
          · simp only [Act.put, List.setIfInBounds_toArray, List.set_cons_zero, List.set_cons_succ, i64_w, i32_w]
            rfl
          refine pure_ (i := 4) (N := some 92) (v := ?_) (a' := ?_) #[true, true, true, false, true, false, false, false] rfl rfl (by kernel_rfl) (fun _ _ _ h => h) (Or.inl ⟨by rfl, ?_⟩) ?_ ?_
          rotate_left
          · intro w'
            go_simp
            with_reducible rfl
          rotate_left
          · simp only [Act.put, List.setIfInBounds_toArray, List.set_cons_zero, List.set_cons_succ, i64_w, i32_w]
            rfl
          refine pure_ (i := 5) (N := some 93) (v := ?_) (a' := ?_) #[true, true, true, false, true, true, false, false] rfl rfl (by kernel_rfl) (fun _ _ _ h => h) (Or.inl ⟨by rfl, ?_⟩) ?_ ?_
          rotate_left
          · intro w'
            go_simp
            with_reducible rfl
          rotate_left
          · simp only [Act.put, List.setIfInBounds_toArray, List.set_cons_zero, List.set_cons_succ, i64_w, i32_w]
            rfl
          refine take_ (i := 3) (N := some 91) (v := ?_) (a' := ?_) #[true, true, true, true, true, true, false, false] rfl rfl (by kernel_rfl) (fun _ _ _ h => h) (Or.inl ⟨by rfl, ?_⟩) hHeld ?_ ?_
          rotate_left
          · rintro w' s0
            have t1 : w'.cell? ⟨X, 1, none⟩ = some (.int .i64 (from_ + 3600)) := blk_cell s0 1
            go_simp
            with_reducible rfl
          rotate_left
          · simp only [Act.put, List.setIfInBounds_toArray, List.set_cons_zero, List.set_cons_succ, i64_w, i32_w]
            rfl
          refine pure_ (i := 6) (N := some 94) (v := ?_) (a' := ?_) #[true, true, true, true, true, true, true, false] rfl rfl (by kernel_rfl) (fun _ _ _ h => h) (Or.inl ⟨by rfl, ?_⟩) ?_ ?_
          rotate_left
          · intro w'
            go_simp
            with_reducible rfl
          rotate_left
          · simp only [Act.put, List.setIfInBounds_toArray, List.set_cons_zero, List.set_cons_succ, i64_w, i32_w]
            rfl
          refine last_ (i := 7) (N := none) #[true, true, true, true, true, true, true, true] rfl rfl (by kernel_rfl) (by decide) (fun K hK => ?_)
          have y0 : _ = some (Value.int .i64 m) := blk_cell HP8.out 6
          have x0 := blk_frozen HP8.out 6
          have y1 : W8.drew.cell? ⟨p, 6, none⟩ = some (.int .i64 m) := y0
          have x1 : W8.drew.frozen? ⟨p, 6, none⟩ = false := x0
          refine skip_ (w1 := ?_) (by rfl) rfl ?_ ?_
          rotate_left
          · go_simp
            rfl
          clear x0 y0 x1 y1
          refine hK.out _ _ ?_
          clear hK K
          refine done_ (by kernel_rfl) ?_
          obtain ⟨W9, hW9⟩ : ∃ W9, W9 = (W8.setCell ⟨p, 6, none⟩ (.int .i64 (from_ + 3600))).drew := ⟨_, rfl⟩
          rw [← hW9]
          have HFIN2 := Aside0.mk (show IsStk (More F w W9) p { s with a2 := A ++ [y.1], m2 := from_ + 3600 } W9 by rw [hW9]; exact HFIN.out)
          have HKF2 := Aside0.mk (show Keep F w W9 by rw [hW9]; exact HKF.out)
          clear hW9 HFIN HKF
          go_wp2_with fail
          go_roundw
          case rel => exact ⟨A ++ [y.1], from_ + 3600, made + 1, by go_num, by rw [List.length_append, List.length_singleton]; omega, by rw [List.length_append, List.length_singleton]; omega, HFIN2, HKF2, HRN⟩
          case measure => simp [intOf]; omega
    · have hmI : decide (m < tt) = false := decide_eq_false hm
      have HRE := Aside0.mk (show R = (A, m, (made : Int), 0) by
        obtain ⟨k, hk⟩ : ∃ k, 257 - A.length = k + 1 := ⟨256 - A.length, by omega⟩
        have h := HR.out
        rw [hk] at h
        unfold rollP at h
        rw [if_pos (by omega)] at h
        exact h.symm)
      go_wp2
      go_ret2
      rw [HRE.out]
      exact ⟨rfl, HS.out, HKP.out⟩
end Go.Proofs.Ytnjdngjlbonieaa
