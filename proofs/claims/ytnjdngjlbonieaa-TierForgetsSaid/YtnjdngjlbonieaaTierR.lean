/- Behind a purge nothing hangs on the values that went, plain. -/
import Derived.Test.YtnjdngjlbonieaaTierO
import Derived.Lib.Hide
import Derived.LoopTactic
import Derived.Outline
import Derived.Laws.Rows
import Derived.Laws.CopyOwn
import Derived.WalkKit
set_option linter.unusedVariables false
set_option linter.unusedSimpArgs false
namespace Go.Proofs.Ytnjdngjlbonieaa
open Go.RowKit Go.Proofs.YtnjdngjlbonieaaW.PrintWords Go.Proofs.YtnjdngjlbonieaaW.PrintLast Go.Proofs.YtnjdngjlbonieaaW.PrintMore
open Go.Proofs.Ytnjdngjlbonieaa.PTierForgets
attribute [local go_sem] max2_int min2_int max_two min_two max_three min_three max_four min_four

/-- Points, and aggregates, without what they owe to a range. -/
def mkP (a b : Int) (x : S29) : S29 := if a ≤ x.f0 ∧ x.f0 < b then ⟨x.f0, 0⟩ else x
def mkA (wd a b : Int) (x : S31) : S31 := if x.f0 < b ∧ a < x.f0 + wd then ⟨x.f0, 0, 0, 0, 0⟩ else x
theorem mkP_f0 (a b : Int) (x : S29) : (mkP a b x).f0 = x.f0 := by unfold mkP; split <;> rfl
theorem mkA_f0 (wd a b : Int) (x : S31) : (mkA wd a b x).f0 = x.f0 := by unfold mkA; split <;> rfl
section
variable {α : Type} {g : α → α} {l l' : List α} {P : α → Bool}
theorem map_filter (hP : ∀ x, P (g x) = P x) (l : List α) : (l.filter P).map g = (l.map g).filter P := by
  rw [List.filter_map]
  congr 2
  funext x
  exact (hP x).symm
theorem filt_sim (hP : ∀ x, P (g x) = P x) (h : l.map g = l'.map g) : (l.filter P).map g = (l'.filter P).map g := by rw [map_filter hP, map_filter hP, h]
theorem map_id_of : ∀ l : List α, (∀ x ∈ l, g x = x) → l.map g = l
  | [], _ => rfl
  | x :: r, h => by rw [List.map_cons, h x List.mem_cons_self, map_id_of r (fun y hy => h y (List.mem_cons_of_mem _ hy))]
theorem filt_eq (hP : ∀ x, P (g x) = P x) (h : l.map g = l'.map g) (h1 : ∀ x ∈ l, P x = true → g x = x) (h2 : ∀ x ∈ l', P x = true → g x = x) : l.filter P = l'.filter P := by
  have e := filt_sim hP h
  rw [map_id_of _ (fun x hx => h1 x (List.mem_filter.1 hx).1 (List.mem_filter.1 hx).2), map_id_of _ (fun x hx => h2 x (List.mem_filter.1 hx).1 (List.mem_filter.1 hx).2)] at e
  exact e
theorem len_of (h : l.map g = l'.map g) : l.length = l'.length := by
  have := congrArg List.length h
  rw [List.length_map, List.length_map] at this
  exact this
end
theorem any_f0 {g : S29 → S29} (hg : ∀ x, (g x).f0 = x.f0) (Q : Int → Bool) (l : List S29) : (l.any fun x => Q x.f0) = ((l.map g).any fun x => Q x.f0) := by
  rw [List.any_map]
  congr 1
  funext x
  show Q x.f0 = Q (g x).f0
  rw [hg]
theorem map_putL {g : S29 → S29} (hg : ∀ x, (g x).f0 = x.f0) (l : List S29) (p : S29) : (putL l p).map g = putL (l.map g) (g p) := by
  unfold putL
  rw [List.map_append, List.map_cons, map_filter (fun x => by rw [hg]), map_filter (fun x => by rw [hg]), hg]
theorem map_putA {g : S29 → S29} (hg : ∀ x, (g x).f0 = x.f0) : ∀ (ps l : List S29), (putA l ps).map g = putA (l.map g) (ps.map g)
  | [], _ => rfl
  | p :: r, l => by
    have := map_putA hg r (putL l p)
    rw [map_putL hg] at this
    exact this
theorem putS_sim {g : S29 → S29} (hg : ∀ x, (g x).f0 = x.f0) {l l' ps ps' : List S29} (h : l.map g = l'.map g) (hp : ps.map g = ps'.map g) : (putS l ps).1.map g = (putS l' ps').1.map g ∧ (putS l ps).2 = (putS l' ps').2 := by
  have hA : (putA l ps).map g = (putA l' ps').map g := by rw [map_putA hg, map_putA hg, h, hp]
  have hb : (ps.any fun x => outB x.f0) = (ps'.any fun x => outB x.f0) := by rw [any_f0 hg outB ps, any_f0 hg outB ps', hp]
  unfold putS
  rw [hb, len_of hA, len_of h]
  by_cases c : (ps'.any fun x => outB x.f0) = true
  · rw [if_pos c, if_pos c]; exact ⟨h, rfl⟩
  · rw [if_neg c, if_neg c]
    by_cases d : 256 < (putA l' ps').length
    · rw [if_pos d, if_pos d]; exact ⟨h, rfl⟩
    · rw [if_neg d, if_neg d]; exact ⟨hA, rfl⟩
/-- Two stocks that are the same, but for what they owe to a range. -/
structure Sim (a b : Int) (s t : Stk) : Prop where
  raw : s.raw.map (mkP a b) = t.raw.map (mkP a b)
  a1 : s.a1.map (mkA 300 a b) = t.a1.map (mkA 300 a b)
  a2 : s.a2.map (mkA 3600 a b) = t.a2.map (mkA 3600 a b)
  m1 : s.m1 = t.m1
  m2 : s.m2 = t.m2
theorem putT_sim {a b : Int} {s t : Stk} (h : Sim a b s t) {ps ps' : List S29} (hp : ps.map (mkP a b) = ps'.map (mkP a b)) : Sim a b (putT s ps).1 (putT t ps').1 ∧ (putT s ps).2 = (putT t ps').2 := by
  have hb : (ps.any fun x => decide (x.f0 < s.m1)) = (ps'.any fun x => decide (x.f0 < t.m1)) := by
    rw [any_f0 (mkP_f0 a b) (fun n => decide (n < s.m1)) ps, any_f0 (mkP_f0 a b) (fun n => decide (n < t.m1)) ps', hp, h.m1]
  have hs := putS_sim (mkP_f0 a b) h.raw hp
  unfold putT
  rw [hb]
  by_cases c : (ps'.any fun x => decide (x.f0 < t.m1)) = true
  · rw [if_pos c, if_pos c]; exact ⟨h, rfl⟩
  · rw [if_neg c, if_neg c]; exact ⟨⟨hs.1, h.a1, h.a2, h.m1, h.m2⟩, hs.2⟩
theorem soonR_sim {g : S29 → S29} (hg : ∀ x, (g x).f0 = x.f0) {l l' : List S29} (h : l.map g = l'.map g) (m : Int) : soonR m l = soonR m l' := by
  have key : ∀ l : List S29, soonR m l = soonR m (l.map g) := fun l => by
    unfold soonR
    rw [List.find?_map, Option.map_map]
    have e1 : ((fun x : S29 => decide (m ≤ x.f0)) ∘ g) = fun x => decide (m ≤ x.f0) := by funext x; show decide (m ≤ (g x).f0) = _; rw [hg]
    have e2 : (S29.f0 ∘ g) = S29.f0 := by funext x; exact hg x
    rw [e1, e2]
  rw [key l, key l', h]
theorem soonA_sim {g : S31 → S31} (hg : ∀ x, (g x).f0 = x.f0) {l l' : List S31} (h : l.map g = l'.map g) (m : Int) : soonA m l = soonA m l' := by
  have key : ∀ l : List S31, soonA m l = soonA m (l.map g) := fun l => by
    unfold soonA
    rw [List.find?_map, Option.map_map]
    have e1 : ((fun x : S31 => decide (m ≤ x.f0)) ∘ g) = fun x => decide (m ≤ x.f0) := by funext x; show decide (m ≤ (g x).f0) = _; rw [hg]
    have e2 : (S31.f0 ∘ g) = S31.f0 := by funext x; exact hg x
    rw [e1, e2]
  rw [key l, key l', h]
theorem ofP_sim {a b : Int} {l l' : List S29} (h : l.map (mkP a b) = l'.map (mkP a b)) (W : Int) :
    (ofP W (inR W (W + 300) l)).2 = (ofP W (inR W (W + 300) l')).2 ∧ mkA 300 a b (ofP W (inR W (W + 300) l)).1 = mkA 300 a b (ofP W (inR W (W + 300) l')).1 := by
  have hP : ∀ x : S29, (decide (W ≤ (mkP a b x).f0) && decide ((mkP a b x).f0 < W + 300)) = (decide (W ≤ x.f0) && decide (x.f0 < W + 300)) := fun x => by rw [mkP_f0]
  have hL : (inR W (W + 300) l).map (mkP a b) = (inR W (W + 300) l').map (mkP a b) := filt_sim hP h
  by_cases hm : W < b ∧ a < W + 300
  · by_cases h0 : inR W (W + 300) l = []
    · have h0' : inR W (W + 300) l' = [] := by
        rw [h0] at hL
        exact List.map_eq_nil_iff.1 hL.symm
      rw [h0, h0']
      exact ⟨rfl, rfl⟩
    · have h0' : inR W (W + 300) l' ≠ [] := fun e => by
        rw [e] at hL
        exact h0 (List.map_eq_nil_iff.1 hL)
      obtain ⟨_, e1, e2⟩ := ofP_ok W h0
      obtain ⟨_, e3, e4⟩ := ofP_ok W h0'
      refine ⟨by rw [e2, e4], ?_⟩
      unfold mkA
      rw [e1, e3, if_pos hm, if_pos hm]
  · have key : ∀ x : S29, (decide (W ≤ x.f0) && decide (x.f0 < W + 300)) = true → mkP a b x = x := fun x hx => by
      simp only [Bool.and_eq_true, decide_eq_true_eq] at hx
      unfold mkP
      rw [if_neg (by omega)]
    have e : inR W (W + 300) l = inR W (W + 300) l' := filt_eq hP h (fun x _ hx => key x hx) (fun x _ hx => key x hx)
    rw [e]
    exact ⟨rfl, rfl⟩
theorem joinP_sim {a b m m' : Int} {A A' : List S31} (h : A.map (mkA 300 a b) = A'.map (mkA 300 a b)) (hA : GA 300 m A) (hA' : GA 300 m' A') {W : Int} (hW : W % 3600 = 0) :
    (joinP W (aggR 300 W (W + 3600) A)).2 = (joinP W (aggR 300 W (W + 3600) A')).2 ∧ mkA 3600 a b (joinP W (aggR 300 W (W + 3600) A)).1 = mkA 3600 a b (joinP W (aggR 300 W (W + 3600) A')).1 := by
  have hP : ∀ x : S31, (decide (mx (stW 300 (mkA 300 a b x).f0) W < mn (stW 300 (mkA 300 a b x).f0 + 300) (W + 3600))) = (decide (mx (stW 300 x.f0) W < mn (stW 300 x.f0 + 300) (W + 3600))) := fun x => by rw [mkA_f0]
  have hL : (aggR 300 W (W + 3600) A).map (mkA 300 a b) = (aggR 300 W (W + 3600) A').map (mkA 300 a b) := filt_sim hP h
  by_cases hm : W < b ∧ a < W + 3600
  · by_cases h0 : aggR 300 W (W + 3600) A = []
    · have h0' : aggR 300 W (W + 3600) A' = [] := by
        rw [h0] at hL
        exact List.map_eq_nil_iff.1 hL.symm
      rw [h0, h0']
      exact ⟨rfl, rfl⟩
    · have h0' : aggR 300 W (W + 3600) A' ≠ [] := fun e => by
        rw [e] at hL
        exact h0 (List.map_eq_nil_iff.1 hL)
      obtain ⟨_, e1, e2⟩ := joinP_ok W (l := aggR 300 W (W + 3600) A) (fun x hx => (hA.ok x (List.mem_filter.1 hx).1).1) h0
      obtain ⟨_, e3, e4⟩ := joinP_ok W (l := aggR 300 W (W + 3600) A') (fun x hx => (hA'.ok x (List.mem_filter.1 hx).1).1) h0'
      refine ⟨by rw [e2, e4], ?_⟩
      unfold mkA
      rw [e1, e3, if_pos hm, if_pos hm]
  · have key : ∀ x : S31, x.f0 % 300 = 0 → decide (mx (stW 300 x.f0) W < mn (stW 300 x.f0 + 300) (W + 3600)) = true → mkA 300 a b x = x := fun x h3 hx => by
      have e : stW 300 x.f0 = x.f0 := by unfold stW; omega
      rw [e, decide_eq_true_eq] at hx
      have hx2 : W < x.f0 + 300 ∧ x.f0 < W + 3600 := by
        unfold mx mn at hx
        split at hx <;> split at hx <;> omega
      unfold mkA
      rw [if_neg (by omega)]
    have e : aggR 300 W (W + 3600) A = aggR 300 W (W + 3600) A' := filt_eq hP h (fun x hx h1 => key x (hA.ok x hx).2.2.1 h1) (fun x hx h1 => key x (hA'.ok x hx).2.2.1 h1)
    rw [e]
    exact ⟨rfl, rfl⟩
theorem rollF_sim {soon soon' : Int → Option Int} {ofw ofw' : Int → S31} {wd tt : Int} (g : S31 → S31) (h1 : ∀ m, soon m = soon' m) (h2 : ∀ m nx, soon m = some nx → g (ofw nx) = g (ofw' nx)) {A A' : List S31} {m made : Int} (hA : A.length ≤ 256) (h : A.map g = A'.map g) :
    (rollF soon ofw wd tt A m made).1.map g = (rollF soon' ofw' wd tt A' m made).1.map g ∧ (rollF soon ofw wd tt A m made).2 = (rollF soon' ofw' wd tt A' m made).2 := by
  refine rollF_all (soon := soon) (ofw := ofw) (wd := wd) (tt := tt) (C := fun A m made r => ∀ A', A.map g = A'.map g → r.1.map g = (rollF soon' ofw' wd tt A' m made).1.map g ∧ r.2 = (rollF soon' ofw' wd tt A' m made).2) hA ?_ ?_ ?_ ?_ A' h
  · intro A m made hA hm A' h
    rw [rollF_there (by rw [← len_of h]; exact hA) hm]
    exact ⟨h, rfl⟩
  · intro A m made hA hm hs A' h
    rw [rollF_end (by rw [← len_of h]; exact hA) hm (fun nx e => hs nx (by rw [h1]; exact e))]
    exact ⟨h, rfl⟩
  · intro A m made nx hA hm hs hn A' h
    have e := len_of h
    have e2 : rollF soon' ofw' wd tt A' m made = (A', mx m (stW wd nx), made, 6) := by
      rw [rollF_un (by omega), if_neg (by omega), ← h1, hs]
      show (if tt ≤ nx then _ else _) = _
      rw [if_neg (by omega), if_pos (by omega)]
    rw [e2]
    exact ⟨h, rfl⟩
  · intro A m made nx hA hm hs hn ih A' h
    have e := len_of h
    rw [rollF_next (by omega) hm (by rw [← h1]; exact hs) hn]
    exact ih (A' ++ [ofw' nx]) (by rw [List.map_append, List.map_append, h, List.map_cons, List.map_cons, h2 m nx hs])
theorem againP_sim {wd c0 c1 : Int} {ofw ofw' : Int → S31 × Bool} (g : S31 → S31) (hg : ∀ x, (g x).f0 = x.f0) : ∀ (A A' : List S31), A.map g = A'.map g → (∀ x ∈ A, (ofw (stW wd x.f0)).2 = (ofw' (stW wd x.f0)).2 ∧ g (ofw (stW wd x.f0)).1 = g (ofw' (stW wd x.f0)).1) →
    (againP wd c0 c1 ofw A).map g = (againP wd c0 c1 ofw' A').map g
  | [], A', h, _ => by
    have := List.map_eq_nil_iff.1 h.symm
    rw [this]
    rfl
  | x :: r, [], h, _ => by cases h
  | x :: r, y :: r', h, ho => by
    rw [List.map_cons, List.map_cons] at h
    injection h with h1 h2
    have ih := againP_sim (wd := wd) (c0 := c0) (c1 := c1) (ofw := ofw) (ofw' := ofw') g hg r r' h2 (fun z hz => ho z (List.mem_cons_of_mem _ hz))
    have e : y.f0 = x.f0 := by rw [← hg y, ← h1, hg]
    obtain ⟨o1, o2⟩ := ho x List.mem_cons_self
    unfold againP at ih ⊢
    rw [List.flatMap_cons, List.flatMap_cons, List.map_append, List.map_append, ih, e, o1]
    congr 1
    split
    · split
      · rw [List.map_cons, List.map_cons, o2]
      · rfl
    · rw [List.map_cons, List.map_cons, h1]
theorem againP_eq {wd c0 c1 : Int} {ofw : Int → S31 × Bool} (g : S31 → S31) (hg : ∀ x, (g x).f0 = x.f0) : ∀ (A A' : List S31), A.map g = A'.map g → (∀ x ∈ A, (decide (c0 ≤ x.f0) && decide (x.f0 < c1)) = false → g x = x) → (∀ x ∈ A', (decide (c0 ≤ x.f0) && decide (x.f0 < c1)) = false → g x = x) →
    againP wd c0 c1 ofw A = againP wd c0 c1 ofw A'
  | [], A', h, _, _ => by
    have := List.map_eq_nil_iff.1 h.symm
    rw [this]
  | x :: r, [], h, _, _ => by cases h
  | x :: r, y :: r', h, hx, hy => by
    rw [List.map_cons, List.map_cons] at h
    injection h with h1 h2
    have ih := againP_eq (wd := wd) (c0 := c0) (c1 := c1) (ofw := ofw) g hg r r' h2 (fun z hz => hx z (List.mem_cons_of_mem _ hz)) (fun z hz => hy z (List.mem_cons_of_mem _ hz))
    have e : y.f0 = x.f0 := by rw [← hg y, ← h1, hg]
    unfold againP at ih ⊢
    rw [List.flatMap_cons, List.flatMap_cons, ih, e]
    congr 1
    cases hb : (decide (c0 ≤ x.f0) && decide (x.f0 < c1)) with
    | true => rfl
    | false =>
      have e1 := hx x List.mem_cons_self hb
      have e2 := hy y List.mem_cons_self (by rw [e]; exact hb)
      rw [e1, e2] at h1
      rw [h1]
theorem rollT_sim {a b : Int} {s t : Stk} (h : Sim a b s t) (hs : GoodT s) (ht : GoodT t) (now : Int) : Sim a b (rollT s now).1 (rollT t now).1 ∧ (rollT s now).2 = (rollT t now).2 := by
  have hl := hs.low
  have hle := hs.le
  obtain ⟨r1, r2⟩ := rollF_sim (soon := fun m => soonR m s.raw) (soon' := fun m => soonR m t.raw) (ofw := of1 s.raw) (ofw' := of1 t.raw) (wd := 300) (tt := stW 300 now) (mkA 300 a b) (fun m => soonR_sim (mkP_f0 a b) h.raw m) (fun m nx _ => (ofP_sim h.raw (stW 300 nx)).2) (m := s.m1) (made := 0) hs.g1.len h.a1
  obtain ⟨g1, _⟩ := rollF_good (soon := fun m => soonR m s.raw) (ofw := of1 s.raw) (wd := 300) (tt := stW 300 now) (made := 0) (.inl rfl) (of1_ok hs.tick) (stW_mod (.inl rfl)) hs.g1 hs.d1 (by omega)
  have ht1 := h.m1
  obtain ⟨g2, _⟩ := rollF_good (soon := fun m => soonR m t.raw) (ofw := of1 t.raw) (wd := 300) (tt := stW 300 now) (made := 0) (.inl rfl) (of1_ok ht.tick) (stW_mod (.inl rfl)) ht.g1 ht.d1 (by omega)
  have e1 : (roll1 s now).1.map (mkA 300 a b) = (roll1 t now).1.map (mkA 300 a b) := by show (rollF _ _ _ _ _ _ _).1.map _ = (rollF _ _ _ _ _ t.m1 _).1.map _; rw [← h.m1]; exact r1
  have e2 : (roll1 s now).2 = (roll1 t now).2 := by show (rollF _ _ _ _ _ _ _).2 = (rollF _ _ _ _ _ t.m1 _).2; rw [← h.m1]; exact r2
  have k1 : GA 300 (roll1 s now).2.1 (roll1 s now).1 := g1
  have k2 : GA 300 (roll1 t now).2.1 (roll1 t now).1 := g2
  obtain ⟨q1, q2⟩ := rollF_sim (soon := fun m => soonA m (roll1 s now).1) (soon' := fun m => soonA m (roll1 t now).1) (ofw := of2 (roll1 s now).1) (ofw' := of2 (roll1 t now).1) (wd := 3600) (tt := stW 3600 (roll1 s now).2.1) (mkA 3600 a b) (fun m => soonA_sim (mkA_f0 300 a b) e1 m) (fun m nx _ => (joinP_sim e1 k1 k2 (stW_mod (.inr rfl))).2) (m := s.m2) (made := 0) hs.g2.len h.a2
  have f1 : (roll2 s (roll1 s now).1 (roll1 s now).2.1).1.map (mkA 3600 a b) = (roll2 t (roll1 t now).1 (roll1 t now).2.1).1.map (mkA 3600 a b) := by show (rollF _ _ _ _ _ _ _).1.map _ = (rollF _ _ _ _ _ t.m2 _).1.map _; rw [← h.m2, ← e2]; exact q1
  have f2 : (roll2 s (roll1 s now).1 (roll1 s now).2.1).2 = (roll2 t (roll1 t now).1 (roll1 t now).2.1).2 := by show (rollF _ _ _ _ _ _ _).2 = (rollF _ _ _ _ _ t.m2 _).2; rw [← h.m2, ← e2]; exact q2
  refine ⟨⟨h.raw, e1, f1, congrArg (·.1) e2, congrArg (·.1) f2⟩, ?_⟩
  unfold rollT
  rw [f2, e2]
theorem rollS_sim {a b : Int} {s t : Stk} (h : Sim a b s t) (hs : GoodT s) (ht : GoodT t) (now : Int) : Sim a b (rollS s now).1 (rollS t now).1 ∧ (rollS s now).2 = (rollS t now).2 := by
  unfold rollS
  by_cases c : now < 0 ∨ 1099511627776 < now
  · rw [if_pos c, if_pos c]; exact ⟨h, rfl⟩
  · rw [if_neg c, if_neg c]; exact rollT_sim h hs ht now
theorem purgeT_sim {a b : Int} {s t : Stk} (h : Sim a b s t) (hs : GoodT s) (ht : GoodT t) (c d : Int) : Sim a b (purgeT s c d).1 (purgeT t c d).1 ∧ (purgeT s c d).2 = (purgeT t c d).2 := by
  unfold purgeT
  by_cases hr : rightR c d = true
  · rw [if_pos hr, if_pos hr]
    have h1 : (outR c d s.raw).map (mkP a b) = (outR c d t.raw).map (mkP a b) := filt_sim (fun x => by rw [mkP_f0]) h.raw
    have h2 : (inR c d s.raw).map (mkP a b) = (inR c d t.raw).map (mkP a b) := filt_sim (fun x => by rw [mkP_f0]) h.raw
    have h3 : (again1 (outR c d s.raw) c d s.a1).map (mkA 300 a b) = (again1 (outR c d t.raw) c d t.a1).map (mkA 300 a b) := againP_sim _ (mkA_f0 300 a b) _ _ h.a1 (fun x _ => ofP_sim h1 _)
    have g1 := again1_good (raw := outR c d s.raw) (a := c) (b := d) hs.g1
    have g2 := again1_good (raw := outR c d t.raw) (a := c) (b := d) ht.g1
    have h4 : (again2 (again1 (outR c d s.raw) c d s.a1) c d s.a2).map (mkA 3600 a b) = (again2 (again1 (outR c d t.raw) c d t.a1) c d t.a2).map (mkA 3600 a b) := againP_sim _ (mkA_f0 3600 a b) _ _ h.a2 (fun x _ => joinP_sim h3 g1 g2 (stW_mod (.inr rfl)))
    exact ⟨⟨h1, h3, h4, h.m1, h.m2⟩, by show ((inR c d s.raw).length : Int) = _; rw [len_of h2]⟩
  · rw [if_neg hr, if_neg hr]; exact ⟨h, rfl⟩
theorem stepT_sim {a b : Int} {s t : Stk} {v v' : S29 → S29} (hv : ∀ p, mkP a b (v p) = mkP a b (v' p)) (h : Sim a b s t) (hs : GoodT s) (ht : GoodT t) (x : ActT) : Sim a b (stepT v s x) (stepT v' t x) := by
  unfold stepT
  split
  · exact (putT_sim h (by rw [List.map_map, List.map_map]; congr 1; funext p; exact hv p)).1
  · split
    · exact (rollS_sim h hs ht _).1
    · split
      · exact (purgeT_sim h hs ht _ _).1
      · exact h
theorem play_sim {a b : Int} {v v' : S29 → S29} (hv : ∀ p, mkP a b (v p) = mkP a b (v' p)) (L : List ActT) : Sim a b (playT v L) (playT v' L) := by
  unfold playT
  suffices ∀ (L : List ActT) (s t : Stk), GoodT s → GoodT t → Sim a b s t → Sim a b (L.foldl (stepT v) s) (L.foldl (stepT v') t) from this L newS newS goodT_new goodT_new ⟨rfl, rfl, rfl, rfl, rfl⟩
  intro L
  induction L with
  | nil => intro s t _ _ h; exact h
  | cons x r ih => intro s t hs ht h; exact ih _ _ (stepT_good hs v x) (stepT_good ht v' x) (stepT_sim hv h hs ht x)
theorem purge_same {a b : Int} {s t : Stk} (h : Sim a b s t) (hs : GoodT s) (ht : GoodT t) (hr : rightR a b = true) : purgeT s a b = purgeT t a b := by
  have hr2 := hr
  unfold rightR at hr2
  simp only [Bool.and_eq_true, decide_eq_true_eq] at hr2
  unfold purgeT
  rw [if_pos hr, if_pos hr]
  have h2 : (inR a b s.raw).map (mkP a b) = (inR a b t.raw).map (mkP a b) := filt_sim (fun x => by rw [mkP_f0]) h.raw
  have key : ∀ x : S29, (!(decide (a ≤ x.f0) && decide (x.f0 < b))) = true → mkP a b x = x := fun x hx => by
    unfold mkP
    rw [if_neg]
    intro hc
    rw [decide_eq_true hc.1, decide_eq_true hc.2] at hx
    cases hx
  have h1 : outR a b s.raw = outR a b t.raw := filt_eq (fun x => by rw [mkP_f0]) h.raw (fun x _ hx => key x hx) (fun x _ hx => key x hx)
  have w1 := stW_bd (wd := 300) (by decide) hr2.1.1
  have w2 := stW_bd (wd := 300) (x := b - 1) (by decide) (by omega)
  have w3 := stW_bd (wd := 3600) (by decide) hr2.1.1
  have w4 := stW_bd (wd := 3600) (x := b - 1) (by decide) (by omega)
  have v1 : stW 300 a % 300 = 0 := stW_mod (.inl rfl)
  have v3 : stW 3600 a % 3600 = 0 := stW_mod (.inr rfl)
  have k1 : ∀ x : S31, x.f0 % 300 = 0 → (decide (stW 300 a ≤ x.f0) && decide (x.f0 < stW 300 (b - 1) + 300)) = false → mkA 300 a b x = x := fun x h3 hx => by
    rw [Bool.and_eq_false_iff, decide_eq_false_iff_not, decide_eq_false_iff_not] at hx
    unfold mkA
    rw [if_neg (by omega)]
  have k2 : ∀ x : S31, x.f0 % 3600 = 0 → (decide (stW 3600 a ≤ x.f0) && decide (x.f0 < stW 3600 (b - 1) + 3600)) = false → mkA 3600 a b x = x := fun x h3 hx => by
    rw [Bool.and_eq_false_iff, decide_eq_false_iff_not, decide_eq_false_iff_not] at hx
    unfold mkA
    rw [if_neg (by omega)]
  have e1 : again1 (outR a b t.raw) a b s.a1 = again1 (outR a b t.raw) a b t.a1 := againP_eq _ (mkA_f0 300 a b) _ _ h.a1 (fun x hx hh => k1 x (hs.g1.ok x hx).2.2.1 hh) (fun x hx hh => k1 x (ht.g1.ok x hx).2.2.1 hh)
  have e2 : ∀ A1, again2 A1 a b s.a2 = again2 A1 a b t.a2 := fun A1 => againP_eq _ (mkA_f0 3600 a b) _ _ h.a2 (fun x hx hh => k2 x (hs.g2.ok x hx).2.2.1 hh) (fun x hx hh => k2 x (ht.g2.ok x hx).2.2.1 hh)
  rw [h1, e1, e2, h.m1, h.m2, len_of h2]
theorem forgets_law {a b : Int} {v : S29 → S29} (hv : ∀ p, mkP a b (v p) = mkP a b p) (L : List ActT) (hr : rightR a b = true) : purgeT (playT v L) a b = purgeT (playT (fun p => p) L) a b :=
  purge_same (play_sim (v' := fun p => p) hv L) (play_good v L) (play_good _ L) hr
end Go.Proofs.Ytnjdngjlbonieaa
