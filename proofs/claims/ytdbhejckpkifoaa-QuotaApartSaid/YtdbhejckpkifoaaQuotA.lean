/- quota: the plain model of a ledger: names with their accounts, in the order in which they were opened; and how a map stands for it. -/
import Derived.Test.YtdbhejckpkifoaaSlotK
import Derived.Lib.Hide
import Derived.LoopTactic
import Derived.Outline
import Derived.Laws.Rows
import Derived.Laws.CopyOwn
import Derived.WalkKit
set_option linter.unusedVariables false
set_option linter.unusedSimpArgs false
namespace Go.Proofs.Ytdbhejckpkifoaa
open Go.RowKit Go.Proofs.YtdbhejckpkifoaaW.PrintWords Go.Proofs.YtdbhejckpkifoaaW.PrintLast Go.Proofs.YtdbhejckpkifoaaW.PrintMore
open Go.Proofs.Ytdbhejckpkifoaa.PSlotsBack
attribute [local go_sem] max2_int min2_int max_two min_two max_three min_three max_four min_four

structure Acct where
  b : Int
  s : Int
  ub : Int
  us : Int
abbrev Mdl := List (ByteArray × Acct)
def acctV (a : Acct) : Value := .agg #[.int .i64 a.b, .int .i64 a.s, .int .i64 a.ub, .int .i64 a.us]
def acctD (a : Acct) : DataW Unit := .agg [.lit (.int .i64 a.b), .lit (.int .i64 a.s), .lit (.int .i64 a.ub), .lit (.int .i64 a.us)]
theorem acctD_inj {a c : Acct} (h : acctD a = acctD c) : a = c := by
  cases a; cases c
  simp only [acctD, DataW.agg.injEq, List.cons.injEq, DataW.lit.injEq, Lit.int.injEq, true_and, and_true] at h
  obtain ⟨rfl, rfl, rfl, rfl⟩ := h
  rfl
/-- How an account in a map reads. -/
def RA (v : Value) : Option (DataW Unit × List MemPlace) :=
  match v with
  | .agg ⟨[.int .i64 a, .int .i64 b, .int .i64 c, .int .i64 d]⟩ => some (acctD ⟨a, b, c, d⟩, [])
  | _ => none
theorem RA_mk (a : Acct) : RA (acctV a) = some (acctD a, []) := rfl
theorem RA_inv {v : Value} {z : DataW Unit × List MemPlace} (h : RA v = some z) : ∃ a, v = acctV a ∧ z = (acctD a, []) := by
  unfold RA at h
  split at h
  · injection h with h
    exact ⟨⟨_, _, _, _⟩, rfl, h.symm⟩
  · cases h
def getM (s : ByteArray) : Mdl → Option Acct
  | [] => none
  | p :: r => if p.1 = s then some p.2 else getM s r
def sumB (M : Mdl) : Int := (M.map (fun p => p.2.b)).sum
def setM (s : ByteArray) (a : Acct) (M : Mdl) : Mdl := M.map fun p => if p.1 = s then (p.1, a) else p
def delM (s : ByteArray) (M : Mdl) : Mdl := M.filter fun p => decide (p.1 ≠ s)
theorem getM_mem {s : ByteArray} {a : Acct} : ∀ {M : Mdl}, getM s M = some a → (s, a) ∈ M
  | [], h => by cases h
  | p :: r, h => by
    unfold getM at h
    by_cases e : p.1 = s
    · rw [if_pos e] at h
      injection h with h
      rw [← e, ← h]
      exact List.mem_cons_self
    · rw [if_neg e] at h
      exact List.mem_cons_of_mem _ (getM_mem h)
theorem getM_none {s : ByteArray} : ∀ {M : Mdl}, getM s M = none → ∀ p ∈ M, p.1 ≠ s
  | [], _, p, hp => by cases hp
  | q :: r, h, p, hp => by
    unfold getM at h
    by_cases e : q.1 = s
    · rw [if_pos e] at h; cases h
    · rw [if_neg e] at h
      rcases List.mem_cons.1 hp with rfl | hp
      · exact e
      · exact getM_none h p hp
theorem getM_of_mem {s : ByteArray} {a : Acct} : ∀ {M : Mdl}, M.Pairwise (fun p q => p.1 ≠ q.1) → (s, a) ∈ M → getM s M = some a
  | [], _, h => by cases h
  | q :: r, hd, h => by
    unfold getM
    rcases List.mem_cons.1 h with rfl | h
    · rw [if_pos rfl]
    · have := (List.pairwise_cons.1 hd).1 _ h
      rw [if_neg this]
      exact getM_of_mem (List.pairwise_cons.1 hd).2 h
theorem getM_append {s : ByteArray} {M : Mdl} {k : ByteArray} {a : Acct} (hk : getM k M = none) : getM s (M ++ [(k, a)]) = if k = s then some a else getM s M := by
  induction M with
  | nil => rfl
  | cons p r ih =>
    have h1 : p.1 ≠ k := getM_none hk p List.mem_cons_self
    have h2 : getM k r = none := by unfold getM at hk; rwa [if_neg h1] at hk
    show (if p.1 = s then some p.2 else getM s (r ++ [(k, a)])) = if k = s then some a else (if p.1 = s then some p.2 else getM s r)
    rw [ih h2]
    by_cases e1 : p.1 = s
    · rw [if_pos e1, if_neg (fun e => h1 (e1.trans e.symm)), if_pos e1]
    · rw [if_neg e1, if_neg e1]
theorem getM_set {s k : ByteArray} {a : Acct} : ∀ {M : Mdl}, getM s (setM k a M) = if k = s then (if (getM s M).isSome then some a else none) else getM s M
  | [] => by simp [setM, getM]
  | p :: r => by
    have ih := getM_set (s := s) (k := k) (a := a) (M := r)
    unfold setM at ih ⊢
    rw [List.map_cons]
    unfold getM
    rw [ih]
    by_cases e1 : p.1 = k
    · rw [if_pos e1]
      by_cases e2 : k = s
      · rw [if_pos (e1.trans e2), if_pos e2, if_pos (e1.trans e2)]
        rfl
      · have : p.1 ≠ s := fun e => e2 (e1.symm.trans e)
        rw [if_neg this, if_neg e2, if_neg e2, if_neg this]
    · rw [if_neg e1]
      by_cases e2 : p.1 = s
      · have : k ≠ s := fun e => e1 (e2.trans e.symm)
        rw [if_pos e2, if_neg this, if_pos e2]
      · rw [if_neg e2, if_neg e2]
theorem getM_del {s k : ByteArray} : ∀ {M : Mdl}, getM s (delM k M) = if k = s then none else getM s M
  | [] => by simp [delM, getM]
  | p :: r => by
    have ih := getM_del (s := s) (k := k) (M := r)
    unfold delM at ih ⊢
    rw [List.filter_cons]
    by_cases e1 : p.1 = k
    · have hd : decide (p.1 ≠ k) = false := by simp [e1]
      rw [hd, if_neg (by simp), ih]
      conv => rhs; unfold getM
      by_cases e2 : k = s
      · rw [if_pos e2, if_pos e2]
      · rw [if_neg e2, if_neg e2, if_neg (fun e => e2 (e1.symm.trans e))]
    · have hd : decide (p.1 ≠ k) = true := by simp [e1]
      rw [hd, if_pos rfl]
      unfold getM
      rw [ih]
      by_cases e2 : p.1 = s
      · have : k ≠ s := fun e => e1 (e2.trans e.symm)
        rw [if_pos e2, if_pos e2, if_neg this]
      · rw [if_neg e2, if_neg e2]
theorem setM_keys (k : ByteArray) (a : Acct) (M : Mdl) : (setM k a M).map (·.1) = M.map (·.1) := by
  unfold setM
  rw [List.map_map]
  apply List.map_congr_left
  intro p _
  show (if p.1 = k then (p.1, a) else p).1 = p.1
  split <;> rfl
def Dis (M : Mdl) : Prop := M.Pairwise (fun p q => p.1 ≠ q.1)
theorem dis_keys {M : Mdl} : Dis M ↔ (M.map (·.1)).Pairwise (· ≠ ·) := by unfold Dis; rw [List.pairwise_map]
theorem Dis.set {M : Mdl} (h : Dis M) (k : ByteArray) (a : Acct) : Dis (setM k a M) := by rw [dis_keys, setM_keys, ← dis_keys]; exact h
theorem Dis.del {M : Mdl} (h : Dis M) (k : ByteArray) : Dis (delM k M) := List.Pairwise.filter _ h
theorem Dis.add {M : Mdl} (h : Dis M) {k : ByteArray} (hk : getM k M = none) (a : Acct) : Dis (M ++ [(k, a)]) := by
  unfold Dis
  rw [List.pairwise_append]
  refine ⟨h, List.pairwise_singleton _ _, fun p hp q hq => ?_⟩
  rw [List.mem_singleton.1 hq]
  exact getM_none hk p hp
theorem del_length {M : Mdl} (h : Dis M) {k : ByteArray} {a : Acct} (hk : getM k M = some a) : (delM k M).length + 1 = M.length := by
  induction M with
  | nil => cases hk
  | cons p r ih =>
    obtain ⟨h1, h2⟩ := List.pairwise_cons.1 h
    unfold getM at hk
    unfold delM
    rw [List.filter_cons]
    by_cases e : p.1 = k
    · have hd : decide (p.1 ≠ k) = false := by simp [e]
      rw [hd, if_neg (by simp), List.filter_eq_self.2 (fun q hq => by have := h1 q hq; rw [e] at this; simpa using fun e => this e.symm)]
      rfl
    · have hd : decide (p.1 ≠ k) = true := by simp [e]
      rw [if_neg e] at hk
      rw [hd, if_pos rfl, List.length_cons, List.length_cons]
      have := ih h2 hk
      unfold delM at this
      omega
theorem sumB_cons (p : ByteArray × Acct) (M : Mdl) : sumB (p :: M) = p.2.b + sumB M := by simp [sumB]
theorem sumB_append (M N : Mdl) : sumB (M ++ N) = sumB M + sumB N := by
  induction M with
  | nil => simp [sumB]
  | cons p r ih => rw [List.cons_append, sumB_cons, sumB_cons, ih]; omega
theorem sumB_del {M : Mdl} (h : Dis M) {k : ByteArray} {a : Acct} (hk : getM k M = some a) : sumB (delM k M) = sumB M - a.b := by
  induction M with
  | nil => cases hk
  | cons p r ih =>
    obtain ⟨h1, h2⟩ := List.pairwise_cons.1 h
    unfold getM at hk
    unfold delM
    rw [List.filter_cons]
    by_cases e : p.1 = k
    · have hd : decide (p.1 ≠ k) = false := by simp [e]
      rw [if_pos e] at hk
      injection hk with hk
      rw [hd, if_neg (by simp), List.filter_eq_self.2 (fun q hq => by have := h1 q hq; rw [e] at this; simpa using fun e => this e.symm), sumB_cons, hk]
      omega
    · have hd : decide (p.1 ≠ k) = true := by simp [e]
      rw [if_neg e] at hk
      rw [hd, if_pos rfl, sumB_cons, sumB_cons]
      have := ih h2 hk
      unfold delM at this
      omega
theorem sumB_set {M : Mdl} (h : Dis M) {k : ByteArray} {a c : Acct} (hk : getM k M = some a) : sumB (setM k c M) = sumB M - a.b + c.b := by
  induction M with
  | nil => cases hk
  | cons p r ih =>
    obtain ⟨h1, h2⟩ := List.pairwise_cons.1 h
    unfold getM at hk
    unfold setM
    rw [List.map_cons, sumB_cons, sumB_cons]
    by_cases e : p.1 = k
    · rw [if_pos e] at hk
      injection hk with hk
      have hr : r.map (fun p => if p.1 = k then (p.1, c) else p) = r := by
        conv => rhs; rw [← List.map_id r]
        apply List.map_congr_left
        intro q hq
        have := h1 q hq
        rw [e] at this
        rw [if_neg (fun e => this e.symm)]
        rfl
      rw [if_pos e, hr, hk]
      show c.b + _ = _
      omega
    · rw [if_neg e] at hk
      rw [if_neg e]
      have := ih h2 hk
      unfold setM at this
      omega
/-- A map stands for a model. -/
structure Rep (D : DataW Unit) (M : Mdl) : Prop where
  tidy : Maps.Tidy D
  dis : Dis M
  has : ∀ s, Maps.has D (litS s) = (getM s M).isSome
  at_ : ∀ s z, D.atKey (litS s) z = match getM s M with | some a => acctD a | none => z
  size : Maps.size D = M.length
theorem rep_start : Rep (.map []) [] := ⟨Maps.tidy_empty, List.Pairwise.nil, fun _ => rfl, fun _ _ => rfl, rfl⟩
theorem isKey_litS (s : ByteArray) : WideAt.IsKeyLit (litS s) := trivial
theorem Rep.add {D : DataW Unit} {M : Mdl} (h : Rep D M) {k : ByteArray} (hk : getM k M = none) (a : Acct) : Rep (D.put (litS k) (acctD a)) (M ++ [(k, a)]) := by
  have hh : Maps.has D (litS k) = false := by rw [h.has, hk]; rfl
  refine ⟨h.tidy.put (isKey_litS k) _, h.dis.add hk a, fun s => ?_, fun s z => ?_, ?_⟩
  · rw [getM_append hk]
    by_cases e : k = s
    · subst e; rw [if_pos rfl, Maps.has_put_same h.tidy.isMap (isKey_litS k)]; rfl
    · rw [if_neg e, Maps.has_put_other (fun e' => e (litS_inj e').symm), h.has]
  · rw [getM_append hk]
    by_cases e : k = s
    · subst e; rw [if_pos rfl, Maps.atKey_put_same h.tidy.isMap (isKey_litS k)]
    · rw [if_neg e, Maps.atKey_put_other (fun e' => e (litS_inj e').symm), h.at_]
  · rw [Maps.size_put h.tidy, hh, List.length_append, h.size]; rfl
theorem Rep.set {D : DataW Unit} {M : Mdl} (h : Rep D M) {k : ByteArray} {a0 : Acct} (hk : getM k M = some a0) (a : Acct) : Rep (D.put (litS k) (acctD a)) (setM k a M) := by
  have hh : Maps.has D (litS k) = true := by rw [h.has, hk]; rfl
  refine ⟨h.tidy.put (isKey_litS k) _, h.dis.set k a, fun s => ?_, fun s z => ?_, ?_⟩
  · rw [getM_set]
    by_cases e : k = s
    · subst e; rw [if_pos rfl, Maps.has_put_same h.tidy.isMap (isKey_litS k), hk]; rfl
    · rw [if_neg e, Maps.has_put_other (fun e' => e (litS_inj e').symm), h.has]
  · rw [getM_set]
    by_cases e : k = s
    · subst e; rw [if_pos rfl, Maps.atKey_put_same h.tidy.isMap (isKey_litS k), hk]; rfl
    · rw [if_neg e, Maps.atKey_put_other (fun e' => e (litS_inj e').symm), h.at_]
  · rw [Maps.size_put h.tidy, hh, if_pos rfl, h.size]
    have := congrArg List.length (setM_keys k a M)
    simpa using this.symm
theorem Rep.del {D : DataW Unit} {M : Mdl} (h : Rep D M) {k : ByteArray} {a0 : Acct} (hk : getM k M = some a0) : Rep (D.del (litS k)) (delM k M) := by
  have hh : Maps.has D (litS k) = true := by rw [h.has, hk]; rfl
  refine ⟨h.tidy.del _, h.dis.del k, fun s => ?_, fun s z => ?_, ?_⟩
  · rw [getM_del]
    by_cases e : k = s
    · subst e; rw [if_pos rfl, Maps.has_del_same]; rfl
    · rw [if_neg e, Maps.has_del_other (fun e' => e (litS_inj e').symm), h.has]
  · rw [getM_del]
    by_cases e : k = s
    · subst e; rw [if_pos rfl, Maps.atKey_del_same]
    · rw [if_neg e, Maps.atKey_del_other (fun e' => e (litS_inj e').symm), h.at_]
  · have h1 := Maps.size_del (k := litS k) h.tidy
    rw [hh, if_pos rfl, h.size] at h1
    have h2 := del_length h.dis hk
    omega
/-- A ledger that may be: what its accounts hold, and that together they are not more than there is. -/
structure GoodM (cap : Int) (M : Mdl) : Prop where
  len : M.length ≤ 8
  cap0 : 0 ≤ cap
  cap1 : cap ≤ 1099511627776
  dis : Dis M
  acc : ∀ p ∈ M, p.1.size ≤ 1000 ∧ 0 ≤ p.2.ub ∧ p.2.ub ≤ p.2.b ∧ p.2.b ≤ 1099511627776 ∧ 0 ≤ p.2.us ∧ p.2.us ≤ p.2.s ∧ p.2.s ≤ 16
  sum : sumB M ≤ cap
theorem GoodM.get {cap : Int} {M : Mdl} (h : GoodM cap M) {k : ByteArray} {a : Acct} (hk : getM k M = some a) : 0 ≤ a.ub ∧ a.ub ≤ a.b ∧ a.b ≤ 1099511627776 ∧ 0 ≤ a.us ∧ a.us ≤ a.s ∧ a.s ≤ 16 := (h.acc _ (getM_mem hk)).2
theorem sumB_nonneg {M : Mdl} (h : ∀ p ∈ M, 0 ≤ p.2.b) : 0 ≤ sumB M := by
  induction M with
  | nil => decide
  | cons p r ih =>
    rw [sumB_cons]
    have := ih fun q hq => h q (List.mem_cons_of_mem _ hq)
    have := h p List.mem_cons_self
    omega
theorem GoodM.sum0 {cap : Int} {M : Mdl} (h : GoodM cap M) : 0 ≤ sumB M := sumB_nonneg fun p hp => by have := h.acc p hp; omega
theorem goodM_start {cap : Int} (h0 : 0 ≤ cap) (h1 : cap ≤ 1099511627776) : GoodM cap [] := ⟨by simp, h0, h1, List.Pairwise.nil, fun p hp => (by cases hp), h0⟩
theorem GoodM.add {cap : Int} {M : Mdl} (h : GoodM cap M) {k : ByteArray} (hk : getM k M = none) (hs : k.size ≤ 1000) (hl : M.length < 8) {b s : Int} (hb0 : 0 ≤ b) (hb1 : b ≤ 1099511627776) (hs0 : 0 ≤ s) (hs1 : s ≤ 16) (hc : b ≤ cap - sumB M) : GoodM cap (M ++ [(k, ⟨b, s, 0, 0⟩)]) := by
  refine ⟨by rw [List.length_append]; exact hl, h.cap0, h.cap1, h.dis.add hk _, fun p hp => ?_, ?_⟩
  · rcases List.mem_append.1 hp with hp | hp
    · exact h.acc p hp
    · rw [List.mem_singleton.1 hp]
      exact ⟨hs, by show (0 : Int) ≤ 0; omega, hb0, hb1, by show (0 : Int) ≤ 0; omega, hs0, hs1⟩
  · rw [sumB_append, sumB_cons]
    show sumB M + (b + sumB []) ≤ cap
    have : sumB [] = 0 := rfl
    omega
theorem GoodM.set {cap : Int} {M : Mdl} (h : GoodM cap M) {k : ByteArray} {a0 a : Acct} (hk : getM k M = some a0) (ha : 0 ≤ a.ub ∧ a.ub ≤ a.b ∧ a.b ≤ 1099511627776 ∧ 0 ≤ a.us ∧ a.us ≤ a.s ∧ a.s ≤ 16) (hc : a.b - a0.b ≤ cap - sumB M) : GoodM cap (setM k a M) := by
  refine ⟨?_, h.cap0, h.cap1, h.dis.set k a, fun p hp => ?_, ?_⟩
  · have := congrArg List.length (setM_keys k a M)
    rw [List.length_map, List.length_map] at this
    rw [this]; exact h.len
  · unfold setM at hp
    obtain ⟨q, hq, rfl⟩ := List.mem_map.1 hp
    have hq' := h.acc q hq
    split
    · exact ⟨hq'.1, ha⟩
    · exact hq'
  · rw [sumB_set h.dis hk]; omega
theorem GoodM.del {cap : Int} {M : Mdl} (h : GoodM cap M) {k : ByteArray} {a0 : Acct} (hk : getM k M = some a0) : GoodM cap (delM k M) := by
  have hl := del_length h.dis hk
  have := h.len
  refine ⟨by omega, h.cap0, h.cap1, h.dis.del k, fun p hp => h.acc p (List.mem_filter.1 hp).1, ?_⟩
  rw [sumB_del h.dis hk]
  have := h.get hk
  have := h.sum
  omega
end Go.Proofs.Ytdbhejckpkifoaa
