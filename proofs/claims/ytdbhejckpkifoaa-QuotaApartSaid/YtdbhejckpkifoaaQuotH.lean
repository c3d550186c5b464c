/- The law QuotaSums: acts as they lie in a row; the sums over the names. -/
import Derived.Test.YtdbhejckpkifoaaQuotG
import Derived.Lib.Hide
import Derived.LoopTactic
import Derived.Outline
import Derived.Laws.Rows
import Derived.Laws.CopyOwn
import Derived.WalkKit
set_option linter.unusedVariables false
set_option linter.unusedSimpArgs false
namespace Go.Proofs.Ytdbhejckpkifoaa
open Go.RowKit Go.Proofs.YtdbhejckpkifoaaW.PrintWords Go.Proofs.YtdbhejckpkifoaaW.PrintLast Go.Proofs.YtdbhejckpkifoaaW.PrintMore
open Go.Proofs.Ytdbhejckpkifoaa.PSlotsBack
attribute [local go_sem] max2_int min2_int max_two min_two max_three min_three max_four min_four

/-- An act of the law: its kind, name, bytes, series. -/
structure ActQ where
  f0 : Int
  f1 : ByteArray
  f2 : Int
  f3 : Int
def SrcA (w : World) (v : Value) (l : List ActQ) : Prop :=
  (∃ c, v = .slice none 0 c ∧ l = []) ∨ ∃ ad c, v = .slice (some ad) l.length c ∧ ∀ (j : Nat) (x : ActQ), l[j]? = some x → w.cell? (ad.add (j * 4)) = some (.int .i64 x.f0) ∧ w.cell? ⟨(ad.add (j * 4)).block, (ad.add (j * 4)).off + 1, none⟩ = some (.string x.f1) ∧ w.cell? ⟨(ad.add (j * 4)).block, (ad.add (j * 4)).off + 2, none⟩ = some (.int .i64 x.f2) ∧ w.cell? ⟨(ad.add (j * 4)).block, (ad.add (j * 4)).off + 3, none⟩ = some (.int .i64 x.f3)
theorem SrcA.of_reads {w : World} {A : Option Addr} {c : Nat} {l : List ActQ} (h : ReadsRow (fun (p : ActQ) cs => cs = [.int .i64 p.f0, .string p.f1, .int .i64 p.f2, .int .i64 p.f3]) 4 w A l.length l) : SrcA w (.slice A l.length c) l := by
  by_cases h0 : l.length = 0
  · cases A with
    | none => exact .inl ⟨c, by rw [h0], List.eq_nil_of_length_eq_zero h0⟩
    | some ad => exact .inr ⟨ad, c, rfl, fun j x hx => by rw [List.eq_nil_of_length_eq_zero h0] at hx; cases hx⟩
  · obtain ⟨ad0, e0, hall⟩ := h.2.2 (by omega)
    subst e0
    refine .inr ⟨ad0, c, rfl, fun j x hx => ?_⟩
    obtain ⟨cs, _, rfl, hc⟩ := hall j x hx
    have c0 := hc 0 _ rfl
    have c1 := hc 1 _ rfl
    have c2 := hc 2 _ rfl
    have c3 := hc 3 _ rfl
    rw [Nat.add_zero] at c0
    rw [add_field _ _ 1 (by omega)] at c1
    rw [add_field _ _ 2 (by omega)] at c2
    rw [add_field _ _ 3 (by omega)] at c3
    exact ⟨c0, c1, c2, c3⟩
theorem del_filter_none {M : Mdl} {s : ByteArray} (hn : getM s M = none) (left : Lit → Bool) :
    (M.filter fun q => (left (litS q.1) && !(litS q.1).sameKey (litS s))) = M.filter fun q => left (litS q.1) := by
  apply List.filter_congr
  intro q hq
  rw [Maps.sameKey_ne (fun e' => getM_none hn q hq (litS_inj e'))]
  simp
theorem len_strike {M : Mdl} (hd : Dis M) {s : ByteArray} {c : Acct} (hc : getM s M = some c) {left : Lit → Bool} (hl : left (litS s) = true) :
    (M.filter fun q => (left (litS q.1) && !(litS q.1).sameKey (litS s))).length + 1 = (M.filter fun q => left (litS q.1)).length := by
  have hd2 : Dis (M.filter fun q => left (litS q.1)) := List.Pairwise.filter _ hd
  have hm : getM s (M.filter fun q => left (litS q.1)) = some c := getM_of_mem hd2 (List.mem_filter.2 ⟨getM_mem hc, hl⟩)
  rw [← del_length hd2 hm]
  congr 2
  unfold delM
  rw [List.filter_filter]
  apply List.filter_congr
  intro q _
  by_cases e : q.1 = s
  · rw [e, WideAt.sameKey_self (isKey_litS s)]; simp
  · rw [Maps.sameKey_ne (fun e' => e (litS_inj e'))]; simp [e]
/-- The names of the acts so far, as a set. -/
def namesQ (l : List ActQ) (j : Nat) : DataW Unit := Maps.setOf (.lit (.bool true)) ((l.take j).map fun x => litS x.f1)
theorem keys_names (l : List ActQ) (j : Nat) : ∀ x ∈ (l.take j).map (fun x => litS x.f1), WideAt.IsKeyLit x := by
  intro x hx
  obtain ⟨s, _, rfl⟩ := List.mem_map.1 hx
  trivial
theorem names_step {l : List ActQ} {j : Nat} {x : ActQ} (hx : l[j]? = some x) : namesQ l (j + 1) = (namesQ l j).put (litS x.f1) (.lit (.bool true)) := by
  obtain ⟨hj, he⟩ := List.getElem?_eq_some_iff.1 hx
  unfold namesQ
  rw [List.take_succ_eq_append_getElem hj, he, List.map_append, List.map_cons, List.map_nil, Maps.setOf_snoc]
theorem has_names {l : List ActQ} {j : Nat} {s : ByteArray} (h : Maps.has (namesQ l j) (litS s) = true) : ∃ x ∈ l.take j, x.f1 = s := by
  unfold namesQ at h
  rw [Maps.has_setOf _ _ _ (keys_names l j), List.any_eq_true] at h
  obtain ⟨k, hk, hs⟩ := h
  obtain ⟨x, hx, rfl⟩ := List.mem_map.1 hk
  exact ⟨x, hx, litS_inj (WideAt.sameKey_eq hs)⟩
theorem names_has {l : List ActQ} {j : Nat} {x : ActQ} (h : x ∈ l.take j) : Maps.has (namesQ l j) (litS x.f1) = true := by
  unfold namesQ
  rw [Maps.has_setOf _ _ _ (keys_names l j), List.any_eq_true]
  exact ⟨litS x.f1, List.mem_map.2 ⟨x, h, rfl⟩, WideAt.sameKey_self (isKey_litS _)⟩
/-- Each account is one of the acts' names. -/
def Covers (l : List ActQ) (j : Nat) (M : Mdl) : Prop := ∀ p ∈ M, ∃ x ∈ l.take j, x.f1 = p.1
theorem covers_start (l : List ActQ) : Covers l 0 [] := fun p hp => by cases hp
theorem Covers.more {l : List ActQ} {j : Nat} {M : Mdl} (h : Covers l j M) : Covers l (j + 1) M := fun p hp => by
  obtain ⟨x, hx, e⟩ := h p hp
  exact ⟨x, (List.take_subset_take_left l (by omega)) hx, e⟩
theorem Covers.run {l : List ActQ} {j : Nat} {M : Mdl} (h : Covers l j M) {x : ActQ} (hx : l[j]? = some x) (nb : Bool) (cap : Int) : Covers l (j + 1) (runM nb cap M x.f0 x.f1 x.f2 x.f3).2 := by
  have hm : x ∈ l.take (j + 1) := by
    obtain ⟨hj, he⟩ := List.getElem?_eq_some_iff.1 hx
    rw [List.take_succ_eq_append_getElem hj, he]
    exact List.mem_append_right _ (List.mem_singleton.2 rfl)
  have hset : ∀ a, Covers l (j + 1) (setM x.f1 a M) := fun a p hp => by
    obtain ⟨q, hq, rfl⟩ := List.mem_map.1 hp
    have := h.more q hq
    split <;> exact this
  unfold runM openM changeM closeM useM freeM
  cases hg : getM x.f1 M with
  | none =>
    simp only
    repeat' split
    all_goals first
      | exact h.more
      | (intro p hp
         rcases List.mem_append.1 hp with hp | hp
         · exact h.more p hp
         · rw [List.mem_singleton.1 hp]; exact ⟨x, hm, rfl⟩)
  | some a =>
    simp only
    repeat' split
    all_goals first
      | exact h.more
      | exact hset _
      | (intro p hp; exact h.more p (List.mem_filter.1 hp).1)
      | (intro p hp
         rcases List.mem_append.1 hp with hp | hp
         · exact h.more p hp
         · rw [List.mem_singleton.1 hp]; exact ⟨x, hm, rfl⟩)
theorem covers_all {l : List ActQ} {j : Nat} {M : Mdl} (h : Covers l j M) : (M.filter fun q => Maps.has (namesQ l j) (litS q.1)) = M :=
  List.filter_eq_self.2 fun q hq => by
    obtain ⟨x, hx, e⟩ := h q hq
    rw [← e]
    exact names_has hx
end Go.Proofs.Ytdbhejckpkifoaa
