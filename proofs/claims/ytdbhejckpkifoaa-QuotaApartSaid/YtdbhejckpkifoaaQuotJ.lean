/- quota: a ledger that is not there, walked; accounts compared; what others do changes nothing for one, plain. -/
import Derived.Test.YtdbhejckpkifoaaQuotI
import Derived.Lib.Hide
import Derived.LoopTactic
import Derived.Outline
import Derived.Laws.Rows
import Derived.Laws.CopyOwn
import Derived.WalkKit
set_option linter.unusedVariables false
set_option linter.unusedSimpArgs false
namespace Go.Proofs.Ytdbhejckpkifoaa
open Go.RowKit Go.Proofs.YtdbhejckpkifoaaW.PrintWords Go.Proofs.YtdbhejckpkifoaaW.PrintLast Go.Proofs.YtdbhejckpkifoaaW.PrintMore
open Go.Proofs.Ytdbhejckpkifoaa.PSlotsBack
attribute [local go_sem] max2_int min2_int max_two min_two max_three min_three max_four min_four

theorem eqA65 (d : Nat) (w : World) (x0 y0 x1 y1 x2 y2 x3 y3 : Int) :
    (Op.equalIn (d + 2) 65 (.agg #[.int .i64 x0, .int .i64 x1, .int .i64 x2, .int .i64 x3]) (.agg #[.int .i64 y0, .int .i64 y1, .int .i64 y2, .int .i64 y3])).run Try.prog w = .ok (x0 == y0 && (x1 == y1 && (x2 == y2 && x3 == y3))) w := by
  refine eqA_of Try.underlying65 (by kernel_rfl) ?_
  refine eqf_cons (by rfl) (by go_simp; rfl) (by go_simp; rfl) (by go_simp) ?_
  refine eqf_cons (by rfl) (by go_simp; rfl) (by go_simp; rfl) (by go_simp) ?_
  refine eqf_cons (by rfl) (by go_simp; rfl) (by go_simp; rfl) (by go_simp) ?_
  exact eqf_last (by rfl) (by go_simp; rfl) (by go_simp; rfl) (by go_simp)
set_option maxRecDepth 100000 in
set_option maxHeartbeats 8000000 in
theorem own_nil (s : ByteArray) (w : World) : Calls Try.prog 43 #[.pointer none, .string s] w fun e w' => e = .returned (.tuple #[.agg #[.int .i64 0, .int .i64 0, .int .i64 0, .int .i64 0], .int .i64 1]) ∧ Below w.heap.size w w' := by
  go_enter Try.func43, Try.ntmps43
  go_wp2
  refine bodyPost_ret (v := .tuple #[.agg #[.int .i64 0, .int .i64 0, .int .i64 0, .int .i64 0], .int .i64 1]) (by simp [results, Try.results43, go_sem]) rfl ⟨rfl, ?_⟩
  exact (Below.refl _ _).alloc (Nat.le_refl _) _
set_option maxRecDepth 100000 in
set_option maxHeartbeats 8000000 in
theorem get_nil (s : ByteArray) (w : World) : Calls Try.prog 26 #[.pointer none, .string s] w fun e w' => e = .returned (.tuple #[.agg #[.int .i64 0, .int .i64 0, .int .i64 0, .int .i64 0], .bool false]) ∧ Below w.heap.size w w' := by
  go_enter Try.func26, Try.ntmps26
  go_wp2
  refine bodyPost_ret (v := .tuple #[.agg #[.int .i64 0, .int .i64 0, .int .i64 0, .int .i64 0], .bool false]) (by simp [results, Try.results26, go_sem]) rfl ⟨rfl, ?_⟩
  exact (Below.refl _ _).alloc (Nat.le_refl _) _
set_option maxRecDepth 100000 in
set_option maxHeartbeats 8000000 in
theorem open_nil (s : ByteArray) (x y : Int) (w : World) : Calls Try.prog 29 #[.pointer none, .string s, .int .i64 x, .int .i64 y] w fun e w' => e = .returned (.int .i64 1) ∧ w = w' := by
  go_enter Try.func29, Try.ntmps29
  go_wp2
  go_ret
  exact ⟨rfl, rfl⟩
set_option maxRecDepth 100000 in
set_option maxHeartbeats 8000000 in
theorem change_nil (s : ByteArray) (x y : Int) (w : World) : Calls Try.prog 34 #[.pointer none, .string s, .int .i64 x, .int .i64 y] w fun e w' => e = .returned (.int .i64 1) ∧ Below w.heap.size w w' := by
  go_enter Try.func34, Try.ntmps34
  go_wp2_with fail
  refine (own_nil s w).mono ?_
  rintro e w2 ⟨rfl, h2⟩
  have H2 := Aside0.mk (h2.alloc h2.size (.cells #[.int .i64 0, .int .i64 0, .int .i64 0, .int .i64 0] 65))
  clear h2
  go_wp2
  go_ret
  exact ⟨rfl, H2.out⟩
set_option maxRecDepth 100000 in
set_option maxHeartbeats 8000000 in
theorem close_nil (s : ByteArray) (w : World) : Calls Try.prog 30 #[.pointer none, .string s] w fun e w' => e = .returned (.int .i64 1) ∧ Below w.heap.size w w' := by
  go_enter Try.func30, Try.ntmps30
  go_wp2_with fail
  refine (own_nil s w).mono ?_
  rintro e w2 ⟨rfl, h2⟩
  have H2 := Aside0.mk (h2.alloc h2.size (.cells #[.int .i64 0, .int .i64 0, .int .i64 0, .int .i64 0] 65))
  clear h2
  go_wp2
  go_ret
  exact ⟨rfl, H2.out⟩
set_option maxRecDepth 100000 in
set_option maxHeartbeats 8000000 in
theorem use_nil (s : ByteArray) (x y : Int) (w : World) : Calls Try.prog 35 #[.pointer none, .string s, .int .i64 x, .int .i64 y] w fun e w' => e = .returned (.int .i64 1) ∧ Below w.heap.size w w' := by
  go_enter Try.func35, Try.ntmps35
  go_wp2_with fail
  refine (own_nil s w).mono ?_
  rintro e w2 ⟨rfl, h2⟩
  have H2 := Aside0.mk (h2.alloc h2.size (.cells #[.int .i64 0, .int .i64 0, .int .i64 0, .int .i64 0] 65))
  clear h2
  go_wp2
  go_ret
  exact ⟨rfl, H2.out⟩
set_option maxRecDepth 100000 in
set_option maxHeartbeats 8000000 in
theorem free_nil (s : ByteArray) (x y : Int) (w : World) : Calls Try.prog 36 #[.pointer none, .string s, .int .i64 x, .int .i64 y] w fun e w' => e = .returned (.int .i64 1) ∧ Below w.heap.size w w' := by
  go_enter Try.func36, Try.ntmps36
  go_wp2_with fail
  refine (own_nil s w).mono ?_
  rintro e w2 ⟨rfl, h2⟩
  have H2 := Aside0.mk (h2.alloc h2.size (.cells #[.int .i64 0, .int .i64 0, .int .i64 0, .int .i64 0] 65))
  clear h2
  go_wp2
  go_ret
  exact ⟨rfl, H2.out⟩
set_option maxRecDepth 100000 in
set_option maxHeartbeats 8000000 in
theorem left_nil (w : World) : Calls Try.prog 25 #[.pointer none] w fun e w' => e = .returned (.int .i64 0) ∧ w = w' := by
  go_enter Try.func25, Try.ntmps25
  go_wp2
  go_ret
  exact ⟨rfl, rfl⟩
set_option maxRecDepth 100000 in
set_option maxHeartbeats 8000000 in
theorem cap_nil (w : World) : Calls Try.prog 33 #[.pointer none] w fun e w' => e = .returned (.int .i64 0) ∧ w = w' := by
  go_enter Try.func33, Try.ntmps33
  go_wp2
  go_ret
  exact ⟨rfl, rfl⟩
set_option maxRecDepth 100000 in
set_option maxHeartbeats 8000000 in
theorem accounts_nil (w : World) : Calls Try.prog 27 #[.pointer none] w fun e w' => e = .returned (.int .i64 0) ∧ w = w' := by
  go_enter Try.func27, Try.ntmps27
  go_wp2
  go_ret
  exact ⟨rfl, rfl⟩
set_option maxRecDepth 100000 in
set_option maxHeartbeats 8000000 in
theorem copy_nil (w : World) : Calls Try.prog 28 #[.pointer none] w fun e w' => e = .returned (.pointer none) ∧ w = w' := by
  go_enter Try.func28, Try.ntmps28
  go_wp2
  go_ret
  exact ⟨rfl, rfl⟩
theorem openM_other {nb : Bool} {cap : Int} {M : Mdl} {s k : ByteArray} {by_ se : Int} (h : s ≠ k) : getM k (openM nb cap M s by_ se).2 = getM k M := by
  unfold openM
  repeat' split
  all_goals first
    | rfl
    | (rename_i hg _
       rw [getM_append (by simpa using hg), if_neg h])
theorem changeM_other {cap : Int} {M : Mdl} {s k : ByteArray} {by_ se : Int} (h : s ≠ k) : getM k (changeM cap M s by_ se).2 = getM k M := by
  unfold changeM
  cases getM s M with
  | none => rfl
  | some a =>
    simp only
    repeat' split
    all_goals first
      | rfl
      | rw [getM_set, if_neg h]
      | rw [getM_del, if_neg h]
theorem closeM_other {M : Mdl} {s k : ByteArray} (h : s ≠ k) : getM k (closeM M s).2 = getM k M := by
  unfold closeM
  cases getM s M with
  | none => rfl
  | some a =>
    simp only
    repeat' split
    all_goals first
      | rfl
      | rw [getM_set, if_neg h]
      | rw [getM_del, if_neg h]
theorem useM_other {M : Mdl} {s k : ByteArray} {by_ se : Int} (h : s ≠ k) : getM k (useM M s by_ se).2 = getM k M := by
  unfold useM
  cases getM s M with
  | none => rfl
  | some a =>
    simp only
    repeat' split
    all_goals first
      | rfl
      | rw [getM_set, if_neg h]
      | rw [getM_del, if_neg h]
theorem freeM_other {M : Mdl} {s k : ByteArray} {by_ se : Int} (h : s ≠ k) : getM k (freeM M s by_ se).2 = getM k M := by
  unfold freeM
  cases getM s M with
  | none => rfl
  | some a =>
    simp only
    repeat' split
    all_goals first
      | rfl
      | rw [getM_set, if_neg h]
      | rw [getM_del, if_neg h]
theorem runM_other {nb : Bool} {cap : Int} {M : Mdl} {kd : Int} {s k : ByteArray} {by_ se : Int} (h : s ≠ k) : getM k (runM nb cap M kd s by_ se).2 = getM k M := by
  unfold runM
  split
  · exact openM_other h
  · split
    · exact changeM_other h
    · split
      · exact closeM_other h
      · split
        · exact useM_other h
        · exact freeM_other h
/-- For one's own uses and frees but its own account matters. -/
theorem useM_own {M M' : Mdl} {s : ByteArray} {by_ se : Int} (h : getM s M = getM s M') : (useM M s by_ se).1 = (useM M' s by_ se).1 ∧ getM s (useM M s by_ se).2 = getM s (useM M' s by_ se).2 := by
  unfold useM
  rw [h]
  cases hg : getM s M' with
  | none => exact ⟨rfl, h.trans rfl⟩
  | some a =>
    simp only
    split
    · exact ⟨rfl, h⟩
    · split
      · exact ⟨rfl, h⟩
      · exact ⟨rfl, by rw [getM_set, getM_set, h]⟩
theorem freeM_own {M M' : Mdl} {s : ByteArray} {by_ se : Int} (h : getM s M = getM s M') : (freeM M s by_ se).1 = (freeM M' s by_ se).1 ∧ getM s (freeM M s by_ se).2 = getM s (freeM M' s by_ se).2 := by
  unfold freeM
  rw [h]
  cases hg : getM s M' with
  | none => exact ⟨rfl, h.trans rfl⟩
  | some a =>
    simp only
    split
    · exact ⟨rfl, h⟩
    · exact ⟨rfl, by rw [getM_set, getM_set, h]⟩
theorem runM_own {nb nb' : Bool} {cap cap' : Int} {M M' : Mdl} {kd : Int} {s : ByteArray} {by_ se : Int} (hk : kd = 3 ∨ kd = 4 ∨ kd = 5) (h : getM s M = getM s M') :
    (runM nb cap M kd s by_ se).1 = (runM nb' cap' M' kd s by_ se).1 ∧ getM s (runM nb cap M kd s by_ se).2 = getM s (runM nb' cap' M' kd s by_ se).2 := by
  have h0 : ¬ kd = 0 := by omega
  have h1 : ¬ kd = 1 := by omega
  have h2 : ¬ kd = 2 := by omega
  unfold runM
  simp only [if_neg h0, if_neg h1, if_neg h2]
  by_cases h34 : kd = 3 ∨ kd = 4
  · simp only [if_pos h34]; exact useM_own h
  · simp only [if_neg h34]; exact freeM_own h
end Go.Proofs.Ytdbhejckpkifoaa
