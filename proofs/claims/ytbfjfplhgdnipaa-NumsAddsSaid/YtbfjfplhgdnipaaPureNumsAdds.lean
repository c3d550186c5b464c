/- A sum, a difference, and the other sign, of any two numbers of 64 bits, are the chapter's: the true ones, brought into the bounds. No condition. -/
import Derived.Test.YtbfjfplhgdnipaaHNumsAddsx1
import Derived.Test.YtbfjfplhgdnipaaMath
namespace Go.Proofs.Ytbfjfplhgdnipaa.Pure
open Go.RowKit Go.Proofs.Ytbfjfplhgdnipaa.HNumsAdds Go.Proofs.YtbfjfplhgdnipaaW.PrintWords Go.Proofs.YtbfjfplhgdnipaaW.PrintLast Go.Proofs.YtbfjfplhgdnipaaW.PrintMore

namespace NumsAddsPure

theorem beq_lt (x y : Int) : ((decide (x < 0)) == (decide (y < 0))) = true ↔ (x < 0 ↔ y < 0) := by
  by_cases h : x < 0 <;> by_cases h' : y < 0 <;> simp [h, h']
theorem bne_lt (x y : Int) : ((decide (x < 0)) != (decide (y < 0))) = true ↔ ¬ (x < 0 ↔ y < 0) := by
  by_cases h : x < 0 <;> by_cases h' : y < 0 <;> simp [h, h']
theorem end_is (b : Bool) : nums_end.f b = some (if b = true then -9223372036854775808 else 9223372036854775807) := by
  unfold nums_end.f
  cases b <;> rfl
theorem add_is (a b : Int) (ha : In64 a) (hb : In64 b) : nums_Add.f a b = some (clamp (a + b)) := by
  unfold In64 at ha hb
  have hw : wrap64 (IntKind.u64.wrap (IntKind.u64.wrap a + IntKind.u64.wrap b)) = wrap64 (a + b) := by
    rw [u64w, u64w, u64w]
    unfold wrap64
    omega
  unfold nums_Add.f clamp
  rw [hw]
  simp only [beq_lt, bne_lt, end_is]
  by_cases c1 : a < 0 ↔ b < 0
  · rw [if_pos c1]
    by_cases c2 : ¬ (wrap64 (a + b) < 0 ↔ a < 0)
    · rw [if_pos c2]
      by_cases c3 : a < 0
      · rw [if_pos (decide_eq_true c3)]
        simp only [Option.bind_some]
        congr 1
        unfold wrap64 at c2
        rw [if_neg (by omega), if_pos (by omega)]
      · rw [if_neg (by simpa using c3)]
        simp only [Option.bind_some]
        congr 1
        unfold wrap64 at c2
        rw [if_pos (by omega)]
    · rw [if_neg c2]
      congr 1
      unfold wrap64 at c2 ⊢
      by_cases c3 : a < 0
      · rw [if_neg (by omega), if_neg (by omega)]; omega
      · rw [if_neg (by omega), if_neg (by omega)]; omega
  · rw [if_neg c1]
    congr 1
    unfold wrap64
    rw [if_neg (by omega), if_neg (by omega)]
    omega

theorem sum_is (a b : Int) (ha : In64 a) (hb : In64 b) (k : Nat) : catacomblaw01_Sum.f (k + 1) a b = some (clamp (a + b)) := by
  unfold In64 at ha hb
  unfold catacomblaw01_Sum.f clamp
  simp only [catacomblaw01_Sum.j0]
  by_cases h : b > 0
  · rw [if_pos h]
    have hw : wrap64 (9223372036854775807 - b) = 9223372036854775807 - b := by unfold wrap64; omega
    rw [hw]
    by_cases h1 : a > 9223372036854775807 - b
    · rw [if_pos (decide_eq_true h1), if_pos (by omega)]
    · rw [if_neg (by simpa using h1), if_neg (by omega), if_neg (by omega), if_neg (by omega)]
      congr 1
      unfold wrap64
      omega
  · rw [if_neg h, if_neg (by simp)]
    by_cases h0 : b < 0
    · have hw : wrap64 (-9223372036854775808 - b) = -9223372036854775808 - b := by unfold wrap64; omega
      rw [if_pos h0, hw]
      by_cases h1 : a < -9223372036854775808 - b
      · rw [if_pos h1, if_neg (by omega), if_pos (by omega)]
      · rw [if_neg h1, if_neg (by omega), if_neg (by omega)]
        congr 1
        unfold wrap64
        omega
    · rw [if_neg h0, if_neg (by omega), if_neg (by omega)]
      congr 1
      unfold wrap64
      omega

theorem sub_is (a b : Int) (ha : In64 a) (hb : In64 b) : nums_Sub.f a b = some (clamp (a - b)) := by
  unfold In64 at ha hb
  have hw : wrap64 (IntKind.u64.wrap (IntKind.u64.wrap a - IntKind.u64.wrap b)) = wrap64 (a - b) := by
    rw [u64w, u64w, u64w]
    unfold wrap64
    omega
  unfold nums_Sub.f clamp
  rw [hw]
  simp only [bne_lt, end_is]
  by_cases c1 : a < 0 ↔ b < 0
  · rw [if_neg (by simpa using c1)]
    congr 1
    unfold wrap64
    rw [if_neg (by omega), if_neg (by omega)]
    omega
  · rw [if_pos c1]
    by_cases c2 : ¬ (wrap64 (a - b) < 0 ↔ a < 0)
    · rw [if_pos c2]
      by_cases c3 : a < 0
      · rw [if_pos (decide_eq_true c3)]
        simp only [Option.bind_some]
        congr 1
        unfold wrap64 at c2
        rw [if_neg (by omega), if_pos (by omega)]
      · rw [if_neg (by simpa using c3)]
        simp only [Option.bind_some]
        congr 1
        unfold wrap64 at c2
        rw [if_pos (by omega)]
    · rw [if_neg c2]
      congr 1
      unfold wrap64 at c2 ⊢
      by_cases c3 : a < 0
      · rw [if_neg (by omega), if_neg (by omega)]; omega
      · rw [if_neg (by omega), if_neg (by omega)]; omega

theorem lives_is : catacomblaw01_lives.f = some true := by decide +kernel

theorem neg_is (a : Int) (ha : In64 a) : nums_Neg.f a = some (if a = -9223372036854775808 then 9223372036854775807 else -a) := by
  unfold In64 at ha
  unfold nums_Neg.f
  by_cases h : a = -9223372036854775808
  · rw [if_pos h, if_pos h]
  · rw [if_neg h, if_neg h]
    congr 1
    unfold wrap64
    omega
theorem j2_is (a b n d : Int) (ha : In64 a) (hb : In64 b) (hn : n = if a = -9223372036854775808 then 9223372036854775807 else -a) (hd : d = clamp (a - b)) (k : Nat) : catacomblaw01_NumsAdds.j2 (k + 2) a b n d = some true := by
  simp only [catacomblaw01_NumsAdds.j2]
  rw [add_is a b ha hb, sum_is a b ha hb, neg_is a ha, sub_is a b ha hb, ← hn, ← hd]
  simp
theorem j0_is (a b n : Int) (ha : In64 a) (hb : In64 b) (hn : n = if a = -9223372036854775808 then 9223372036854775807 else -a) (k : Nat) : catacomblaw01_NumsAdds.j0 (k + 4) a b n = some true := by
  have ha' := ha
  have hb' := hb
  unfold In64 at ha' hb'
  simp only [catacomblaw01_NumsAdds.j0, catacomblaw01_NumsAdds.j1]
  by_cases h : b = -9223372036854775808
  · rw [if_pos h]
    by_cases h0 : a ≥ 0
    · rw [if_pos (decide_eq_true h0)]
      refine j2_is a b n _ ha hb hn ?_ k
      unfold clamp
      rw [if_pos (by omega)]
    · rw [if_neg (by simpa using h0), if_pos h]
      refine j2_is a b n _ ha hb hn ?_ k
      unfold clamp wrap64
      rw [if_neg (by omega), if_neg (by omega)]
      omega
  · rw [if_neg h, if_neg (by simp), if_neg h]
    have hw : wrap64 (-b) = -b := by unfold wrap64; omega
    rw [hw, sum_is a (-b) ha (by unfold In64; omega) (k + 1)]
    simp only [Option.bind_some]
    exact j2_is a b n _ ha hb hn (by rw [show a + -b = a - b from by omega]) k
theorem law : catacomblaw01_NumsAdds.Pure := by
  intro a b hwa hwb
  have ha := in64 hwa
  have hb := in64 hwb
  refine ⟨10, ?_⟩
  unfold catacomblaw01_NumsAdds.f
  rw [lives_is]
  simp only [Option.bind_some, if_true]
  by_cases h : a = -9223372036854775808
  · rw [if_pos h]
    exact j0_is a b _ ha hb (by rw [if_pos h]) 6
  · rw [if_neg h]
    exact j0_is a b _ ha hb (by rw [if_neg h]; unfold In64 at ha; unfold wrap64; omega) 6

end NumsAddsPure

theorem NumsAdds : catacomblaw01_NumsAdds.Pure := NumsAddsPure.law

end Go.Proofs.Ytbfjfplhgdnipaa.Pure
