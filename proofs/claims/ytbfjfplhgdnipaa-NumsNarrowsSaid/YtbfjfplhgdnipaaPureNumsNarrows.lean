/- A number is told as one of fewer bits just if that type has it. No condition. -/
import Derived.Test.YtbfjfplhgdnipaaNarrows
namespace Go.Proofs.Ytbfjfplhgdnipaa.Pure
open Go.RowKit Go.Proofs.Ytbfjfplhgdnipaa.HNumsNarrows Go.Proofs.YtbfjfplhgdnipaaW.PrintWords Go.Proofs.YtbfjfplhgdnipaaW.PrintLast

namespace NumsNarrowsPure
theorem lives_is : catacomblaw01_lives.f = some true := by decide +kernel
theorem i8w (n : Int) : IntKind.i8.wrap n = (n + 128) % 256 - 128 := by simp [IntKind.wrap, IntKind.bits, IntKind.signed]; omega
theorem i16w (n : Int) : IntKind.i16.wrap n = (n + 32768) % 65536 - 32768 := by simp [IntKind.wrap, IntKind.bits, IntKind.signed]; omega
theorem u16w (n : Int) : IntKind.u16.wrap n = n % 65536 := by rw [IntKind.wrap_u16]

theorem to8 (a : Int) (h : In64 a) : ∃ v b, nums_To8.f a = some (v, b) ∧ told (-128) 127 a v b := by
  unfold In64 at h
  unfold nums_To8.f told
  rw [i8w]
  unfold wrap64
  by_cases c : a < -128 ∨ 127 < a
  · refine ⟨0, false, by rw [if_neg (by omega)], by rw [if_pos c]; exact ⟨rfl, rfl⟩⟩
  · exact ⟨a, true, by rw [if_pos (by omega), show (a + 128) % 256 - 128 = a by omega], by rw [if_neg c]; exact ⟨rfl, rfl⟩⟩
theorem to16 (a : Int) (h : In64 a) : ∃ v b, nums_To16.f a = some (v, b) ∧ told (-32768) 32767 a v b := by
  unfold In64 at h
  unfold nums_To16.f told
  rw [i16w]
  unfold wrap64
  by_cases c : a < -32768 ∨ 32767 < a
  · refine ⟨0, false, by rw [if_neg (by omega)], by rw [if_pos c]; exact ⟨rfl, rfl⟩⟩
  · exact ⟨a, true, by rw [if_pos (by omega), show (a + 32768) % 65536 - 32768 = a by omega], by rw [if_neg c]; exact ⟨rfl, rfl⟩⟩
theorem to32 (a : Int) (h : In64 a) : ∃ v b, nums_To32.f a = some (v, b) ∧ told (-2147483648) 2147483647 a v b := by
  unfold In64 at h
  unfold nums_To32.f told
  unfold wrap64 wrap32
  by_cases c : a < -2147483648 ∨ 2147483647 < a
  · refine ⟨0, false, by rw [if_neg (by omega)], by rw [if_pos c]; exact ⟨rfl, rfl⟩⟩
  · exact ⟨a, true, by rw [if_pos (by omega), show (a + 2147483648) % 4294967296 - 2147483648 = a by omega], by rw [if_neg c]; exact ⟨rfl, rfl⟩⟩
theorem toU8 (a : Int) : ∃ v b, nums_ToU8.f a = some (v, b) ∧ told 0 255 a v b := by
  unfold nums_ToU8.f told
  by_cases c : a < 0 ∨ 255 < a
  · refine ⟨0, false, by rw [if_neg (by omega)], by rw [if_pos c]; exact ⟨rfl, rfl⟩⟩
  · exact ⟨a, true, by rw [if_pos (by omega), show a % 256 = a by omega], by rw [if_neg c]; exact ⟨rfl, rfl⟩⟩
theorem toU16 (a : Int) (h : In64 a) : ∃ v b, nums_ToU16.f a = some (v, b) ∧ told 0 65535 a v b := by
  unfold In64 at h
  unfold nums_ToU16.f told
  rw [u16w]
  unfold wrap64
  by_cases c : a < 0 ∨ 65535 < a
  · refine ⟨0, false, by rw [if_neg (by omega)], by rw [if_pos c]; exact ⟨rfl, rfl⟩⟩
  · exact ⟨a, true, by rw [if_pos (by omega), show a % 65536 = a by omega], by rw [if_neg c]; exact ⟨rfl, rfl⟩⟩
theorem toU32 (a : Int) : ∃ v b, nums_ToU32.f a = some (v, b) ∧ told 0 4294967295 a v b := by
  unfold nums_ToU32.f told
  by_cases c : a < 0 ∨ 4294967295 < a
  · refine ⟨0, false, by rw [if_neg (by omega)], by rw [if_pos c]; exact ⟨rfl, rfl⟩⟩
  · exact ⟨a, true, by rw [if_pos (by omega), show a % 4294967296 = a by omega], by rw [if_neg c]; exact ⟨rfl, rfl⟩⟩
end NumsNarrowsPure
open NumsNarrowsPure

theorem NumsNarrowsWalk.walk (a : Int) (W : World) (hw : (Lit.int .i64 a).wf = true) :
    Calls Try.prog 6 #[.int .i64 a] W fun e w' => e = .returned (.bool true) ∧ Below W.heap.size W w' := by
  have h := in64 hw
  obtain ⟨v0, b0, e0, h0⟩ := to8 a h
  obtain ⟨v1, b1, e1, h1⟩ := to16 a h
  obtain ⟨v2, b2, e2, h2⟩ := to32 a h
  obtain ⟨v3, b3, e3, h3⟩ := toU8 a
  obtain ⟨v4, b4, e4, h4⟩ := toU16 a h
  obtain ⟨v5, b5, e5, h5⟩ := toU32 a
  exact law_calls a v0 v1 v2 v3 v4 v5 b0 b1 b2 b3 b4 b5 W lives_is e0 e1 e2 e3 e4 e5 h h0 h1 h2 h3 h4 h5

end Go.Proofs.Ytbfjfplhgdnipaa.Pure
