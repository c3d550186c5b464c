/- What the law ChunkMerges needs beside the walk: refused chunks, appends of points in a region, the insertion by steps. -/
import Derived.Test.YtfanomllfgoakaaMergeB
import Derived.Deep.RegionLawGrows
set_option linter.unusedVariables false
set_option linter.unusedSimpArgs false
namespace Go.Proofs.Ytfanomllfgoakaa
open Go.RowKit Go.Proofs.YtfanomllfgoakaaW.PrintWords Go.Proofs.YtfanomllfgoakaaW.PrintLast Go.Proofs.YtfanomllfgoakaaW.PrintMore
open Go.Proofs.Ytfanomllfgoakaa.BitsMath Go.Proofs.Ytfanomllfgoakaa.ChunkMath Go.Proofs.Ytfanomllfgoakaa.MergeMath

set_option maxHeartbeats 1000000 in
theorem merge_first (v u : Value) (la : List Int) (c : Nat) (w : World) (hv : SrcB w v la) (hla : la.length ≤ 100000) (ba : ∀ x ∈ la, 0 ≤ x ∧ x ≤ 255) (da : dec (unpack la) = .error c) (hc0 : c ≠ 0) :
    Calls Try.prog 31 #[v, u] w fun e w' => e = .returned (.tuple #[.slice none 0 0, .int .i64 (c : Int)]) ∧ Below w.heap.size w w' := by
  have HC1 := Lib.hid (unpack_calls v la w hv hla ba)
  have HDA := Aside0.mk da
  have dne : ((c : Int) != 0) = true := by simp; exact hc0
  clear hv ba da
  go_enter Try.func31, Try.ntmps31
  go_wp2_with fail
  refine HC1.out.mono ?_
  rintro e w1 ⟨hu, h1⟩
  have hu' : e = .returned (.tuple #[.slice none 0 0, .int .i64 (c : Int)]) := by unfold UnpR at hu; rw [HDA.out] at hu; exact hu
  subst hu'
  have H1 := Aside0.mk h1
  clear hu h1
  go_wp2
  go_ret2
  exact ⟨rfl, H1.out⟩
set_option maxHeartbeats 1000000 in
theorem merge_second (v u : Value) (la lb : List Int) (a : List Pt) (c : Nat) (w : World) (hv : SrcB w v la) (hu : SrcB w u lb) (hla : la.length ≤ 100000) (hlb : lb.length ≤ 100000) (ba : ∀ x ∈ la, 0 ≤ x ∧ x ≤ 255) (bb : ∀ x ∈ lb, 0 ≤ x ∧ x ≤ 255)
    (da : dec (unpack la) = .ok a) (db : dec (unpack lb) = .error c) (hc0 : c ≠ 0) :
    Calls Try.prog 31 #[v, u] w fun e w' => e = .returned (.tuple #[.slice none 0 0, .int .i64 (c : Int)]) ∧ Below w.heap.size w w' := by
  have HSU := Aside0.mk hu
  have HC1 := Lib.hid (unpack_calls v la w hv hla ba)
  have HDA := Aside0.mk da
  have HDB := Aside0.mk db
  have HBB := Aside0.mk bb
  have dne : ((c : Int) != 0) = true := by simp; exact hc0
  clear hv ba da hu bb db
  go_enter Try.func31, Try.ntmps31
  go_wp2_with fail
  refine HC1.out.mono ?_
  rintro e w1 ⟨hu, h1⟩
  have hu' : ∃ v, e = .returned (.tuple #[v, .int .i64 0]) := by unfold UnpR at hu; rw [HDA.out] at hu; exact ⟨_, hu.choose_spec.1⟩
  obtain ⟨va, rfl⟩ := hu'
  have H1 := Aside0.mk h1
  have HC2 := Lib.hid (unpack_calls u lb w1 (SrcB.later HSU.out h1) hlb HBB.out)
  clear hu h1
  go_wp2_with fail
  refine HC2.out.mono ?_
  rintro e w2 ⟨hu, h2⟩
  have hu' : e = .returned (.tuple #[.slice none 0 0, .int .i64 (c : Int)]) := by unfold UnpR at hu; rw [HDB.out] at hu; exact hu
  subst hu'
  have H2 := Aside0.mk (H1.out.trans (h2.mono H1.out.size))
  clear hu h2
  go_wp2
  go_ret2
  exact ⟨rfl, H2.out⟩
theorem dec_none : dec (unpack []) = .error 4 := by unfold dec; rw [take_short (by simp [unpack])]
theorem dec_one0 : dec (unpack [0]) = .error 4 := by unfold dec; rw [take_short (by simp [unpack_length])]
theorem lb_calls (v : Value) (l : List Pt) (w : World) (s : ByteArray) (hs : s = strOfNums (ChunkMath.bytes l)) (h : SrcP w v l) (hl : l.length ≤ 1000) (hg : ∀ x ∈ l, okPt x) (hr : rises l) :
    Calls Try.prog 26 #[v] w fun e w' => e = .returned (.string s) ∧ Below w.heap.size w w' := by
  subst hs; exact lbytes_calls v l w h hl hg hr
theorem bytesOf_nums (xs : List Int) (h : ∀ x ∈ xs, 0 ≤ x ∧ x ≤ 255) : bytesOf (strOfNums xs) = xs := by
  unfold bytesOf strOfNums
  simp only [List.map_map]
  refine Eq.trans (List.map_congr_left (g := id) fun x hx => ?_) (List.map_id _)
  have := h x hx
  simp
  omega
theorem conv_bytes (l : List Pt) (s : ByteArray) (hs : s = strOfNums (ChunkMath.bytes l)) (hg : ∀ x ∈ l, okPt x) (hr : rises l) (hn : l.length ≤ 1000) (W : World) : ∃ V W', (convert 9 25 (.string s)).run Try.prog W = .ok V W' ∧ SrcB W' V (ChunkMath.bytes l) ∧ Below W.heap.size W W' := by
  refine ⟨_, _, print_bytes (P := Try.prog) 9 25 5 Try.underlying9 Try.underlying25 Try.underlying5 s W, ?_, bytes_below (Below.refl _ _) (Nat.le_refl _) 5 s⟩
  have hbo : bytesOf s = ChunkMath.bytes l := by rw [hs]; exact bytesOf_nums _ (pack_range (enc l))
  have hsz : s.size = (ChunkMath.bytes l).length := by rw [← hbo, bytesOf_length]
  have hby := bytes_src l hg hr hn
  have hr0 := bytes_reads W 5 s (by omega)
  rw [hbo, hsz] at hr0
  rw [hsz]
  exact src_of hr0
/-! ### Rows of points, cell by cell -/
theorem SrcP.flat {w : World} {ad : Addr} {l : List Pt} (hc : ∀ (j : Nat) (x : Pt), l[j]? = some x → w.cell? (ad.add (j * 2)) = some (.int .i64 x.at_) ∧ w.cell? ⟨(ad.add (j * 2)).block, (ad.add (j * 2)).off + 1, none⟩ = some (.int .i64 x.v)) (j : Nat) (u : Value) (hu : (rowP l)[j]? = some u) : w.cell? (ad.add j) = some u := by
  have hj : j < l.length * 2 := by have := (List.getElem?_eq_some_iff.1 hu).1; rw [rowP_length] at this; exact this
  obtain ⟨x, hx⟩ : ∃ x, l[j / 2]? = some x := ⟨_, List.getElem?_eq_getElem (by omega)⟩
  have h0 := hc _ x hx
  have hr := rowP_get l (j / 2) (j % 2) x hx (by omega)
  rw [show j / 2 * 2 + j % 2 = j by omega, hu] at hr
  rcases Nat.mod_two_eq_zero_or_one j with h | h
  · rw [h] at hr
    simp [ptCells] at hr
    rw [show j = j / 2 * 2 by omega, hr]
    exact h0.1
  · rw [h] at hr
    simp [ptCells] at hr
    have e := add_field ad (j / 2 * 2) 1 (by omega)
    rw [show j / 2 * 2 + 1 = j by omega] at e
    rw [e, hr]
    exact h0.2
theorem rowP_cells1 (l : List Pt) : ∀ u ∈ rowP l, u.oneCell' = true := by
  induction l with
  | nil => intro u hu; cases hu
  | cons x r ih =>
    intro u hu
    simp only [rowP, ptCells, List.cons_append, List.nil_append, List.mem_cons] at hu
    rcases hu with rfl | rfl | hu
    · rfl
    · rfl
    · exact ih u hu
section
variable {ops : Array Oper} {o : Oper} {a : Act} {K : Act → World → Prop} {Q : Exit → Act → World → Prop} {E : Prop}
/-- append of points that are read to a row of one's own, at a step of a region. -/
theorem step_append_src {W : World} (base : Nat) (hgd : o.guard = none) (s x : Operand)
    (ho : o.op = .call { callee := .builtin .append, args := #[s, x], argTypes := #[52, 52] })
    (v : Value) (pts ys : List Pt) (A : Option Addr) (m c : Nat) (hs : a.eval s = v) (hx : a.eval x = .slice A m c)
    (HO : W.ownsRow base 68 2 v pts.length (rowP pts)) (HR : SrcP W (.slice A m c) ys) (hm : m = ys.length) (hbase : base ≤ W.heap.size) (hl : pts.length + ys.length ≤ 1000000)
    (h : ∀ v1 w1, w1.ownsRow base 68 2 v1 (pts ++ ys).length (rowP (pts ++ ys)) → W.grownBy w1 v.ownBlock → K (a.put o.dst v1) w1) :
    if Region.wanted o (yielded ops a.tmps) = true then Oper.wp Try.prog o a W K Q else E := by
  have hw : Region.wanted o (yielded ops a.tmps) = true := by simp [Region.wanted, hgd]
  rw [if_pos hw]
  obtain ⟨i0, hi, hz0, hz1, hz2⟩ := info_parts infoPt
  have hrun : ∃ v1 w1, (Builtin.append_ #[52, 52] o.type #[v, .slice A m c]).run Try.prog W = .ok v1 w1 ∧ w1.ownsRow base 68 2 v1 (pts ++ ys).length (rowP (pts ++ ys)) ∧ W.grownBy w1 v.ownBlock := by
    rcases HR with ⟨c', e, rfl⟩ | ⟨ad, c', e, hc⟩
    · injection e with e1 e2 e3
      subst e1 e2
      refine ⟨v, W, ?_, by simpa using HO, World.grownBy.refl W _⟩
      rcases HO.2 with ⟨rfl, hn⟩ | ⟨g, cap, cur, rfl, _, _, hnc, _⟩
      · simp [Builtin.append_, run_underlying Try.underlying52, sizeOf, typeInfo, hi, Builtin.lenOf, Builtin.firstCells]
      · simp [Builtin.append_, run_underlying Try.underlying52, sizeOf, typeInfo, hi, Builtin.lenOf, Builtin.firstCells, hnc, storeCells]
    · injection e with e1 e2 e3
      subst e1
      subst e3
      obtain ⟨v1, w1, hr, h2, h3, _, h5⟩ := run_append_own_at (P := Try.prog) W base 52 o.type 68 i0 _ 2 16 Try.underlying52 hi hz0 hz1 hz2 rfl (by omega) v pts.length (rowP pts) HO ad m c (rowP ys) (by rw [rowP_length, hm]) (fun j u hu => SrcP.flat hc j u hu)
        (rowP_cells1 ys) (by simp only [maxLen]; omega) (by omega) hbase
      exact ⟨v1, w1, hr, by rw [List.length_append, rowP_append, ← hm]; exact h2, h3⟩
  obtain ⟨v1, w1, hr, hown, hg⟩ := hrun
  unfold Oper.wp execOp
  simp only [ho, resolve, invoke, builtin, Sem.run_bind, Sem.run_pure, Result.andThen_ok, List.map_toArray, List.map_cons, List.map_nil, hs, hx, hr]
  exact h v1 w1 hown hg
end
/-! ### The law's insertion, step by step -/
def ovr (b : List Pt) (m : Nat) (p : Pt) : Bool := (b.take m).any fun q => p.at_ == q.at_
theorem ovr_succ {b : List Pt} {m : Nat} {p q : Pt} (h : b[m]? = some q) : ovr b (m + 1) p = (ovr b m p || p.at_ == q.at_) := by
  unfold ovr
  rw [List.take_add_one, h]
  simp [List.any_append]
theorem ovr_all (b : List Pt) (p : Pt) : ovr b b.length p = !outside b p := by
  unfold ovr outside
  rw [List.take_length]
  induction b with
  | nil => rfl
  | cons q r ih =>
    simp only [List.any_cons, List.all_cons, ih, Bool.not_and]
    congr 1
    by_cases h : p.at_ = q.at_ <;> simp [h]
theorem below_le (q : Pt) : ∀ L, below q L ≤ L.length
  | [] => Nat.le_refl _
  | p :: r => by
    have := below_le q r
    unfold below
    split <;> simp <;> omega
theorem below_lt (q : Pt) : ∀ (L : List Pt) (j : Nat) (p : Pt), j ≤ below q L → L[j]? = some p → p.at_ < q.at_ → j + 1 ≤ below q L
  | [], j, p, _, h, _ => by simp at h
  | x :: r, 0, p, _, h, hp => by
    simp at h
    subst h
    unfold below
    rw [if_pos hp]
    omega
  | x :: r, j + 1, p, h, h2, hp => by
    unfold below at h ⊢
    split at h
    · rename_i hx
      rw [if_pos hx]
      have := below_lt q r j p (by omega) (by simpa using h2) hp
      omega
    · omega
theorem below_stop (q : Pt) : ∀ (L : List Pt) (j : Nat), j ≤ below q L → (∀ p, L[j]? = some p → ¬ p.at_ < q.at_) → j = below q L
  | [], j, h, _ => by unfold below at h ⊢; omega
  | x :: r, 0, _, h => by
    have := h x rfl
    unfold below
    rw [if_neg this]
  | x :: r, j + 1, h, h2 => by
    unfold below at h ⊢
    split at h
    · rename_i hx
      rw [if_pos hx]
      have := below_stop q r j (by omega) (fun p hp => h2 p (by simpa using hp))
      omega
    · omega
theorem ins_length (l : List Pt) (q : Pt) : (ins l q).length = l.length + 1 := by
  have := below_le q l
  unfold ins
  rw [List.length_append, List.length_cons, List.length_take, List.length_drop]
  omega
theorem fold_length : ∀ (b f : List Pt), (b.foldl ins f).length = f.length + b.length
  | [], f => rfl
  | q :: b, f => by
    show (b.foldl ins (ins f q)).length = _
    rw [fold_length b, ins_length, List.length_cons]
    omega
theorem fold_succ {b f : List Pt} {k : Nat} {q : Pt} (h : b[k]? = some q) : (b.take (k + 1)).foldl ins f = ins ((b.take k).foldl ins f) q := by
  rw [List.take_add_one, h]
  simp [List.foldl_append]
theorem filt_succ {a b : List Pt} {k : Nat} {p : Pt} (h : a[k]? = some p) : (a.take (k + 1)).filter (outside b) = (a.take k).filter (outside b) ++ if outside b p = true then [p] else [] := by
  rw [List.take_add_one, h]
  simp only [List.filter_append, Option.toList_some]
  cases h' : outside b p <;> simp [List.filter_cons, h']
end Go.Proofs.Ytfanomllfgoakaa
