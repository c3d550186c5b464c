/- chunk.Unpack: the points of a chunk, walked. -/
import Derived.Test.YtfanomllfgoakaaChunkC
set_option linter.unusedVariables false
set_option linter.unusedSimpArgs false
namespace Go.Proofs.Ytfanomllfgoakaa
open Go.RowKit Go.Proofs.YtfanomllfgoakaaW.PrintWords Go.Proofs.YtfanomllfgoakaaW.PrintLast Go.Proofs.YtfanomllfgoakaaW.PrintMore
open Go.Proofs.Ytfanomllfgoakaa.BitsMath Go.Proofs.Ytfanomllfgoakaa.ChunkMath

def ptCells (x : Pt) : List Value := [.int .i64 x.at_, .int .i64 x.v]
def rowP : List Pt → List Value
  | [] => []
  | x :: r => ptCells x ++ rowP r
theorem rowP_append : ∀ a b, rowP (a ++ b) = rowP a ++ rowP b
  | [], _ => rfl
  | x :: r, b => by simp only [List.cons_append, rowP, rowP_append r b, List.append_assoc]
theorem rowP_length : ∀ a, (rowP a).length = a.length * 2
  | [] => rfl
  | x :: r => by simp only [rowP, List.length_append, rowP_length r, ptCells, List.length_cons, List.length_nil]; omega
theorem rowP_get : ∀ (ks : List Pt) (j k : Nat) (x : Pt), ks[j]? = some x → k < 2 → (rowP ks)[j * 2 + k]? = (ptCells x)[k]?
  | [], j, k, x, h, _ => by simp at h
  | y :: r, 0, k, x, h, hk => by
    simp at h
    subst h
    rw [Nat.zero_mul, Nat.zero_add, rowP, List.getElem?_append_left (by simp [ptCells]; omega)]
  | y :: r, j + 1, k, x, h, hk => by
    have ih := rowP_get r j k x (by simpa using h) hk
    rw [rowP, List.getElem?_append_right (by simp [ptCells]; omega), ← ih]
    congr 1
    simp [ptCells]
    omega
theorem infoPt : (Try.prog.info? 68).map (fun i => (i.zero, i.size, i.bytes)) = some (some (.agg #[.int .i64 0, .int .i64 0]), 2, 16) := by kernel_rfl
def cont (pts : List Pt) (k : Nat) (s : List Bool) : Except Nat (List Pt × List Bool) :=
  match pts.getLast? with
  | none => ChunkMath.all k s
  | some p => match ChunkMath.more k p s with
    | .error e => .error e
    | .ok (r, t) => .ok (pts ++ r, t)
theorem cont_nil_err {k c : Nat} {s : List Bool} (h : ChunkMath.first s = .error c) : cont [] (k + 1) s = .error c := by
  show ChunkMath.all (k + 1) s = _
  unfold ChunkMath.all; simp only; rw [h]
theorem cont_nil_ok {k : Nat} {q : Pt} {s t : List Bool} (h : ChunkMath.first s = .ok (q, t)) : cont [] (k + 1) s = cont [q] k t := by
  show ChunkMath.all (k + 1) s = _
  unfold ChunkMath.all; simp only; rw [h]
  unfold cont
  rfl
theorem cont_err {k c : Nat} {p : Pt} {pts : List Pt} {s : List Bool} (hp : pts.getLast? = some p) (h : ChunkMath.next p s = .error c) : cont pts (k + 1) s = .error c := by
  unfold cont; rw [hp]; simp only; unfold ChunkMath.more; rw [h]
theorem cont_ok {k : Nat} {p q : Pt} {pts : List Pt} {s t : List Bool} (hp : pts.getLast? = some p) (h : ChunkMath.next p s = .ok (q, t)) : cont pts (k + 1) s = cont (pts ++ [q]) k t := by
  unfold cont; rw [hp, List.getLast?_concat]; simp only
  conv => lhs; unfold ChunkMath.more
  rw [h]
  simp only
  cases ChunkMath.more k q t with
  | error e => rfl
  | ok r => obtain ⟨a, b⟩ := r; simp
theorem cont_done {pts : List Pt} {s : List Bool} : cont pts 0 s = .ok (pts, s) := by
  unfold cont
  cases h : pts.getLast? with
  | none =>
    have : pts = [] := by simpa using h
    subst this
    rfl
  | some p => show Except.ok (pts ++ [], s) = _; simp
theorem take_err {k c : Nat} {s : List Bool} (h : ChunkMath.take k s = .error c) : c = 4 := by
  unfold ChunkMath.take at h
  split at h
  · injection h with h; exact h.symm
  · cases h
theorem first_err {c : Nat} {s : List Bool} (h : ChunkMath.first s = .error c) : c ≠ 0 ∧ c ≤ 4 := by
  unfold ChunkMath.first at h
  split at h
  · rename_i e h1; injection h with h; have := take_err h1; omega
  · split at h
    · injection h with h; omega
    · split at h
      · rename_i e h1; injection h with h; have := take_err h1; omega
      · cases h
theorem next_err {c : Nat} {p : Pt} {s : List Bool} (h : ChunkMath.next p s = .error c) : c ≠ 0 ∧ c ≤ 4 := by
  unfold ChunkMath.next at h
  split at h
  · rename_i e h1; injection h with h; have := get_err h1; omega
  · split at h
    · injection h with h; omega
    · split at h
      · rename_i e h1; injection h with h; have := get_err h1; omega
      · cases h
/-- What Unpack leaves. -/
def UnpR (l : List Int) (B : Nat) (e : Ending) (w' : World) : Prop := match dec (unpack l) with
  | .error c => e = .returned (.tuple #[.slice none 0 0, .int .i64 (c : Int)])
  | .ok pts => ∃ v, e = .returned (.tuple #[v, .int .i64 0]) ∧ w'.ownsRow B 68 2 v pts.length (rowP pts)
theorem UnpR.err {l : List Int} {B c : Nat} {w' : World} (h : dec (unpack l) = .error c) : UnpR l B (.returned (.tuple #[.slice none 0 0, .int .i64 (c : Int)])) w' := by unfold UnpR; rw [h]
theorem UnpR.ok {l : List Int} {B : Nat} {w' : World} {v : Value} {pts : List Pt} (h : dec (unpack l) = .ok pts) (hr : w'.ownsRow B 68 2 v pts.length (rowP pts)) : UnpR l B (.returned (.tuple #[v, .int .i64 0])) w' := by unfold UnpR; rw [h]; exact ⟨v, rfl, hr⟩
/-- Between two points that are read. -/
structure UInv (B p : Nat) (l : List Int) (pts : List Pt) (m N : Nat) (v : Value) (w wr : World) : Prop where
  is : IsR p l m wr
  row : wr.ownsRow B 68 2 v pts.length (rowP pts)
  bel : Below B w wr
  good : ∀ q ∈ pts, okPt q
  eq : dec (unpack l) = match cont pts (N - pts.length) (bs_ l m) with | .error e => .error e | .ok (r, t) => if rest t = true then .ok r else .error 2
/-- A point more. -/
theorem UInv.step {B p N : Nat} {l : List Int} {pts : List Pt} {m m' : Nat} {v v' : Value} {w wr w2 w4 : World} {q : Pt} {o o' : Obj} (h : UInv B p l pts m N v w wr) (hB : B ≤ wr.heap.size) (hpB : B ≤ p) (st : RStep p l (wr.alloc o) w2 m')
    (hown : w4.ownsRow B 68 2 v' (pts.length + 1) (rowP pts ++ ptCells q)) (hg : (((w2.setCell ⟨wr.heap.size, 0, none⟩ (.int .i64 q.at_)).setCell ⟨wr.heap.size, 1, none⟩ (.int .i64 q.v)).alloc o').grownBy w4 v.ownBlock)
    (hq : okPt q) (he : cont pts (N - pts.length) (bs_ l m) = cont (pts ++ [q]) (N - (pts.length + 1)) (bs_ l m')) : UInv B p l (pts ++ [q]) m' N v' w w4 := by
  have s1 := ((RStep.start h.is o).trans st)
  have s3 := (s1.setNew h.is (Nat.le_refl wr.heap.size) (k := 0) (.int .i64 q.at_)).setNew h.is (Nat.le_refl wr.heap.size) (k := 1) (.int .i64 q.v)
  have hr3 : ((w2.setCell ⟨wr.heap.size, 0, none⟩ (.int .i64 q.at_)).setCell ⟨wr.heap.size, 1, none⟩ (.int .i64 q.v)).ownsRow B 68 2 v pts.length (rowP pts) :=
    s3.keep.row h.row fun g hg he => rfoot_row_ne h.is h.row (by decide) (by decide) g (.inl he) hg
  generalize hw3 : (w2.setCell ⟨wr.heap.size, 0, none⟩ (.int .i64 q.at_)).setCell ⟨wr.heap.size, 1, none⟩ (.int .i64 q.v) = w3 at *
  have k4 : Keep (fun i => some i = v.ownBlock) w3 w4 := ((Keep.refl _ w3).alloc o').grown hg fun g e _ => e.symm
  have i4 := s3.is.kept k4 fun i hi hc => rfoot_row_ne s3.is hr3 (by decide) (by decide) i hi hc.symm
  have b3 : Below B w w3 := h.bel.trans (s3.keep.to_below (fun i hi => by rw [hi]; exact hpB) hB)
  refine ⟨i4.1, ?_, ?_, ?_, ?_⟩
  · rw [List.length_append, rowP_append]
    simpa [rowP] using hown
  · exact (b3.alloc (Nat.le_trans hB s3.keep.size) o').grown hg (by have := s3.keep.size; simp; omega) fun k hk => (hr3.lt k hk).1
  · intro y hy
    rcases List.mem_append.1 hy with hy | hy
    · exact h.good y hy
    · simp at hy; subst hy; exact hq
  · rw [h.eq, he, List.length_append]; rfl
theorem cells1 {xs : List Value} (h : xs.all (·.oneCell') = true) : ∀ u ∈ xs, u.oneCell' = true := fun u hu => by simpa using List.all_eq_true.1 h u hu
theorem UInv.three {B p N : Nat} {l : List Int} {pts : List Pt} {m m' : Nat} {v : Value} {w wr w2 : World} {o : Obj} (h : UInv B p l pts m N v w wr) (hB : B ≤ wr.heap.size) (hpB : B ≤ p) (st : RStep p l (wr.alloc o) w2 m') (u u' : Value) :
    Below B w ((w2.setCell ⟨wr.heap.size, 0, none⟩ u).setCell ⟨wr.heap.size, 1, none⟩ u') ∧ ((w2.setCell ⟨wr.heap.size, 0, none⟩ u).setCell ⟨wr.heap.size, 1, none⟩ u').ownsRow B 68 2 v pts.length (rowP pts) := by
  have s1 := ((RStep.start h.is o).trans st)
  have s3 := (s1.setNew h.is (Nat.le_refl wr.heap.size) (k := 0) u).setNew h.is (Nat.le_refl wr.heap.size) (k := 1) u'
  exact ⟨h.bel.trans (s3.keep.to_below (fun i hi => by rw [hi]; exact hpB) hB), s3.keep.row h.row fun g hg he => rfoot_row_ne h.is h.row (by decide) (by decide) g (.inl he) hg⟩
theorem last_of {pts : List Pt} {q : Pt} {L : Nat} (hL : L = pts.length) (h : 0 < L) (hq : pts[L - 1]? = some q) : pts.getLast? = some q := by
  rw [List.getLast?_eq_getElem?, ← hL]; exact hq

set_option maxHeartbeats 8000000 in
theorem unpack_calls (v : Value) (l : List Int) (w : World) (h : SrcB w v l) (hl : l.length ≤ 100000) (hb : ∀ x ∈ l, 0 ≤ x ∧ x ≤ 255) :
    Calls Try.prog 24 #[v] w fun e w' => UnpR l w.heap.size e w' ∧ Below w.heap.size w w' := by
  obtain ⟨i0, hi, hz0, hz1, hz2⟩ := info_parts infoPt
  have HS := Aside0.mk h
  have HB := Aside0.mk hb
  have hb0 : bs_ l 0 = unpack l := by unfold bs_; rw [List.drop_zero]
  have HB0 := Aside0.mk hb0
  have hlen := bs_length l 0
  clear h hb hb0
  by_cases c1 : (bs_ l 0).length < 16
  · have HG := Aside0.mk (show dec (unpack l) = .error 4 by rw [← HB0.out]; unfold dec; rw [take_short c1])
    have HLT := Aside0.mk (show 8 * (l.length : Int) - ((0 : Nat) : Int) < 16 by omega)
    clear hlen c1
    go_enter Try.func24, Try.ntmps24
    go_wp2_with fail
    refine (read_calls v l _ HS.out (by omega)).mono ?_
    rintro e w1 ⟨p, rfl, hp, hR, h1⟩
    have HR := Aside0.mk hR
    have H1 := Aside0.mk h1
    clear hR h1
    have hcall := get_short p 0 l 16 w1 HR.out (by omega) (by omega) (by omega) (by omega) HLT.out
    have HC := Lib.hid hcall
    clear hcall
    go_wp2_with fail
    refine HC.out.mono ?_
    rintro e w2 ⟨rfl, k2, rfl⟩
    go_wp2
    go_ret2
    exact ⟨UnpR.err (c := 4) HG.out, pw_below_drewN H1.out _⟩
  · have hT := take_long (k := 16) (s := bs_ l 0) (by omega)
    have hN1 := val_lt 16 ((bs_ l 0).take 16) (by rw [List.length_take]; omega)
    obtain ⟨N, hN⟩ : ∃ N, N = val ((bs_ l 0).take 16) := ⟨_, rfl⟩
    rw [← hN, ← bs_drop] at hT
    rw [← hN] at hN1
    have hN2 : N < 65536 := by omega
    have HN := Aside0.mk hN
    have HD := Aside0.mk (show dec (unpack l) = match cont [] (N - 0) (bs_ l (0 + 16)) with | .error e => .error e | .ok (r, t) => if rest t = true then .ok r else .error 2 by
      rw [← HB0.out]; unfold dec; rw [hT]; rfl)
    have HLE := Aside0.mk (show (16 : Int) ≤ 8 * (l.length : Int) - ((0 : Nat) : Int) by omega)
    have h16 : 0 + 16 ≤ 8 * l.length := by omega
    clear hT hN1 hN hlen c1
    go_enter Try.func24, Try.ntmps24
    go_wp2_with fail
    refine (read_calls v l _ HS.out (by omega)).mono ?_
    rintro e w1 ⟨p, rfl, hp, hR, h1⟩
    have HR := Aside0.mk hR
    have H1 := Aside0.mk h1
    clear hR h1
    have hcall := get_ok p 0 l 16 w1 HR.out (by omega) HB.out (by omega) (by omega) (by omega) HLE.out
    rw [show (16 : Int).toNat = 16 from rfl, ← HN.out] at hcall
    have HC := Lib.hid hcall
    clear hcall
    go_wp2_with fail
    refine HC.out.mono ?_
    rintro e w2 ⟨rfl, h2⟩
    have HI0 := Aside0.mk (show UInv w.heap.size p l [] (0 + 16) N (.slice none 0 0) w w2 from ⟨h2.is, World.ownsRow_nil _ _ _ _, H1.out.trans (h2.keep.to_below (fun i hi => by rw [hi]; exact hp) H1.out.size), by simp, HD.out⟩)
    clear h2
    go_wp2_with fail
    go_loopw [6, 7, 23] (fun v6 v7 v23 wr => ∃ (pts : List Pt) (m : Nat) (v : Value), pts.length ≤ N ∧ m ≤ 8 * l.length ∧ v23 = .int .i64 (pts.length : Int) ∧ v = v7 ∧ v6 = .int .i64 0 ∧ Aside0 (UInv w.heap.size p l pts m N v w wr)) (fun _ _ v _ => N - (intOf v).toNat)
    case atStart => exact ⟨[], 0 + 16, .slice none 0 0, by simp, h16, rfl, rfl, rfl, HI0⟩
    case round =>
      obtain ⟨pts, m, v, hpN, hm, rfl, rfl, rfl, HI⟩ := hrel
      obtain ⟨L, hL⟩ : ∃ L, L = pts.length := ⟨_, rfl⟩
      have HL := Aside0.mk hL
      rw [← hL] at hpN ⊢
      have hwz : w.heap.size ≤ wr.heap.size := HI.out.bel.size
      have hpw : w.heap.size ≤ p := hp
      have HS0 := Aside0.mk (RStep.start HI.out.is (Obj.cells #[.int .i64 0, .int .i64 0] 68))
      have hpz : p < wr.heap.size := HI.out.is.foot_lt (.inl rfl)
      clear hL
      by_cases hlt : L < N
      · by_cases h0 : L = 0
        · have d0 : ((L : Int) == 0) = true := by simp [h0]
          have HP := Aside0.mk (show pts = [] from List.eq_nil_of_length_eq_zero (by rw [← HL.out, h0]))
          clear h0
          go_wp2_with fail
          refine (first_calls p m l _ HS0.out.is (by omega) HB.out hm).mono ?_
          rintro e w2 ⟨a, b, c, rfl, ht, m', hm', hst⟩
          have HST := Aside0.mk hst
          have HM := Aside0.mk hm'
          have HTT := Aside0.mk ht
          have fr : w2.heap[wr.heap.size]? = some (.cells #[.int .i64 0, .int .i64 0] 68 (0, 0)) := hst.keep.blk (blk_new wr _) (by omega)
          have cr0 : w2.cell? ⟨wr.heap.size, 0, none⟩ = some (.int .i64 0) := blk_cell fr 0
          have cr1 : w2.cell? ⟨wr.heap.size, 1, none⟩ = some (.int .i64 0) := blk_cell fr 1
          have fr0 : w2.frozen? ⟨wr.heap.size, 0, none⟩ = false := blk_frozen fr 0
          have fr1 : w2.frozen? ⟨wr.heap.size, 1, none⟩ = false := blk_frozen fr 1
          clear hst hm' ht fr
          cases hf : ChunkMath.first (bs_ l m) with
          | error k =>
            have hk := (first_err hf).1
            have hcc : c = (k : Int) := by have h := HTT.out; rw [hf] at h; exact h
            have dne : ((k : Int) != 0) = true := by simp; exact hk
            have HG := Aside0.mk (show dec (unpack l) = .error k by rw [HI.out.eq, ← HL.out, HP.out, show N - L = (N - L - 1) + 1 by omega, cont_nil_err hf])
            subst hcc
            clear hf hk
            go_wp2
            go_ret2
            exact ⟨UnpR.err HG.out, (HI.out.three hwz hpw HST.out _ _).1⟩
          | ok r =>
            obtain ⟨q, s'⟩ := r
            have hcc : a = q.at_ ∧ b = q.v ∧ c = 0 := by have h := HTT.out; rw [hf] at h; exact h
            obtain ⟨rfl, rfl, rfl⟩ := hcc
            have HM2 := Aside0.mk (show bs_ l m' = s' from HM.out.2 _ _ hf)
            have hm'' := HM.out.1
            have HQ := Aside0.mk (show okPt q from (first_ok hf).2)
            have HCT := Aside0.mk (show cont pts (N - pts.length) (bs_ l m) = cont (pts ++ [q]) (N - (pts.length + 1)) (bs_ l m') by rw [HM2.out, ← HL.out, HP.out, show N - L = (N - L - 1) + 1 by omega, cont_nil_ok hf, List.nil_append, show N - L - 1 = N - (L + 1) by omega])
            have H3 := Aside0.mk (HI.out.three hwz hpw HST.out (.int .i64 q.at_) (.int .i64 q.v))
            have HRW := Aside0.mk (show ((w2.setCell ⟨wr.heap.size, 0, none⟩ (.int .i64 q.at_)).setCell ⟨wr.heap.size, 1, none⟩ (.int .i64 q.v)).ownsRow w.heap.size 68 2 v L (rowP pts) by rw [HL.out]; exact H3.out.2)
            have hsz3 : ((w2.setCell ⟨wr.heap.size, 0, none⟩ (.int .i64 q.at_)).setCell ⟨wr.heap.size, 1, none⟩ (.int .i64 q.v)).heap.size = w2.heap.size := by simp
            have hw2z : w.heap.size ≤ w2.heap.size := by have := H3.out.1.size; rw [hsz3] at this; exact this
            have q3 : L + 1 ≤ maxLen := by unfold maxLen; omega
            have q4 : (L + 1) * 16 ≤ 140737488355328 := by omega
            have Q6 := Aside0.mk (show w.heap.size ≤ (((w2.setCell ⟨wr.heap.size, 0, none⟩ (.int .i64 q.at_)).setCell ⟨wr.heap.size, 1, none⟩ (.int .i64 q.v)).alloc (Obj.cells #[.int .i64 q.at_, .int .i64 q.v] 68)).heap.size by simp; omega)
            have Q1 := World.news_of_block (cs := #[.int .i64 q.at_, .int .i64 q.v]) (blk_new ((w2.setCell ⟨wr.heap.size, 0, none⟩ (.int .i64 q.at_)).setCell ⟨wr.heap.size, 1, none⟩ (.int .i64 q.v)) (Obj.cells #[.int .i64 q.at_, .int .i64 q.v] 68))
            rw [hsz3] at Q1
            have Q1 := Aside0.mk Q1
            have Q2 := Aside0.mk (cells1 (xs := [.int .i64 q.at_, .int .i64 q.v]) (by simp [Value.oneCell']))
            have Q5 := Aside0.mk (show (((w2.setCell ⟨wr.heap.size, 0, none⟩ (.int .i64 q.at_)).setCell ⟨wr.heap.size, 1, none⟩ (.int .i64 q.v)).alloc (Obj.cells #[.int .i64 q.at_, .int .i64 q.v] 68)).heap.size = w2.heap.size + 1 by simp)
            clear hf hsz3
            go_wp2_with (at_builtin; refine wpList_append_lies _ rfl (.tmp 46) (.tmp 48) 52 rfl w.heap.size 68 i0 _ 2 16 Try.underlying52 hi hz0 hz1 hz2 rfl (by decide) v L (rowP pts) rfl (HRW.out.alloc _) ⟨w2.heap.size, 0, none⟩ 1 1 [.int .i64 q.at_, .int .i64 q.v] rfl rfl Q1.out Q2.out (by decide) q3 q4 Q6.out (w2.heap.size + 1) Q5.out ?_)
            intro g cap w4 hown' hgrow _ _
            have HNEW := Aside0.mk (HI.out.step (v' := .slice (some ⟨g, 0, none⟩) (L + 1) cap) hwz hpw HST.out (by rw [← HL.out]; exact hown') hgrow HQ.out HCT.out)
            clear hown' hgrow
            go_wp2
            go_roundw
            case rel => exact ⟨pts ++ [q], m', _, by rw [List.length_append, ← HL.out]; simp; omega, hm'', by rw [List.length_append, ← HL.out]; simp, rfl, rfl, HNEW⟩
            case measure => simp [intOf]; omega
        · have d0 : ((L : Int) == 0) = false := by simp; omega
          obtain ⟨g0, cap0, _, rfl, _⟩ := row_pos HI.out.row (by rw [← HL.out]; omega)
          rw [← HL.out]
          have hlast : pts[L - 1]? = some (pts[L - 1]'(by rw [← HL.out]; omega)) := List.getElem?_eq_getElem _
          obtain ⟨q0, hq0⟩ : ∃ q0, q0 = pts[L - 1]'(by rw [← HL.out]; omega) := ⟨_, rfl⟩
          rw [← hq0] at hlast
          have HLA := Aside0.mk (last_of HL.out (by omega) hlast)
          have HOK := Aside0.mk (HI.out.good q0 (List.mem_of_getElem? hlast))
          have hix : ((L : Int) - 1).toNat = L - 1 := by omega
          have ce0 : (wr.alloc (Obj.cells #[.int .i64 0, .int .i64 0] 68)).cell? ⟨g0, (L - 1) * 2, none⟩ = some (.int .i64 q0.at_) := by
            have h := World.ownsRow.cellAt (by have h := HI.out.row.alloc (Obj.cells #[.int .i64 0, .int .i64 0] 68); rw [← HL.out] at h; exact h) ((L - 1) * 2 + 0) (by omega)
            rw [rowP_get pts (L - 1) 0 _ hlast (by omega)] at h
            exact h
          have ce1 : (wr.alloc (Obj.cells #[.int .i64 0, .int .i64 0] 68)).cell? ⟨g0, (L - 1) * 2 + 1, none⟩ = some (.int .i64 q0.v) := by
            have h := World.ownsRow.cellAt (by have h := HI.out.row.alloc (Obj.cells #[.int .i64 0, .int .i64 0] 68); rw [← HL.out] at h; exact h) ((L - 1) * 2 + 1) (by omega)
            rw [rowP_get pts (L - 1) 1 _ hlast (by omega)] at h
            exact h
          have hl0 : (0 : Int) ≤ (L : Int) - 1 := by omega
          have hl1 : (L : Int) - 1 < (L : Int) := by omega
          have HHL := Aside0.mk hlast
          clear hlast hq0 h0
          go_wp2_with fail
          refine (next_calls p m q0.at_ q0.v l _ HS0.out.is (by omega) HB.out hm HOK.out.1 HOK.out.2.1 HOK.out.2.2).mono ?_
          rintro e w2 ⟨a, b, c, rfl, ht, m', hm', hst⟩
          have HST := Aside0.mk hst
          have HM := Aside0.mk hm'
          have HTT := Aside0.mk ht
          have fr : w2.heap[wr.heap.size]? = some (.cells #[.int .i64 0, .int .i64 0] 68 (0, 0)) := hst.keep.blk (blk_new wr _) (by omega)
          have cr0 : w2.cell? ⟨wr.heap.size, 0, none⟩ = some (.int .i64 0) := blk_cell fr 0
          have cr1 : w2.cell? ⟨wr.heap.size, 1, none⟩ = some (.int .i64 0) := blk_cell fr 1
          have fr0 : w2.frozen? ⟨wr.heap.size, 0, none⟩ = false := blk_frozen fr 0
          have fr1 : w2.frozen? ⟨wr.heap.size, 1, none⟩ = false := blk_frozen fr 1
          clear hst hm' ht fr ce0 ce1
          cases hf : ChunkMath.next ⟨q0.at_, q0.v⟩ (bs_ l m) with
          | error k =>
            have hk := (next_err hf).1
            have hcc : c = (k : Int) := by have h := HTT.out; rw [hf] at h; exact h
            have dne : ((k : Int) != 0) = true := by simp; exact hk
            have HG := Aside0.mk (show dec (unpack l) = .error k by rw [HI.out.eq, ← HL.out, show N - L = (N - L - 1) + 1 by omega, cont_err HLA.out hf])
            subst hcc
            clear hf hk
            go_wp2
            go_ret2
            exact ⟨UnpR.err HG.out, (HI.out.three hwz hpw HST.out _ _).1⟩
          | ok r =>
            obtain ⟨q, s'⟩ := r
            have hcc : a = q.at_ ∧ b = q.v ∧ c = 0 := by have h := HTT.out; rw [hf] at h; exact h
            obtain ⟨rfl, rfl, rfl⟩ := hcc
            have HM2 := Aside0.mk (show bs_ l m' = s' from HM.out.2 _ _ hf)
            have hm'' := HM.out.1
            have HQ := Aside0.mk (show okPt q from (next_ok HOK.out hf).2.1)
            have HCT := Aside0.mk (show cont pts (N - pts.length) (bs_ l m) = cont (pts ++ [q]) (N - (pts.length + 1)) (bs_ l m') by rw [HM2.out, ← HL.out, show N - L = (N - L - 1) + 1 by omega, cont_ok HLA.out hf, show N - L - 1 = N - (L + 1) by omega])
            have H3 := Aside0.mk (HI.out.three hwz hpw HST.out (.int .i64 q.at_) (.int .i64 q.v))
            have HRW := Aside0.mk (show ((w2.setCell ⟨wr.heap.size, 0, none⟩ (.int .i64 q.at_)).setCell ⟨wr.heap.size, 1, none⟩ (.int .i64 q.v)).ownsRow w.heap.size 68 2 (.slice (some ⟨g0, 0, none⟩) L cap0) L (rowP pts) by rw [HL.out]; exact H3.out.2)
            have hsz3 : ((w2.setCell ⟨wr.heap.size, 0, none⟩ (.int .i64 q.at_)).setCell ⟨wr.heap.size, 1, none⟩ (.int .i64 q.v)).heap.size = w2.heap.size := by simp
            have hw2z : w.heap.size ≤ w2.heap.size := by have := H3.out.1.size; rw [hsz3] at this; exact this
            have q3 : L + 1 ≤ maxLen := by unfold maxLen; omega
            have q4 : (L + 1) * 16 ≤ 140737488355328 := by omega
            have Q6 := Aside0.mk (show w.heap.size ≤ (((w2.setCell ⟨wr.heap.size, 0, none⟩ (.int .i64 q.at_)).setCell ⟨wr.heap.size, 1, none⟩ (.int .i64 q.v)).alloc (Obj.cells #[.int .i64 q.at_, .int .i64 q.v] 68)).heap.size by simp; omega)
            have Q1 := World.news_of_block (cs := #[.int .i64 q.at_, .int .i64 q.v]) (blk_new ((w2.setCell ⟨wr.heap.size, 0, none⟩ (.int .i64 q.at_)).setCell ⟨wr.heap.size, 1, none⟩ (.int .i64 q.v)) (Obj.cells #[.int .i64 q.at_, .int .i64 q.v] 68))
            rw [hsz3] at Q1
            have Q1 := Aside0.mk Q1
            have Q2 := Aside0.mk (cells1 (xs := [.int .i64 q.at_, .int .i64 q.v]) (by simp [Value.oneCell']))
            have Q5 := Aside0.mk (show (((w2.setCell ⟨wr.heap.size, 0, none⟩ (.int .i64 q.at_)).setCell ⟨wr.heap.size, 1, none⟩ (.int .i64 q.v)).alloc (Obj.cells #[.int .i64 q.at_, .int .i64 q.v] 68)).heap.size = w2.heap.size + 1 by simp)
            clear hf hsz3
            go_wp2_with (at_builtin; refine wpList_append_lies _ rfl (.tmp 46) (.tmp 48) 52 rfl w.heap.size 68 i0 _ 2 16 Try.underlying52 hi hz0 hz1 hz2 rfl (by decide) (.slice (some ⟨g0, 0, none⟩) L cap0) L (rowP pts) rfl (HRW.out.alloc _) ⟨w2.heap.size, 0, none⟩ 1 1 [.int .i64 q.at_, .int .i64 q.v] rfl rfl Q1.out Q2.out (by decide) q3 q4 Q6.out (w2.heap.size + 1) Q5.out ?_)
            intro g cap w4 hown' hgrow _ _
            have HNEW := Aside0.mk (HI.out.step (v' := .slice (some ⟨g, 0, none⟩) (L + 1) cap) hwz hpw HST.out (by rw [← HL.out]; exact hown') hgrow HQ.out HCT.out)
            clear hown' hgrow
            go_wp2
            go_roundw
            case rel => exact ⟨pts ++ [q], m', _, by rw [List.length_append, ← HL.out]; simp; omega, hm'', by rw [List.length_append, ← HL.out]; simp, rfl, rfl, HNEW⟩
            case measure => simp [intOf]; omega
      · have hdone := HI.out.eq
        rw [← HL.out, show N - L = 0 by omega, cont_done] at hdone
        simp only at hdone
        have HDN := Aside0.mk hdone
        have hcall := rest_calls p m l wr HI.out.is (by omega) HB.out hm
        clear hdone
        cases hr : rest (bs_ l m) with
        | true =>
          rw [restOf_yes hr] at hcall
          have HC2 := Lib.hid hcall
          have HG := Aside0.mk (show dec (unpack l) = .ok pts by rw [HDN.out, if_pos hr])
          clear hcall hr
          go_wp2_with fail
          refine HC2.out.mono ?_
          rintro e w3 ⟨rfl, k3, rfl⟩
          go_wp2
          go_ret2
          exact ⟨UnpR.ok HG.out HI.out.row, pw_below_drewN HI.out.bel _⟩
        | false =>
          rw [restOf_no hr] at hcall
          have HC2 := Lib.hid hcall
          have HG := Aside0.mk (show dec (unpack l) = .error 2 by rw [HDN.out, if_neg (by rw [hr]; simp)])
          clear hcall hr
          go_wp2_with fail
          refine HC2.out.mono ?_
          rintro e w3 ⟨rfl, k3, rfl⟩
          go_wp2
          go_ret2
          exact ⟨UnpR.err (c := 2) HG.out, pw_below_drewN HI.out.bel _⟩
end Go.Proofs.Ytfanomllfgoakaa
