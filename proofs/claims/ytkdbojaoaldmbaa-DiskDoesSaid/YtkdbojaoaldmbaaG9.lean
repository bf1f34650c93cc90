import Derived.Test.YtkdbojaoaldmbaaGB
import Derived.Test.YtkdbojaoaldmbaaDA
/- The disk by hand: Append. -/
namespace Go.Proofs.Ytkdbojaoaldmbaa.G
open Go.RowKit Go.Proofs.Ytkdbojaoaldmbaa.Q Go.Proofs.YtkdbojaoaldmbaaW.PrintWords Go.Proofs.YtkdbojaoaldmbaaW.PrintLast Go.Proofs.YtkdbojaoaldmbaaW.PrintMore
set_option linter.unusedVariables false
set_option linter.unusedSimpArgs false
def append.T8 : Bool × List (List Nat × List Nat) := (true, [([], []), ([0], [0]), ([], []), ([2], [2]), ([3], [3]), ([4], [4]), ([], []), ([6], [6]), ([7], [7]), ([8], [8]), ([5, 9], [5, 9]), ([1, 10], [1, 10])])
def append.B8 : List Nat := [0, 1, 0, 4, 12, 28, 0, 64, 192, 448, 1020, 2047]
theorem append.tab8 : rtab .any (opsOf Try.f20 8) = append.T8 := by kernel_rfl
theorem append.bits8 : waitsOk append.T8.2 append.B8 = true := by kernel_rfl
def append.T13 : Bool × List (List Nat × List Nat) := (true, [([], []), ([], []), ([1], [1]), ([2], [2]), ([3], [3]), ([], []), ([5], [5]), ([6], [6]), ([7], [7]), ([8], [8]), ([], []), ([10], [10]), ([11], [11]), ([12], [12]), ([13], [13]), ([4, 9, 14], [4, 9, 14]), ([], []), ([15, 16], [15, 16]), ([0, 0, 1, 2, 3, 4, 5, 6, 7, 8, 9, 10, 11, 12, 13, 14, 15, 16, 17], [0]), ([18, 0, 1, 2, 3, 4, 5, 6, 7, 8, 9, 10, 11, 12, 13, 14, 15, 16, 17], [18]), ([19, 17, 17, 0, 1, 2, 3, 4, 5, 6, 7, 8, 9, 10, 11, 12, 13, 14, 15, 16, 17], [17, 19])])
def append.B13 : List Nat := [0, 0, 2, 6, 14, 0, 32, 96, 224, 480, 0, 1024, 3072, 7168, 15360, 32766, 0, 131070, 262143, 524287, 1048575]
theorem append.tab13 : rtab .any (opsOf Try.f20 13) = append.T13 := by kernel_rfl
theorem append.bits13 : waitsOk append.T13.2 append.B13 = true := by kernel_rfl

open Go.Proofs.Ytkdbojaoaldmbaa.D (u8s u8s_len inner_u8 append_step wpList_mapUpdate_run map_len)
theorem C_of_cells {w : World} {g : Nat} {cur : Array Value} {fz : Nat × Nat} {xs : List Int} (hb : w.heap[g]? = some (Obj.cells cur 5 fz)) (ht : cur.toList.take xs.length = u8s xs) (hl : xs.length ≤ 140737488355328) : (Kd.int .u8).C w (some ⟨g, 0, none⟩) xs.length xs := by
  refine ⟨rfl, Nat.le_trans hl (by decide), fun h0 => ?_⟩
  refine ⟨_, rfl, fun j p hj => ⟨[.int .u8 p], rfl, rfl, fun i u hi => ?_⟩⟩
  have hi0 : i = 0 := by
    cases i with
    | zero => rfl
    | succ i => simp at hi
  subst hi0
  have hu : Value.int .u8 p = u := by simpa using hi
  subst hu
  have hjl : j < xs.length := by
    rcases Nat.lt_or_ge j xs.length with h | h
    · exact h
    · rw [List.getElem?_eq_none h] at hj; cases hj
  have hc : cur.toList[j]? = some (.int .u8 p) := by
    have : (cur.toList.take xs.length)[j]? = some (.int .u8 p) := by rw [ht]; simp [u8s, hj]
    rwa [List.getElem?_take, if_pos hjl] at this
  have hcell : w.cell? ⟨g, j, none⟩ = some (.int .u8 p) := by
    simp only [World.cell?, hb]
    simpa using hc
  rw [show j * (Kd.int IntKind.u8).sz + 0 = j from Nat.mul_one j]
  cases j with
  | zero => simpa [Addr.add] using hcell
  | succ j => simpa [Addr.add] using hcell
/-- Bytes put behind a row that has no room behind it. -/
theorem app2 (W : World) (A : Option Addr) (ys : List Int) (hy : (Kd.int .u8).C W A ys.length ys) (A' : Option Addr) (c' : Nat) (xs : List Int) (hx : (Kd.int .u8).C W A' xs.length xs) (hs : ys.length + xs.length ≤ 1073741824) (hA : A = none → ys = []) (ty : TypeId) :
    ∃ A1 c1 w1, (Builtin.append_ #[29, 29] ty #[.slice A ys.length ys.length, .slice A' xs.length c']).run Try.prog W = .ok (.slice A1 (ys ++ xs).length c1) w1 ∧ (Kd.int .u8).C w1 A1 (ys ++ xs).length (ys ++ xs) ∧ (ys ++ xs).length ≤ c1 ∧ Chg (fun _ => False) W w1 ∧
      (A1 = A ∨ ∃ g cs fz, A1 = some ⟨g, 0, none⟩ ∧ W.heap.size ≤ g ∧ w1.heap[g]? = some (.cells cs 5 fz)) := by
  obtain ⟨i0, hi, hzz⟩ := Option.map_eq_some_iff.1 info5
  simp only [Prod.mk.injEq] at hzz
  obtain ⟨hz0, hz1, hz2⟩ := hzz
  rcases Nat.eq_zero_or_pos xs.length with hm | hm
  · obtain rfl : xs = [] := List.eq_nil_of_length_eq_zero hm
    refine ⟨A, ys.length, W, ?_, by simpa using hy, by simp, Chg.refl _ _, .inl rfl⟩
    cases A' <;> cases A <;> simp [Builtin.append_, run_underlying Try.underlying29, sizeOf, typeInfo, hi, Builtin.lenOf, Builtin.firstCells, storeCells, loadCells, loadCellsFrom, Result.andThen]
  obtain ⟨ad, rfl, hc⟩ := inner_u8 hx hm
  have fin : ∀ v1 w1, w1.ownsRow W.heap.size 5 1 v1 (ys.length + xs.length) (u8s ys ++ u8s xs) → W.grownBy w1 none → ∃ A1 c1, v1 = .slice A1 (ys ++ xs).length c1 ∧ (Kd.int .u8).C w1 A1 (ys ++ xs).length (ys ++ xs) ∧ (ys ++ xs).length ≤ c1 ∧ Chg (fun _ => False) W w1 ∧
      (A1 = A ∨ ∃ g cs fz, A1 = some ⟨g, 0, none⟩ ∧ W.heap.size ≤ g ∧ w1.heap[g]? = some (.cells cs 5 fz)) := by
    intro v1 w1 ho hg
    rcases ho.2 with ⟨_, h0⟩ | ⟨g, cap, cur, rfl, hgb, hb, hnc, hcm, hsz, ht⟩
    · omega
    · rw [Nat.mul_one] at ht
      refine ⟨_, cap, by rw [List.length_append], C_of_cells hb (by rw [List.length_append, ht]; simp [u8s]) (by rw [List.length_append]; omega), by rw [List.length_append]; exact hnc, ⟨hg.os, hg.tape, hg.output, hg.size, fun k hk _ => hg.block k hk (by simp)⟩, .inr ⟨g, _, _, rfl, hgb, hb⟩⟩
  cases A with
  | none =>
    obtain rfl := hA rfl
    obtain ⟨v1, w1, hrun, h2, hg, _, _⟩ := run_append_own_at (P := Try.prog) W W.heap.size 29 ty 5 i0 (.int .u8 0) 1 1 Try.underlying29 hi hz0 hz1 hz2 rfl (by decide) (.slice none 0 0) 0 [] ⟨rfl, .inl ⟨rfl, rfl⟩⟩ ad xs.length c' (u8s xs) (by rw [u8s_len, Nat.mul_one]) hc (by intro u hu; simp only [u8s, List.mem_map] at hu; obtain ⟨_, _, rfl⟩ := hu; rfl) (by simp only [maxLen]; omega) (by omega) (Nat.le_refl _)
    obtain ⟨A1, c1, rfl, h3⟩ := fin v1 w1 (by simpa [u8s] using h2) hg
    exact ⟨A1, c1, w1, hrun, h3⟩
  | some g =>
    have hcy : ∀ j u, (u8s ys)[j]? = some u → W.cell? (g.add j) = some u := fun j u hj => by
      rcases Nat.eq_zero_or_pos ys.length with h0 | h0
      · rw [List.getElem?_eq_none (by rw [u8s_len]; omega)] at hj; cases hj
      · obtain ⟨ad2, e2, h2⟩ := inner_u8 hy h0
        cases e2
        exact h2 j u hj
    obtain ⟨v1, w1, hrun, h2, hg⟩ := run_append_arg_grows (P := Try.prog) W 29 ty 5 i0 (.int .u8 0) 1 1 Try.underlying29 hi hz0 hz1 hz2 rfl (by decide) g ys.length ys.length (u8s ys) (by rw [u8s_len, Nat.mul_one]) hcy ad xs.length c' (u8s xs) (by rw [u8s_len, Nat.mul_one]) hc (by omega) (by simp only [maxLen]; omega) (by omega)
    obtain ⟨A1, c1, rfl, h3⟩ := fin v1 w1 h2 hg
    exact ⟨A1, c1, w1, hrun, h3⟩
section
variable {w w' w9 : World} {D M B : Nat} {room : Int} {dat dat' : Nat → Prop} {fs : ByteArray → Option Raw} {st st' : St}
theorem left_put (h : DiskG w D M room B dat fs st) (r : Raw) (f' : FS) (hn : f'.n.size ≤ 32)
    (hD : w'.heap[D]? = some (.cells #[.map (some M), .int .i64 room, .int .i64 (total (put st f'))] 57 (0, 0)))
    (hM : MapF w' M (fun t => if t = f'.n then some (.pointer (some ⟨r.F, 0, none⟩)) else (fs t).map (fun r => .pointer (some ⟨r.F, 0, none⟩))))
    (hF : FileG w' B dat' r f') (hne : ∀ t q, t ≠ f'.n → fs t = some q → q.F ≠ r.F ∧ w'.heap[q.F]? = w.heap[q.F]?)
    (hFf : (∃ q, fs f'.n = some q ∧ q.F = r.F) ∨ w.heap.size ≤ r.F) (hd : ∀ k, dat k → dat' k ∧ w'.heap[k]? = w.heap[k]?) (hd' : ∀ k, dat' k → dat k ∨ w.heap.size ≤ k) (h5 : ∀ k, dat' k → ∃ cs fz, w'.heap[k]? = some (.cells cs 5 fz))
    (hc : Chg (fun k => k = D ∨ k = M ∨ k = r.F) w w') (hfit : (total (put st f') : Int) ≤ room) (hfew : (put st f').length ≤ 64) : Left w D M room B dat fs (put st f') w' := by
  refine ⟨dat', fun t => if t = f'.n then some r else fs t, ⟨hD, ⟨h.files.toFilesR.upd r f' hn hF (fun t q ht hq => ⟨(hne t q ht hq).2, (hne t q ht hq).1⟩) hd h5, ?_, h.files.baseM⟩, h.baseD, h.room0, h.room1, hfit, hfew⟩, hc.mono (fun k hk e => ?_), hd', fun k hk => (hd k hk).1, fun t q hq => ?_⟩
  · have hG : (fun t => ((fun t => if t = f'.n then some r else fs t) t).map (fun r => Value.pointer (some ⟨r.F, 0, none⟩))) = (fun t => if t = f'.n then some (.pointer (some ⟨r.F, 0, none⟩)) else (fs t).map (fun r => Value.pointer (some ⟨r.F, 0, none⟩))) := by
      funext t
      dsimp only
      by_cases ht : t = f'.n
      · rw [if_pos ht, if_pos ht]; rfl
      · rw [if_neg ht, if_neg ht]
    rw [hG]
    exact hM
  · rcases e with e | e | e
    · exact .inl e
    · exact .inr (.inl e)
    · rcases hFf with ⟨q, h1, h2⟩ | h1
      · exact .inr (.inr ⟨_, q, h1, by rw [e, h2]⟩)
      · omega
  · dsimp only at hq
    by_cases ht : t = f'.n
    · rw [if_pos ht] at hq
      cases hq
      exact hFf.imp (fun ⟨q, h1, h2⟩ => ⟨_, q, h1, h2⟩) id
    · rw [if_neg ht] at hq
      exact .inl ⟨t, q, hq, rfl⟩
/-- How many files the map has. -/
theorem FilesG.count (h : FilesG w M B dat fs st) : (Builtin.len_ #[55] 3 #[.map (some M)]).run Try.prog w = .ok (.int .i64 st.length) w := by
  obtain ⟨ma, clk, h1, h2⟩ := h.map.entries
  refine map_len h1 ?_
  have hs := h.sorted
  have := h2 (st.map (·.n)) ?_ (fun s => ?_)
  · simpa using this
  · exact List.pairwise_map.2 (hs.imp (fun {a b} hab e => hab.ne e))
  · have hn := h.none_ s
    cases hq : fs s with
    | none =>
      have hl := hn.1 hq
      simp only [Option.map_none, ne_eq, not_true_eq_false, iff_false, List.mem_map, not_exists, not_and]
      exact fun f hf => look_none.1 hl f hf
    | some r =>
      simp only [Option.map_some, ne_eq, reduceCtorEq, not_false_eq_true, iff_true, List.mem_map]
      cases hl : G.look st s with
      | none => rw [hn.2 hl] at hq; cases hq
      | some f => exact ⟨f, look_mem hl⟩
/-- Bytes put behind a file's; the file may be new. -/
def oldB (st : St) (s : ByteArray) : List Int := match look st s with | some f => f.b | none => []
def oldL (st : St) (s : ByteArray) : Int := match look st s with | some f => f.l | none => 0
def appS (st : St) (s : ByteArray) (x : List Int) : St := put st ⟨s, oldB st s ++ x, oldL st s⟩
def appendE (room : Int) (st : St) (s : ByteArray) (x : List Int) : Int := if titleB s = true then (if look st s = none ∧ 64 ≤ st.length then 3 else if (x.length : Int) > room - total st then 5 else 0) else 110
def appendS (room : Int) (st : St) (s : ByteArray) (x : List Int) : St := if titleB s = true then (if look st s = none ∧ 64 ≤ st.length then st else if (x.length : Int) > room - total st then st else appS st s x) else st
theorem app_total (hs : Sorted st) (s : ByteArray) (x : List Int) : total (appS st s x) = total st + x.length ∧ (look st s = none → (appS st s x).length = st.length + 1) ∧ (look st s ≠ none → (appS st s x).length = st.length) := by
  have h1 := total_put ⟨s, oldB st s ++ x, oldL st s⟩ hs
  dsimp only at h1
  unfold appS
  unfold oldB oldL at *
  cases hl : G.look st s with
  | none =>
    rw [hl] at h1
    dsimp only at h1 ⊢
    rw [if_pos rfl] at h1
    simp at h1 ⊢
    exact ⟨by omega, h1.2⟩
  | some f =>
    rw [hl] at h1
    dsimp only at h1 ⊢
    rw [if_neg (by simp), List.length_append] at h1
    refine ⟨by omega, fun h => (by cases h), fun _ => by omega⟩
/-- What stands when the bytes are to be put behind a file's. -/
structure AppPre (w w2 : World) (D M : Nat) (room : Int) (B : Nat) (dat : Nat → Prop) (fs : ByteArray → Option Raw) (st : St) (s : ByteArray) (F : Nat) (A0 : Option Addr) (cc : Nat) : Prop where
  b1 : w2.heap[F]? = some (.cells #[.slice A0 (oldB st s).length cc, .int .i64 (oldL st s)] 68 (0, 0))
  b2 : (Kd.int .u8).C w2 A0 (oldB st s).length (oldB st s)
  b3 : (oldB st s).length ≤ cc
  b4 : A0 = none → oldB st s = []
  b5 : ∀ ad, A0 = some ad → dat ad.block ∧ B ≤ ad.block ∧ ∃ cs fz, w2.heap[ad.block]? = some (.cells cs 5 fz)
  b6 : B ≤ F ∧ 0 ≤ oldL st s ∧ oldL st s ≤ ((oldB st s).length : Int)
  b7 : w2.heap[D]? = some (.cells #[.map (some M), .int .i64 room, .int .i64 (total st)] 57 (0, 0))
  b8 : MapF w2 M (fun t => if t = s then some (.pointer (some ⟨F, 0, none⟩)) else (fs t).map (fun r => .pointer (some ⟨r.F, 0, none⟩)))
  b9 : ∀ t q, t ≠ s → fs t = some q → q.F ≠ F ∧ w2.heap[q.F]? = w.heap[q.F]?
  b10 : (∃ q, fs s = some q ∧ q.F = F) ∨ w.heap.size ≤ F
  b11 : ∀ k, dat k → w2.heap[k]? = w.heap[k]?
  b12 : Chg (fun k => k = D ∨ k = M ∨ k = F) w w2
  b13 : look st s = none → st.length < 64
  b14 : F ≠ D ∧ F ≠ M
theorem AppPre.done {w2 : World} {s : ByteArray} {F : Nat} {A0 : Option Addr} {cc : Nat} (h : DiskG w D M room B dat fs st) (p : AppPre w w2 D M room B dat fs st s F A0 cc) (x : List Int) (w3 : World) (A1 : Option Addr) (c1 : Nat)
    (hC : (Kd.int .u8).C w3 A1 (oldB st s ++ x).length (oldB st s ++ x)) (hcap : (oldB st s ++ x).length ≤ c1) (hch : Chg (fun _ => False) w2 w3)
    (hA1 : A1 = A0 ∨ ∃ g cs fz, A1 = some ⟨g, 0, none⟩ ∧ w2.heap.size ≤ g ∧ w3.heap[g]? = some (.cells cs 5 fz)) (hfull : (total st : Int) + x.length ≤ room) (hs : s.size ≤ 32) (hB : B ≤ w.heap.size) :
    Left w D M room B dat fs (appS st s x) ((w3.setCell ⟨F, 0, none⟩ (.slice A1 (oldB st s ++ x).length c1)).setCell ⟨D, 2, none⟩ (.int .i64 (total (appS st s x) : Nat))) := by
  generalize hwd : (w3.setCell ⟨F, 0, none⟩ (.slice A1 (oldB st s ++ x).length c1)).setCell ⟨D, 2, none⟩ (.int .i64 (total (appS st s x) : Nat)) = wd
  have hFD := p.b14.1
  have hDl := heap_lt p.b7
  have hFl := heap_lt p.b1
  have hDM := h.DM
  have e1 : ∀ k, k ≠ D → k ≠ F → wd.heap[k]? = w3.heap[k]? := fun k h1 h2 => by rw [← hwd, Below.heap_setCell _ _ _ k h1, Below.heap_setCell _ _ _ k h2]
  have e2 : ∀ k, k < w2.heap.size → k ≠ D → k ≠ F → wd.heap[k]? = w2.heap[k]? := fun k h0 h1 h2 => (e1 k h1 h2).trans (hch.block k h0 id)
  have hF3 : w3.heap[F]? = some (.cells #[.slice A0 (oldB st s).length cc, .int .i64 (oldL st s)] 68 (0, 0)) := (hch.block F hFl id).trans p.b1
  have hD3 : w3.heap[D]? = some (.cells #[.map (some M), .int .i64 room, .int .i64 (total st)] 57 (0, 0)) := (hch.block D hDl id).trans p.b7
  have hFd : wd.heap[F]? = some (.cells #[.slice A1 (oldB st s ++ x).length c1, .int .i64 (oldL st s)] 68 (0, 0)) := by
    rw [← hwd, Below.heap_setCell _ _ _ F hFD]
    exact blk_put hF3 0 (.slice A1 (oldB st s ++ x).length c1) rfl
  have hDd : wd.heap[D]? = some (.cells #[.map (some M), .int .i64 room, .int .i64 (total (appS st s x) : Nat)] 57 (0, 0)) := by
    rw [← hwd]
    exact blk_put ((Below.heap_setCell _ _ _ D (fun e => hFD e.symm)).trans hD3) 2 (.int .i64 (total (appS st s x) : Nat)) rfl
  have hsz : w3.heap.size = wd.heap.size := by rw [← hwd]; simp
  have hz23 := hch.size
  have hz02 := p.b12.size
  obtain ⟨t1, t2, t3⟩ := app_total h.files.sorted s x
  have hdne : ∀ k, dat k → k < w2.heap.size ∧ k ≠ D ∧ k ≠ F := fun k hk => by
    obtain ⟨cs, fz, e⟩ := h.files.rows5 k hk
    have e' := (p.b11 k hk).trans e
    refine ⟨heap_lt e', fun e2 => ?_, fun e2 => ?_⟩
    · rw [e2, p.b7] at e'; injection e' with e'; injection e' with _ e'; cases e'
    · rw [e2, p.b1] at e'; injection e' with e'; injection e' with _ e'; cases e'
  have hdat : ∀ k, dat k → wd.heap[k]? = w2.heap[k]? := fun k hk => e2 k (hdne k hk).1 (hdne k hk).2.1 (hdne k hk).2.2
  have hA3 : ∀ ad, A1 = some ad → (dat ad.block ∨ (w2.heap.size ≤ ad.block)) ∧ B ≤ ad.block ∧ wd.heap[ad.block]? = w3.heap[ad.block]? ∧ ∃ cs fz, w3.heap[ad.block]? = some (.cells cs 5 fz) := fun ad e => by
    rcases hA1 with h1 | ⟨g, cs, fz, h1, h2, h3⟩
    · obtain ⟨g1, g2, cs, fz, g3⟩ := p.b5 ad (by rw [← h1]; exact e)
      obtain ⟨k1, k2, k3⟩ := hdne _ g1
      exact ⟨.inl g1, g2, e1 _ k2 k3, cs, fz, (hch.block _ k1 id).trans g3⟩
    · rw [e] at h1
      injection h1 with h1
      subst h1
      exact ⟨.inr h2, show B ≤ g by omega, e1 g (fun e => by omega) (fun e => by omega), cs, fz, h3⟩
  have hst : (put st ⟨s, oldB st s ++ x, oldL st s⟩) = appS st s x := rfl
  rw [← hst]
  refine left_put (dat' := fun k => dat k ∨ (w2.heap.size ≤ k ∧ ∃ ad, A1 = some ad ∧ k = ad.block)) h ⟨F, A1, c1⟩ ⟨s, oldB st s ++ x, oldL st s⟩ hs hDd (p.b8.move (e2 M p.b8.lt (fun e => hDM e.symm) (fun e => p.b14.2 e.symm))) ⟨hFd, row_move hC (fun ad e => (hA3 ad e).2.2.1), hcap, fun ad e => ?_, p.b6.1, p.b6.2.1, ?_⟩ (fun t q ht hq => ⟨(p.b9 t q ht hq).1, ?_⟩) p.b10 (fun k hk => ⟨.inl hk, (hdat k hk).trans (p.b11 k hk)⟩) (fun k hk => hk.elim .inl (fun e => .inr (by omega))) (fun k hk => ?_) ⟨?_, ?_, ?_, by omega, fun k hk hn => ?_⟩ ?_ ?_
  · obtain ⟨g1, g2, g3, cs, fz, g4⟩ := hA3 ad e
    exact ⟨g1.elim .inl (fun g => .inr ⟨g, ad, e, rfl⟩), g2, cs, fz, g3.trans g4⟩
  · show oldL st s ≤ ((oldB st s ++ x).length : Int)
    rw [List.length_append]
    have := p.b6.2.2
    omega
  · have hq' := p.b9 t q ht hq
    have hn := h.notD hq
    exact (e2 _ (Nat.lt_of_lt_of_le (h.files.lt hq) hz02) hn.1 hq'.1).trans hq'.2
  · rcases hk with hk | ⟨hk, ad, e, rfl⟩
    · obtain ⟨cs, fz, e⟩ := h.files.rows5 k hk
      exact ⟨cs, fz, (hdat k hk).trans ((p.b11 k hk).trans e)⟩
    · obtain ⟨g1, g2, g3, cs, fz, g4⟩ := hA3 ad e
      exact ⟨cs, fz, g3.trans g4⟩
  · rw [← hwd]; exact hch.os.trans p.b12.os
  · rw [← hwd]; exact hch.tape.trans p.b12.tape
  · rw [← hwd]; exact hch.output.trans p.b12.output
  · exact (e2 k (by omega) (fun e => hn (.inl e)) (fun e => hn (.inr (.inr e)))).trans (p.b12.block k hk hn)
  · rw [hst]; omega
  · rw [hst]
    have := h.few
    cases hl : look st s with
    | none => have := t2 hl; have := p.b13 hl; omega
    | some f => have := t3 (by rw [hl]; simp); omega
set_option maxHeartbeats 2000000 in
set_option maxRecDepth 100000 in
theorem append_calls (h : DiskG w D M room B dat fs st) (s : ByteArray) (hsz : s.size ≤ 9223372036854775807) (A : Option Addr) (c : Nat) (x : List Int) (hx : (Kd.int .u8).C w A x.length x) (hA : ∀ ad, A = some ad → ∃ cs fz, w.heap[ad.block]? = some (.cells cs 5 fz)) :
    Calls Try.prog 20 #[.pointer (some ⟨D, 0, none⟩), .string s, .slice A x.length c] w fun e w' => e = .returned (.int .i64 (appendE room st s x)) ∧ Left w D M room B dat fs (appendS room st s x) w' := by
  have HD := Aside0.mk h
  have c0 := h.cell.1
  clear h
  by_cases ht : titleB s = true
  case neg =>
    have e1 : appendE room st s x = 110 := by unfold appendE; exact if_neg ht
    have e2 : appendS room st s x = st := by unfold appendS; exact if_neg ht
    have ht' : titleB s = false := by simpa using ht
    rw [e1, e2]
    clear e1 e2 ht
    go_enter Try.func20, Try.ntmps20
    go_wp2_with (first
      | (go_at_call 30; (with_reducible refine (ok_calls D M _ c0).mono ?_); rintro e w' ⟨rfl, rfl⟩)
      | (go_at_call 34; (with_reducible refine (title_calls s hsz _).mono ?_); rintro e w9 ⟨rfl, hw9⟩; rw [ht']; have HB := Aside0.mk (drawn_below hw9); clear hw9))
    go_ret
    exact ⟨rfl, left_same HD.out HB.out⟩
  case pos =>
  rcases HD.out.files.at_ s with ⟨k1, k2⟩ | ⟨r, f, k1, k2, kf⟩
  · by_cases hfew : (64 : Int) ≤ (st.length : Int)
    case pos =>
      have e1 : appendE room st s x = 3 := by unfold appendE; exact (if_pos ht).trans (if_pos ⟨k2, by omega⟩)
      have e2 : appendS room st s x = st := by unfold appendS; exact (if_pos ht).trans (if_pos ⟨k2, by omega⟩)
      rw [e1, e2]
      clear e1 e2
      have HK := Aside0.mk (And.intro k1 k2)
      clear k1 k2
      go_enter Try.func20, Try.ntmps20
      go_wp2_with (first
        | (go_at_call 30; (with_reducible refine (ok_calls D M _ c0).mono ?_); rintro e w8 ⟨rfl, h8⟩; subst w8)
        | (go_at_call 34; (with_reducible refine (title_calls s hsz _).mono ?_); rintro e w9 ⟨rfl, hw9⟩; rw [ht]; have HB := Aside0.mk (drawn_below hw9); clear hw9; have HD9 := Aside0.mk (HD.out.below HB.out); have hc9 := HD9.out.cell.1; have hlk := FilesG.look HD9.out.files s; rw [HK.out.1] at hlk; have hln := HD9.out.files.count))
      go_ret
      exact ⟨rfl, left_same HD.out HB.out⟩
    case neg =>
    have hfew' : ¬ ((st.length : Int) ≥ 64) := hfew
    by_cases hfull : (x.length : Int) > room - total st
    case pos =>
      have e1 : appendE room st s x = 5 := by unfold appendE; exact (if_pos ht).trans ((if_neg (fun e => hfew (by omega))).trans (if_pos hfull))
      have e2 : appendS room st s x = st := by unfold appendS; exact (if_pos ht).trans ((if_neg (fun e => hfew (by omega))).trans (if_pos hfull))
      rw [e1, e2]
      clear e1 e2
      have HK := Aside0.mk (And.intro k1 k2)
      clear k1 k2
      have hwr : wrap64 (room - (total st : Int)) = room - total st := by have := HD.out.room1; have := HD.out.fit; have := HD.out.room0; exact wrap_id (by omega) (by omega)
      go_enter Try.func20, Try.ntmps20
      go_wp2_with (first
        | (go_at_call 30; (with_reducible refine (ok_calls D M _ c0).mono ?_); rintro e w8 ⟨rfl, h8⟩; subst w8)
        | (go_at_call 34; (with_reducible refine (title_calls s hsz _).mono ?_); rintro e w9 ⟨rfl, hw9⟩; rw [ht]; have HB := Aside0.mk (drawn_below hw9); clear hw9; have HD9 := Aside0.mk (HD.out.below HB.out); have hc9 := HD9.out.cell.1; have hlk := FilesG.look HD9.out.files s; rw [HK.out.1] at hlk; have hln := HD9.out.files.count))
      refine start_ (n := 12) (S := fun w' => w'.cell? ⟨D, 1, none⟩ = some (.int .i64 room) ∧ w'.cell? ⟨D, 2, none⟩ = some (.int .i64 (total st))) (ds := []) #[false, false, false, false, false, false, false, false, false, false, false, false] (by kernel_rfl) rfl rfl ⟨HD9.out.cell.2.1, HD9.out.cell.2.2.1⟩ (fun hHeld => ?_); refine with_tabW append.tab8 append.bits8 (fun HT_ HW_ => ?_)
      refine pure_ (i := 0) (N := some 30) (v := ?_) (a' := ?_) #[true, false, false, false, false, false, false, false, false, false, false, false] rfl rfl (any_of HT_.out (by kernel_rfl)) (fun _ _ _ h => h) (Or.inl ⟨by rfl, ?_⟩) ?_ ?_
      rotate_left
      · intro w'
        go_simp
        with_reducible rfl
      rotate_left
      · simp only [Act.put, List.setIfInBounds_toArray, List.set_cons_zero, List.set_cons_succ, i64_w, i32_w, xu32_w, xu8_w]
        rfl
      refine pure_ (i := 1) (N := some 31) (v := ?_) (a' := ?_) #[true, true, false, false, false, false, false, false, false, false, false, false] rfl rfl (any_of HT_.out (by kernel_rfl)) (fun _ _ _ h => h) (Or.inl ⟨by rfl, ?_⟩) ?_ ?_
      rotate_left
      · intro w'
        go_simp
        with_reducible rfl
      rotate_left
      · simp only [Act.put, List.setIfInBounds_toArray, List.set_cons_zero, List.set_cons_succ, i64_w, i32_w, xu32_w, xu8_w]
        rfl
      refine pure_ (i := 2) (N := some 32) (v := ?_) (a' := ?_) #[true, true, true, false, false, false, false, false, false, false, false, false] rfl rfl (any_of HT_.out (by kernel_rfl)) (fun _ _ _ h => h) (Or.inl ⟨by rfl, ?_⟩) ?_ ?_
      rotate_left
      · intro w'
        go_simp
        with_reducible rfl
      rotate_left
      · simp only [Act.put, List.setIfInBounds_toArray, List.set_cons_zero, List.set_cons_succ, i64_w, i32_w, xu32_w, xu8_w]
        rfl
      refine pure_ (i := 3) (N := some 33) (v := ?_) (a' := ?_) #[true, true, true, true, false, false, false, false, false, false, false, false] rfl rfl (any_of HT_.out (by kernel_rfl)) (fun _ _ _ h => h) (Or.inl ⟨by rfl, ?_⟩) ?_ ?_
      rotate_left
      · intro w'
        go_simp
        with_reducible rfl
      rotate_left
      · simp only [Act.put, List.setIfInBounds_toArray, List.set_cons_zero, List.set_cons_succ, i64_w, i32_w, xu32_w, xu8_w]
        rfl
      refine pure_ (i := 4) (N := some 34) (v := ?_) (a' := ?_) #[true, true, true, true, true, false, false, false, false, false, false, false] rfl rfl (any_of HT_.out (by kernel_rfl)) (fun _ _ _ h => h) (Or.inl ⟨by rfl, ?_⟩) ?_ ?_
      rotate_left
      · intro w'
        go_simp
        with_reducible rfl
      rotate_left
      · simp only [Act.put, List.setIfInBounds_toArray, List.set_cons_zero, List.set_cons_succ, i64_w, i32_w, xu32_w, xu8_w]
        rfl
      refine pure_ (i := 6) (N := some 36) (v := ?_) (a' := ?_) #[true, true, true, true, true, false, true, false, false, false, false, false] rfl rfl (any_of HT_.out (by kernel_rfl)) (fun _ _ _ h => h) (Or.inl ⟨by rfl, ?_⟩) ?_ ?_
      rotate_left
      · intro w'
        go_simp
        with_reducible rfl
      rotate_left
      · simp only [Act.put, List.setIfInBounds_toArray, List.set_cons_zero, List.set_cons_succ, i64_w, i32_w, xu32_w, xu8_w]
        rfl
      refine pure_ (i := 7) (N := some 37) (v := ?_) (a' := ?_) #[true, true, true, true, true, false, true, true, false, false, false, false] rfl rfl (any_of HT_.out (by kernel_rfl)) (fun _ _ _ h => h) (Or.inl ⟨by rfl, ?_⟩) ?_ ?_
      rotate_left
      · intro w'
        go_simp
        with_reducible rfl
      rotate_left
      · simp only [Act.put, List.setIfInBounds_toArray, List.set_cons_zero, List.set_cons_succ, i64_w, i32_w, xu32_w, xu8_w]
        rfl
      refine pure_ (i := 8) (N := some 38) (v := ?_) (a' := ?_) #[true, true, true, true, true, false, true, true, true, false, false, false] rfl rfl (any_of HT_.out (by kernel_rfl)) (fun _ _ _ h => h) (Or.inl ⟨by rfl, ?_⟩) ?_ ?_
      rotate_left
      · intro w'
        go_simp
        with_reducible rfl
      rotate_left
      · simp only [Act.put, List.setIfInBounds_toArray, List.set_cons_zero, List.set_cons_succ, i64_w, i32_w, xu32_w, xu8_w]
        rfl
      refine take_ (i := 5) (N := some 35) (v := ?_) (a' := ?_) #[true, true, true, true, true, true, true, true, true, false, false, false] rfl rfl (take_ofW HT_.out HW_.out (by kernel_rfl)) (fun _ _ _ h => h) (Or.inl ⟨by rfl, ?_⟩) hHeld ?_ ?_
      rotate_left
      · rintro w' ⟨s0, s1⟩
        go_simp
        with_reducible rfl
      rotate_left
      · simp only [Act.put, List.setIfInBounds_toArray, List.set_cons_zero, List.set_cons_succ, i64_w, i32_w, xu32_w, xu8_w]
        rfl
      refine take_ (i := 9) (N := some 39) (v := ?_) (a' := ?_) #[true, true, true, true, true, true, true, true, true, true, false, false] rfl rfl (take_ofW HT_.out HW_.out (by kernel_rfl)) (fun _ _ _ h => h) (Or.inl ⟨by rfl, ?_⟩) hHeld ?_ ?_
      rotate_left
      · rintro w' ⟨s0, s1⟩
        go_simp
        with_reducible rfl
      rotate_left
      · simp only [Act.put, List.setIfInBounds_toArray, List.set_cons_zero, List.set_cons_succ, i64_w, i32_w, xu32_w, xu8_w]
        rfl
      refine pure_ (i := 10) (N := some 40) (v := ?_) (a' := ?_) #[true, true, true, true, true, true, true, true, true, true, true, false] rfl rfl (any_of HT_.out (by kernel_rfl)) (fun _ _ _ h => h) (Or.inl ⟨by rfl, ?_⟩) ?_ ?_
      rotate_left
      · intro w'
        go_simp
        with_reducible rfl
      rotate_left
      · simp only [Act.put, List.setIfInBounds_toArray, List.set_cons_zero, List.set_cons_succ, i64_w, i32_w, xu32_w, xu8_w]
        rfl
      refine pure_ (i := 11) (N := some 41) (v := ?_) (a' := ?_) #[true, true, true, true, true, true, true, true, true, true, true, true] rfl rfl (any_of HT_.out (by kernel_rfl)) (fun _ _ _ h => h) (Or.inl ⟨by rfl, ?_⟩) ?_ ?_
      rotate_left
      · intro w'
        go_simp
        with_reducible rfl
      rotate_left
      · simp only [Act.put, List.setIfInBounds_toArray, List.set_cons_zero, List.set_cons_succ, i64_w, i32_w, xu32_w, xu8_w]
        rfl
      refine done_ (done_of HT_.out (by kernel_rfl)) ?_
      clear hHeld HT_ HW_
      go_wp2_with (fail)
      go_ret
      exact ⟨rfl, left_same HD.out (below_drew1 HB.out)⟩
    case neg =>
    have e1 : appendE room st s x = 0 := by unfold appendE; exact (if_pos ht).trans ((if_neg (fun e => hfew (by omega))).trans (if_neg hfull))
    have e2 : appendS room st s x = appS st s x := by unfold appendS; exact (if_pos ht).trans ((if_neg (fun e => hfew (by omega))).trans (if_neg hfull))
    rw [e1, e2]
    clear e1 e2
    have HK := Aside0.mk (And.intro k1 k2)
    clear k1 k2
    have hwr : wrap64 (room - (total st : Int)) = room - total st := by have := HD.out.room1; have := HD.out.fit; have := HD.out.room0; exact wrap_id (by omega) (by omega)
    have HX := Aside0.mk (And.intro hx hA)
    have HN := Aside0.mk (And.intro ht (And.intro hfew hfull))
    clear hx hA
    go_enter Try.func20, Try.ntmps20
    go_wp2_with (first
      | (go_at_call 30; (with_reducible refine (ok_calls D M _ c0).mono ?_); rintro e w8 ⟨rfl, h8⟩; subst w8)
      | (go_at_call 34; (with_reducible refine (title_calls s hsz _).mono ?_); rintro e w9 ⟨rfl, hw9⟩; rw [ht]; have HB := Aside0.mk (drawn_below hw9); clear hw9; have HD9 := Aside0.mk (HD.out.below HB.out); have hc9 := HD9.out.cell.1; have hlk := FilesG.look HD9.out.files s; rw [HK.out.1] at hlk; have hln := HD9.out.files.count))
    refine start_ (n := 12) (S := fun w' => w'.cell? ⟨D, 1, none⟩ = some (.int .i64 room) ∧ w'.cell? ⟨D, 2, none⟩ = some (.int .i64 (total st))) (ds := []) #[false, false, false, false, false, false, false, false, false, false, false, false] (by kernel_rfl) rfl rfl ⟨HD9.out.cell.2.1, HD9.out.cell.2.2.1⟩ (fun hHeld => ?_); refine with_tabW append.tab8 append.bits8 (fun HT_ HW_ => ?_)
    refine pure_ (i := 0) (N := some 30) (v := ?_) (a' := ?_) #[true, false, false, false, false, false, false, false, false, false, false, false] rfl rfl (any_of HT_.out (by kernel_rfl)) (fun _ _ _ h => h) (Or.inl ⟨by rfl, ?_⟩) ?_ ?_
    rotate_left
    · intro w'
      go_simp
      with_reducible rfl
    rotate_left
    · simp only [Act.put, List.setIfInBounds_toArray, List.set_cons_zero, List.set_cons_succ, i64_w, i32_w, xu32_w, xu8_w]
      rfl
    refine pure_ (i := 1) (N := some 31) (v := ?_) (a' := ?_) #[true, true, false, false, false, false, false, false, false, false, false, false] rfl rfl (any_of HT_.out (by kernel_rfl)) (fun _ _ _ h => h) (Or.inl ⟨by rfl, ?_⟩) ?_ ?_
    rotate_left
    · intro w'
      go_simp
      with_reducible rfl
    rotate_left
    · simp only [Act.put, List.setIfInBounds_toArray, List.set_cons_zero, List.set_cons_succ, i64_w, i32_w, xu32_w, xu8_w]
      rfl
    refine pure_ (i := 2) (N := some 32) (v := ?_) (a' := ?_) #[true, true, true, false, false, false, false, false, false, false, false, false] rfl rfl (any_of HT_.out (by kernel_rfl)) (fun _ _ _ h => h) (Or.inl ⟨by rfl, ?_⟩) ?_ ?_
    rotate_left
    · intro w'
      go_simp
      with_reducible rfl
    rotate_left
    · simp only [Act.put, List.setIfInBounds_toArray, List.set_cons_zero, List.set_cons_succ, i64_w, i32_w, xu32_w, xu8_w]
      rfl
    refine pure_ (i := 3) (N := some 33) (v := ?_) (a' := ?_) #[true, true, true, true, false, false, false, false, false, false, false, false] rfl rfl (any_of HT_.out (by kernel_rfl)) (fun _ _ _ h => h) (Or.inl ⟨by rfl, ?_⟩) ?_ ?_
    rotate_left
    · intro w'
      go_simp
      with_reducible rfl
    rotate_left
    · simp only [Act.put, List.setIfInBounds_toArray, List.set_cons_zero, List.set_cons_succ, i64_w, i32_w, xu32_w, xu8_w]
      rfl
    refine pure_ (i := 4) (N := some 34) (v := ?_) (a' := ?_) #[true, true, true, true, true, false, false, false, false, false, false, false] rfl rfl (any_of HT_.out (by kernel_rfl)) (fun _ _ _ h => h) (Or.inl ⟨by rfl, ?_⟩) ?_ ?_
    rotate_left
    · intro w'
      go_simp
      with_reducible rfl
    rotate_left
    · simp only [Act.put, List.setIfInBounds_toArray, List.set_cons_zero, List.set_cons_succ, i64_w, i32_w, xu32_w, xu8_w]
      rfl
    refine pure_ (i := 6) (N := some 36) (v := ?_) (a' := ?_) #[true, true, true, true, true, false, true, false, false, false, false, false] rfl rfl (any_of HT_.out (by kernel_rfl)) (fun _ _ _ h => h) (Or.inl ⟨by rfl, ?_⟩) ?_ ?_
    rotate_left
    · intro w'
      go_simp
      with_reducible rfl
    rotate_left
    · simp only [Act.put, List.setIfInBounds_toArray, List.set_cons_zero, List.set_cons_succ, i64_w, i32_w, xu32_w, xu8_w]
      rfl
    refine pure_ (i := 7) (N := some 37) (v := ?_) (a' := ?_) #[true, true, true, true, true, false, true, true, false, false, false, false] rfl rfl (any_of HT_.out (by kernel_rfl)) (fun _ _ _ h => h) (Or.inl ⟨by rfl, ?_⟩) ?_ ?_
    rotate_left
    · intro w'
      go_simp
      with_reducible rfl
    rotate_left
    · simp only [Act.put, List.setIfInBounds_toArray, List.set_cons_zero, List.set_cons_succ, i64_w, i32_w, xu32_w, xu8_w]
      rfl
    refine pure_ (i := 8) (N := some 38) (v := ?_) (a' := ?_) #[true, true, true, true, true, false, true, true, true, false, false, false] rfl rfl (any_of HT_.out (by kernel_rfl)) (fun _ _ _ h => h) (Or.inl ⟨by rfl, ?_⟩) ?_ ?_
    rotate_left
    · intro w'
      go_simp
      with_reducible rfl
    rotate_left
    · simp only [Act.put, List.setIfInBounds_toArray, List.set_cons_zero, List.set_cons_succ, i64_w, i32_w, xu32_w, xu8_w]
      rfl
    refine take_ (i := 5) (N := some 35) (v := ?_) (a' := ?_) #[true, true, true, true, true, true, true, true, true, false, false, false] rfl rfl (take_ofW HT_.out HW_.out (by kernel_rfl)) (fun _ _ _ h => h) (Or.inl ⟨by rfl, ?_⟩) hHeld ?_ ?_
    rotate_left
    · rintro w' ⟨s0, s1⟩
      go_simp
      with_reducible rfl
    rotate_left
    · simp only [Act.put, List.setIfInBounds_toArray, List.set_cons_zero, List.set_cons_succ, i64_w, i32_w, xu32_w, xu8_w]
      rfl
    refine take_ (i := 9) (N := some 39) (v := ?_) (a' := ?_) #[true, true, true, true, true, true, true, true, true, true, false, false] rfl rfl (take_ofW HT_.out HW_.out (by kernel_rfl)) (fun _ _ _ h => h) (Or.inl ⟨by rfl, ?_⟩) hHeld ?_ ?_
    rotate_left
    · rintro w' ⟨s0, s1⟩
      go_simp
      with_reducible rfl
    rotate_left
    · simp only [Act.put, List.setIfInBounds_toArray, List.set_cons_zero, List.set_cons_succ, i64_w, i32_w, xu32_w, xu8_w]
      rfl
    refine pure_ (i := 10) (N := some 40) (v := ?_) (a' := ?_) #[true, true, true, true, true, true, true, true, true, true, true, false] rfl rfl (any_of HT_.out (by kernel_rfl)) (fun _ _ _ h => h) (Or.inl ⟨by rfl, ?_⟩) ?_ ?_
    rotate_left
    · intro w'
      go_simp
      with_reducible rfl
    rotate_left
    · simp only [Act.put, List.setIfInBounds_toArray, List.set_cons_zero, List.set_cons_succ, i64_w, i32_w, xu32_w, xu8_w]
      rfl
    refine pure_ (i := 11) (N := some 41) (v := ?_) (a' := ?_) #[true, true, true, true, true, true, true, true, true, true, true, true] rfl rfl (any_of HT_.out (by kernel_rfl)) (fun _ _ _ h => h) (Or.inl ⟨by rfl, ?_⟩) ?_ ?_
    rotate_left
    · intro w'
      go_simp
      with_reducible rfl
    rotate_left
    · simp only [Act.put, List.setIfInBounds_toArray, List.set_cons_zero, List.set_cons_succ, i64_w, i32_w, xu32_w, xu8_w]
      rfl
    refine done_ (done_of HT_.out (by kernel_rfl)) ?_
    clear hHeld HT_ HW_
    go_wp2_with (first
      | ((with_reducible refine gate_dst (N := 45) rfl ?_); (try (refine gate_guard (by rfl) ?_; dsimp only)); refine box_event ?hg (N := 45) ?hd (cs := #[.slice none 0 0, .int .i64 0]) (t := 68) ?hr ?_; (case hd => rfl); (case hg => rfl); (case hr => first | (go_simp; done) | (go_simp; rfl)); intro F hg w1 hbox hb; have HF := Aside0.mk hg; have HW1 := Aside0.mk hb; have HBX := Aside0.mk hbox; have hc1 := (hb.cell (World.block_lt_of_cell? w9.drew _ hc9)).trans hc9; obtain ⟨w2, hup, hM2, p1, p2, p3, p4, p5⟩ := MapF.put (P := Try.prog) Try.underlying55 Try.underlying9 ((HD9.out.files.map.move rfl : MapF w9.drew M _).move (hb.block M HD9.out.files.map.lt)) s (.pointer (some ⟨F, 0, none⟩)); clear hg hb hbox)
      | (at_mapUpdate; refine wpList_mapUpdate_run _ rfl (.tmp 49) (.tmp 50) (.tmp 51) 55 rfl _ _ _ rfl rfl rfl _ hup ?_))
    have hq1 := HW1.out
    have hFs : F = w9.heap.size := HF.out
    have hb9 := HB.out
    have hz1 := hq1.size
    have hz9 := hb9.size
    have hM9 := HD9.out.files.map.lt
    have hD9 := heap_lt HD9.out.cells
    have hFM : F ≠ M := fun e => by omega
    have hblk : ∀ k, k < w9.heap.size → k ≠ M → w2.heap[k]? = w9.heap[k]? := fun k hk hn => (p5 k hn).trans (hq1.block k hk)
    have HP : Aside0 (AppPre w w2 D M room B dat fs st s F none 0) := by
      have e1 : oldB st s = [] := by unfold oldB; rw [HK.out.2]
      have e2 : oldL st s = 0 := by unfold oldL; rw [HK.out.2]
      refine ⟨⟨?_, ?_, ?_, fun _ => e1, fun _ e => (by cases e), ⟨?_, ?_, ?_⟩, ?_, hM2, fun t q ht hq => ⟨?_, ?_⟩, .inr (by omega), fun k hk => ?_, ⟨p1.trans (hq1.os.trans hb9.os), p2.trans (hq1.tape.trans hb9.tape), p3.trans (hq1.output.trans hb9.output), ?_, fun k hk hn => ?_⟩, fun _ => ?_, ⟨?_, hFM⟩⟩⟩
      · rw [e1, e2, p5 F hFM]; exact HBX.out
      · rw [e1]; exact ⟨rfl, by simp, fun h => by simp at h⟩
      · rw [e1]; exact Nat.le_refl _
      · have := HD9.out.baseD; omega
      · rw [e2]; exact Int.le_refl _
      · rw [e1, e2]; simp
      · exact (hblk D hD9 HD.out.DM).trans HD9.out.cells
      · have := HD9.out.files.lt hq; omega
      · exact (hblk _ (HD9.out.files.lt hq) (HD.out.notD hq).2).trans (hb9.block _ (HD.out.files.lt hq))
      · exact (hblk _ (HD9.out.files.datlt k hk) (HD.out.datne hk).2.1).trans (hb9.block _ (HD.out.files.datlt k hk))
      · rw [p4]; exact Nat.le_trans hz9 hz1
      · exact (hblk k (by omega) (fun e => hn (.inr (.inl e)))).trans (hb9.block k hk)
      · have := HN.out.2.1; omega
      · omega
    have HX2 : Aside0 ((Kd.int .u8).C w2 A x.length x) := ⟨row_move HX.out.1 (fun ad e => by
      obtain ⟨cs, fz, g⟩ := HX.out.2 ad e
      have hl := heap_lt g
      refine (hblk _ (by omega) (fun e2 => ?_)).trans (hb9.block _ hl)
      obtain ⟨ma, clk, hm, _⟩ := HD.out.files.map
      rw [e2, hm] at g
      cases g)⟩
    clear hup hM2 p1 p2 p3 p4 p5 hq1 hFs hb9 hz1 hz9 hM9 hD9 hFM hblk hfew hfew' hfull hwr ht c0 hc9 hc1 hlk hln
    obtain ⟨A0, hA0⟩ : ∃ A0 : Option Addr, A0 = none := ⟨_, rfl⟩
    rw [← hA0] at HP
    obtain ⟨cc, hcc⟩ : ∃ cc : Nat, cc = 0 := ⟨_, rfl⟩
    rw [← hcc] at HP
    clear hA0 hcc
    obtain ⟨i5, hi5, _⟩ := Option.map_eq_some_iff.1 info5
    have hsl := cut_to3 (P := Try.prog) 29 5 .i64 .i64 Try.underlying29 hi5 A0 (oldB st s).length cc ((oldB st s).length : Int) (Int.natCast_nonneg _) (Int.le_refl _) HP.out.b3
    rw [Int.toNat_natCast] at hsl
    have hbound : (oldB st s).length + x.length ≤ 1073741824 := by
      have h1 := HD.out.fit
      have h2 := HD.out.room1
      have h3 := HN.out.2
      have h4 := (app_total HD.out.files.sorted s x).1
      have h5 : (oldB st s).length ≤ total st := by
        unfold oldB
        cases hl : look st s with
        | none => exact Nat.zero_le _
        | some f => exact look_len hl
      omega
    obtain ⟨A1, c1, w3, hap, hC3, hcap3, hch3, hA13⟩ := app2 w2.drew A0 (oldB st s) HP.out.b2 A c x HX2.out hbound HP.out.b4 29
    have HA := Aside0.mk (And.intro hC3 (And.intro hcap3 (And.intro (⟨hch3.os, hch3.tape, hch3.output, hch3.size, hch3.block⟩ : Chg (fun _ => False) w2 w3) hA13)))
    have hF3 := (hch3.block F (heap_lt HP.out.b1) id).trans HP.out.b1
    have hD3 := (hch3.block D (heap_lt HP.out.b7) id).trans HP.out.b7
    have g0 : w3.cell? ⟨F, 0, none⟩ = some (.slice A0 (oldB st s).length cc) := (blk_cell hF3 0).trans rfl
    have g1 := blk_frozen hF3 0
    have g2 : w3.cell? ⟨D, 2, none⟩ = some (.int .i64 (total st)) := (blk_cell hD3 2).trans rfl
    have g3 := blk_frozen hD3 2
    have g9 : w2.cell? ⟨F, 0, none⟩ = some (.slice A0 (oldB st s).length cc) := (blk_cell HP.out.b1 0).trans rfl
    clear hi5 hC3 hcap3 hch3 hA13 hF3 hD3 hbound
    refine start_ (n := 21) (S := fun w' => w'.cell? ⟨F, 0, none⟩ = some (.slice A0 (oldB st s).length cc)) (ds := [20]) #[false, false, false, false, false, false, false, false, false, false, false, false, false, false, false, false, false, false, false, false, false] (by kernel_rfl) rfl rfl g9 (fun hHeld => ?_); refine with_tabW append.tab13 append.bits13 (fun HT_ HW_ => ?_)
    refine pure_ (i := 0) (N := some 52) (v := ?_) (a' := ?_) #[true, false, false, false, false, false, false, false, false, false, false, false, false, false, false, false, false, false, false, false, false] rfl rfl (any_of HT_.out (by kernel_rfl)) (fun _ _ _ h => h) (Or.inl ⟨by rfl, ?_⟩) ?_ ?_
    rotate_left
    · intro w'
      go_simp
      with_reducible rfl
    rotate_left
    · simp only [Act.put, List.setIfInBounds_toArray, List.set_cons_zero, List.set_cons_succ, i64_w, i32_w, xu32_w, xu8_w]
      rfl
    refine pure_ (i := 1) (N := some 53) (v := ?_) (a' := ?_) #[true, true, false, false, false, false, false, false, false, false, false, false, false, false, false, false, false, false, false, false, false] rfl rfl (any_of HT_.out (by kernel_rfl)) (fun _ _ _ h => h) (Or.inl ⟨by rfl, ?_⟩) ?_ ?_
    rotate_left
    · intro w'
      go_simp
      with_reducible rfl
    rotate_left
    · simp only [Act.put, List.setIfInBounds_toArray, List.set_cons_zero, List.set_cons_succ, i64_w, i32_w, xu32_w, xu8_w]
      rfl
    refine pure_ (i := 2) (N := some 54) (v := ?_) (a' := ?_) #[true, true, true, false, false, false, false, false, false, false, false, false, false, false, false, false, false, false, false, false, false] rfl rfl (any_of HT_.out (by kernel_rfl)) (fun _ _ _ h => h) (Or.inl ⟨by rfl, ?_⟩) ?_ ?_
    rotate_left
    · intro w'
      go_simp
      with_reducible rfl
    rotate_left
    · simp only [Act.put, List.setIfInBounds_toArray, List.set_cons_zero, List.set_cons_succ, i64_w, i32_w, xu32_w, xu8_w]
      rfl
    refine pure_ (i := 3) (N := some 55) (v := ?_) (a' := ?_) #[true, true, true, true, false, false, false, false, false, false, false, false, false, false, false, false, false, false, false, false, false] rfl rfl (any_of HT_.out (by kernel_rfl)) (fun _ _ _ h => h) (Or.inl ⟨by rfl, ?_⟩) ?_ ?_
    rotate_left
    · intro w'
      go_simp
      with_reducible rfl
    rotate_left
    · simp only [Act.put, List.setIfInBounds_toArray, List.set_cons_zero, List.set_cons_succ, i64_w, i32_w, xu32_w, xu8_w]
      rfl
    refine pure_ (i := 5) (N := some 57) (v := ?_) (a' := ?_) #[true, true, true, true, false, true, false, false, false, false, false, false, false, false, false, false, false, false, false, false, false] rfl rfl (any_of HT_.out (by kernel_rfl)) (fun _ _ _ h => h) (Or.inl ⟨by rfl, ?_⟩) ?_ ?_
    rotate_left
    · intro w'
      go_simp
      with_reducible rfl
    rotate_left
    · simp only [Act.put, List.setIfInBounds_toArray, List.set_cons_zero, List.set_cons_succ, i64_w, i32_w, xu32_w, xu8_w]
      rfl
    refine pure_ (i := 6) (N := some 58) (v := ?_) (a' := ?_) #[true, true, true, true, false, true, true, false, false, false, false, false, false, false, false, false, false, false, false, false, false] rfl rfl (any_of HT_.out (by kernel_rfl)) (fun _ _ _ h => h) (Or.inl ⟨by rfl, ?_⟩) ?_ ?_
    rotate_left
    · intro w'
      go_simp
      with_reducible rfl
    rotate_left
    · simp only [Act.put, List.setIfInBounds_toArray, List.set_cons_zero, List.set_cons_succ, i64_w, i32_w, xu32_w, xu8_w]
      rfl
    refine pure_ (i := 7) (N := some 59) (v := ?_) (a' := ?_) #[true, true, true, true, false, true, true, true, false, false, false, false, false, false, false, false, false, false, false, false, false] rfl rfl (any_of HT_.out (by kernel_rfl)) (fun _ _ _ h => h) (Or.inl ⟨by rfl, ?_⟩) ?_ ?_
    rotate_left
    · intro w'
      go_simp
      with_reducible rfl
    rotate_left
    · simp only [Act.put, List.setIfInBounds_toArray, List.set_cons_zero, List.set_cons_succ, i64_w, i32_w, xu32_w, xu8_w]
      rfl
    refine pure_ (i := 10) (N := some 62) (v := ?_) (a' := ?_) #[true, true, true, true, false, true, true, true, false, false, true, false, false, false, false, false, false, false, false, false, false] rfl rfl (any_of HT_.out (by kernel_rfl)) (fun _ _ _ h => h) (Or.inl ⟨by rfl, ?_⟩) ?_ ?_
    rotate_left
    · intro w'
      go_simp
      with_reducible rfl
    rotate_left
    · simp only [Act.put, List.setIfInBounds_toArray, List.set_cons_zero, List.set_cons_succ, i64_w, i32_w, xu32_w, xu8_w]
      rfl
    refine pure_ (i := 11) (N := some 63) (v := ?_) (a' := ?_) #[true, true, true, true, false, true, true, true, false, false, true, true, false, false, false, false, false, false, false, false, false] rfl rfl (any_of HT_.out (by kernel_rfl)) (fun _ _ _ h => h) (Or.inl ⟨by rfl, ?_⟩) ?_ ?_
    rotate_left
    · intro w'
      go_simp
      with_reducible rfl
    rotate_left
    · simp only [Act.put, List.setIfInBounds_toArray, List.set_cons_zero, List.set_cons_succ, i64_w, i32_w, xu32_w, xu8_w]
      rfl
    refine pure_ (i := 12) (N := some 64) (v := ?_) (a' := ?_) #[true, true, true, true, false, true, true, true, false, false, true, true, true, false, false, false, false, false, false, false, false] rfl rfl (any_of HT_.out (by kernel_rfl)) (fun _ _ _ h => h) (Or.inl ⟨by rfl, ?_⟩) ?_ ?_
    rotate_left
    · intro w'
      go_simp
      with_reducible rfl
    rotate_left
    · simp only [Act.put, List.setIfInBounds_toArray, List.set_cons_zero, List.set_cons_succ, i64_w, i32_w, xu32_w, xu8_w]
      rfl
    refine pure_ (i := 16) (N := some 68) (v := ?_) (a' := ?_) #[true, true, true, true, false, true, true, true, false, false, true, true, true, false, false, false, true, false, false, false, false] rfl rfl (any_of HT_.out (by kernel_rfl)) (fun _ _ _ h => h) (Or.inl ⟨by rfl, ?_⟩) ?_ ?_
    rotate_left
    · intro w'
      go_simp
      with_reducible rfl
    rotate_left
    · simp only [Act.put, List.setIfInBounds_toArray, List.set_cons_zero, List.set_cons_succ, i64_w, i32_w, xu32_w, xu8_w]
      rfl
    refine take_ (i := 4) (N := some 56) (v := ?_) (a' := ?_) #[true, true, true, true, true, true, true, true, false, false, true, true, true, false, false, false, true, false, false, false, false] rfl rfl (take_ofW HT_.out HW_.out (by kernel_rfl)) (fun _ _ _ h => h) (Or.inl ⟨by rfl, ?_⟩) hHeld ?_ ?_
    rotate_left
    · rintro w' s0
      go_simp
      with_reducible rfl
    rotate_left
    · simp only [Act.put, List.setIfInBounds_toArray, List.set_cons_zero, List.set_cons_succ, i64_w, i32_w, xu32_w, xu8_w]
      rfl
    refine take_ (i := 8) (N := some 60) (v := ?_) (a' := ?_) #[true, true, true, true, true, true, true, true, true, false, true, true, true, false, false, false, true, false, false, false, false] rfl rfl (take_ofW HT_.out HW_.out (by kernel_rfl)) (fun _ _ _ h => h) (Or.inl ⟨by rfl, ?_⟩) hHeld ?_ ?_
    rotate_left
    · rintro w' s0
      go_simp
      with_reducible rfl
    rotate_left
    · simp only [Act.put, List.setIfInBounds_toArray, List.set_cons_zero, List.set_cons_succ, i64_w, i32_w, xu32_w, xu8_w]
      rfl
    refine pure_ (i := 9) (N := some 61) (v := ?_) (a' := ?_) #[true, true, true, true, true, true, true, true, true, true, true, true, true, false, false, false, true, false, false, false, false] rfl rfl (any_of HT_.out (by kernel_rfl)) (fun _ _ _ h => h) (Or.inl ⟨by rfl, ?_⟩) ?_ ?_
    rotate_left
    · intro w'
      go_simp
      with_reducible rfl
    rotate_left
    · simp only [Act.put, List.setIfInBounds_toArray, List.set_cons_zero, List.set_cons_succ, i64_w, i32_w, xu32_w, xu8_w]
      rfl
    refine take_ (i := 13) (N := some 65) (v := ?_) (a' := ?_) #[true, true, true, true, true, true, true, true, true, true, true, true, true, true, false, false, true, false, false, false, false] rfl rfl (take_ofW HT_.out HW_.out (by kernel_rfl)) (fun _ _ _ h => h) (Or.inl ⟨by rfl, ?_⟩) hHeld ?_ ?_
    rotate_left
    · rintro w' s0
      go_simp
      with_reducible rfl
    rotate_left
    · simp only [Act.put, List.setIfInBounds_toArray, List.set_cons_zero, List.set_cons_succ, i64_w, i32_w, xu32_w, xu8_w]
      rfl
    refine pure_ (i := 14) (N := some 66) (v := ?_) (a' := ?_) #[true, true, true, true, true, true, true, true, true, true, true, true, true, true, true, false, true, false, false, false, false] rfl rfl (any_of HT_.out (by kernel_rfl)) (fun _ _ _ h => h) (Or.inl ⟨by rfl, ?_⟩) ?_ ?_
    rotate_left
    · intro w'
      go_simp
      with_reducible rfl
    rotate_left
    · simp only [Act.put, List.setIfInBounds_toArray, List.set_cons_zero, List.set_cons_succ, i64_w, i32_w, xu32_w, xu8_w]
      rfl
    refine pure_ (i := 15) (N := some 67) (v := ?_) (a' := ?_) #[true, true, true, true, true, true, true, true, true, true, true, true, true, true, true, true, true, false, false, false, false] rfl rfl (any_of HT_.out (by kernel_rfl)) (fun _ _ _ h => h) (Or.inl ⟨by rfl, ?_⟩) ?_ ?_
    rotate_left
    · intro w'
      go_simp
      with_reducible rfl
    rotate_left
    · simp only [Act.put, List.setIfInBounds_toArray, List.set_cons_zero, List.set_cons_succ, i64_w, i32_w, xu32_w, xu8_w]
      rfl
    refine one_ (i := 17) (N := some 69) #[true, true, true, true, true, true, true, true, true, true, true, true, true, true, true, true, true, true, false, false, false] rfl rfl (one_of HT_.out (by kernel_rfl)) (by decide) (fun K hK => ?_)
    refine append_step (by rfl) (.tmp 67) (.tmp 68) 29 rfl _ _ rfl rfl (.slice A1 (oldB st s ++ x).length c1) w3 hap ?_
    refine hK.out _ _ g0 (fun hHeld => ?_)
    clear hK K
    refine norm_ (a' := ?_) ?_ ?_
    rotate_left
    · show Act.put _ (some 69) _ = _
      simp only [Act.put, List.setIfInBounds_toArray, List.set_cons_zero, List.set_cons_succ, i64_w, i32_w, xu32_w, xu8_w]
      rfl
    refine pure_ (i := 18) (N := some 70) (v := ?_) (a' := ?_) #[true, true, true, true, true, true, true, true, true, true, true, true, true, true, true, true, true, true, true, false, false] rfl rfl (any_of HT_.out (by kernel_rfl)) (fun _ _ _ h => h) (Or.inl ⟨by rfl, ?_⟩) ?_ ?_
    rotate_left
    · intro w'
      go_simp
      with_reducible rfl
    rotate_left
    · simp only [Act.put, List.setIfInBounds_toArray, List.set_cons_zero, List.set_cons_succ, i64_w, i32_w, xu32_w, xu8_w]
      rfl
    refine pure_ (i := 19) (N := some 71) (v := ?_) (a' := ?_) #[true, true, true, true, true, true, true, true, true, true, true, true, true, true, true, true, true, true, true, true, false] rfl rfl (any_of HT_.out (by kernel_rfl)) (fun _ _ _ h => h) (Or.inl ⟨by rfl, ?_⟩) ?_ ?_
    rotate_left
    · intro w'
      go_simp
      with_reducible rfl
    rotate_left
    · simp only [Act.put, List.setIfInBounds_toArray, List.set_cons_zero, List.set_cons_succ, i64_w, i32_w, xu32_w, xu8_w]
      rfl
    refine last_ (i := 20) (N := none) #[true, true, true, true, true, true, true, true, true, true, true, true, true, true, true, true, true, true, true, true, true] rfl rfl (one_of HT_.out (by kernel_rfl)) (by decide) (fun K hK => ?_)
    refine skip_ (w1 := w3.setCell ⟨F, 0, none⟩ (.slice A1 (oldB st s ++ x).length c1)) (by rfl) rfl (by first | (go_simp; done) | (go_simp; rfl)) ?_
    refine hK.out _ _ ?_
    clear hK K
    refine done_ (done_of HT_.out (by kernel_rfl)) ?_
    clear hHeld HT_ HW_
    go_wp2_with (fail)
    go_ret
    have hv : wrap64 ((total st : Int) + (x.length : Int)) = ((total (appS st s x) : Nat) : Int) := by
      have h1 := HD.out.fit
      have h2 := HD.out.room1
      have h3 := HN.out.2
      have h4 := (app_total HD.out.files.sorted s x).1
      rw [wrap_id (by omega) (by omega)]; omega
    rw [hv, ← List.length_append]
    obtain ⟨a1, a2, a3, a4⟩ := HA.out
    exact ⟨rfl, HP.out.done HD.out x w3 A1 c1 a1 a2 a3 a4 (by have := HN.out.2; omega) (title_size HN.out.1) (Nat.le_trans HD.out.baseD (Nat.le_of_lt (heap_lt HD.out.cells)))⟩
  · by_cases hfull : (x.length : Int) > room - total st
    case pos =>
      have hne : ¬ (look st s = none ∧ 64 ≤ st.length) := fun e => by rw [k2] at e; cases e.1
      have e1 : appendE room st s x = 5 := by unfold appendE; exact (if_pos ht).trans ((if_neg hne).trans (if_pos hfull))
      have e2 : appendS room st s x = st := by unfold appendS; exact (if_pos ht).trans ((if_neg hne).trans (if_pos hfull))
      rw [e1, e2]
      clear e1 e2 hne
      have HK := Aside0.mk (And.intro k1 k2)
      clear k1 k2
      have hwr : wrap64 (room - (total st : Int)) = room - total st := by have := HD.out.room1; have := HD.out.fit; have := HD.out.room0; exact wrap_id (by omega) (by omega)
      go_enter Try.func20, Try.ntmps20
      go_wp2_with (first
        | (go_at_call 30; (with_reducible refine (ok_calls D M _ c0).mono ?_); rintro e w8 ⟨rfl, h8⟩; subst w8)
        | (go_at_call 34; (with_reducible refine (title_calls s hsz _).mono ?_); rintro e w9 ⟨rfl, hw9⟩; rw [ht]; have HB := Aside0.mk (drawn_below hw9); clear hw9; have HD9 := Aside0.mk (HD.out.below HB.out); have hc9 := HD9.out.cell.1; have hlk := FilesG.look HD9.out.files s; rw [HK.out.1] at hlk; have hln := HD9.out.files.count))
      refine start_ (n := 12) (S := fun w' => w'.cell? ⟨D, 1, none⟩ = some (.int .i64 room) ∧ w'.cell? ⟨D, 2, none⟩ = some (.int .i64 (total st))) (ds := []) #[false, false, false, false, false, false, false, false, false, false, false, false] (by kernel_rfl) rfl rfl ⟨HD9.out.cell.2.1, HD9.out.cell.2.2.1⟩ (fun hHeld => ?_); refine with_tabW append.tab8 append.bits8 (fun HT_ HW_ => ?_)
      refine pure_ (i := 0) (N := some 30) (v := ?_) (a' := ?_) #[true, false, false, false, false, false, false, false, false, false, false, false] rfl rfl (any_of HT_.out (by kernel_rfl)) (fun _ _ _ h => h) (Or.inl ⟨by rfl, ?_⟩) ?_ ?_
      rotate_left
      · intro w'
        go_simp
        with_reducible rfl
      rotate_left
      · simp only [Act.put, List.setIfInBounds_toArray, List.set_cons_zero, List.set_cons_succ, i64_w, i32_w, xu32_w, xu8_w]
        rfl
      refine pure_ (i := 1) (N := some 31) (v := ?_) (a' := ?_) #[true, true, false, false, false, false, false, false, false, false, false, false] rfl rfl (any_of HT_.out (by kernel_rfl)) (fun _ _ _ h => h) (Or.inl ⟨by rfl, ?_⟩) ?_ ?_
      rotate_left
      · intro w'
        go_simp
        with_reducible rfl
      rotate_left
      · simp only [Act.put, List.setIfInBounds_toArray, List.set_cons_zero, List.set_cons_succ, i64_w, i32_w, xu32_w, xu8_w]
        rfl
      refine pure_ (i := 2) (N := some 32) (v := ?_) (a' := ?_) #[true, true, true, false, false, false, false, false, false, false, false, false] rfl rfl (any_of HT_.out (by kernel_rfl)) (fun _ _ _ h => h) (Or.inl ⟨by rfl, ?_⟩) ?_ ?_
      rotate_left
      · intro w'
        go_simp
        with_reducible rfl
      rotate_left
      · simp only [Act.put, List.setIfInBounds_toArray, List.set_cons_zero, List.set_cons_succ, i64_w, i32_w, xu32_w, xu8_w]
        rfl
      refine pure_ (i := 3) (N := some 33) (v := ?_) (a' := ?_) #[true, true, true, true, false, false, false, false, false, false, false, false] rfl rfl (any_of HT_.out (by kernel_rfl)) (fun _ _ _ h => h) (Or.inl ⟨by rfl, ?_⟩) ?_ ?_
      rotate_left
      · intro w'
        go_simp
        with_reducible rfl
      rotate_left
      · simp only [Act.put, List.setIfInBounds_toArray, List.set_cons_zero, List.set_cons_succ, i64_w, i32_w, xu32_w, xu8_w]
        rfl
      refine pure_ (i := 4) (N := some 34) (v := ?_) (a' := ?_) #[true, true, true, true, true, false, false, false, false, false, false, false] rfl rfl (any_of HT_.out (by kernel_rfl)) (fun _ _ _ h => h) (Or.inl ⟨by rfl, ?_⟩) ?_ ?_
      rotate_left
      · intro w'
        go_simp
        with_reducible rfl
      rotate_left
      · simp only [Act.put, List.setIfInBounds_toArray, List.set_cons_zero, List.set_cons_succ, i64_w, i32_w, xu32_w, xu8_w]
        rfl
      refine pure_ (i := 6) (N := some 36) (v := ?_) (a' := ?_) #[true, true, true, true, true, false, true, false, false, false, false, false] rfl rfl (any_of HT_.out (by kernel_rfl)) (fun _ _ _ h => h) (Or.inl ⟨by rfl, ?_⟩) ?_ ?_
      rotate_left
      · intro w'
        go_simp
        with_reducible rfl
      rotate_left
      · simp only [Act.put, List.setIfInBounds_toArray, List.set_cons_zero, List.set_cons_succ, i64_w, i32_w, xu32_w, xu8_w]
        rfl
      refine pure_ (i := 7) (N := some 37) (v := ?_) (a' := ?_) #[true, true, true, true, true, false, true, true, false, false, false, false] rfl rfl (any_of HT_.out (by kernel_rfl)) (fun _ _ _ h => h) (Or.inl ⟨by rfl, ?_⟩) ?_ ?_
      rotate_left
      · intro w'
        go_simp
        with_reducible rfl
      rotate_left
      · simp only [Act.put, List.setIfInBounds_toArray, List.set_cons_zero, List.set_cons_succ, i64_w, i32_w, xu32_w, xu8_w]
        rfl
      refine pure_ (i := 8) (N := some 38) (v := ?_) (a' := ?_) #[true, true, true, true, true, false, true, true, true, false, false, false] rfl rfl (any_of HT_.out (by kernel_rfl)) (fun _ _ _ h => h) (Or.inl ⟨by rfl, ?_⟩) ?_ ?_
      rotate_left
      · intro w'
        go_simp
        with_reducible rfl
      rotate_left
      · simp only [Act.put, List.setIfInBounds_toArray, List.set_cons_zero, List.set_cons_succ, i64_w, i32_w, xu32_w, xu8_w]
        rfl
      refine take_ (i := 5) (N := some 35) (v := ?_) (a' := ?_) #[true, true, true, true, true, true, true, true, true, false, false, false] rfl rfl (take_ofW HT_.out HW_.out (by kernel_rfl)) (fun _ _ _ h => h) (Or.inl ⟨by rfl, ?_⟩) hHeld ?_ ?_
      rotate_left
      · rintro w' ⟨s0, s1⟩
        go_simp
        with_reducible rfl
      rotate_left
      · simp only [Act.put, List.setIfInBounds_toArray, List.set_cons_zero, List.set_cons_succ, i64_w, i32_w, xu32_w, xu8_w]
        rfl
      refine take_ (i := 9) (N := some 39) (v := ?_) (a' := ?_) #[true, true, true, true, true, true, true, true, true, true, false, false] rfl rfl (take_ofW HT_.out HW_.out (by kernel_rfl)) (fun _ _ _ h => h) (Or.inl ⟨by rfl, ?_⟩) hHeld ?_ ?_
      rotate_left
      · rintro w' ⟨s0, s1⟩
        go_simp
        with_reducible rfl
      rotate_left
      · simp only [Act.put, List.setIfInBounds_toArray, List.set_cons_zero, List.set_cons_succ, i64_w, i32_w, xu32_w, xu8_w]
        rfl
      refine pure_ (i := 10) (N := some 40) (v := ?_) (a' := ?_) #[true, true, true, true, true, true, true, true, true, true, true, false] rfl rfl (any_of HT_.out (by kernel_rfl)) (fun _ _ _ h => h) (Or.inl ⟨by rfl, ?_⟩) ?_ ?_
      rotate_left
      · intro w'
        go_simp
        with_reducible rfl
      rotate_left
      · simp only [Act.put, List.setIfInBounds_toArray, List.set_cons_zero, List.set_cons_succ, i64_w, i32_w, xu32_w, xu8_w]
        rfl
      refine pure_ (i := 11) (N := some 41) (v := ?_) (a' := ?_) #[true, true, true, true, true, true, true, true, true, true, true, true] rfl rfl (any_of HT_.out (by kernel_rfl)) (fun _ _ _ h => h) (Or.inl ⟨by rfl, ?_⟩) ?_ ?_
      rotate_left
      · intro w'
        go_simp
        with_reducible rfl
      rotate_left
      · simp only [Act.put, List.setIfInBounds_toArray, List.set_cons_zero, List.set_cons_succ, i64_w, i32_w, xu32_w, xu8_w]
        rfl
      refine done_ (done_of HT_.out (by kernel_rfl)) ?_
      clear hHeld HT_ HW_
      go_wp2_with (fail)
      go_ret
      exact ⟨rfl, left_same HD.out (below_drew1 HB.out)⟩
    case neg =>
    have hne : ¬ (look st s = none ∧ 64 ≤ st.length) := fun e => by rw [k2] at e; cases e.1
    have e1 : appendE room st s x = 0 := by unfold appendE; exact (if_pos ht).trans ((if_neg hne).trans (if_neg hfull))
    have e2 : appendS room st s x = appS st s x := by unfold appendS; exact (if_pos ht).trans ((if_neg hne).trans (if_neg hfull))
    rw [e1, e2]
    clear e1 e2 hne
    have HK := Aside0.mk (And.intro k1 (And.intro k2 kf))
    clear k1 k2 kf
    have hwr : wrap64 (room - (total st : Int)) = room - total st := by have := HD.out.room1; have := HD.out.fit; have := HD.out.room0; exact wrap_id (by omega) (by omega)
    have HX := Aside0.mk (And.intro hx hA)
    have HN := Aside0.mk (And.intro ht (And.intro trivial hfull))
    clear hx hA
    go_enter Try.func20, Try.ntmps20
    go_wp2_with (first
      | (go_at_call 30; (with_reducible refine (ok_calls D M _ c0).mono ?_); rintro e w8 ⟨rfl, h8⟩; subst w8)
      | (go_at_call 34; (with_reducible refine (title_calls s hsz _).mono ?_); rintro e w9 ⟨rfl, hw9⟩; rw [ht]; have HB := Aside0.mk (drawn_below hw9); clear hw9; have HD9 := Aside0.mk (HD.out.below HB.out); have hc9 := HD9.out.cell.1; have hlk := FilesG.look HD9.out.files s; rw [HK.out.1] at hlk; have hln := HD9.out.files.count))
    refine start_ (n := 12) (S := fun w' => w'.cell? ⟨D, 1, none⟩ = some (.int .i64 room) ∧ w'.cell? ⟨D, 2, none⟩ = some (.int .i64 (total st))) (ds := []) #[false, false, false, false, false, false, false, false, false, false, false, false] (by kernel_rfl) rfl rfl ⟨HD9.out.cell.2.1, HD9.out.cell.2.2.1⟩ (fun hHeld => ?_); refine with_tabW append.tab8 append.bits8 (fun HT_ HW_ => ?_)
    refine pure_ (i := 0) (N := some 30) (v := ?_) (a' := ?_) #[true, false, false, false, false, false, false, false, false, false, false, false] rfl rfl (any_of HT_.out (by kernel_rfl)) (fun _ _ _ h => h) (Or.inl ⟨by rfl, ?_⟩) ?_ ?_
    rotate_left
    · intro w'
      go_simp
      with_reducible rfl
    rotate_left
    · simp only [Act.put, List.setIfInBounds_toArray, List.set_cons_zero, List.set_cons_succ, i64_w, i32_w, xu32_w, xu8_w]
      rfl
    refine pure_ (i := 1) (N := some 31) (v := ?_) (a' := ?_) #[true, true, false, false, false, false, false, false, false, false, false, false] rfl rfl (any_of HT_.out (by kernel_rfl)) (fun _ _ _ h => h) (Or.inl ⟨by rfl, ?_⟩) ?_ ?_
    rotate_left
    · intro w'
      go_simp
      with_reducible rfl
    rotate_left
    · simp only [Act.put, List.setIfInBounds_toArray, List.set_cons_zero, List.set_cons_succ, i64_w, i32_w, xu32_w, xu8_w]
      rfl
    refine pure_ (i := 2) (N := some 32) (v := ?_) (a' := ?_) #[true, true, true, false, false, false, false, false, false, false, false, false] rfl rfl (any_of HT_.out (by kernel_rfl)) (fun _ _ _ h => h) (Or.inl ⟨by rfl, ?_⟩) ?_ ?_
    rotate_left
    · intro w'
      go_simp
      with_reducible rfl
    rotate_left
    · simp only [Act.put, List.setIfInBounds_toArray, List.set_cons_zero, List.set_cons_succ, i64_w, i32_w, xu32_w, xu8_w]
      rfl
    refine pure_ (i := 3) (N := some 33) (v := ?_) (a' := ?_) #[true, true, true, true, false, false, false, false, false, false, false, false] rfl rfl (any_of HT_.out (by kernel_rfl)) (fun _ _ _ h => h) (Or.inl ⟨by rfl, ?_⟩) ?_ ?_
    rotate_left
    · intro w'
      go_simp
      with_reducible rfl
    rotate_left
    · simp only [Act.put, List.setIfInBounds_toArray, List.set_cons_zero, List.set_cons_succ, i64_w, i32_w, xu32_w, xu8_w]
      rfl
    refine pure_ (i := 4) (N := some 34) (v := ?_) (a' := ?_) #[true, true, true, true, true, false, false, false, false, false, false, false] rfl rfl (any_of HT_.out (by kernel_rfl)) (fun _ _ _ h => h) (Or.inl ⟨by rfl, ?_⟩) ?_ ?_
    rotate_left
    · intro w'
      go_simp
      with_reducible rfl
    rotate_left
    · simp only [Act.put, List.setIfInBounds_toArray, List.set_cons_zero, List.set_cons_succ, i64_w, i32_w, xu32_w, xu8_w]
      rfl
    refine pure_ (i := 6) (N := some 36) (v := ?_) (a' := ?_) #[true, true, true, true, true, false, true, false, false, false, false, false] rfl rfl (any_of HT_.out (by kernel_rfl)) (fun _ _ _ h => h) (Or.inl ⟨by rfl, ?_⟩) ?_ ?_
    rotate_left
    · intro w'
      go_simp
      with_reducible rfl
    rotate_left
    · simp only [Act.put, List.setIfInBounds_toArray, List.set_cons_zero, List.set_cons_succ, i64_w, i32_w, xu32_w, xu8_w]
      rfl
    refine pure_ (i := 7) (N := some 37) (v := ?_) (a' := ?_) #[true, true, true, true, true, false, true, true, false, false, false, false] rfl rfl (any_of HT_.out (by kernel_rfl)) (fun _ _ _ h => h) (Or.inl ⟨by rfl, ?_⟩) ?_ ?_
    rotate_left
    · intro w'
      go_simp
      with_reducible rfl
    rotate_left
    · simp only [Act.put, List.setIfInBounds_toArray, List.set_cons_zero, List.set_cons_succ, i64_w, i32_w, xu32_w, xu8_w]
      rfl
    refine pure_ (i := 8) (N := some 38) (v := ?_) (a' := ?_) #[true, true, true, true, true, false, true, true, true, false, false, false] rfl rfl (any_of HT_.out (by kernel_rfl)) (fun _ _ _ h => h) (Or.inl ⟨by rfl, ?_⟩) ?_ ?_
    rotate_left
    · intro w'
      go_simp
      with_reducible rfl
    rotate_left
    · simp only [Act.put, List.setIfInBounds_toArray, List.set_cons_zero, List.set_cons_succ, i64_w, i32_w, xu32_w, xu8_w]
      rfl
    refine take_ (i := 5) (N := some 35) (v := ?_) (a' := ?_) #[true, true, true, true, true, true, true, true, true, false, false, false] rfl rfl (take_ofW HT_.out HW_.out (by kernel_rfl)) (fun _ _ _ h => h) (Or.inl ⟨by rfl, ?_⟩) hHeld ?_ ?_
    rotate_left
    · rintro w' ⟨s0, s1⟩
      go_simp
      with_reducible rfl
    rotate_left
    · simp only [Act.put, List.setIfInBounds_toArray, List.set_cons_zero, List.set_cons_succ, i64_w, i32_w, xu32_w, xu8_w]
      rfl
    refine take_ (i := 9) (N := some 39) (v := ?_) (a' := ?_) #[true, true, true, true, true, true, true, true, true, true, false, false] rfl rfl (take_ofW HT_.out HW_.out (by kernel_rfl)) (fun _ _ _ h => h) (Or.inl ⟨by rfl, ?_⟩) hHeld ?_ ?_
    rotate_left
    · rintro w' ⟨s0, s1⟩
      go_simp
      with_reducible rfl
    rotate_left
    · simp only [Act.put, List.setIfInBounds_toArray, List.set_cons_zero, List.set_cons_succ, i64_w, i32_w, xu32_w, xu8_w]
      rfl
    refine pure_ (i := 10) (N := some 40) (v := ?_) (a' := ?_) #[true, true, true, true, true, true, true, true, true, true, true, false] rfl rfl (any_of HT_.out (by kernel_rfl)) (fun _ _ _ h => h) (Or.inl ⟨by rfl, ?_⟩) ?_ ?_
    rotate_left
    · intro w'
      go_simp
      with_reducible rfl
    rotate_left
    · simp only [Act.put, List.setIfInBounds_toArray, List.set_cons_zero, List.set_cons_succ, i64_w, i32_w, xu32_w, xu8_w]
      rfl
    refine pure_ (i := 11) (N := some 41) (v := ?_) (a' := ?_) #[true, true, true, true, true, true, true, true, true, true, true, true] rfl rfl (any_of HT_.out (by kernel_rfl)) (fun _ _ _ h => h) (Or.inl ⟨by rfl, ?_⟩) ?_ ?_
    rotate_left
    · intro w'
      go_simp
      with_reducible rfl
    rotate_left
    · simp only [Act.put, List.setIfInBounds_toArray, List.set_cons_zero, List.set_cons_succ, i64_w, i32_w, xu32_w, xu8_w]
      rfl
    refine done_ (done_of HT_.out (by kernel_rfl)) ?_
    clear hHeld HT_ HW_
    go_wp2_with (fail)
    have hb9 := HB.out
    have hz9 := hb9.size
    have hf9 := HD9.out.files.some_ s r f HK.out.1 HK.out.2.1
    have HP : Aside0 (AppPre w w9.drew D M room B dat fs st s r.F r.A r.c) := by
      have e1 : oldB st s = f.b := by unfold oldB; rw [HK.out.2.1]
      have e2 : oldL st s = f.l := by unfold oldL; rw [HK.out.2.1]
      have hG : (fun t => if t = s then some (.pointer (some ⟨r.F, 0, none⟩)) else (fs t).map (fun r => Value.pointer (some ⟨r.F, 0, none⟩))) = (fun t => (fs t).map (fun r => Value.pointer (some ⟨r.F, 0, none⟩))) := by
        funext t
        by_cases h : t = s
        · rw [if_pos h, h, HK.out.1]; rfl
        · rw [if_neg h]
      refine ⟨⟨?_, ?_, ?_, fun h0 => ?_, fun ad e => hf9.data ad e, ⟨hf9.base, ?_, ?_⟩, HD9.out.cells, by rw [hG]; exact HD9.out.files.map.move rfl, fun t q ht hq => ⟨fun e => ht (HD.out.files.inj t s q r hq HK.out.1 e), hb9.block _ (HD.out.files.lt hq)⟩, .inl ⟨r, HK.out.1, rfl⟩, fun k hk => hb9.block _ (HD.out.files.datlt k hk), ⟨hb9.os, hb9.tape, hb9.output, hz9, fun k hk _ => hb9.block k hk⟩, fun e => (by rw [HK.out.2.1] at e; cases e), HD.out.notD HK.out.1⟩⟩
      · rw [e1, e2]; exact hf9.cells
      · rw [e1]; exact row_move hf9.row (fun _ _ => rfl)
      · rw [e1]; exact hf9.cap
      · rw [e1]
        rcases Nat.eq_zero_or_pos f.b.length with h | h
        · exact List.eq_nil_of_length_eq_zero h
        · obtain ⟨ad, e, _⟩ := hf9.row.2.2 h
          rw [h0] at e; cases e
      · rw [e2]; exact hf9.low
      · rw [e1, e2]; exact hf9.high
    have HX2 : Aside0 ((Kd.int .u8).C w9.drew A x.length x) := ⟨row_move HX.out.1 (fun ad e => by
      obtain ⟨cs, fz, g⟩ := HX.out.2 ad e
      exact hb9.block _ (heap_lt g))⟩
    clear hb9 hz9 hf9 hfull hwr ht c0 hc9 hlk hln
    obtain ⟨F, hF⟩ : ∃ F : Nat, F = r.F := ⟨_, rfl⟩
    obtain ⟨A0, hA0⟩ : ∃ A0 : Option Addr, A0 = r.A := ⟨_, rfl⟩
    obtain ⟨cc, hcc⟩ : ∃ cc : Nat, cc = r.c := ⟨_, rfl⟩
    rw [← hF, ← hA0, ← hcc] at HP
    rw [← hF]
    clear hF hA0 hcc
    obtain ⟨i5, hi5, _⟩ := Option.map_eq_some_iff.1 info5
    have hsl := cut_to3 (P := Try.prog) 29 5 .i64 .i64 Try.underlying29 hi5 A0 (oldB st s).length cc ((oldB st s).length : Int) (Int.natCast_nonneg _) (Int.le_refl _) HP.out.b3
    rw [Int.toNat_natCast] at hsl
    have hbound : (oldB st s).length + x.length ≤ 1073741824 := by
      have h1 := HD.out.fit
      have h2 := HD.out.room1
      have h3 := HN.out.2.2
      have h4 := (app_total HD.out.files.sorted s x).1
      have h5 : (oldB st s).length ≤ total st := by
        unfold oldB
        cases hl : look st s with
        | none => exact Nat.zero_le _
        | some f => exact look_len hl
      omega
    obtain ⟨A1, c1, w3, hap, hC3, hcap3, hch3, hA13⟩ := app2 w9.drew.drew A0 (oldB st s) HP.out.b2 A c x HX2.out hbound HP.out.b4 29
    have HA := Aside0.mk (And.intro hC3 (And.intro hcap3 (And.intro (⟨hch3.os, hch3.tape, hch3.output, hch3.size, hch3.block⟩ : Chg (fun _ => False) w9.drew w3) hA13)))
    have hF3 := (hch3.block F (heap_lt HP.out.b1) id).trans HP.out.b1
    have hD3 := (hch3.block D (heap_lt HP.out.b7) id).trans HP.out.b7
    have g0 : w3.cell? ⟨F, 0, none⟩ = some (.slice A0 (oldB st s).length cc) := (blk_cell hF3 0).trans rfl
    have g1 := blk_frozen hF3 0
    have g2 : w3.cell? ⟨D, 2, none⟩ = some (.int .i64 (total st)) := (blk_cell hD3 2).trans rfl
    have g3 := blk_frozen hD3 2
    have g9 : w9.drew.cell? ⟨F, 0, none⟩ = some (.slice A0 (oldB st s).length cc) := (blk_cell HP.out.b1 0).trans rfl
    clear hi5 hC3 hcap3 hch3 hA13 hF3 hD3 hbound
    refine start_ (n := 21) (S := fun w' => w'.cell? ⟨F, 0, none⟩ = some (.slice A0 (oldB st s).length cc)) (ds := [20]) #[false, false, false, false, false, false, false, false, false, false, false, false, false, false, false, false, false, false, false, false, false] (by kernel_rfl) rfl rfl g9 (fun hHeld => ?_); refine with_tabW append.tab13 append.bits13 (fun HT_ HW_ => ?_)
    refine pure_ (i := 0) (N := some 52) (v := ?_) (a' := ?_) #[true, false, false, false, false, false, false, false, false, false, false, false, false, false, false, false, false, false, false, false, false] rfl rfl (any_of HT_.out (by kernel_rfl)) (fun _ _ _ h => h) (Or.inl ⟨by rfl, ?_⟩) ?_ ?_
    rotate_left
    · intro w'
      go_simp
      with_reducible rfl
    rotate_left
    · simp only [Act.put, List.setIfInBounds_toArray, List.set_cons_zero, List.set_cons_succ, i64_w, i32_w, xu32_w, xu8_w]
      rfl
    refine pure_ (i := 1) (N := some 53) (v := ?_) (a' := ?_) #[true, true, false, false, false, false, false, false, false, false, false, false, false, false, false, false, false, false, false, false, false] rfl rfl (any_of HT_.out (by kernel_rfl)) (fun _ _ _ h => h) (Or.inl ⟨by rfl, ?_⟩) ?_ ?_
    rotate_left
    · intro w'
      go_simp
      with_reducible rfl
    rotate_left
    · simp only [Act.put, List.setIfInBounds_toArray, List.set_cons_zero, List.set_cons_succ, i64_w, i32_w, xu32_w, xu8_w]
      rfl
    refine pure_ (i := 2) (N := some 54) (v := ?_) (a' := ?_) #[true, true, true, false, false, false, false, false, false, false, false, false, false, false, false, false, false, false, false, false, false] rfl rfl (any_of HT_.out (by kernel_rfl)) (fun _ _ _ h => h) (Or.inl ⟨by rfl, ?_⟩) ?_ ?_
    rotate_left
    · intro w'
      go_simp
      with_reducible rfl
    rotate_left
    · simp only [Act.put, List.setIfInBounds_toArray, List.set_cons_zero, List.set_cons_succ, i64_w, i32_w, xu32_w, xu8_w]
      rfl
    refine pure_ (i := 3) (N := some 55) (v := ?_) (a' := ?_) #[true, true, true, true, false, false, false, false, false, false, false, false, false, false, false, false, false, false, false, false, false] rfl rfl (any_of HT_.out (by kernel_rfl)) (fun _ _ _ h => h) (Or.inl ⟨by rfl, ?_⟩) ?_ ?_
    rotate_left
    · intro w'
      go_simp
      with_reducible rfl
    rotate_left
    · simp only [Act.put, List.setIfInBounds_toArray, List.set_cons_zero, List.set_cons_succ, i64_w, i32_w, xu32_w, xu8_w]
      rfl
    refine pure_ (i := 5) (N := some 57) (v := ?_) (a' := ?_) #[true, true, true, true, false, true, false, false, false, false, false, false, false, false, false, false, false, false, false, false, false] rfl rfl (any_of HT_.out (by kernel_rfl)) (fun _ _ _ h => h) (Or.inl ⟨by rfl, ?_⟩) ?_ ?_
    rotate_left
    · intro w'
      go_simp
      with_reducible rfl
    rotate_left
    · simp only [Act.put, List.setIfInBounds_toArray, List.set_cons_zero, List.set_cons_succ, i64_w, i32_w, xu32_w, xu8_w]
      rfl
    refine pure_ (i := 6) (N := some 58) (v := ?_) (a' := ?_) #[true, true, true, true, false, true, true, false, false, false, false, false, false, false, false, false, false, false, false, false, false] rfl rfl (any_of HT_.out (by kernel_rfl)) (fun _ _ _ h => h) (Or.inl ⟨by rfl, ?_⟩) ?_ ?_
    rotate_left
    · intro w'
      go_simp
      with_reducible rfl
    rotate_left
    · simp only [Act.put, List.setIfInBounds_toArray, List.set_cons_zero, List.set_cons_succ, i64_w, i32_w, xu32_w, xu8_w]
      rfl
    refine pure_ (i := 7) (N := some 59) (v := ?_) (a' := ?_) #[true, true, true, true, false, true, true, true, false, false, false, false, false, false, false, false, false, false, false, false, false] rfl rfl (any_of HT_.out (by kernel_rfl)) (fun _ _ _ h => h) (Or.inl ⟨by rfl, ?_⟩) ?_ ?_
    rotate_left
    · intro w'
      go_simp
      with_reducible rfl
    rotate_left
    · simp only [Act.put, List.setIfInBounds_toArray, List.set_cons_zero, List.set_cons_succ, i64_w, i32_w, xu32_w, xu8_w]
      rfl
    refine pure_ (i := 10) (N := some 62) (v := ?_) (a' := ?_) #[true, true, true, true, false, true, true, true, false, false, true, false, false, false, false, false, false, false, false, false, false] rfl rfl (any_of HT_.out (by kernel_rfl)) (fun _ _ _ h => h) (Or.inl ⟨by rfl, ?_⟩) ?_ ?_
    rotate_left
    · intro w'
      go_simp
      with_reducible rfl
    rotate_left
    · simp only [Act.put, List.setIfInBounds_toArray, List.set_cons_zero, List.set_cons_succ, i64_w, i32_w, xu32_w, xu8_w]
      rfl
    refine pure_ (i := 11) (N := some 63) (v := ?_) (a' := ?_) #[true, true, true, true, false, true, true, true, false, false, true, true, false, false, false, false, false, false, false, false, false] rfl rfl (any_of HT_.out (by kernel_rfl)) (fun _ _ _ h => h) (Or.inl ⟨by rfl, ?_⟩) ?_ ?_
    rotate_left
    · intro w'
      go_simp
      with_reducible rfl
    rotate_left
    · simp only [Act.put, List.setIfInBounds_toArray, List.set_cons_zero, List.set_cons_succ, i64_w, i32_w, xu32_w, xu8_w]
      rfl
    refine pure_ (i := 12) (N := some 64) (v := ?_) (a' := ?_) #[true, true, true, true, false, true, true, true, false, false, true, true, true, false, false, false, false, false, false, false, false] rfl rfl (any_of HT_.out (by kernel_rfl)) (fun _ _ _ h => h) (Or.inl ⟨by rfl, ?_⟩) ?_ ?_
    rotate_left
    · intro w'
      go_simp
      with_reducible rfl
    rotate_left
    · simp only [Act.put, List.setIfInBounds_toArray, List.set_cons_zero, List.set_cons_succ, i64_w, i32_w, xu32_w, xu8_w]
      rfl
    refine pure_ (i := 16) (N := some 68) (v := ?_) (a' := ?_) #[true, true, true, true, false, true, true, true, false, false, true, true, true, false, false, false, true, false, false, false, false] rfl rfl (any_of HT_.out (by kernel_rfl)) (fun _ _ _ h => h) (Or.inl ⟨by rfl, ?_⟩) ?_ ?_
    rotate_left
    · intro w'
      go_simp
      with_reducible rfl
    rotate_left
    · simp only [Act.put, List.setIfInBounds_toArray, List.set_cons_zero, List.set_cons_succ, i64_w, i32_w, xu32_w, xu8_w]
      rfl
    refine take_ (i := 4) (N := some 56) (v := ?_) (a' := ?_) #[true, true, true, true, true, true, true, true, false, false, true, true, true, false, false, false, true, false, false, false, false] rfl rfl (take_ofW HT_.out HW_.out (by kernel_rfl)) (fun _ _ _ h => h) (Or.inl ⟨by rfl, ?_⟩) hHeld ?_ ?_
    rotate_left
    · rintro w' s0
      go_simp
      with_reducible rfl
    rotate_left
    · simp only [Act.put, List.setIfInBounds_toArray, List.set_cons_zero, List.set_cons_succ, i64_w, i32_w, xu32_w, xu8_w]
      rfl
    refine take_ (i := 8) (N := some 60) (v := ?_) (a' := ?_) #[true, true, true, true, true, true, true, true, true, false, true, true, true, false, false, false, true, false, false, false, false] rfl rfl (take_ofW HT_.out HW_.out (by kernel_rfl)) (fun _ _ _ h => h) (Or.inl ⟨by rfl, ?_⟩) hHeld ?_ ?_
    rotate_left
    · rintro w' s0
      go_simp
      with_reducible rfl
    rotate_left
    · simp only [Act.put, List.setIfInBounds_toArray, List.set_cons_zero, List.set_cons_succ, i64_w, i32_w, xu32_w, xu8_w]
      rfl
    refine pure_ (i := 9) (N := some 61) (v := ?_) (a' := ?_) #[true, true, true, true, true, true, true, true, true, true, true, true, true, false, false, false, true, false, false, false, false] rfl rfl (any_of HT_.out (by kernel_rfl)) (fun _ _ _ h => h) (Or.inl ⟨by rfl, ?_⟩) ?_ ?_
    rotate_left
    · intro w'
      go_simp
      with_reducible rfl
    rotate_left
    · simp only [Act.put, List.setIfInBounds_toArray, List.set_cons_zero, List.set_cons_succ, i64_w, i32_w, xu32_w, xu8_w]
      rfl
    refine take_ (i := 13) (N := some 65) (v := ?_) (a' := ?_) #[true, true, true, true, true, true, true, true, true, true, true, true, true, true, false, false, true, false, false, false, false] rfl rfl (take_ofW HT_.out HW_.out (by kernel_rfl)) (fun _ _ _ h => h) (Or.inl ⟨by rfl, ?_⟩) hHeld ?_ ?_
    rotate_left
    · rintro w' s0
      go_simp
      with_reducible rfl
    rotate_left
    · simp only [Act.put, List.setIfInBounds_toArray, List.set_cons_zero, List.set_cons_succ, i64_w, i32_w, xu32_w, xu8_w]
      rfl
    refine pure_ (i := 14) (N := some 66) (v := ?_) (a' := ?_) #[true, true, true, true, true, true, true, true, true, true, true, true, true, true, true, false, true, false, false, false, false] rfl rfl (any_of HT_.out (by kernel_rfl)) (fun _ _ _ h => h) (Or.inl ⟨by rfl, ?_⟩) ?_ ?_
    rotate_left
    · intro w'
      go_simp
      with_reducible rfl
    rotate_left
    · simp only [Act.put, List.setIfInBounds_toArray, List.set_cons_zero, List.set_cons_succ, i64_w, i32_w, xu32_w, xu8_w]
      rfl
    refine pure_ (i := 15) (N := some 67) (v := ?_) (a' := ?_) #[true, true, true, true, true, true, true, true, true, true, true, true, true, true, true, true, true, false, false, false, false] rfl rfl (any_of HT_.out (by kernel_rfl)) (fun _ _ _ h => h) (Or.inl ⟨by rfl, ?_⟩) ?_ ?_
    rotate_left
    · intro w'
      go_simp
      with_reducible rfl
    rotate_left
    · simp only [Act.put, List.setIfInBounds_toArray, List.set_cons_zero, List.set_cons_succ, i64_w, i32_w, xu32_w, xu8_w]
      rfl
    refine one_ (i := 17) (N := some 69) #[true, true, true, true, true, true, true, true, true, true, true, true, true, true, true, true, true, true, false, false, false] rfl rfl (one_of HT_.out (by kernel_rfl)) (by decide) (fun K hK => ?_)
    refine append_step (by rfl) (.tmp 67) (.tmp 68) 29 rfl _ _ rfl rfl (.slice A1 (oldB st s ++ x).length c1) w3 hap ?_
    refine hK.out _ _ g0 (fun hHeld => ?_)
    clear hK K
    refine norm_ (a' := ?_) ?_ ?_
    rotate_left
    · show Act.put _ (some 69) _ = _
      simp only [Act.put, List.setIfInBounds_toArray, List.set_cons_zero, List.set_cons_succ, i64_w, i32_w, xu32_w, xu8_w]
      rfl
    refine pure_ (i := 18) (N := some 70) (v := ?_) (a' := ?_) #[true, true, true, true, true, true, true, true, true, true, true, true, true, true, true, true, true, true, true, false, false] rfl rfl (any_of HT_.out (by kernel_rfl)) (fun _ _ _ h => h) (Or.inl ⟨by rfl, ?_⟩) ?_ ?_
    rotate_left
    · intro w'
      go_simp
      with_reducible rfl
    rotate_left
    · simp only [Act.put, List.setIfInBounds_toArray, List.set_cons_zero, List.set_cons_succ, i64_w, i32_w, xu32_w, xu8_w]
      rfl
    refine pure_ (i := 19) (N := some 71) (v := ?_) (a' := ?_) #[true, true, true, true, true, true, true, true, true, true, true, true, true, true, true, true, true, true, true, true, false] rfl rfl (any_of HT_.out (by kernel_rfl)) (fun _ _ _ h => h) (Or.inl ⟨by rfl, ?_⟩) ?_ ?_
    rotate_left
    · intro w'
      go_simp
      with_reducible rfl
    rotate_left
    · simp only [Act.put, List.setIfInBounds_toArray, List.set_cons_zero, List.set_cons_succ, i64_w, i32_w, xu32_w, xu8_w]
      rfl
    refine last_ (i := 20) (N := none) #[true, true, true, true, true, true, true, true, true, true, true, true, true, true, true, true, true, true, true, true, true] rfl rfl (one_of HT_.out (by kernel_rfl)) (by decide) (fun K hK => ?_)
    refine skip_ (w1 := w3.setCell ⟨F, 0, none⟩ (.slice A1 (oldB st s ++ x).length c1)) (by rfl) rfl (by first | (go_simp; done) | (go_simp; rfl)) ?_
    refine hK.out _ _ ?_
    clear hK K
    refine done_ (done_of HT_.out (by kernel_rfl)) ?_
    clear hHeld HT_ HW_
    go_wp2_with (fail)
    go_ret
    have hv : wrap64 ((total st : Int) + (x.length : Int)) = ((total (appS st s x) : Nat) : Int) := by
      have h1 := HD.out.fit
      have h2 := HD.out.room1
      have h3 := HN.out.2.2
      have h4 := (app_total HD.out.files.sorted s x).1
      rw [wrap_id (by omega) (by omega)]; omega
    rw [hv, ← List.length_append]
    obtain ⟨a1, a2, a3, a4⟩ := HA.out
    exact ⟨rfl, HP.out.done HD.out x w3 A1 c1 a1 a2 a3 a4 (by have := HN.out.2.2; omega) (title_size HN.out.1) (Nat.le_trans HD.out.baseD (Nat.le_of_lt (heap_lt HD.out.cells)))⟩
end
end Go.Proofs.Ytkdbojaoaldmbaa.G
