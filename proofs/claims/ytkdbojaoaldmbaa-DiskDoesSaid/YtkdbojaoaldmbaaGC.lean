import Derived.Test.YtkdbojaoaldmbaaG10
/- The disk by hand: Crash. -/
namespace Go.Proofs.Ytkdbojaoaldmbaa.G
open Go.RowKit Go.Proofs.Ytkdbojaoaldmbaa.Q Go.Proofs.YtkdbojaoaldmbaaW.PrintWords Go.Proofs.YtkdbojaoaldmbaaW.PrintLast Go.Proofs.YtkdbojaoaldmbaaW.PrintMore
set_option linter.unusedVariables false
set_option linter.unusedSimpArgs false
theorem max2_mx (k k' : IntKind) (x y : Int) : Builtin.max2 (.int k x) (.int k' y) = pure (.int k (mx x y)) := by rw [max2_int]; rfl
theorem min2_mn (k k' : IntKind) (x y : Int) : Builtin.min2 (.int k x) (.int k' y) = pure (.int k (mn x y)) := by rw [min2_int]; rfl
attribute [local go_sem] min2_mn min_two max2_mx max_two
def crash.T5 : Bool × List (List Nat × List Nat) := (true, [([], []), ([0], [0]), ([1], [1]), ([2], [2]), ([], []), ([4], [4]), ([], []), ([6], [6]), ([7], [7]), ([8], [8]), ([9], [9]), ([], []), ([11], [11]), ([12], [12]), ([13], [13]), ([10, 14], [10, 14]), ([5, 15], [5, 15]), ([3, 16], [3, 16]), ([17, 0, 1, 2, 3, 4, 5, 6, 7, 8, 9, 10, 11, 12, 13, 14, 15, 16, 17], [17])])
def crash.B5 : List Nat := [0, 1, 3, 7, 0, 16, 0, 64, 192, 448, 960, 0, 2048, 6144, 14336, 32704, 65520, 131071, 262143]
theorem crash.tab5 : rtab .any (opsOf Try.f17 5) = crash.T5 := by kernel_rfl
theorem crash.bits5 : waitsOk crash.T5.2 crash.B5 = true := by kernel_rfl
def crash.T6 : Bool × List (List Nat × List Nat) := (true, [([], []), ([0], [0]), ([1], [1]), ([2], [2]), ([], []), ([4], [4]), ([5], [5]), ([6], [6]), ([7], [7]), ([], []), ([8, 9], [8, 9]), ([3, 10], [3, 10]), ([0, 0, 1, 2, 3, 4, 5, 6, 7, 8, 9, 10, 11], [0]), ([12, 0, 1, 2, 3, 4, 5, 6, 7, 8, 9, 10, 11], [12]), ([13, 11, 0, 1, 2, 3, 4, 5, 6, 7, 8, 9, 10, 11], [11, 13])])
def crash.B6 : List Nat := [0, 1, 3, 7, 0, 16, 48, 112, 240, 0, 1008, 2047, 4095, 8191, 16383]
theorem crash.tab6 : rtab .any (opsOf Try.f17 6) = crash.T6 := by kernel_rfl
theorem crash.bits6 : waitsOk crash.T6.2 crash.B6 = true := by kernel_rfl
/-- How much of a file is left. -/
def kpI (keep : Int) (f : FS) : Int := f.l + mn (mx keep 0) (f.b.length - f.l)
def kpN (keep : Int) (f : FS) : Nat := (kpI keep f).toNat
theorem kp_le {keep : Int} {f : FS} (h0 : 0 ≤ f.l) (h1 : f.l ≤ f.b.length) : kpI keep f = (kpN keep f : Int) ∧ kpN keep f ≤ f.b.length ∧ f.l ≤ kpI keep f := by
  unfold kpN kpI mn mx
  split <;> split <;> omega
def crashF (keep : Int) (f : FS) : FS := ⟨f.n, f.b.take (kpN keep f), (kpN keep f : Nat)⟩
def crashO (keep : Int) (o : Option FS) : Option FS := match o with | some f => if kpN keep f = 0 then none else some (crashF keep f) | none => none
def crash1 (keep : Int) (st : St) (s : ByteArray) : St := match look st s with | some f => if kpN keep f = 0 then drop st s else put st (crashF keep f) | none => st
def crashS (keep : Int) (st : St) : St := st.filterMap (fun f => if kpN keep f = 0 then none else some (crashF keep f))
theorem look_crash1 {st : St} (hs : Sorted st) (keep : Int) (s t : ByteArray) : look (crash1 keep st s) t = if t = s then crashO keep (look st t) else look st t := by
  unfold crash1
  cases hl : look st s with
  | none =>
    dsimp only
    by_cases h : t = s
    · rw [if_pos h, h, hl]; rfl
    · rw [if_neg h]
  | some f =>
    dsimp only
    have hn := (look_mem hl).2
    by_cases hk : kpN keep f = 0
    · rw [if_pos hk, look_drop]
      by_cases h : t = s
      · rw [if_pos h, if_pos h, h, hl]; unfold crashO; dsimp only; rw [if_pos hk]
      · rw [if_neg h, if_neg h]
    · rw [if_neg hk, look_put _ _ hs, show (crashF keep f).n = f.n from rfl, hn]
      by_cases h : t = s
      · rw [if_pos h, if_pos h, h, hl]; unfold crashO; dsimp only; rw [if_neg hk]
      · rw [if_neg h, if_neg h]
theorem sorted_crash1 {st : St} (hs : Sorted st) (keep : Int) (s : ByteArray) : Sorted (crash1 keep st s) := by
  unfold crash1
  split
  · split
    · exact drop_sorted _ hs
    · exact put_sorted _ hs
  · exact hs
def crashL (keep : Int) (st : St) (l : List ByteArray) : St := l.foldl (crash1 keep) st
theorem look_crashL (keep : Int) : ∀ (l : List ByteArray) {st : St}, Sorted st → l.Nodup → ∀ t, (t ∈ l → look (crashL keep st l) t = crashO keep (look st t)) ∧ (t ∉ l → look (crashL keep st l) t = look st t)
  | [], st, hs, hn, t => ⟨fun h => by simp at h, fun _ => rfl⟩
  | s :: l, st, hs, hn, t => by
    obtain ⟨h1, h2⟩ := List.nodup_cons.1 hn
    have ih := look_crashL keep l (sorted_crash1 hs keep s) h2 t
    show (_ → look (crashL keep (crash1 keep st s) l) t = _) ∧ (_ → look (crashL keep (crash1 keep st s) l) t = _)
    rw [look_crash1 hs] at ih
    by_cases ht : t = s
    · subst ht
      rw [if_pos rfl] at ih
      exact ⟨fun _ => ih.2 h1, fun h => absurd List.mem_cons_self h⟩
    · rw [if_neg ht] at ih
      exact ⟨fun h => ih.1 ((List.mem_cons.1 h).resolve_left ht), fun h => ih.2 (fun e => h (List.mem_cons_of_mem _ e))⟩
theorem sorted_crashL (keep : Int) : ∀ (l : List ByteArray) {st : St}, Sorted st → Sorted (crashL keep st l)
  | [], st, hs => hs
  | s :: l, st, hs => sorted_crashL keep l (sorted_crash1 hs keep s)
theorem mem_crashS {keep : Int} {st : St} {g : FS} (h : g ∈ crashS keep st) : ∃ f ∈ st, g.n = f.n ∧ kpN keep f ≠ 0 ∧ g = crashF keep f := by
  unfold crashS at h
  obtain ⟨f, hf, h⟩ := List.mem_filterMap.1 h
  by_cases hk : kpN keep f = 0
  · rw [if_pos hk] at h; cases h
  · rw [if_neg hk] at h; injection h with h; subst h; exact ⟨f, hf, rfl, hk, rfl⟩
theorem sorted_crashS {keep : Int} : ∀ {st : St}, Sorted st → Sorted (crashS keep st)
  | [], _ => List.Pairwise.nil
  | f :: st, hs => by
    obtain ⟨h1, h2⟩ := List.pairwise_cons.1 hs
    have ih := sorted_crashS (keep := keep) h2
    unfold crashS at ih ⊢
    rw [List.filterMap_cons]
    by_cases hk : kpN keep f = 0
    · rw [if_pos hk]; exact ih
    · rw [if_neg hk]
      refine List.pairwise_cons.2 ⟨fun g hg => ?_, ih⟩
      obtain ⟨f', hf', e, _⟩ := mem_crashS (keep := keep) (st := st) hg
      rw [e]
      exact h1 f' hf'
theorem look_crashS {keep : Int} {st : St} (hs : Sorted st) (t : ByteArray) : look (crashS keep st) t = crashO keep (look st t) := by
  cases hl : look st t with
  | none =>
    show _ = none
    refine look_none.2 (fun g hg e => ?_)
    obtain ⟨f, hf, e2, _⟩ := mem_crashS hg
    exact look_none.1 hl f hf (by rw [← e2, e])
  | some f =>
    unfold crashO
    dsimp only
    obtain ⟨hf, hn⟩ := look_mem hl
    by_cases hk : kpN keep f = 0
    · rw [if_pos hk]
      refine look_none.2 (fun g hg e => ?_)
      obtain ⟨f', hf', e2, hk', _⟩ := mem_crashS hg
      have h1 := look_of_mem hs hf'
      rw [← e2, e, hl] at h1
      injection h1 with h1
      rw [h1] at hk
      exact hk' hk
    · rw [if_neg hk]
      have hm : crashF keep f ∈ crashS keep st := List.mem_filterMap.2 ⟨f, hf, by rw [if_neg hk]⟩
      have := look_of_mem (sorted_crashS hs) hm
      rw [show (crashF keep f).n = t from hn] at this
      exact this
theorem nodup_names {st : St} (hs : Sorted st) : (st.map (·.n)).Nodup := List.pairwise_map.2 (hs.imp (fun {a b} hab e => hab.ne e))
theorem mem_names {st : St} {s : ByteArray} : s ∈ st.map (·.n) ↔ look st s ≠ none := by
  constructor
  · intro h e
    obtain ⟨f, hf, rfl⟩ := List.mem_map.1 h
    exact look_none.1 e f hf rfl
  · intro h
    cases hl : look st s with
    | none => exact absurd hl h
    | some f => exact List.mem_map.2 ⟨f, look_mem hl⟩
theorem crashL_all {keep : Int} {st : St} (hs : Sorted st) : crashL keep st (st.map (·.n)) = crashS keep st := by
  refine sorted_ext (sorted_crashL keep _ hs) (sorted_crashS hs) (fun t => ?_)
  obtain ⟨g1, g2⟩ := look_crashL keep _ hs (nodup_names hs) t
  rw [look_crashS hs]
  by_cases h : t ∈ st.map (·.n)
  · exact g1 h
  · rw [g2 h]
    cases hl : look st t with
    | none => rfl
    | some f => exact absurd (mem_names.2 (by rw [hl]; simp)) h
section
variable {w w' w1 w2 : World} {D M B : Nat} {room : Int} {dat dat' dat1 : Nat → Prop} {fs fs1 : ByteArray → Option Raw} {st st' st1 st2 : St}
theorem Left.drew (h : Left w D M room B dat fs st' w') : Left w D M room B dat fs st' w'.drew := by
  obtain ⟨d, f, h1, h2, h3⟩ := h
  exact ⟨d, f, h1.move (Nat.le_refl _) (fun _ _ _ => rfl), ⟨h2.os, h2.tape, h2.output, h2.size, h2.block⟩, h3⟩
/-- Who stands where an act has been: what it left, and that nothing but its own has turned. -/
structure Went (w : World) (D M : Nat) (dat : Nat → Prop) (fs : ByteArray → Option Raw) (dat1 : Nat → Prop) (fs1 : ByteArray → Option Raw) (w1 : World) : Prop where
  chg : Chg (Mine D M fs) w w1
  old : ∀ k, dat1 k → dat k ∨ w.heap.size ≤ k
  sub : ∀ k, dat k → dat1 k
  raw : ∀ s r, fs1 s = some r → (∃ t q, fs t = some q ∧ q.F = r.F) ∨ w.heap.size ≤ r.F
theorem Left.split (h : Left w D M room B dat fs st' w') : ∃ dat1 fs1, DiskG w' D M room B dat1 fs1 st' ∧ Went w D M dat fs dat1 fs1 w' := by
  obtain ⟨d, f, h1, h2, h3, h4, h5⟩ := h
  exact ⟨d, f, h1, ⟨h2, h3, h4, h5⟩⟩
theorem Went.left (hD : DiskG w1 D M room B dat1 fs1 st1) (h : Went w D M dat fs dat1 fs1 w1) : Left w D M room B dat fs st1 w1 := ⟨dat1, fs1, hD, h.chg, h.old, h.sub, h.raw⟩
theorem Went.refl (w : World) (D M : Nat) (dat : Nat → Prop) (fs : ByteArray → Option Raw) : Went w D M dat fs dat fs w := ⟨Chg.refl _ _, fun _ h => .inl h, fun _ h => h, fun s r h => .inl ⟨s, r, h, rfl⟩⟩
theorem Went.below (hb : Below w.heap.size w w1) : Went w D M dat fs dat fs w1 := ⟨Chg.of_below _ hb, fun _ h => .inl h, fun _ h => h, fun s r h => .inl ⟨s, r, h, rfl⟩⟩
theorem Went.trans {dat2 : Nat → Prop} {fs2 : ByteArray → Option Raw} (h1 : Went w D M dat fs dat1 fs1 w1) (h2 : Went w1 D M dat1 fs1 dat2 fs2 w2) : Went w D M dat fs dat2 fs2 w2 where
  chg := h1.chg.trans h2.chg (fun _ _ e => e) (fun k hk e => by
    rcases e with e | e | ⟨s, r, e1, e2⟩
    · exact .inl e
    · exact .inr (.inl e)
    · rcases h1.raw s r e1 with ⟨t, q, q1, q2⟩ | hq
      · exact .inr (.inr ⟨t, q, q1, by rw [e2, q2]⟩)
      · omega)
  old := fun k hk => (h2.old k hk).elim (fun e => h1.old k e) (fun e => .inr (by have := h1.chg.size; omega))
  sub := fun k hk => h2.sub k (h1.sub k hk)
  raw := fun s r hs => (h2.raw s r hs).elim (fun ⟨t, q, q1, q2⟩ => by rw [← q2]; exact h1.raw t q q1) (fun e => .inr (by have := h1.chg.size; omega))
theorem DiskG.mine_cells (h : DiskG w D M room B dat fs st) {k : Nat} (hk : Mine D M fs k) {cs : Array Value} {q : TypeId} {fz : Nat × Nat} (hb : w.heap[k]? = some (.cells cs q fz)) : q = 57 ∨ q = 68 := by
  rcases hk with e | e | ⟨s, r, hs, e⟩
  · rw [e, h.cells] at hb; injection hb with hb; injection hb with _ hb; exact .inl hb.symm
  · obtain ⟨ma, clk, hm, _⟩ := h.files.map
    rw [e, hm] at hb; cases hb
  · rcases h.files.at_ s with ⟨h1, _⟩ | ⟨r', f, h1, _, hf⟩
    · rw [h1] at hs; cases hs
    · rw [h1] at hs; cases hs
      rw [e, hf.cells] at hb; injection hb with hb; injection hb with _ hb; exact .inr hb.symm
/-- A row that is no disk's stays. -/
theorem row_keep {α : Type} {d : Kd α} {e base : Nat} {ok : Nat → Prop} {v : Value} {xs : List α} (h : DiskG w D M room B dat fs st) (hR : d.R e w base ok v xs) (ht : ∀ q, q ∈ e :: d.E → q ≠ 57 ∧ q ≠ 68) (hc : Chg (Mine D M fs) w w') : d.R e w' base ok v xs :=
  Kd.R_mono (Kd.R_step (Kd.R_bound hR) (fun k hk hlt => hc.block k hlt (fun hm => by
    obtain ⟨q, hq, cs, hb⟩ := hk.2.2.2
    exact (h.mine_cells hm hb).elim (ht q hq).1 (ht q hq).2))) (fun k hk => hk.1)
/-- A file is cut. -/
theorem cut_left (h : DiskG w D M room B dat fs st) {s : ByteArray} {r : Raw} {f : FS} (hs : fs s = some r) (hl : look st s = some f) (n : Nat) (hn : n ≤ f.b.length) :
    Left w D M room B dat fs (put st ⟨f.n, f.b.take n, (n : Nat)⟩) (((w.setCell ⟨D, 2, none⟩ (.int .i64 (total (put st ⟨f.n, f.b.take n, (n : Nat)⟩) : Nat))).setCell ⟨r.F, 0, none⟩ (.slice r.A n n)).setCell ⟨r.F, 1, none⟩ (.int .i64 (n : Nat))) := by
  have hf := h.files.some_ s r f hs hl
  have hne := h.notD hs
  have hnn : f.n = s := (look_mem hl).2
  have htl : (f.b.take n).length = n := by rw [List.length_take]; omega
  have htp := (total_put ⟨f.n, f.b.take n, (n : Nat)⟩ h.files.sorted).1
  rw [hnn, hl] at htp
  dsimp only at htp
  rw [htl] at htp
  have hfit := h.fit
  generalize hT : (total (put st ⟨f.n, f.b.take n, (n : Nat)⟩) : Nat) = T
  have hF0 : (w.setCell ⟨D, 2, none⟩ (.int .i64 (T : Int))).heap[r.F]? = some (.cells #[.slice r.A f.b.length r.c, .int .i64 f.l] 68 (0, 0)) := (Below.heap_setCell _ _ _ r.F hne.1).trans hf.cells
  have hF3 := blk_put (blk_put hF0 0 (.slice r.A n n) rfl) 1 (.int .i64 (n : Nat)) rfl
  have hc : Chg (fun k => k = D ∨ k = r.F) w (((w.setCell ⟨D, 2, none⟩ (.int .i64 (T : Int))).setCell ⟨r.F, 0, none⟩ (.slice r.A n n)).setCell ⟨r.F, 1, none⟩ (.int .i64 (n : Nat))) := (((Chg.refl _ w).set _ _ (.inl rfl)).set _ _ (.inr rfl)).set _ _ (.inr rfl)
  have hD1 := blk_put h.cells 2 (.int .i64 (T : Int)) rfl
  have hD3 : (((w.setCell ⟨D, 2, none⟩ (.int .i64 (T : Int))).setCell ⟨r.F, 0, none⟩ (.slice r.A n n)).setCell ⟨r.F, 1, none⟩ (.int .i64 (n : Nat))).heap[D]? = some (.cells #[.map (some M), .int .i64 room, .int .i64 (T : Int)] 57 (0, 0)) := by
    rw [Below.heap_setCell _ _ _ D (fun e => hne.1 e.symm), Below.heap_setCell _ _ _ D (fun e => hne.1 e.symm)]; exact hD1
  have hdt : ∀ ad, r.A = some ad → (((w.setCell ⟨D, 2, none⟩ (.int .i64 (T : Int))).setCell ⟨r.F, 0, none⟩ (.slice r.A n n)).setCell ⟨r.F, 1, none⟩ (.int .i64 (n : Nat))).heap[ad.block]? = w.heap[ad.block]? := fun ad e => by
    obtain ⟨g1, g2, cs, fz, g3⟩ := hf.data ad e
    have hdd := h.datne g1
    exact hc.block _ (heap_lt g3) (fun e2 => e2.elim hdd.1 (hdd.2.2 s r hs))
  refine left_file h hs hl ⟨r.F, r.A, n⟩ ⟨f.n, f.b.take n, (n : Nat)⟩ hnn rfl hc.size (by rw [hT]; exact hD3) ?_ ⟨by rw [htl]; exact hF3, row_move (Kd.C_take hf.row hn) hdt, by rw [htl]; exact Nat.le_refl _, fun ad e => ?_, hf.base, by simp, ?_⟩ hc
  · rw [hT]; rw [hnn] at hT; omega
  · obtain ⟨g1, g2, cs, fz, g3⟩ := hf.data ad e
    exact ⟨g1, g2, cs, fz, (hdt ad e).trans g3⟩
  · show ((n : Nat) : Int) ≤ ((f.b.take n).length : Int)
    rw [htl]; exact Int.le_refl _
/-- What the loop of Crash keeps. -/
def CrashInv (w : World) (D M : Nat) (room : Int) (B : Nat) (dat : Nat → Prop) (fs : ByteArray → Option Raw) (st : St) (keep : Int) (v : Value) (wr : World) (i : Nat) : Prop :=
  ∃ dat1 fs1, DiskG wr D M room B dat1 fs1 (crashL keep st ((st.map (·.n)).take i)) ∧ Went w D M dat fs dat1 fs1 wr ∧ Kd.string.R 9 wr w.heap.size (fun k => w.heap.size ≤ k) v (st.map (·.n))
theorem CrashInv.next {keep : Int} {v : Value} {i : Nat} {wr : World} {s : ByteArray} (hi : (st.map (·.n))[i]? = some s) (hD : DiskG w1 D M room B dat1 fs1 (crashL keep st ((st.map (·.n)).take i))) (hw : Went w D M dat fs dat1 fs1 w1) (hR : Kd.string.R 9 w1 w.heap.size (fun k => w.heap.size ≤ k) v (st.map (·.n)))
    (hl : Left w1 D M room B dat1 fs1 (crash1 keep (crashL keep st ((st.map (·.n)).take i)) s) wr) : CrashInv w D M room B dat fs st keep v wr (i + 1) := by
  obtain ⟨dat2, fs2, hD2, hw2⟩ := hl.split
  refine ⟨dat2, fs2, ?_, hw.trans hw2, row_keep hD hR (fun q hq => ?_) hw2.chg⟩
  · have : crashL keep st ((st.map (·.n)).take (i + 1)) = crash1 keep (crashL keep st ((st.map (·.n)).take i)) s := by
      unfold crashL
      rw [List.take_add_one, hi]
      simp [List.foldl_append]
    rw [this]
    exact hD2
  · have : q = 9 := by simpa [Kd.string, Kd.scalar] using hq
    subst this
    decide
end
end Go.Proofs.Ytkdbojaoaldmbaa.G

/- The disk by hand: Crash, walked. -/
namespace Go.Proofs.Ytkdbojaoaldmbaa.G
open Go.RowKit Go.Proofs.Ytkdbojaoaldmbaa.Q Go.Proofs.YtkdbojaoaldmbaaW.PrintWords Go.Proofs.YtkdbojaoaldmbaaW.PrintLast Go.Proofs.YtkdbojaoaldmbaaW.PrintMore
set_option linter.unusedVariables false
set_option linter.unusedSimpArgs false
attribute [local go_sem] min2_mn min_two max2_mx max_two
section
variable {w w' w1 w2 : World} {D M B : Nat} {room : Int} {dat dat' dat1 : Nat → Prop} {fs fs1 : ByteArray → Option Raw} {st st' st1 st2 : St}
set_option maxHeartbeats 2000000 in
set_option maxRecDepth 100000 in
theorem crash_calls (h : DiskG w D M room B dat fs st) (keep : Int) : Calls Try.prog 17 #[.pointer (some ⟨D, 0, none⟩), .int .i64 keep] w fun e w' => e = .returned (.tuple #[]) ∧ Left w D M room B dat fs (crashS keep st) w' := by
  have c0 := h.cell.1
  have HD := Aside0.mk h
  clear h
  go_enter Try.func17, Try.ntmps17
  go_wp2_with (first
    | (go_at_call 30; (with_reducible refine (ok_calls D M _ c0).mono ?_); rintro e w9 ⟨rfl, h9⟩; subst w9)
    | (go_at_call 11; (with_reducible refine (list_calls HD.out).mono ?_); rintro e w1 ⟨v, rfl, hR, hB⟩; obtain ⟨A1, c1, hv⟩ := Kd.R_slice hR; rw [List.length_map] at hv; subst hv; obtain ⟨n, hn⟩ : ∃ n : Nat, n = st.length := ⟨_, rfl⟩; rw [← hn] at hR ⊢; have HL := Aside0.mk hn; clear hn; have HR := Aside0.mk hR; have HB := Aside0.mk hB; clear hR hB))
  go_loopg [14] (n + 1) (fun kq v14 wr => ∃ (i : Nat), v14 = .int .i64 i ∧ Aside0 (kq + i = n + 1 ∧ i ≤ n) ∧ Aside0 (CrashInv w D M room B dat fs st keep (.slice A1 n c1) wr i))
  case atStart => exact ⟨0, rfl, ⟨by omega⟩, ⟨dat, fs, HD.out.below HB.out, Went.below HB.out, HR.out⟩⟩
  case round =>
    obtain ⟨i, rfl, HK, HI⟩ := hrel
    clear HR HB c0
    cases gk with
    | zero => have := HK.out; omega
    | succ k1 =>
    have hfew : n ≤ 64 := by have := HD.out.few; have := HL.out; omega
    have HFW := Aside0.mk hfew
    clear hfew
    by_cases hlt : i < n
    · obtain ⟨dat1, fs1, hD1, hw1, hR1⟩ := HI.out
      obtain ⟨hrl, hcap, hC⟩ := Kd.R_reads' hR1
      clear hrl
      obtain ⟨ad, hA, x0⟩ := Kd.at_string hC (i : Int) (by omega) (by rw [List.length_map]; have := HL.out; omega)
      subst hA
      have hi1 : (i : Int) < (n : Int) := by omega
      simp only [Int.toNat_natCast] at x0
      have hs : (st.map (·.n))[i]? = some (rdOf ByteArray.empty (st.map (·.n)) (i : Int)) := by
        unfold rdOf
        rw [Int.toNat_natCast, List.getD_eq_getElem?_getD, List.getElem?_eq_getElem (by rw [List.length_map]; have := HL.out; omega)]
        rfl
      generalize rdOf ByteArray.empty (st.map (·.n)) (i : Int) = s at x0 hs
      have hlk0 : look (crashL keep st ((st.map (·.n)).take i)) s = look st s := (look_crashL keep _ HD.out.files.sorted ((nodup_names HD.out.files.sorted).sublist (List.take_sublist _ _)) s).2 (fun hm => by
        obtain ⟨j, hj⟩ := List.getElem?_of_mem hm
        have hji : j < i := by
          have := (List.getElem?_eq_some_iff.1 hj).1
          rw [List.length_take] at this
          omega
        rw [List.getElem?_take_of_lt hji] at hj
        have := (List.getElem?_inj (by rw [List.length_map]; have := HL.out; omega) (nodup_names HD.out.files.sorted)).1 (hj.trans hs.symm)
        omega)
      have hsome : look st s ≠ none := mem_names.1 (List.mem_of_getElem? hs)
      generalize hst : crashL keep st ((st.map (·.n)).take i) = st' at hD1 hlk0
      rcases hD1.files.at_ s with ⟨k1', k2⟩ | ⟨r, f, k1', k2, kf⟩
      · rw [hlk0] at k2; exact absurd k2 hsome
      have hlk := hD1.files.look s
      rw [k1'] at hlk
      dsimp only at hlk
      have hc0 := hD1.cell.1
      have hll : (f.b.length : Int) ≤ 16777216 := by have h1 := look_len k2; have h2 := hD1.fit; have h3 := hD1.room1; omega
      obtain ⟨hk1, hk2, hk3⟩ := kp_le (keep := keep) kf.low kf.high
      have HK1 := Aside0.mk k1'
      have HK2 := Aside0.mk k2
      have HF := Aside0.mk kf
      have HD1 := Aside0.mk hD1
      have HW1 := Aside0.mk hw1
      have HR1 := Aside0.mk hR1
      have HS := Aside0.mk (And.intro hs hst)
      have HN := Aside0.mk (And.intro hll (And.intro hk1 (And.intro hk2 hk3)))
      clear k1' k2 kf hD1 hw1 hR1 hs hst hlk0 hsome hcap hC hll hk1 hk2 hk3
      go_wp2_with (fail)
      refine start_ (n := 19) (S := fun w' => w'.cell? ⟨r.F, 1, none⟩ = some (.int .i64 f.l) ∧ w'.cell? ⟨r.F, 0, none⟩ = some (.slice r.A f.b.length r.c)) (ds := []) #[false, false, false, false, false, false, false, false, false, false, false, false, false, false, false, false, false, false, false] (by kernel_rfl) rfl rfl ⟨HF.out.cell.2.1, HF.out.cell.1⟩ (fun hHeld => ?_); refine with_tabW crash.tab5 crash.bits5 (fun HT_ HW_ => ?_)
      refine pure_ (i := 0) (N := some 24) (v := ?_) (a' := ?_) #[true, false, false, false, false, false, false, false, false, false, false, false, false, false, false, false, false, false, false] rfl rfl (any_of HT_.out (by kernel_rfl)) (fun _ _ _ h => h) (Or.inl ⟨by rfl, ?_⟩) ?_ ?_
      rotate_left
      · intro w'
        go_simp
        with_reducible rfl
      rotate_left
      · simp only [Act.put, List.setIfInBounds_toArray, List.set_cons_zero, List.set_cons_succ, i64_w, i32_w, xu32_w, xu8_w]
        rfl
      refine pure_ (i := 1) (N := some 25) (v := ?_) (a' := ?_) #[true, true, false, false, false, false, false, false, false, false, false, false, false, false, false, false, false, false, false] rfl rfl (any_of HT_.out (by kernel_rfl)) (fun _ _ _ h => h) (Or.inl ⟨by rfl, ?_⟩) ?_ ?_
      rotate_left
      · intro w'
        go_simp
        with_reducible rfl
      rotate_left
      · simp only [Act.put, List.setIfInBounds_toArray, List.set_cons_zero, List.set_cons_succ, i64_w, i32_w, xu32_w, xu8_w]
        rfl
      refine pure_ (i := 2) (N := some 26) (v := ?_) (a' := ?_) #[true, true, true, false, false, false, false, false, false, false, false, false, false, false, false, false, false, false, false] rfl rfl (any_of HT_.out (by kernel_rfl)) (fun _ _ _ h => h) (Or.inl ⟨by rfl, ?_⟩) ?_ ?_
      rotate_left
      · intro w'
        go_simp
        with_reducible rfl
      rotate_left
      · simp only [Act.put, List.setIfInBounds_toArray, List.set_cons_zero, List.set_cons_succ, i64_w, i32_w, xu32_w, xu8_w]
        rfl
      refine pure_ (i := 4) (N := some 28) (v := ?_) (a' := ?_) #[true, true, true, false, true, false, false, false, false, false, false, false, false, false, false, false, false, false, false] rfl rfl (any_of HT_.out (by kernel_rfl)) (fun _ _ _ h => h) (Or.inl ⟨by rfl, ?_⟩) ?_ ?_
      rotate_left
      · intro w'
        go_simp
        with_reducible rfl
      rotate_left
      · simp only [Act.put, List.setIfInBounds_toArray, List.set_cons_zero, List.set_cons_succ, i64_w, i32_w, xu32_w, xu8_w]
        rfl
      refine pure_ (i := 5) (N := some 29) (v := ?_) (a' := ?_) #[true, true, true, false, true, true, false, false, false, false, false, false, false, false, false, false, false, false, false] rfl rfl (any_of HT_.out (by kernel_rfl)) (fun _ _ _ h => h) (Or.inl ⟨by rfl, ?_⟩) ?_ ?_
      rotate_left
      · intro w'
        go_simp
        with_reducible rfl
      rotate_left
      · simp only [Act.put, List.setIfInBounds_toArray, List.set_cons_zero, List.set_cons_succ, i64_w, i32_w, xu32_w, xu8_w]
        rfl
      refine pure_ (i := 6) (N := some 30) (v := ?_) (a' := ?_) #[true, true, true, false, true, true, true, false, false, false, false, false, false, false, false, false, false, false, false] rfl rfl (any_of HT_.out (by kernel_rfl)) (fun _ _ _ h => h) (Or.inl ⟨by rfl, ?_⟩) ?_ ?_
      rotate_left
      · intro w'
        go_simp
        with_reducible rfl
      rotate_left
      · simp only [Act.put, List.setIfInBounds_toArray, List.set_cons_zero, List.set_cons_succ, i64_w, i32_w, xu32_w, xu8_w]
        rfl
      refine pure_ (i := 7) (N := some 31) (v := ?_) (a' := ?_) #[true, true, true, false, true, true, true, true, false, false, false, false, false, false, false, false, false, false, false] rfl rfl (any_of HT_.out (by kernel_rfl)) (fun _ _ _ h => h) (Or.inl ⟨by rfl, ?_⟩) ?_ ?_
      rotate_left
      · intro w'
        go_simp
        with_reducible rfl
      rotate_left
      · simp only [Act.put, List.setIfInBounds_toArray, List.set_cons_zero, List.set_cons_succ, i64_w, i32_w, xu32_w, xu8_w]
        rfl
      refine pure_ (i := 8) (N := some 32) (v := ?_) (a' := ?_) #[true, true, true, false, true, true, true, true, true, false, false, false, false, false, false, false, false, false, false] rfl rfl (any_of HT_.out (by kernel_rfl)) (fun _ _ _ h => h) (Or.inl ⟨by rfl, ?_⟩) ?_ ?_
      rotate_left
      · intro w'
        go_simp
        with_reducible rfl
      rotate_left
      · simp only [Act.put, List.setIfInBounds_toArray, List.set_cons_zero, List.set_cons_succ, i64_w, i32_w, xu32_w, xu8_w]
        rfl
      refine pure_ (i := 11) (N := some 35) (v := ?_) (a' := ?_) #[true, true, true, false, true, true, true, true, true, false, false, true, false, false, false, false, false, false, false] rfl rfl (any_of HT_.out (by kernel_rfl)) (fun _ _ _ h => h) (Or.inl ⟨by rfl, ?_⟩) ?_ ?_
      rotate_left
      · intro w'
        go_simp
        with_reducible rfl
      rotate_left
      · simp only [Act.put, List.setIfInBounds_toArray, List.set_cons_zero, List.set_cons_succ, i64_w, i32_w, xu32_w, xu8_w]
        rfl
      refine pure_ (i := 12) (N := some 36) (v := ?_) (a' := ?_) #[true, true, true, false, true, true, true, true, true, false, false, true, true, false, false, false, false, false, false] rfl rfl (any_of HT_.out (by kernel_rfl)) (fun _ _ _ h => h) (Or.inl ⟨by rfl, ?_⟩) ?_ ?_
      rotate_left
      · intro w'
        go_simp
        with_reducible rfl
      rotate_left
      · simp only [Act.put, List.setIfInBounds_toArray, List.set_cons_zero, List.set_cons_succ, i64_w, i32_w, xu32_w, xu8_w]
        rfl
      refine pure_ (i := 13) (N := some 37) (v := ?_) (a' := ?_) #[true, true, true, false, true, true, true, true, true, false, false, true, true, true, false, false, false, false, false] rfl rfl (any_of HT_.out (by kernel_rfl)) (fun _ _ _ h => h) (Or.inl ⟨by rfl, ?_⟩) ?_ ?_
      rotate_left
      · intro w'
        go_simp
        with_reducible rfl
      rotate_left
      · simp only [Act.put, List.setIfInBounds_toArray, List.set_cons_zero, List.set_cons_succ, i64_w, i32_w, xu32_w, xu8_w]
        rfl
      refine take_ (i := 3) (N := some 27) (v := ?_) (a' := ?_) #[true, true, true, true, true, true, true, true, true, false, false, true, true, true, false, false, false, false, false] rfl rfl (take_ofW HT_.out HW_.out (by kernel_rfl)) (fun _ _ _ h => h) (Or.inl ⟨by rfl, ?_⟩) hHeld ?_ ?_
      rotate_left
      · rintro w' ⟨s0, s1⟩
        go_simp
        with_reducible rfl
      rotate_left
      · simp only [Act.put, List.setIfInBounds_toArray, List.set_cons_zero, List.set_cons_succ, i64_w, i32_w, xu32_w, xu8_w]
        rfl
      refine take_ (i := 9) (N := some 33) (v := ?_) (a' := ?_) #[true, true, true, true, true, true, true, true, true, true, false, true, true, true, false, false, false, false, false] rfl rfl (take_ofW HT_.out HW_.out (by kernel_rfl)) (fun _ _ _ h => h) (Or.inl ⟨by rfl, ?_⟩) hHeld ?_ ?_
      rotate_left
      · rintro w' ⟨s0, s1⟩
        go_simp
        with_reducible rfl
      rotate_left
      · simp only [Act.put, List.setIfInBounds_toArray, List.set_cons_zero, List.set_cons_succ, i64_w, i32_w, xu32_w, xu8_w]
        rfl
      refine pure_ (i := 10) (N := some 34) (v := ?_) (a' := ?_) #[true, true, true, true, true, true, true, true, true, true, true, true, true, true, false, false, false, false, false] rfl rfl (any_of HT_.out (by kernel_rfl)) (fun _ _ _ h => h) (Or.inl ⟨by rfl, ?_⟩) ?_ ?_
      rotate_left
      · intro w'
        go_simp
        with_reducible rfl
      rotate_left
      · simp only [Act.put, List.setIfInBounds_toArray, List.set_cons_zero, List.set_cons_succ, i64_w, i32_w, xu32_w, xu8_w]
        rfl
      refine take_ (i := 14) (N := some 38) (v := ?_) (a' := ?_) #[true, true, true, true, true, true, true, true, true, true, true, true, true, true, true, false, false, false, false] rfl rfl (take_ofW HT_.out HW_.out (by kernel_rfl)) (fun _ _ _ h => h) (Or.inl ⟨by rfl, ?_⟩) hHeld ?_ ?_
      rotate_left
      · rintro w' ⟨s0, s1⟩
        go_simp
        with_reducible rfl
      rotate_left
      · simp only [Act.put, List.setIfInBounds_toArray, List.set_cons_zero, List.set_cons_succ, i64_w, i32_w, xu32_w, xu8_w]
        rfl
      refine pure_ (i := 15) (N := some 39) (v := ?_) (a' := ?_) #[true, true, true, true, true, true, true, true, true, true, true, true, true, true, true, true, false, false, false] rfl rfl (any_of HT_.out (by kernel_rfl)) (fun _ _ _ h => h) (Or.inl ⟨by rfl, ?_⟩) ?_ ?_
      rotate_left
      · intro w'
        go_simp
        with_reducible rfl
      rotate_left
      · simp only [Act.put, List.setIfInBounds_toArray, List.set_cons_zero, List.set_cons_succ, i64_w, i32_w, xu32_w, xu8_w]
        rfl
      refine pure_ (i := 16) (N := some 40) (v := ?_) (a' := ?_) #[true, true, true, true, true, true, true, true, true, true, true, true, true, true, true, true, true, false, false] rfl rfl (any_of HT_.out (by kernel_rfl)) (fun _ _ _ h => h) (Or.inl ⟨by rfl, ?_⟩) ?_ ?_
      rotate_left
      · intro w'
        go_simp
        with_reducible rfl
      rotate_left
      · simp only [Act.put, List.setIfInBounds_toArray, List.set_cons_zero, List.set_cons_succ, i64_w, i32_w, xu32_w, xu8_w]
        rfl
      refine pure_ (i := 17) (N := some 41) (v := ?_) (a' := ?_) #[true, true, true, true, true, true, true, true, true, true, true, true, true, true, true, true, true, true, false] rfl rfl (any_of HT_.out (by kernel_rfl)) (fun _ _ _ h => h) (Or.inl ⟨by rfl, ?_⟩) ?_ ?_
      rotate_left
      · intro w'
        go_simp
        with_reducible rfl
      rotate_left
      · simp only [Act.put, List.setIfInBounds_toArray, List.set_cons_zero, List.set_cons_succ, i64_w, i32_w, xu32_w, xu8_w]
        rfl
      refine pure_ (i := 18) (N := some 7) (v := ?_) (a' := ?_) #[true, true, true, true, true, true, true, true, true, true, true, true, true, true, true, true, true, true, true] rfl rfl (any_of HT_.out (by kernel_rfl)) (fun _ _ _ h => h) (Or.inl ⟨by rfl, ?_⟩) ?_ ?_
      rotate_left
      · intro w'
        go_simp
        with_reducible rfl
      rotate_left
      · simp only [Act.put, List.setIfInBounds_toArray, List.set_cons_zero, List.set_cons_succ, i64_w, i32_w, xu32_w, xu8_w]
        rfl
      refine done_ (done_of HT_.out (by kernel_rfl)) ?_
      clear hHeld HT_ HW_
      have hwl : wrap64 ((f.b.length : Int) - f.l) = (f.b.length : Int) - f.l := by have h1 := HN.out.1; have h2 := HF.out.low; have h3 := HF.out.high; exact wrap_id (by omega) (by omega)
      have hwk : wrap64 (kpI keep f) = ((kpN keep f : Nat) : Int) := by have h1 := HN.out; rw [h1.2.1]; exact wrap_id (by omega) (by omega)
      have hke : f.l + mn (mx keep 0) ((f.b.length : Int) - f.l) = kpI keep f := rfl
      rw [hwl, hke, hwk]
      clear hwl hke hwk hlk hc0
      obtain ⟨N, hN⟩ : ∃ N : Nat, N = kpN keep f := ⟨_, rfl⟩
      rw [← hN]
      have HE := Aside0.mk hN
      clear hN
      go_wp2_with (fail)
      refine start_ (n := 15) (S := fun w' => w'.cell? ⟨D, 2, none⟩ = some (.int .i64 (total st')) ∧ w'.cell? ⟨r.F, 0, none⟩ = some (.slice r.A f.b.length r.c)) (ds := [14]) #[false, false, false, false, false, false, false, false, false, false, false, false, false, false, false] (by kernel_rfl) rfl rfl ⟨HD1.out.cell.2.2.1, HF.out.cell.1⟩ (fun hHeld => ?_); refine with_tabW crash.tab6 crash.bits6 (fun HT_ HW_ => ?_)
      refine pure_ (i := 0) (N := some 42) (v := ?_) (a' := ?_) #[true, false, false, false, false, false, false, false, false, false, false, false, false, false, false] rfl rfl (any_of HT_.out (by kernel_rfl)) (fun _ _ _ h => h) (Or.inl ⟨by rfl, ?_⟩) ?_ ?_
      rotate_left
      · intro w'
        go_simp
        with_reducible rfl
      rotate_left
      · simp only [Act.put, List.setIfInBounds_toArray, List.set_cons_zero, List.set_cons_succ, i64_w, i32_w, xu32_w, xu8_w]
        rfl
      refine pure_ (i := 1) (N := some 43) (v := ?_) (a' := ?_) #[true, true, false, false, false, false, false, false, false, false, false, false, false, false, false] rfl rfl (any_of HT_.out (by kernel_rfl)) (fun _ _ _ h => h) (Or.inl ⟨by rfl, ?_⟩) ?_ ?_
      rotate_left
      · intro w'
        go_simp
        with_reducible rfl
      rotate_left
      · simp only [Act.put, List.setIfInBounds_toArray, List.set_cons_zero, List.set_cons_succ, i64_w, i32_w, xu32_w, xu8_w]
        rfl
      refine pure_ (i := 2) (N := some 44) (v := ?_) (a' := ?_) #[true, true, true, false, false, false, false, false, false, false, false, false, false, false, false] rfl rfl (any_of HT_.out (by kernel_rfl)) (fun _ _ _ h => h) (Or.inl ⟨by rfl, ?_⟩) ?_ ?_
      rotate_left
      · intro w'
        go_simp
        with_reducible rfl
      rotate_left
      · simp only [Act.put, List.setIfInBounds_toArray, List.set_cons_zero, List.set_cons_succ, i64_w, i32_w, xu32_w, xu8_w]
        rfl
      refine pure_ (i := 4) (N := some 46) (v := ?_) (a' := ?_) #[true, true, true, false, true, false, false, false, false, false, false, false, false, false, false] rfl rfl (any_of HT_.out (by kernel_rfl)) (fun _ _ _ h => h) (Or.inl ⟨by rfl, ?_⟩) ?_ ?_
      rotate_left
      · intro w'
        go_simp
        with_reducible rfl
      rotate_left
      · simp only [Act.put, List.setIfInBounds_toArray, List.set_cons_zero, List.set_cons_succ, i64_w, i32_w, xu32_w, xu8_w]
        rfl
      refine pure_ (i := 5) (N := some 47) (v := ?_) (a' := ?_) #[true, true, true, false, true, true, false, false, false, false, false, false, false, false, false] rfl rfl (any_of HT_.out (by kernel_rfl)) (fun _ _ _ h => h) (Or.inl ⟨by rfl, ?_⟩) ?_ ?_
      rotate_left
      · intro w'
        go_simp
        with_reducible rfl
      rotate_left
      · simp only [Act.put, List.setIfInBounds_toArray, List.set_cons_zero, List.set_cons_succ, i64_w, i32_w, xu32_w, xu8_w]
        rfl
      refine pure_ (i := 6) (N := some 48) (v := ?_) (a' := ?_) #[true, true, true, false, true, true, true, false, false, false, false, false, false, false, false] rfl rfl (any_of HT_.out (by kernel_rfl)) (fun _ _ _ h => h) (Or.inl ⟨by rfl, ?_⟩) ?_ ?_
      rotate_left
      · intro w'
        go_simp
        with_reducible rfl
      rotate_left
      · simp only [Act.put, List.setIfInBounds_toArray, List.set_cons_zero, List.set_cons_succ, i64_w, i32_w, xu32_w, xu8_w]
        rfl
      refine pure_ (i := 9) (N := some 51) (v := ?_) (a' := ?_) #[true, true, true, false, true, true, true, false, false, true, false, false, false, false, false] rfl rfl (any_of HT_.out (by kernel_rfl)) (fun _ _ _ h => h) (Or.inl ⟨by rfl, ?_⟩) ?_ ?_
      rotate_left
      · intro w'
        go_simp
        with_reducible rfl
      rotate_left
      · simp only [Act.put, List.setIfInBounds_toArray, List.set_cons_zero, List.set_cons_succ, i64_w, i32_w, xu32_w, xu8_w]
        rfl
      refine take_ (i := 3) (N := some 45) (v := ?_) (a' := ?_) #[true, true, true, true, true, true, true, false, false, true, false, false, false, false, false] rfl rfl (take_ofW HT_.out HW_.out (by kernel_rfl)) (fun _ _ _ h => h) (Or.inl ⟨by rfl, ?_⟩) hHeld ?_ ?_
      rotate_left
      · rintro w' ⟨s0, s1⟩
        go_simp
        with_reducible rfl
      rotate_left
      · simp only [Act.put, List.setIfInBounds_toArray, List.set_cons_zero, List.set_cons_succ, i64_w, i32_w, xu32_w, xu8_w]
        rfl
      refine take_ (i := 7) (N := some 49) (v := ?_) (a' := ?_) #[true, true, true, true, true, true, true, true, false, true, false, false, false, false, false] rfl rfl (take_ofW HT_.out HW_.out (by kernel_rfl)) (fun _ _ _ h => h) (Or.inl ⟨by rfl, ?_⟩) hHeld ?_ ?_
      rotate_left
      · rintro w' ⟨s0, s1⟩
        go_simp
        with_reducible rfl
      rotate_left
      · simp only [Act.put, List.setIfInBounds_toArray, List.set_cons_zero, List.set_cons_succ, i64_w, i32_w, xu32_w, xu8_w]
        rfl
      refine pure_ (i := 8) (N := some 50) (v := ?_) (a' := ?_) #[true, true, true, true, true, true, true, true, true, true, false, false, false, false, false] rfl rfl (any_of HT_.out (by kernel_rfl)) (fun _ _ _ h => h) (Or.inl ⟨by rfl, ?_⟩) ?_ ?_
      rotate_left
      · intro w'
        go_simp
        with_reducible rfl
      rotate_left
      · simp only [Act.put, List.setIfInBounds_toArray, List.set_cons_zero, List.set_cons_succ, i64_w, i32_w, xu32_w, xu8_w]
        rfl
      refine pure_ (i := 10) (N := some 52) (v := ?_) (a' := ?_) #[true, true, true, true, true, true, true, true, true, true, true, false, false, false, false] rfl rfl (any_of HT_.out (by kernel_rfl)) (fun _ _ _ h => h) (Or.inl ⟨by rfl, ?_⟩) ?_ ?_
      rotate_left
      · intro w'
        go_simp
        with_reducible rfl
      rotate_left
      · simp only [Act.put, List.setIfInBounds_toArray, List.set_cons_zero, List.set_cons_succ, i64_w, i32_w, xu32_w, xu8_w]
        rfl
      refine pure_ (i := 11) (N := some 53) (v := ?_) (a' := ?_) #[true, true, true, true, true, true, true, true, true, true, true, true, false, false, false] rfl rfl (any_of HT_.out (by kernel_rfl)) (fun _ _ _ h => h) (Or.inl ⟨by rfl, ?_⟩) ?_ ?_
      rotate_left
      · intro w'
        go_simp
        with_reducible rfl
      rotate_left
      · simp only [Act.put, List.setIfInBounds_toArray, List.set_cons_zero, List.set_cons_succ, i64_w, i32_w, xu32_w, xu8_w]
        rfl
      refine pure_ (i := 12) (N := some 54) (v := ?_) (a' := ?_) #[true, true, true, true, true, true, true, true, true, true, true, true, true, false, false] rfl rfl (any_of HT_.out (by kernel_rfl)) (fun _ _ _ h => h) (Or.inl ⟨by rfl, ?_⟩) ?_ ?_
      rotate_left
      · intro w'
        go_simp
        with_reducible rfl
      rotate_left
      · simp only [Act.put, List.setIfInBounds_toArray, List.set_cons_zero, List.set_cons_succ, i64_w, i32_w, xu32_w, xu8_w]
        rfl
      refine pure_ (i := 13) (N := some 55) (v := ?_) (a' := ?_) #[true, true, true, true, true, true, true, true, true, true, true, true, true, true, false] rfl rfl (any_of HT_.out (by kernel_rfl)) (fun _ _ _ h => h) (Or.inl ⟨by rfl, ?_⟩) ?_ ?_
      rotate_left
      · intro w'
        go_simp
        with_reducible rfl
      rotate_left
      · simp only [Act.put, List.setIfInBounds_toArray, List.set_cons_zero, List.set_cons_succ, i64_w, i32_w, xu32_w, xu8_w]
        rfl
      refine last_ (i := 14) (N := none) #[true, true, true, true, true, true, true, true, true, true, true, true, true, true, true] rfl rfl (one_of HT_.out (by kernel_rfl)) (by decide) (fun K hK => ?_)
      have hcB := HD1.out.cell.2.2.1
      have hfB := HD1.out.cell.2.2.2
      refine skip_ (w1 := wr.drew.drew.setCell ⟨D, 2, none⟩ (.int .i64 _)) (by rfl) rfl (by first | (go_simp; done) | (go_simp; rfl)) ?_
      refine hK.out _ _ ?_
      clear hK K hcB hfB
      refine done_ (done_of HT_.out (by kernel_rfl)) ?_
      clear hHeld HT_ HW_
      have hnn : f.n = s := (look_mem HK2.out).2
      have hNl : N ≤ f.b.length := by have h1 := HN.out.2.2.1; rw [HE.out]; exact h1
      have hfit := HD1.out.fit
      have hr1 := HD1.out.room1
      have hlen := look_len HK2.out
      have hw1 : wrap64 ((f.b.length : Int) - (N : Int)) = (f.b.length : Int) - N := wrap_id (by omega) (by have := HN.out.1; omega)
      have hw2 : wrap64 ((total st' : Int) - ((f.b.length : Int) - (N : Int))) = (total st' : Int) - ((f.b.length : Int) - N) := wrap_id (by omega) (by omega)
      rw [hw1, hw2]
      clear hw1 hw2
      have hne := HD1.out.notD HK1.out
      have hDM := HD1.out.DM
      by_cases hN0 : N = 0
      · have hN1 : (N : Int) = 0 := by omega
        have htd := (total_drop s HD1.out.files.sorted).1
        rw [HK2.out] at htd
        dsimp only at htd
        have hv : (total st' : Int) - ((f.b.length : Int) - N) = ((total (drop st' s) : Nat) : Int) := by omega
        rw [hv]
        clear hv
        have hM1 : MapF ((wr.setCell ⟨D, 2, none⟩ (.int .i64 ((total (drop st' s) : Nat) : Int))).drew.drew) M (fun s => (fs1 s).map (fun r => .pointer (some ⟨r.F, 0, none⟩))) := HD1.out.files.map.move (Below.heap_setCell _ _ _ M (fun e => hDM e.symm))
        obtain ⟨w2, hdel, hM2, q1, q2, q3, q4, q5⟩ := MapF.drop (P := Try.prog) (ty := 0) Try.underlying55 Try.underlying9 hM1 s
        have hD1' := blk_put HD1.out.cells 2 (.int .i64 ((total (drop st' s) : Nat) : Int)) rfl
        have hL : Left wr D M room B dat1 fs1 (crash1 keep st' s) w2 := by
          unfold crash1
          rw [HK2.out]
          dsimp only
          rw [if_pos (by rw [← HE.out]; exact hN0)]
          exact left_del HD1.out s (by rw [q4]; simp [World.drew]) ((q5 D hDM).trans hD1') hM2 ⟨q1.trans rfl, q2.trans rfl, q3.trans rfl, by rw [q4]; simp [World.drew], fun k hk hn => (q5 k (fun e => hn (.inr e))).trans (Below.heap_setCell _ _ _ k (fun e => hn (.inl e)))⟩
        have HLL := Aside0.mk hL
        have hc0 := HD1.out.cell.1
        clear hL q1 q2 q3 q4 q5 hM2 hM1 hD1' htd hne hDM hfit hr1 hlen hnn hN0
        go_wp2_with (fail)
        go_roundg k1
        case measure => omega
        case rel => exact ⟨i + 1, by (rw [wrap_id (n := (i : Int) + 1) (by omega) (by have := HFW.out; omega)]; first | rfl | (simp; done)), ⟨by have := HK.out; omega⟩, ⟨by have hh := HS.out.2; subst hh; exact CrashInv.next HS.out.1 HD1.out HW1.out HR1.out HLL.out⟩⟩
      · have hN1 : ¬ (N : Int) = 0 := by omega
        have htl : (f.b.take N).length = N := by rw [List.length_take]; omega
        have htp := (total_put ⟨f.n, f.b.take N, (N : Nat)⟩ HD1.out.files.sorted).1
        rw [hnn, HK2.out] at htp
        dsimp only at htp
        rw [htl] at htp
        have hv : (total st' : Int) - ((f.b.length : Int) - N) = ((total (put st' ⟨f.n, f.b.take N, (N : Nat)⟩) : Nat) : Int) := by rw [hnn]; omega
        rw [hv]
        obtain ⟨i5, hi5, _⟩ := Option.map_eq_some_iff.1 info5
        have hsl := cut_to3 (P := Try.prog) 29 5 .i64 .i64 Try.underlying29 hi5 r.A f.b.length r.c (N : Int) (by omega) (by omega) HF.out.cap
        rw [Int.toNat_natCast] at hsl
        have hL := cut_left HD1.out HK1.out HK2.out N hNl
        have hL2 : Left wr D M room B dat1 fs1 (crash1 keep st' s) ((((wr.setCell ⟨D, 2, none⟩ (.int .i64 ((total (put st' ⟨f.n, f.b.take N, (N : Nat)⟩) : Nat) : Int))).setCell ⟨r.F, 0, none⟩ (.slice r.A N N)).setCell ⟨r.F, 1, none⟩ (.int .i64 (N : Nat))).drew.drew) := by
          unfold crash1
          rw [HK2.out]
          dsimp only
          rw [if_neg (by rw [← HE.out]; exact hN0)]
          unfold crashF
          rw [← HE.out]
          exact hL.drew.drew
        have HLL := Aside0.mk hL2
        have hF2 : (wr.drew.drew.setCell ⟨D, 2, none⟩ (.int .i64 ((total (put st' ⟨f.n, f.b.take N, (N : Nat)⟩) : Nat) : Int))).heap[r.F]? = some (.cells #[.slice r.A f.b.length r.c, .int .i64 f.l] 68 (0, 0)) := (Below.heap_setCell _ _ _ r.F hne.1).trans HF.out.cells
        have q0 := (blk_cell HF.out.cells 0).trans rfl
        have q1 := (blk_cell HF.out.cells 1).trans rfl
        have q2 := blk_frozen HF.out.cells 0
        have q3 := blk_frozen HF.out.cells 1
        have p0 := (blk_cell hF2 0).trans rfl
        have p1 := (blk_cell hF2 1).trans rfl
        have p2 := blk_frozen hF2 0
        have p3 := blk_frozen hF2 1
        clear hL hL2 htp hv htl hfit hr1 hlen hnn hN0 hi5 hF2
        go_wp2_with (fail)
        go_roundg k1
        case measure => omega
        case rel => exact ⟨i + 1, by (rw [wrap_id (n := (i : Int) + 1) (by omega) (by have := HFW.out; omega)]; first | rfl | (simp; done)), ⟨by have := HK.out; omega⟩, ⟨by have hh := HS.out.2; subst hh; exact CrashInv.next HS.out.1 HD1.out HW1.out HR1.out HLL.out⟩⟩
    · have hi : i = n := by have := HK.out; omega
      subst hi
      go_wp2_with (fail)
      (first | go_end0 | ((try simp only [Exit.inBlock, Exit.then]); refine bodyPost_ret (results_none rfl _ _ _) rfl ?_))
      obtain ⟨dat1, fs1, hD1, hw1, _⟩ := HI.out
      rw [List.take_of_length_le (by rw [List.length_map]; have := HL.out; omega), crashL_all HD.out.files.sorted] at hD1
      exact ⟨rfl, hw1.left hD1⟩
end
end Go.Proofs.Ytkdbojaoaldmbaa.G
