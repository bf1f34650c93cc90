import Derived.Test.YticoaaddhhiglaaT12
import Derived.Test.YticoaaddhhiglaaQ2
/- The table of tenants by hand: which changes may be; what a change makes of a table. -/
namespace Go.Proofs.Yticoaaddhhiglaa.T
open Go.RowKit Go.Proofs.Yticoaaddhhiglaa.Q Go.Proofs.YticoaaddhhiglaaW.PrintWords Go.Proofs.YticoaaddhhiglaaW.PrintLast Go.Proofs.YticoaaddhhiglaaW.PrintMore
set_option linter.unusedVariables false
set_option linter.unusedSimpArgs false
/-- A tenant's name; a key; limits. -/
def tnameB (s : ByteArray) : Bool := if (s.size : Int) ≤ 32 then Go.Proofs.Yticoaaddhhiglaa.E.named s else false
def keyedB (k : S23) : Bool := decide (1 ≤ k.f0 ∧ k.f0 ≤ 99 ∧ 16 ≤ (k.f1.size : Int) ∧ (k.f1.size : Int) ≤ 64)
def limB (l : S25) : Bool := decide ((0 ≤ l.f0 ∧ l.f0 ≤ 1000000) ∧ (0 ≤ l.f1 ∧ l.f1 ≤ 1000000) ∧ (0 ≤ l.f2 ∧ l.f2 ≤ 4096) ∧ (0 ≤ l.f3 ∧ l.f3 ≤ 4194304))
/-- What is wrong with a change. -/
def rightE (c : S27) : Int :=
  if c.f0 < 0 ∨ 5 < c.f0 then 1
  else if tnameB c.f1 = false then 50
  else if c.f0 = 0 then (if keyedB c.f2 = false then 181 else if limB c.f3 = false ∨ c.f4 < 1 ∨ 64 < c.f4 ∨ c.f5 < 3 ∨ 16 < c.f5 then 183 else 0)
  else if c.f0 = 1 then (if keyedB c.f2 = false then 181 else 0)
  else if c.f0 = 2 then (if c.f2.f0 < 1 ∨ 99 < c.f2.f0 then 181 else 0)
  else if c.f0 = 3 then (if limB c.f3 = false then 183 else 0)
  else if tnameB c.f6 = false then 50 else if c.f6 = c.f1 then 182 else 0
theorem tname_f (s : ByteArray) : token_Tenant.f s = some (tnameB s) := by
  unfold token_Tenant.f tnameB labels_Named.f
  split <;> rfl
theorem keyed_f (k : S23) : token_Keyed.f k.f0 k.f1 = some (keyedB k) := by
  unfold token_Keyed.f keyedB
  by_cases h1 : k.f0 ≥ 1
  · by_cases h2 : k.f0 ≤ 99
    · by_cases h3 : (k.f1.size : Int) ≥ 16
      · rw [if_pos h1, if_pos h2, if_pos h3]
        congr 1
        apply decide_eq_decide.2
        omega
      · rw [if_pos h1, if_pos h2, if_neg h3]
        congr 1
        exact (decide_eq_false (by omega)).symm
    · rw [if_pos h1, if_neg h2]
      congr 1
      exact (decide_eq_false (by omega)).symm
  · rw [if_neg h1]
    congr 1
    exact (decide_eq_false (by omega)).symm
theorem within_f (a b : Int) : tenant_within.f a b = some (decide (0 ≤ a ∧ a ≤ b)) := by
  unfold tenant_within.f
  by_cases h : a ≥ 0
  · rw [if_pos h]
    congr 1
    apply decide_eq_decide.2
    omega
  · rw [if_neg h]
    congr 1
    exact (decide_eq_false (by omega)).symm
theorem lim_f (l : S25) : tenant_limits.f l.f0 l.f1 l.f2 l.f3 = some (limB l) := by
  unfold tenant_limits.f limB
  rw [within_f, within_f, within_f, within_f]
  by_cases h1 : 0 ≤ l.f0 ∧ l.f0 ≤ 1000000
  · by_cases h2 : 0 ≤ l.f1 ∧ l.f1 ≤ 1000000
    · by_cases h3 : 0 ≤ l.f2 ∧ l.f2 ≤ 4096
      · simp [h1, h2, h3]
      · simp [h1, h2, h3]
    · simp [h1, h2]
  · simp [h1]
theorem str_iff {s t : ByteArray} : s.toList = t.toList ↔ s = t := ⟨str_inj, fun h => h ▸ rfl⟩
set_option maxHeartbeats 1000000 in
theorem right_f (c : S27) : tenant_Right.f 3 c.f0 c.f1 c.f2.f0 c.f2.f1 c.f3.f0 c.f3.f1 c.f3.f2 c.f3.f3 c.f4 c.f5 c.f6 = some (rightE c) := by
  have key := keyed_f c.f2
  have lim := lim_f c.f3
  have t1 := tname_f c.f1
  have t2 := tname_f c.f6
  unfold tenant_Right.f rightE
  by_cases h0 : c.f0 < 0
  · rw [if_pos h0, if_pos (.inl h0)]
    simp [tenant_Right.j0]
  rw [if_neg h0]
  by_cases h5 : 5 < c.f0
  · rw [if_pos (.inr h5), decide_eq_true (show c.f0 > 5 from h5)]
    simp [tenant_Right.j0]
  rw [if_neg (by omega), decide_eq_false (by omega)]
  rw [tenant_Right.j0, if_neg (show ¬ false = true by decide), t1, key, lim]
  simp only [Option.bind_some]
  cases tnameB c.f1
  · simp
  simp only [if_true, Bool.true_eq_false, if_false]
  by_cases d0 : c.f0 = 0
  · rw [if_pos d0, if_pos d0]
    cases keyedB c.f2
    · simp
    cases limB c.f3
    · simp [tenant_Right.j1]
    simp only [if_true, Bool.true_eq_false, if_false, false_or]
    by_cases q1 : c.f4 < 1
    · simp [tenant_Right.j1, q1]
    by_cases q2 : 64 < c.f4
    · simp [tenant_Right.j1, q1, q2]
    by_cases q3 : c.f5 < 3
    · simp [tenant_Right.j1, q1, q2, q3]
    by_cases q4 : 16 < c.f5
    · simp [tenant_Right.j1, q1, q2, q3, q4]
    · simp [tenant_Right.j1, q1, q2, q3, q4]
  rw [if_neg d0, if_neg d0]
  by_cases d1 : c.f0 = 1
  · rw [if_pos d1, if_pos d1]
    cases keyedB c.f2 <;> simp
  rw [if_neg d1, if_neg d1]
  by_cases d2 : c.f0 = 2
  · rw [if_pos d2, if_pos d2]
    by_cases q1 : c.f2.f0 < 1
    · simp [tenant_Right.j2, q1]
    by_cases q2 : 99 < c.f2.f0
    · simp [tenant_Right.j2, q1, q2]
    · simp [tenant_Right.j2, q1, q2]
  rw [if_neg d2, if_neg d2]
  by_cases d3 : c.f0 = 3
  · rw [if_pos d3, if_pos d3]
    cases limB c.f3 <;> simp
  rw [if_neg d3, if_neg d3]
  have j3 : tenant_Right.j3 2 true c.f0 c.f1 c.f2.f0 c.f2.f1 c.f3.f0 c.f3.f1 c.f3.f2 c.f3.f3 c.f4 c.f5 c.f6 = some (if tnameB c.f6 = false then 50 else if c.f6 = c.f1 then 182 else 0) := by
    rw [tenant_Right.j3, if_pos rfl, t2]
    simp only [Option.bind_some]
    cases tnameB c.f6
    · simp
    · simp only [if_true, Bool.true_eq_false, if_false]
      by_cases e : c.f6 = c.f1
      · rw [if_pos (str_iff.2 e), if_pos e]
      · rw [if_neg (fun h => e (str_iff.1 h)), if_neg e]
  by_cases d4 : c.f0 = 4
  · rw [if_pos d4, show (c.f0 == 4) = true by simp [d4]]
    exact j3
  · rw [if_neg d4, show (c.f0 == 5) = true by simp; omega]
    exact j3
/-- A tenant that comes. -/
def newT (c : S27) : S39 := ⟨c.f1, [c.f2], c.f3, c.f4, c.f5, []⟩
/-- What a change answers, and the table behind it. -/
def doT (st : St) (c : S27) : Int × St :=
  if rightE c = 0 then
    (if c.f0 = 0 then (match look st c.f1 with
      | some _ => (100, st)
      | none => if 16 ≤ st.length then (5, st) else (0, put st (newT c)))
    else match look st c.f1 with
      | none => (180, st)
      | some x => if (changeT x c).1 = 0 then (0, put st (changeT x c).2) else ((changeT x c).1, st))
  else (rightE c, st)
theorem right_range {c : S27} (h : rightE c = 0) : 0 ≤ c.f0 ∧ c.f0 ≤ 5 := by
  unfold rightE at h
  split at h
  · cases h
  · omega
theorem fine_new {c : S27} (h : rightE c = 0) (h0 : c.f0 = 0) : Fine (newT c) := by
  unfold rightE at h
  rw [if_neg (by omega)] at h
  split at h
  · cases h
  split at h
  · cases h
  split at h
  · cases h
  · rename_i q
    have hl : limB c.f3 = true := by cases hb : limB c.f3; exact absurd (.inl hb) q; rfl
    have hl' := of_decide_eq_true hl
    exact ⟨by simp [newT], by simp [newT], by show 1 ≤ c.f4 ∧ c.f4 ≤ 64; omega, by show 3 ≤ c.f5 ∧ c.f5 ≤ 16; omega, by show c.f3.f2 ≤ 4096; omega, by show 0 ≤ c.f3.f0; omega⟩
theorem change_name (x : S39) (c : S27) : (changeT x c).2.f0 = x.f0 := by
  unfold changeT
  repeat' split
  all_goals rfl
theorem fine_change {x : S39} {c : S27} (hf : Fine x) (h : rightE c = 0) : Fine (changeT x c).2 := by
  have hr := right_range h
  unfold changeT
  split
  · split
    · exact ⟨by simp [hf.keys], hf.readers, hf.queue, hf.ring, hf.series, hf.rate⟩
    · split
      · exact hf
      · exact ⟨by simp; omega, hf.readers, hf.queue, hf.ring, hf.series, hf.rate⟩
  split
  · split
    · exact ⟨Nat.le_trans (List.length_eraseIdx_le _ _) hf.keys, hf.readers, hf.queue, hf.ring, hf.series, hf.rate⟩
    · exact hf
  split
  · rename_i d1 d2 d3
    unfold rightE at h
    rw [if_neg (by omega)] at h
    split at h
    · cases h
    rw [if_neg (by omega)] at h
    split at h
    · cases h
    · rename_i q
      have hl : limB c.f3 = true := by cases hb : limB c.f3; exact absurd hb q; rfl
      have hl' := of_decide_eq_true hl
      exact ⟨hf.keys, hf.readers, hf.queue, hf.ring, by show c.f3.f2 ≤ 4096; omega, by show 0 ≤ c.f3.f0; omega⟩
  split
  · split
    · exact hf
    · split
      · exact hf
      · exact ⟨hf.keys, by simp; omega, hf.queue, hf.ring, hf.series, hf.rate⟩
  · split
    · exact ⟨hf.keys, Nat.le_trans (List.length_eraseIdx_le _ _) hf.readers, hf.queue, hf.ring, hf.series, hf.rate⟩
    · exact hf
/-- A tenant is put to the table. -/
theorem TabG.put {w : World} {D M : Nat} {st : St} (h : TabG w D M st) {x : S39} {v : Value} (ht : Ten w v x) (hf : Fine x) (hlen : (T.put st x).length ≤ 16) :
    ∃ w1, (Instr.mapUpdate 58 (.map (some M)) (.string x.f0) v).run Try.prog w = .ok () w1 ∧ TabG w1 D M (T.put st x) ∧ Chg (fun k => k = M) w w1 := by
  obtain ⟨G, h1, h2⟩ := h.ex
  obtain ⟨w1, hrun, hM, s1, s2, s3, s4, s5⟩ := MapF.put (P := Try.prog) Try.underlying58 Try.underlying9 h1 x.f0 v
  have hMb : ∃ ma clk, w.heap[M]? = some (.map ma clk) := by obtain ⟨ma, clk, h, _⟩ := h1; exact ⟨ma, clk, h⟩
  obtain ⟨ma, clk, hMb⟩ := hMb
  have hsane : Sane w w1 := fun k cs t fz hk => s5 k (fun e => by rw [e, hMb] at hk; cases hk)
  have hDM : D ≠ M := fun e => by have := h.blk; rw [e, hMb] at this; cases this
  refine ⟨w1, hrun, ⟨(s5 D hDM).trans h.blk, _, hM, ?_, ?_, put_sorted x h2.sorted, ?_, hlen⟩, ⟨s1, s2, s3, by rw [s4]; exact Nat.le_refl _, fun k _ hne => s5 k hne⟩⟩
  · intro s
    rw [look_put x s h2.sorted]
    by_cases e : s = x.f0
    · rw [if_pos e, if_pos e]; simp
    · rw [if_neg e, if_neg e]; exact h2.none_ s
  · intro s v' hv'
    try dsimp only at hv'
    rw [look_put x s h2.sorted]
    by_cases e : s = x.f0
    · rw [if_pos e] at hv' ⊢
      injection hv' with hv'
      subst hv'
      exact ⟨x, rfl, ht.sane hsane⟩
    · rw [if_neg e] at hv' ⊢
      obtain ⟨y, e1, e2⟩ := h2.some_ s v' hv'
      exact ⟨y, e1, e2.sane hsane⟩
  · intro y hy
    rcases put_mem hy with e | ⟨e, _⟩ | e
    · rw [e]; exact hf
    · exact h2.fine y e
    · exact h2.fine y e
theorem put_len {st : St} (hs : Sorted st) (x : S39) : (put st x).length = st.length + (if look st x.f0 = none then 1 else 0) := (total_put x hs).2
theorem TabG.sorted {w : World} {D M : Nat} {st : St} (h : TabG w D M st) : Sorted st := by obtain ⟨G, _, h2⟩ := h.ex; exact h2.sorted
theorem TabG.few16 {w : World} {D M : Nat} {st : St} (h : TabG w D M st) : st.length ≤ 16 := by obtain ⟨G, _, h2⟩ := h.ex; exact h2.few
/-- What is looked up, at this and at later worlds. -/
theorem TabG.look3 {w : World} {D M : Nat} {st : St} (h : TabG w D M st) (s : ByteArray) :
    (look st s = none ∧ ∀ w', Below w.heap.size w w' → (Instr.lookup 58 (.map (some M)) (.string s) true).run Try.prog w' = .ok (.tuple #[.agg (ten z39 (.slice none 0 0) (.slice none 0 0)).toArray, .bool false]) w') ∨
    ∃ x A1 c1 A8 c8, look st s = some x ∧ (∀ w', Below w.heap.size w w' → (Instr.lookup 58 (.map (some M)) (.string s) true).run Try.prog w' = .ok (.tuple #[.agg (ten x (.slice A1 x.f1.length c1) (.slice A8 x.f5.length c8)).toArray, .bool true]) w') ∧ k23.C w A1 x.f1.length x.f1 ∧ x.f1.length ≤ c1 ∧ Kd.string.C w A8 x.f5.length x.f5 ∧ x.f5.length ≤ c8 := by
  obtain ⟨G, h1, h2⟩ := h.ex
  have hl2 : ∀ w', Below w.heap.size w w' → _ := fun w' hb => MapF.look2 (P := Try.prog) Try.underlying58 Try.underlying9 (zero39 w') (h1.move (hb.block M h1.lt)) s
  rcases h2.at_ s with ⟨hG, hl⟩ | ⟨v, x, hG, hl, A1, c1, A8, c8, rfl, e1, e2, e3, e4⟩
  · rw [hG] at hl2
    exact .inl ⟨hl, hl2⟩
  · rw [hG] at hl2
    exact .inr ⟨x, A1, c1, A8, c8, hl, hl2, e1, e2, e3, e4⟩
/-- How many tenants the map holds. -/
theorem TabG.len {w : World} {D M : Nat} {st : St} (h : TabG w D M st) : (Builtin.len_ #[58] 3 #[.map (some M)]).run Try.prog w = .ok (.int .i64 st.length) w := by
  obtain ⟨G, h1, h2⟩ := h.ex
  obtain ⟨ma, clk, hb, hsz⟩ := h1.entries
  have hn : (namesT st).Nodup := by
    have := h2.sorted
    unfold namesT
    rw [List.nodup_iff_pairwise_ne, List.pairwise_map]
    exact this.imp (fun h => h.ne)
  have := hsz (namesT st) hn (fun s => by
    rw [Ne, h2.none_ s, look_none]
    simp [namesT])
  have hlen : ma.size = st.length := by rw [this]; simp [namesT]
  simp [Builtin.len_, run_underlying Try.underlying58, MapKept.run_getObj_map hb, Result.andThen, goInt, hlen]
end Go.Proofs.Yticoaaddhhiglaa.T
