import Derived.Test.YticoaaddhhiglaaTD
/- The table of tenants by hand: which changes may be; what a change makes of a table. -/
namespace Go.Proofs.Yticoaaddhhiglaa.T
open Go.RowKit Go.Proofs.Yticoaaddhhiglaa.Q Go.Proofs.YticoaaddhhiglaaW.PrintWords Go.Proofs.YticoaaddhhiglaaW.PrintLast Go.Proofs.YticoaaddhhiglaaW.PrintMore
set_option linter.unusedVariables false
set_option linter.unusedSimpArgs false
/-- A tenant's name; a key; limits. -/
def tnameB (s : ByteArray) : Bool := if (s.size : Int) ≤ 32 then Go.Proofs.Yticoaaddhhiglaa.E.named s else false
def keyedB (k : S23) : Bool := decide (1 ≤ k.f0 ∧ k.f0 ≤ 99 ∧ 16 ≤ (k.f1.size : Int) ∧ (k.f1.size : Int) ≤ 64)
def limB (l : S25) : Bool := decide ((0 ≤ l.f0 ∧ l.f0 ≤ 1000000) ∧ (0 ≤ l.f1 ∧ l.f1 ≤ 1000000) ∧ (0 ≤ l.f2 ∧ l.f2 ≤ 4096) ∧ (0 ≤ l.f3 ∧ l.f3 ≤ 4194304))
/-- What is wrong with a change. -/
def rightE (c : S27) : Int :=
  if c.f0 < 0 ∨ 5 < c.f0 then 1
  else if tnameB c.f1 = false then 50
  else if c.f0 = 0 then (if keyedB c.f2 = false then 181 else if limB c.f3 = false ∨ c.f4 < 1 ∨ 64 < c.f4 ∨ c.f5 < 3 ∨ 16 < c.f5 then 183 else 0)
  else if c.f0 = 1 then (if keyedB c.f2 = false then 181 else 0)
  else if c.f0 = 2 then (if c.f2.f0 < 1 ∨ 99 < c.f2.f0 then 181 else 0)
  else if c.f0 = 3 then (if limB c.f3 = false then 183 else 0)
  else if tnameB c.f6 = false then 50 else if c.f6 = c.f1 then 182 else 0
theorem tname_f (s : ByteArray) : token_Tenant.f s = some (tnameB s) := by
  unfold token_Tenant.f tnameB labels_Named.f
  split <;> rfl
theorem keyed_f (k : S23) : token_Keyed.f k.f0 k.f1 = some (keyedB k) := by
  unfold token_Keyed.f keyedB
  by_cases h1 : k.f0 ≥ 1
  · by_cases h2 : k.f0 ≤ 99
    · by_cases h3 : (k.f1.size : Int) ≥ 16
      · rw [if_pos h1, if_pos h2, if_pos h3]
        congr 1
        apply decide_eq_decide.2
        omega
      · rw [if_pos h1, if_pos h2, if_neg h3]
        congr 1
        exact (decide_eq_false (by omega)).symm
    · rw [if_pos h1, if_neg h2]
      congr 1
      exact (decide_eq_false (by omega)).symm
  · rw [if_neg h1]
    congr 1
    exact (decide_eq_false (by omega)).symm
theorem within_f (a b : Int) : tenant_within.f a b = some (decide (0 ≤ a ∧ a ≤ b)) := by
  unfold tenant_within.f
  by_cases h : a ≥ 0
  · rw [if_pos h]
    congr 1
    apply decide_eq_decide.2
    omega
  · rw [if_neg h]
    congr 1
    exact (decide_eq_false (by omega)).symm
theorem lim_f (l : S25) : tenant_limits.f l.f0 l.f1 l.f2 l.f3 = some (limB l) := by
  unfold tenant_limits.f limB
  rw [within_f, within_f, within_f, within_f]
  by_cases h1 : 0 ≤ l.f0 ∧ l.f0 ≤ 1000000
  · by_cases h2 : 0 ≤ l.f1 ∧ l.f1 ≤ 1000000
    · by_cases h3 : 0 ≤ l.f2 ∧ l.f2 ≤ 4096
      · simp [h1, h2, h3]
      · simp [h1, h2, h3]
    · simp [h1, h2]
  · simp [h1]
theorem str_iff {s t : ByteArray} : s.toList = t.toList ↔ s = t := ⟨str_inj, fun h => h ▸ rfl⟩
/-- A tenant that comes. -/
def newT (c : S27) : S39 := ⟨c.f1, [c.f2], c.f3, c.f4, c.f5, []⟩
/-- What a change answers, and the table behind it. -/
def doT (st : St) (c : S27) : Int × St :=
  if rightE c = 0 then
    (if c.f0 = 0 then (match look st c.f1 with
      | some _ => (100, st)
      | none => if 16 ≤ st.length then (5, st) else (0, put st (newT c)))
    else match look st c.f1 with
      | none => (180, st)
      | some x => if (changeT x c).1 = 0 then (0, put st (changeT x c).2) else ((changeT x c).1, st))
  else (rightE c, st)
theorem right_range {c : S27} (h : rightE c = 0) : 0 ≤ c.f0 ∧ c.f0 ≤ 5 := by
  unfold rightE at h
  split at h
  · cases h
  · omega
theorem fine_new {c : S27} (h : rightE c = 0) (h0 : c.f0 = 0) : Fine (newT c) := by
  unfold rightE at h
  rw [if_neg (by omega)] at h
  split at h
  · cases h
  split at h
  · cases h
  split at h
  · cases h
  · rename_i q
    have hl : limB c.f3 = true := by cases hb : limB c.f3; exact absurd (.inl hb) q; rfl
    have hl' := of_decide_eq_true hl
    exact ⟨by simp [newT], by simp [newT], by show 1 ≤ c.f4 ∧ c.f4 ≤ 64; omega, by show 3 ≤ c.f5 ∧ c.f5 ≤ 16; omega, by show c.f3.f2 ≤ 4096; omega, by show 0 ≤ c.f3.f0; omega⟩
theorem change_name (x : S39) (c : S27) : (changeT x c).2.f0 = x.f0 := by
  unfold changeT
  repeat' split
  all_goals rfl
theorem fine_change {x : S39} {c : S27} (hf : Fine x) (h : rightE c = 0) : Fine (changeT x c).2 := by
  have hr := right_range h
  unfold changeT
  split
  · split
    · exact ⟨by simp [hf.keys], hf.readers, hf.queue, hf.ring, hf.series, hf.rate⟩
    · split
      · exact hf
      · exact ⟨by simp; omega, hf.readers, hf.queue, hf.ring, hf.series, hf.rate⟩
  split
  · split
    · exact ⟨Nat.le_trans (List.length_eraseIdx_le _ _) hf.keys, hf.readers, hf.queue, hf.ring, hf.series, hf.rate⟩
    · exact hf
  split
  · rename_i d1 d2 d3
    unfold rightE at h
    rw [if_neg (by omega)] at h
    split at h
    · cases h
    rw [if_neg (by omega)] at h
    split at h
    · cases h
    · rename_i q
      have hl : limB c.f3 = true := by cases hb : limB c.f3; exact absurd hb q; rfl
      have hl' := of_decide_eq_true hl
      exact ⟨hf.keys, hf.readers, hf.queue, hf.ring, by show c.f3.f2 ≤ 4096; omega, by show 0 ≤ c.f3.f0; omega⟩
  split
  · split
    · exact hf
    · split
      · exact hf
      · exact ⟨hf.keys, by simp; omega, hf.queue, hf.ring, hf.series, hf.rate⟩
  · split
    · exact ⟨hf.keys, Nat.le_trans (List.length_eraseIdx_le _ _) hf.readers, hf.queue, hf.ring, hf.series, hf.rate⟩
    · exact hf
/-- A tenant is put to the table. -/
theorem TabG.put {w : World} {D M : Nat} {st : St} (h : TabG w D M st) {x : S39} {v : Value} (ht : Ten w v x) (hf : Fine x) (hlen : (T.put st x).length ≤ 16) :
    ∃ w1, (Instr.mapUpdate 58 (.map (some M)) (.string x.f0) v).run Try.prog w = .ok () w1 ∧ TabG w1 D M (T.put st x) ∧ Chg (fun k => k = M) w w1 := by
  obtain ⟨G, h1, h2⟩ := h.ex
  obtain ⟨w1, hrun, hM, s1, s2, s3, s4, s5⟩ := MapF.put (P := Try.prog) Try.underlying58 Try.underlying9 h1 x.f0 v
  have hMb : ∃ ma clk, w.heap[M]? = some (.map ma clk) := by obtain ⟨ma, clk, h, _⟩ := h1; exact ⟨ma, clk, h⟩
  obtain ⟨ma, clk, hMb⟩ := hMb
  have hsane : Sane w w1 := fun k cs t fz hk => s5 k (fun e => by rw [e, hMb] at hk; cases hk)
  have hDM : D ≠ M := fun e => by have := h.blk; rw [e, hMb] at this; cases this
  refine ⟨w1, hrun, ⟨(s5 D hDM).trans h.blk, _, hM, ?_, ?_, put_sorted x h2.sorted, ?_, hlen⟩, ⟨s1, s2, s3, by rw [s4]; exact Nat.le_refl _, fun k _ hne => s5 k hne⟩⟩
  · intro s
    rw [look_put x s h2.sorted]
    by_cases e : s = x.f0
    · rw [if_pos e, if_pos e]; simp
    · rw [if_neg e, if_neg e]; exact h2.none_ s
  · intro s v' hv'
    try dsimp only at hv'
    rw [look_put x s h2.sorted]
    by_cases e : s = x.f0
    · rw [if_pos e] at hv' ⊢
      injection hv' with hv'
      subst hv'
      exact ⟨x, rfl, ht.sane hsane⟩
    · rw [if_neg e] at hv' ⊢
      obtain ⟨y, e1, e2⟩ := h2.some_ s v' hv'
      exact ⟨y, e1, e2.sane hsane⟩
  · intro y hy
    rcases put_mem hy with e | ⟨e, _⟩ | e
    · rw [e]; exact hf
    · exact h2.fine y e
    · exact h2.fine y e
theorem put_len {st : St} (hs : Sorted st) (x : S39) : (put st x).length = st.length + (if look st x.f0 = none then 1 else 0) := (total_put x hs).2
theorem TabG.sorted {w : World} {D M : Nat} {st : St} (h : TabG w D M st) : Sorted st := by obtain ⟨G, _, h2⟩ := h.ex; exact h2.sorted
theorem TabG.few16 {w : World} {D M : Nat} {st : St} (h : TabG w D M st) : st.length ≤ 16 := by obtain ⟨G, _, h2⟩ := h.ex; exact h2.few
/-- What is looked up, at this and at later worlds. -/
theorem TabG.look3 {w : World} {D M : Nat} {st : St} (h : TabG w D M st) (s : ByteArray) :
    (look st s = none ∧ ∀ w', Below w.heap.size w w' → (Instr.lookup 58 (.map (some M)) (.string s) true).run Try.prog w' = .ok (.tuple #[.agg (ten z39 (.slice none 0 0) (.slice none 0 0)).toArray, .bool false]) w') ∨
    ∃ x A1 c1 A8 c8, look st s = some x ∧ (∀ w', Below w.heap.size w w' → (Instr.lookup 58 (.map (some M)) (.string s) true).run Try.prog w' = .ok (.tuple #[.agg (ten x (.slice A1 x.f1.length c1) (.slice A8 x.f5.length c8)).toArray, .bool true]) w') ∧ k23.C w A1 x.f1.length x.f1 ∧ x.f1.length ≤ c1 ∧ Kd.string.C w A8 x.f5.length x.f5 ∧ x.f5.length ≤ c8 := by
  obtain ⟨G, h1, h2⟩ := h.ex
  have hl2 : ∀ w', Below w.heap.size w w' → _ := fun w' hb => MapF.look2 (P := Try.prog) Try.underlying58 Try.underlying9 (zero39 w') (h1.move (hb.block M h1.lt)) s
  rcases h2.at_ s with ⟨hG, hl⟩ | ⟨v, x, hG, hl, A1, c1, A8, c8, rfl, e1, e2, e3, e4, _⟩
  · rw [hG] at hl2
    exact .inl ⟨hl, hl2⟩
  · rw [hG] at hl2
    exact .inr ⟨x, A1, c1, A8, c8, hl, hl2, e1, e2, e3, e4⟩
/-- How many tenants the map holds. -/
theorem TabG.len {w : World} {D M : Nat} {st : St} (h : TabG w D M st) : (Builtin.len_ #[58] 3 #[.map (some M)]).run Try.prog w = .ok (.int .i64 st.length) w := by
  obtain ⟨G, h1, h2⟩ := h.ex
  obtain ⟨ma, clk, hb, hsz⟩ := h1.entries
  have hn : (namesT st).Nodup := by
    have := h2.sorted
    unfold namesT
    rw [List.nodup_iff_pairwise_ne, List.pairwise_map]
    exact this.imp (fun h => h.ne)
  have := hsz (namesT st) hn (fun s => by
    rw [Ne, h2.none_ s, look_none]
    simp [namesT])
  have hlen : ma.size = st.length := by rw [this]; simp [namesT]
  simp [Builtin.len_, run_underlying Try.underlying58, MapKept.run_getObj_map hb, Result.andThen, goInt, hlen]
end Go.Proofs.Yticoaaddhhiglaa.T
/- The program's Right, by hand (mkRH.py). -/
namespace Go.Proofs.Yticoaaddhhiglaa.T
open Go.RowKit Go.Proofs.Yticoaaddhhiglaa.Q Go.Proofs.YticoaaddhhiglaaW.PrintWords Go.Proofs.YticoaaddhhiglaaW.PrintLast Go.Proofs.YticoaaddhhiglaaW.PrintMore
set_option linter.unusedVariables false
set_option linter.unusedSimpArgs false
theorem tname_calls (s : ByteArray) (w : World) : Calls Try.prog 31 #[.string s] w fun e w' => e = .returned (.bool (tnameB s)) ∧ Below w.heap.size w w' := token_Tenant.calls s _ w (tname_f s)
theorem keyed_calls (k : S23) (w : World) : Calls Try.prog 32 #[.agg #[.int .i64 k.f0, .string k.f1]] w fun e w' => e = .returned (.bool (keyedB k)) ∧ Below w.heap.size w w' := token_Keyed.calls k.f0 k.f1 _ w (keyed_f k)
theorem lim_calls (l : S25) (w : World) : Calls Try.prog 33 #[.agg #[.int .i64 l.f0, .int .i64 l.f1, .int .i64 l.f2, .int .i64 l.f3]] w fun e w' => e = .returned (.bool (limB l)) ∧ Below w.heap.size w w' := tenant_limits.calls l.f0 l.f1 l.f2 l.f3 _ w (lim_f l)
set_option maxHeartbeats 4000000 in
set_option maxRecDepth 100000 in
theorem right_calls (c : S27) (w : World) : Calls Try.prog 11 #[.agg (chg c).toArray] w fun e w' => e = .returned (.int .i64 (rightE c)) ∧ Below w.heap.size w w' := by
  obtain ⟨d, tn, k, lm, qu, ri, rdr⟩ := c
  obtain ⟨rr, hrr⟩ : ∃ rr, rr = rightE ⟨d, tn, k, lm, qu, ri, rdr⟩ := ⟨_, rfl⟩
  rw [← hrr]
  unfold rightE at hrr
  dsimp only at hrr
  obtain ⟨tb, htb⟩ : ∃ b, b = tnameB tn := ⟨_, rfl⟩
  obtain ⟨ub, hub⟩ : ∃ b, b = tnameB rdr := ⟨_, rfl⟩
  obtain ⟨kb, hkb⟩ : ∃ b, b = keyedB k := ⟨_, rfl⟩
  obtain ⟨lb, hlb⟩ : ∃ b, b = limB lm := ⟨_, rfl⟩
  rw [← htb, ← hub, ← hkb, ← hlb] at hrr
  have HTB := Aside0.mk htb; have HUB := Aside0.mk hub; have HKB := Aside0.mk hkb; have HLB := Aside0.mk hlb
  clear htb hub hkb hlb
  by_cases h0 : d < 0
  · rw [if_pos (.inl h0)] at hrr
    have HV := Aside0.mk (show rr = 1 from hrr)
    clear hrr
    unfold chg
    go_enter Try.func11, Try.ntmps11
    go_wp2_with (first
      | ((with_reducible refine gate_dst (N := 1) rfl ?_); refine box_event ?hg (N := 1) ?hd (cs := (chg ⟨d, tn, k, lm, qu, ri, rdr⟩).toArray) (t := 27) ?hr ?_; (case hd => rfl); (case hg => rfl); (case hr => first | (go_simp; done) | (go_simp; rfl)); intro X hX w1 hx1 hb1; have H1 := Aside0.mk (And.intro hb1 hx1); obtain ⟨x0, x1, x2, x3, x4, x5, x6, x7, x8, x9, x10⟩ := cellsX hx1; (try dsimp only at x0 x1 x2 x3 x4 x5 x6 x7 x8 x9 x10); clear hX hx1 hb1))
    go_ret
    exact ⟨by rw [HV.out]; rfl, H1.out.1⟩
  by_cases h5 : d > 5
  · rw [if_pos (.inr h5)] at hrr
    have HV := Aside0.mk (show rr = 1 from hrr)
    clear hrr
    unfold chg
    go_enter Try.func11, Try.ntmps11
    go_wp2_with (first
      | ((with_reducible refine gate_dst (N := 1) rfl ?_); refine box_event ?hg (N := 1) ?hd (cs := (chg ⟨d, tn, k, lm, qu, ri, rdr⟩).toArray) (t := 27) ?hr ?_; (case hd => rfl); (case hg => rfl); (case hr => first | (go_simp; done) | (go_simp; rfl)); intro X hX w1 hx1 hb1; have H1 := Aside0.mk (And.intro hb1 hx1); obtain ⟨x0, x1, x2, x3, x4, x5, x6, x7, x8, x9, x10⟩ := cellsX hx1; (try dsimp only at x0 x1 x2 x3 x4 x5 x6 x7 x8 x9 x10); clear hX hx1 hb1))
    go_ret
    exact ⟨by rw [HV.out]; rfl, H1.out.1⟩
  rw [if_neg (by omega)] at hrr
  cases tb
  · rw [if_pos rfl] at hrr
    have HV := Aside0.mk (show rr = 50 from hrr)
    clear hrr
    unfold chg
    go_enter Try.func11, Try.ntmps11
    go_wp2_with (first
      | ((with_reducible refine gate_dst (N := 1) rfl ?_); refine box_event ?hg (N := 1) ?hd (cs := (chg ⟨d, tn, k, lm, qu, ri, rdr⟩).toArray) (t := 27) ?hr ?_; (case hd => rfl); (case hg => rfl); (case hr => first | (go_simp; done) | (go_simp; rfl)); intro X hX w1 hx1 hb1; have H1 := Aside0.mk (And.intro hb1 hx1); obtain ⟨x0, x1, x2, x3, x4, x5, x6, x7, x8, x9, x10⟩ := cellsX hx1; (try dsimp only at x0 x1 x2 x3 x4 x5 x6 x7 x8 x9 x10); clear hX hx1 hb1)
      | (go_at_call 31; (with_reducible refine (tname_calls tn _).mono ?_); rintro e w_Ha ⟨rfl, hb⟩; rw [← HTB.out]; have Ha := Aside0.mk (And.intro (below_step H1.out.1 hb) ((hb.block X (heap_lt H1.out.2)).trans H1.out.2)); clear hb x0 x1 x2 x3 x4 x5 x6 x7 x8 x9 x10; obtain ⟨x0, x1, x2, x3, x4, x5, x6, x7, x8, x9, x10⟩ := cellsX Ha.out.2; (try dsimp only at x0 x1 x2 x3 x4 x5 x6 x7 x8 x9 x10)))
    go_ret
    exact ⟨by rw [HV.out]; rfl, Ha.out.1⟩
  rw [if_neg (show ¬ true = false by decide)] at hrr
  by_cases d0 : d = 0
  · subst d0
    clear h0 h5
    rw [if_pos rfl] at hrr
    cases kb
    · rw [if_pos rfl] at hrr
      have HV := Aside0.mk (show rr = 181 from hrr)
      clear hrr
      unfold chg
      go_enter Try.func11, Try.ntmps11
      go_wp2_with (first
        | ((with_reducible refine gate_dst (N := 1) rfl ?_); refine box_event ?hg (N := 1) ?hd (cs := (chg ⟨0, tn, k, lm, qu, ri, rdr⟩).toArray) (t := 27) ?hr ?_; (case hd => rfl); (case hg => rfl); (case hr => first | (go_simp; done) | (go_simp; rfl)); intro X hX w1 hx1 hb1; have H1 := Aside0.mk (And.intro hb1 hx1); obtain ⟨x0, x1, x2, x3, x4, x5, x6, x7, x8, x9, x10⟩ := cellsX hx1; (try dsimp only at x0 x1 x2 x3 x4 x5 x6 x7 x8 x9 x10); clear hX hx1 hb1)
        | (go_at_call 31; (with_reducible refine (tname_calls tn _).mono ?_); rintro e w_Ha ⟨rfl, hb⟩; rw [← HTB.out]; have Ha := Aside0.mk (And.intro (below_step H1.out.1 hb) ((hb.block X (heap_lt H1.out.2)).trans H1.out.2)); clear hb x0 x1 x2 x3 x4 x5 x6 x7 x8 x9 x10; obtain ⟨x0, x1, x2, x3, x4, x5, x6, x7, x8, x9, x10⟩ := cellsX Ha.out.2; (try dsimp only at x0 x1 x2 x3 x4 x5 x6 x7 x8 x9 x10))
        | (go_at_call 32; (with_reducible refine (keyed_calls k _).mono ?_); rintro e w_Hb ⟨rfl, hb⟩; rw [← HKB.out]; have Hb := Aside0.mk (And.intro (below_step Ha.out.1 hb) ((hb.block X (heap_lt Ha.out.2)).trans Ha.out.2)); clear hb x0 x1 x2 x3 x4 x5 x6 x7 x8 x9 x10; obtain ⟨x0, x1, x2, x3, x4, x5, x6, x7, x8, x9, x10⟩ := cellsX Hb.out.2; (try dsimp only at x0 x1 x2 x3 x4 x5 x6 x7 x8 x9 x10)))
      go_ret
      exact ⟨by rw [HV.out]; rfl, Hb.out.1⟩
    rw [if_neg (show ¬ true = false by decide)] at hrr
    cases lb
    · rw [if_pos (.inl rfl)] at hrr
      have HV := Aside0.mk (show rr = 183 from hrr)
      clear hrr
      unfold chg
      go_enter Try.func11, Try.ntmps11
      go_wp2_with (first
        | ((with_reducible refine gate_dst (N := 1) rfl ?_); refine box_event ?hg (N := 1) ?hd (cs := (chg ⟨0, tn, k, lm, qu, ri, rdr⟩).toArray) (t := 27) ?hr ?_; (case hd => rfl); (case hg => rfl); (case hr => first | (go_simp; done) | (go_simp; rfl)); intro X hX w1 hx1 hb1; have H1 := Aside0.mk (And.intro hb1 hx1); obtain ⟨x0, x1, x2, x3, x4, x5, x6, x7, x8, x9, x10⟩ := cellsX hx1; (try dsimp only at x0 x1 x2 x3 x4 x5 x6 x7 x8 x9 x10); clear hX hx1 hb1)
        | (go_at_call 31; (with_reducible refine (tname_calls tn _).mono ?_); rintro e w_Ha ⟨rfl, hb⟩; rw [← HTB.out]; have Ha := Aside0.mk (And.intro (below_step H1.out.1 hb) ((hb.block X (heap_lt H1.out.2)).trans H1.out.2)); clear hb x0 x1 x2 x3 x4 x5 x6 x7 x8 x9 x10; obtain ⟨x0, x1, x2, x3, x4, x5, x6, x7, x8, x9, x10⟩ := cellsX Ha.out.2; (try dsimp only at x0 x1 x2 x3 x4 x5 x6 x7 x8 x9 x10))
        | (go_at_call 32; (with_reducible refine (keyed_calls k _).mono ?_); rintro e w_Hb ⟨rfl, hb⟩; rw [← HKB.out]; have Hb := Aside0.mk (And.intro (below_step Ha.out.1 hb) ((hb.block X (heap_lt Ha.out.2)).trans Ha.out.2)); clear hb x0 x1 x2 x3 x4 x5 x6 x7 x8 x9 x10; obtain ⟨x0, x1, x2, x3, x4, x5, x6, x7, x8, x9, x10⟩ := cellsX Hb.out.2; (try dsimp only at x0 x1 x2 x3 x4 x5 x6 x7 x8 x9 x10))
        | (go_at_call 33; (with_reducible refine (lim_calls lm _).mono ?_); rintro e w_Hc ⟨rfl, hb⟩; rw [← HLB.out]; have Hc := Aside0.mk (And.intro (below_step Hb.out.1 hb) ((hb.block X (heap_lt Hb.out.2)).trans Hb.out.2)); clear hb x0 x1 x2 x3 x4 x5 x6 x7 x8 x9 x10; obtain ⟨x0, x1, x2, x3, x4, x5, x6, x7, x8, x9, x10⟩ := cellsX Hc.out.2; (try dsimp only at x0 x1 x2 x3 x4 x5 x6 x7 x8 x9 x10)))
      go_ret
      exact ⟨by rw [HV.out]; rfl, Hc.out.1⟩
    by_cases q1 : qu < 1
    · rw [if_pos (.inr (.inl q1))] at hrr
      have HV := Aside0.mk (show rr = 183 from hrr)
      clear hrr
      unfold chg
      go_enter Try.func11, Try.ntmps11
      go_wp2_with (first
        | ((with_reducible refine gate_dst (N := 1) rfl ?_); refine box_event ?hg (N := 1) ?hd (cs := (chg ⟨0, tn, k, lm, qu, ri, rdr⟩).toArray) (t := 27) ?hr ?_; (case hd => rfl); (case hg => rfl); (case hr => first | (go_simp; done) | (go_simp; rfl)); intro X hX w1 hx1 hb1; have H1 := Aside0.mk (And.intro hb1 hx1); obtain ⟨x0, x1, x2, x3, x4, x5, x6, x7, x8, x9, x10⟩ := cellsX hx1; (try dsimp only at x0 x1 x2 x3 x4 x5 x6 x7 x8 x9 x10); clear hX hx1 hb1)
        | (go_at_call 31; (with_reducible refine (tname_calls tn _).mono ?_); rintro e w_Ha ⟨rfl, hb⟩; rw [← HTB.out]; have Ha := Aside0.mk (And.intro (below_step H1.out.1 hb) ((hb.block X (heap_lt H1.out.2)).trans H1.out.2)); clear hb x0 x1 x2 x3 x4 x5 x6 x7 x8 x9 x10; obtain ⟨x0, x1, x2, x3, x4, x5, x6, x7, x8, x9, x10⟩ := cellsX Ha.out.2; (try dsimp only at x0 x1 x2 x3 x4 x5 x6 x7 x8 x9 x10))
        | (go_at_call 32; (with_reducible refine (keyed_calls k _).mono ?_); rintro e w_Hb ⟨rfl, hb⟩; rw [← HKB.out]; have Hb := Aside0.mk (And.intro (below_step Ha.out.1 hb) ((hb.block X (heap_lt Ha.out.2)).trans Ha.out.2)); clear hb x0 x1 x2 x3 x4 x5 x6 x7 x8 x9 x10; obtain ⟨x0, x1, x2, x3, x4, x5, x6, x7, x8, x9, x10⟩ := cellsX Hb.out.2; (try dsimp only at x0 x1 x2 x3 x4 x5 x6 x7 x8 x9 x10))
        | (go_at_call 33; (with_reducible refine (lim_calls lm _).mono ?_); rintro e w_Hc ⟨rfl, hb⟩; rw [← HLB.out]; have Hc := Aside0.mk (And.intro (below_step Hb.out.1 hb) ((hb.block X (heap_lt Hb.out.2)).trans Hb.out.2)); clear hb x0 x1 x2 x3 x4 x5 x6 x7 x8 x9 x10; obtain ⟨x0, x1, x2, x3, x4, x5, x6, x7, x8, x9, x10⟩ := cellsX Hc.out.2; (try dsimp only at x0 x1 x2 x3 x4 x5 x6 x7 x8 x9 x10)))
      go_ret
      exact ⟨by rw [HV.out]; rfl, Hc.out.1⟩
    by_cases q2 : qu > 64
    · rw [if_pos (.inr (.inr (.inl q2)))] at hrr
      have HV := Aside0.mk (show rr = 183 from hrr)
      clear hrr
      unfold chg
      go_enter Try.func11, Try.ntmps11
      go_wp2_with (first
        | ((with_reducible refine gate_dst (N := 1) rfl ?_); refine box_event ?hg (N := 1) ?hd (cs := (chg ⟨0, tn, k, lm, qu, ri, rdr⟩).toArray) (t := 27) ?hr ?_; (case hd => rfl); (case hg => rfl); (case hr => first | (go_simp; done) | (go_simp; rfl)); intro X hX w1 hx1 hb1; have H1 := Aside0.mk (And.intro hb1 hx1); obtain ⟨x0, x1, x2, x3, x4, x5, x6, x7, x8, x9, x10⟩ := cellsX hx1; (try dsimp only at x0 x1 x2 x3 x4 x5 x6 x7 x8 x9 x10); clear hX hx1 hb1)
        | (go_at_call 31; (with_reducible refine (tname_calls tn _).mono ?_); rintro e w_Ha ⟨rfl, hb⟩; rw [← HTB.out]; have Ha := Aside0.mk (And.intro (below_step H1.out.1 hb) ((hb.block X (heap_lt H1.out.2)).trans H1.out.2)); clear hb x0 x1 x2 x3 x4 x5 x6 x7 x8 x9 x10; obtain ⟨x0, x1, x2, x3, x4, x5, x6, x7, x8, x9, x10⟩ := cellsX Ha.out.2; (try dsimp only at x0 x1 x2 x3 x4 x5 x6 x7 x8 x9 x10))
        | (go_at_call 32; (with_reducible refine (keyed_calls k _).mono ?_); rintro e w_Hb ⟨rfl, hb⟩; rw [← HKB.out]; have Hb := Aside0.mk (And.intro (below_step Ha.out.1 hb) ((hb.block X (heap_lt Ha.out.2)).trans Ha.out.2)); clear hb x0 x1 x2 x3 x4 x5 x6 x7 x8 x9 x10; obtain ⟨x0, x1, x2, x3, x4, x5, x6, x7, x8, x9, x10⟩ := cellsX Hb.out.2; (try dsimp only at x0 x1 x2 x3 x4 x5 x6 x7 x8 x9 x10))
        | (go_at_call 33; (with_reducible refine (lim_calls lm _).mono ?_); rintro e w_Hc ⟨rfl, hb⟩; rw [← HLB.out]; have Hc := Aside0.mk (And.intro (below_step Hb.out.1 hb) ((hb.block X (heap_lt Hb.out.2)).trans Hb.out.2)); clear hb x0 x1 x2 x3 x4 x5 x6 x7 x8 x9 x10; obtain ⟨x0, x1, x2, x3, x4, x5, x6, x7, x8, x9, x10⟩ := cellsX Hc.out.2; (try dsimp only at x0 x1 x2 x3 x4 x5 x6 x7 x8 x9 x10)))
      go_ret
      exact ⟨by rw [HV.out]; rfl, Hc.out.1⟩
    by_cases q3 : ri < 3
    · rw [if_pos (.inr (.inr (.inr (.inl q3))))] at hrr
      have HV := Aside0.mk (show rr = 183 from hrr)
      clear hrr
      unfold chg
      go_enter Try.func11, Try.ntmps11
      go_wp2_with (first
        | ((with_reducible refine gate_dst (N := 1) rfl ?_); refine box_event ?hg (N := 1) ?hd (cs := (chg ⟨0, tn, k, lm, qu, ri, rdr⟩).toArray) (t := 27) ?hr ?_; (case hd => rfl); (case hg => rfl); (case hr => first | (go_simp; done) | (go_simp; rfl)); intro X hX w1 hx1 hb1; have H1 := Aside0.mk (And.intro hb1 hx1); obtain ⟨x0, x1, x2, x3, x4, x5, x6, x7, x8, x9, x10⟩ := cellsX hx1; (try dsimp only at x0 x1 x2 x3 x4 x5 x6 x7 x8 x9 x10); clear hX hx1 hb1)
        | (go_at_call 31; (with_reducible refine (tname_calls tn _).mono ?_); rintro e w_Ha ⟨rfl, hb⟩; rw [← HTB.out]; have Ha := Aside0.mk (And.intro (below_step H1.out.1 hb) ((hb.block X (heap_lt H1.out.2)).trans H1.out.2)); clear hb x0 x1 x2 x3 x4 x5 x6 x7 x8 x9 x10; obtain ⟨x0, x1, x2, x3, x4, x5, x6, x7, x8, x9, x10⟩ := cellsX Ha.out.2; (try dsimp only at x0 x1 x2 x3 x4 x5 x6 x7 x8 x9 x10))
        | (go_at_call 32; (with_reducible refine (keyed_calls k _).mono ?_); rintro e w_Hb ⟨rfl, hb⟩; rw [← HKB.out]; have Hb := Aside0.mk (And.intro (below_step Ha.out.1 hb) ((hb.block X (heap_lt Ha.out.2)).trans Ha.out.2)); clear hb x0 x1 x2 x3 x4 x5 x6 x7 x8 x9 x10; obtain ⟨x0, x1, x2, x3, x4, x5, x6, x7, x8, x9, x10⟩ := cellsX Hb.out.2; (try dsimp only at x0 x1 x2 x3 x4 x5 x6 x7 x8 x9 x10))
        | (go_at_call 33; (with_reducible refine (lim_calls lm _).mono ?_); rintro e w_Hc ⟨rfl, hb⟩; rw [← HLB.out]; have Hc := Aside0.mk (And.intro (below_step Hb.out.1 hb) ((hb.block X (heap_lt Hb.out.2)).trans Hb.out.2)); clear hb x0 x1 x2 x3 x4 x5 x6 x7 x8 x9 x10; obtain ⟨x0, x1, x2, x3, x4, x5, x6, x7, x8, x9, x10⟩ := cellsX Hc.out.2; (try dsimp only at x0 x1 x2 x3 x4 x5 x6 x7 x8 x9 x10)))
      go_ret
      exact ⟨by rw [HV.out]; rfl, Hc.out.1⟩
    by_cases q4 : ri > 16
    · rw [if_pos (.inr (.inr (.inr (.inr q4))))] at hrr
      have HV := Aside0.mk (show rr = 183 from hrr)
      clear hrr
      unfold chg
      go_enter Try.func11, Try.ntmps11
      go_wp2_with (first
        | ((with_reducible refine gate_dst (N := 1) rfl ?_); refine box_event ?hg (N := 1) ?hd (cs := (chg ⟨0, tn, k, lm, qu, ri, rdr⟩).toArray) (t := 27) ?hr ?_; (case hd => rfl); (case hg => rfl); (case hr => first | (go_simp; done) | (go_simp; rfl)); intro X hX w1 hx1 hb1; have H1 := Aside0.mk (And.intro hb1 hx1); obtain ⟨x0, x1, x2, x3, x4, x5, x6, x7, x8, x9, x10⟩ := cellsX hx1; (try dsimp only at x0 x1 x2 x3 x4 x5 x6 x7 x8 x9 x10); clear hX hx1 hb1)
        | (go_at_call 31; (with_reducible refine (tname_calls tn _).mono ?_); rintro e w_Ha ⟨rfl, hb⟩; rw [← HTB.out]; have Ha := Aside0.mk (And.intro (below_step H1.out.1 hb) ((hb.block X (heap_lt H1.out.2)).trans H1.out.2)); clear hb x0 x1 x2 x3 x4 x5 x6 x7 x8 x9 x10; obtain ⟨x0, x1, x2, x3, x4, x5, x6, x7, x8, x9, x10⟩ := cellsX Ha.out.2; (try dsimp only at x0 x1 x2 x3 x4 x5 x6 x7 x8 x9 x10))
        | (go_at_call 32; (with_reducible refine (keyed_calls k _).mono ?_); rintro e w_Hb ⟨rfl, hb⟩; rw [← HKB.out]; have Hb := Aside0.mk (And.intro (below_step Ha.out.1 hb) ((hb.block X (heap_lt Ha.out.2)).trans Ha.out.2)); clear hb x0 x1 x2 x3 x4 x5 x6 x7 x8 x9 x10; obtain ⟨x0, x1, x2, x3, x4, x5, x6, x7, x8, x9, x10⟩ := cellsX Hb.out.2; (try dsimp only at x0 x1 x2 x3 x4 x5 x6 x7 x8 x9 x10))
        | (go_at_call 33; (with_reducible refine (lim_calls lm _).mono ?_); rintro e w_Hc ⟨rfl, hb⟩; rw [← HLB.out]; have Hc := Aside0.mk (And.intro (below_step Hb.out.1 hb) ((hb.block X (heap_lt Hb.out.2)).trans Hb.out.2)); clear hb x0 x1 x2 x3 x4 x5 x6 x7 x8 x9 x10; obtain ⟨x0, x1, x2, x3, x4, x5, x6, x7, x8, x9, x10⟩ := cellsX Hc.out.2; (try dsimp only at x0 x1 x2 x3 x4 x5 x6 x7 x8 x9 x10)))
      go_ret
      exact ⟨by rw [HV.out]; rfl, Hc.out.1⟩
    · rw [if_neg (by simp only [Bool.true_eq_false, false_or]; omega)] at hrr
      have HV := Aside0.mk (show rr = 0 from hrr)
      clear hrr
      unfold chg
      go_enter Try.func11, Try.ntmps11
      go_wp2_with (first
        | ((with_reducible refine gate_dst (N := 1) rfl ?_); refine box_event ?hg (N := 1) ?hd (cs := (chg ⟨0, tn, k, lm, qu, ri, rdr⟩).toArray) (t := 27) ?hr ?_; (case hd => rfl); (case hg => rfl); (case hr => first | (go_simp; done) | (go_simp; rfl)); intro X hX w1 hx1 hb1; have H1 := Aside0.mk (And.intro hb1 hx1); obtain ⟨x0, x1, x2, x3, x4, x5, x6, x7, x8, x9, x10⟩ := cellsX hx1; (try dsimp only at x0 x1 x2 x3 x4 x5 x6 x7 x8 x9 x10); clear hX hx1 hb1)
        | (go_at_call 31; (with_reducible refine (tname_calls tn _).mono ?_); rintro e w_Ha ⟨rfl, hb⟩; rw [← HTB.out]; have Ha := Aside0.mk (And.intro (below_step H1.out.1 hb) ((hb.block X (heap_lt H1.out.2)).trans H1.out.2)); clear hb x0 x1 x2 x3 x4 x5 x6 x7 x8 x9 x10; obtain ⟨x0, x1, x2, x3, x4, x5, x6, x7, x8, x9, x10⟩ := cellsX Ha.out.2; (try dsimp only at x0 x1 x2 x3 x4 x5 x6 x7 x8 x9 x10))
        | (go_at_call 32; (with_reducible refine (keyed_calls k _).mono ?_); rintro e w_Hb ⟨rfl, hb⟩; rw [← HKB.out]; have Hb := Aside0.mk (And.intro (below_step Ha.out.1 hb) ((hb.block X (heap_lt Ha.out.2)).trans Ha.out.2)); clear hb x0 x1 x2 x3 x4 x5 x6 x7 x8 x9 x10; obtain ⟨x0, x1, x2, x3, x4, x5, x6, x7, x8, x9, x10⟩ := cellsX Hb.out.2; (try dsimp only at x0 x1 x2 x3 x4 x5 x6 x7 x8 x9 x10))
        | (go_at_call 33; (with_reducible refine (lim_calls lm _).mono ?_); rintro e w_Hc ⟨rfl, hb⟩; rw [← HLB.out]; have Hc := Aside0.mk (And.intro (below_step Hb.out.1 hb) ((hb.block X (heap_lt Hb.out.2)).trans Hb.out.2)); clear hb x0 x1 x2 x3 x4 x5 x6 x7 x8 x9 x10; obtain ⟨x0, x1, x2, x3, x4, x5, x6, x7, x8, x9, x10⟩ := cellsX Hc.out.2; (try dsimp only at x0 x1 x2 x3 x4 x5 x6 x7 x8 x9 x10)))
      go_ret
      exact ⟨by rw [HV.out]; rfl, Hc.out.1⟩
  rw [if_neg d0] at hrr
  by_cases d1 : d = 1
  · subst d1
    clear h0 h5 d0
    rw [if_pos rfl] at hrr
    cases kb
    · rw [if_pos rfl] at hrr
      have HV := Aside0.mk (show rr = 181 from hrr)
      clear hrr
      unfold chg
      go_enter Try.func11, Try.ntmps11
      go_wp2_with (first
        | ((with_reducible refine gate_dst (N := 1) rfl ?_); refine box_event ?hg (N := 1) ?hd (cs := (chg ⟨1, tn, k, lm, qu, ri, rdr⟩).toArray) (t := 27) ?hr ?_; (case hd => rfl); (case hg => rfl); (case hr => first | (go_simp; done) | (go_simp; rfl)); intro X hX w1 hx1 hb1; have H1 := Aside0.mk (And.intro hb1 hx1); obtain ⟨x0, x1, x2, x3, x4, x5, x6, x7, x8, x9, x10⟩ := cellsX hx1; (try dsimp only at x0 x1 x2 x3 x4 x5 x6 x7 x8 x9 x10); clear hX hx1 hb1)
        | (go_at_call 31; (with_reducible refine (tname_calls tn _).mono ?_); rintro e w_Ha ⟨rfl, hb⟩; rw [← HTB.out]; have Ha := Aside0.mk (And.intro (below_step H1.out.1 hb) ((hb.block X (heap_lt H1.out.2)).trans H1.out.2)); clear hb x0 x1 x2 x3 x4 x5 x6 x7 x8 x9 x10; obtain ⟨x0, x1, x2, x3, x4, x5, x6, x7, x8, x9, x10⟩ := cellsX Ha.out.2; (try dsimp only at x0 x1 x2 x3 x4 x5 x6 x7 x8 x9 x10))
        | (go_at_call 32; (with_reducible refine (keyed_calls k _).mono ?_); rintro e w_Hb ⟨rfl, hb⟩; rw [← HKB.out]; have Hb := Aside0.mk (And.intro (below_step Ha.out.1 hb) ((hb.block X (heap_lt Ha.out.2)).trans Ha.out.2)); clear hb x0 x1 x2 x3 x4 x5 x6 x7 x8 x9 x10; obtain ⟨x0, x1, x2, x3, x4, x5, x6, x7, x8, x9, x10⟩ := cellsX Hb.out.2; (try dsimp only at x0 x1 x2 x3 x4 x5 x6 x7 x8 x9 x10)))
      go_ret
      exact ⟨by rw [HV.out]; rfl, Hb.out.1⟩
    · rw [if_neg (show ¬ true = false by decide)] at hrr
      have HV := Aside0.mk (show rr = 0 from hrr)
      clear hrr
      unfold chg
      go_enter Try.func11, Try.ntmps11
      go_wp2_with (first
        | ((with_reducible refine gate_dst (N := 1) rfl ?_); refine box_event ?hg (N := 1) ?hd (cs := (chg ⟨1, tn, k, lm, qu, ri, rdr⟩).toArray) (t := 27) ?hr ?_; (case hd => rfl); (case hg => rfl); (case hr => first | (go_simp; done) | (go_simp; rfl)); intro X hX w1 hx1 hb1; have H1 := Aside0.mk (And.intro hb1 hx1); obtain ⟨x0, x1, x2, x3, x4, x5, x6, x7, x8, x9, x10⟩ := cellsX hx1; (try dsimp only at x0 x1 x2 x3 x4 x5 x6 x7 x8 x9 x10); clear hX hx1 hb1)
        | (go_at_call 31; (with_reducible refine (tname_calls tn _).mono ?_); rintro e w_Ha ⟨rfl, hb⟩; rw [← HTB.out]; have Ha := Aside0.mk (And.intro (below_step H1.out.1 hb) ((hb.block X (heap_lt H1.out.2)).trans H1.out.2)); clear hb x0 x1 x2 x3 x4 x5 x6 x7 x8 x9 x10; obtain ⟨x0, x1, x2, x3, x4, x5, x6, x7, x8, x9, x10⟩ := cellsX Ha.out.2; (try dsimp only at x0 x1 x2 x3 x4 x5 x6 x7 x8 x9 x10))
        | (go_at_call 32; (with_reducible refine (keyed_calls k _).mono ?_); rintro e w_Hb ⟨rfl, hb⟩; rw [← HKB.out]; have Hb := Aside0.mk (And.intro (below_step Ha.out.1 hb) ((hb.block X (heap_lt Ha.out.2)).trans Ha.out.2)); clear hb x0 x1 x2 x3 x4 x5 x6 x7 x8 x9 x10; obtain ⟨x0, x1, x2, x3, x4, x5, x6, x7, x8, x9, x10⟩ := cellsX Hb.out.2; (try dsimp only at x0 x1 x2 x3 x4 x5 x6 x7 x8 x9 x10)))
      go_ret
      exact ⟨by rw [HV.out]; rfl, Hb.out.1⟩
  rw [if_neg d1] at hrr
  by_cases d2 : d = 2
  · subst d2
    clear h0 h5 d0 d1
    rw [if_pos rfl] at hrr
    by_cases q1 : k.f0 < 1
    · rw [if_pos (.inl q1)] at hrr
      have HV := Aside0.mk (show rr = 181 from hrr)
      clear hrr
      unfold chg
      go_enter Try.func11, Try.ntmps11
      go_wp2_with (first
        | ((with_reducible refine gate_dst (N := 1) rfl ?_); refine box_event ?hg (N := 1) ?hd (cs := (chg ⟨2, tn, k, lm, qu, ri, rdr⟩).toArray) (t := 27) ?hr ?_; (case hd => rfl); (case hg => rfl); (case hr => first | (go_simp; done) | (go_simp; rfl)); intro X hX w1 hx1 hb1; have H1 := Aside0.mk (And.intro hb1 hx1); obtain ⟨x0, x1, x2, x3, x4, x5, x6, x7, x8, x9, x10⟩ := cellsX hx1; (try dsimp only at x0 x1 x2 x3 x4 x5 x6 x7 x8 x9 x10); clear hX hx1 hb1)
        | (go_at_call 31; (with_reducible refine (tname_calls tn _).mono ?_); rintro e w_Ha ⟨rfl, hb⟩; rw [← HTB.out]; have Ha := Aside0.mk (And.intro (below_step H1.out.1 hb) ((hb.block X (heap_lt H1.out.2)).trans H1.out.2)); clear hb x0 x1 x2 x3 x4 x5 x6 x7 x8 x9 x10; obtain ⟨x0, x1, x2, x3, x4, x5, x6, x7, x8, x9, x10⟩ := cellsX Ha.out.2; (try dsimp only at x0 x1 x2 x3 x4 x5 x6 x7 x8 x9 x10)))
      go_ret
      exact ⟨by rw [HV.out]; rfl, Ha.out.1⟩
    by_cases q2 : k.f0 > 99
    · rw [if_pos (.inr q2)] at hrr
      have HV := Aside0.mk (show rr = 181 from hrr)
      clear hrr
      unfold chg
      go_enter Try.func11, Try.ntmps11
      go_wp2_with (first
        | ((with_reducible refine gate_dst (N := 1) rfl ?_); refine box_event ?hg (N := 1) ?hd (cs := (chg ⟨2, tn, k, lm, qu, ri, rdr⟩).toArray) (t := 27) ?hr ?_; (case hd => rfl); (case hg => rfl); (case hr => first | (go_simp; done) | (go_simp; rfl)); intro X hX w1 hx1 hb1; have H1 := Aside0.mk (And.intro hb1 hx1); obtain ⟨x0, x1, x2, x3, x4, x5, x6, x7, x8, x9, x10⟩ := cellsX hx1; (try dsimp only at x0 x1 x2 x3 x4 x5 x6 x7 x8 x9 x10); clear hX hx1 hb1)
        | (go_at_call 31; (with_reducible refine (tname_calls tn _).mono ?_); rintro e w_Ha ⟨rfl, hb⟩; rw [← HTB.out]; have Ha := Aside0.mk (And.intro (below_step H1.out.1 hb) ((hb.block X (heap_lt H1.out.2)).trans H1.out.2)); clear hb x0 x1 x2 x3 x4 x5 x6 x7 x8 x9 x10; obtain ⟨x0, x1, x2, x3, x4, x5, x6, x7, x8, x9, x10⟩ := cellsX Ha.out.2; (try dsimp only at x0 x1 x2 x3 x4 x5 x6 x7 x8 x9 x10)))
      go_ret
      exact ⟨by rw [HV.out]; rfl, Ha.out.1⟩
    · rw [if_neg (by omega)] at hrr
      have HV := Aside0.mk (show rr = 0 from hrr)
      clear hrr
      unfold chg
      go_enter Try.func11, Try.ntmps11
      go_wp2_with (first
        | ((with_reducible refine gate_dst (N := 1) rfl ?_); refine box_event ?hg (N := 1) ?hd (cs := (chg ⟨2, tn, k, lm, qu, ri, rdr⟩).toArray) (t := 27) ?hr ?_; (case hd => rfl); (case hg => rfl); (case hr => first | (go_simp; done) | (go_simp; rfl)); intro X hX w1 hx1 hb1; have H1 := Aside0.mk (And.intro hb1 hx1); obtain ⟨x0, x1, x2, x3, x4, x5, x6, x7, x8, x9, x10⟩ := cellsX hx1; (try dsimp only at x0 x1 x2 x3 x4 x5 x6 x7 x8 x9 x10); clear hX hx1 hb1)
        | (go_at_call 31; (with_reducible refine (tname_calls tn _).mono ?_); rintro e w_Ha ⟨rfl, hb⟩; rw [← HTB.out]; have Ha := Aside0.mk (And.intro (below_step H1.out.1 hb) ((hb.block X (heap_lt H1.out.2)).trans H1.out.2)); clear hb x0 x1 x2 x3 x4 x5 x6 x7 x8 x9 x10; obtain ⟨x0, x1, x2, x3, x4, x5, x6, x7, x8, x9, x10⟩ := cellsX Ha.out.2; (try dsimp only at x0 x1 x2 x3 x4 x5 x6 x7 x8 x9 x10)))
      go_ret
      exact ⟨by rw [HV.out]; rfl, Ha.out.1⟩
  rw [if_neg d2] at hrr
  by_cases d3 : d = 3
  · subst d3
    clear h0 h5 d0 d1 d2
    rw [if_pos rfl] at hrr
    cases lb
    · rw [if_pos rfl] at hrr
      have HV := Aside0.mk (show rr = 183 from hrr)
      clear hrr
      unfold chg
      go_enter Try.func11, Try.ntmps11
      go_wp2_with (first
        | ((with_reducible refine gate_dst (N := 1) rfl ?_); refine box_event ?hg (N := 1) ?hd (cs := (chg ⟨3, tn, k, lm, qu, ri, rdr⟩).toArray) (t := 27) ?hr ?_; (case hd => rfl); (case hg => rfl); (case hr => first | (go_simp; done) | (go_simp; rfl)); intro X hX w1 hx1 hb1; have H1 := Aside0.mk (And.intro hb1 hx1); obtain ⟨x0, x1, x2, x3, x4, x5, x6, x7, x8, x9, x10⟩ := cellsX hx1; (try dsimp only at x0 x1 x2 x3 x4 x5 x6 x7 x8 x9 x10); clear hX hx1 hb1)
        | (go_at_call 31; (with_reducible refine (tname_calls tn _).mono ?_); rintro e w_Ha ⟨rfl, hb⟩; rw [← HTB.out]; have Ha := Aside0.mk (And.intro (below_step H1.out.1 hb) ((hb.block X (heap_lt H1.out.2)).trans H1.out.2)); clear hb x0 x1 x2 x3 x4 x5 x6 x7 x8 x9 x10; obtain ⟨x0, x1, x2, x3, x4, x5, x6, x7, x8, x9, x10⟩ := cellsX Ha.out.2; (try dsimp only at x0 x1 x2 x3 x4 x5 x6 x7 x8 x9 x10))
        | (go_at_call 33; (with_reducible refine (lim_calls lm _).mono ?_); rintro e w_Hc ⟨rfl, hb⟩; rw [← HLB.out]; have Hc := Aside0.mk (And.intro (below_step Ha.out.1 hb) ((hb.block X (heap_lt Ha.out.2)).trans Ha.out.2)); clear hb x0 x1 x2 x3 x4 x5 x6 x7 x8 x9 x10; obtain ⟨x0, x1, x2, x3, x4, x5, x6, x7, x8, x9, x10⟩ := cellsX Hc.out.2; (try dsimp only at x0 x1 x2 x3 x4 x5 x6 x7 x8 x9 x10)))
      go_ret
      exact ⟨by rw [HV.out]; rfl, Hc.out.1⟩
    · rw [if_neg (show ¬ true = false by decide)] at hrr
      have HV := Aside0.mk (show rr = 0 from hrr)
      clear hrr
      unfold chg
      go_enter Try.func11, Try.ntmps11
      go_wp2_with (first
        | ((with_reducible refine gate_dst (N := 1) rfl ?_); refine box_event ?hg (N := 1) ?hd (cs := (chg ⟨3, tn, k, lm, qu, ri, rdr⟩).toArray) (t := 27) ?hr ?_; (case hd => rfl); (case hg => rfl); (case hr => first | (go_simp; done) | (go_simp; rfl)); intro X hX w1 hx1 hb1; have H1 := Aside0.mk (And.intro hb1 hx1); obtain ⟨x0, x1, x2, x3, x4, x5, x6, x7, x8, x9, x10⟩ := cellsX hx1; (try dsimp only at x0 x1 x2 x3 x4 x5 x6 x7 x8 x9 x10); clear hX hx1 hb1)
        | (go_at_call 31; (with_reducible refine (tname_calls tn _).mono ?_); rintro e w_Ha ⟨rfl, hb⟩; rw [← HTB.out]; have Ha := Aside0.mk (And.intro (below_step H1.out.1 hb) ((hb.block X (heap_lt H1.out.2)).trans H1.out.2)); clear hb x0 x1 x2 x3 x4 x5 x6 x7 x8 x9 x10; obtain ⟨x0, x1, x2, x3, x4, x5, x6, x7, x8, x9, x10⟩ := cellsX Ha.out.2; (try dsimp only at x0 x1 x2 x3 x4 x5 x6 x7 x8 x9 x10))
        | (go_at_call 33; (with_reducible refine (lim_calls lm _).mono ?_); rintro e w_Hc ⟨rfl, hb⟩; rw [← HLB.out]; have Hc := Aside0.mk (And.intro (below_step Ha.out.1 hb) ((hb.block X (heap_lt Ha.out.2)).trans Ha.out.2)); clear hb x0 x1 x2 x3 x4 x5 x6 x7 x8 x9 x10; obtain ⟨x0, x1, x2, x3, x4, x5, x6, x7, x8, x9, x10⟩ := cellsX Hc.out.2; (try dsimp only at x0 x1 x2 x3 x4 x5 x6 x7 x8 x9 x10)))
      go_ret
      exact ⟨by rw [HV.out]; rfl, Hc.out.1⟩
  rw [if_neg d3] at hrr
  have hd : d = 4 ∨ d = 5 := by omega
  clear h0 h5 d0 d1 d2 d3
  rcases hd with rfl | rfl
  · cases ub
    · rw [if_pos rfl] at hrr
      have HV := Aside0.mk (show rr = 50 from hrr)
      clear hrr
      unfold chg
      go_enter Try.func11, Try.ntmps11
      go_wp2_with (first
        | ((with_reducible refine gate_dst (N := 1) rfl ?_); refine box_event ?hg (N := 1) ?hd (cs := (chg ⟨4, tn, k, lm, qu, ri, rdr⟩).toArray) (t := 27) ?hr ?_; (case hd => rfl); (case hg => rfl); (case hr => first | (go_simp; done) | (go_simp; rfl)); intro X hX w1 hx1 hb1; have H1 := Aside0.mk (And.intro hb1 hx1); obtain ⟨x0, x1, x2, x3, x4, x5, x6, x7, x8, x9, x10⟩ := cellsX hx1; (try dsimp only at x0 x1 x2 x3 x4 x5 x6 x7 x8 x9 x10); clear hX hx1 hb1)
        | (go_at_call 31; have hmark := Ha.out; (with_reducible refine (tname_calls rdr _).mono ?_); rintro e w_Hd ⟨rfl, hb⟩; rw [← HUB.out]; have Hd := Aside0.mk (And.intro (below_step Ha.out.1 hb) ((hb.block X (heap_lt Ha.out.2)).trans Ha.out.2)); clear hb hmark x0 x1 x2 x3 x4 x5 x6 x7 x8 x9 x10; obtain ⟨x0, x1, x2, x3, x4, x5, x6, x7, x8, x9, x10⟩ := cellsX Hd.out.2; (try dsimp only at x0 x1 x2 x3 x4 x5 x6 x7 x8 x9 x10))
        | (go_at_call 31; (with_reducible refine (tname_calls tn _).mono ?_); rintro e w_Ha ⟨rfl, hb⟩; rw [← HTB.out]; have Ha := Aside0.mk (And.intro (below_step H1.out.1 hb) ((hb.block X (heap_lt H1.out.2)).trans H1.out.2)); clear hb x0 x1 x2 x3 x4 x5 x6 x7 x8 x9 x10; obtain ⟨x0, x1, x2, x3, x4, x5, x6, x7, x8, x9, x10⟩ := cellsX Ha.out.2; (try dsimp only at x0 x1 x2 x3 x4 x5 x6 x7 x8 x9 x10)))
      go_ret
      exact ⟨by rw [HV.out]; rfl, Hd.out.1⟩
    rw [if_neg (show ¬ true = false by decide)] at hrr
    by_cases e : rdr = tn
    · rw [if_pos e] at hrr
      have heq : (rdr.toList == tn.toList) = true := by rw [e]; simp
      clear e
      have HV := Aside0.mk (show rr = 182 from hrr)
      clear hrr
      unfold chg
      go_enter Try.func11, Try.ntmps11
      go_wp2_with (first
        | ((with_reducible refine gate_dst (N := 1) rfl ?_); refine box_event ?hg (N := 1) ?hd (cs := (chg ⟨4, tn, k, lm, qu, ri, rdr⟩).toArray) (t := 27) ?hr ?_; (case hd => rfl); (case hg => rfl); (case hr => first | (go_simp; done) | (go_simp; rfl)); intro X hX w1 hx1 hb1; have H1 := Aside0.mk (And.intro hb1 hx1); obtain ⟨x0, x1, x2, x3, x4, x5, x6, x7, x8, x9, x10⟩ := cellsX hx1; (try dsimp only at x0 x1 x2 x3 x4 x5 x6 x7 x8 x9 x10); clear hX hx1 hb1)
        | (go_at_call 31; have hmark := Ha.out; (with_reducible refine (tname_calls rdr _).mono ?_); rintro e w_Hd ⟨rfl, hb⟩; rw [← HUB.out]; have Hd := Aside0.mk (And.intro (below_step Ha.out.1 hb) ((hb.block X (heap_lt Ha.out.2)).trans Ha.out.2)); clear hb hmark x0 x1 x2 x3 x4 x5 x6 x7 x8 x9 x10; obtain ⟨x0, x1, x2, x3, x4, x5, x6, x7, x8, x9, x10⟩ := cellsX Hd.out.2; (try dsimp only at x0 x1 x2 x3 x4 x5 x6 x7 x8 x9 x10))
        | (go_at_call 31; (with_reducible refine (tname_calls tn _).mono ?_); rintro e w_Ha ⟨rfl, hb⟩; rw [← HTB.out]; have Ha := Aside0.mk (And.intro (below_step H1.out.1 hb) ((hb.block X (heap_lt H1.out.2)).trans H1.out.2)); clear hb x0 x1 x2 x3 x4 x5 x6 x7 x8 x9 x10; obtain ⟨x0, x1, x2, x3, x4, x5, x6, x7, x8, x9, x10⟩ := cellsX Ha.out.2; (try dsimp only at x0 x1 x2 x3 x4 x5 x6 x7 x8 x9 x10)))
      go_ret
      exact ⟨by rw [HV.out]; rfl, Hd.out.1⟩
    · rw [if_neg e] at hrr
      have hne : (rdr.toList == tn.toList) = false := beq_false_of_ne (str_beq e)
      clear e
      have HV := Aside0.mk (show rr = 0 from hrr)
      clear hrr
      unfold chg
      go_enter Try.func11, Try.ntmps11
      go_wp2_with (first
        | ((with_reducible refine gate_dst (N := 1) rfl ?_); refine box_event ?hg (N := 1) ?hd (cs := (chg ⟨4, tn, k, lm, qu, ri, rdr⟩).toArray) (t := 27) ?hr ?_; (case hd => rfl); (case hg => rfl); (case hr => first | (go_simp; done) | (go_simp; rfl)); intro X hX w1 hx1 hb1; have H1 := Aside0.mk (And.intro hb1 hx1); obtain ⟨x0, x1, x2, x3, x4, x5, x6, x7, x8, x9, x10⟩ := cellsX hx1; (try dsimp only at x0 x1 x2 x3 x4 x5 x6 x7 x8 x9 x10); clear hX hx1 hb1)
        | (go_at_call 31; have hmark := Ha.out; (with_reducible refine (tname_calls rdr _).mono ?_); rintro e w_Hd ⟨rfl, hb⟩; rw [← HUB.out]; have Hd := Aside0.mk (And.intro (below_step Ha.out.1 hb) ((hb.block X (heap_lt Ha.out.2)).trans Ha.out.2)); clear hb hmark x0 x1 x2 x3 x4 x5 x6 x7 x8 x9 x10; obtain ⟨x0, x1, x2, x3, x4, x5, x6, x7, x8, x9, x10⟩ := cellsX Hd.out.2; (try dsimp only at x0 x1 x2 x3 x4 x5 x6 x7 x8 x9 x10))
        | (go_at_call 31; (with_reducible refine (tname_calls tn _).mono ?_); rintro e w_Ha ⟨rfl, hb⟩; rw [← HTB.out]; have Ha := Aside0.mk (And.intro (below_step H1.out.1 hb) ((hb.block X (heap_lt H1.out.2)).trans H1.out.2)); clear hb x0 x1 x2 x3 x4 x5 x6 x7 x8 x9 x10; obtain ⟨x0, x1, x2, x3, x4, x5, x6, x7, x8, x9, x10⟩ := cellsX Ha.out.2; (try dsimp only at x0 x1 x2 x3 x4 x5 x6 x7 x8 x9 x10)))
      go_ret
      exact ⟨by rw [HV.out]; rfl, Hd.out.1⟩
  · cases ub
    · rw [if_pos rfl] at hrr
      have HV := Aside0.mk (show rr = 50 from hrr)
      clear hrr
      unfold chg
      go_enter Try.func11, Try.ntmps11
      go_wp2_with (first
        | ((with_reducible refine gate_dst (N := 1) rfl ?_); refine box_event ?hg (N := 1) ?hd (cs := (chg ⟨5, tn, k, lm, qu, ri, rdr⟩).toArray) (t := 27) ?hr ?_; (case hd => rfl); (case hg => rfl); (case hr => first | (go_simp; done) | (go_simp; rfl)); intro X hX w1 hx1 hb1; have H1 := Aside0.mk (And.intro hb1 hx1); obtain ⟨x0, x1, x2, x3, x4, x5, x6, x7, x8, x9, x10⟩ := cellsX hx1; (try dsimp only at x0 x1 x2 x3 x4 x5 x6 x7 x8 x9 x10); clear hX hx1 hb1)
        | (go_at_call 31; have hmark := Ha.out; (with_reducible refine (tname_calls rdr _).mono ?_); rintro e w_Hd ⟨rfl, hb⟩; rw [← HUB.out]; have Hd := Aside0.mk (And.intro (below_step Ha.out.1 hb) ((hb.block X (heap_lt Ha.out.2)).trans Ha.out.2)); clear hb hmark x0 x1 x2 x3 x4 x5 x6 x7 x8 x9 x10; obtain ⟨x0, x1, x2, x3, x4, x5, x6, x7, x8, x9, x10⟩ := cellsX Hd.out.2; (try dsimp only at x0 x1 x2 x3 x4 x5 x6 x7 x8 x9 x10))
        | (go_at_call 31; (with_reducible refine (tname_calls tn _).mono ?_); rintro e w_Ha ⟨rfl, hb⟩; rw [← HTB.out]; have Ha := Aside0.mk (And.intro (below_step H1.out.1 hb) ((hb.block X (heap_lt H1.out.2)).trans H1.out.2)); clear hb x0 x1 x2 x3 x4 x5 x6 x7 x8 x9 x10; obtain ⟨x0, x1, x2, x3, x4, x5, x6, x7, x8, x9, x10⟩ := cellsX Ha.out.2; (try dsimp only at x0 x1 x2 x3 x4 x5 x6 x7 x8 x9 x10)))
      go_ret
      exact ⟨by rw [HV.out]; rfl, Hd.out.1⟩
    rw [if_neg (show ¬ true = false by decide)] at hrr
    by_cases e : rdr = tn
    · rw [if_pos e] at hrr
      have heq : (rdr.toList == tn.toList) = true := by rw [e]; simp
      clear e
      have HV := Aside0.mk (show rr = 182 from hrr)
      clear hrr
      unfold chg
      go_enter Try.func11, Try.ntmps11
      go_wp2_with (first
        | ((with_reducible refine gate_dst (N := 1) rfl ?_); refine box_event ?hg (N := 1) ?hd (cs := (chg ⟨5, tn, k, lm, qu, ri, rdr⟩).toArray) (t := 27) ?hr ?_; (case hd => rfl); (case hg => rfl); (case hr => first | (go_simp; done) | (go_simp; rfl)); intro X hX w1 hx1 hb1; have H1 := Aside0.mk (And.intro hb1 hx1); obtain ⟨x0, x1, x2, x3, x4, x5, x6, x7, x8, x9, x10⟩ := cellsX hx1; (try dsimp only at x0 x1 x2 x3 x4 x5 x6 x7 x8 x9 x10); clear hX hx1 hb1)
        | (go_at_call 31; have hmark := Ha.out; (with_reducible refine (tname_calls rdr _).mono ?_); rintro e w_Hd ⟨rfl, hb⟩; rw [← HUB.out]; have Hd := Aside0.mk (And.intro (below_step Ha.out.1 hb) ((hb.block X (heap_lt Ha.out.2)).trans Ha.out.2)); clear hb hmark x0 x1 x2 x3 x4 x5 x6 x7 x8 x9 x10; obtain ⟨x0, x1, x2, x3, x4, x5, x6, x7, x8, x9, x10⟩ := cellsX Hd.out.2; (try dsimp only at x0 x1 x2 x3 x4 x5 x6 x7 x8 x9 x10))
        | (go_at_call 31; (with_reducible refine (tname_calls tn _).mono ?_); rintro e w_Ha ⟨rfl, hb⟩; rw [← HTB.out]; have Ha := Aside0.mk (And.intro (below_step H1.out.1 hb) ((hb.block X (heap_lt H1.out.2)).trans H1.out.2)); clear hb x0 x1 x2 x3 x4 x5 x6 x7 x8 x9 x10; obtain ⟨x0, x1, x2, x3, x4, x5, x6, x7, x8, x9, x10⟩ := cellsX Ha.out.2; (try dsimp only at x0 x1 x2 x3 x4 x5 x6 x7 x8 x9 x10)))
      go_ret
      exact ⟨by rw [HV.out]; rfl, Hd.out.1⟩
    · rw [if_neg e] at hrr
      have hne : (rdr.toList == tn.toList) = false := beq_false_of_ne (str_beq e)
      clear e
      have HV := Aside0.mk (show rr = 0 from hrr)
      clear hrr
      unfold chg
      go_enter Try.func11, Try.ntmps11
      go_wp2_with (first
        | ((with_reducible refine gate_dst (N := 1) rfl ?_); refine box_event ?hg (N := 1) ?hd (cs := (chg ⟨5, tn, k, lm, qu, ri, rdr⟩).toArray) (t := 27) ?hr ?_; (case hd => rfl); (case hg => rfl); (case hr => first | (go_simp; done) | (go_simp; rfl)); intro X hX w1 hx1 hb1; have H1 := Aside0.mk (And.intro hb1 hx1); obtain ⟨x0, x1, x2, x3, x4, x5, x6, x7, x8, x9, x10⟩ := cellsX hx1; (try dsimp only at x0 x1 x2 x3 x4 x5 x6 x7 x8 x9 x10); clear hX hx1 hb1)
        | (go_at_call 31; have hmark := Ha.out; (with_reducible refine (tname_calls rdr _).mono ?_); rintro e w_Hd ⟨rfl, hb⟩; rw [← HUB.out]; have Hd := Aside0.mk (And.intro (below_step Ha.out.1 hb) ((hb.block X (heap_lt Ha.out.2)).trans Ha.out.2)); clear hb hmark x0 x1 x2 x3 x4 x5 x6 x7 x8 x9 x10; obtain ⟨x0, x1, x2, x3, x4, x5, x6, x7, x8, x9, x10⟩ := cellsX Hd.out.2; (try dsimp only at x0 x1 x2 x3 x4 x5 x6 x7 x8 x9 x10))
        | (go_at_call 31; (with_reducible refine (tname_calls tn _).mono ?_); rintro e w_Ha ⟨rfl, hb⟩; rw [← HTB.out]; have Ha := Aside0.mk (And.intro (below_step H1.out.1 hb) ((hb.block X (heap_lt H1.out.2)).trans H1.out.2)); clear hb x0 x1 x2 x3 x4 x5 x6 x7 x8 x9 x10; obtain ⟨x0, x1, x2, x3, x4, x5, x6, x7, x8, x9, x10⟩ := cellsX Ha.out.2; (try dsimp only at x0 x1 x2 x3 x4 x5 x6 x7 x8 x9 x10)))
      go_ret
      exact ⟨by rw [HV.out]; rfl, Hd.out.1⟩
end Go.Proofs.Yticoaaddhhiglaa.T
/- The table of tenants by hand: Do (mkT14.py). -/
namespace Go.Proofs.Yticoaaddhhiglaa.T
open Go.RowKit Go.Proofs.Yticoaaddhhiglaa.Q Go.Proofs.YticoaaddhhiglaaW.PrintWords Go.Proofs.YticoaaddhhiglaaW.PrintLast Go.Proofs.YticoaaddhhiglaaW.PrintMore
set_option linter.unusedVariables false
set_option linter.unusedSimpArgs false
theorem chg_one (c : S27) : ∀ v ∈ chg c, v.oneCell' = true := fun v hv => by
  simp only [chg, List.mem_cons, List.not_mem_nil, or_false] at hv
  rcases hv with rfl | rfl | rfl | rfl | rfl | rfl | rfl | rfl | rfl | rfl | rfl <;> rfl
theorem store_blk_step {ops : Array Oper} {o : Oper} {a : Act} {Q : Exit → Act → World → Prop} {Kc : Act → World → Prop} {w : World} (hw : Region.wanted o (yielded ops a.tmps) = true) (hN : o.dst = none) (t : TypeId) (x y : Operand) (ho : o.op = .store t x y)
    (B : Nat) (cs cs' : List Value) (hx : a.eval x = .pointer (some ⟨B, 0, none⟩)) (hy : a.eval y = .agg cs'.toArray) (h : w.heap[B]? = some (.cells cs.toArray t (0, 0))) (hl : cs'.length = cs.length) (hi : (Try.prog.info? t).map (·.size) = some cs'.length) (h1 : ∀ v ∈ cs', v.oneCell' = true)
    (hk : ∀ w1, w1.heap[B]? = some (.cells cs'.toArray t (0, 0)) → (∀ k, k ≠ B → w1.heap[k]? = w.heap[k]?) → (∀ W : World, W.heap.size ≤ B → Below W.heap.size W w → Below W.heap.size W w1) → Kc a w1) : if Region.wanted o (yielded ops a.tmps) = true then Oper.wp Try.prog o a w Kc Q else Kc (a.put none undef) w := by
  have hsz : (cs'.toArray).size = cs'.length := by simp
  refine store_step hw hN t x y ho B 0 cs'.toArray hx hy (fun j hj => ?_) (by rw [hsz]; exact hi) (all_oneCell_toArray h1) ?_
  · rw [Nat.zero_add]
    refine ⟨?_, blk_frozen h j⟩
    rw [blk_cell h j]
    simp
    rw [hsz] at hj
    omega
  · obtain ⟨cur', h3, h4, h5⟩ := setCells_row cs' 0 w cs.toArray h (by simp; omega)
    obtain ⟨s1, s2, s3, s4⟩ := setCells_same B cs' 0 w
    have e : cur' = cs'.toArray := by
      have : cur'.toList = cs' := by rw [h5]; simp; omega
      rw [← this]
    rw [e] at h3
    refine hk _ h3 (fun k hne => setCells_far _ _ k hne) (fun W hW hb => ?_)
    exact ⟨s1.trans hb.os, s2.trans hb.tape, s3.trans hb.output, by rw [s4]; exact hb.size, fun k hk => (setCells_far _ _ k (by omega)).trans (hb.block k hk)⟩
theorem mapUpdate_step {ops : Array Oper} {o : Oper} {a : Act} {Q : Exit → Act → World → Prop} {Kc : Act → World → Prop} {w : World} (hw : Region.wanted o (yielded ops a.tmps) = true) (hN : o.dst = none) (m x v : Operand) (t : TypeId) (hop : o.op = Op.mapUpdate t m x v) (M K V : Value) (hm : a.eval m = M) (hx : a.eval x = K) (hv : a.eval v = V) (w1 : World)
    (hrun : (Instr.mapUpdate t M K V).run Try.prog w = .ok () w1) (h : Kc a w1) : if Region.wanted o (yielded ops a.tmps) = true then Oper.wp Try.prog o a w Kc Q else Kc (a.put none undef) w := by
  refine skip_ hw hN ?_ h
  simp [execOp, hop, hm, hx, hv, hrun, Result.andThen]
theorem ten_of {w : World} {base : Nat} {v1 v8 : Value} {x : S39} (h1 : k23.R 23 w base (fun _ => True) v1 x.f1) (h8 : Kd.string.R 9 w base (fun _ => True) v8 x.f5) : Ten w (.agg (ten x v1 v8).toArray) x := by
  obtain ⟨A1, c1, e1, l1, g1⟩ := Kd.R_reads h1
  obtain ⟨A8, c8, e8, l8, g8⟩ := Kd.R_reads h8
  subst e1; subst e8
  exact ⟨A1, c1, A8, c8, rfl, g1, l1, g8, l8, Kd.R_lower h1 (Nat.zero_le _), Kd.R_lower h8 (Nat.zero_le _)⟩
/-- A tenant that comes, in memory. -/
theorem ten_new {w : World} {b : Nat} {c : S27} (h : w.heap[b]? = some (.cells #[.int .i64 c.f2.f0, .string c.f2.f1] 23 (0, 0))) : Ten w (.agg (ten (newT c) (.slice (some ⟨b, 0, none⟩) 1 1) (.slice none 0 0)).toArray) (newT c) := by
  have hR : k23.R 23 w 0 (fun _ => True) (.slice (some ⟨b, 0, none⟩) 1 1) [c.f2] := ⟨fun _ _ => trivial, [.int .i64 c.f2.f0, .string c.f2.f1], ⟨rfl, .inr ⟨b, 1, _, rfl, Nat.zero_le _, h, Nat.le_refl _, by decide, rfl, rfl⟩⟩, (Reps.none _ 2).snoc (p := c.f2) (c := [.int .i64 c.f2.f0, .string c.f2.f1]) (k23_mkM _ _ _ c.f2) rfl⟩
  obtain ⟨_, l1, g1⟩ := Kd.R_reads' hR
  have hN : Kd.string.R 9 w 0 (fun _ => True) (.slice none 0 0) [] := Kd.R_nil _ _ _ _ _
  obtain ⟨_, l8, g8⟩ := Kd.R_reads' hN
  exact ⟨some ⟨b, 0, none⟩, 1, none, 0, rfl, g1, l1, g8, l8, hR, hN⟩
theorem cellsT {w : World} {B : Nat} {x : S39} {v1 v8 : Value} (h : w.heap[B]? = some (.cells (ten x v1 v8).toArray 39 (0, 0))) : w.cell? ⟨B, 0, none⟩ = some (.string x.f0) ∧ w.cell? ⟨B, 1, none⟩ = some (v1) ∧ w.cell? ⟨B, 2, none⟩ = some (.int .i64 x.f2.f0) ∧ w.cell? ⟨B, 3, none⟩ = some (.int .i64 x.f2.f1) ∧ w.cell? ⟨B, 4, none⟩ = some (.int .i64 x.f2.f2) ∧ w.cell? ⟨B, 5, none⟩ = some (.int .i64 x.f2.f3) ∧ w.cell? ⟨B, 6, none⟩ = some (.int .i64 x.f3) ∧ w.cell? ⟨B, 7, none⟩ = some (.int .i64 x.f4) ∧ w.cell? ⟨B, 8, none⟩ = some (v8) :=
  ⟨(blk_cell h 0).trans rfl, (blk_cell h 1).trans rfl, (blk_cell h 2).trans rfl, (blk_cell h 3).trans rfl, (blk_cell h 4).trans rfl, (blk_cell h 5).trans rfl, (blk_cell h 6).trans rfl, (blk_cell h 7).trans rfl, (blk_cell h 8).trans rfl⟩
def tdo.T6 : Bool × List (List Nat × List Nat) := (true, [([], []), ([0], [0]), ([1], [1]), ([2], [2]), ([], []), ([4], [4]), ([3, 5], [3, 5]), ([6], [6]), ([7], [7]), ([7], [7]), ([], []), ([10, 8, 0, 1, 2, 3, 4, 5, 6, 7, 8, 10], [8, 10]), ([9, 11, 0, 1, 2, 3, 4, 5, 6, 7, 8, 9, 10, 11], [9])])
def tdo.B6 : List Nat := [0, 1, 3, 7, 0, 16, 63, 127, 255, 255, 0, 1535, 4095]
theorem tdo.tab6 : rtab .any (opsOf Try.f14 6) = tdo.T6 := by kernel_rfl
theorem tdo.bits6 : waitsOk tdo.T6.2 tdo.B6 = true := by kernel_rfl
def tdo.T12 : Bool × List (List Nat × List Nat) := (true, [([], []), ([0], [0]), ([1], [1]), ([2], [2]), ([], []), ([4], [4]), ([], []), ([6], [6]), ([], []), ([8], [8]), ([9], [9]), ([], []), ([11], [11]), ([], []), ([13], [13]), ([], []), ([15], [15]), ([7, 10, 12, 14, 16], [7, 10, 12, 14, 16]), ([3, 5, 17, 0, 1, 2, 3, 4, 5, 6, 7, 8, 9, 10, 11, 12, 13, 14, 15, 16, 17], [3, 5, 17])])
def tdo.B12 : List Nat := [0, 1, 3, 7, 0, 16, 0, 64, 0, 256, 768, 0, 2048, 0, 8192, 0, 32768, 131008, 262143]
theorem tdo.tab12 : rtab .any (opsOf Try.f14 12) = tdo.T12 := by kernel_rfl
theorem tdo.bits12 : waitsOk tdo.T12.2 tdo.B12 = true := by kernel_rfl
def tdo.T20 : Bool × List (List Nat × List Nat) := (true, [([], []), ([0], [0]), ([1], [1]), ([2], [2]), ([], []), ([4], [4]), ([], []), ([3, 5, 6, 0, 1, 2, 3, 4, 5, 6], [3, 5, 6])])
def tdo.B20 : List Nat := [0, 1, 3, 7, 0, 16, 0, 127]
theorem tdo.tab20 : rtab .any (opsOf Try.f14 20) = tdo.T20 := by kernel_rfl
theorem tdo.bits20 : waitsOk tdo.T20.2 tdo.B20 = true := by kernel_rfl
/-- The worlds of Do: a table, and a change in a block. -/
structure DoW (w0 : World) (D M X : Nat) (st : St) (c : S27) (w : World) : Prop where
  tab : TabG w D M st
  blkX : w.heap[X]? = some (.cells (chg c).toArray 27 (0, 0))
  below : Below w0.heap.size w0 w
  new : w0.heap.size ≤ X
theorem DoW.then_ {w0 : World} {D M X : Nat} {st : St} {c : S27} {w w1 : World} (h : DoW w0 D M X st c w) (hb : Below w.heap.size w w1) : DoW w0 D M X st c w1 :=
  ⟨h.tab.below hb, (hb.block X (heap_lt h.blkX)).trans h.blkX, below_step h.below hb, h.new⟩
theorem DoW.cells {w0 : World} {D M X : Nat} {st : St} {c : S27} {w : World} (h : DoW w0 D M X st c w) : w.cell? ⟨D, 1, none⟩ = some (.map (some M)) ∧ w.cell? ⟨X, 0, none⟩ = some (.int .i64 c.f0) ∧ w.cell? ⟨X, 1, none⟩ = some (.string c.f1) := ⟨h.tab.cells.2, (cellsX h.blkX).1, (cellsX h.blkX).2.1⟩
/-- What Do leaves. -/
def DoP (w0 : World) (D M : Nat) (r : Int × St) (e : Ending) (w : World) : Prop := e = .returned (.int .i64 r.1) ∧ TabG w D M r.2 ∧ Chg (fun k => k = M) w0 w
theorem DoW.same {w0 : World} {D M X : Nat} {st : St} {c : S27} {w : World} (h : DoW w0 D M X st c w) {r : Int × St} (hr : r.2 = st) {e : Ending} (he : e = .returned (.int .i64 r.1)) : DoP w0 D M r e w := ⟨he, by rw [hr]; exact h.tab, Chg.of_below _ h.below⟩
set_option maxHeartbeats 4000000 in
set_option maxRecDepth 100000 in
theorem do_calls {w : World} {D M : Nat} {st : St} (h : TabG w D M st) (c : S27) : Calls Try.prog 14 #[.pointer (some ⟨D, 0, none⟩), .agg (chg c).toArray] w (DoP w D M (doT st c)) := by
  obtain ⟨rr, hrr⟩ : ∃ rr, rr = rightE c := ⟨_, rfl⟩
  have HRR := Aside0.mk hrr
  have HT := Aside0.mk h
  clear h hrr
  by_cases h0 : rr = 0
  · subst h0
    go_enter Try.func14, Try.ntmps14
    go_wp2_with (first
      | ((with_reducible refine gate_dst (N := 3) rfl ?_); refine box_event ?hg (N := 3) ?hd (cs := (chg c).toArray) (t := 27) ?hr ?_; (case hd => rfl); (case hg => rfl); (case hr => first | (go_simp; done) | (go_simp; rfl)); intro X hX w1 hx1 hb1; have H1 := Aside0.mk (show DoW w D M X st c w1 from ⟨HT.out.below hb1, hx1, hb1, by omega⟩); clear hX hx1 hb1)
      | (go_at_call 38; (with_reducible refine (is_calls H1.out.tab).mono ?_); rintro e w9 ⟨rfl, h9⟩; subst w9)
      | ((with_reducible refine gate_ (.load 27 (.tmp 3)) rfl ?_); refine load_blk rfl 27 (.tmp 3) rfl X rfl (chg c) H1.out.blkX _ Try.underlying27 rfl size27 ?_)
      | (go_at_call 11; (with_reducible refine (right_calls c _).mono ?_); rintro e w2 ⟨rfl, hb2⟩; rw [← HRR.out]; have H2 := Aside0.mk (H1.out.then_ hb2); clear hb2))
    obtain ⟨y0, x0, x1⟩ := H2.out.cells
    obtain ⟨E, hE⟩ : ∃ E, E = w2.drew.heap.size := ⟨_, rfl⟩
    obtain ⟨wa, hwa⟩ : ∃ wa, wa = w2.drew.alloc (.cells (ten z39 (.slice none 0 0) (.slice none 0 0)).toArray 39) := ⟨_, rfl⟩
    have hba : Below w2.heap.size w2 wa := by rw [hwa]; exact below_alloc (below_drew (Below.refl _ _)) _
    have hea : wa.heap[E]? = some (.cells (ten z39 (.slice none 0 0) (.slice none 0 0)).toArray 39 (0, 0)) := by rw [hwa, hE]; exact heap_alloc_new _ _
    have HA := Aside0.mk (And.intro hE (And.intro hwa (And.intro hba hea)))
    have HEG := Aside0.mk (show w2.heap.size ≤ E by rw [hE]; exact Nat.le_refl _)
    clear hE hwa hba hea
    have h3l := H2.out.tab.look3 c.f1
    rcases h3l with ⟨hl, hlk⟩ | ⟨x, A1, c1, A8, c8, hl, hlk, g1, l1, g8, l8⟩
    · -- none of the name
      have HL := Aside0.mk (And.intro hl hlk)
      have lk := hlk w2.drew (below_drew (Below.refl _ _))
      clear hl hlk
      refine start_ (n := 13) (S := fun w' => w'.cell? ⟨D, 1, none⟩ = some (.map (some M)) ∧ w'.cell? ⟨X, 1, none⟩ = some (.string c.f1) ∧ (Instr.lookup 58 (.map (some M)) (.string c.f1) true).run Try.prog w' = .ok (.tuple #[.agg (ten z39 (.slice none 0 0) (.slice none 0 0)).toArray, .bool false]) w') (ds := []) #[false, false, false, false, false, false, false, false, false, false, false, false, false] (by kernel_rfl) rfl rfl ⟨y0, x1, lk⟩ (fun hHeld => ?_); refine with_tabW tdo.tab6 tdo.bits6 (fun HT_ HW_ => ?_)
      refine pure_ (i := 0) (N := some 18) (v := ?_) (a' := ?_) #[true, false, false, false, false, false, false, false, false, false, false, false, false] rfl rfl (any_of HT_.out (by kernel_rfl)) (fun _ _ _ h => h) (Or.inl ⟨by rfl, ?_⟩) ?_ ?_
      rotate_left
      · intro w'
        go_simp
        with_reducible rfl
      rotate_left
      · simp only [Act.put, List.setIfInBounds_toArray, List.set_cons_zero, List.set_cons_succ, i64_w, i32_w, xu32_w, xu8_w]
        rfl
      refine pure_ (i := 1) (N := some 19) (v := ?_) (a' := ?_) #[true, true, false, false, false, false, false, false, false, false, false, false, false] rfl rfl (any_of HT_.out (by kernel_rfl)) (fun _ _ _ h => h) (Or.inl ⟨by rfl, ?_⟩) ?_ ?_
      rotate_left
      · intro w'
        go_simp
        with_reducible rfl
      rotate_left
      · simp only [Act.put, List.setIfInBounds_toArray, List.set_cons_zero, List.set_cons_succ, i64_w, i32_w, xu32_w, xu8_w]
        rfl
      refine pure_ (i := 2) (N := some 20) (v := ?_) (a' := ?_) #[true, true, true, false, false, false, false, false, false, false, false, false, false] rfl rfl (any_of HT_.out (by kernel_rfl)) (fun _ _ _ h => h) (Or.inl ⟨by rfl, ?_⟩) ?_ ?_
      rotate_left
      · intro w'
        go_simp
        with_reducible rfl
      rotate_left
      · simp only [Act.put, List.setIfInBounds_toArray, List.set_cons_zero, List.set_cons_succ, i64_w, i32_w, xu32_w, xu8_w]
        rfl
      refine pure_ (i := 4) (N := some 22) (v := ?_) (a' := ?_) #[true, true, true, false, true, false, false, false, false, false, false, false, false] rfl rfl (any_of HT_.out (by kernel_rfl)) (fun _ _ _ h => h) (Or.inl ⟨by rfl, ?_⟩) ?_ ?_
      rotate_left
      · intro w'
        go_simp
        with_reducible rfl
      rotate_left
      · simp only [Act.put, List.setIfInBounds_toArray, List.set_cons_zero, List.set_cons_succ, i64_w, i32_w, xu32_w, xu8_w]
        rfl
      refine take_ (i := 3) (N := some 21) (v := ?_) (a' := ?_) #[true, true, true, true, true, false, false, false, false, false, false, false, false] rfl rfl (take_ofW HT_.out HW_.out (by kernel_rfl)) (fun _ _ _ h => h) (Or.inl ⟨by rfl, ?_⟩) hHeld ?_ ?_
      rotate_left
      · rintro w' ⟨s0, s1, s2⟩
        go_simp
        with_reducible rfl
      rotate_left
      · simp only [Act.put, List.setIfInBounds_toArray, List.set_cons_zero, List.set_cons_succ, i64_w, i32_w, xu32_w, xu8_w]
        rfl
      refine take_ (i := 5) (N := some 23) (v := ?_) (a' := ?_) #[true, true, true, true, true, true, false, false, false, false, false, false, false] rfl rfl (take_ofW HT_.out HW_.out (by kernel_rfl)) (fun _ _ _ h => h) (Or.inl ⟨by rfl, ?_⟩) hHeld ?_ ?_
      rotate_left
      · rintro w' ⟨s0, s1, s2⟩
        go_simp
        with_reducible rfl
      rotate_left
      · simp only [Act.put, List.setIfInBounds_toArray, List.set_cons_zero, List.set_cons_succ, i64_w, i32_w, xu32_w, xu8_w]
        rfl
      refine take_ (i := 6) (N := some 24) (v := ?_) (a' := ?_) #[true, true, true, true, true, true, true, false, false, false, false, false, false] rfl rfl (take_ofW HT_.out HW_.out (by kernel_rfl)) (fun _ _ _ h => h) (Or.inl ⟨by rfl, ?_⟩) hHeld ?_ ?_
      rotate_left
      · rintro w' ⟨s0, s1, s2⟩
        go_simp
        with_reducible rfl
      rotate_left
      · simp only [Act.put, List.setIfInBounds_toArray, List.set_cons_zero, List.set_cons_succ, i64_w, i32_w, xu32_w, xu8_w]
        rfl
      refine pure_ (i := 7) (N := some 17) (v := ?_) (a' := ?_) #[true, true, true, true, true, true, true, true, false, false, false, false, false] rfl rfl (any_of HT_.out (by kernel_rfl)) (fun _ _ _ h => h) (Or.inl ⟨by rfl, ?_⟩) ?_ ?_
      rotate_left
      · intro w'
        go_simp
        with_reducible rfl
      rotate_left
      · simp only [Act.put, List.setIfInBounds_toArray, List.set_cons_zero, List.set_cons_succ, i64_w, i32_w, xu32_w, xu8_w]
        rfl
      refine pure_ (i := 8) (N := some 25) (v := ?_) (a' := ?_) #[true, true, true, true, true, true, true, true, true, false, false, false, false] rfl rfl (any_of HT_.out (by kernel_rfl)) (fun _ _ _ h => h) (Or.inl ⟨by rfl, ?_⟩) ?_ ?_
      rotate_left
      · intro w'
        go_simp
        with_reducible rfl
      rotate_left
      · simp only [Act.put, List.setIfInBounds_toArray, List.set_cons_zero, List.set_cons_succ, i64_w, i32_w, xu32_w, xu8_w]
        rfl
      refine pure_ (i := 9) (N := some 26) (v := ?_) (a' := ?_) #[true, true, true, true, true, true, true, true, true, true, false, false, false] rfl rfl (any_of HT_.out (by kernel_rfl)) (fun _ _ _ h => h) (Or.inl ⟨by rfl, ?_⟩) ?_ ?_
      rotate_left
      · intro w'
        go_simp
        with_reducible rfl
      rotate_left
      · simp only [Act.put, List.setIfInBounds_toArray, List.set_cons_zero, List.set_cons_succ, i64_w, i32_w, xu32_w, xu8_w]
        rfl
      refine one_ (i := 10) (N := some 6) #[true, true, true, true, true, true, true, true, true, true, true, false, false] rfl rfl (one_of HT_.out (by kernel_rfl)) (by decide) (fun K hK => ?_)
      refine value_ (v := .pointer (some ⟨E, 0, none⟩)) (w1 := wa) (by rfl) rfl (by rw [HA.out.2.1, HA.out.1]; first | (go_simp; done) | (go_simp; rfl)) ?_
      refine hK.out _ _ ⟨(H2.out.then_ HA.out.2.2.1).cells.1, (H2.out.then_ HA.out.2.2.1).cells.2.2, HL.out.2 wa HA.out.2.2.1⟩ (fun hHeld => ?_)
      clear hK K
      refine norm_ (a' := ?_) ?_ ?_
      rotate_left
      · show Act.put _ (some 6) _ = _
        simp only [Act.put, List.setIfInBounds_toArray, List.set_cons_zero, List.set_cons_succ, i64_w, i32_w, xu32_w, xu8_w]
        rfl
      refine one_ (i := 11) (N := none) #[true, true, true, true, true, true, true, true, true, true, true, true, false] rfl rfl (one_of HT_.out (by kernel_rfl)) (by decide) (fun K hK => ?_)
      refine store_blk_step (by rfl) rfl 39 (.tmp 6) (.tmp 25) rfl E (ten z39 (.slice none 0 0) (.slice none 0 0)) (ten z39 (.slice none 0 0) (.slice none 0 0)) rfl rfl HA.out.2.2.2 rfl size39 (ten_one _ rfl rfl) ?_
      intro w3 h3 hk3 hb3
      have HB3 := Aside0.mk (hb3 w2 HEG.out HA.out.2.2.1)
      have HE3 := Aside0.mk h3
      clear h3 hk3 hb3
      refine hK.out _ _ ⟨(H2.out.then_ HB3.out).cells.1, (H2.out.then_ HB3.out).cells.2.2, HL.out.2 w3 HB3.out⟩ (fun hHeld => ?_)
      clear hK K
      refine pure_ (i := 12) (N := some 7) (v := ?_) (a' := ?_) #[true, true, true, true, true, true, true, true, true, true, true, true, true] rfl rfl (any_of HT_.out (by kernel_rfl)) (fun _ _ _ h => h) (Or.inl ⟨by rfl, ?_⟩) ?_ ?_
      rotate_left
      · intro w'
        go_simp
        with_reducible rfl
      rotate_left
      · simp only [Act.put, List.setIfInBounds_toArray, List.set_cons_zero, List.set_cons_succ, i64_w, i32_w, xu32_w, xu8_w]
        rfl
      refine done_ (done_of HT_.out (by kernel_rfl)) ?_
      clear hHeld HT_ HW_ y0 x0 x1 lk
      have H3 := Aside0.mk (H2.out.then_ HB3.out)
      obtain ⟨y0, x0, x1⟩ := H3.out.cells
      by_cases hd : c.f0 = 0
      · have hln := H3.out.tab.len
        obtain ⟨n, hn⟩ : ∃ n, n = st.length := ⟨_, rfl⟩
        rw [← hn] at hln
        have HN := Aside0.mk hn
        clear hn
        by_cases h16 : 16 ≤ n
        · have q1 : (n : Int) ≥ 16 := by omega
          have HR := Aside0.mk (show doT st c = (5, st) by
            unfold doT
            rw [if_pos HRR.out.symm, if_pos hd, HL.out.1]
            exact if_pos (HN.out ▸ h16))
          clear h16
          go_wp2
          go_ret
          rw [HR.out]
          exact H3.out.same rfl rfl
        · have q1 : ¬ (n : Int) ≥ 16 := by omega
          have HR := Aside0.mk (show doT st c = (0, put st (newT c)) by
            unfold doT
            rw [if_pos HRR.out.symm, if_pos hd, HL.out.1]
            exact if_neg (HN.out ▸ h16))
          have H16 := Aside0.mk (show (put st (newT c)).length ≤ 16 by
            rw [put_len H2.out.tab.sorted, show look st (newT c).f0 = none from HL.out.1]
            have := HN.out
            simp only [if_true]
            omega)
          have HD := Aside0.mk hd
          clear h16
          go_wp2
          obtain ⟨xx0, xx1, x2, x3, x4, x5, x6, x7, x8, x9, x10⟩ := cellsX H3.out.blkX
          clear xx0 xx1 x10
          obtain ⟨b, hb⟩ : ∃ b, b = w3.drew.heap.size := ⟨_, rfl⟩
          obtain ⟨wb, hwb⟩ : ∃ wb, wb = w3.drew.alloc (.cells #[.int .i64 c.f2.f0, .string c.f2.f1] 23) := ⟨_, rfl⟩
          have hbb : Below w3.heap.size w3 wb := by rw [hwb]; exact below_alloc (below_drew (Below.refl _ _)) _
          have hbc : wb.heap[b]? = some (.cells #[.int .i64 c.f2.f0, .string c.f2.f1] 23 (0, 0)) := by rw [hwb, hb]; exact heap_alloc_new _ _
          have H4 := Aside0.mk (H3.out.then_ hbb)
          obtain ⟨w5, hup, ht5, hc5⟩ := H4.out.tab.put (ten_new hbc) (fine_new HRR.out.symm hd) H16.out
          have H5 := Aside0.mk (And.intro hup (And.intro ht5 hc5))
          have HBW := Aside0.mk (And.intro hb hwb)
          clear hb hwb hbb hbc hup ht5 hc5
          refine start_ (n := 19) (S := fun w' => w'.cell? ⟨D, 1, none⟩ = some (.map (some M)) ∧ w'.cell? ⟨X, 1, none⟩ = some (.string c.f1) ∧ w'.cell? ⟨X, 2, none⟩ = some (.int .i64 c.f2.f0) ∧ w'.cell? ⟨X, 3, none⟩ = some (.string c.f2.f1) ∧ w'.cell? ⟨X, 4, none⟩ = some (.int .i64 c.f3.f0) ∧ w'.cell? ⟨X, 5, none⟩ = some (.int .i64 c.f3.f1) ∧ w'.cell? ⟨X, 6, none⟩ = some (.int .i64 c.f3.f2) ∧ w'.cell? ⟨X, 7, none⟩ = some (.int .i64 c.f3.f3) ∧ w'.cell? ⟨X, 8, none⟩ = some (.int .i64 c.f4) ∧ w'.cell? ⟨X, 9, none⟩ = some (.int .i64 c.f5)) (ds := [18]) #[false, false, false, false, false, false, false, false, false, false, false, false, false, false, false, false, false, false, false] (by kernel_rfl) rfl rfl ⟨y0, x1, x2, x3, x4, x5, x6, x7, x8, x9⟩ (fun hHeld => ?_); refine with_tabW tdo.tab12 tdo.bits12 (fun HT_ HW_ => ?_)
          refine pure_ (i := 0) (N := some 39) (v := ?_) (a' := ?_) #[true, false, false, false, false, false, false, false, false, false, false, false, false, false, false, false, false, false, false] rfl rfl (any_of HT_.out (by kernel_rfl)) (fun _ _ _ h => h) (Or.inl ⟨by rfl, ?_⟩) ?_ ?_
          rotate_left
          · intro w'
            go_simp
            with_reducible rfl
          rotate_left
          · simp only [Act.put, List.setIfInBounds_toArray, List.set_cons_zero, List.set_cons_succ, i64_w, i32_w, xu32_w, xu8_w]
            rfl
          refine pure_ (i := 1) (N := some 40) (v := ?_) (a' := ?_) #[true, true, false, false, false, false, false, false, false, false, false, false, false, false, false, false, false, false, false] rfl rfl (any_of HT_.out (by kernel_rfl)) (fun _ _ _ h => h) (Or.inl ⟨by rfl, ?_⟩) ?_ ?_
          rotate_left
          · intro w'
            go_simp
            with_reducible rfl
          rotate_left
          · simp only [Act.put, List.setIfInBounds_toArray, List.set_cons_zero, List.set_cons_succ, i64_w, i32_w, xu32_w, xu8_w]
            rfl
          refine pure_ (i := 2) (N := some 41) (v := ?_) (a' := ?_) #[true, true, true, false, false, false, false, false, false, false, false, false, false, false, false, false, false, false, false] rfl rfl (any_of HT_.out (by kernel_rfl)) (fun _ _ _ h => h) (Or.inl ⟨by rfl, ?_⟩) ?_ ?_
          rotate_left
          · intro w'
            go_simp
            with_reducible rfl
          rotate_left
          · simp only [Act.put, List.setIfInBounds_toArray, List.set_cons_zero, List.set_cons_succ, i64_w, i32_w, xu32_w, xu8_w]
            rfl
          refine pure_ (i := 4) (N := some 43) (v := ?_) (a' := ?_) #[true, true, true, false, true, false, false, false, false, false, false, false, false, false, false, false, false, false, false] rfl rfl (any_of HT_.out (by kernel_rfl)) (fun _ _ _ h => h) (Or.inl ⟨by rfl, ?_⟩) ?_ ?_
          rotate_left
          · intro w'
            go_simp
            with_reducible rfl
          rotate_left
          · simp only [Act.put, List.setIfInBounds_toArray, List.set_cons_zero, List.set_cons_succ, i64_w, i32_w, xu32_w, xu8_w]
            rfl
          refine pure_ (i := 6) (N := some 45) (v := ?_) (a' := ?_) #[true, true, true, false, true, false, true, false, false, false, false, false, false, false, false, false, false, false, false] rfl rfl (any_of HT_.out (by kernel_rfl)) (fun _ _ _ h => h) (Or.inl ⟨by rfl, ?_⟩) ?_ ?_
          rotate_left
          · intro w'
            go_simp
            with_reducible rfl
          rotate_left
          · simp only [Act.put, List.setIfInBounds_toArray, List.set_cons_zero, List.set_cons_succ, i64_w, i32_w, xu32_w, xu8_w]
            rfl
          refine pure_ (i := 8) (N := some 47) (v := ?_) (a' := ?_) #[true, true, true, false, true, false, true, false, true, false, false, false, false, false, false, false, false, false, false] rfl rfl (any_of HT_.out (by kernel_rfl)) (fun _ _ _ h => h) (Or.inl ⟨by rfl, ?_⟩) ?_ ?_
          rotate_left
          · intro w'
            go_simp
            with_reducible rfl
          rotate_left
          · simp only [Act.put, List.setIfInBounds_toArray, List.set_cons_zero, List.set_cons_succ, i64_w, i32_w, xu32_w, xu8_w]
            rfl
          refine pure_ (i := 11) (N := some 50) (v := ?_) (a' := ?_) #[true, true, true, false, true, false, true, false, true, false, false, true, false, false, false, false, false, false, false] rfl rfl (any_of HT_.out (by kernel_rfl)) (fun _ _ _ h => h) (Or.inl ⟨by rfl, ?_⟩) ?_ ?_
          rotate_left
          · intro w'
            go_simp
            with_reducible rfl
          rotate_left
          · simp only [Act.put, List.setIfInBounds_toArray, List.set_cons_zero, List.set_cons_succ, i64_w, i32_w, xu32_w, xu8_w]
            rfl
          refine pure_ (i := 13) (N := some 52) (v := ?_) (a' := ?_) #[true, true, true, false, true, false, true, false, true, false, false, true, false, true, false, false, false, false, false] rfl rfl (any_of HT_.out (by kernel_rfl)) (fun _ _ _ h => h) (Or.inl ⟨by rfl, ?_⟩) ?_ ?_
          rotate_left
          · intro w'
            go_simp
            with_reducible rfl
          rotate_left
          · simp only [Act.put, List.setIfInBounds_toArray, List.set_cons_zero, List.set_cons_succ, i64_w, i32_w, xu32_w, xu8_w]
            rfl
          refine pure_ (i := 15) (N := some 54) (v := ?_) (a' := ?_) #[true, true, true, false, true, false, true, false, true, false, false, true, false, true, false, true, false, false, false] rfl rfl (any_of HT_.out (by kernel_rfl)) (fun _ _ _ h => h) (Or.inl ⟨by rfl, ?_⟩) ?_ ?_
          rotate_left
          · intro w'
            go_simp
            with_reducible rfl
          rotate_left
          · simp only [Act.put, List.setIfInBounds_toArray, List.set_cons_zero, List.set_cons_succ, i64_w, i32_w, xu32_w, xu8_w]
            rfl
          refine take_ (i := 3) (N := some 42) (v := ?_) (a' := ?_) #[true, true, true, true, true, false, true, false, true, false, false, true, false, true, false, true, false, false, false] rfl rfl (take_ofW HT_.out HW_.out (by kernel_rfl)) (fun _ _ _ h => h) (Or.inl ⟨by rfl, ?_⟩) hHeld ?_ ?_
          rotate_left
          · rintro w' ⟨s0, s1, s2, s3, s4, s5, s6, s7, s8, s9⟩
            go_simp
            with_reducible rfl
          rotate_left
          · simp only [Act.put, List.setIfInBounds_toArray, List.set_cons_zero, List.set_cons_succ, i64_w, i32_w, xu32_w, xu8_w]
            rfl
          refine take_ (i := 5) (N := some 44) (v := ?_) (a' := ?_) #[true, true, true, true, true, true, true, false, true, false, false, true, false, true, false, true, false, false, false] rfl rfl (take_ofW HT_.out HW_.out (by kernel_rfl)) (fun _ _ _ h => h) (Or.inl ⟨by rfl, ?_⟩) hHeld ?_ ?_
          rotate_left
          · rintro w' ⟨s0, s1, s2, s3, s4, s5, s6, s7, s8, s9⟩
            go_simp
            with_reducible rfl
          rotate_left
          · simp only [Act.put, List.setIfInBounds_toArray, List.set_cons_zero, List.set_cons_succ, i64_w, i32_w, xu32_w, xu8_w]
            rfl
          refine take_ (i := 7) (N := some 46) (v := ?_) (a' := ?_) #[true, true, true, true, true, true, true, true, true, false, false, true, false, true, false, true, false, false, false] rfl rfl (take_ofW HT_.out HW_.out (by kernel_rfl)) (fun _ _ _ h => h) (Or.inl ⟨by rfl, ?_⟩) hHeld ?_ ?_
          rotate_left
          · rintro w' ⟨s0, s1, s2, s3, s4, s5, s6, s7, s8, s9⟩
            go_simp
            with_reducible rfl
          rotate_left
          · simp only [Act.put, List.setIfInBounds_toArray, List.set_cons_zero, List.set_cons_succ, i64_w, i32_w, xu32_w, xu8_w]
            rfl
          refine take_ (i := 9) (N := some 48) (v := ?_) (a' := ?_) #[true, true, true, true, true, true, true, true, true, true, false, true, false, true, false, true, false, false, false] rfl rfl (take_ofW HT_.out HW_.out (by kernel_rfl)) (fun _ _ _ h => h) (Or.inl ⟨by rfl, ?_⟩) hHeld ?_ ?_
          rotate_left
          · rintro w' ⟨s0, s1, s2, s3, s4, s5, s6, s7, s8, s9⟩
            go_simp
            with_reducible rfl
          rotate_left
          · simp only [Act.put, List.setIfInBounds_toArray, List.set_cons_zero, List.set_cons_succ, i64_w, i32_w, xu32_w, xu8_w]
            rfl
          refine take_ (i := 12) (N := some 51) (v := ?_) (a' := ?_) #[true, true, true, true, true, true, true, true, true, true, false, true, true, true, false, true, false, false, false] rfl rfl (take_ofW HT_.out HW_.out (by kernel_rfl)) (fun _ _ _ h => h) (Or.inl ⟨by rfl, ?_⟩) hHeld ?_ ?_
          rotate_left
          · rintro w' ⟨s0, s1, s2, s3, s4, s5, s6, s7, s8, s9⟩
            go_simp
            with_reducible rfl
          rotate_left
          · simp only [Act.put, List.setIfInBounds_toArray, List.set_cons_zero, List.set_cons_succ, i64_w, i32_w, xu32_w, xu8_w]
            rfl
          refine take_ (i := 14) (N := some 53) (v := ?_) (a' := ?_) #[true, true, true, true, true, true, true, true, true, true, false, true, true, true, true, true, false, false, false] rfl rfl (take_ofW HT_.out HW_.out (by kernel_rfl)) (fun _ _ _ h => h) (Or.inl ⟨by rfl, ?_⟩) hHeld ?_ ?_
          rotate_left
          · rintro w' ⟨s0, s1, s2, s3, s4, s5, s6, s7, s8, s9⟩
            go_simp
            with_reducible rfl
          rotate_left
          · simp only [Act.put, List.setIfInBounds_toArray, List.set_cons_zero, List.set_cons_succ, i64_w, i32_w, xu32_w, xu8_w]
            rfl
          refine take_ (i := 16) (N := some 55) (v := ?_) (a' := ?_) #[true, true, true, true, true, true, true, true, true, true, false, true, true, true, true, true, true, false, false] rfl rfl (take_ofW HT_.out HW_.out (by kernel_rfl)) (fun _ _ _ h => h) (Or.inl ⟨by rfl, ?_⟩) hHeld ?_ ?_
          rotate_left
          · rintro w' ⟨s0, s1, s2, s3, s4, s5, s6, s7, s8, s9⟩
            go_simp
            with_reducible rfl
          rotate_left
          · simp only [Act.put, List.setIfInBounds_toArray, List.set_cons_zero, List.set_cons_succ, i64_w, i32_w, xu32_w, xu8_w]
            rfl
          refine one_ (i := 10) (N := some 49) #[true, true, true, true, true, true, true, true, true, true, true, true, true, true, true, true, true, false, false] rfl rfl (one_of HT_.out (by kernel_rfl)) (by decide) (fun K hK => ?_)
          refine value_ (v := .slice (some ⟨b, 0, none⟩) 1 1) (w1 := wb) (by rfl) rfl (by rw [HBW.out.2, HBW.out.1]; first | (go_simp; done) | (go_simp; rfl)) ?_
          refine hK.out _ _ ⟨H4.out.cells.1, (cellsX H4.out.blkX).2.1, (cellsX H4.out.blkX).2.2.1, (cellsX H4.out.blkX).2.2.2.1, (cellsX H4.out.blkX).2.2.2.2.1, (cellsX H4.out.blkX).2.2.2.2.2.1, (cellsX H4.out.blkX).2.2.2.2.2.2.1, (cellsX H4.out.blkX).2.2.2.2.2.2.2.1, (cellsX H4.out.blkX).2.2.2.2.2.2.2.2.1, (cellsX H4.out.blkX).2.2.2.2.2.2.2.2.2.1⟩ (fun hHeld => ?_)
          clear hK K
          refine norm_ (a' := ?_) ?_ ?_
          rotate_left
          · show Act.put _ (some 49) _ = _
            simp only [Act.put, List.setIfInBounds_toArray, List.set_cons_zero, List.set_cons_succ, i64_w, i32_w, xu32_w, xu8_w]
            rfl
          refine pure_ (i := 17) (N := some 56) (v := ?_) (a' := ?_) #[true, true, true, true, true, true, true, true, true, true, true, true, true, true, true, true, true, true, false] rfl rfl (any_of HT_.out (by kernel_rfl)) (fun _ _ _ h => h) (Or.inl ⟨by rfl, ?_⟩) ?_ ?_
          rotate_left
          · intro w'
            go_simp
            with_reducible rfl
          rotate_left
          · simp only [Act.put, List.setIfInBounds_toArray, List.set_cons_zero, List.set_cons_succ, i64_w, i32_w, xu32_w, xu8_w]
            rfl
          refine last_ (i := 18) (N := none) #[true, true, true, true, true, true, true, true, true, true, true, true, true, true, true, true, true, true, true] rfl rfl (one_of HT_.out (by kernel_rfl)) (by decide) (fun K hK => ?_)
          refine mapUpdate_step (by rfl) rfl (.tmp 42) (.tmp 44) (.tmp 56) 58 rfl _ _ _ rfl rfl rfl w5 H5.out.1 ?_
          refine hK.out _ _ ?_
          clear hK K
          refine done_ (done_of HT_.out (by kernel_rfl)) ?_
          clear hHeld HT_ HW_
          go_wp2_with (fail)
          go_ret
          rw [HR.out]
          exact ⟨rfl, H5.out.2.1, (Chg.of_below (fun k => k = M) H4.out.below).trans H5.out.2.2 (fun _ _ e => e) (fun _ _ e => e)⟩
      · have HR := Aside0.mk (show doT st c = (180, st) by
          unfold doT
          rw [if_pos HRR.out.symm, if_neg hd, HL.out.1])
        go_wp2
        go_ret
        rw [HR.out]
        exact H3.out.same rfl rfl
    · -- one of the name
      have HL := Aside0.mk (And.intro hl hlk)
      have HC := Aside0.mk (And.intro (And.intro g1 l1) (And.intro g8 l8))
      have HFN := Aside0.mk (look_fine H2.out.tab hl)
      have lk := hlk w2.drew (below_drew (Below.refl _ _))
      clear hl hlk g1 l1 g8 l8
      refine start_ (n := 13) (S := fun w' => w'.cell? ⟨D, 1, none⟩ = some (.map (some M)) ∧ w'.cell? ⟨X, 1, none⟩ = some (.string c.f1) ∧ (Instr.lookup 58 (.map (some M)) (.string c.f1) true).run Try.prog w' = .ok (.tuple #[.agg (ten x (.slice A1 x.f1.length c1) (.slice A8 x.f5.length c8)).toArray, .bool true]) w') (ds := []) #[false, false, false, false, false, false, false, false, false, false, false, false, false] (by kernel_rfl) rfl rfl ⟨y0, x1, lk⟩ (fun hHeld => ?_); refine with_tabW tdo.tab6 tdo.bits6 (fun HT_ HW_ => ?_)
      refine pure_ (i := 0) (N := some 18) (v := ?_) (a' := ?_) #[true, false, false, false, false, false, false, false, false, false, false, false, false] rfl rfl (any_of HT_.out (by kernel_rfl)) (fun _ _ _ h => h) (Or.inl ⟨by rfl, ?_⟩) ?_ ?_
      rotate_left
      · intro w'
        go_simp
        with_reducible rfl
      rotate_left
      · simp only [Act.put, List.setIfInBounds_toArray, List.set_cons_zero, List.set_cons_succ, i64_w, i32_w, xu32_w, xu8_w]
        rfl
      refine pure_ (i := 1) (N := some 19) (v := ?_) (a' := ?_) #[true, true, false, false, false, false, false, false, false, false, false, false, false] rfl rfl (any_of HT_.out (by kernel_rfl)) (fun _ _ _ h => h) (Or.inl ⟨by rfl, ?_⟩) ?_ ?_
      rotate_left
      · intro w'
        go_simp
        with_reducible rfl
      rotate_left
      · simp only [Act.put, List.setIfInBounds_toArray, List.set_cons_zero, List.set_cons_succ, i64_w, i32_w, xu32_w, xu8_w]
        rfl
      refine pure_ (i := 2) (N := some 20) (v := ?_) (a' := ?_) #[true, true, true, false, false, false, false, false, false, false, false, false, false] rfl rfl (any_of HT_.out (by kernel_rfl)) (fun _ _ _ h => h) (Or.inl ⟨by rfl, ?_⟩) ?_ ?_
      rotate_left
      · intro w'
        go_simp
        with_reducible rfl
      rotate_left
      · simp only [Act.put, List.setIfInBounds_toArray, List.set_cons_zero, List.set_cons_succ, i64_w, i32_w, xu32_w, xu8_w]
        rfl
      refine pure_ (i := 4) (N := some 22) (v := ?_) (a' := ?_) #[true, true, true, false, true, false, false, false, false, false, false, false, false] rfl rfl (any_of HT_.out (by kernel_rfl)) (fun _ _ _ h => h) (Or.inl ⟨by rfl, ?_⟩) ?_ ?_
      rotate_left
      · intro w'
        go_simp
        with_reducible rfl
      rotate_left
      · simp only [Act.put, List.setIfInBounds_toArray, List.set_cons_zero, List.set_cons_succ, i64_w, i32_w, xu32_w, xu8_w]
        rfl
      refine take_ (i := 3) (N := some 21) (v := ?_) (a' := ?_) #[true, true, true, true, true, false, false, false, false, false, false, false, false] rfl rfl (take_ofW HT_.out HW_.out (by kernel_rfl)) (fun _ _ _ h => h) (Or.inl ⟨by rfl, ?_⟩) hHeld ?_ ?_
      rotate_left
      · rintro w' ⟨s0, s1, s2⟩
        go_simp
        with_reducible rfl
      rotate_left
      · simp only [Act.put, List.setIfInBounds_toArray, List.set_cons_zero, List.set_cons_succ, i64_w, i32_w, xu32_w, xu8_w]
        rfl
      refine take_ (i := 5) (N := some 23) (v := ?_) (a' := ?_) #[true, true, true, true, true, true, false, false, false, false, false, false, false] rfl rfl (take_ofW HT_.out HW_.out (by kernel_rfl)) (fun _ _ _ h => h) (Or.inl ⟨by rfl, ?_⟩) hHeld ?_ ?_
      rotate_left
      · rintro w' ⟨s0, s1, s2⟩
        go_simp
        with_reducible rfl
      rotate_left
      · simp only [Act.put, List.setIfInBounds_toArray, List.set_cons_zero, List.set_cons_succ, i64_w, i32_w, xu32_w, xu8_w]
        rfl
      refine take_ (i := 6) (N := some 24) (v := ?_) (a' := ?_) #[true, true, true, true, true, true, true, false, false, false, false, false, false] rfl rfl (take_ofW HT_.out HW_.out (by kernel_rfl)) (fun _ _ _ h => h) (Or.inl ⟨by rfl, ?_⟩) hHeld ?_ ?_
      rotate_left
      · rintro w' ⟨s0, s1, s2⟩
        go_simp
        with_reducible rfl
      rotate_left
      · simp only [Act.put, List.setIfInBounds_toArray, List.set_cons_zero, List.set_cons_succ, i64_w, i32_w, xu32_w, xu8_w]
        rfl
      refine pure_ (i := 7) (N := some 17) (v := ?_) (a' := ?_) #[true, true, true, true, true, true, true, true, false, false, false, false, false] rfl rfl (any_of HT_.out (by kernel_rfl)) (fun _ _ _ h => h) (Or.inl ⟨by rfl, ?_⟩) ?_ ?_
      rotate_left
      · intro w'
        go_simp
        with_reducible rfl
      rotate_left
      · simp only [Act.put, List.setIfInBounds_toArray, List.set_cons_zero, List.set_cons_succ, i64_w, i32_w, xu32_w, xu8_w]
        rfl
      refine pure_ (i := 8) (N := some 25) (v := ?_) (a' := ?_) #[true, true, true, true, true, true, true, true, true, false, false, false, false] rfl rfl (any_of HT_.out (by kernel_rfl)) (fun _ _ _ h => h) (Or.inl ⟨by rfl, ?_⟩) ?_ ?_
      rotate_left
      · intro w'
        go_simp
        with_reducible rfl
      rotate_left
      · simp only [Act.put, List.setIfInBounds_toArray, List.set_cons_zero, List.set_cons_succ, i64_w, i32_w, xu32_w, xu8_w]
        rfl
      refine pure_ (i := 9) (N := some 26) (v := ?_) (a' := ?_) #[true, true, true, true, true, true, true, true, true, true, false, false, false] rfl rfl (any_of HT_.out (by kernel_rfl)) (fun _ _ _ h => h) (Or.inl ⟨by rfl, ?_⟩) ?_ ?_
      rotate_left
      · intro w'
        go_simp
        with_reducible rfl
      rotate_left
      · simp only [Act.put, List.setIfInBounds_toArray, List.set_cons_zero, List.set_cons_succ, i64_w, i32_w, xu32_w, xu8_w]
        rfl
      refine one_ (i := 10) (N := some 6) #[true, true, true, true, true, true, true, true, true, true, true, false, false] rfl rfl (one_of HT_.out (by kernel_rfl)) (by decide) (fun K hK => ?_)
      refine value_ (v := .pointer (some ⟨E, 0, none⟩)) (w1 := wa) (by rfl) rfl (by rw [HA.out.2.1, HA.out.1]; first | (go_simp; done) | (go_simp; rfl)) ?_
      refine hK.out _ _ ⟨(H2.out.then_ HA.out.2.2.1).cells.1, (H2.out.then_ HA.out.2.2.1).cells.2.2, HL.out.2 wa HA.out.2.2.1⟩ (fun hHeld => ?_)
      clear hK K
      refine norm_ (a' := ?_) ?_ ?_
      rotate_left
      · show Act.put _ (some 6) _ = _
        simp only [Act.put, List.setIfInBounds_toArray, List.set_cons_zero, List.set_cons_succ, i64_w, i32_w, xu32_w, xu8_w]
        rfl
      refine one_ (i := 11) (N := none) #[true, true, true, true, true, true, true, true, true, true, true, true, false] rfl rfl (one_of HT_.out (by kernel_rfl)) (by decide) (fun K hK => ?_)
      refine store_blk_step (by rfl) rfl 39 (.tmp 6) (.tmp 25) rfl E (ten z39 (.slice none 0 0) (.slice none 0 0)) (ten x (.slice A1 x.f1.length c1) (.slice A8 x.f5.length c8)) rfl rfl HA.out.2.2.2 rfl size39 (ten_one _ rfl rfl) ?_
      intro w3 h3 hk3 hb3
      have HB3 := Aside0.mk (hb3 w2 HEG.out HA.out.2.2.1)
      have HE3 := Aside0.mk h3
      clear h3 hk3 hb3
      refine hK.out _ _ ⟨(H2.out.then_ HB3.out).cells.1, (H2.out.then_ HB3.out).cells.2.2, HL.out.2 w3 HB3.out⟩ (fun hHeld => ?_)
      clear hK K
      refine pure_ (i := 12) (N := some 7) (v := ?_) (a' := ?_) #[true, true, true, true, true, true, true, true, true, true, true, true, true] rfl rfl (any_of HT_.out (by kernel_rfl)) (fun _ _ _ h => h) (Or.inl ⟨by rfl, ?_⟩) ?_ ?_
      rotate_left
      · intro w'
        go_simp
        with_reducible rfl
      rotate_left
      · simp only [Act.put, List.setIfInBounds_toArray, List.set_cons_zero, List.set_cons_succ, i64_w, i32_w, xu32_w, xu8_w]
        rfl
      refine done_ (done_of HT_.out (by kernel_rfl)) ?_
      clear hHeld HT_ HW_ y0 x0 x1 lk
      have H3 := Aside0.mk (H2.out.then_ HB3.out)
      obtain ⟨y0, x0, x1⟩ := H3.out.cells
      by_cases hd : c.f0 = 0
      · have HR := Aside0.mk (show doT st c = (100, st) by
          unfold doT
          rw [if_pos HRR.out.symm, if_pos hd, HL.out.1])
        go_wp2
        go_ret
        rw [HR.out]
        exact H3.out.same rfl rfl
      · obtain ⟨er, her⟩ : ∃ er, er = (changeT x c).1 := ⟨_, rfl⟩
        have HER := Aside0.mk her
        have HD := Aside0.mk (show 1 ≤ c.f0 ∧ c.f0 ≤ 5 by have := right_range HRR.out.symm; omega)
        clear her
        by_cases he : er = 0
        · subst he
          have HR := Aside0.mk (show doT st c = (0, put st (changeT x c).2) by
            unfold doT
            rw [if_pos HRR.out.symm, if_neg hd, HL.out.1]
            exact if_pos HER.out.symm)
          go_wp2_with (first
            | ((with_reducible refine gate_ (.load 39 (.tmp 6)) rfl ?_); refine load_blk rfl 39 (.tmp 6) rfl E rfl (ten x (.slice A1 x.f1.length c1) (.slice A8 x.f5.length c8)) HE3.out _ Try.underlying39 rfl size39 ?_)
            | (go_at_call 39; (with_reducible refine (copied_calls x HC.out.1.2 (Kd.C_below HC.out.1.1 HB3.out) HC.out.2.2 (Kd.C_below HC.out.2.1 HB3.out) (by have := HFN.out.keys; have := HFN.out.readers; omega)).mono ?_); rintro e w5 ⟨u1, u8, rfl, hr1, hr8, hb5⟩; have HR5 := Aside0.mk (And.intro hr1 hr8); have H5 := Aside0.mk (H3.out.then_ hb5); have HE5 := Aside0.mk ((hb5.block E (heap_lt HE3.out)).trans HE3.out); have HB5 := Aside0.mk hb5; clear hr1 hr8 hb5)
            | ((with_reducible refine gate_ (.store 39 (.tmp 6) (.tmp 60)) rfl ?_); refine store_blk rfl 39 (.tmp 6) (.tmp 60) rfl E (ten x (.slice A1 x.f1.length c1) (.slice A8 x.f5.length c8)) (ten x u1 u8) rfl rfl HE5.out rfl size39 (ten_one _ (one_of_R HR5.out.1) (one_of_R HR5.out.2)) ?_; intro w6 h6 hk6 hb6; have H6 := Aside0.mk (show DoW w D M X st c w6 from ⟨HT.out.below (hb6 w (Nat.le_trans H2.out.below.size HEG.out) H5.out.below), (hk6 X (fun e => by have := HEG.out; have := heap_lt H2.out.blkX; omega)).trans H5.out.blkX, hb6 w (Nat.le_trans H2.out.below.size HEG.out) H5.out.below, H5.out.new⟩); have HE6 := Aside0.mk h6; have HR6 := Aside0.mk (And.intro (Kd.R_lower (Kd.R_drop (Kd.R_step (Kd.R_types HR5.out.1 HE5.out (by decide)) (fun k hk _ => hk6 k hk.2))) H3.out.below.size) (Kd.R_lower (Kd.R_drop (Kd.R_step (Kd.R_types HR5.out.2 HE5.out (by decide)) (fun k hk _ => hk6 k hk.2))) H3.out.below.size)); clear h6 hk6 hb6)
            | ((with_reducible refine gate_ (.load 27 (.tmp 3)) rfl ?_); refine load_blk rfl 27 (.tmp 3) rfl X rfl (chg c) H6.out.blkX _ Try.underlying27 rfl size27 ?_)
            | (go_at_call 40; (with_reducible refine (change_calls HE6.out (base := w.heap.size) (Nat.le_trans H2.out.below.size HEG.out) HR6.out.1 HR6.out.2 HFN.out c HD.out).mono ?_); rintro e w7 ⟨rfl, h7⟩; rw [← HER.out]; have H7 := Aside0.mk h7; clear h7))
          obtain ⟨v1, v8, i1, i2, i3, i4, i5⟩ := H7.out
          have hlx := look_mem HL.out.1
          have hname : (changeT x c).2.f0 = c.f1 := (change_name x c).trans hlx.2
          have hbl : Below w.heap.size w w7 := H6.out.below.trans i4
          have htab : TabG w7 D M st := HT.out.below hbl
          have hX7 := i5 X _ H6.out.blkX
          obtain ⟨z0, z1⟩ := cellsX hX7
          have hput := (show TabG w7.drew D M st from htab.below (below_drew (Below.refl _ _))).put (ten_of (Kd.R_drew i2) (Kd.R_drew i3)) (fine_change HFN.out HRR.out.symm) (by
            rw [put_len htab.sorted, hname, HL.out.1]
            have := htab.few16
            simp
            omega)
          rw [hname] at hput
          obtain ⟨w8, hup, ht8, hc8⟩ := hput
          have H8 := Aside0.mk (And.intro hup (And.intro ht8 (And.intro hc8 hbl)))
          have y7 := htab.cells.2
          have x7 := z1.1
          have r7 := range_blk i1
          have HR7 := Aside0.mk r7
          obtain ⟨e0, e1, e2, e3, e4, e5, e6, e7, e8⟩ := cellsT i1
          clear hup ht8 hc8 hbl htab hX7 z0 z1 i1 i2 i3 i4 i5 hlx hname r7
          refine start_ (n := 8) (S := fun w' => w'.cell? ⟨D, 1, none⟩ = some (.map (some M)) ∧ w'.cell? ⟨X, 1, none⟩ = some (.string c.f1) ∧ w'.cell? ⟨E, 0, none⟩ = some (.string (changeT x c).2.f0) ∧ w'.cell? ⟨E, 1, none⟩ = some (v1) ∧ w'.cell? ⟨E, 2, none⟩ = some (.int .i64 (changeT x c).2.f2.f0) ∧ w'.cell? ⟨E, 3, none⟩ = some (.int .i64 (changeT x c).2.f2.f1) ∧ w'.cell? ⟨E, 4, none⟩ = some (.int .i64 (changeT x c).2.f2.f2) ∧ w'.cell? ⟨E, 5, none⟩ = some (.int .i64 (changeT x c).2.f2.f3) ∧ w'.cell? ⟨E, 6, none⟩ = some (.int .i64 (changeT x c).2.f3) ∧ w'.cell? ⟨E, 7, none⟩ = some (.int .i64 (changeT x c).2.f4) ∧ w'.cell? ⟨E, 8, none⟩ = some (v8)) (ds := [7]) #[false, false, false, false, false, false, false, false] (by kernel_rfl) rfl rfl ⟨y7, x7, e0, e1, e2, e3, e4, e5, e6, e7, e8⟩ (fun hHeld => ?_); refine with_tabW tdo.tab20 tdo.bits20 (fun HT_ HW_ => ?_)
          refine pure_ (i := 0) (N := some 66) (v := ?_) (a' := ?_) #[true, false, false, false, false, false, false, false] rfl rfl (any_of HT_.out (by kernel_rfl)) (fun _ _ _ h => h) (Or.inl ⟨by rfl, ?_⟩) ?_ ?_
          rotate_left
          · intro w'
            go_simp
            with_reducible rfl
          rotate_left
          · simp only [Act.put, List.setIfInBounds_toArray, List.set_cons_zero, List.set_cons_succ, i64_w, i32_w, xu32_w, xu8_w]
            rfl
          refine pure_ (i := 1) (N := some 67) (v := ?_) (a' := ?_) #[true, true, false, false, false, false, false, false] rfl rfl (any_of HT_.out (by kernel_rfl)) (fun _ _ _ h => h) (Or.inl ⟨by rfl, ?_⟩) ?_ ?_
          rotate_left
          · intro w'
            go_simp
            with_reducible rfl
          rotate_left
          · simp only [Act.put, List.setIfInBounds_toArray, List.set_cons_zero, List.set_cons_succ, i64_w, i32_w, xu32_w, xu8_w]
            rfl
          refine pure_ (i := 2) (N := some 68) (v := ?_) (a' := ?_) #[true, true, true, false, false, false, false, false] rfl rfl (any_of HT_.out (by kernel_rfl)) (fun _ _ _ h => h) (Or.inl ⟨by rfl, ?_⟩) ?_ ?_
          rotate_left
          · intro w'
            go_simp
            with_reducible rfl
          rotate_left
          · simp only [Act.put, List.setIfInBounds_toArray, List.set_cons_zero, List.set_cons_succ, i64_w, i32_w, xu32_w, xu8_w]
            rfl
          refine pure_ (i := 4) (N := some 70) (v := ?_) (a' := ?_) #[true, true, true, false, true, false, false, false] rfl rfl (any_of HT_.out (by kernel_rfl)) (fun _ _ _ h => h) (Or.inl ⟨by rfl, ?_⟩) ?_ ?_
          rotate_left
          · intro w'
            go_simp
            with_reducible rfl
          rotate_left
          · simp only [Act.put, List.setIfInBounds_toArray, List.set_cons_zero, List.set_cons_succ, i64_w, i32_w, xu32_w, xu8_w]
            rfl
          refine take_ (i := 3) (N := some 69) (v := ?_) (a' := ?_) #[true, true, true, true, true, false, false, false] rfl rfl (take_ofW HT_.out HW_.out (by kernel_rfl)) (fun _ _ _ h => h) (Or.inl ⟨by rfl, ?_⟩) hHeld ?_ ?_
          rotate_left
          · rintro w' ⟨s0, s1, s2, s3, s4, s5, s6, s7, s8, s9, s10⟩
            go_simp
            with_reducible rfl
          rotate_left
          · simp only [Act.put, List.setIfInBounds_toArray, List.set_cons_zero, List.set_cons_succ, i64_w, i32_w, xu32_w, xu8_w]
            rfl
          refine take_ (i := 5) (N := some 71) (v := ?_) (a' := ?_) #[true, true, true, true, true, true, false, false] rfl rfl (take_ofW HT_.out HW_.out (by kernel_rfl)) (fun _ _ _ h => h) (Or.inl ⟨by rfl, ?_⟩) hHeld ?_ ?_
          rotate_left
          · rintro w' ⟨s0, s1, s2, s3, s4, s5, s6, s7, s8, s9, s10⟩
            go_simp
            with_reducible rfl
          rotate_left
          · simp only [Act.put, List.setIfInBounds_toArray, List.set_cons_zero, List.set_cons_succ, i64_w, i32_w, xu32_w, xu8_w]
            rfl
          refine take_ (i := 6) (N := some 72) (v := ?_) (a' := ?_) #[true, true, true, true, true, true, true, false] rfl rfl (take_ofW HT_.out HW_.out (by kernel_rfl)) (fun _ _ _ h => h) (Or.inl ⟨by rfl, ?_⟩) hHeld ?_ ?_
          rotate_left
          · rintro w' ⟨s0, s1, s2, s3, s4, s5, s6, s7, s8, s9, s10⟩
            go_simp
            with_reducible rfl
          rotate_left
          · simp only [Act.put, List.setIfInBounds_toArray, List.set_cons_zero, List.set_cons_succ, i64_w, i32_w, xu32_w, xu8_w]
            rfl
          refine last_ (i := 7) (N := none) #[true, true, true, true, true, true, true, true] rfl rfl (one_of HT_.out (by kernel_rfl)) (by decide) (fun K hK => ?_)
          refine mapUpdate_step (by rfl) rfl (.tmp 69) (.tmp 71) (.tmp 72) 58 rfl _ _ _ rfl rfl rfl w8 H8.out.1 ?_
          refine hK.out _ _ ?_
          clear hK K
          refine done_ (done_of HT_.out (by kernel_rfl)) ?_
          clear hHeld HT_ HW_
          go_wp2_with (fail)
          go_ret
          rw [HR.out]
          exact ⟨rfl, H8.out.2.1, (Chg.of_below (fun k => k = M) (below_drew H8.out.2.2.2)).trans H8.out.2.2.1 (fun _ _ e => e) (fun _ _ e => e)⟩
        · have HR := Aside0.mk (show doT st c = (er, st) by
            unfold doT
            rw [if_pos HRR.out.symm, if_neg hd, HL.out.1]
            show (if (changeT x c).1 = 0 then _ else ((changeT x c).1, st)) = _
            rw [← HER.out, if_neg he])
          go_wp2_with (first
            | ((with_reducible refine gate_ (.load 39 (.tmp 6)) rfl ?_); refine load_blk rfl 39 (.tmp 6) rfl E rfl (ten x (.slice A1 x.f1.length c1) (.slice A8 x.f5.length c8)) HE3.out _ Try.underlying39 rfl size39 ?_)
            | (go_at_call 39; (with_reducible refine (copied_calls x HC.out.1.2 (Kd.C_below HC.out.1.1 HB3.out) HC.out.2.2 (Kd.C_below HC.out.2.1 HB3.out) (by have := HFN.out.keys; have := HFN.out.readers; omega)).mono ?_); rintro e w5 ⟨u1, u8, rfl, hr1, hr8, hb5⟩; have HR5 := Aside0.mk (And.intro hr1 hr8); have H5 := Aside0.mk (H3.out.then_ hb5); have HE5 := Aside0.mk ((hb5.block E (heap_lt HE3.out)).trans HE3.out); have HB5 := Aside0.mk hb5; clear hr1 hr8 hb5)
            | ((with_reducible refine gate_ (.store 39 (.tmp 6) (.tmp 60)) rfl ?_); refine store_blk rfl 39 (.tmp 6) (.tmp 60) rfl E (ten x (.slice A1 x.f1.length c1) (.slice A8 x.f5.length c8)) (ten x u1 u8) rfl rfl HE5.out rfl size39 (ten_one _ (one_of_R HR5.out.1) (one_of_R HR5.out.2)) ?_; intro w6 h6 hk6 hb6; have H6 := Aside0.mk (show DoW w D M X st c w6 from ⟨HT.out.below (hb6 w (Nat.le_trans H2.out.below.size HEG.out) H5.out.below), (hk6 X (fun e => by have := HEG.out; have := heap_lt H2.out.blkX; omega)).trans H5.out.blkX, hb6 w (Nat.le_trans H2.out.below.size HEG.out) H5.out.below, H5.out.new⟩); have HE6 := Aside0.mk h6; have HR6 := Aside0.mk (And.intro (Kd.R_lower (Kd.R_drop (Kd.R_step (Kd.R_types HR5.out.1 HE5.out (by decide)) (fun k hk _ => hk6 k hk.2))) H3.out.below.size) (Kd.R_lower (Kd.R_drop (Kd.R_step (Kd.R_types HR5.out.2 HE5.out (by decide)) (fun k hk _ => hk6 k hk.2))) H3.out.below.size)); clear h6 hk6 hb6)
            | ((with_reducible refine gate_ (.load 27 (.tmp 3)) rfl ?_); refine load_blk rfl 27 (.tmp 3) rfl X rfl (chg c) H6.out.blkX _ Try.underlying27 rfl size27 ?_)
            | (go_at_call 40; (with_reducible refine (change_calls HE6.out (base := w.heap.size) (Nat.le_trans H2.out.below.size HEG.out) HR6.out.1 HR6.out.2 HFN.out c HD.out).mono ?_); rintro e w7 ⟨rfl, h7⟩; rw [← HER.out]; have H7 := Aside0.mk h7; clear h7))
          go_ret
          rw [HR.out]
          obtain ⟨v1, v8, i1, i2, i3, i4, i5⟩ := H7.out
          have hbl : Below w.heap.size w w7 := H6.out.below.trans i4
          exact ⟨rfl, HT.out.below hbl, Chg.of_below _ hbl⟩
  · have HR := Aside0.mk (show doT st c = (rr, st) by
      unfold doT
      rw [← HRR.out, if_neg h0])
    go_enter Try.func14, Try.ntmps14
    go_wp2_with (first
      | ((with_reducible refine gate_dst (N := 3) rfl ?_); refine box_event ?hg (N := 3) ?hd (cs := (chg c).toArray) (t := 27) ?hr ?_; (case hd => rfl); (case hg => rfl); (case hr => first | (go_simp; done) | (go_simp; rfl)); intro X hX w1 hx1 hb1; have H1 := Aside0.mk (show DoW w D M X st c w1 from ⟨HT.out.below hb1, hx1, hb1, by omega⟩); clear hX hx1 hb1)
      | (go_at_call 38; (with_reducible refine (is_calls H1.out.tab).mono ?_); rintro e w9 ⟨rfl, h9⟩; subst w9)
      | ((with_reducible refine gate_ (.load 27 (.tmp 3)) rfl ?_); refine load_blk rfl 27 (.tmp 3) rfl X rfl (chg c) H1.out.blkX _ Try.underlying27 rfl size27 ?_)
      | (go_at_call 11; (with_reducible refine (right_calls c _).mono ?_); rintro e w2 ⟨rfl, hb2⟩; rw [← HRR.out]; have H2 := Aside0.mk (H1.out.then_ hb2); clear hb2))
    go_ret
    rw [HR.out]
    exact H2.out.same rfl rfl
end Go.Proofs.Yticoaaddhhiglaa.T
