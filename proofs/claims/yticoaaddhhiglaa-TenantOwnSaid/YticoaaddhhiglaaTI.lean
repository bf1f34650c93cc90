import Derived.Test.YticoaaddhhiglaaTJ
import Derived.Test.YticoaaddhhiglaaT22
/- Tables that no call made (T33). -/
namespace Go.Proofs.Yticoaaddhhiglaa.T
open Go.RowKit Go.Proofs.Yticoaaddhhiglaa.Q Go.Proofs.YticoaaddhhiglaaW.PrintWords Go.Proofs.YticoaaddhhiglaaW.PrintLast Go.Proofs.YticoaaddhhiglaaW.PrintMore
set_option linter.unusedVariables false
set_option linter.unusedSimpArgs false
/-- A pointer to no table, or to one that no call made. -/
def NoT (w : World) (p : Option Addr) : Prop := p = none ∨ ∃ Z, p = some ⟨Z, 0, none⟩ ∧ w.heap[Z]? = some (.cells #[.bool false, .map none] 60 (0, 0))
theorem NoT.below {w w' : World} {p : Option Addr} (h : NoT w p) (hb : Below w.heap.size w w') : NoT w' p := by
  rcases h with h | ⟨Z, h, hz⟩
  · exact .inl h
  · exact .inr ⟨Z, h, (hb.block Z (heap_lt hz)).trans hz⟩
theorem no_is {w : World} {p : Option Addr} (h : NoT w p) : Calls Try.prog 38 #[.pointer p] w fun e w' => e = .returned (.bool false) ∧ w' = w := by
  rcases h with rfl | ⟨Z, rfl, hz⟩
  · go_enter Try.func38, Try.ntmps38
    go_wp2
    go_ret
    exact ⟨rfl, rfl⟩
  · have c0 : w.cell? ⟨Z, 0, none⟩ = some (.bool false) := (blk_cell hz 0).trans rfl
    clear hz
    go_enter Try.func38, Try.ntmps38
    go_wp2
    go_ret
    exact ⟨rfl, rfl⟩
theorem no_names {w : World} {p : Option Addr} (h : NoT w p) : Calls Try.prog 21 #[.pointer p] w fun e w' => e = .returned (.slice none 0 0) ∧ w' = w := by
  have HP := Aside0.mk h
  clear h
  go_enter Try.func21, Try.ntmps21
  go_wp2_with (first
    | (go_at_call 38; (with_reducible refine (no_is HP.out).mono ?_); rintro e w9 ⟨rfl, h9⟩; subst w9))
  go_ret
  exact ⟨rfl, rfl⟩
theorem no_key {w : World} {p : Option Addr} (h : NoT w p) (s : ByteArray) (id : Int) : Calls Try.prog 22 #[.pointer p, .string s, .int .i64 id] w fun e w' => e = .returned (.tuple #[.string ⟨#[]⟩, .bool false]) ∧ w' = w := by
  have HP := Aside0.mk h
  clear h
  go_enter Try.func22, Try.ntmps22
  go_wp2_with (first
    | (go_at_call 38; (with_reducible refine (no_is HP.out).mono ?_); rintro e w9 ⟨rfl, h9⟩; subst w9))
  go_ret2
  exact ⟨rfl, rfl⟩
theorem no_reads {w : World} {p : Option Addr} (h : NoT w p) (s t : ByteArray) : Calls Try.prog 16 #[.pointer p, .string s, .string t] w fun e w' => e = .returned (.bool false) ∧ w' = w := by
  have HP := Aside0.mk h
  clear h
  go_enter Try.func16, Try.ntmps16
  go_wp2_with (first
    | (go_at_call 38; (with_reducible refine (no_is HP.out).mono ?_); rintro e w9 ⟨rfl, h9⟩; subst w9))
  go_ret
  exact ⟨rfl, rfl⟩
theorem no_clone {w : World} {p : Option Addr} (h : NoT w p) : Calls Try.prog 20 #[.pointer p] w fun e w' => e = .returned (.pointer none) ∧ w' = w := by
  have HP := Aside0.mk h
  clear h
  go_enter Try.func20, Try.ntmps20
  go_wp2_with (first
    | (go_at_call 38; (with_reducible refine (no_is HP.out).mono ?_); rintro e w9 ⟨rfl, h9⟩; subst w9))
  go_ret
  exact ⟨rfl, rfl⟩
theorem no_do {w : World} {p : Option Addr} (h : NoT w p) (c : S27) : Calls Try.prog 14 #[.pointer p, .agg #[.int .i64 c.f0, .string c.f1, .int .i64 c.f2.f0, .string c.f2.f1, .int .i64 c.f3.f0, .int .i64 c.f3.f1, .int .i64 c.f3.f2, .int .i64 c.f3.f3, .int .i64 c.f4, .int .i64 c.f5, .string c.f6]] w fun e w' => e = .returned (.int .i64 2) ∧ Below w.heap.size w w' := by
  have HP := Aside0.mk h
  clear h
  go_enter Try.func14, Try.ntmps14
  go_wp2_with (first
    | ((with_reducible refine gate_dst (N := 3) rfl ?_); refine box_event ?hg (N := 3) ?hd (cs := (chg c).toArray) (t := 27) ?hr ?_; (case hd => rfl); (case hg => rfl); (case hr => first | (go_simp; done) | (go_simp; rfl)); intro X hX w1 hx1 hb1; have HB := Aside0.mk hb1; clear hX hx1 hb1)
    | (go_at_call 38; (with_reducible refine (no_is (HP.out.below HB.out)).mono ?_); rintro e w9 ⟨rfl, h9⟩; subst w9))
  go_ret
  exact ⟨rfl, HB.out⟩
theorem no_access {w : World} {p : Option Addr} (h : NoT w p) (s : ByteArray) : Calls Try.prog 19 #[.pointer p, .string s] w fun e w' => e = .returned (.slice none 0 0) ∧ w' = w := by
  have HP := Aside0.mk h
  clear h
  go_enter Try.func19, Try.ntmps19
  go_wp2_with (first
    | (go_at_call 21; (with_reducible refine (no_names HP.out).mono ?_); rintro e w9 ⟨rfl, h9⟩; subst w9))
  go_loopg [5, 11] 1 (fun kq v5 v11 wr => v5 = .slice none 0 0 ∧ v11 = .int .i64 0 ∧ Aside0 (kq = 1) ∧ wr = w)
  case atStart => exact ⟨rfl, rfl, ⟨rfl⟩, rfl⟩
  case round =>
    obtain ⟨rfl, rfl, HK, rfl⟩ := hrel
    go_wp2
    go_ret
    exact ⟨rfl, rfl⟩
theorem no_keys {w : World} {p : Option Addr} (h : NoT w p) : Calls Try.prog 28 #[.pointer p] w fun e w' => e = .returned (.slice none 0 0) ∧ w' = w := by
  have HP := Aside0.mk h
  clear h
  go_enter Try.func28, Try.ntmps28
  go_wp2_with (first
    | (go_at_call 21; (with_reducible refine (no_names HP.out).mono ?_); rintro e w9 ⟨rfl, h9⟩; subst w9))
  go_loopg [3, 11] 1 (fun kq v3 v11 wr => v3 = .slice none 0 0 ∧ v11 = .int .i64 0 ∧ Aside0 (kq = 1) ∧ wr = w)
  case atStart => exact ⟨rfl, rfl, ⟨rfl⟩, rfl⟩
  case round =>
    obtain ⟨rfl, rfl, HK, rfl⟩ := hrel
    go_wp2
    go_ret
    exact ⟨rfl, rfl⟩
set_option maxHeartbeats 4000000 in
set_option maxRecDepth 100000 in
theorem no_get {w : World} {p : Option Addr} (h : NoT w p) (s : ByteArray) : Calls Try.prog 15 #[.pointer p, .string s] w fun e w' => e = .returned (.tuple #[.agg (ten z39 (.slice none 0 0) (.slice none 0 0)).toArray, .bool false]) ∧ Below w.heap.size w w' := by
  have HP := Aside0.mk h
  clear h
  go_enter Try.func15, Try.ntmps15
  go_wp2_with (first
    | ((with_reducible refine gate_dst (N := 4) rfl ?_); refine box_event ?hg (N := 4) ?hd (cs := (ten z39 (.slice none 0 0) (.slice none 0 0)).toArray) (t := 39) ?hr ?_; (case hd => rfl); (case hg => rfl); (case hr => first | (go_simp; done) | (go_simp; rfl)); intro E hE w1 h1 hb1; have H1 := Aside0.mk h1; have HB1 := Aside0.mk hb1; have HEG := Aside0.mk (show w.heap.size ≤ E by omega); clear h1 hb1 hE)
    | (go_at_call 38; (with_reducible refine (no_is (HP.out.below HB1.out)).mono ?_); rintro e w9 ⟨rfl, h9⟩; subst w9)
    | ((with_reducible refine gate_ (.store 39 (.tmp 4) (.tmp 11)) rfl ?_); refine store_blk rfl 39 (.tmp 4) (.tmp 11) rfl E (ten z39 (.slice none 0 0) (.slice none 0 0)) (ten z39 (.slice none 0 0) (.slice none 0 0)) rfl rfl H1.out rfl size39 nil_one ?_; intro w4 h4 hk4 hb4; have HB4 := Aside0.mk (hb4 w HEG.out HB1.out); have H4 := Aside0.mk h4; clear h4 hk4 hb4))
  ((try simp only [Exit.inBlock, Exit.then]); refine bodyPost_ret (results_ct rfl _ _ E _ rfl (run_loadVar_mid _ _ _ 39 _ _ (range_blk H4.out) Try.underlying39 rfl size39)) rfl ?_)
  exact ⟨rfl, HB4.out⟩
end Go.Proofs.Yticoaaddhhiglaa.T
/- TenantOwn: the document's Clone; what is handed out is written to; tables side by side (mkT34.py). -/
namespace Go.Proofs.Yticoaaddhhiglaa.T
open Go.RowKit Go.Proofs.Yticoaaddhhiglaa.Q Go.Proofs.YticoaaddhhiglaaW.PrintWords Go.Proofs.YticoaaddhhiglaaW.PrintLast Go.Proofs.YticoaaddhhiglaaW.PrintMore
set_option linter.unusedVariables false
set_option linter.unusedSimpArgs false
theorem append_one {P : Program} {ops : Array Oper} {o : Oper} {a : Act} {Q : Exit → Act → World → Prop} {K : Act → World → Prop} {W : World} (hw : Region.wanted o (yielded ops a.tmps) = true) (s x : Operand) (t : TypeId)
    (ho : o.op = .call { callee := .builtin .append, args := #[s, x], argTypes := #[t, t] }) (v y : Value) (hs : a.eval s = v) (hx : a.eval x = y) (v1 : Value) (w1 : World) (hr : (Builtin.append_ #[t, t] o.type #[v, y]).run P W = .ok v1 w1) (h : K (a.put o.dst v1) w1) :
    if Region.wanted o (yielded ops a.tmps) = true then Oper.wp P o a W K Q else K (a.put o.dst undef) W := by
  rw [if_pos hw]
  unfold Oper.wp execOp
  simp only [ho, resolve, invoke, builtin, Sem.run_bind, Sem.run_pure, Result.andThen_ok, List.map_toArray, List.map_cons, List.map_nil, hs, hx, hr]
  exact h
theorem types39 : ∀ q ∈ k39.E, q ≠ 52 ∧ q ≠ 39 := by decide
theorem append_nil0 (W : World) (ty : TypeId) : (Builtin.append_ #[50, 50] ty #[.slice none 0 0, .slice none 0 0]).run Try.prog W = .ok (.slice none 0 0) W := by
  obtain ⟨i0, hi, _⟩ := Option.map_eq_some_iff.1 info39
  simp [Builtin.append_, run_underlying Try.underlying50, Builtin.lenOf, Builtin.firstCells, sizeOf, typeInfo, hi]
/-- A row of tenants is appended to nothing. -/
theorem rcopy {W : World} {base n c : Nat} {A : Option Addr} {st : St} {ty : TypeId} (h : k39.R 39 W base (fun _ => True) (.slice A n c) st) (hn : n = st.length) (hf : n ≤ 16) (hb : base ≤ W.heap.size) :
    ∃ A' c' w1, (Builtin.append_ #[50, 50] ty #[.slice none 0 0, .slice A n c]).run Try.prog W = .ok (.slice A' n c') w1 ∧ k39.R 39 w1 base (fun _ => True) (.slice A' n c') st ∧ Below W.heap.size W w1 ∧ ∀ k, (Value.slice A' n c').ownBlock = some k → W.heap.size ≤ k := by
  subst hn
  obtain ⟨h0, inner, ho, hr⟩ := h
  rcases ho.2 with ⟨hv, hz⟩ | ⟨g, cap, cur, hv, hg, hh, hnc, hcm, hcs, htake⟩
  · injection hv with e1 e2 e3
    subst e1; subst e3
    have hst : st = [] := List.eq_nil_of_length_eq_zero e2
    subst hst
    refine ⟨none, 0, W, ?_, Kd.R_nil _ _ _ _ _, Below.refl _ _, fun k hk => by simp [Value.ownBlock] at hk⟩
    exact append_nil0 W ty
  · injection hv with e1 _ e3
    subst e1; subst e3
    obtain ⟨i0, hi, hzz⟩ := Option.map_eq_some_iff.1 info39
    simp only [Prod.mk.injEq] at hzz
    obtain ⟨hz0, hz1, hz2⟩ := hzz
    have hl := hr.1
    obtain ⟨v1, w1, hrun, hown, hgr, _, hat⟩ := run_append_own_at (P := Try.prog) (w := W) base 50 ty 39 i0 _ 9 _ Try.underlying50 hi hz0 hz1 hz2 rfl (by decide) (.slice none 0 0) 0 [] ⟨rfl, .inl ⟨rfl, rfl⟩⟩ ⟨g, 0, none⟩ st.length c inner hl
      (fun j u hj => by
        have hjl := (List.getElem?_eq_some_iff.1 hj).1
        have := ho.cellAt j (by show j < st.length * 9; rw [← show inner.length = st.length * 9 from hl]; exact hjl)
        rw [Addr.add_lit, Nat.zero_add, this, hj])
      (fun u hu => reps_one hr (by decide) (fun p c hp => k39.K_one (k39.K_of_M hp)) u hu) (by simp only [maxLen]; omega) (by omega) hb
    have hblk : ∀ k, v1.ownBlock = some k → W.heap.size ≤ k := fun k hk => by
      rcases hat with hat | hat
      · rw [hat] at hk; simp [Value.ownBlock] at hk
      · rw [hat] at hk; injection hk with hk; omega
    have hbel : Below W.heap.size W w1 := ⟨hgr.os, hgr.tape, hgr.output, hgr.size, fun k hk => hgr.block k hk (by simp [Value.ownBlock])⟩
    rw [Nat.zero_add, List.nil_append] at hown
    have hR : k39.R 39 w1 base (fun _ => True) v1 st := ⟨fun _ _ => trivial, inner, hown, hr.imp_ (fun _ _ hp => k39.M_mono (fun k hk => ⟨trivial, fun e => by have := hblk k e.symm; omega⟩) (k39.M_move (fun k hk => hbel.block k hk.2.2.1) (k39.M_bound hp)))⟩
    obtain ⟨A', c', hv1⟩ := Kd.R_slice hR
    subst hv1
    exact ⟨A', c', w1, hrun, hR, hbel, hblk⟩
def rclone.T2 : Bool × List (List Nat × List Nat) := (true, [([], []), ([], []), ([1], [1]), ([2], [2]), ([3], [3]), ([], []), ([5], [5]), ([6], [6]), ([7], [7]), ([4, 8], [4, 8]), ([0, 0, 1, 2, 3, 4, 5, 6, 7, 8, 9], [0]), ([10, 0, 1, 2, 3, 4, 5, 6, 7, 8, 9], [10]), ([11, 9, 9, 0, 1, 2, 3, 4, 5, 6, 7, 8, 9], [9, 11])])
def rclone.B2 : List Nat := [0, 0, 2, 6, 14, 0, 32, 96, 224, 510, 1023, 2047, 4095]
theorem rclone.tab2 : rtab .any (opsOf Try.f27 2) = rclone.T2 := by kernel_rfl
theorem rclone.bits2 : waitsOk rclone.T2.2 rclone.B2 = true := by kernel_rfl
/-- The document's Clone. -/
def RCl (w0 W : World) (g : Nat) (st : St) (e : Ending) (W' : World) : Prop := ∃ g2, e = .returned (.pointer (some ⟨g2, 0, none⟩)) ∧ RefT w0 g2 st W' ∧ Below W.heap.size W W' ∧ W.heap.size ≤ g2 ∧ (∀ k, some k = rowOf W' g2 → W.heap.size ≤ k)
set_option maxHeartbeats 4000000 in
set_option maxRecDepth 100000 in
theorem rclone_calls {w0 w : World} {g : Nat} {st : St} (h : RefT w0 g st w) (hf : st.length ≤ 16) : Calls Try.prog 27 #[.pointer (some ⟨g, 0, none⟩)] w (RCl w0 w g st) := by
  obtain ⟨A, c, h1, h2⟩ := h.row
  have HT := Aside0.mk h
  obtain ⟨n, hn⟩ : ∃ n : Nat, n = st.length := ⟨_, rfl⟩
  rw [← hn] at h1 h2 hf
  have HR := Aside0.mk (And.intro h2 h1)
  have HN := Aside0.mk (And.intro hn hf)
  clear h h1 h2 hn hf
  go_enter Try.func27, Try.ntmps27
  go_wp2_with (first
    | ((with_reducible refine gate_dst (N := 5) rfl ?_); refine box_event ?hg (N := 5) ?hd (cs := #[.slice none 0 0]) (t := 52) ?hr ?_; (case hd => rfl); (case hg => rfl); (case hr => first | (go_simp; done) | (go_simp; rfl)); intro g2 hg2 w2 h2 hb2; have H2 := Aside0.mk (And.intro h2 (And.intro hb2 (show w.heap.size ≤ g2 by omega))); clear hg2 h2 hb2))
  have H3 := Aside0.mk (And.intro (R_cells (show w2.drew.heap[g2]? = _ from H2.out.1)) (R_cells (show w2.drew.heap[g]? = _ from (H2.out.2.1.block g (heap_lt HR.out.2)).trans HR.out.2)))
  obtain ⟨A', c', w3, hrun, hR3, hb3, hbk⟩ := rcopy (ty := 50) (Kd.R_below HR.out.1 (below_drew H2.out.2.1)) HN.out.1 HN.out.2 (Nat.le_trans HT.out.below.size (below_drew H2.out.2.1).size)
  have HRUN := Aside0.mk hrun
  have HR3 := Aside0.mk (And.intro hR3 (And.intro hb3 hbk))
  clear hrun hR3 hb3 hbk
  refine start_ (n := 13) (S := fun w' => w'.cell? ⟨g2, 0, none⟩ = some (.slice none 0 0) ∧ w'.cell? ⟨g, 0, none⟩ = some (.slice A n c)) (ds := [12]) #[false, false, false, false, false, false, false, false, false, false, false, false, false] (by kernel_rfl) rfl rfl H3.out (fun hHeld => ?_); refine with_tabW rclone.tab2 rclone.bits2 (fun HT_ HW_ => ?_)
  refine pure_ (i := 0) (N := some 6) (v := ?_) (a' := ?_) #[true, false, false, false, false, false, false, false, false, false, false, false, false] rfl rfl (any_of HT_.out (by kernel_rfl)) (fun _ _ _ h => h) (Or.inl ⟨by rfl, ?_⟩) ?_ ?_
  rotate_left
  · intro w'
    go_simp
    with_reducible rfl
  rotate_left
  · simp only [Act.put, List.setIfInBounds_toArray, List.set_cons_zero, List.set_cons_succ, i64_w, i32_w, xu32_w, xu8_w]
    rfl
  refine pure_ (i := 1) (N := some 7) (v := ?_) (a' := ?_) #[true, true, false, false, false, false, false, false, false, false, false, false, false] rfl rfl (any_of HT_.out (by kernel_rfl)) (fun _ _ _ h => h) (Or.inl ⟨by rfl, ?_⟩) ?_ ?_
  rotate_left
  · intro w'
    go_simp
    with_reducible rfl
  rotate_left
  · simp only [Act.put, List.setIfInBounds_toArray, List.set_cons_zero, List.set_cons_succ, i64_w, i32_w, xu32_w, xu8_w]
    rfl
  refine pure_ (i := 2) (N := some 8) (v := ?_) (a' := ?_) #[true, true, true, false, false, false, false, false, false, false, false, false, false] rfl rfl (any_of HT_.out (by kernel_rfl)) (fun _ _ _ h => h) (Or.inl ⟨by rfl, ?_⟩) ?_ ?_
  rotate_left
  · intro w'
    go_simp
    with_reducible rfl
  rotate_left
  · simp only [Act.put, List.setIfInBounds_toArray, List.set_cons_zero, List.set_cons_succ, i64_w, i32_w, xu32_w, xu8_w]
    rfl
  refine pure_ (i := 3) (N := some 9) (v := ?_) (a' := ?_) #[true, true, true, true, false, false, false, false, false, false, false, false, false] rfl rfl (any_of HT_.out (by kernel_rfl)) (fun _ _ _ h => h) (Or.inl ⟨by rfl, ?_⟩) ?_ ?_
  rotate_left
  · intro w'
    go_simp
    with_reducible rfl
  rotate_left
  · simp only [Act.put, List.setIfInBounds_toArray, List.set_cons_zero, List.set_cons_succ, i64_w, i32_w, xu32_w, xu8_w]
    rfl
  refine pure_ (i := 5) (N := some 11) (v := ?_) (a' := ?_) #[true, true, true, true, false, true, false, false, false, false, false, false, false] rfl rfl (any_of HT_.out (by kernel_rfl)) (fun _ _ _ h => h) (Or.inl ⟨by rfl, ?_⟩) ?_ ?_
  rotate_left
  · intro w'
    go_simp
    with_reducible rfl
  rotate_left
  · simp only [Act.put, List.setIfInBounds_toArray, List.set_cons_zero, List.set_cons_succ, i64_w, i32_w, xu32_w, xu8_w]
    rfl
  refine pure_ (i := 6) (N := some 12) (v := ?_) (a' := ?_) #[true, true, true, true, false, true, true, false, false, false, false, false, false] rfl rfl (any_of HT_.out (by kernel_rfl)) (fun _ _ _ h => h) (Or.inl ⟨by rfl, ?_⟩) ?_ ?_
  rotate_left
  · intro w'
    go_simp
    with_reducible rfl
  rotate_left
  · simp only [Act.put, List.setIfInBounds_toArray, List.set_cons_zero, List.set_cons_succ, i64_w, i32_w, xu32_w, xu8_w]
    rfl
  refine pure_ (i := 7) (N := some 13) (v := ?_) (a' := ?_) #[true, true, true, true, false, true, true, true, false, false, false, false, false] rfl rfl (any_of HT_.out (by kernel_rfl)) (fun _ _ _ h => h) (Or.inl ⟨by rfl, ?_⟩) ?_ ?_
  rotate_left
  · intro w'
    go_simp
    with_reducible rfl
  rotate_left
  · simp only [Act.put, List.setIfInBounds_toArray, List.set_cons_zero, List.set_cons_succ, i64_w, i32_w, xu32_w, xu8_w]
    rfl
  refine take_ (i := 4) (N := some 10) (v := ?_) (a' := ?_) #[true, true, true, true, true, true, true, true, false, false, false, false, false] rfl rfl (take_ofW HT_.out HW_.out (by kernel_rfl)) (fun _ _ _ h => h) (Or.inl ⟨by rfl, ?_⟩) hHeld ?_ ?_
  rotate_left
  · rintro w' ⟨s0, s1⟩
    go_simp
    with_reducible rfl
  rotate_left
  · simp only [Act.put, List.setIfInBounds_toArray, List.set_cons_zero, List.set_cons_succ, i64_w, i32_w, xu32_w, xu8_w]
    rfl
  refine take_ (i := 8) (N := some 14) (v := ?_) (a' := ?_) #[true, true, true, true, true, true, true, true, true, false, false, false, false] rfl rfl (take_ofW HT_.out HW_.out (by kernel_rfl)) (fun _ _ _ h => h) (Or.inl ⟨by rfl, ?_⟩) hHeld ?_ ?_
  rotate_left
  · rintro w' ⟨s0, s1⟩
    go_simp
    with_reducible rfl
  rotate_left
  · simp only [Act.put, List.setIfInBounds_toArray, List.set_cons_zero, List.set_cons_succ, i64_w, i32_w, xu32_w, xu8_w]
    rfl
  refine one_ (i := 9) (N := some 15) #[true, true, true, true, true, true, true, true, true, true, false, false, false] rfl rfl (one_of HT_.out (by kernel_rfl)) (by decide) (fun K hK => ?_)
  refine append_one (by rfl) (.tmp 10) (.tmp 14) 50 rfl _ _ rfl rfl (.slice A' n c') w3 HRUN.out ?_
  refine hK.out _ _ ⟨R_cells ((HR3.out.2.1.block g2 (heap_lt H2.out.1)).trans H2.out.1), R_cells ((HR3.out.2.1.block g (Nat.lt_of_lt_of_le (heap_lt HR.out.2) (below_drew H2.out.2.1).size)).trans ((H2.out.2.1.block g (heap_lt HR.out.2)).trans HR.out.2))⟩ (fun hHeld => ?_)
  clear hK K
  refine norm_ (a' := ?_) ?_ ?_
  rotate_left
  · show Act.put _ (some 15) _ = _
    simp only [Act.put, List.setIfInBounds_toArray, List.set_cons_zero, List.set_cons_succ, i64_w, i32_w, xu32_w, xu8_w]
    rfl
  refine pure_ (i := 10) (N := some 16) (v := ?_) (a' := ?_) #[true, true, true, true, true, true, true, true, true, true, true, false, false] rfl rfl (any_of HT_.out (by kernel_rfl)) (fun _ _ _ h => h) (Or.inl ⟨by rfl, ?_⟩) ?_ ?_
  rotate_left
  · intro w'
    go_simp
    with_reducible rfl
  rotate_left
  · simp only [Act.put, List.setIfInBounds_toArray, List.set_cons_zero, List.set_cons_succ, i64_w, i32_w, xu32_w, xu8_w]
    rfl
  refine pure_ (i := 11) (N := some 17) (v := ?_) (a' := ?_) #[true, true, true, true, true, true, true, true, true, true, true, true, false] rfl rfl (any_of HT_.out (by kernel_rfl)) (fun _ _ _ h => h) (Or.inl ⟨by rfl, ?_⟩) ?_ ?_
  rotate_left
  · intro w'
    go_simp
    with_reducible rfl
  rotate_left
  · simp only [Act.put, List.setIfInBounds_toArray, List.set_cons_zero, List.set_cons_succ, i64_w, i32_w, xu32_w, xu8_w]
    rfl
  refine last_ (i := 12) (N := none) #[true, true, true, true, true, true, true, true, true, true, true, true, true] rfl rfl (one_of HT_.out (by kernel_rfl)) (by decide) (fun K hK => ?_)
  have hblk := (HR3.out.2.1.block g2 (heap_lt H2.out.1)).trans H2.out.1
  have c6 := R_cells hblk
  have f6 := blk_frozen hblk 0
  obtain ⟨w4, hw4⟩ : ∃ w4, w4 = w3.setCell ⟨g2, 0, none⟩ (.slice A' n c') := ⟨_, rfl⟩
  have HF := Aside0.mk (show RCl w0 w g st (.returned (.pointer (some ⟨g2, 0, none⟩))) w4 by
    rw [hw4]
    have hb3 : Below w.heap.size w w3 := below_step (below_drew H2.out.2.1) HR3.out.2.1
    have hset := blk_put hblk 0 (.slice A' n c') rfl
    have hb4 := setc_below hb3 H2.out.2.2 0 (.slice A' n c')
    have hnn := HN.out.1
    subst hnn
    refine ⟨g2, rfl, ⟨⟨A', c', hset, Kd.R_set HR3.out.1 hblk (by decide) 0 _⟩, below_step HT.out.below hb4, Nat.le_trans HT.out.below.size H2.out.2.2⟩, hb4, H2.out.2.2, fun k hk => ?_⟩
    unfold rowOf at hk
    rw [R_cells hset] at hk
    exact Nat.le_trans (below_drew H2.out.2.1).size (HR3.out.2.2 k hk.symm))
  refine skip_ (w1 := w4) (by rfl) rfl (by rw [hw4]; first | (go_simp; done) | (go_simp; rfl)) ?_
  refine hK.out _ _ ?_
  clear hK K c6 f6 hw4 hblk
  refine done_ (done_of HT_.out (by kernel_rfl)) ?_
  clear hHeld HT_ HW_
  go_wp2_with (fail)
  go_ret
  exact HF.out
/-- What was handed out is written to. -/
structure Mut (w : World) (Y : Nat) (x : S39) (A1 : Option Addr) (n1 c1 : Nat) (A8 : Option Addr) (n8 c8 : Nat) (W : World) : Prop where
  below : Below w.heap.size w W
  low : w.heap.size ≤ Y
  blkY : W.heap[Y]? = some (.cells (ten x (.slice A1 n1 c1) (.slice A8 n8 c8)).toArray 39 (0, 0))
  keys : 0 < n1 → ∃ g cur, A1 = some ⟨g, 0, none⟩ ∧ w.heap.size ≤ g ∧ W.heap[g]? = some (.cells cur 23 (0, 0)) ∧ n1 * 2 ≤ cur.size
  readers : 0 < n8 → ∃ g cur, A8 = some ⟨g, 0, none⟩ ∧ w.heap.size ≤ g ∧ W.heap[g]? = some (.cells cur 9 (0, 0)) ∧ n8 ≤ cur.size
theorem Mut.of {w W : World} {Y : Nat} {x : S39} {A1 A8 : Option Addr} {n1 c1 n8 c8 : Nat} (hn1 : n1 = x.f1.length) (hn8 : n8 = x.f5.length) (hb : Below w.heap.size w W) (hY : w.heap.size ≤ Y) (hblk : W.heap[Y]? = some (.cells (ten x (.slice A1 n1 c1) (.slice A8 n8 c8)).toArray 39 (0, 0))) (h1 : k23.R 23 W w.heap.size (fun _ => True) (.slice A1 n1 c1) x.f1) (h8 : Kd.string.R 9 W w.heap.size (fun _ => True) (.slice A8 n8 c8) x.f5) : Mut w Y x A1 n1 c1 A8 n8 c8 W := by
  refine ⟨hb, hY, hblk, fun hp => ?_, fun hp => ?_⟩
  · obtain ⟨g, cap, cs, hv, hO⟩ := R_ownB h1 (by omega)
    injection hv with e _ _
    obtain ⟨cur, hh, hs, _⟩ := hO.blk
    have hle := hO.le
    refine ⟨g, cur, e, hO.low, hh, ?_⟩
    rw [hs]
    show n1 * 2 ≤ cap * 2
    omega
  · obtain ⟨g, cap, cs, hv, hO⟩ := R_ownB h8 (by omega)
    injection hv with e _ _
    obtain ⟨cur, hh, hs, _⟩ := hO.blk
    have hle := hO.le
    refine ⟨g, cur, e, hO.low, hh, ?_⟩
    rw [hs]
    show n8 ≤ cap * 1
    omega
theorem Mut.at1 {w W : World} {Y : Nat} {x : S39} {A1 A8 : Option Addr} {n1 c1 n8 c8 : Nat} (h : Mut w Y x A1 n1 c1 A8 n8 c8 W) {i : Nat} (hi : i < n1) : ∃ ad u0, A1 = some ad ∧ W.cell? (ad.add (i * 2)) = some u0 ∧ W.frozen? (ad.add (i * 2)) = false ∧ ∀ u, Mut w Y x A1 n1 c1 A8 n8 c8 (W.setCell (ad.add (i * 2)) u) := by
  obtain ⟨g, cur, hA, hg, hh, hs⟩ := h.keys (by omega)
  refine ⟨⟨g, 0, none⟩, cur[i * 2]'(by omega), hA, ?_, ?_, fun u => ?_⟩
  · rw [Addr.add_lit, Nat.zero_add, blk_cell hh]
    exact Array.getElem?_eq_getElem (show i * 2 < cur.size by omega)
  · rw [Addr.add_lit, Nat.zero_add]
    exact blk_frozen hh _
  · rw [Addr.add_lit, Nat.zero_add]
    refine ⟨setc_below h.below hg _ _, h.low, (Below.heap_setCell W ⟨g, i * 2, none⟩ u Y (blk_ne h.blkY hh (by decide))).trans h.blkY, fun hp => ⟨g, _, hA, hg, blk_put hh _ _ rfl, ?_⟩, fun hp => ?_⟩
    · rw [Array.size_setIfInBounds]; exact hs
    · obtain ⟨g8, cur8, hA8, hg8, hh8, hs8⟩ := h.readers hp
      exact ⟨g8, cur8, hA8, hg8, (Below.heap_setCell W ⟨g, i * 2, none⟩ u g8 (blk_ne hh8 hh (by decide))).trans hh8, hs8⟩
theorem Mut.at8 {w W : World} {Y : Nat} {x : S39} {A1 A8 : Option Addr} {n1 c1 n8 c8 : Nat} (h : Mut w Y x A1 n1 c1 A8 n8 c8 W) {i : Nat} (hi : i < n8) : ∃ ad u0, A8 = some ad ∧ W.cell? (ad.add i) = some u0 ∧ W.frozen? (ad.add i) = false ∧ ∀ u, Mut w Y x A1 n1 c1 A8 n8 c8 (W.setCell (ad.add i) u) := by
  obtain ⟨g, cur, hA, hg, hh, hs⟩ := h.readers (by omega)
  refine ⟨⟨g, 0, none⟩, cur[i]'(by omega), hA, ?_, ?_, fun u => ?_⟩
  · rw [Addr.add_lit, Nat.zero_add, blk_cell hh]
    exact Array.getElem?_eq_getElem (show i < cur.size by omega)
  · rw [Addr.add_lit, Nat.zero_add]
    exact blk_frozen hh _
  · rw [Addr.add_lit, Nat.zero_add]
    refine ⟨setc_below h.below hg _ _, h.low, (Below.heap_setCell W ⟨g, i, none⟩ u Y (blk_ne h.blkY hh (by decide))).trans h.blkY, fun hp => ?_, fun hp => ⟨g, _, hA, hg, blk_put hh _ _ rfl, ?_⟩⟩
    · obtain ⟨g8, cur8, hA8, hg8, hh8, hs8⟩ := h.keys hp
      exact ⟨g8, cur8, hA8, hg8, (Below.heap_setCell W ⟨g, i, none⟩ u g8 (blk_ne hh8 hh (by decide))).trans hh8, hs8⟩
    · rw [Array.size_setIfInBounds]; exact hs
/-- Another table of the document's is left alone. -/
theorem RefT.beside {w0 W W' : World} {g' : Nat} {st : St} (h : RefT w0 g' st W) {S : Nat → Prop} (hc : Chg S W W') (hS : ∀ k, S k → k ≠ g' ∧ some k ≠ rowOf W g' ∧ ∃ cells q, W.heap[k]? = some (Obj.cells cells q (0, 0)) ∧ (q = 52 ∨ q = 39)) (hb : Below w0.heap.size w0 W') : RefT w0 g' st W' := by
  obtain ⟨A, c, h1, h2⟩ := h.row
  have hrow : rowOf W g' = (Value.slice A st.length c).ownBlock := by unfold rowOf; rw [R_cells h1]
  obtain ⟨h0, inner, ho, hr⟩ := h2
  refine ⟨⟨A, c, (hc.block g' (heap_lt h1) (fun hs => (hS _ hs).1 rfl)).trans h1, h0, inner, own_move ho (fun k hk => hc.block k (own_lt ho k hk) (fun hs => (hS k hs).2.1 (by rw [hrow, hk]))), hr.imp_ (fun _ _ hp => k39.M_mono (fun k hk => hk.1) (k39.M_move (fun k hk => hc.block k hk.2.2.1 (fun hs => ?_)) (k39.M_bound hp)))⟩, hb, h.hg⟩
  obtain ⟨_, _, _, q, hq, cells, hcell⟩ := hk
  obtain ⟨_, _, cells', q', hc', ho'⟩ := hS k hs
  rw [hcell] at hc'
  injection hc' with hc'
  injection hc' with _ e
  subst e
  rcases ho' with e | e
  · exact (types39 q hq).1 e
  · exact (types39 q hq).2 e
theorem TabG.aside {D M D2 M2 : Nat} {st st2 : St} {w w' : World} (h : TabG w D2 M2 st2) (ht : TabG w D M st) (hc : Chg (fun k => k = M) w w') (hne : M2 ≠ M) : TabG w' D2 M2 st2 := by
  obtain ⟨G1, h1, _⟩ := ht.ex
  obtain ⟨ma, clk, hMb, _⟩ := h1
  have hsane : Sane w w' := fun k cs t fz hk => hc.block k (heap_lt hk) (fun e => by rw [e, hMb] at hk; cases hk)
  obtain ⟨G, h2, h3⟩ := h.ex
  exact ⟨(hsane _ _ _ _ h.blk).trans h.blk, G, h2.move (hc.block M2 h2.lt hne), h3.sane hsane⟩
/-- Two tables and their clones. -/
structure Four (w : World) (D M g D2 M2 g2 : Nat) (st1 st old : St) (W : World) : Prop where
  half : Half w D M g st1 st W
  tab : TabG W D2 M2 old
  ne : M2 ≠ M
  was : RefT w g2 old W
  apart : ∀ k, (k = g ∨ some k = rowOf W g) → k ≠ g2 ∧ some k ≠ rowOf W g2
theorem rowOf_of {W W' : World} {g : Nat} {st : St} {w0 : World} (h : RefT w0 g st W) (hs : W'.heap[g]? = W.heap[g]?) : rowOf W' g = rowOf W g := by
  obtain ⟨A, c, h1, _⟩ := h.row
  unfold rowOf
  rw [R_cells h1, R_cells (hs.trans h1)]
theorem RefT.same {W W' : World} {g : Nat} {st : St} {w0 : World} (h : RefT w0 g st W) (hs : Sane W W') : W'.heap[g]? = W.heap[g]? := by
  obtain ⟨A, c, h1, _⟩ := h.row
  exact hs _ _ _ _ h1
theorem Four.then_ {w W W' : World} {D M g D2 M2 g2 : Nat} {st1 st old : St} (h : Four w D M g D2 M2 g2 st1 st old W) (hb : Below W.heap.size W W') : Four w D M g D2 M2 g2 st1 st old W' :=
  ⟨h.half.then_ hb, h.tab.below hb, h.ne, h.was.then_ hb, by rw [rowOf_of h.half.rf (h.half.rf.same (sane_below hb)), rowOf_of h.was (h.was.same (sane_below hb))]; exact h.apart⟩
theorem Four.do1 {w W : World} {D M g D2 M2 g2 : Nat} {st st' old : St} (h : Four w D M g D2 M2 g2 st st old W) {c : S27} {er : Int} (hr : doT st c = (er, st')) : Calls Try.prog 14 #[.pointer (some ⟨D, 0, none⟩), .agg (chg c).toArray] W fun e W' => e = .returned (.int .i64 er) ∧ Four w D M g D2 M2 g2 st' st old W' ∧ Sane W W' :=
  (do_calls h.half.lv.tab c).mono (fun e W' ⟨h1, h2, h3⟩ => by
    rw [hr] at h1 h2
    have hs : Sane W W' := fun k cs t fz hk => h3.block k (heap_lt hk) (fun e => by
      obtain ⟨G, h4, _⟩ := h.half.lv.tab.ex
      obtain ⟨ma, clk, h5, _⟩ := h4
      rw [e, h5] at hk
      cases hk)
    have hb : Below w.heap.size w W' := Chg.onto h.half.lv.below (Nat.le_refl _) h3 (fun k e => by rw [e]; exact h.half.lv.hM)
    exact ⟨h1, ⟨⟨⟨h2, hb, h.half.lv.hD, h.half.lv.hM⟩, h.half.rf.sane hs hb, h.half.few, h.half.fine, h.half.sorted, h.half.uk, h.half.ur⟩, h.tab.aside h.half.lv.tab h3 h.ne, h.ne, h.was.sane hs hb, by rw [rowOf_of h.half.rf (h.half.rf.same hs), rowOf_of h.was (h.was.same hs)]; exact h.apart⟩, hs⟩)
/-- What stands behind the document's Do. -/
structure Past (w : World) (D M g D2 M2 g2 : Nat) (st old : St) (W : World) : Prop where
  two : Two w D M g st W
  tab : TabG W D2 M2 old
  was : RefT w g2 old W
theorem Past.then_ {w W W' : World} {D M g D2 M2 g2 : Nat} {st old : St} (h : Past w D M g D2 M2 g2 st old W) (hb : Below W.heap.size W W') : Past w D M g D2 M2 g2 st old W' := ⟨h.two.then_ hb, h.tab.below hb, h.was.then_ hb⟩
theorem Four.do2 {w W : World} {D M g D2 M2 g2 : Nat} {st st' old : St} (h : Four w D M g D2 M2 g2 st' st old W) {c : S27} {er : Int} (hr : doT st c = (er, st')) : Calls Try.prog 24 #[.pointer (some ⟨g, 0, none⟩), .agg (chg c).toArray] W fun e W' => e = .returned (.int .i64 er) ∧ Past w D M g D2 M2 g2 st' old W' ∧ (∀ (k : Nat) (q : TypeId) (cells : Array Value), q ≠ 52 → q ≠ 39 → W.heap[k]? = some (Obj.cells cells q (0, 0)) → W'.heap[k]? = W.heap[k]?) :=
  (rdo_calls h.half.rf h.half.few h.half.fine h.half.sorted h.half.uk h.half.ur c).mono (fun e W' ⟨h1, h2, h3⟩ => by
    rw [hr] at h1 h2
    have hm := h.half.rf.mine
    have hk : ∀ (k : Nat) (q : TypeId) (cells : Array Value), q ≠ 52 → q ≠ 39 → W.heap[k]? = some (Obj.cells cells q (0, 0)) → W'.heap[k]? = W.heap[k]? := fun k q cells q1 q2 hc => h3.block k (heap_lt hc) (fun hk => by
      obtain ⟨cs, q', hc', ho⟩ := hm k hk
      rw [hc] at hc'
      injection hc' with hc'
      injection hc' with _ e
      subst e
      rcases ho with ho | ho
      · exact q1 ho
      · exact q2 ho)
    have hmap : ∀ (k : Nat) ma clk, W.heap[k]? = some (Obj.map ma clk) → W'.heap[k]? = W.heap[k]? := fun k ma clk hc => h3.block k (heap_lt hc) (fun hk => by
      obtain ⟨cs, q', hc', ho⟩ := hm k hk
      rw [hc] at hc'
      cases hc')
    have hoff : ∀ {D M : Nat} {st : St}, TabG W D M st → TabG W' D M st := fun ht => ht.off hmap (fun k q cells hq hc => hk k q cells (by rcases hq with rfl | rfl | rfl <;> decide) (by rcases hq with rfl | rfl | rfl <;> decide) hc)
    have ht := hoff h.half.lv.tab
    have hu := uniq_do (c := c) h.half.uk
    have hv := uniqR_do (c := c) h.half.ur
    rw [hr] at hu hv
    exact ⟨h1, ⟨⟨⟨ht, h2.below, h.half.lv.hD, h.half.lv.hM⟩, h2, ht.few16, ht.fine_, ht.sorted, hu, hv⟩, hoff h.tab, h.was.beside h3 (fun k hk => ⟨(h.apart k hk).1, (h.apart k hk).2, hm k hk⟩) h2.below⟩, hk⟩)
/-- The clones that were made. -/
theorem Four.made {w W W1 W2 : World} {D M g D2 M2 g2 : Nat} {st : St} (h : Two w D M g st W) (hl : LvW W D2 M2 st W1) (hb : Below W1.heap.size W1 W2) (hr : RefT w g2 st W2) (hg : W1.heap.size ≤ g2) (hrow : ∀ k, some k = rowOf W2 g2 → W1.heap.size ≤ k) : Four w D M g D2 M2 g2 st st st W2 := by
  have h1 := h.then_ hl.below
  have h2 := h1.then_ hb
  refine ⟨h2, hl.tab.below hb, fun e => ?_, hr, fun k hk => ?_⟩
  · obtain ⟨G, h4, _⟩ := h.lv.tab.ex
    have := h4.lt
    have := hl.hM
    omega
  · have hlt : k < W1.heap.size := by
      rw [rowOf_of h1.rf (h1.rf.same (sane_below hb))] at hk
      obtain ⟨cells, q, hc, _⟩ := h1.rf.mine k hk
      exact heap_lt hc
    exact ⟨fun e => by omega, fun e => by have := hrow k e; omega⟩
theorem Two.do1L {w W : World} {D M g : Nat} {st st' : St} (h : Two w D M g st W) {c : S27} {er : Int} (hr : doT st c = (er, st')) : Calls Try.prog 14 #[.pointer (some ⟨D, 0, none⟩), .agg #[.int .i64 c.f0, .string c.f1, .int .i64 c.f2.f0, .string c.f2.f1, .int .i64 c.f3.f0, .int .i64 c.f3.f1, .int .i64 c.f3.f2, .int .i64 c.f3.f3, .int .i64 c.f4, .int .i64 c.f5, .string c.f6]] W fun e W' => e = .returned (.int .i64 er) ∧ Half w D M g st' st W' ∧ Sane W W' := h.do1 hr
theorem Half.do2L {w W : World} {D M g : Nat} {st st' : St} (h : Half w D M g st' st W) {c : S27} {er : Int} (hr : doT st c = (er, st')) : Calls Try.prog 24 #[.pointer (some ⟨g, 0, none⟩), .agg #[.int .i64 c.f0, .string c.f1, .int .i64 c.f2.f0, .string c.f2.f1, .int .i64 c.f3.f0, .int .i64 c.f3.f1, .int .i64 c.f3.f2, .int .i64 c.f3.f3, .int .i64 c.f4, .int .i64 c.f5, .string c.f6]] W fun e W' => e = .returned (.int .i64 er) ∧ Two w D M g st' W' ∧ (∀ (k : Nat) (q : TypeId) (cells : Array Value), q ≠ 52 → q ≠ 39 → W.heap[k]? = some (Obj.cells cells q (0, 0)) → W'.heap[k]? = W.heap[k]?) := h.do2 hr
end Go.Proofs.Yticoaaddhhiglaa.T
