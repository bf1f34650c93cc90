import Derived.Test.YticoaaddhhiglaaT15
import Derived.Test.YticoaaddhhiglaaT16
/- The laws by hand: few; TenantRight (mkT17.py). -/
namespace Go.Proofs.Yticoaaddhhiglaa.T
open Go.RowKit Go.Proofs.Yticoaaddhhiglaa.Q Go.Proofs.YticoaaddhhiglaaW.PrintWords Go.Proofs.YticoaaddhhiglaaW.PrintLast Go.Proofs.YticoaaddhhiglaaW.PrintMore
set_option linter.unusedVariables false
set_option linter.unusedSimpArgs false
theorem few_l0 (l : List S27) (hl : l.length ≤ 9223372036854775807) : ∀ d i : Nat, i + d = l.length → ∃ r, manometerlaw18_few.l0 (2 * d + 1) l l (l.length : Int) (i : Int) = some r
  | 0, i, h => by
    rw [manometerlaw18_few.l0, if_neg (by omega)]
    exact ⟨_, rfl⟩
  | d + 1, i, h => by
    obtain ⟨r, hr⟩ := few_l0 l hl d (i + 1) (by omega)
    have hj : ∀ b : Bool, ∃ r, manometerlaw18_few.j1 (2 * d + 2) l l (l.length : Int) (i : Int) b = some r := by
      intro b
      rw [manometerlaw18_few.j1]
      cases b
      · rw [if_neg (by decide), show wrap64 ((i : Int) + 1) = ((i + 1 : Nat) : Int) by unfold wrap64; omega]
        exact ⟨r, hr⟩
      · rw [if_pos rfl]
        exact ⟨_, rfl⟩
    rw [show 2 * (d + 1) + 1 = (2 * d + 2) + 1 by omega, manometerlaw18_few.l0, if_pos (by omega), if_pos (by omega), if_pos (by omega)]
    split
    · exact hj _
    · split
      · exact hj _
      · exact hj _
theorem few_some (l : List S27) (hl : l.length ≤ 9223372036854775807) : ∃ k r, manometerlaw18_few.f k l = some r := by
  obtain ⟨r, hr⟩ := few_l0 l hl l.length 0 (by omega)
  exact ⟨_, r, hr⟩
/-- few: it answers, whatever the changes are. -/
theorem few_calls {A : Option Addr} {c : Nat} {l : List S27} (hl : l.length ≤ 9223372036854775807) : ∃ r, ∀ w : World, k27.C w A l.length l → l.length ≤ c → Calls Try.prog 10 #[.slice A l.length c] w fun e w' => e = .returned (.bool r) ∧ Below w.heap.size w w' := by
  obtain ⟨k, r, hr⟩ := few_some l hl
  exact ⟨r, fun w hC hc => manometerlaw18_few.calls k A c l r w hC hc hr⟩
theorem C_one27 {w : World} {b : Nat} {c : S27} (h : w.heap[b]? = some (.cells (chg c).toArray 27 (0, 0))) : k27.C w (some ⟨b, 0, none⟩) 1 [c] := by
  refine ⟨rfl, by decide, fun _ => ⟨_, rfl, fun j p hj => ?_⟩⟩
  rcases j with _ | j
  · injection hj with hj
    subst hj
    refine ⟨chg c, rfl, k27_mk w c, fun i u hu => ?_⟩
    have e : (⟨b, 0, none⟩ : Addr).add (0 * k27.sz + i) = ⟨b, i, none⟩ := by rw [Addr.add_lit, Nat.zero_mul, Nat.zero_add, Nat.zero_add]
    rw [e, blk_cell h i]
    simpa using hu
  · cases hj
theorem few1_calls (c : S27) : ∃ r, ∀ w : World, Calls Try.prog 10 #[.slice (some ⟨w.heap.size, 0, none⟩) 1 1] (w.alloc (.cells #[.int .i64 c.f0, .string c.f1, .int .i64 c.f2.f0, .string c.f2.f1, .int .i64 c.f3.f0, .int .i64 c.f3.f1, .int .i64 c.f3.f2, .int .i64 c.f3.f3, .int .i64 c.f4, .int .i64 c.f5, .string c.f6] 27)) fun e w' => e = .returned (.bool r) ∧ Below w.heap.size w w' := by
  obtain ⟨k, r, hr⟩ := few_some [c] (by simp)
  exact ⟨r, fun w => (manometerlaw18_few.calls k _ 1 [c] r _ (C_one27 (heap_alloc_new w (.cells (chg c).toArray 27))) (Nat.le_refl 1) hr).mono (fun e w' h => ⟨h.1, below_step (below_alloc (Below.refl _ _) _) h.2⟩)⟩
theorem refright_calls (c : S27) (w : World) : Calls Try.prog 12 #[.agg (chg c).toArray] w fun e w' => e = .returned (.int .i64 (rightE c)) ∧ Below w.heap.size w w' := manometerref18_Right.calls 40 _ _ _ _ _ _ _ _ _ _ _ (rightE c) w (refright_f c)
def lright.T3 : Bool × List (List Nat × List Nat) := (true, [([], []), ([0], [0]), ([], []), ([2, 1], [2]), ([1, 3], [1, 3]), ([4, 3, 0, 1, 2, 3, 4], [4])])
def lright.B3 : List Nat := [0, 1, 0, 7, 15, 31]
theorem lright.tab3 : rtab .any (opsOf Try.f3 3) = lright.T3 := by kernel_rfl
theorem lright.bits3 : waitsOk lright.T3.2 lright.B3 = true := by kernel_rfl
set_option maxHeartbeats 4000000 in
set_option maxRecDepth 100000 in
theorem right_law (c : S27) (w : World) : Calls Try.prog 3 #[.agg #[.int .i64 c.f0, .string c.f1, .int .i64 c.f2.f0, .string c.f2.f1, .int .i64 c.f3.f0, .int .i64 c.f3.f1, .int .i64 c.f3.f2, .int .i64 c.f3.f3, .int .i64 c.f4, .int .i64 c.f5, .string c.f6]] w fun e w' => e = .returned (.bool true) ∧ Below w.heap.size w w' := by
  obtain ⟨r, hr⟩ := few1_calls c
  have HR := Aside0.mk hr
  clear hr
  cases r
  · go_enter Try.func3, Try.ntmps3
    go_wp2_with (first
      | ((with_reducible refine gate_dst (N := 1) rfl ?_); refine box_event ?hg (N := 1) ?hd (cs := (chg c).toArray) (t := 27) ?hr ?_; (case hd => rfl); (case hg => rfl); (case hr => first | (go_simp; done) | (go_simp; rfl)); intro X hX w1 hx1 hb1; have H1 := Aside0.mk (And.intro hb1 hx1); clear hX hx1 hb1)
      | (go_at_call 9; have hmark := H3.out; (with_reducible refine (live_calls _).mono ?_); rintro e w4 ⟨rfl, hb⟩; have H4 := Aside0.mk (below_step H3.out hb); clear hb hmark)
      | (go_at_call 9; (with_reducible refine (live_calls _).mono ?_); rintro e w2 ⟨rfl, hb⟩; have H2 := Aside0.mk (And.intro (below_step H1.out.1 hb) ((hb.block X (heap_lt H1.out.2)).trans H1.out.2)); obtain ⟨x0, x1, x2, x3, x4, x5, x6, x7, x8, x9, x10⟩ := cellsX H2.out.2; clear hb)
      | (go_at_call 10; (with_reducible refine (HR.out _).mono ?_); rintro e w3 ⟨rfl, hb⟩; have H3 := Aside0.mk (below_step H2.out.1 hb); clear hb x0 x1 x2 x3 x4 x5 x6 x7 x8 x9 x10))
    go_ret
    exact ⟨rfl, H4.out⟩
  · go_enter Try.func3, Try.ntmps3
    go_wp2_with (first
      | ((with_reducible refine gate_dst (N := 1) rfl ?_); refine box_event ?hg (N := 1) ?hd (cs := (chg c).toArray) (t := 27) ?hr ?_; (case hd => rfl); (case hg => rfl); (case hr => first | (go_simp; done) | (go_simp; rfl)); intro X hX w1 hx1 hb1; have H1 := Aside0.mk (And.intro hb1 hx1); clear hX hx1 hb1)
      | (go_at_call 9; (with_reducible refine (live_calls _).mono ?_); rintro e w2 ⟨rfl, hb⟩; have H2 := Aside0.mk (And.intro (below_step H1.out.1 hb) ((hb.block X (heap_lt H1.out.2)).trans H1.out.2)); obtain ⟨x0, x1, x2, x3, x4, x5, x6, x7, x8, x9, x10⟩ := cellsX H2.out.2; clear hb)
      | (go_at_call 10; (with_reducible refine (HR.out _).mono ?_); rintro e w3 ⟨rfl, hb⟩; have H3 := Aside0.mk (And.intro (below_step H2.out.1 hb) ((hb.block X (heap_lt H2.out.2)).trans H2.out.2)); clear hb x0 x1 x2 x3 x4 x5 x6 x7 x8 x9 x10; obtain ⟨x0, x1, x2, x3, x4, x5, x6, x7, x8, x9, x10⟩ := cellsX H3.out.2))
    refine start_ (n := 6) (S := fun w' => w'.cell? ⟨X, 0, none⟩ = some (.int .i64 c.f0) ∧ w'.cell? ⟨X, 1, none⟩ = some (.string c.f1) ∧ w'.cell? ⟨X, 2, none⟩ = some (.int .i64 c.f2.f0) ∧ w'.cell? ⟨X, 3, none⟩ = some (.string c.f2.f1) ∧ w'.cell? ⟨X, 4, none⟩ = some (.int .i64 c.f3.f0) ∧ w'.cell? ⟨X, 5, none⟩ = some (.int .i64 c.f3.f1) ∧ w'.cell? ⟨X, 6, none⟩ = some (.int .i64 c.f3.f2) ∧ w'.cell? ⟨X, 7, none⟩ = some (.int .i64 c.f3.f3) ∧ w'.cell? ⟨X, 8, none⟩ = some (.int .i64 c.f4) ∧ w'.cell? ⟨X, 9, none⟩ = some (.int .i64 c.f5) ∧ w'.cell? ⟨X, 10, none⟩ = some (.string c.f6)) (ds := []) #[false, false, false, false, false, false] (by kernel_rfl) rfl rfl (cellsX (show w3.drew.heap[X]? = _ from H3.out.2)) (fun hHeld => ?_); refine with_tabW lright.tab3 lright.bits3 (fun HT_ HW_ => ?_)
    refine take_ (i := 0) (N := some 12) (v := ?_) (a' := ?_) #[true, false, false, false, false, false] rfl rfl (take_ofW HT_.out HW_.out (by kernel_rfl)) (fun _ _ _ h => h) (Or.inl ⟨by rfl, ?_⟩) hHeld ?_ ?_
    rotate_left
    · rintro w' ⟨s0, s1, s2, s3, s4, s5, s6, s7, s8, s9, s10⟩
      go_simp
      with_reducible rfl
    rotate_left
    · simp only [Act.put, List.setIfInBounds_toArray, List.set_cons_zero, List.set_cons_succ, i64_w, i32_w, xu32_w, xu8_w]
      rfl
    refine take_ (i := 2) (N := some 14) (v := ?_) (a' := ?_) #[true, false, true, false, false, false] rfl rfl (take_ofW HT_.out HW_.out (by kernel_rfl)) (fun _ _ _ h => h) (Or.inl ⟨by rfl, ?_⟩) hHeld ?_ ?_
    rotate_left
    · rintro w' ⟨s0, s1, s2, s3, s4, s5, s6, s7, s8, s9, s10⟩
      go_simp
      with_reducible rfl
    rotate_left
    · simp only [Act.put, List.setIfInBounds_toArray, List.set_cons_zero, List.set_cons_succ, i64_w, i32_w, xu32_w, xu8_w]
      rfl
    refine one_ (i := 1) (N := some 13) #[true, true, true, false, false, false] rfl rfl (one_of HT_.out (by kernel_rfl)) (by decide) (fun K hK => ?_)
    refine goes_ Try.func11 (by kernel_rfl) rfl #[.agg (chg c).toArray] (by rfl) rfl rfl (by (try simp only [List.map_toArray, List.map_cons, List.map_nil]); first | done | rfl) ?_
    with_reducible refine (right_calls c _).mono ?_
    rintro e w4 ⟨rfl, hb⟩
    refine ⟨_, rfl, ?_⟩
    have H4 := Aside0.mk (And.intro (below_step H3.out.1 (below_step (below_drew (Below.refl _ _)) hb)) (((below_step (below_drew (Below.refl _ _)) hb).block X (heap_lt H3.out.2)).trans H3.out.2))
    clear hb
    refine hK.out _ _ (cellsX H4.out.2) (fun hHeld => ?_)
    clear hK K
    refine norm_ (a' := ?_) ?_ ?_
    rotate_left
    · show Act.put _ (some 13) _ = _
      simp only [Act.put, List.setIfInBounds_toArray, List.set_cons_zero, List.set_cons_succ, i64_w, i32_w, xu32_w, xu8_w]
      rfl
    refine one_ (i := 3) (N := some 15) #[true, true, true, true, false, false] rfl rfl (one_of HT_.out (by kernel_rfl)) (by decide) (fun K hK => ?_)
    refine goes_ Try.func12 (by kernel_rfl) rfl #[.agg (chg c).toArray] (by rfl) rfl rfl (by (try simp only [List.map_toArray, List.map_cons, List.map_nil]); first | done | rfl) ?_
    with_reducible refine (refright_calls c _).mono ?_
    rintro e w5 ⟨rfl, hb⟩
    refine ⟨_, rfl, ?_⟩
    have H5 := Aside0.mk (And.intro (below_step H4.out.1 (hb)) (((hb).block X (heap_lt H4.out.2)).trans H4.out.2))
    clear hb
    refine hK.out _ _ (cellsX H5.out.2) (fun hHeld => ?_)
    clear hK K
    refine norm_ (a' := ?_) ?_ ?_
    rotate_left
    · show Act.put _ (some 15) _ = _
      simp only [Act.put, List.setIfInBounds_toArray, List.set_cons_zero, List.set_cons_succ, i64_w, i32_w, xu32_w, xu8_w]
      rfl
    refine pure_ (i := 4) (N := some 16) (v := ?_) (a' := ?_) #[true, true, true, true, true, false] rfl rfl (any_of HT_.out (by kernel_rfl)) (fun _ _ _ h => h) (Or.inl ⟨by rfl, ?_⟩) ?_ ?_
    rotate_left
    · intro w'
      go_simp
      with_reducible rfl
    rotate_left
    · simp only [Act.put, List.setIfInBounds_toArray, List.set_cons_zero, List.set_cons_succ, i64_w, i32_w, xu32_w, xu8_w]
      rfl
    refine pure_ (i := 5) (N := some 2) (v := ?_) (a' := ?_) #[true, true, true, true, true, true] rfl rfl (any_of HT_.out (by kernel_rfl)) (fun _ _ _ h => h) (Or.inl ⟨by rfl, ?_⟩) ?_ ?_
    rotate_left
    · intro w'
      go_simp
      with_reducible rfl
    rotate_left
    · simp only [Act.put, List.setIfInBounds_toArray, List.set_cons_zero, List.set_cons_succ, i64_w, i32_w, xu32_w, xu8_w]
      rfl
    refine done_ (done_of HT_.out (by kernel_rfl)) ?_
    clear hHeld HT_ HW_
    go_wp2_with (fail)
    go_ret
    exact ⟨rfl, H5.out.1⟩
end Go.Proofs.Yticoaaddhhiglaa.T
