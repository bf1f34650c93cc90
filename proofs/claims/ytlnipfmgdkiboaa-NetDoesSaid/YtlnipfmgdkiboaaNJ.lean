import Derived.Test.YtlnipfmgdkiboaaNI
/- The document's network by hand: Take, Drop, Double. -/
namespace Go.Proofs.Ytlnipfmgdkiboaa.N
open Go.RowKit Go.Proofs.Ytlnipfmgdkiboaa.Q Go.Proofs.YtlnipfmgdkiboaaW.PrintWords Go.Proofs.YtlnipfmgdkiboaaW.PrintLast Go.Proofs.YtlnipfmgdkiboaaW.PrintMore
set_option linter.unusedVariables false
set_option linter.unusedSimpArgs false
def rtake.T5 : Bool × List (List Nat × List Nat) := (true, [([], []), ([], []), ([], []), ([], []), ([], []), ([3, 4], [3, 4]), ([2, 5], [2, 5]), ([], []), ([], []), ([8], [8]), ([7, 9], [7, 9]), ([6, 10, 6], [6, 10]), ([0, 1, 11, 11], [0, 1, 11])])
def rtake.B5 : List Nat := [0, 0, 0, 0, 0, 24, 60, 0, 0, 256, 896, 2044, 4095]
theorem rtake.tab5 : rtab .any (opsOf Try.f36 5) = rtake.T5 := by kernel_rfl
theorem rtake.bits5 : waitsOk rtake.T5.2 rtake.B5 = true := by kernel_rfl
def rdouble.T6 : Bool × List (List Nat × List Nat) := (true, [([], []), ([], []), ([], []), ([], []), ([2, 3], [2, 3]), ([], []), ([], []), ([5, 6], [5, 6]), ([7], [7]), ([8], [8]), ([4, 9, 4], [4, 9]), ([0, 1, 10, 10], [0, 1, 10])])
def rdouble.B6 : List Nat := [0, 0, 0, 0, 12, 0, 0, 96, 224, 480, 1020, 2047]
theorem rdouble.tab6 : rtab .any (opsOf Try.f38 6) = rdouble.T6 := by kernel_rfl
theorem rdouble.bits6 : waitsOk rdouble.T6.2 rdouble.B6 = true := by kernel_rfl
theorem lit_nil {ok : Nat → Prop} (W : World) (base : Nat) (hb : base ≤ W.heap.size) (hok : ok W.heap.size) : Kd.N k34 34 (W.alloc (.cells #[] 34)) base ok (.slice (some ⟨W.heap.size, 0, none⟩) 0 0) [] := by
  refine Kd.R_N ⟨fun k hk => ?_, [], ?_, Reps.none _ _⟩
  · have : W.heap.size = k := by simpa [Value.ownBlock] using hk
    subst this
    exact hok
  · exact World.ownsRow_lit (base := base) (e := 34) (size := 2) W #[] 0 hb (by simp [maxLen]) rfl
section
variable {w : World} {B g : Nat} {room : Int} {ok : Nat → Prop} {v : Value} {st : St}
/-- What is old stays when a new row grows. -/
theorem grown_old {w1 w2 : World} {row : Option Nat} (hb : Below w.heap.size w w1) (hg : w1.grownBy w2 row) (hr : ∀ k, some k = row → w.heap.size ≤ k) : ∀ k, k < w.heap.size → w2.heap[k]? = w1.heap[k]? :=
  fun k hk => hg.block k (Nat.lt_of_lt_of_le hk hb.size) (fun e => by have := hr k e; omega)
/-- .. and what was made between. -/
theorem of_chg {X : Nat} {o : Obj} {w1 w2 : World} (hc : Chg (fun k => k = g) w1 w2) (hx : w1.heap[X]? = some o) (hne : X ≠ g) : w2.heap[X]? = some o := (hc.block X (heap_lt hx) hne).trans hx
set_option maxHeartbeats 2000000 in
set_option maxRecDepth 100000 in
theorem rtake_out (h : RefG w B g room ok v st) (hf : st.length ≤ 1000) (s : ByteArray) (i : Int) (hi : ¬(0 ≤ i ∧ i < ((ofSt st s).length : Int))) :
    Calls Try.prog 36 #[.pointer (some ⟨g, 0, none⟩), .string s, .int .i64 i] w fun e w' => e = .returned (.tuple #[.agg #[.int .i64 0, .slice none 0 0], .int .i64 4]) ∧ Below w.heap.size w w' := by
  have HG := Aside0.mk h
  have HSM := Aside0.mk hf
  obtain ⟨m0, hm0⟩ : ∃ m : Nat, m = (ofSt st s).length := ⟨_, rfl⟩
  have HM0 := Aside0.mk hm0
  rw [← hm0] at hi
  clear h hf hm0
  by_cases h0 : i < 0
  · have hd : decide (i < 0) = true := by simpa using h0
    clear h0 hi
    go_enter Try.func36, Try.ntmps36
    go_wp2_with (first
      | ((with_reducible refine gate_dst (N := 6) rfl ?_); refine box_event ?hg (N := 6) ?hd (cs := (leL 0 none 0 0).toArray) (t := 34) ?hr ?_; (case hd => rfl); (case hg => rfl); (case hr => first | (go_simp; done) | (go_simp; rfl)); intro b6 hX w6 hx6 hb6; have H6 := Aside0.mk hx6; have HB6 := Aside0.mk hb6; have HL6 := Aside0.mk (show w.heap.size ≤ b6 by omega); clear hX hx6 hb6)
      | (go_at_call 39; (with_reducible refine (rof_calls (HG.out.move (ok' := fun k => ok k ∧ k < w.heap.size) (fun k _ hk => HB6.out.block k hk) (fun k hk hlt => ⟨hk, hlt⟩)) HSM.out s HM0.out).mono ?_); rintro e w7 ⟨Ao, co, rfl, hco, hF, hb⟩; have HFO := Aside0.mk hF; have HCO := Aside0.mk hco; have HB7 := Aside0.mk (HB6.out.trans (hb.mono HB6.out.size)); have HB67 := Aside0.mk hb; clear hF hb; clear hco; have H7 := Aside0.mk (blk_below H6.out HB67.out))
      | ((with_reducible refine gate_ (.store 34 (.tmp 6) (.tmp 21)) rfl ?_); refine store_blk rfl 34 (.tmp 6) (.tmp 21) rfl b6 (leL 0 none 0 0) (leL 0 none 0 0) rfl rfl H7.out rfl size34 (leL_one _ _ _ _) ?_; intro w8 ha hka hba; have H8 := Aside0.mk ha; have HB8 := Aside0.mk (hba w HL6.out HB7.out); clear ha hka hba))
    refine bodyPost_ret (results_ct rfl _ _ b6 34 _ (0, 0) _ rfl H8.out Try.underlying34 rfl (by kernel_rfl)) rfl ?_
    exact ⟨rfl, HB8.out⟩
  · have hd : decide (i < 0) = false := by simpa using h0
    have hd2 : decide ((m0 : Int) ≤ i) = true := by have : (m0 : Int) ≤ i := by omega
                                                    simpa using this
    clear h0 hi
    go_enter Try.func36, Try.ntmps36
    go_wp2_with (first
      | ((with_reducible refine gate_dst (N := 6) rfl ?_); refine box_event ?hg (N := 6) ?hd (cs := (leL 0 none 0 0).toArray) (t := 34) ?hr ?_; (case hd => rfl); (case hg => rfl); (case hr => first | (go_simp; done) | (go_simp; rfl)); intro b6 hX w6 hx6 hb6; have H6 := Aside0.mk hx6; have HB6 := Aside0.mk hb6; have HL6 := Aside0.mk (show w.heap.size ≤ b6 by omega); clear hX hx6 hb6)
      | (go_at_call 39; (with_reducible refine (rof_calls (HG.out.move (ok' := fun k => ok k ∧ k < w.heap.size) (fun k _ hk => HB6.out.block k hk) (fun k hk hlt => ⟨hk, hlt⟩)) HSM.out s HM0.out).mono ?_); rintro e w7 ⟨Ao, co, rfl, hco, hF, hb⟩; have HFO := Aside0.mk hF; have HCO := Aside0.mk hco; have HB7 := Aside0.mk (HB6.out.trans (hb.mono HB6.out.size)); have HB67 := Aside0.mk hb; clear hF hb; clear hco; have H7 := Aside0.mk (blk_below H6.out HB67.out))
      | ((with_reducible refine gate_ (.store 34 (.tmp 6) (.tmp 21)) rfl ?_); refine store_blk rfl 34 (.tmp 6) (.tmp 21) rfl b6 (leL 0 none 0 0) (leL 0 none 0 0) rfl rfl H7.out rfl size34 (leL_one _ _ _ _) ?_; intro w8 ha hka hba; have H8 := Aside0.mk ha; have HB8 := Aside0.mk (hba w HL6.out HB7.out); clear ha hka hba))
    refine bodyPost_ret (results_ct rfl _ _ b6 34 _ (0, 0) _ rfl H8.out Try.underlying34 rfl (by kernel_rfl)) rfl ?_
    exact ⟨rfl, HB8.out⟩
end
theorem F_drop {w : World} {ok : Nat → Prop} {A : Option Addr} {n c j : Nat} {xs : List S34} (h : Kd.F k34 w ok A n xs) (hj : j < n) (hc : n ≤ c) : Kd.F k34 w ok (if c = j + 1 then A else A.map (·.add ((j + 1) * 2))) (n - (j + 1)) (xs.drop (j + 1)) := by
  have hn := Kd.F_len h
  subst hn
  have h2 := Kd.F_cut (m := j + 1) h hj hc
  rw [List.length_drop] at h2
  exact h2
theorem F_old {w1 w2 : World} {n m : Nat} {A : Option Addr} {xs : List S34} {ok : Nat → Prop} {g : Nat} (h : Kd.F k34 w1 (fun k => (ok k ∧ k < n) ∧ k ≠ g) A m xs) (ho : ∀ k, k < n → w2.heap[k]? = w1.heap[k]?) : Kd.F k34 w2 (fun k => (ok k ∧ k < n) ∧ k ≠ g) A m xs := Kd.F_step h (fun k hk _ => ho k hk.1.2)
/-- The letter at a place: its cells, and its bytes. -/
theorem letter_at {w : World} {ok : Nat → Prop} {A : Option Addr} {n : Nat} {xs : List S34} (h : Kd.F k34 w ok A n xs) {j : Nat} (hj : j < n) {x : S34} (hx : xs.getD j z34 = x) {nx : Nat} (hnx : nx = x.f1.length) : ∃ ad A1 c1, A = some ad ∧ w.cell? (ad.add (j * 2)) = some (.int .i64 x.f0) ∧ w.cell? ⟨(ad.add (j * 2)).block, (ad.add (j * 2)).off + 1, none⟩ = some (.slice A1 nx c1) ∧ nx ≤ c1 ∧ Kd.F (Kd.int .u8) w ok A1 nx x.f1 := by
  subst hnx
  obtain ⟨ad, c2, rfl, hcl, hFK, hcell, _⟩ := Kd.F_get h z34 (j : Int) (by omega) (by omega)
  rw [Int.toNat_natCast, hx] at hFK
  rw [Int.toNat_natCast] at hcell
  obtain ⟨A1, c1, rfl, hl, hF⟩ := k34_openF hFK
  have hc : ∀ i u, [Value.int .i64 x.f0, .slice A1 x.f1.length c1][i]? = some u → w.cell? (ad.add (j * 2 + i)) = some u := hcell
  exact ⟨ad, A1, c1, rfl, hc 0 _ rfl, by rw [← add_field _ _ 1 (by omega)]; exact hc 1 _ rfl, hl, hF⟩
theorem chg_box {g b6 : Nat} {w w1 w2 : World} {o o2 : Obj} (hc : Chg (fun k => k = g) w w1) (hk : ∀ k, k ≠ b6 → w2.heap[k]? = w1.heap[k]?) (hba : ∀ W : World, W.heap.size ≤ b6 → Below W.heap.size W w1 → Below W.heap.size W w2) (hl : w.heap.size ≤ b6) (hx : w1.heap[b6]? = some o) (hx2 : w2.heap[b6]? = some o2) : Chg (fun k => k = g) w w2 := by
  have h2 := hba { w1 with heap := #[] } (Nat.zero_le _) ⟨rfl, rfl, rfl, Nat.zero_le _, fun k hk => absurd hk (Nat.not_lt_zero k)⟩
  have hs : w1.heap.size ≤ w2.heap.size := by
    refine Nat.le_of_not_lt (fun hlt => ?_)
    by_cases e : w2.heap.size = b6
    · have := heap_lt hx2; omega
    · have h3 := hk _ e
      rw [Array.getElem?_eq_none (Nat.le_refl _), Array.getElem?_eq_getElem hlt] at h3
      cases h3
  exact ⟨h2.os.trans hc.os, h2.tape.trans hc.tape, h2.output.trans hc.output, Nat.le_trans hc.size hs, fun k hlt hn => (hk k (by omega)).trans (hc.block k hlt hn), fun k cells hk5 => (hk k (by have := heap_lt hk5; omega)).trans (hc.five k cells hk5)⟩
theorem RefG.keep6 {w1 w2 : World} {b6 B g : Nat} {room : Int} {ok : Nat → Prop} {v : Value} {st : St} {n : Nat} {cs : Array Value} (h : RefG w1 B g room (fun k => ok k ∧ k ≠ b6) v st) (hk : ∀ k, k ≠ b6 → w2.heap[k]? = w1.heap[k]?) : RefG w2 B g room ok v st :=
  h.move (fun k hk2 _ => hk k hk2.2) (fun k hk2 _ => hk2.1)
section
variable {w : World} {B g : Nat} {room : Int} {ok : Nat → Prop} {v : Value} {st : St}
set_option maxHeartbeats 4000000 in
set_option maxRecDepth 100000 in
theorem rtake_in (h : RefG w B g room ok v st) (hfr : ∀ k, w.heap.size ≤ k → ok k) (hs : Sorted st) (hf : st.length ≤ 1000) (s : ByteArray) (hfew : (ofSt st s).length ≤ 256) (j : Nat) (hj : j < (ofSt st s).length) {x : S34} (hx : (ofSt st s).getD j z34 = x) {nx : Nat} (hnx : nx = x.f1.length) :
    Calls Try.prog 36 #[.pointer (some ⟨g, 0, none⟩), .string s, .int .i64 j] w fun e w' => ∃ A1 c1, e = .returned (.tuple #[.agg #[.int .i64 x.f0, .slice A1 nx c1], .int .i64 0]) ∧ nx ≤ c1 ∧ Kd.F (Kd.int .u8) w' (fun k => ok k ∧ k ≠ g) A1 nx x.f1 ∧ ∃ v', RefG w' B g room ok v' (setS st s ((ofSt st s).take j ++ (ofSt st s).drop (j + 1))) ∧ Chg (fun k => k = g) w w' := by
  obtain ⟨i34, hi34, hzz⟩ := Option.map_eq_some_iff.1 info34
  simp only [Prod.mk.injEq] at hzz
  obtain ⟨hz0, hz1, hz2⟩ := hzz
  have H34 := Aside0.mk hi34
  have HZ1 := Aside0.mk hz1
  clear hi34 hz0 hz1 hz2
  have HG := Aside0.mk h
  have HSM := Aside0.mk hf
  obtain ⟨m0, hm0⟩ : ∃ m : Nat, m = (ofSt st s).length := ⟨_, rfl⟩
  have HM0 := Aside0.mk hm0
  have HST := Aside0.mk hs
  have HOKF := Aside0.mk hfr
  have HFR := Aside0.mk (show ∀ k, w.heap.size ≤ k → ok k ∧ k ≠ g from fun k hk => ⟨hfr k hk, fun e => by have := heap_lt h.cells; omega⟩)
  have HGL := Aside0.mk (heap_lt h.cells)
  have HX := Aside0.mk hx
  have HNX := Aside0.mk hnx
  have HJ := Aside0.mk (show j < m0 ∧ m0 ≤ 256 by omega)
  have hd : decide ((j : Int) < 0) = false := by simp
  have hd2 : ¬ m0 ≤ j := by omega
  clear h hf hm0 hs hfr hx hnx hfew hj
  go_enter Try.func36, Try.ntmps36
  go_wp2_with (first
    | ((with_reducible refine gate_dst (N := 6) rfl ?_); refine box_event ?hg (N := 6) ?hd (cs := (leL 0 none 0 0).toArray) (t := 34) ?hr ?_; (case hd => rfl); (case hg => rfl); (case hr => first | (go_simp; done) | (go_simp; rfl)); intro b6 hX w6 hx6 hb6; have H6 := Aside0.mk hx6; have HB6 := Aside0.mk hb6; have HL6 := Aside0.mk (show w.heap.size ≤ b6 by omega); clear hX hx6 hb6)
    | (go_at_call 39; (with_reducible refine (rof_calls (HG.out.move (ok' := fun k => ok k ∧ k < w.heap.size) (fun k _ hk => HB6.out.block k hk) (fun k hk hlt => ⟨hk, hlt⟩)) HSM.out s HM0.out).mono ?_); rintro e w7 ⟨Ao, co, rfl, hco, hF, hb⟩; have HFO := Aside0.mk hF; have HCO := Aside0.mk hco; have HB7 := Aside0.mk (HB6.out.trans (hb.mono HB6.out.size)); have HB67 := Aside0.mk hb; clear hF hb; have H7 := Aside0.mk (blk_below H6.out HB67.out); obtain ⟨ad, A1, c1, hA, x0, x1, hc1, hd1⟩ := letter_at HFO.out HJ.out.1 HX.out HNX.out; subst hA; have HD1 := Aside0.mk (And.intro hc1 hd1); have hj0 : (0 : Int) ≤ (j : Int) := (by omega); have hj1 : (j : Int) < (m0 : Int) := (by have := HJ.out; omega); clear hc1 hd1 hco)
    | ((with_reducible refine gate_dst (N := 9) rfl ?_); refine box_event ?hg (N := 9) ?hd (cs := (leL 0 none 0 0).toArray) (t := 34) ?hr ?_; (case hd => rfl); (case hg => rfl); (case hr => first | (go_simp; done) | (go_simp; rfl)); intro b9 hX w8 hx8 hb8; have H8 := Aside0.mk hx8; have HB8 := Aside0.mk hb8; have HL9 := Aside0.mk (show w7.heap.size ≤ b9 by omega); clear hX hx8 hb8)
    | ((with_reducible refine gate_ (.store 34 (.tmp 9) (.tmp 25)) rfl ?_); refine store_blk rfl 34 (.tmp 9) (.tmp 25) rfl b9 (leL 0 none 0 0) (leL x.f0 A1 nx c1) rfl rfl H8.out rfl size34 (leL_one _ _ _ _) ?_; intro w9 ha hka hba; have H9 := Aside0.mk ha; have HB79 := Aside0.mk (hba w7 HL9.out HB8.out); clear ha hka hba x0 x1))
  generalize hQo : ofSt st s = Qo at *
  have HQO := Aside0.mk hQo
  clear hQo
  have HBW0 := Aside0.mk (below_drew1 (HB7.out.trans (HB79.out.mono HB7.out.size)))
  have H70 := Aside0.mk (below_drew1 HB79.out)
  have hcut1 := cut_to (P := Try.prog) 29 34 .i64 Try.underlying29 H34.out (some ad) m0 co (j : Int) (by omega) (by omega) HCO.out
  have hcut2 := cut_from (P := Try.prog) 29 34 .i64 Try.underlying29 H34.out 2 HZ1.out (some ad) m0 co ((j : Int) + 1) (by omega) (by omega)
  have hwr : wrap64 ((j : Int) + 1) = (j : Int) + 1 := wrap64_self (by omega) (by have h1 := HJ.out; omega)
  have ht1 : ((j : Int) + 1).toNat = j + 1 := by omega
  rw [Int.toNat_natCast] at hcut1
  rw [ht1] at hcut2
  have HTK := Aside0.mk (F_take HFO.out (Nat.le_of_lt HJ.out.1))
  have HDR := Aside0.mk (F_drop HFO.out HJ.out.1 HCO.out)
  generalize hA2 : (if co = j + 1 then (some ad) else (some ad).map (·.add ((j + 1) * 2))) = A2 at *
  clear hA2 ht1
  refine start_ (n := 13) (S := fun w' => True) (ds := []) #[false, false, false, false, false, false, false, false, false, false, false, false, false] (by kernel_rfl) rfl rfl trivial (fun hHeld => ?_); refine with_tabW rtake.tab5 rtake.bits5 (fun HT_ HW_ => ?_)
  have H90 := Aside0.mk (blk_drew H9.out)
  have H60 := Aside0.mk (blk_drew (blk_below H7.out HB79.out))
  generalize w9.drew = W0 at *
  refine pure_ (i := 0) (N := some 26) (v := ?_) (a' := ?_) #[true, false, false, false, false, false, false, false, false, false, false, false, false] rfl rfl (any_of HT_.out (by kernel_rfl)) (fun _ _ _ h => h) (Or.inl ⟨by rfl, ?_⟩) ?_ ?_
  rotate_left
  · intro w'
    go_simp
    with_reducible rfl
  rotate_left
  · simp only [Act.put, List.setIfInBounds_toArray, List.set_cons_zero, List.set_cons_succ, i64_w, i32_w, xu32_w, xu8_w]
    rfl
  refine pure_ (i := 1) (N := some 27) (v := ?_) (a' := ?_) #[true, true, false, false, false, false, false, false, false, false, false, false, false] rfl rfl (any_of HT_.out (by kernel_rfl)) (fun _ _ _ h => h) (Or.inl ⟨by rfl, ?_⟩) ?_ ?_
  rotate_left
  · intro w'
    go_simp
    with_reducible rfl
  rotate_left
  · simp only [Act.put, List.setIfInBounds_toArray, List.set_cons_zero, List.set_cons_succ, i64_w, i32_w, xu32_w, xu8_w]
    rfl
  refine pure_ (i := 3) (N := some 29) (v := ?_) (a' := ?_) #[true, true, false, true, false, false, false, false, false, false, false, false, false] rfl rfl (any_of HT_.out (by kernel_rfl)) (fun _ _ _ h => h) (Or.inl ⟨by rfl, ?_⟩) ?_ ?_
  rotate_left
  · intro w'
    go_simp
    with_reducible rfl
  rotate_left
  · simp only [Act.put, List.setIfInBounds_toArray, List.set_cons_zero, List.set_cons_succ, i64_w, i32_w, xu32_w, xu8_w]
    rfl
  refine pure_ (i := 4) (N := some 30) (v := ?_) (a' := ?_) #[true, true, false, true, true, false, false, false, false, false, false, false, false] rfl rfl (any_of HT_.out (by kernel_rfl)) (fun _ _ _ h => h) (Or.inl ⟨by rfl, ?_⟩) ?_ ?_
  rotate_left
  · intro w'
    go_simp
    with_reducible rfl
  rotate_left
  · simp only [Act.put, List.setIfInBounds_toArray, List.set_cons_zero, List.set_cons_succ, i64_w, i32_w, xu32_w, xu8_w]
    rfl
  refine pure_ (i := 5) (N := some 31) (v := ?_) (a' := ?_) #[true, true, false, true, true, true, false, false, false, false, false, false, false] rfl rfl (any_of HT_.out (by kernel_rfl)) (fun _ _ _ h => h) (Or.inl ⟨by rfl, ?_⟩) ?_ ?_
  rotate_left
  · intro w'
    go_simp
    with_reducible rfl
  rotate_left
  · simp only [Act.put, List.setIfInBounds_toArray, List.set_cons_zero, List.set_cons_succ, i64_w, i32_w, xu32_w, xu8_w]
    rfl
  refine pure_ (i := 7) (N := some 33) (v := ?_) (a' := ?_) #[true, true, false, true, true, true, false, true, false, false, false, false, false] rfl rfl (any_of HT_.out (by kernel_rfl)) (fun _ _ _ h => h) (Or.inl ⟨by rfl, ?_⟩) ?_ ?_
  rotate_left
  · intro w'
    go_simp
    with_reducible rfl
  rotate_left
  · simp only [Act.put, List.setIfInBounds_toArray, List.set_cons_zero, List.set_cons_succ, i64_w, i32_w, xu32_w, xu8_w]
    rfl
  refine pure_ (i := 8) (N := some 34) (v := ?_) (a' := ?_) #[true, true, false, true, true, true, false, true, true, false, false, false, false] rfl rfl (any_of HT_.out (by kernel_rfl)) (fun _ _ _ h => h) (Or.inl ⟨by rfl, ?_⟩) ?_ ?_
  rotate_left
  · intro w'
    go_simp
    with_reducible rfl
  rotate_left
  · simp only [Act.put, List.setIfInBounds_toArray, List.set_cons_zero, List.set_cons_succ, i64_w, i32_w, xu32_w, xu8_w]
    rfl
  refine pure_ (i := 9) (N := some 35) (v := ?_) (a' := ?_) #[true, true, false, true, true, true, false, true, true, true, false, false, false] rfl rfl (any_of HT_.out (by kernel_rfl)) (fun _ _ _ h => h) (Or.inl ⟨by rfl, ?_⟩) ?_ ?_
  rotate_left
  · intro w'
    go_simp
    with_reducible rfl
  rotate_left
  · simp only [Act.put, List.setIfInBounds_toArray, List.set_cons_zero, List.set_cons_succ, i64_w, i32_w, xu32_w, xu8_w]
    rfl
  refine pure_ (i := 10) (N := some 36) (v := ?_) (a' := ?_) #[true, true, false, true, true, true, false, true, true, true, true, false, false] rfl rfl (any_of HT_.out (by kernel_rfl)) (fun _ _ _ h => h) (Or.inl ⟨by rfl, ?_⟩) ?_ ?_
  rotate_left
  · intro w'
    go_simp
    with_reducible rfl
  rotate_left
  · simp only [Act.put, List.setIfInBounds_toArray, List.set_cons_zero, List.set_cons_succ, i64_w, i32_w, xu32_w, xu8_w]
    rfl
  refine one_ (i := 2) (N := some 28) #[true, true, true, true, true, true, false, true, true, true, true, false, false] rfl rfl (one_of HT_.out (by kernel_rfl)) (by decide) (fun K hK => ?_)
  refine value_ (v := .slice (some ⟨W0.heap.size, 0, none⟩) 0 0) (w1 := W0.alloc (.cells #[] 34)) (by rfl) rfl (by first | (go_simp; done) | (go_simp; rfl)) ?_
  have HF6 := Aside0.mk (show ∀ k, W0.heap.size ≤ k → (ok k ∧ k ≠ b6) ∧ k ≠ g from fun k hk => ⟨⟨(HFR.out k (Nat.le_trans HBW0.out.size hk)).1, fun e => by have := heap_lt H60.out; omega⟩, (HFR.out k (Nat.le_trans HBW0.out.size hk)).2⟩)
  have HN1 := Aside0.mk (lit_nil (ok := fun k => (ok k ∧ k ≠ b6) ∧ k ≠ g) W0 w.heap.size HBW0.out.size (HF6.out _ (Nat.le_refl _)))
  have HB1 := Aside0.mk (below_alloc HBW0.out (.cells #[] 34))
  obtain ⟨W1, hW1⟩ : ∃ W1, W1 = W0.alloc (.cells #[] 34) := ⟨_, rfl⟩
  have HV1 := Aside0.mk (show ∀ k, (Value.slice (some ⟨W0.heap.size, 0, none⟩) 0 0).ownBlock = some k → w.heap.size ≤ k from fun k hk => Kd.N_base HN1.out k hk)
  rw [← hW1] at HN1 HB1 ⊢
  have HW01 := Aside0.mk (show Below W0.heap.size W0 W1 from hW1 ▸ below_alloc (Below.refl _ _) _)
  clear hW1
  have H9a := Aside0.mk (blk_below H90.out HW01.out)
  have H6a := Aside0.mk (blk_below H60.out HW01.out)
  have HVL1 := Aside0.mk (show ∀ k, (Value.slice (some ⟨W0.heap.size, 0, none⟩) 0 0).ownBlock = some k → W0.heap.size ≤ k from fun k hk => by have : W0.heap.size = k := by simpa [Value.ownBlock] using hk
                                                                                                                                              omega)
  refine hK.out _ _ trivial (fun hHeld => ?_)
  clear hK K
  refine norm_ (a' := ?_) ?_ ?_
  rotate_left
  · show Act.put _ (some 28) _ = _
    simp only [Act.put, List.setIfInBounds_toArray, List.set_cons_zero, List.set_cons_succ, i64_w, i32_w, xu32_w, xu8_w]
    rfl
  refine one_ (i := 6) (N := some 32) #[true, true, true, true, true, true, true, true, true, true, true, false, false] rfl rfl (one_of HT_.out (by kernel_rfl)) (by decide) (fun K hK => ?_)
  refine Kd.N_append_rows_step k34 (w0 := w) w.heap.size (by rfl) (.tmp 28) (.tmp 31) 29 34 (.agg #[.int .i64 0, .slice none 0 0]) 32 rfl Try.underlying29 info34 rfl (by decide) (by omega) (.slice (some ⟨W0.heap.size, 0, none⟩) 0 0) [] (Qo.take j) (some ad) j co (fun k => (ok k ∧ k ≠ b6) ∧ k ≠ g) (fun k => (ok k ∧ k < w.heap.size) ∧ k ≠ g) rfl rfl ?aO ?aR ?aK ?aF ?aB ?aS ?aL ?_
  (case aO => exact HN1.out)
  (case aR => exact (Kd.F_below HTK.out (H70.out.trans (HW01.out.mono H70.out.size))))
  (case aK => exact fun k hk => ⟨⟨⟨hk.1.1, fun e => by have h1 := HL6.out; have h2 := hk.1.2; omega⟩, hk.2⟩, fun e => by have h1 := HV1.out k e.symm; have h2 := hk.1.2; omega⟩)
  (case aF => exact fun k hk => HF6.out k (Nat.le_trans HW01.out.size hk))
  (case aB => exact HB1.out)
  (case aS => exact HB1.out.size)
  (case aL => have h1 := HJ.out; simp only [List.length_nil]; omega)
  intro v10 w10 ho hbB hg hat
  obtain ⟨A10, n10, c10, rfl⟩ := N_slice3 ho
  have HN10 := Aside0.mk ho
  have HB10 := Aside0.mk hbB
  have HV10 := Aside0.mk (show ∀ k, (Value.slice A10 n10 c10).ownBlock = some k → w.heap.size ≤ k from fun k hk => Kd.N_base HN10.out k hk)
  have HG10 := Aside0.mk (grown_old (w := w) HB1.out hg (fun k e => HV1.out k e.symm))
  have HS10 := Aside0.mk (Nat.le_trans HW01.out.size hg.size)
  have H6b := Aside0.mk ((hg.block b6 (heap_lt H6a.out) (fun e => by have h1 := HVL1.out b6 e.symm; have h2 := heap_lt H60.out; omega)).trans H6a.out)
  have H9b := Aside0.mk ((hg.block b9 (heap_lt H9a.out) (fun e => by have h1 := HVL1.out b9 e.symm; have h2 := heap_lt H90.out; omega)).trans H9a.out)
  have HVL10 := Aside0.mk (show ∀ k, (Value.slice A10 n10 c10).ownBlock = some k → W0.heap.size ≤ k from fun k hk => by
    rcases hat with e | ⟨b, e, hb⟩
    · rw [e] at hk; exact HVL1.out k hk
    · rw [e] at hk; injection hk with hk; have := HW01.out.size; omega)
  clear ho hbB hg hat
  refine hK.out _ _ trivial (fun hHeld => ?_)
  clear hK K
  refine norm_ (a' := ?_) ?_ ?_
  rotate_left
  · show Act.put _ (some 32) _ = _
    simp only [Act.put, List.setIfInBounds_toArray, List.set_cons_zero, List.set_cons_succ, i64_w, i32_w, xu32_w, xu8_w]
    rfl
  refine one_ (i := 11) (N := some 37) #[true, true, true, true, true, true, true, true, true, true, true, true, false] rfl rfl (one_of HT_.out (by kernel_rfl)) (by decide) (fun K hK => ?_)
  refine Kd.N_append_rows_step k34 (w0 := w) w.heap.size (by rfl) (.tmp 32) (.tmp 36) 29 34 (.agg #[.int .i64 0, .slice none 0 0]) 32 rfl Try.underlying29 info34 rfl (by decide) (by omega) (.slice A10 n10 c10) ([] ++ Qo.take j) (Qo.drop (j + 1)) A2 (m0 - (j + 1)) (co - (j + 1)) (fun k => (ok k ∧ k ≠ b6) ∧ k ≠ g) (fun k => (ok k ∧ k < w.heap.size) ∧ k ≠ g) rfl rfl ?aO ?aR ?aK ?aF ?aB ?aS ?aL ?_
  (case aO => exact HN10.out)
  (case aR => exact (F_old (Kd.F_below HDR.out (H70.out.trans (HW01.out.mono H70.out.size))) HG10.out))
  (case aK => exact fun k hk => ⟨⟨⟨hk.1.1, fun e => by have h1 := HL6.out; have h2 := hk.1.2; omega⟩, hk.2⟩, fun e => by have h1 := HV10.out k e.symm; have h2 := hk.1.2; omega⟩)
  (case aF => exact fun k hk => HF6.out k (Nat.le_trans HS10.out hk))
  (case aB => exact HB10.out)
  (case aS => exact HB10.out.size)
  (case aL => have h1 := HJ.out; rw [List.nil_append, List.length_take]; omega)
  intro v11 w11 ho hbB hg hat
  obtain ⟨A11, n11, c11, rfl⟩ := N_slice3 ho
  have HN11 := Aside0.mk ho
  have HB11 := Aside0.mk hbB
  have HV11 := Aside0.mk (show ∀ k, (Value.slice A11 n11 c11).ownBlock = some k → w.heap.size ≤ k from fun k hk => Kd.N_base HN11.out k hk)
  have HG11 := Aside0.mk (grown_old (w := w) HB10.out hg (fun k e => HV10.out k e.symm))
  have HS11 := Aside0.mk (Nat.le_trans HS10.out hg.size)
  have H6c := Aside0.mk ((hg.block b6 (heap_lt H6b.out) (fun e => by have h1 := HVL10.out b6 e.symm; have h2 := heap_lt H60.out; omega)).trans H6b.out)
  have H9c := Aside0.mk ((hg.block b9 (heap_lt H9b.out) (fun e => by have h1 := HVL10.out b9 e.symm; have h2 := heap_lt H90.out; omega)).trans H9b.out)
  clear ho hbB hg hat
  refine hK.out _ _ trivial (fun hHeld => ?_)
  clear hK K
  refine norm_ (a' := ?_) ?_ ?_
  rotate_left
  · show Act.put _ (some 37) _ = _
    simp only [Act.put, List.setIfInBounds_toArray, List.set_cons_zero, List.set_cons_succ, i64_w, i32_w, xu32_w, xu8_w]
    rfl
  refine one_ (i := 12) (N := some 38) #[true, true, true, true, true, true, true, true, true, true, true, true, true] rfl rfl (one_of HT_.out (by kernel_rfl)) (by decide) (fun K hK => ?_)
  refine goes_ Try.func45 (by kernel_rfl) rfl #[.pointer (some ⟨g, 0, none⟩), .string s, .slice A11 n11 c11] (by rfl) rfl rfl (by (try simp only [List.map_toArray, List.map_cons, List.map_nil]); first | done | rfl) ?_
  have HBc := Aside0.mk HB11.out
  with_reducible refine (rset_calls (HG.out.move (ok' := fun k => ok k ∧ k ≠ b6) (fun k _ hk => HB11.out.block k hk) (fun k hk hlt => ⟨hk, fun e => by have h1 := HL6.out; omega⟩)) (fun k hk => (HF6.out k (Nat.le_trans HS11.out hk)).1) HST.out HSM.out s (Kd.N_F HN11.out) (Kd.N_reads' HN11.out).1 (Kd.N_reads' HN11.out).2.1).mono ?_
  rintro e w12 ⟨rfl, v12, hR12, hC12⟩
  refine ⟨_, rfl, ?_⟩
  rw [List.nil_append] at hR12
  have HR12 := Aside0.mk hR12
  have HC12 := Aside0.mk hC12
  have HY9 := Aside0.mk (H9c.out)
  have HY6 := Aside0.mk (H6c.out)
  clear hR12 hC12
  refine hK.out _ _ trivial (fun hHeld => ?_)
  clear hK K
  refine norm_ (a' := ?_) ?_ ?_
  rotate_left
  · show Act.put _ (some 38) _ = _
    simp only [Act.put, List.setIfInBounds_toArray, List.set_cons_zero, List.set_cons_succ, i64_w, i32_w, xu32_w, xu8_w]
    rfl
  refine done_ (done_of HT_.out (by kernel_rfl)) ?_
  have HCH := Aside0.mk ((Chg.of_below (fun _ => False) HBc.out).trans HC12.out (U := fun k => k = g) (fun _ _ e => e.elim) (fun _ _ e => e))
  have HX9 := Aside0.mk (of_chg HC12.out HY9.out (fun e => by have h1 := HL9.out; have h2 := HB7.out.size; have h3 := HGL.out; omega))
  have HX6 := Aside0.mk (of_chg HC12.out HY6.out (fun e => by have h1 := HL6.out; have h3 := HGL.out; omega))
  obtain ⟨z0, z1⟩ := cellsL HX9.out
  clear hcut1 hcut2 hwr
  go_wp2_with ((with_reducible refine gate_ (.store 34 (.tmp 6) (.tmp 39)) rfl ?_); refine store_blk rfl 34 (.tmp 6) (.tmp 39) rfl b6 (leL 0 none 0 0) (leL x.f0 A1 nx c1) rfl rfl HX6.out rfl size34 (leL_one _ _ _ _) ?_; intro w13 ha hka hba; have HZ13 := Aside0.mk ha; have HK13 := Aside0.mk hka; have HBA := Aside0.mk hba; clear ha hka hba)
  refine bodyPost_ret (results_ct rfl _ _ b6 34 _ (0, 0) _ rfl HZ13.out Try.underlying34 rfl (by kernel_rfl)) rfl ?_
  have h13 : Chg (fun k => k = g) w w13 := chg_box HCH.out HK13.out (HBA.out) HL6.out HX6.out HZ13.out
  refine ⟨A1, c1, rfl, HD1.out.1, ?_, v12, ?_, h13⟩
  · refine Kd.F_mono (Kd.F_step (Kd.F_bound HD1.out.2) (fun k hk hlt => (h13.block k hk.1.1.2 hk.1.2).trans (HB7.out.block k hk.1.1.2).symm)) (fun k hk => ⟨hk.1.1.1, hk.1.2⟩)
  · rw [HQO.out]
    exact RefG.keep6 (n := 0) (cs := #[]) HR12.out HK13.out
end
end Go.Proofs.Ytlnipfmgdkiboaa.N
/- The document's network by hand: Drop, Double; each act for any place. -/
namespace Go.Proofs.Ytlnipfmgdkiboaa.N
open Go.RowKit Go.Proofs.Ytlnipfmgdkiboaa.Q Go.Proofs.YtlnipfmgdkiboaaW.PrintWords Go.Proofs.YtlnipfmgdkiboaaW.PrintLast Go.Proofs.YtlnipfmgdkiboaaW.PrintMore
set_option linter.unusedVariables false
set_option linter.unusedSimpArgs false
theorem letter_in {w : World} {ok : Nat → Prop} {A : Option Addr} {n : Nat} {xs : List S34} (h : Kd.F k34 w ok A n xs) {j : Nat} (hj : j < n) {ad : Addr} (hA : A = some ad) : ok (ad.add (j * 2)).block := by
  obtain ⟨ad2, c2, e, _, _, _, hin⟩ := Kd.F_get h z34 (j : Int) (by omega) (by omega)
  rw [hA] at e
  injection e with e
  subst e
  have e : (ad.add (j * 2)).block = ad.block := by unfold Addr.add; split <;> rfl
  rw [e]
  exact hin (by decide)
theorem one_row {W : World} {b : Nat} {okq : Nat → Prop} {x : S34} {A1 : Option Addr} {nx c1 : Nat} (hx : W.heap[b]? = some (.cells #[.int .i64 x.f0, .slice A1 nx c1] 34 (0, 0))) (hF : Kd.F (Kd.int .u8) W okq A1 nx x.f1) (hnx : nx = x.f1.length) (hc : nx ≤ c1) : Kd.F k34 W (fun k => k = b ∨ okq k) (some ⟨b, 0, none⟩) 1 [x] := by
  subst hnx
  intro W' hW
  have hx' := (hW b (.inl rfl) (heap_lt hx)).trans hx
  refine ⟨rfl, by simp, fun _ => ⟨_, rfl, fun j p hj => ?_⟩⟩
  cases j with
  | zero =>
    have hp : x = p := Option.some.inj hj
    subst hp
    refine ⟨[.int .i64 x.f0, .slice A1 x.f1.length c1], rfl, k34_mk W' x hc (hF W' (fun k hk => hW k (.inr hk))), fun i u hu => ?_⟩
    rw [add_at]
    have hb := blk_cell hx' (0 + (0 * k34.sz + i))
    rw [hb]
    have e : 0 + (0 * k34.sz + i) = i := by omega
    rw [e]
    simpa using hu
  | succ j => cases hj
section
variable {w : World} {B g : Nat} {room : Int} {ok : Nat → Prop} {v : Value} {st : St}
set_option maxHeartbeats 1000000 in
set_option maxRecDepth 100000 in
theorem rdouble_out (h : RefG w B g room ok v st) (hf : st.length ≤ 1000) (s : ByteArray) (i : Int) (hi : ¬(0 ≤ i ∧ i < ((ofSt st s).length : Int))) :
    Calls Try.prog 38 #[.pointer (some ⟨g, 0, none⟩), .string s, .int .i64 i] w fun e w' => e = .returned (.int .i64 4) ∧ Below w.heap.size w w' := by
  have HG := Aside0.mk h
  have HSM := Aside0.mk hf
  obtain ⟨m0, hm0⟩ : ∃ m : Nat, m = (ofSt st s).length := ⟨_, rfl⟩
  have HM0 := Aside0.mk hm0
  rw [← hm0] at hi
  clear h hf hm0
  by_cases h0 : i < 0
  · have hd : decide (i < 0) = true := by simpa using h0
    clear h0 hi
    go_enter Try.func38, Try.ntmps38
    go_wp2_with (go_at_call 39; (with_reducible refine (rof_calls HG.out HSM.out s HM0.out).mono ?_); rintro e w7 ⟨Ao, co, rfl, hco, hF, hb⟩; have HB7 := Aside0.mk hb; clear hF hb)
    go_ret
    exact ⟨rfl, HB7.out⟩
  · have hd : decide (i < 0) = false := by simpa using h0
    have hd2 : decide ((m0 : Int) ≤ i) = true := by have : (m0 : Int) ≤ i := by omega
                                                    simpa using this
    clear h0 hi
    go_enter Try.func38, Try.ntmps38
    go_wp2_with (go_at_call 39; (with_reducible refine (rof_calls HG.out HSM.out s HM0.out).mono ?_); rintro e w7 ⟨Ao, co, rfl, hco, hF, hb⟩; have HB7 := Aside0.mk hb; clear hF hb)
    go_ret
    exact ⟨rfl, HB7.out⟩
set_option maxHeartbeats 1000000 in
set_option maxRecDepth 100000 in
theorem rdouble_full (h : RefG w B g room ok v st) (hf : st.length ≤ 1000) (s : ByteArray) (i : Int) (hi0 : 0 ≤ i) (hi1 : i < ((ofSt st s).length : Int)) (hfull : room ≤ ((ofSt st s).length : Int)) :
    Calls Try.prog 38 #[.pointer (some ⟨g, 0, none⟩), .string s, .int .i64 i] w fun e w' => e = .returned (.int .i64 5) ∧ Below w.heap.size w w' := by
  have HG := Aside0.mk h
  have HSM := Aside0.mk hf
  obtain ⟨m0, hm0⟩ : ∃ m : Nat, m = (ofSt st s).length := ⟨_, rfl⟩
  have HM0 := Aside0.mk hm0
  rw [← hm0] at hi1 hfull
  have hd : decide (i < 0) = false := by simpa using hi0
  have hd2 : decide ((m0 : Int) ≤ i) = false := by simpa using hi1
  have hd3 : decide (room ≤ (m0 : Int)) = true := by simpa using hfull
  clear h hf hm0 hi0 hi1 hfull
  go_enter Try.func38, Try.ntmps38
  go_wp2_with (go_at_call 39; (with_reducible refine (rof_calls HG.out HSM.out s HM0.out).mono ?_); rintro e w7 ⟨Ao, co, rfl, hco, hF, hb⟩; have HB7 := Aside0.mk hb; obtain ⟨c0, c1⟩ := (HG.out.below hb).cell; clear hF hb)
  go_ret
  exact ⟨rfl, HB7.out⟩
set_option maxHeartbeats 4000000 in
set_option maxRecDepth 100000 in
theorem rdouble_in (h : RefG w B g room ok v st) (hfr : ∀ k, w.heap.size ≤ k → ok k) (hs : Sorted st) (hf : st.length ≤ 1000) (s : ByteArray) (h256 : (ofSt st s).length ≤ 256) (j : Nat) (hj : j < (ofSt st s).length) (hfull : ((ofSt st s).length : Int) < room) {x : S34} (hx : (ofSt st s).getD j z34 = x) :
    Calls Try.prog 38 #[.pointer (some ⟨g, 0, none⟩), .string s, .int .i64 j] w fun e w' => e = .returned (.int .i64 0) ∧ ∃ v', RefG w' B g room ok v' (setS st s (ofSt st s ++ [x])) ∧ Chg (fun k => k = g) w w' := by
  have HG := Aside0.mk h
  have HSM := Aside0.mk hf
  obtain ⟨m0, hm0⟩ : ∃ m : Nat, m = (ofSt st s).length := ⟨_, rfl⟩
  have HM0 := Aside0.mk hm0
  have HST := Aside0.mk hs
  have HOKF := Aside0.mk hfr
  have HFR := Aside0.mk (show ∀ k, w.heap.size ≤ k → ok k ∧ k ≠ g from fun k hk => ⟨hfr k hk, fun e => by have := heap_lt h.cells; omega⟩)
  have HX := Aside0.mk hx
  have HJ := Aside0.mk (show j < m0 ∧ m0 ≤ 256 by omega)
  obtain ⟨nx, hnx⟩ : ∃ m : Nat, m = x.f1.length := ⟨_, rfl⟩
  have HNX := Aside0.mk hnx
  have hd : decide ((j : Int) < 0) = false := by simp
  have hd2 : ¬ m0 ≤ j := by omega
  rw [← hm0] at hfull
  have hd3 : decide (room ≤ (m0 : Int)) = false := by simpa using hfull
  clear h hf hm0 hs hfr hx hnx h256 hj hfull
  go_enter Try.func38, Try.ntmps38
  go_wp2_with (go_at_call 39; (with_reducible refine (rof_calls (HG.out.move (ok' := fun k => ok k ∧ k < w.heap.size) (fun k _ hk => rfl) (fun k hk hlt => ⟨hk, hlt⟩)) HSM.out s HM0.out).mono ?_); rintro e w7 ⟨Ao, co, rfl, hco, hF, hb⟩; have HFO := Aside0.mk hF; have HB7 := Aside0.mk hb; obtain ⟨c0, c1'⟩ := (HG.out.below hb).cell; obtain ⟨ad, A1, c1, hA, x0, x1, hc1, hd1⟩ := letter_at HFO.out HJ.out.1 HX.out HNX.out; have hin := letter_in HFO.out HJ.out.1 hA; subst hA; have HD1 := Aside0.mk (And.intro hc1 hd1); have HY := Aside0.mk (And.intro ((cell_same (hb.block _ hin.1.2)).symm.trans x0) ((cell_same (p := ⟨(ad.add (j * 2)).block, (ad.add (j * 2)).off + 1, none⟩) (hb.block _ hin.1.2)).symm.trans x1)); have hj0 : (0 : Int) ≤ (j : Int) := (by omega); have hj1 : (j : Int) < (m0 : Int) := (by have := HJ.out; omega); clear hc1 hd1 hco hF hb hin)
  generalize hQo : ofSt st s = Qo at *
  have HQO := Aside0.mk hQo
  clear hQo
  clear c0 c1' x0 x1
  refine start_ (n := 12) (S := fun w' => w'.cell? (ad.add (j * 2)) = some (.int .i64 x.f0) ∧ w'.cell? ⟨(ad.add (j * 2)).block, (ad.add (j * 2)).off + 1, none⟩ = some (.slice A1 nx c1)) (ds := [11]) #[false, false, false, false, false, false, false, false, false, false, false, false] (by kernel_rfl) rfl rfl ⟨pw_cell_below (below_drew1 HB7.out) HY.out.1, pw_cell_below (below_drew1 HB7.out) HY.out.2⟩ (fun hHeld => ?_); refine with_tabW rdouble.tab6 rdouble.bits6 (fun HT_ HW_ => ?_)
  have HBW0 := Aside0.mk (below_drew1 HB7.out)
  generalize w7.drew = W0 at *
  refine pure_ (i := 0) (N := some 28) (v := ?_) (a' := ?_) #[true, false, false, false, false, false, false, false, false, false, false, false] rfl rfl (any_of HT_.out (by kernel_rfl)) (fun _ _ _ h => h) (Or.inl ⟨by rfl, ?_⟩) ?_ ?_
  rotate_left
  · intro w'
    go_simp
    with_reducible rfl
  rotate_left
  · simp only [Act.put, List.setIfInBounds_toArray, List.set_cons_zero, List.set_cons_succ, i64_w, i32_w, xu32_w, xu8_w]
    rfl
  refine pure_ (i := 1) (N := some 29) (v := ?_) (a' := ?_) #[true, true, false, false, false, false, false, false, false, false, false, false] rfl rfl (any_of HT_.out (by kernel_rfl)) (fun _ _ _ h => h) (Or.inl ⟨by rfl, ?_⟩) ?_ ?_
  rotate_left
  · intro w'
    go_simp
    with_reducible rfl
  rotate_left
  · simp only [Act.put, List.setIfInBounds_toArray, List.set_cons_zero, List.set_cons_succ, i64_w, i32_w, xu32_w, xu8_w]
    rfl
  refine pure_ (i := 3) (N := some 31) (v := ?_) (a' := ?_) #[true, true, false, true, false, false, false, false, false, false, false, false] rfl rfl (any_of HT_.out (by kernel_rfl)) (fun _ _ _ h => h) (Or.inl ⟨by rfl, ?_⟩) ?_ ?_
  rotate_left
  · intro w'
    go_simp
    with_reducible rfl
  rotate_left
  · simp only [Act.put, List.setIfInBounds_toArray, List.set_cons_zero, List.set_cons_succ, i64_w, i32_w, xu32_w, xu8_w]
    rfl
  refine pure_ (i := 5) (N := some 33) (v := ?_) (a' := ?_) #[true, true, false, true, false, true, false, false, false, false, false, false] rfl rfl (any_of HT_.out (by kernel_rfl)) (fun _ _ _ h => h) (Or.inl ⟨by rfl, ?_⟩) ?_ ?_
  rotate_left
  · intro w'
    go_simp
    with_reducible rfl
  rotate_left
  · simp only [Act.put, List.setIfInBounds_toArray, List.set_cons_zero, List.set_cons_succ, i64_w, i32_w, xu32_w, xu8_w]
    rfl
  refine pure_ (i := 6) (N := some 34) (v := ?_) (a' := ?_) #[true, true, false, true, false, true, true, false, false, false, false, false] rfl rfl (any_of HT_.out (by kernel_rfl)) (fun _ _ _ h => h) (Or.inl ⟨by rfl, ?_⟩) ?_ ?_
  rotate_left
  · intro w'
    go_simp
    with_reducible rfl
  rotate_left
  · simp only [Act.put, List.setIfInBounds_toArray, List.set_cons_zero, List.set_cons_succ, i64_w, i32_w, xu32_w, xu8_w]
    rfl
  refine pure_ (i := 7) (N := some 35) (v := ?_) (a' := ?_) #[true, true, false, true, false, true, true, true, false, false, false, false] rfl rfl (any_of HT_.out (by kernel_rfl)) (fun _ _ _ h => h) (Or.inl ⟨by rfl, ?_⟩) ?_ ?_
  rotate_left
  · intro w'
    go_simp
    with_reducible rfl
  rotate_left
  · simp only [Act.put, List.setIfInBounds_toArray, List.set_cons_zero, List.set_cons_succ, i64_w, i32_w, xu32_w, xu8_w]
    rfl
  refine take_ (i := 8) (N := some 36) (v := ?_) (a' := ?_) #[true, true, false, true, false, true, true, true, true, false, false, false] rfl rfl (take_ofW HT_.out HW_.out (by kernel_rfl)) (fun _ _ _ h => h) (Or.inl ⟨by rfl, ?_⟩) hHeld ?_ ?_
  rotate_left
  · rintro w' ⟨s0, s1⟩
    go_simp
    with_reducible rfl
  rotate_left
  · simp only [Act.put, List.setIfInBounds_toArray, List.set_cons_zero, List.set_cons_succ, i64_w, i32_w, xu32_w, xu8_w]
    rfl
  refine two_ (i := 2) (j := 9) (Ni := some 30) (Nj := some 37) #[true, true, true, true, false, true, true, true, true, false, false, false] #[true, true, false, true, false, true, true, true, true, true, false, false] rfl rfl rfl rfl (two_of HT_.out (by kernel_rfl)) (by decide) (by decide) (fun K hK => ?_) (fun K hK => ?_)
  · refine value_ (v := .slice (some ⟨W0.heap.size, 0, none⟩) 0 0) (w1 := W0.alloc (.cells #[] 34)) (by rfl) rfl (by first | (go_simp; done) | (go_simp; rfl)) ?_
    have HNa := Aside0.mk (lit_nil (ok := fun k => ok k ∧ k ≠ g) W0 w.heap.size HBW0.out.size (HFR.out _ HBW0.out.size))
    have HBa1 := Aside0.mk (below_alloc HBW0.out (.cells #[] 34))
    have HVa := Aside0.mk (show ∀ k, (Value.slice (some ⟨W0.heap.size, 0, none⟩) 0 0).ownBlock = some k → k = W0.heap.size from fun k hk => (by simpa [Value.ownBlock] using hk : W0.heap.size = k).symm)
    obtain ⟨wa1, hwa⟩ : ∃ W1, W1 = W0.alloc (.cells #[] 34) := ⟨_, rfl⟩
    have HSa := Aside0.mk (show W0.heap.size < wa1.heap.size from by rw [hwa]; show _ < (W0.heap.push _).size; simp)
    rw [← hwa] at HNa HBa1 ⊢
    clear hwa
    refine hK.out _ _ ⟨pw_cell_below HBa1.out HY.out.1, pw_cell_below HBa1.out HY.out.2⟩ (fun hHeld => ?_)
    clear hK K
    refine norm_ (a' := ?_) ?_ ?_
    rotate_left
    · show Act.put _ (some 30) _ = _
      simp only [Act.put, List.setIfInBounds_toArray, List.set_cons_zero, List.set_cons_succ, i64_w, i32_w, xu32_w, xu8_w]
      rfl
    refine two_ (i := 4) (j := 9) (Ni := some 32) (Nj := some 37) #[true, true, true, true, true, true, true, true, true, false, false, false] #[true, true, true, true, false, true, true, true, true, true, false, false] rfl rfl rfl rfl (two_of HT_.out (by kernel_rfl)) (by decide) (by decide) (fun K hK => ?_) (fun K hK => ?_)
    · refine Kd.N_append_rows_step k34 (w0 := w) w.heap.size (by rfl) (.tmp 30) (.tmp 31) 29 34 (.agg #[.int .i64 0, .slice none 0 0]) 32 rfl Try.underlying29 info34 rfl (by decide) (by omega) (.slice (some ⟨W0.heap.size, 0, none⟩) 0 0) [] Qo (some ad) m0 co (fun k => ok k ∧ k ≠ g) (fun k => (ok k ∧ k < w.heap.size) ∧ k ≠ g) rfl rfl ?aO ?aR ?aK ?aF ?aB ?aS ?aL ?_
      (case aO => exact HNa.out)
      (case aR => exact Kd.F_step HFO.out (fun k hk _ => (HBa1.out.block k hk.1.2).trans (HB7.out.block k hk.1.2).symm))
      (case aK => exact fun k hk => ⟨⟨hk.1.1, hk.2⟩, fun e => by have h1 := Kd.N_base HNa.out k e.symm; have h2 := hk.1.2; omega⟩)
      (case aF => exact fun k hk => HFR.out k (Nat.le_trans HBa1.out.size hk))
      (case aB => exact HBa1.out)
      (case aS => exact HBa1.out.size)
      (case aL => have h1 := HJ.out; simp only [List.length_nil]; omega)
      intro v10 wa2 ho hbB hg hat
      obtain ⟨A10, n10, c10, rfl⟩ := N_slice3 ho
      rw [List.nil_append] at ho
      have HN10 := Aside0.mk ho
      have HBa2 := Aside0.mk hbB
      have HLT10 := Aside0.mk (show ∀ k, (Value.slice A10 n10 c10).ownBlock = some k → k < wa2.heap.size from Kd.N_lt ho)
      clear ho hbB hg hat
      refine hK.out _ _ ⟨pw_cell_below HBa2.out HY.out.1, pw_cell_below HBa2.out HY.out.2⟩ (fun hHeld => ?_)
      clear hK K
      refine norm_ (a' := ?_) ?_ ?_
      rotate_left
      · show Act.put _ (some 32) _ = _
        simp only [Act.put, List.setIfInBounds_toArray, List.set_cons_zero, List.set_cons_succ, i64_w, i32_w, xu32_w, xu8_w]
        rfl
      refine one_ (i := 9) (N := some 37) #[true, true, true, true, true, true, true, true, true, true, false, false] rfl rfl (one_of HT_.out (by kernel_rfl)) (by decide) (fun K hK => ?_)
      refine value_ (v := .slice (some ⟨wa2.heap.size, 0, none⟩) 1 1) (w1 := wa2.alloc (.cells #[.int .i64 x.f0, .slice A1 nx c1] 34)) (by rfl) rfl (by first | (go_simp; done) | (go_simp; rfl)) ?_
      have HBa3 := Aside0.mk (below_alloc HBa2.out (.cells #[.int .i64 x.f0, .slice A1 nx c1] 34))
      have HX9 := Aside0.mk (blk_new wa2 (.cells #[.int .i64 x.f0, .slice A1 nx c1] 34))
      have HN10 := Aside0.mk (Kd.N_below HN10.out (below_alloc (Below.refl _ _) (.cells #[.int .i64 x.f0, .slice A1 nx c1] 34)))
      have HNB := Aside0.mk (show ∀ k, Value.ownBlock (Value.slice A10 n10 c10) = some k → k ≠ wa2.heap.size from fun k hk e => by have h1 := HLT10.out k hk; omega)
      obtain ⟨B9, hB9⟩ : ∃ b, b = wa2.heap.size := ⟨_, rfl⟩
      obtain ⟨wa3, hwa⟩ : ∃ W1, W1 = wa2.alloc (.cells #[.int .i64 x.f0, .slice A1 nx c1] 34) := ⟨_, rfl⟩
      have HGE9 := Aside0.mk (show w.heap.size ≤ B9 by rw [hB9]; exact HBa2.out.size)
      rw [← hwa] at HX9 HBa3 HN10 ⊢
      rw [← hB9] at HX9 HNB ⊢
      clear hwa hB9
      have HL9 := Aside0.mk (heap_lt HX9.out)
      refine hK.out _ _ ⟨pw_cell_below HBa3.out HY.out.1, pw_cell_below HBa3.out HY.out.2⟩ (fun hHeld => ?_)
      clear hK K
      refine norm_ (a' := ?_) ?_ ?_
      rotate_left
      · show Act.put _ (some 37) _ = _
        simp only [Act.put, List.setIfInBounds_toArray, List.set_cons_zero, List.set_cons_succ, i64_w, i32_w, xu32_w, xu8_w]
        rfl
      refine one_ (i := 10) (N := some 38) #[true, true, true, true, true, true, true, true, true, true, true, false] rfl rfl (one_of HT_.out (by kernel_rfl)) (by decide) (fun K hK => ?_)
      refine Kd.N_append_rows_step k34 (w0 := w) w.heap.size (by rfl) (.tmp 32) (.tmp 37) 29 34 (.agg #[.int .i64 0, .slice none 0 0]) 32 rfl Try.underlying29 info34 rfl (by decide) (by omega) (.slice A10 n10 c10) Qo [x] (some ⟨B9, 0, none⟩) 1 1 (fun k => ok k ∧ k ≠ g) (fun k => k = B9 ∨ ((ok k ∧ k < w.heap.size) ∧ k ≠ g)) rfl rfl ?aO ?aR ?aK ?aF ?aB ?aS ?aL ?_
      (case aO => exact HN10.out)
      (case aR => exact one_row HX9.out (Kd.F_step HD1.out.2 (fun k hk _ => (HBa3.out.block k hk.1.2).trans (HB7.out.block k hk.1.2).symm)) HNX.out HD1.out.1)
      (case aK => exact fun k hk => hk.elim (fun e => by subst e; exact ⟨HFR.out _ HGE9.out, fun e => HNB.out _ e.symm rfl⟩) (fun hk => ⟨⟨hk.1.1, hk.2⟩, fun e => by have h1 := Kd.N_base HN10.out k e.symm; have h2 := hk.1.2; omega⟩))
      (case aF => exact fun k hk => HFR.out k (Nat.le_trans HBa3.out.size hk))
      (case aB => exact HBa3.out)
      (case aS => exact HBa3.out.size)
      (case aL => have h1 := HJ.out; have h2 := HM0.out; omega)
      intro v11 wa4 ho hbB hg hat
      obtain ⟨A11, n11, c11, rfl⟩ := N_slice3 ho
      have HN11 := Aside0.mk ho
      have HBa4 := Aside0.mk hbB
      clear ho hbB hg hat
      refine hK.out _ _ ⟨pw_cell_below HBa4.out HY.out.1, pw_cell_below HBa4.out HY.out.2⟩ (fun hHeld => ?_)
      clear hK K
      refine norm_ (a' := ?_) ?_ ?_
      rotate_left
      · show Act.put _ (some 38) _ = _
        simp only [Act.put, List.setIfInBounds_toArray, List.set_cons_zero, List.set_cons_succ, i64_w, i32_w, xu32_w, xu8_w]
        rfl
      refine last_ (i := 11) (N := some 39) #[true, true, true, true, true, true, true, true, true, true, true, true] rfl rfl (one_of HT_.out (by kernel_rfl)) (by decide) (fun K hK => ?_)
      refine goes_ Try.func45 (by kernel_rfl) rfl #[.pointer (some ⟨g, 0, none⟩), .string s, .slice A11 n11 c11] (by rfl) rfl rfl (by (try simp only [List.map_toArray, List.map_cons, List.map_nil]); first | done | rfl) ?_
      with_reducible refine (rset_calls (HG.out.below HBa4.out) (fun k hk => HOKF.out k (Nat.le_trans HBa4.out.size hk)) HST.out HSM.out s (Kd.N_F HN11.out) (Kd.N_reads' HN11.out).1 (Kd.N_reads' HN11.out).2.1).mono ?_
      rintro e w12 ⟨rfl, v12, hR12, hC12⟩
      refine ⟨_, rfl, ?_⟩
      have HR12 := Aside0.mk hR12
      have HC12 := Aside0.mk ((Chg.of_below (fun _ => False) HBa4.out).trans hC12 (U := fun k => k = g) (fun _ _ e => e.elim) (fun _ _ e => e))
      clear hR12 hC12
      refine hK.out _ _ ?_
      clear hK K
      refine done_ (done_of HT_.out (by kernel_rfl)) ?_
      go_wp2_with (fail)
      go_ret
      refine ⟨rfl, v12, ?_, HC12.out⟩
      rw [HQO.out]
      exact HR12.out
    · refine value_ (v := .slice (some ⟨wa1.heap.size, 0, none⟩) 1 1) (w1 := wa1.alloc (.cells #[.int .i64 x.f0, .slice A1 nx c1] 34)) (by rfl) rfl (by first | (go_simp; done) | (go_simp; rfl)) ?_
      have HBa2 := Aside0.mk (below_alloc HBa1.out (.cells #[.int .i64 x.f0, .slice A1 nx c1] 34))
      have HX9 := Aside0.mk (blk_new wa1 (.cells #[.int .i64 x.f0, .slice A1 nx c1] 34))
      have HNa := Aside0.mk (Kd.N_below HNa.out (below_alloc (Below.refl _ _) (.cells #[.int .i64 x.f0, .slice A1 nx c1] 34)))
      have HNB := Aside0.mk (show ∀ k, Value.ownBlock (.slice (some ⟨W0.heap.size, 0, none⟩) 0 0) = some k → k ≠ wa1.heap.size from fun k hk e => by have h1 := (by have := HVa.out k hk; have := HSa.out; omega : k < wa1.heap.size); omega)
      obtain ⟨B9, hB9⟩ : ∃ b, b = wa1.heap.size := ⟨_, rfl⟩
      obtain ⟨wa2, hwa⟩ : ∃ W1, W1 = wa1.alloc (.cells #[.int .i64 x.f0, .slice A1 nx c1] 34) := ⟨_, rfl⟩
      have HGE9 := Aside0.mk (show w.heap.size ≤ B9 by rw [hB9]; exact HBa1.out.size)
      rw [← hwa] at HX9 HBa2 HNa ⊢
      rw [← hB9] at HX9 HNB ⊢
      clear hwa hB9
      have HL9 := Aside0.mk (heap_lt HX9.out)
      refine hK.out _ _ ⟨pw_cell_below HBa2.out HY.out.1, pw_cell_below HBa2.out HY.out.2⟩ (fun hHeld => ?_)
      clear hK K
      refine norm_ (a' := ?_) ?_ ?_
      rotate_left
      · show Act.put _ (some 37) _ = _
        simp only [Act.put, List.setIfInBounds_toArray, List.set_cons_zero, List.set_cons_succ, i64_w, i32_w, xu32_w, xu8_w]
        rfl
      refine one_ (i := 4) (N := some 32) #[true, true, true, true, true, true, true, true, true, true, false, false] rfl rfl (one_of HT_.out (by kernel_rfl)) (by decide) (fun K hK => ?_)
      refine Kd.N_append_rows_step k34 (w0 := w) w.heap.size (by rfl) (.tmp 30) (.tmp 31) 29 34 (.agg #[.int .i64 0, .slice none 0 0]) 32 rfl Try.underlying29 info34 rfl (by decide) (by omega) (.slice (some ⟨W0.heap.size, 0, none⟩) 0 0) [] Qo (some ad) m0 co (fun k => ok k ∧ k ≠ g) (fun k => (ok k ∧ k < w.heap.size) ∧ k ≠ g) rfl rfl ?aO ?aR ?aK ?aF ?aB ?aS ?aL ?_
      (case aO => exact HNa.out)
      (case aR => exact Kd.F_step HFO.out (fun k hk _ => (HBa2.out.block k hk.1.2).trans (HB7.out.block k hk.1.2).symm))
      (case aK => exact fun k hk => ⟨⟨hk.1.1, hk.2⟩, fun e => by have h1 := Kd.N_base HNa.out k e.symm; have h2 := hk.1.2; omega⟩)
      (case aF => exact fun k hk => HFR.out k (Nat.le_trans HBa2.out.size hk))
      (case aB => exact HBa2.out)
      (case aS => exact HBa2.out.size)
      (case aL => have h1 := HJ.out; simp only [List.length_nil]; omega)
      intro v10 wa3 ho hbB hg hat
      obtain ⟨A10, n10, c10, rfl⟩ := N_slice3 ho
      rw [List.nil_append] at ho
      have HN10 := Aside0.mk ho
      have HBa3 := Aside0.mk hbB
      have HLT10 := Aside0.mk (show ∀ k, (Value.slice A10 n10 c10).ownBlock = some k → k < wa3.heap.size from Kd.N_lt ho)
      have HNB10 := Aside0.mk (show ∀ k, (Value.slice A10 n10 c10).ownBlock = some k → k ≠ B9 from fun k hk => by
    rcases hat with e | ⟨b, e, hb⟩
    · rw [e] at hk; exact HNB.out k hk
    · rw [e] at hk; injection hk with hk; have := HL9.out; omega)
      have HX9 := Aside0.mk ((hg.block B9 HL9.out (fun e => HNB.out B9 e.symm rfl)).trans HX9.out)
      have HNB := HNB10
      clear ho hbB hg hat
      refine hK.out _ _ ⟨pw_cell_below HBa3.out HY.out.1, pw_cell_below HBa3.out HY.out.2⟩ (fun hHeld => ?_)
      clear hK K
      refine norm_ (a' := ?_) ?_ ?_
      rotate_left
      · show Act.put _ (some 32) _ = _
        simp only [Act.put, List.setIfInBounds_toArray, List.set_cons_zero, List.set_cons_succ, i64_w, i32_w, xu32_w, xu8_w]
        rfl
      refine one_ (i := 10) (N := some 38) #[true, true, true, true, true, true, true, true, true, true, true, false] rfl rfl (one_of HT_.out (by kernel_rfl)) (by decide) (fun K hK => ?_)
      refine Kd.N_append_rows_step k34 (w0 := w) w.heap.size (by rfl) (.tmp 32) (.tmp 37) 29 34 (.agg #[.int .i64 0, .slice none 0 0]) 32 rfl Try.underlying29 info34 rfl (by decide) (by omega) (.slice A10 n10 c10) Qo [x] (some ⟨B9, 0, none⟩) 1 1 (fun k => ok k ∧ k ≠ g) (fun k => k = B9 ∨ ((ok k ∧ k < w.heap.size) ∧ k ≠ g)) rfl rfl ?aO ?aR ?aK ?aF ?aB ?aS ?aL ?_
      (case aO => exact HN10.out)
      (case aR => exact one_row HX9.out (Kd.F_step HD1.out.2 (fun k hk _ => (HBa3.out.block k hk.1.2).trans (HB7.out.block k hk.1.2).symm)) HNX.out HD1.out.1)
      (case aK => exact fun k hk => hk.elim (fun e => by subst e; exact ⟨HFR.out _ HGE9.out, fun e => HNB.out _ e.symm rfl⟩) (fun hk => ⟨⟨hk.1.1, hk.2⟩, fun e => by have h1 := Kd.N_base HN10.out k e.symm; have h2 := hk.1.2; omega⟩))
      (case aF => exact fun k hk => HFR.out k (Nat.le_trans HBa3.out.size hk))
      (case aB => exact HBa3.out)
      (case aS => exact HBa3.out.size)
      (case aL => have h1 := HJ.out; have h2 := HM0.out; omega)
      intro v11 wa4 ho hbB hg hat
      obtain ⟨A11, n11, c11, rfl⟩ := N_slice3 ho
      have HN11 := Aside0.mk ho
      have HBa4 := Aside0.mk hbB
      clear ho hbB hg hat
      refine hK.out _ _ ⟨pw_cell_below HBa4.out HY.out.1, pw_cell_below HBa4.out HY.out.2⟩ (fun hHeld => ?_)
      clear hK K
      refine norm_ (a' := ?_) ?_ ?_
      rotate_left
      · show Act.put _ (some 38) _ = _
        simp only [Act.put, List.setIfInBounds_toArray, List.set_cons_zero, List.set_cons_succ, i64_w, i32_w, xu32_w, xu8_w]
        rfl
      refine last_ (i := 11) (N := some 39) #[true, true, true, true, true, true, true, true, true, true, true, true] rfl rfl (one_of HT_.out (by kernel_rfl)) (by decide) (fun K hK => ?_)
      refine goes_ Try.func45 (by kernel_rfl) rfl #[.pointer (some ⟨g, 0, none⟩), .string s, .slice A11 n11 c11] (by rfl) rfl rfl (by (try simp only [List.map_toArray, List.map_cons, List.map_nil]); first | done | rfl) ?_
      with_reducible refine (rset_calls (HG.out.below HBa4.out) (fun k hk => HOKF.out k (Nat.le_trans HBa4.out.size hk)) HST.out HSM.out s (Kd.N_F HN11.out) (Kd.N_reads' HN11.out).1 (Kd.N_reads' HN11.out).2.1).mono ?_
      rintro e w12 ⟨rfl, v12, hR12, hC12⟩
      refine ⟨_, rfl, ?_⟩
      have HR12 := Aside0.mk hR12
      have HC12 := Aside0.mk ((Chg.of_below (fun _ => False) HBa4.out).trans hC12 (U := fun k => k = g) (fun _ _ e => e.elim) (fun _ _ e => e))
      clear hR12 hC12
      refine hK.out _ _ ?_
      clear hK K
      refine done_ (done_of HT_.out (by kernel_rfl)) ?_
      go_wp2_with (fail)
      go_ret
      refine ⟨rfl, v12, ?_, HC12.out⟩
      rw [HQO.out]
      exact HR12.out
  · refine value_ (v := .slice (some ⟨W0.heap.size, 0, none⟩) 1 1) (w1 := W0.alloc (.cells #[.int .i64 x.f0, .slice A1 nx c1] 34)) (by rfl) rfl (by first | (go_simp; done) | (go_simp; rfl)) ?_
    have HBa1 := Aside0.mk (below_alloc HBW0.out (.cells #[.int .i64 x.f0, .slice A1 nx c1] 34))
    have HX9 := Aside0.mk (blk_new W0 (.cells #[.int .i64 x.f0, .slice A1 nx c1] 34))
    obtain ⟨B9, hB9⟩ : ∃ b, b = W0.heap.size := ⟨_, rfl⟩
    obtain ⟨wa1, hwa⟩ : ∃ W1, W1 = W0.alloc (.cells #[.int .i64 x.f0, .slice A1 nx c1] 34) := ⟨_, rfl⟩
    have HGE9 := Aside0.mk (show w.heap.size ≤ B9 by rw [hB9]; exact HBW0.out.size)
    rw [← hwa] at HX9 HBa1 ⊢
    rw [← hB9] at HX9 ⊢
    clear hwa hB9
    have HL9 := Aside0.mk (heap_lt HX9.out)
    refine hK.out _ _ ⟨pw_cell_below HBa1.out HY.out.1, pw_cell_below HBa1.out HY.out.2⟩ (fun hHeld => ?_)
    clear hK K
    refine norm_ (a' := ?_) ?_ ?_
    rotate_left
    · show Act.put _ (some 37) _ = _
      simp only [Act.put, List.setIfInBounds_toArray, List.set_cons_zero, List.set_cons_succ, i64_w, i32_w, xu32_w, xu8_w]
      rfl
    refine one_ (i := 2) (N := some 30) #[true, true, true, true, false, true, true, true, true, true, false, false] rfl rfl (one_of HT_.out (by kernel_rfl)) (by decide) (fun K hK => ?_)
    refine value_ (v := .slice (some ⟨wa1.heap.size, 0, none⟩) 0 0) (w1 := wa1.alloc (.cells #[] 34)) (by rfl) rfl (by first | (go_simp; done) | (go_simp; rfl)) ?_
    have HNa := Aside0.mk (lit_nil (ok := fun k => ok k ∧ k ≠ g) wa1 w.heap.size HBa1.out.size (HFR.out _ HBa1.out.size))
    have HBa2 := Aside0.mk (below_alloc HBa1.out (.cells #[] 34))
    have HVa := Aside0.mk (show ∀ k, (Value.slice (some ⟨wa1.heap.size, 0, none⟩) 0 0).ownBlock = some k → k = wa1.heap.size from fun k hk => (by simpa [Value.ownBlock] using hk : wa1.heap.size = k).symm)
    have HX9 := Aside0.mk (blk_alloc HX9.out (.cells #[] 34))
    have HNB := Aside0.mk (show ∀ k, (Value.slice (some ⟨wa1.heap.size, 0, none⟩) 0 0).ownBlock = some k → k ≠ B9 from fun k hk e => by have h1 := HVa.out k hk; have h2 := HL9.out; omega)
    have HL9 := Aside0.mk (show B9 < (wa1.alloc (.cells #[] 34)).heap.size from heap_lt HX9.out)
    obtain ⟨wa2, hwa⟩ : ∃ W1, W1 = wa1.alloc (.cells #[] 34) := ⟨_, rfl⟩
    have HSa := Aside0.mk (show wa1.heap.size < wa2.heap.size from by rw [hwa]; show _ < (wa1.heap.push _).size; simp)
    rw [← hwa] at HNa HBa2 HX9 HL9 ⊢
    clear hwa
    refine hK.out _ _ ⟨pw_cell_below HBa2.out HY.out.1, pw_cell_below HBa2.out HY.out.2⟩ (fun hHeld => ?_)
    clear hK K
    refine norm_ (a' := ?_) ?_ ?_
    rotate_left
    · show Act.put _ (some 30) _ = _
      simp only [Act.put, List.setIfInBounds_toArray, List.set_cons_zero, List.set_cons_succ, i64_w, i32_w, xu32_w, xu8_w]
      rfl
    refine one_ (i := 4) (N := some 32) #[true, true, true, true, true, true, true, true, true, true, false, false] rfl rfl (one_of HT_.out (by kernel_rfl)) (by decide) (fun K hK => ?_)
    refine Kd.N_append_rows_step k34 (w0 := w) w.heap.size (by rfl) (.tmp 30) (.tmp 31) 29 34 (.agg #[.int .i64 0, .slice none 0 0]) 32 rfl Try.underlying29 info34 rfl (by decide) (by omega) (.slice (some ⟨wa1.heap.size, 0, none⟩) 0 0) [] Qo (some ad) m0 co (fun k => ok k ∧ k ≠ g) (fun k => (ok k ∧ k < w.heap.size) ∧ k ≠ g) rfl rfl ?aO ?aR ?aK ?aF ?aB ?aS ?aL ?_
    (case aO => exact HNa.out)
    (case aR => exact Kd.F_step HFO.out (fun k hk _ => (HBa2.out.block k hk.1.2).trans (HB7.out.block k hk.1.2).symm))
    (case aK => exact fun k hk => ⟨⟨hk.1.1, hk.2⟩, fun e => by have h1 := Kd.N_base HNa.out k e.symm; have h2 := hk.1.2; omega⟩)
    (case aF => exact fun k hk => HFR.out k (Nat.le_trans HBa2.out.size hk))
    (case aB => exact HBa2.out)
    (case aS => exact HBa2.out.size)
    (case aL => have h1 := HJ.out; simp only [List.length_nil]; omega)
    intro v10 wa3 ho hbB hg hat
    obtain ⟨A10, n10, c10, rfl⟩ := N_slice3 ho
    rw [List.nil_append] at ho
    have HN10 := Aside0.mk ho
    have HBa3 := Aside0.mk hbB
    have HLT10 := Aside0.mk (show ∀ k, (Value.slice A10 n10 c10).ownBlock = some k → k < wa3.heap.size from Kd.N_lt ho)
    have HNB10 := Aside0.mk (show ∀ k, (Value.slice A10 n10 c10).ownBlock = some k → k ≠ B9 from fun k hk => by
    rcases hat with e | ⟨b, e, hb⟩
    · rw [e] at hk; exact HNB.out k hk
    · rw [e] at hk; injection hk with hk; have := HL9.out; omega)
    have HX9 := Aside0.mk ((hg.block B9 HL9.out (fun e => HNB.out B9 e.symm rfl)).trans HX9.out)
    have HNB := HNB10
    clear ho hbB hg hat
    refine hK.out _ _ ⟨pw_cell_below HBa3.out HY.out.1, pw_cell_below HBa3.out HY.out.2⟩ (fun hHeld => ?_)
    clear hK K
    refine norm_ (a' := ?_) ?_ ?_
    rotate_left
    · show Act.put _ (some 32) _ = _
      simp only [Act.put, List.setIfInBounds_toArray, List.set_cons_zero, List.set_cons_succ, i64_w, i32_w, xu32_w, xu8_w]
      rfl
    refine one_ (i := 10) (N := some 38) #[true, true, true, true, true, true, true, true, true, true, true, false] rfl rfl (one_of HT_.out (by kernel_rfl)) (by decide) (fun K hK => ?_)
    refine Kd.N_append_rows_step k34 (w0 := w) w.heap.size (by rfl) (.tmp 32) (.tmp 37) 29 34 (.agg #[.int .i64 0, .slice none 0 0]) 32 rfl Try.underlying29 info34 rfl (by decide) (by omega) (.slice A10 n10 c10) Qo [x] (some ⟨B9, 0, none⟩) 1 1 (fun k => ok k ∧ k ≠ g) (fun k => k = B9 ∨ ((ok k ∧ k < w.heap.size) ∧ k ≠ g)) rfl rfl ?aO ?aR ?aK ?aF ?aB ?aS ?aL ?_
    (case aO => exact HN10.out)
    (case aR => exact one_row HX9.out (Kd.F_step HD1.out.2 (fun k hk _ => (HBa3.out.block k hk.1.2).trans (HB7.out.block k hk.1.2).symm)) HNX.out HD1.out.1)
    (case aK => exact fun k hk => hk.elim (fun e => by subst e; exact ⟨HFR.out _ HGE9.out, fun e => HNB.out _ e.symm rfl⟩) (fun hk => ⟨⟨hk.1.1, hk.2⟩, fun e => by have h1 := Kd.N_base HN10.out k e.symm; have h2 := hk.1.2; omega⟩))
    (case aF => exact fun k hk => HFR.out k (Nat.le_trans HBa3.out.size hk))
    (case aB => exact HBa3.out)
    (case aS => exact HBa3.out.size)
    (case aL => have h1 := HJ.out; have h2 := HM0.out; omega)
    intro v11 wa4 ho hbB hg hat
    obtain ⟨A11, n11, c11, rfl⟩ := N_slice3 ho
    have HN11 := Aside0.mk ho
    have HBa4 := Aside0.mk hbB
    clear ho hbB hg hat
    refine hK.out _ _ ⟨pw_cell_below HBa4.out HY.out.1, pw_cell_below HBa4.out HY.out.2⟩ (fun hHeld => ?_)
    clear hK K
    refine norm_ (a' := ?_) ?_ ?_
    rotate_left
    · show Act.put _ (some 38) _ = _
      simp only [Act.put, List.setIfInBounds_toArray, List.set_cons_zero, List.set_cons_succ, i64_w, i32_w, xu32_w, xu8_w]
      rfl
    refine last_ (i := 11) (N := some 39) #[true, true, true, true, true, true, true, true, true, true, true, true] rfl rfl (one_of HT_.out (by kernel_rfl)) (by decide) (fun K hK => ?_)
    refine goes_ Try.func45 (by kernel_rfl) rfl #[.pointer (some ⟨g, 0, none⟩), .string s, .slice A11 n11 c11] (by rfl) rfl rfl (by (try simp only [List.map_toArray, List.map_cons, List.map_nil]); first | done | rfl) ?_
    with_reducible refine (rset_calls (HG.out.below HBa4.out) (fun k hk => HOKF.out k (Nat.le_trans HBa4.out.size hk)) HST.out HSM.out s (Kd.N_F HN11.out) (Kd.N_reads' HN11.out).1 (Kd.N_reads' HN11.out).2.1).mono ?_
    rintro e w12 ⟨rfl, v12, hR12, hC12⟩
    refine ⟨_, rfl, ?_⟩
    have HR12 := Aside0.mk hR12
    have HC12 := Aside0.mk ((Chg.of_below (fun _ => False) HBa4.out).trans hC12 (U := fun k => k = g) (fun _ _ e => e.elim) (fun _ _ e => e))
    clear hR12 hC12
    refine hK.out _ _ ?_
    clear hK K
    refine done_ (done_of HT_.out (by kernel_rfl)) ?_
    go_wp2_with (fail)
    go_ret
    refine ⟨rfl, v12, ?_, HC12.out⟩
    rw [HQO.out]
    exact HR12.out
end
end Go.Proofs.Ytlnipfmgdkiboaa.N
