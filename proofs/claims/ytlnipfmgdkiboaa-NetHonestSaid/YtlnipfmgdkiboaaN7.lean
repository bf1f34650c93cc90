/- The network by hand: Take. -/
import Derived.Test.YtlnipfmgdkiboaaN6
import Derived.OwnWalk
namespace Go.Proofs.Ytlnipfmgdkiboaa.N
open Go.RowKit Go.Proofs.Ytlnipfmgdkiboaa.Q Go.Proofs.YtlnipfmgdkiboaaW.PrintWords Go.Proofs.YtlnipfmgdkiboaaW.PrintLast Go.Proofs.YtlnipfmgdkiboaaW.PrintMore
set_option linter.unusedVariables false
set_option linter.unusedSimpArgs false
def take.T6 : Bool × List (List Nat × List Nat) := (true, [([], []), ([], []), ([], []), ([1, 2], [1, 2]), ([0, 3], [0, 3]), ([], []), ([], []), ([6], [6]), ([5, 7], [5, 7]), ([4, 8, 4], [4, 8]), ([9, 9, 0, 1, 2, 3, 4, 5, 6, 7, 8, 9], [0, 9])])
def take.B6 : List Nat := [0, 0, 0, 6, 15, 0, 0, 64, 224, 511, 1023]
theorem take.tab6 : rtab .any (opsOf Try.f11 6) = take.T6 := by kernel_rfl
theorem take.bits6 : waitsOk take.T6.2 take.B6 = true := by kernel_rfl
theorem blk_frozen' {w : World} {g : Nat} {t : TypeId} {cs : Array Value} (h : w.heap[g]? = some (.cells cs t (0, 0))) (i : Nat) : w.frozen? ⟨g, i, none⟩ = false := blk_frozen h i
/-- Two variables in memory, one made behind a call. -/
theorem two_boxes {w w6 w1 w8 : World} {b6 b8 : Nat} (hx6 : w6.heap[b6]? = some (.cells #[.int .i64 0, .slice none 0 0] 34 (0, 0))) (h6 : Below w.heap.size w w6) (h1 : Below w6.heap.size w6 w1) (hg8 : b8 = w1.heap.size) (h8 : Below w1.heap.size w1 w8) (hx8 : w8.heap[b8]? = some (.cells #[.int .i64 0, .slice none 0 0] 34 (0, 0))) :
    w8.cell? ⟨b8, 0, none⟩ = some (.int .i64 0) ∧ w8.cell? ⟨b8, 1, none⟩ = some (.slice none 0 0) ∧ w8.frozen? ⟨b8, 0, none⟩ = false ∧ w8.frozen? ⟨b8, 1, none⟩ = false ∧
    (∀ u v, ((w8.setCell ⟨b8, 0, none⟩ u).setCell ⟨b8, 1, none⟩ v).cell? ⟨b6, 0, none⟩ = some (.int .i64 0)) ∧ (∀ u v, ((w8.setCell ⟨b8, 0, none⟩ u).setCell ⟨b8, 1, none⟩ v).cell? ⟨b6, 1, none⟩ = some (.slice none 0 0)) ∧
    (∀ u v, ((w8.setCell ⟨b8, 0, none⟩ u).setCell ⟨b8, 1, none⟩ v).frozen? ⟨b6, 0, none⟩ = false) ∧ (∀ u v, ((w8.setCell ⟨b8, 0, none⟩ u).setCell ⟨b8, 1, none⟩ v).frozen? ⟨b6, 1, none⟩ = false) := by
  have hlt : b6 < w6.heap.size := heap_lt hx6
  have hne : b6 ≠ b8 := by have := h1.size; omega
  have h68 : w8.heap[b6]? = some (.cells #[.int .i64 0, .slice none 0 0] 34 (0, 0)) := blk_below (blk_below hx6 h1) h8
  have hs : ∀ u v, ((w8.setCell ⟨b8, 0, none⟩ u).setCell ⟨b8, 1, none⟩ v).heap[b6]? = some (.cells #[.int .i64 0, .slice none 0 0] 34 (0, 0)) := fun u v => (Below.heap_setCell _ ⟨b8, 1, none⟩ _ b6 hne).trans ((Below.heap_setCell _ ⟨b8, 0, none⟩ _ b6 hne).trans h68)
  exact ⟨(blk_cell hx8 0).trans rfl, (blk_cell hx8 1).trans rfl, blk_frozen hx8 0, blk_frozen hx8 1, fun u v => (blk_cell (hs u v) 0).trans rfl, fun u v => (blk_cell (hs u v) 1).trans rfl, fun u v => blk_frozen (hs u v) 0, fun u v => blk_frozen (hs u v) 1⟩
section
variable {w : World} {N M : Nat} {room : Int} {B : Nat} {own : Nat → Option ByteArray} {G : ByteArray → Option Value} {Q : ByteArray → List S34}
set_option maxHeartbeats 1000000 in
set_option maxRecDepth 100000 in
theorem take_out (h : NetG w N M room B own G Q) (s : ByteArray) (i : Int) (hi : ¬(0 ≤ i ∧ i < (Q s).length)) :
    Calls Try.prog 11 #[.pointer (some ⟨N, 0, none⟩), .string s, .int .i64 i] w fun e w' => e = .returned (.tuple #[.agg #[.int .i64 0, .slice none 0 0], .int .i64 4]) ∧ Below w.heap.size w w' := by
  have HI := Aside0.mk hi
  clear hi
  have HH := Aside0.mk h
  clear h
  go_enter Try.func11, Try.ntmps11
  go_wp2_with (first
    | (go_at_call 28; (with_reducible refine (find_out (HH.out.below HB6.out) s i HI.out).mono ?_); rintro e w1 ⟨rfl, hb⟩; have HB1 := Aside0.mk hb; clear hb)
    | ((with_reducible refine gate_dst (N := 6) rfl ?_); refine box_event ?hg (N := 6) ?hd (cs := #[.int .i64 0, .slice none 0 0]) (t := 34) ?hr ?_; (case hd => rfl); (case hg => rfl); (case hr => first | (go_simp; done) | (go_simp; rfl)); intro b6 hg w6 hbox hb; have HG6 := Aside0.mk hg; have HB6 := Aside0.mk hb; have HX6 := Aside0.mk hbox; clear hg hb hbox)
    | ((with_reducible refine gate_dst (N := 8) rfl ?_); refine box_event ?hg (N := 8) ?hd (cs := #[.int .i64 0, .slice none 0 0]) (t := 34) ?hr ?_; (case hd => rfl); (case hg => rfl); (case hr => first | (go_simp; done) | (go_simp; rfl)); intro b8 hg w8 hbox hb; have HG8 := Aside0.mk hg; have HB8 := Aside0.mk hb; have HX8 := Aside0.mk hbox; clear hg hb hbox; obtain ⟨e0, e1, e2, e3, g0, g1, g2, g3⟩ := two_boxes HX6.out HB6.out HB1.out HG8.out HB8.out HX8.out))
  have hne : b6 ≠ b8 := by have h1 := heap_lt HX6.out; have h2 := HB1.out.size; have h3 := HG8.out; omega
  have hb1 : Below w.heap.size w w8 := below_step (below_step HB6.out HB1.out) HB8.out
  have hb2 : w.heap.size ≤ b6 := Nat.le_of_eq HG6.out.symm
  have hb3 : w.heap.size ≤ b8 := by rw [HG8.out]; exact Nat.le_trans HB6.out.size HB1.out.size
  have hx6 : w8.heap[b6]? = some (.cells #[.int .i64 0, .slice none 0 0] 34 (0, 0)) := blk_below (blk_below HX6.out HB1.out) HB8.out
  refine bodyPost_ret (results_ct rfl _ _ b6 34 #[.int .i64 0, .slice none 0 0] (0, 0) _ rfl (blk_put (cs := #[.int .i64 0, .slice none 0 0]) (blk_put (cs := #[.int .i64 0, .slice none 0 0]) ((Below.heap_setCell _ ⟨b8, 1, none⟩ _ b6 hne).trans ((Below.heap_setCell _ ⟨b8, 0, none⟩ _ b6 hne).trans hx6)) 0 _ rfl) 1 _ rfl) Try.underlying34 rfl (by kernel_rfl)) rfl ?_
  exact ⟨rfl, below_set (below_set (below_set (below_set hb1 hb3) hb3) hb2) hb2⟩
/-- What is left when a letter has been taken. -/
def Took (w : World) (N M : Nat) (room : Int) (B : Nat) (own : Nat → Option ByteArray) (s : ByteArray) (Q' : ByteArray → List S34) (x : S34) (e : Ending) (w' : World) : Prop :=
  ∃ own' G' A1 c1, e = .returned (.tuple #[.agg #[.int .i64 x.f0, .slice A1 x.f1.length c1], .int .i64 0]) ∧ NetG w' N M room B own' G' Q' ∧ Chg (fun k => k = M ∨ own k = some s) w w' ∧ (∀ k, k < w.heap.size → own' k = own k) ∧ k34.M w' B (fun k => own' k = some s) x [.int .i64 x.f0, .slice A1 x.f1.length c1]
theorem wpList_mapUpdate_run {P : Program} (w : World) {ops : Array Oper} {rest : List Oper} {o : Oper} {a : Act} {Q : Exit → Act → World → Prop}
    (hg : o.guard = none) (m x v : Operand) (t : TypeId) (hop : o.op = Op.mapUpdate t m x v) (M K V : Value) (hm : a.eval m = M) (hx : a.eval x = K) (hv : a.eval v = V) (w1 : World)
    (hrun : (Instr.mapUpdate t M K V).run P w = .ok () w1) (hK : wpList P ops Q rest (a.put o.dst undef) w1) : wpList P ops Q (o :: rest) a w := by
  refine wpList_plain hg fun K' hK' => ?_
  unfold Oper.wp
  simp [execOp, hop, hm, hx, hv, hrun, Result.andThen]
  exact hK' _ _ hK
theorem rows_take {α : Type} {R : α → List Value → Prop} {size : Nat} {w : World} {A : Option Addr} {xs : List α} {m : Nat} (h : ReadsRow R size w A xs.length xs) (hm : m ≤ xs.length) : ReadsRow R size w A m (xs.take m) := by
  have hl : (xs.take m).length = m := by rw [List.length_take]; omega
  refine ⟨hl, by have := h.2.1; omega, fun hp => ?_⟩
  obtain ⟨ad, e, hc⟩ := h.2.2 (by omega)
  refine ⟨ad, e, fun j p hj => hc j p ?_⟩
  rw [List.getElem?_take] at hj
  split at hj
  · exact hj
  · cases hj
theorem rows_drop {α : Type} {R : α → List Value → Prop} {size : Nat} {w : World} {A : Option Addr} {xs : List α} {m c : Nat} (h : ReadsRow R size w A xs.length xs) (hm : m ≤ xs.length) (hc : xs.length ≤ c) : ReadsRow R size w (if c = m then A else A.map (·.add (m * size))) (xs.length - m) (xs.drop m) := by
  refine ⟨List.length_drop, by have := h.2.1; omega, fun hp => ?_⟩
  obtain ⟨ad, rfl, hcell⟩ := h.2.2 (by omega)
  rw [if_neg (by omega)]
  refine ⟨ad.add (m * size), rfl, fun j p hj => ?_⟩
  rw [List.getElem?_drop] at hj
  obtain ⟨cs, h1, h2, h3⟩ := hcell (m + j) p hj
  refine ⟨cs, h1, h2, fun i u hu => ?_⟩
  rw [add_add, show m * size + (j * size + i) = (m + j) * size + i by rw [Nat.add_mul]; omega]
  exact h3 i u hu
set_option maxHeartbeats 1000000 in
set_option maxRecDepth 100000 in
theorem take_calls (h : NetG w N M room B own G Q) (s : ByteArray) (j : Nat) (h1 : j < (Q s).length) (x : S34) (hx : (Q s).getD j z34 = x) :
    Calls Try.prog 11 #[.pointer (some ⟨N, 0, none⟩), .string s, .int .i64 j] w (Took w N M room B own s (setQ Q s ((Q s).take j ++ (Q s).drop (j + 1))) x) := by
  have HX := Aside0.mk (show (Q s).getD ((j : Int)).toNat z34 = x from hx)
  clear hx
  have HJ := Aside0.mk h1
  have HH := Aside0.mk h
  clear h h1
  obtain ⟨i34, hi34, hzz⟩ := Option.map_eq_some_iff.1 info34
  simp only [Prod.mk.injEq] at hzz
  obtain ⟨hz0, hz1, hz2⟩ := hzz
  have H34 := Aside0.mk hi34
  have HZ0 := Aside0.mk hz0
  have HZ1 := Aside0.mk hz1
  have HZ2 := Aside0.mk hz2
  clear hi34 hz0 hz1 hz2
  go_enter Try.func11, Try.ntmps11
  go_wp2_with (first
    | (go_at_call 28; (with_reducible refine (find_in' (HH.out.below HB6.out) s (j : Int) (by omega) (by have := HJ.out; omega) x HX.out).mono ?_); rintro e w1 ⟨A1, c1, rfl, hM, hb⟩; have HB1 := Aside0.mk hb; clear hb; have HM := Aside0.mk hM; clear hM)
    | ((with_reducible refine gate_dst (N := 6) rfl ?_); refine box_event ?hg (N := 6) ?hd (cs := #[.int .i64 0, .slice none 0 0]) (t := 34) ?hr ?_; (case hd => rfl); (case hg => rfl); (case hr => first | (go_simp; done) | (go_simp; rfl)); intro b6 hg w6 hbox hb; have HG6 := Aside0.mk hg; have HB6 := Aside0.mk hb; have HX6 := Aside0.mk hbox; clear hg hb hbox)
    | ((with_reducible refine gate_dst (N := 8) rfl ?_); refine box_event ?hg (N := 8) ?hd (cs := #[.int .i64 0, .slice none 0 0]) (t := 34) ?hr ?_; (case hd => rfl); (case hg => rfl); (case hr => first | (go_simp; done) | (go_simp; rfl)); intro b8 hg w8 hbox hb; have HG8 := Aside0.mk hg; have HB8 := Aside0.mk hb; have HX8 := Aside0.mk hbox; clear hg hb hbox; obtain ⟨e0, e1, e2, e3, g0, g1, g2, g3⟩ := two_boxes HX6.out HB6.out HB1.out HG8.out HB8.out HX8.out; have HN8 := (fun u v => (HH.out.below HB6.out).below (below_set (below_set (HB1.out.trans (HB8.out.mono HB1.out.size)) (by rw [HG8.out]; exact HB1.out.size) : Below w6.heap.size w6 (w8.setCell ⟨b8, 0, none⟩ u)) (by rw [HG8.out]; exact HB1.out.size) : Below w6.heap.size w6 ((w8.setCell ⟨b8, 0, none⟩ u).setCell ⟨b8, 1, none⟩ v))); obtain ⟨Ag, cg, hvg, hcg, _⟩ := Kd.R_reads ((HN8 undef undef).rows s); have k1 := (fun u v => (HN8 u v).cell.2); have k2 := (fun u v => (HN8 u v).look s); rw [hvg] at k2; have HN8' := Aside0.mk HN8; have HVG := Aside0.mk hvg; have HCG := Aside0.mk hcg; clear HN8 hvg hcg)
    | ((with_reducible refine gate_dst (N := 31) rfl ?_); refine wpList_make_own _ rfl _ _ 29 rfl B 34 i34 (.agg #[.int .i64 0, .slice none 0 0]) 2 Try.underlying29 H34.out HZ0.out HZ1.out .i64 .i64 _ (Q s).length rfl rfl rfl ?b2 ?b3 ?b4 ?_; (case b2 => have q1 := HH.out.few s; have q2 := HH.out.room2; have q3 := HZ2.out; rw [q3]; omega); (case b3 => have q1 := HH.out.few s; have q2 := HH.out.room2; unfold maxLen; omega); (case b4 => exact Nat.le_trans (HH.out.baseM) (Nat.le_of_lt (HN8'.out _ _).map.lt)); intro w9 hown9 hg9; have HOWN9 := Aside0.mk hown9; have HG9 := Aside0.mk hg9; clear hown9 hg9))
  have W8s := Aside0.mk (show w8.heap.size = ((w8.setCell ⟨b8, 0, none⟩ (.int .i64 x.f0)).setCell ⟨b8, 1, none⟩ (.slice A1 x.f1.length c1)).heap.size by simp [World.setCell])
  rw [W8s.out]
  have hb68 : Below w6.heap.size w6 ((w8.setCell ⟨b8, 0, none⟩ (.int .i64 x.f0)).setCell ⟨b8, 1, none⟩ (.slice A1 x.f1.length c1)) := below_set (below_set (HB1.out.trans (HB8.out.mono HB1.out.size)) (by rw [HG8.out]; exact HB1.out.size)) (by rw [HG8.out]; exact HB1.out.size)
  have HN := Aside0.mk (HN8'.out (.int .i64 x.f0) (.slice A1 x.f1.length c1))
  have HM8 := Aside0.mk (Kd.M_below HM.out hb68)
  have HWW := Aside0.mk (below_step HB6.out hb68)
  have hne : b6 ≠ b8 := by have h1 := heap_lt HX6.out; have h2 := HB1.out.size; have h3 := HG8.out; omega
  have HNE := Aside0.mk hne
  have HY8 := Aside0.mk (blk_put (cs' := #[.int .i64 x.f0, .slice A1 x.f1.length c1]) (blk_put (cs' := #[.int .i64 x.f0, .slice none 0 0]) HX8.out 0 (.int .i64 x.f0) rfl) 1 (.slice A1 x.f1.length c1) rfl)
  have HY6 := Aside0.mk (blk_below HX6.out hb68)
  have HL6 := Aside0.mk (show w.heap.size ≤ b6 from Nat.le_of_eq HG6.out.symm)
  have HL8 := Aside0.mk (show w.heap.size ≤ b8 by rw [HG8.out]; exact Nat.le_trans HB6.out.size HB1.out.size)
  clear e0 e1 e2 e3 g0 g1 g2 g3 k1 k2 hb68 hne HN8' HX6 HX8 HM W8s
  generalize ((w8.setCell ⟨b8, 0, none⟩ (.int .i64 x.f0)).setCell ⟨b8, 1, none⟩ (.slice A1 x.f1.length c1)) = W8 at *
  -- the row that is read, and the one that is made
  have hrw := HN.out.rows s
  rw [HVG.out] at hrw
  have HFEW := Aside0.mk (HN.out.few s)
  have HSH := Aside0.mk (HN.out.short s)
  generalize hQe : Q s = Qs at *
  have HQE := Aside0.mk hQe
  clear hQe
  obtain ⟨g, hAg⟩ : ∃ g, Ag = some ⟨g, 0, none⟩ := by
    obtain ⟨g, c, e, _⟩ := Kd.R_form hrw (by have := HJ.out; omega)
    injection e with e1 _ _
    exact ⟨g, e1⟩
  subst hAg
  have HOG := Aside0.mk (hrw.1 g (by simp [Value.ownBlock]))
  obtain ⟨Ar, cr, hre, _, hrd⟩ := OwnRow.reads hrw.2
  injection hre with hr1 _ hr2
  subst hr1 hr2
  have HRD := Aside0.mk hrd
  clear hrd hrw
  have HLT := Aside0.mk (HN.out.lt)
  have hcut1 := cut_to (P := Try.prog) 29 34 .i64 Try.underlying29 H34.out (some ⟨g, 0, none⟩) Qs.length cg (j : Int) (by omega) (by have := HJ.out; omega) HCG.out
  have hcut2 := cut_from (P := Try.prog) 29 34 .i64 Try.underlying29 H34.out 2 HZ1.out (some ⟨g, 0, none⟩) Qs.length cg ((j : Int) + 1) (by omega) (by have := HJ.out; omega)
  have hwr : wrap64 ((j : Int) + 1) = (j : Int) + 1 := wrap64_self (by omega) (by have h1 := HJ.out; have h2 := HFEW.out; have h3 := HN.out.room2; omega)
  have ht1 : ((j : Int) + 1).toNat = j + 1 := by omega
  rw [Int.toNat_natCast] at hcut1
  rw [ht1] at hcut2
  have HTK := Aside0.mk (rows_take (m := j) HRD.out (Nat.le_of_lt HJ.out))
  have HDR := Aside0.mk (rows_drop (m := j + 1) HRD.out HJ.out HCG.out)
  have hk34 : k34.sz = 2 := rfl
  rw [hk34] at HDR
  generalize hA2 : (if cg = j + 1 then (some (⟨g, 0, none⟩ : Addr)) else (some (⟨g, 0, none⟩ : Addr)).map (·.add ((j + 1) * 2))) = A2 at *
  clear hA2 hk34 ht1
  refine start_ (n := 11) (S := fun w' => True) (ds := []) #[false, false, false, false, false, false, false, false, false, false, false] (by kernel_rfl) rfl rfl trivial (fun hHeld => ?_); refine with_tabW take.tab6 take.bits6 (fun HT_ HW_ => ?_)
  have HB9 := Aside0.mk (show Below W8.heap.size W8 w9.drew from below_drew1 ⟨HG9.out.os, HG9.out.tape, HG9.out.output, HG9.out.size, fun k hk => HG9.out.block k hk (by simp)⟩)
  have HOWN9' := Aside0.mk (show w9.drew.ownsRow B 34 2 (.slice (some ⟨W8.heap.size, 0, none⟩) 0 Qs.length) 0 [] from HOWN9.out)
  have HBS := Aside0.mk (show B ≤ W8.heap.size from Nat.le_trans HN.out.baseM (Nat.le_of_lt HN.out.map.lt))
  clear HOWN9 HG9
  generalize w9.drew = W9 at *
  have HOWN9 := HOWN9'
  clear HOWN9'
  refine pure_ (i := 0) (N := some 32) (v := ?_) (a' := ?_) #[true, false, false, false, false, false, false, false, false, false, false] rfl rfl (any_of HT_.out (by kernel_rfl)) (fun _ _ _ h => h) (Or.inl ⟨by rfl, ?_⟩) ?_ ?_
  rotate_left
  · intro w'
    go_simp
    with_reducible rfl
  rotate_left
  · simp only [Act.put, List.setIfInBounds_toArray, List.set_cons_zero, List.set_cons_succ, i64_w, i32_w, xu32_w, xu8_w]
    rfl
  refine pure_ (i := 1) (N := some 33) (v := ?_) (a' := ?_) #[true, true, false, false, false, false, false, false, false, false, false] rfl rfl (any_of HT_.out (by kernel_rfl)) (fun _ _ _ h => h) (Or.inl ⟨by rfl, ?_⟩) ?_ ?_
  rotate_left
  · intro w'
    go_simp
    with_reducible rfl
  rotate_left
  · simp only [Act.put, List.setIfInBounds_toArray, List.set_cons_zero, List.set_cons_succ, i64_w, i32_w, xu32_w, xu8_w]
    rfl
  refine pure_ (i := 2) (N := some 34) (v := ?_) (a' := ?_) #[true, true, true, false, false, false, false, false, false, false, false] rfl rfl (any_of HT_.out (by kernel_rfl)) (fun _ _ _ h => h) (Or.inl ⟨by rfl, ?_⟩) ?_ ?_
  rotate_left
  · intro w'
    go_simp
    with_reducible rfl
  rotate_left
  · simp only [Act.put, List.setIfInBounds_toArray, List.set_cons_zero, List.set_cons_succ, i64_w, i32_w, xu32_w, xu8_w]
    rfl
  refine pure_ (i := 3) (N := some 35) (v := ?_) (a' := ?_) #[true, true, true, true, false, false, false, false, false, false, false] rfl rfl (any_of HT_.out (by kernel_rfl)) (fun _ _ _ h => h) (Or.inl ⟨by rfl, ?_⟩) ?_ ?_
  rotate_left
  · intro w'
    go_simp
    with_reducible rfl
  rotate_left
  · simp only [Act.put, List.setIfInBounds_toArray, List.set_cons_zero, List.set_cons_succ, i64_w, i32_w, xu32_w, xu8_w]
    rfl
  refine pure_ (i := 5) (N := some 37) (v := ?_) (a' := ?_) #[true, true, true, true, false, true, false, false, false, false, false] rfl rfl (any_of HT_.out (by kernel_rfl)) (fun _ _ _ h => h) (Or.inl ⟨by rfl, ?_⟩) ?_ ?_
  rotate_left
  · intro w'
    go_simp
    with_reducible rfl
  rotate_left
  · simp only [Act.put, List.setIfInBounds_toArray, List.set_cons_zero, List.set_cons_succ, i64_w, i32_w, xu32_w, xu8_w]
    rfl
  refine pure_ (i := 6) (N := some 38) (v := ?_) (a' := ?_) #[true, true, true, true, false, true, true, false, false, false, false] rfl rfl (any_of HT_.out (by kernel_rfl)) (fun _ _ _ h => h) (Or.inl ⟨by rfl, ?_⟩) ?_ ?_
  rotate_left
  · intro w'
    go_simp
    with_reducible rfl
  rotate_left
  · simp only [Act.put, List.setIfInBounds_toArray, List.set_cons_zero, List.set_cons_succ, i64_w, i32_w, xu32_w, xu8_w]
    rfl
  refine pure_ (i := 7) (N := some 39) (v := ?_) (a' := ?_) #[true, true, true, true, false, true, true, true, false, false, false] rfl rfl (any_of HT_.out (by kernel_rfl)) (fun _ _ _ h => h) (Or.inl ⟨by rfl, ?_⟩) ?_ ?_
  rotate_left
  · intro w'
    go_simp
    with_reducible rfl
  rotate_left
  · simp only [Act.put, List.setIfInBounds_toArray, List.set_cons_zero, List.set_cons_succ, i64_w, i32_w, xu32_w, xu8_w]
    rfl
  refine pure_ (i := 8) (N := some 40) (v := ?_) (a' := ?_) #[true, true, true, true, false, true, true, true, true, false, false] rfl rfl (any_of HT_.out (by kernel_rfl)) (fun _ _ _ h => h) (Or.inl ⟨by rfl, ?_⟩) ?_ ?_
  rotate_left
  · intro w'
    go_simp
    with_reducible rfl
  rotate_left
  · simp only [Act.put, List.setIfInBounds_toArray, List.set_cons_zero, List.set_cons_succ, i64_w, i32_w, xu32_w, xu8_w]
    rfl
  refine one_ (i := 4) (N := some 36) #[true, true, true, true, true, true, true, true, true, false, false] rfl rfl (one_of HT_.out (by kernel_rfl)) (by decide) (fun K hK => ?_)
  refine Kd.R_append_rows_step k34 (Rr := k34.M W8 B (fun k => own k = some s ∧ some k ≠ (Value.slice (some ⟨g, 0, none⟩) Qs.length cg).ownBlock)) (w0 := W9) B (by rfl) (.tmp 32) (.tmp 35) 29 34 (.agg #[.int .i64 0, .slice none 0 0]) 32 rfl Try.underlying29 info34 rfl (by decide) (by omega) (.slice (some ⟨W8.heap.size, 0, none⟩) 0 Qs.length) [] (Qs.take j) (some ⟨g, 0, none⟩) j cg (fun k => own k = some s ∨ W8.heap.size ≤ k) (fun k => own k = some s) rfl rfl ?aO ?aR ?aM ?aK ?aF ?aB ?aS ?aL ?_
  (case aO => exact ⟨fun k hk => .inr (by simp only [Value.ownBlock, Option.map_some, Option.some.injEq] at hk; omega), [], HOWN9.out, Reps.none _ _⟩)
  (case aR => exact ReadsRow.imp_ HTK.out HB9.out (fun _ _ hp => hp))
  (case aM => exact fun y cs hp => k34.M_mono (fun _ hk => hk.1) (Kd.M_below hp HB9.out))
  (case aK => exact fun k hk => ⟨.inl hk, fun e => by simp only [Value.ownBlock, Option.map_some, Option.some.injEq] at e; have := (HLT.out k s hk).2; omega⟩)
  (case aF => exact fun k hk => .inr (Nat.le_trans HB9.out.size hk))
  (case aB => exact Below.refl _ _)
  (case aS => exact Nat.le_trans HBS.out HB9.out.size)
  (case aL => have h1 := HJ.out; have h2 := HFEW.out; have h3 := HN.out.room2; simp only [List.length_nil]; omega)
  intro v10 w10 ho hbB hg hat
  obtain ⟨A10, c10, rfl⟩ := Kd.R_slice ho
  rw [List.nil_append] at ho hat ⊢
  rw [show (Qs.take j).length = j by rw [List.length_take]; have := HJ.out; omega] at ho hat ⊢
  have HV10 := Aside0.mk (show ∀ k, (Value.slice A10 j c10).ownBlock = some k → W8.heap.size ≤ k from fun k hk => by
    rcases hat with e | ⟨b, e, hb⟩
    · rw [e] at hk; simp only [Value.ownBlock, Option.map_some, Option.some.injEq] at hk; omega
    · rw [e] at hk; injection hk with hk; have := HB9.out.size; omega)
  have HB10 := Aside0.mk (HB9.out.trans ⟨hg.os, hg.tape, hg.output, hg.size, fun k hk => hg.block k (Nat.lt_of_lt_of_le hk HB9.out.size) (fun e => by simp only [Value.ownBlock, Option.map_some, Option.some.injEq] at e; omega)⟩)
  have HR10 := Aside0.mk ho
  clear ho hbB hg hat
  refine hK.out _ _ trivial (fun hHeld => ?_)
  clear hK K
  refine norm_ (a' := ?_) ?_ ?_
  rotate_left
  · show Act.put _ (some 36) _ = _
    simp only [Act.put, List.setIfInBounds_toArray, List.set_cons_zero, List.set_cons_succ, i64_w, i32_w, xu32_w, xu8_w]
    rfl
  refine one_ (i := 9) (N := some 41) #[true, true, true, true, true, true, true, true, true, true, false] rfl rfl (one_of HT_.out (by kernel_rfl)) (by decide) (fun K hK => ?_)
  refine Kd.R_append_rows_step k34 (Rr := k34.M W8 B (fun k => own k = some s ∧ some k ≠ (Value.slice (some ⟨g, 0, none⟩) Qs.length cg).ownBlock)) (w0 := w10) B (by rfl) (.tmp 36) (.tmp 40) 29 34 (.agg #[.int .i64 0, .slice none 0 0]) 32 rfl Try.underlying29 info34 rfl (by decide) (by omega) (.slice A10 j c10) (Qs.take j) (Qs.drop (j + 1)) A2 (Qs.length - (j + 1)) (cg - (j + 1)) (fun k => own k = some s ∨ W8.heap.size ≤ k) (fun k => own k = some s) rfl rfl ?aO ?aR ?aM ?aK ?aF ?aB ?aS ?aL ?_
  (case aO => exact HR10.out)
  (case aR => exact ReadsRow.imp_ HDR.out HB10.out (fun _ _ hp => hp))
  (case aM => exact fun y cs hp => k34.M_mono (fun _ hk => hk.1) (Kd.M_below hp HB10.out))
  (case aK => exact fun k hk => ⟨.inl hk, fun e => by have h1 := HV10.out k e.symm; have := (HLT.out k s hk).2; omega⟩)
  (case aF => exact fun k hk => .inr (Nat.le_trans HB10.out.size hk))
  (case aB => exact Below.refl _ _)
  (case aS => exact Nat.le_trans HBS.out HB10.out.size)
  (case aL => have h1 := HJ.out; have h2 := HFEW.out; have h3 := HN.out.room2; rw [List.length_take]; omega)
  intro v11 w11 ho hbB hg hat
  obtain ⟨A11, c11, rfl⟩ := Kd.R_slice ho
  rw [show (Qs.take j ++ Qs.drop (j + 1)).length = Qs.length - 1 by rw [List.length_append, List.length_take, List.length_drop]; have := HJ.out; omega] at ho hat ⊢
  have HB11 := Aside0.mk (HB10.out.trans ⟨hg.os, hg.tape, hg.output, hg.size, fun k hk => hg.block k (Nat.lt_of_lt_of_le hk HB10.out.size) (fun e => by have := HV10.out k e.symm; omega)⟩)
  have HR11 := Aside0.mk ho
  clear ho hbB hg hat
  refine hK.out _ _ trivial (fun hHeld => ?_)
  clear hK K
  refine norm_ (a' := ?_) ?_ ?_
  rotate_left
  · show Act.put _ (some 41) _ = _
    simp only [Act.put, List.setIfInBounds_toArray, List.set_cons_zero, List.set_cons_succ, i64_w, i32_w, xu32_w, xu8_w]
    rfl
  refine pure_ (i := 10) (N := some 11) (v := ?_) (a' := ?_) #[true, true, true, true, true, true, true, true, true, true, true] rfl rfl (any_of HT_.out (by kernel_rfl)) (fun _ _ _ h => h) (Or.inl ⟨by rfl, ?_⟩) ?_ ?_
  rotate_left
  · intro w'
    go_simp
    with_reducible rfl
  rotate_left
  · simp only [Act.put, List.setIfInBounds_toArray, List.set_cons_zero, List.set_cons_succ, i64_w, i32_w, xu32_w, xu8_w]
    rfl
  refine done_ (done_of HT_.out (by kernel_rfl)) ?_
  have HN11 := Aside0.mk (HN.out.below HB11.out)
  obtain ⟨w12, hrun12, hM12, a1, a2, a3, a4, a5⟩ := HN11.out.map.put (P := Try.prog) Try.underlying60 Try.underlying9 s (.slice A11 (Qs.length - 1) c11)
  have n1 := HN11.out.cell.2
  have hl11 : (((Qs.take j ++ Qs.drop (j + 1)).length : Nat) : Int) ≤ room := by
    have h1 := HFEW.out
    have h2 := HJ.out
    rw [List.length_append, List.length_take, List.length_drop]
    omega
  have hs11 : ∀ y ∈ Qs.take j ++ Qs.drop (j + 1), y.f1.length < 140737488355328 := fun y hy => by
    rcases List.mem_append.1 hy with h | h
    · exact HSH.out y (List.mem_of_mem_take h)
    · exact HSH.out y (List.mem_of_mem_drop h)
  have HMA := Aside0.mk hM12
  have HE5 := Aside0.mk a5
  have HE := Aside0.mk (And.intro a1 (And.intro a2 (And.intro a3 a4)))
  have HL11 := Aside0.mk hl11
  have HS11 := Aside0.mk hs11
  have hMl := HN.out.map.lt
  have HMN := Aside0.mk (show N ≠ M from HN.out.ne)
  have HM6 := Aside0.mk (show b6 ≠ M from fun e => by have := HL6.out; have h1 := HH.out.map.lt; omega)
  have HM8' := Aside0.mk (show b8 ≠ M from fun e => by have := HL8.out; have h1 := HH.out.map.lt; omega)
  have HC12 := Aside0.mk ((HE5.out N HMN.out).trans HN11.out.cells)
  have HY8_12 := Aside0.mk ((HE5.out b8 HM8'.out).trans (blk_below HY8.out HB11.out))
  have HY6_12 := Aside0.mk ((HE5.out b6 HM6.out).trans (blk_below HY6.out HB11.out))
  clear hM12 a1 a2 a3 a4 a5 hl11 hs11 hMl
  have fin : ∀ (w4 : World) (G' : ByteArray → Option Value) (v2 : Value), k34.R 34 w11 B (fun k => own k = some s ∨ W8.heap.size ≤ k) v2 (Qs.take j ++ Qs.drop (j + 1)) → MapF w4 M G' → (∀ t, (G' t).getD (.slice none 0 0) = if t = s then v2 else (G t).getD (.slice none 0 0)) → w4.os = w11.os → w4.tape = w11.tape → w4.output = w11.output → w4.heap.size = w11.heap.size → (∀ k, k ≠ M → w4.heap[k]? = w11.heap[k]?) →
      Took w N M room B own s (setQ Q s (Qs.take j ++ Qs.drop (j + 1))) x (.returned (.tuple #[.agg #[.int .i64 x.f0, .slice A1 x.f1.length c1], .int .i64 0])) ((w4.setCell ⟨b6, 0, none⟩ (.int .i64 x.f0)).setCell ⟨b6, 1, none⟩ (.slice A1 x.f1.length c1)) := by
    intro w4 G' v2 hR hm hG d1 d2 d3 d4 d5
    obtain ⟨hN4, hC4⟩ := turned HN.out s v2 _ G' (Chg.of_below _ HB11.out) hR HL11.out HS11.out hm hG d1 d2 d3 d4 d5
    have hsz : ((w4.setCell ⟨b6, 0, none⟩ (.int .i64 x.f0)).setCell ⟨b6, 1, none⟩ (.slice A1 x.f1.length c1)).heap.size = w4.heap.size := by simp [World.setCell]
    have hfar : ∀ k, k ≠ b6 → ((w4.setCell ⟨b6, 0, none⟩ (.int .i64 x.f0)).setCell ⟨b6, 1, none⟩ (.slice A1 x.f1.length c1)).heap[k]? = w4.heap[k]? := fun k hk => (Below.heap_setCell _ ⟨b6, 1, none⟩ _ k hk).trans (Below.heap_setCell _ ⟨b6, 0, none⟩ _ k hk)
    have hold : ∀ k, k < w.heap.size → ownNew own s W8.heap.size w4.heap.size k = own k := fun k hk => by
      have := HWW.out.size
      unfold ownNew
      rw [if_neg (by omega)]
    have hb6o : ownNew own s W8.heap.size w4.heap.size b6 = none := by
      have h1 : b6 < W8.heap.size := heap_lt HY6.out
      unfold ownNew
      rw [if_neg (by omega)]
      cases ho : own b6 with
      | none => rfl
      | some t => have := (HH.out.lt b6 t ho).2; have := HL6.out; omega
    have hb6n : b6 ≠ N := fun e => by have h1 := heap_lt HH.out.cells; have := HL6.out; omega
    refine ⟨_, _, A1, c1, rfl, hN4.move (Nat.le_of_eq hsz.symm) (fun k hk e => hfar k (fun e' => ?_)), ⟨hC4.os.trans HWW.out.os, hC4.tape.trans HWW.out.tape, hC4.output.trans HWW.out.output, by rw [hsz]; exact Nat.le_trans HWW.out.size hC4.size, fun k hk hn => ?_, fun k cells hk => by rw [hfar k (fun e => by have := HL6.out; have := heap_lt hk; omega), hC4.five k cells ((HWW.out.block k (heap_lt hk)).trans hk)]; exact HWW.out.block k (heap_lt hk)⟩, hold, ?_⟩
    · subst e'
      rcases e with e | e | e
      · exact hb6n e
      · exact HM6.out e
      · exact e hb6o
    · rw [hfar k (fun e => by have := HL6.out; omega), hC4.block k (Nat.lt_of_lt_of_le hk HWW.out.size) hn]
      exact HWW.out.block k hk
    · have h1 : k34.M w11 B (fun k => own k = some s) x [.int .i64 x.f0, .slice A1 x.f1.length c1] := Kd.M_below HM8.out HB11.out
      have h2 := k34.M_mono (fun k hk => (⟨hk, (HH.out.lt k s hk).2⟩ : own k = some s ∧ k < w.heap.size)) h1
      refine k34.M_mono (fun k hk => (hold k hk.2).trans hk.1) (Kd.M_step h2 (fun k hk _ => ?_))
      rw [hfar k (fun e => by have := HL6.out; have := hk.2; omega)]
      exact d5 k (fun e => by subst e; have := hk.1; rw [HH.out.notM] at this; cases this)
  have FIN := Aside0.mk fin
  clear fin hcut1 hcut2 hwr
  by_cases hq : Qs.length = 1
  · have hm0 : Qs.length - 1 = 0 := by omega
    have HQ0 := Aside0.mk hq
    rw [hm0] at hrun12 HMA ⊢
    obtain ⟨w13, hrun13, hM13, b1, b2, b3, b4, b5⟩ := HMA.out.drop (P := Try.prog) (ty := 0) Try.underlying60 Try.underlying9 s
    have n2 : w12.cell? ⟨N, 1, none⟩ = some (.map (some M)) := (blk_cell HC12.out 1).trans rfl
    have y0 : w13.cell? ⟨b8, 0, none⟩ = some (.int .i64 x.f0) := (blk_cell ((b5 b8 HM8'.out).trans HY8_12.out) 0).trans rfl
    have y1 : w13.cell? ⟨b8, 1, none⟩ = some (.slice A1 x.f1.length c1) := (blk_cell ((b5 b8 HM8'.out).trans HY8_12.out) 1).trans rfl
    have hz6 := (b5 b6 HM6.out).trans HY6_12.out
    have z0 : w13.cell? ⟨b6, 0, none⟩ = some (.int .i64 0) := (blk_cell hz6 0).trans rfl
    have z1 : w13.cell? ⟨b6, 1, none⟩ = some (.slice none 0 0) := (blk_cell hz6 1).trans rfl
    have f0 := blk_frozen hz6 0
    have f1 := blk_frozen hz6 1
    have HZ6 := Aside0.mk hz6
    have HM13 := Aside0.mk hM13
    have HB5 := Aside0.mk b5
    have HBE := Aside0.mk (And.intro b1 (And.intro b2 (And.intro b3 b4)))
    clear hz6 hM13 b1 b2 b3 b4 b5 hq hm0
    go_wp2_with (at_mapUpdate; refine wpList_mapUpdate_run _ rfl (.tmp 45) (.tmp 46) (.tmp 47) 60 rfl _ _ _ rfl rfl rfl _ hrun12 ?_)
    refine bodyPost_ret (results_ct rfl _ _ b6 34 #[.int .i64 x.f0, .slice A1 x.f1.length c1] (0, 0) _ rfl (blk_put (cs := #[.int .i64 x.f0, .slice none 0 0]) (blk_put (cs := #[.int .i64 0, .slice none 0 0]) HZ6.out 0 _ rfl) 1 _ rfl) Try.underlying34 rfl (by kernel_rfl)) rfl ?_
    have hnil : Qs.take j ++ Qs.drop (j + 1) = [] := List.eq_nil_of_length_eq_zero (by have h1 := HQ0.out; have h2 := HJ.out; rw [List.length_append, List.length_take, List.length_drop]; omega)
    exact FIN.out w13 _ (.slice none 0 0) (by rw [hnil]; exact Kd.R_nil _ _ _ _ _) HM13.out (fun t => by by_cases h : t = s <;> simp [h]) (HBE.out.1.trans HE.out.1) (HBE.out.2.1.trans HE.out.2.1) (HBE.out.2.2.1.trans HE.out.2.2.1) (HBE.out.2.2.2.trans HE.out.2.2.2) (fun k hk => (HB5.out k hk).trans (HE5.out k hk))
  · have hmi : ¬ ((Qs.length - 1 : Nat) : Int) = 0 := by have := HJ.out; omega
    have HR' := HR11
    generalize Qs.length - 1 = m at *
    have y0 : w12.cell? ⟨b8, 0, none⟩ = some (.int .i64 x.f0) := (blk_cell HY8_12.out 0).trans rfl
    have y1 : w12.cell? ⟨b8, 1, none⟩ = some (.slice A1 x.f1.length c1) := (blk_cell HY8_12.out 1).trans rfl
    have z0 : w12.cell? ⟨b6, 0, none⟩ = some (.int .i64 0) := (blk_cell HY6_12.out 0).trans rfl
    have z1 : w12.cell? ⟨b6, 1, none⟩ = some (.slice none 0 0) := (blk_cell HY6_12.out 1).trans rfl
    have f0 := blk_frozen HY6_12.out 0
    have f1 := blk_frozen HY6_12.out 1
    clear hq
    go_wp2_with (at_mapUpdate; refine wpList_mapUpdate_run _ rfl (.tmp 45) (.tmp 46) (.tmp 47) 60 rfl _ _ _ rfl rfl rfl _ hrun12 ?_)
    refine bodyPost_ret (results_ct rfl _ _ b6 34 #[.int .i64 x.f0, .slice A1 x.f1.length c1] (0, 0) _ rfl (blk_put (cs := #[.int .i64 x.f0, .slice none 0 0]) (blk_put (cs := #[.int .i64 0, .slice none 0 0]) HY6_12.out 0 _ rfl) 1 _ rfl) Try.underlying34 rfl (by kernel_rfl)) rfl ?_
    exact FIN.out w12 _ (.slice A11 m c11) HR11.out HMA.out (fun t => by by_cases h : t = s <;> simp [h]) HE.out.1 HE.out.2.1 HE.out.2.2.1 HE.out.2.2.2 HE5.out
end
end Go.Proofs.Ytlnipfmgdkiboaa.N
