/- Patterns by hand: the recovering closure (mkX10.py). -/
import Derived.Test.YtmfpikhmeacnbaaDoorX9
import Derived.Defers
import Derived.Recover
import Derived.Laws.Pointers
namespace Go.Proofs.YtmfpikhmeacnbaaDoor.X
open Go.RowKit Go.Proofs.YtmfpikhmeacnbaaDoor.Q Go.Proofs.YtmfpikhmeacnbaaDoorW.PrintWords Go.Proofs.YtmfpikhmeacnbaaDoorW.PrintLast Go.Proofs.YtmfpikhmeacnbaaDoorW.PrintMore
set_option linter.unusedVariables false
set_option linter.unusedSimpArgs false
/-- What the closure turns: the three results. -/
structure Lft3 (X A E : Nat) (w w' : World) : Prop where
  os : w'.os = w.os
  tape : w'.tape = w.tape
  output : w'.output = w.output
  size : w.heap.size ≤ w'.heap.size
  block : ∀ k, k < w.heap.size → k ≠ X → k ≠ A → k ≠ E → w'.heap[k]? = w.heap[k]?
theorem catch_idle (R X A E : Nat) (w : World) :
    CallsD Tryd.prog 21 #[.pointer (some ⟨R, 0, none⟩), .pointer (some ⟨X, 0, none⟩), .pointer (some ⟨A, 0, none⟩), .pointer (some ⟨E, 0, none⟩)] .returning w fun e u' w' => e = .returned (.tuple #[]) ∧ u' = .returning ∧ w' = w := by
  refine callsD_of_wpS Tryd.func21 rfl fun c₀ cs hu => ?_
  simp only [Tryd.ntmps21, List.size_toArray, List.length_cons, List.length_nil, Nat.reduceAdd, Nat.reduceSub, Array.replicate_succ, Array.replicate_zero, List.push_toArray, List.append_toArray, List.nil_append, List.cons_append]
  apply wpS_seq
  apply wpS_region
  simp [wpOpsS, go_sem, recoverD, hu, Exit.thenS]
  refine wpS_of_wp ?_
  go_wp2_with (fail)
  cases c₀
  simp_all [bodyPostS, results, Tryd.results21]
theorem size50 : (Tryd.prog.info? 50).map (·.size) = some 2 := by kernel_rfl
theorem assert50 (W : World) (v : Value) : (Instr.typeAssert (.iface 50 v) 20 50 true).run Tryd.prog W = .ok (.tuple #[v, .bool true]) W := by kernel_rfl
theorem range_blk {w : World} {B : Nat} {t : TypeId} {cs : List Value} (h : w.heap[B]? = some (.cells cs.toArray t (0, 0))) : w.rangeAt B 0 cs := fun j v hv => by
  rw [Nat.zero_add, blk_cell h j]
  simpa using hv
section
variable {ops : Array Oper} {rest : List Oper} {op : Oper} {a : Act} {w : World} {Q : Exit → Act → World → Prop}
theorem load_blk (hgd : op.guard = none) (t : TypeId) (x : Operand) (ho : op.op = .load t x) (B : Nat) (hx : a.eval x = .pointer (some ⟨B, 0, none⟩)) (cs : List Value) (h : w.heap[B]? = some (.cells cs.toArray t (0, 0))) (d : TypeDesc) (hu : Tryd.prog.underlying t = some d) (hd : d.isRow = true) (hi : (Tryd.prog.info? t).map (·.size) = some cs.length)
    (hk : wpList Tryd.prog ops Q rest (a.put op.dst (.agg cs.toArray)) w) : wpList Tryd.prog ops Q (op :: rest) a w :=
  wpList_load_mid hgd t x ho B 0 hx cs d (range_blk h) hu hd hi hk
theorem store_blk (hgd : op.guard = none) (t : TypeId) (x y : Operand) (ho : op.op = .store t x y) (B : Nat) (cs cs' : List Value) (hx : a.eval x = .pointer (some ⟨B, 0, none⟩)) (hy : a.eval y = .agg cs'.toArray) (h : w.heap[B]? = some (.cells cs.toArray t (0, 0))) (hl : cs'.length = cs.length) (hi : (Tryd.prog.info? t).map (·.size) = some cs'.length) (h1 : ∀ v ∈ cs', v.oneCell' = true)
    (hk : ∀ w1, w1.heap[B]? = some (.cells cs'.toArray t (0, 0)) → (∀ k, k ≠ B → w1.heap[k]? = w.heap[k]?) → (∀ W : World, W.heap.size ≤ B → Below W.heap.size W w → Below W.heap.size W w1) → wpList Tryd.prog ops Q rest (a.put op.dst undef) w1) : wpList Tryd.prog ops Q (op :: rest) a w := by
  have hsz : (cs'.toArray).size = cs'.length := by simp
  refine wpList_store_mid hgd t x y ho B 0 cs'.toArray hx hy (fun j hj => ?_) (by rw [hsz]; exact hi) (all_oneCell_toArray h1) ?_
  · rw [Nat.zero_add]
    refine ⟨?_, blk_frozen h j⟩
    rw [blk_cell h j]
    simp
    rw [hsz] at hj
    omega
  · obtain ⟨cur', h3, h4, h5⟩ := setCells_row cs' 0 w cs.toArray h (by simp; omega)
    obtain ⟨s1, s2, s3, s4⟩ := setCells_same B cs' 0 w
    have e : cur' = cs'.toArray := by
      have : cur'.toList = cs' := by rw [h5]; simp; omega
      rw [← this]
    rw [e] at h3
    refine hk _ h3 (fun k hne => setCells_far _ _ k hne) (fun W hW hb => ?_)
    exact ⟨s1.trans hb.os, s2.trans hb.tape, s3.trans hb.output, by rw [s4]; exact hb.size, fun k hk => (setCells_far _ _ k (by omega)).trans (hb.block k hk)⟩
end
def catch.T5 : Bool × List (List Nat × List Nat) := (true, [([], []), ([0], [0]), ([], []), ([2], [2]), ([], []), ([1, 4, 0, 1, 4], [1]), ([3, 5, 0, 1, 2, 3, 4, 5], [3])])
def catch.B5 : List Nat := [0, 1, 0, 4, 0, 19, 63]
theorem catch.tab5 : rtab .any (opsOf Tryd.f21 5) = catch.T5 := by kernel_rfl
theorem catch.bits5 : waitsOk catch.T5.2 catch.B5 = true := by kernel_rfl
set_option maxHeartbeats 1000000 in
set_option maxRecDepth 100000 in
theorem catch_some {w : World} {R X A E : Nat} {j : Nat} {er : Int} {vx va ve : Value} (hx : w.heap[X]? = some (.cells #[vx] 24 (0, 0))) (ha : w.heap[A]? = some (.cells #[va] 3 (0, 0))) (he : w.heap[E]? = some (.cells #[ve] 25 (0, 0))) (h1 : X ≠ A) (h2 : X ≠ E) (h3 : A ≠ E) :
    CallsD Tryd.prog 21 #[.pointer (some ⟨R, 0, none⟩), .pointer (some ⟨X, 0, none⟩), .pointer (some ⟨A, 0, none⟩), .pointer (some ⟨E, 0, none⟩)] (.panicking (flt j er)) w fun e u' w' => e = .returned (.tuple #[]) ∧ u' = .panicking [{ v := .iface 50 (.agg #[.int .i64 j, .int .i64 er]), recovered := true }] ∧
      (w'.heap[X]? = some (.cells #[.pointer none] 24 (0, 0)) ∧ w'.heap[A]? = some (.cells #[.int .i64 j] 3 (0, 0)) ∧ w'.heap[E]? = some (.cells #[.int .i64 er] 25 (0, 0)) ∧ Lft3 X A E w w') := by
  have HX := Aside0.mk hx
  have HA := Aside0.mk ha
  have HE := Aside0.mk he
  have N1 := Aside0.mk h1
  have N2 := Aside0.mk h2
  have N3 := Aside0.mk h3
  clear hx ha he h1 h2 h3
  refine callsD_of_wpS Tryd.func21 rfl fun c₀ cs hu => ?_
  simp only [Tryd.ntmps21, List.size_toArray, List.length_cons, List.length_nil, Nat.reduceAdd, Nat.reduceSub, Array.replicate_succ, Array.replicate_zero, List.push_toArray, List.append_toArray, List.nil_append, List.cons_append]
  apply wpS_seq
  apply wpS_region
  simp [wpOpsS, go_sem, recoverD, hu, flt, Exit.thenS]
  refine wpS_of_wp ?_
  have hta : ∀ W : World, (Instr.typeAssert (.iface 50 (.agg #[.int .i64 j, .int .i64 er])) 20 50 true).run Tryd.prog W = .ok (.tuple #[.agg #[.int .i64 j, .int .i64 er], .bool true]) W := fun W => assert50 W _
  go_wp2_with (first
    | ((with_reducible refine gate_dst (N := 5) rfl ?_); refine box_event ?hg (N := 5) ?hd (cs := #[.int .i64 0, .int .i64 0]) (t := 50) ?hr ?_; (case hd => rfl); (case hg => rfl); (case hr => first | (go_simp; done) | (go_simp; rfl)); intro F hF w1 hx1 hb1; have HF := Aside0.mk hF; have HB1 := Aside0.mk hb1; have HF1 := Aside0.mk hx1; clear hF hb1 hx1)
    | ((with_reducible refine gate_ (.store 50 (.tmp 5) (.tmp 13)) rfl ?_); refine store_blk rfl 50 (.tmp 5) (.tmp 13) rfl F [.int .i64 0, .int .i64 0] [.int .i64 j, .int .i64 er] rfl rfl HF1.out rfl size50 (by intro v hv; simp only [List.mem_cons, List.not_mem_nil, or_false] at hv; rcases hv with rfl | rfl <;> rfl) ?_; intro w2 ha hka hba; have HF2 := Aside0.mk ha; have HK2 := Aside0.mk hka; have HB2 := Aside0.mk (hba w (by rw [HF.out]; exact Nat.le_refl _) HB1.out); clear ha hka hba))
  clear hta
  have HX2 := Aside0.mk ((HB2.out.block X (blk_lt HX.out)).trans HX.out)
  have HA2 := Aside0.mk ((HB2.out.block A (blk_lt HA.out)).trans HA.out)
  have HE2 := Aside0.mk ((HB2.out.block E (blk_lt HE.out)).trans HE.out)
  have HFX := Aside0.mk (show F ≠ X ∧ F ≠ A ∧ F ≠ E by have h1 := blk_lt HX.out; have h2 := blk_lt HA.out; have h3 := blk_lt HE.out; have h4 := HF.out; omega)
  refine start_ (n := 7) (S := fun w' => w'.cell? ⟨F, 0, none⟩ = some (.int .i64 j) ∧ w'.cell? ⟨F, 1, none⟩ = some (.int .i64 er)) (ds := [6]) #[false, false, false, false, false, false, false] (by kernel_rfl) rfl rfl (show w2.drew.cell? ⟨F, 0, none⟩ = some (.int .i64 j) ∧ w2.drew.cell? ⟨F, 1, none⟩ = some (.int .i64 er) from ⟨(blk_cell HF2.out 0).trans rfl, (blk_cell HF2.out 1).trans rfl⟩) (fun hHeld => ?_); refine with_tabW catch.tab5 catch.bits5 (fun HT_ HW_ => ?_)
  have HB3 := Aside0.mk (HB2.out.trans ((below_drew1 (Below.refl w2.heap.size w2)).mono HB2.out.size))
  have HX3 := Aside0.mk (show w2.drew.heap[X]? = some (.cells #[vx] 24 (0, 0)) from HX2.out)
  have HA3 := Aside0.mk (show w2.drew.heap[A]? = some (.cells #[va] 3 (0, 0)) from HA2.out)
  have HE3 := Aside0.mk (show w2.drew.heap[E]? = some (.cells #[ve] 25 (0, 0)) from HE2.out)
  have HF3 := Aside0.mk (show w2.drew.heap[F]? = some (.cells #[.int .i64 j, .int .i64 er] 50 (0, 0)) from HF2.out)
  generalize w2.drew = W3 at *
  refine pure_ (i := 0) (N := some 22) (v := ?_) (a' := ?_) #[true, false, false, false, false, false, false] rfl rfl (any_of HT_.out (by kernel_rfl)) (fun _ _ _ h => h) (Or.inl ⟨by rfl, ?_⟩) ?_ ?_
  rotate_left
  · intro w'
    go_simp
    with_reducible rfl
  rotate_left
  · simp only [Act.put, List.setIfInBounds_toArray, List.set_cons_zero, List.set_cons_succ, i64_w, i32_w, xu32_w, xu8_w]
    rfl
  refine pure_ (i := 2) (N := some 24) (v := ?_) (a' := ?_) #[true, false, true, false, false, false, false] rfl rfl (any_of HT_.out (by kernel_rfl)) (fun _ _ _ h => h) (Or.inl ⟨by rfl, ?_⟩) ?_ ?_
  rotate_left
  · intro w'
    go_simp
    with_reducible rfl
  rotate_left
  · simp only [Act.put, List.setIfInBounds_toArray, List.set_cons_zero, List.set_cons_succ, i64_w, i32_w, xu32_w, xu8_w]
    rfl
  refine take_ (i := 1) (N := some 23) (v := ?_) (a' := ?_) #[true, true, true, false, false, false, false] rfl rfl (take_ofW HT_.out HW_.out (by kernel_rfl)) (fun _ _ _ h => h) (Or.inl ⟨by rfl, ?_⟩) hHeld ?_ ?_
  rotate_left
  · rintro w' ⟨s0, s1⟩
    go_simp
    with_reducible rfl
  rotate_left
  · simp only [Act.put, List.setIfInBounds_toArray, List.set_cons_zero, List.set_cons_succ, i64_w, i32_w, xu32_w, xu8_w]
    rfl
  refine take_ (i := 3) (N := some 25) (v := ?_) (a' := ?_) #[true, true, true, true, false, false, false] rfl rfl (take_ofW HT_.out HW_.out (by kernel_rfl)) (fun _ _ _ h => h) (Or.inl ⟨by rfl, ?_⟩) hHeld ?_ ?_
  rotate_left
  · rintro w' ⟨s0, s1⟩
    go_simp
    with_reducible rfl
  rotate_left
  · simp only [Act.put, List.setIfInBounds_toArray, List.set_cons_zero, List.set_cons_succ, i64_w, i32_w, xu32_w, xu8_w]
    rfl
  refine one_ (i := 4) (N := none) #[true, true, true, true, true, false, false] rfl rfl (one_of HT_.out (by kernel_rfl)) (by decide) (fun K hK => ?_)
  have xc := (blk_cell HX3.out 0).trans rfl
  have xz : W3.frozen? ⟨X, 0, none⟩ = false := by simp [World.frozen?, HX3.out]
  refine skip_ (w1 := W3.setCell ⟨X, 0, none⟩ (.pointer none)) (by rfl) rfl (by first | (go_simp; done) | (go_simp; rfl)) ?_
  clear xc xz
  have hW4X := Aside0.mk (show (W3.setCell ⟨X, 0, none⟩ (.pointer none)).heap[X]? = some (.cells #[.pointer none] 24 (0, 0)) from blk_put HX3.out 0 _ rfl)
  have hW4A := Aside0.mk ((Below.heap_setCell W3 ⟨X, 0, none⟩ (.pointer none) A (fun e => N1.out e.symm)).trans HA3.out)
  have hW4E := Aside0.mk ((Below.heap_setCell W3 ⟨X, 0, none⟩ (.pointer none) E (fun e => N2.out e.symm)).trans HE3.out)
  have hW4F := Aside0.mk ((Below.heap_setCell W3 ⟨X, 0, none⟩ (.pointer none) F HFX.out.1).trans HF3.out)
  have hsW4 := Aside0.mk (Lft3.mk (X := X) (A := A) (E := E) (w := w) (w' := W3.setCell ⟨X, 0, none⟩ (.pointer none)) HB3.out.os HB3.out.tape HB3.out.output (by simpa using HB3.out.size) (fun k hk n1 n2 n3 => (Below.heap_setCell _ _ _ k n1).trans (HB3.out.block k hk)))
  generalize W3.setCell ⟨X, 0, none⟩ (.pointer none) = W4 at *
  have HX4 := hW4X
  clear hW4X
  have HA4 := hW4A
  clear hW4A
  have HE4 := hW4E
  clear hW4E
  have HF4 := hW4F
  clear hW4F
  have HS4 := hsW4
  clear hsW4
  refine hK.out _ _ ⟨(blk_cell HF4.out 0).trans rfl, (blk_cell HF4.out 1).trans rfl⟩ (fun hHeld => ?_)
  clear hK K
  refine one_ (i := 5) (N := none) #[true, true, true, true, true, true, false] rfl rfl (one_of HT_.out (by kernel_rfl)) (by decide) (fun K hK => ?_)
  have xc := (blk_cell HA4.out 0).trans rfl
  have xz : W4.frozen? ⟨A, 0, none⟩ = false := by simp [World.frozen?, HA4.out]
  refine skip_ (w1 := W4.setCell ⟨A, 0, none⟩ (.int .i64 j)) (by rfl) rfl (by first | (go_simp; done) | (go_simp; rfl)) ?_
  clear xc xz
  have hW5A := Aside0.mk (show (W4.setCell ⟨A, 0, none⟩ (.int .i64 j)).heap[A]? = some (.cells #[.int .i64 j] 3 (0, 0)) from blk_put HA4.out 0 _ rfl)
  have hW5X := Aside0.mk ((Below.heap_setCell W4 ⟨A, 0, none⟩ (.int .i64 j) X N1.out).trans HX4.out)
  have hW5E := Aside0.mk ((Below.heap_setCell W4 ⟨A, 0, none⟩ (.int .i64 j) E (fun e => N3.out e.symm)).trans HE4.out)
  have hW5F := Aside0.mk ((Below.heap_setCell W4 ⟨A, 0, none⟩ (.int .i64 j) F HFX.out.2.1).trans HF4.out)
  have hsW5 := Aside0.mk (Lft3.mk (X := X) (A := A) (E := E) (w := w) (w' := W4.setCell ⟨A, 0, none⟩ (.int .i64 j)) HS4.out.os HS4.out.tape HS4.out.output (by simpa using HS4.out.size) (fun k hk n1 n2 n3 => (Below.heap_setCell _ _ _ k n2).trans (HS4.out.block k hk n1 n2 n3)))
  generalize W4.setCell ⟨A, 0, none⟩ (.int .i64 j) = W5 at *
  have HA5 := hW5A
  clear hW5A
  have HX5 := hW5X
  clear hW5X
  have HE5 := hW5E
  clear hW5E
  have HF5 := hW5F
  clear hW5F
  have HS5 := hsW5
  clear hsW5
  refine hK.out _ _ ⟨(blk_cell HF5.out 0).trans rfl, (blk_cell HF5.out 1).trans rfl⟩ (fun hHeld => ?_)
  clear hK K
  refine last_ (i := 6) (N := none) #[true, true, true, true, true, true, true] rfl rfl (one_of HT_.out (by kernel_rfl)) (by decide) (fun K hK => ?_)
  have xc := (blk_cell HE5.out 0).trans rfl
  have xz : W5.frozen? ⟨E, 0, none⟩ = false := by simp [World.frozen?, HE5.out]
  refine skip_ (w1 := W5.setCell ⟨E, 0, none⟩ (.int .i64 er)) (by rfl) rfl (by first | (go_simp; done) | (go_simp; rfl)) ?_
  clear xc xz
  have hW6E := Aside0.mk (show (W5.setCell ⟨E, 0, none⟩ (.int .i64 er)).heap[E]? = some (.cells #[.int .i64 er] 25 (0, 0)) from blk_put HE5.out 0 _ rfl)
  have hW6X := Aside0.mk ((Below.heap_setCell W5 ⟨E, 0, none⟩ (.int .i64 er) X N2.out).trans HX5.out)
  have hW6A := Aside0.mk ((Below.heap_setCell W5 ⟨E, 0, none⟩ (.int .i64 er) A N3.out).trans HA5.out)
  have hW6F := Aside0.mk ((Below.heap_setCell W5 ⟨E, 0, none⟩ (.int .i64 er) F HFX.out.2.2).trans HF5.out)
  have hsW6 := Aside0.mk (Lft3.mk (X := X) (A := A) (E := E) (w := w) (w' := W5.setCell ⟨E, 0, none⟩ (.int .i64 er)) HS5.out.os HS5.out.tape HS5.out.output (by simpa using HS5.out.size) (fun k hk n1 n2 n3 => (Below.heap_setCell _ _ _ k n3).trans (HS5.out.block k hk n1 n2 n3)))
  generalize W5.setCell ⟨E, 0, none⟩ (.int .i64 er) = W6 at *
  have HE6 := hW6E
  clear hW6E
  have HX6 := hW6X
  clear hW6X
  have HA6 := hW6A
  clear hW6A
  have HF6 := hW6F
  clear hW6F
  have HS6 := hsW6
  clear hsW6
  refine hK.out _ _ ?_
  clear hK K
  refine done_ (done_of HT_.out (by kernel_rfl)) ?_
  go_wp2_with (fail)
  exact ⟨rfl, _, rfl, .tuple #[], by simp [results, Tryd.results21], rfl, rfl, HX6.out, HA6.out, HE6.out, HS6.out⟩
end Go.Proofs.YtmfpikhmeacnbaaDoor.X
