import Derived.Test.YtmfpikhmeacnbaaDoorXC
import Derived.Defers
import Derived.Recover
import Derived.Laws.Pointers
/- Patterns by hand: the recovering closure (mkX10.py). -/
namespace Go.Proofs.YtmfpikhmeacnbaaDoor.X
open Go.RowKit Go.Proofs.YtmfpikhmeacnbaaDoor.Q Go.Proofs.YtmfpikhmeacnbaaDoorW.PrintWords Go.Proofs.YtmfpikhmeacnbaaDoorW.PrintLast Go.Proofs.YtmfpikhmeacnbaaDoorW.PrintMore
set_option linter.unusedVariables false
set_option linter.unusedSimpArgs false
/-- What the closure turns: the three results. -/
structure Lft3 (X A E : Nat) (w w' : World) : Prop where
  os : w'.os = w.os
  tape : w'.tape = w.tape
  output : w'.output = w.output
  size : w.heap.size ≤ w'.heap.size
  block : ∀ k, k < w.heap.size → k ≠ X → k ≠ A → k ≠ E → w'.heap[k]? = w.heap[k]?
theorem catch_idle (R X A E : Nat) (w : World) :
    CallsD Tryd.prog 21 #[.pointer (some ⟨R, 0, none⟩), .pointer (some ⟨X, 0, none⟩), .pointer (some ⟨A, 0, none⟩), .pointer (some ⟨E, 0, none⟩)] .returning w fun e u' w' => e = .returned (.tuple #[]) ∧ u' = .returning ∧ w' = w := by
  refine callsD_of_wpS Tryd.func21 rfl fun c₀ cs hu => ?_
  simp only [Tryd.ntmps21, List.size_toArray, List.length_cons, List.length_nil, Nat.reduceAdd, Nat.reduceSub, Array.replicate_succ, Array.replicate_zero, List.push_toArray, List.append_toArray, List.nil_append, List.cons_append]
  apply wpS_seq
  apply wpS_region
  simp [wpOpsS, go_sem, recoverD, hu, Exit.thenS]
  refine wpS_of_wp ?_
  go_wp2_with (fail)
  cases c₀
  simp_all [bodyPostS, results, Tryd.results21]
theorem size50 : (Tryd.prog.info? 50).map (·.size) = some 2 := by kernel_rfl
theorem assert50 (W : World) (v : Value) : (Instr.typeAssert (.iface 50 v) 20 50 true).run Tryd.prog W = .ok (.tuple #[v, .bool true]) W := by kernel_rfl
theorem range_blk {w : World} {B : Nat} {t : TypeId} {cs : List Value} (h : w.heap[B]? = some (.cells cs.toArray t (0, 0))) : w.rangeAt B 0 cs := fun j v hv => by
  rw [Nat.zero_add, blk_cell h j]
  simpa using hv
section
variable {ops : Array Oper} {rest : List Oper} {op : Oper} {a : Act} {w : World} {Q : Exit → Act → World → Prop}
theorem load_blk (hgd : op.guard = none) (t : TypeId) (x : Operand) (ho : op.op = .load t x) (B : Nat) (hx : a.eval x = .pointer (some ⟨B, 0, none⟩)) (cs : List Value) (h : w.heap[B]? = some (.cells cs.toArray t (0, 0))) (d : TypeDesc) (hu : Tryd.prog.underlying t = some d) (hd : d.isRow = true) (hi : (Tryd.prog.info? t).map (·.size) = some cs.length)
    (hk : wpList Tryd.prog ops Q rest (a.put op.dst (.agg cs.toArray)) w) : wpList Tryd.prog ops Q (op :: rest) a w :=
  wpList_load_mid hgd t x ho B 0 hx cs d (range_blk h) hu hd hi hk
theorem store_blk (hgd : op.guard = none) (t : TypeId) (x y : Operand) (ho : op.op = .store t x y) (B : Nat) (cs cs' : List Value) (hx : a.eval x = .pointer (some ⟨B, 0, none⟩)) (hy : a.eval y = .agg cs'.toArray) (h : w.heap[B]? = some (.cells cs.toArray t (0, 0))) (hl : cs'.length = cs.length) (hi : (Tryd.prog.info? t).map (·.size) = some cs'.length) (h1 : ∀ v ∈ cs', v.oneCell' = true)
    (hk : ∀ w1, w1.heap[B]? = some (.cells cs'.toArray t (0, 0)) → (∀ k, k ≠ B → w1.heap[k]? = w.heap[k]?) → (∀ W : World, W.heap.size ≤ B → Below W.heap.size W w → Below W.heap.size W w1) → wpList Tryd.prog ops Q rest (a.put op.dst undef) w1) : wpList Tryd.prog ops Q (op :: rest) a w := by
  have hsz : (cs'.toArray).size = cs'.length := by simp
  refine wpList_store_mid hgd t x y ho B 0 cs'.toArray hx hy (fun j hj => ?_) (by rw [hsz]; exact hi) (all_oneCell_toArray h1) ?_
  · rw [Nat.zero_add]
    refine ⟨?_, blk_frozen h j⟩
    rw [blk_cell h j]
    simp
    rw [hsz] at hj
    omega
  · obtain ⟨cur', h3, h4, h5⟩ := setCells_row cs' 0 w cs.toArray h (by simp; omega)
    obtain ⟨s1, s2, s3, s4⟩ := setCells_same B cs' 0 w
    have e : cur' = cs'.toArray := by
      have : cur'.toList = cs' := by rw [h5]; simp; omega
      rw [← this]
    rw [e] at h3
    refine hk _ h3 (fun k hne => setCells_far _ _ k hne) (fun W hW hb => ?_)
    exact ⟨s1.trans hb.os, s2.trans hb.tape, s3.trans hb.output, by rw [s4]; exact hb.size, fun k hk => (setCells_far _ _ k (by omega)).trans (hb.block k hk)⟩
end
def catch.T5 : Bool × List (List Nat × List Nat) := (true, [([], []), ([0], [0]), ([], []), ([2], [2]), ([], []), ([1, 4, 0, 1, 4], [1]), ([3, 5, 0, 1, 2, 3, 4, 5], [3])])
def catch.B5 : List Nat := [0, 1, 0, 4, 0, 19, 63]
theorem catch.tab5 : rtab .any (opsOf Tryd.f21 5) = catch.T5 := by kernel_rfl
theorem catch.bits5 : waitsOk catch.T5.2 catch.B5 = true := by kernel_rfl
set_option maxHeartbeats 1000000 in
set_option maxRecDepth 100000 in
theorem catch_some {w : World} {R X A E : Nat} {j : Nat} {er : Int} {vx va ve : Value} (hx : w.heap[X]? = some (.cells #[vx] 24 (0, 0))) (ha : w.heap[A]? = some (.cells #[va] 3 (0, 0))) (he : w.heap[E]? = some (.cells #[ve] 25 (0, 0))) (h1 : X ≠ A) (h2 : X ≠ E) (h3 : A ≠ E) :
    CallsD Tryd.prog 21 #[.pointer (some ⟨R, 0, none⟩), .pointer (some ⟨X, 0, none⟩), .pointer (some ⟨A, 0, none⟩), .pointer (some ⟨E, 0, none⟩)] (.panicking (flt j er)) w fun e u' w' => e = .returned (.tuple #[]) ∧ u' = .panicking [{ v := .iface 50 (.agg #[.int .i64 j, .int .i64 er]), recovered := true }] ∧
      (w'.heap[X]? = some (.cells #[.pointer none] 24 (0, 0)) ∧ w'.heap[A]? = some (.cells #[.int .i64 j] 3 (0, 0)) ∧ w'.heap[E]? = some (.cells #[.int .i64 er] 25 (0, 0)) ∧ Lft3 X A E w w') := by
  have HX := Aside0.mk hx
  have HA := Aside0.mk ha
  have HE := Aside0.mk he
  have N1 := Aside0.mk h1
  have N2 := Aside0.mk h2
  have N3 := Aside0.mk h3
  clear hx ha he h1 h2 h3
  refine callsD_of_wpS Tryd.func21 rfl fun c₀ cs hu => ?_
  simp only [Tryd.ntmps21, List.size_toArray, List.length_cons, List.length_nil, Nat.reduceAdd, Nat.reduceSub, Array.replicate_succ, Array.replicate_zero, List.push_toArray, List.append_toArray, List.nil_append, List.cons_append]
  apply wpS_seq
  apply wpS_region
  simp [wpOpsS, go_sem, recoverD, hu, flt, Exit.thenS]
  refine wpS_of_wp ?_
  have hta : ∀ W : World, (Instr.typeAssert (.iface 50 (.agg #[.int .i64 j, .int .i64 er])) 20 50 true).run Tryd.prog W = .ok (.tuple #[.agg #[.int .i64 j, .int .i64 er], .bool true]) W := fun W => assert50 W _
  go_wp2_with (first
    | ((with_reducible refine gate_dst (N := 5) rfl ?_); refine box_event ?hg (N := 5) ?hd (cs := #[.int .i64 0, .int .i64 0]) (t := 50) ?hr ?_; (case hd => rfl); (case hg => rfl); (case hr => first | (go_simp; done) | (go_simp; rfl)); intro F hF w1 hx1 hb1; have HF := Aside0.mk hF; have HB1 := Aside0.mk hb1; have HF1 := Aside0.mk hx1; clear hF hb1 hx1)
    | ((with_reducible refine gate_ (.store 50 (.tmp 5) (.tmp 13)) rfl ?_); refine store_blk rfl 50 (.tmp 5) (.tmp 13) rfl F [.int .i64 0, .int .i64 0] [.int .i64 j, .int .i64 er] rfl rfl HF1.out rfl size50 (by intro v hv; simp only [List.mem_cons, List.not_mem_nil, or_false] at hv; rcases hv with rfl | rfl <;> rfl) ?_; intro w2 ha hka hba; have HF2 := Aside0.mk ha; have HK2 := Aside0.mk hka; have HB2 := Aside0.mk (hba w (by rw [HF.out]; exact Nat.le_refl _) HB1.out); clear ha hka hba))
  clear hta
  have HX2 := Aside0.mk ((HB2.out.block X (blk_lt HX.out)).trans HX.out)
  have HA2 := Aside0.mk ((HB2.out.block A (blk_lt HA.out)).trans HA.out)
  have HE2 := Aside0.mk ((HB2.out.block E (blk_lt HE.out)).trans HE.out)
  have HFX := Aside0.mk (show F ≠ X ∧ F ≠ A ∧ F ≠ E by have h1 := blk_lt HX.out; have h2 := blk_lt HA.out; have h3 := blk_lt HE.out; have h4 := HF.out; omega)
  refine start_ (n := 7) (S := fun w' => w'.cell? ⟨F, 0, none⟩ = some (.int .i64 j) ∧ w'.cell? ⟨F, 1, none⟩ = some (.int .i64 er)) (ds := [6]) #[false, false, false, false, false, false, false] (by kernel_rfl) rfl rfl (show w2.drew.cell? ⟨F, 0, none⟩ = some (.int .i64 j) ∧ w2.drew.cell? ⟨F, 1, none⟩ = some (.int .i64 er) from ⟨(blk_cell HF2.out 0).trans rfl, (blk_cell HF2.out 1).trans rfl⟩) (fun hHeld => ?_); refine with_tabW catch.tab5 catch.bits5 (fun HT_ HW_ => ?_)
  have HB3 := Aside0.mk (HB2.out.trans ((below_drew1 (Below.refl w2.heap.size w2)).mono HB2.out.size))
  have HX3 := Aside0.mk (show w2.drew.heap[X]? = some (.cells #[vx] 24 (0, 0)) from HX2.out)
  have HA3 := Aside0.mk (show w2.drew.heap[A]? = some (.cells #[va] 3 (0, 0)) from HA2.out)
  have HE3 := Aside0.mk (show w2.drew.heap[E]? = some (.cells #[ve] 25 (0, 0)) from HE2.out)
  have HF3 := Aside0.mk (show w2.drew.heap[F]? = some (.cells #[.int .i64 j, .int .i64 er] 50 (0, 0)) from HF2.out)
  generalize w2.drew = W3 at *
  refine pure_ (i := 0) (N := some 22) (v := ?_) (a' := ?_) #[true, false, false, false, false, false, false] rfl rfl (any_of HT_.out (by kernel_rfl)) (fun _ _ _ h => h) (Or.inl ⟨by rfl, ?_⟩) ?_ ?_
  rotate_left
  · intro w'
    go_simp
    with_reducible rfl
  rotate_left
  · simp only [Act.put, List.setIfInBounds_toArray, List.set_cons_zero, List.set_cons_succ, i64_w, i32_w, xu32_w, xu8_w]
    rfl
  refine pure_ (i := 2) (N := some 24) (v := ?_) (a' := ?_) #[true, false, true, false, false, false, false] rfl rfl (any_of HT_.out (by kernel_rfl)) (fun _ _ _ h => h) (Or.inl ⟨by rfl, ?_⟩) ?_ ?_
  rotate_left
  · intro w'
    go_simp
    with_reducible rfl
  rotate_left
  · simp only [Act.put, List.setIfInBounds_toArray, List.set_cons_zero, List.set_cons_succ, i64_w, i32_w, xu32_w, xu8_w]
    rfl
  refine take_ (i := 1) (N := some 23) (v := ?_) (a' := ?_) #[true, true, true, false, false, false, false] rfl rfl (take_ofW HT_.out HW_.out (by kernel_rfl)) (fun _ _ _ h => h) (Or.inl ⟨by rfl, ?_⟩) hHeld ?_ ?_
  rotate_left
  · rintro w' ⟨s0, s1⟩
    go_simp
    with_reducible rfl
  rotate_left
  · simp only [Act.put, List.setIfInBounds_toArray, List.set_cons_zero, List.set_cons_succ, i64_w, i32_w, xu32_w, xu8_w]
    rfl
  refine take_ (i := 3) (N := some 25) (v := ?_) (a' := ?_) #[true, true, true, true, false, false, false] rfl rfl (take_ofW HT_.out HW_.out (by kernel_rfl)) (fun _ _ _ h => h) (Or.inl ⟨by rfl, ?_⟩) hHeld ?_ ?_
  rotate_left
  · rintro w' ⟨s0, s1⟩
    go_simp
    with_reducible rfl
  rotate_left
  · simp only [Act.put, List.setIfInBounds_toArray, List.set_cons_zero, List.set_cons_succ, i64_w, i32_w, xu32_w, xu8_w]
    rfl
  refine one_ (i := 4) (N := none) #[true, true, true, true, true, false, false] rfl rfl (one_of HT_.out (by kernel_rfl)) (by decide) (fun K hK => ?_)
  have xc := (blk_cell HX3.out 0).trans rfl
  have xz : W3.frozen? ⟨X, 0, none⟩ = false := by simp [World.frozen?, HX3.out]
  refine skip_ (w1 := W3.setCell ⟨X, 0, none⟩ (.pointer none)) (by rfl) rfl (by first | (go_simp; done) | (go_simp; rfl)) ?_
  clear xc xz
  have hW4X := Aside0.mk (show (W3.setCell ⟨X, 0, none⟩ (.pointer none)).heap[X]? = some (.cells #[.pointer none] 24 (0, 0)) from blk_put HX3.out 0 _ rfl)
  have hW4A := Aside0.mk ((Below.heap_setCell W3 ⟨X, 0, none⟩ (.pointer none) A (fun e => N1.out e.symm)).trans HA3.out)
  have hW4E := Aside0.mk ((Below.heap_setCell W3 ⟨X, 0, none⟩ (.pointer none) E (fun e => N2.out e.symm)).trans HE3.out)
  have hW4F := Aside0.mk ((Below.heap_setCell W3 ⟨X, 0, none⟩ (.pointer none) F HFX.out.1).trans HF3.out)
  have hsW4 := Aside0.mk (Lft3.mk (X := X) (A := A) (E := E) (w := w) (w' := W3.setCell ⟨X, 0, none⟩ (.pointer none)) HB3.out.os HB3.out.tape HB3.out.output (by simpa using HB3.out.size) (fun k hk n1 n2 n3 => (Below.heap_setCell _ _ _ k n1).trans (HB3.out.block k hk)))
  generalize W3.setCell ⟨X, 0, none⟩ (.pointer none) = W4 at *
  have HX4 := hW4X
  clear hW4X
  have HA4 := hW4A
  clear hW4A
  have HE4 := hW4E
  clear hW4E
  have HF4 := hW4F
  clear hW4F
  have HS4 := hsW4
  clear hsW4
  refine hK.out _ _ ⟨(blk_cell HF4.out 0).trans rfl, (blk_cell HF4.out 1).trans rfl⟩ (fun hHeld => ?_)
  clear hK K
  refine one_ (i := 5) (N := none) #[true, true, true, true, true, true, false] rfl rfl (one_of HT_.out (by kernel_rfl)) (by decide) (fun K hK => ?_)
  have xc := (blk_cell HA4.out 0).trans rfl
  have xz : W4.frozen? ⟨A, 0, none⟩ = false := by simp [World.frozen?, HA4.out]
  refine skip_ (w1 := W4.setCell ⟨A, 0, none⟩ (.int .i64 j)) (by rfl) rfl (by first | (go_simp; done) | (go_simp; rfl)) ?_
  clear xc xz
  have hW5A := Aside0.mk (show (W4.setCell ⟨A, 0, none⟩ (.int .i64 j)).heap[A]? = some (.cells #[.int .i64 j] 3 (0, 0)) from blk_put HA4.out 0 _ rfl)
  have hW5X := Aside0.mk ((Below.heap_setCell W4 ⟨A, 0, none⟩ (.int .i64 j) X N1.out).trans HX4.out)
  have hW5E := Aside0.mk ((Below.heap_setCell W4 ⟨A, 0, none⟩ (.int .i64 j) E (fun e => N3.out e.symm)).trans HE4.out)
  have hW5F := Aside0.mk ((Below.heap_setCell W4 ⟨A, 0, none⟩ (.int .i64 j) F HFX.out.2.1).trans HF4.out)
  have hsW5 := Aside0.mk (Lft3.mk (X := X) (A := A) (E := E) (w := w) (w' := W4.setCell ⟨A, 0, none⟩ (.int .i64 j)) HS4.out.os HS4.out.tape HS4.out.output (by simpa using HS4.out.size) (fun k hk n1 n2 n3 => (Below.heap_setCell _ _ _ k n2).trans (HS4.out.block k hk n1 n2 n3)))
  generalize W4.setCell ⟨A, 0, none⟩ (.int .i64 j) = W5 at *
  have HA5 := hW5A
  clear hW5A
  have HX5 := hW5X
  clear hW5X
  have HE5 := hW5E
  clear hW5E
  have HF5 := hW5F
  clear hW5F
  have HS5 := hsW5
  clear hsW5
  refine hK.out _ _ ⟨(blk_cell HF5.out 0).trans rfl, (blk_cell HF5.out 1).trans rfl⟩ (fun hHeld => ?_)
  clear hK K
  refine last_ (i := 6) (N := none) #[true, true, true, true, true, true, true] rfl rfl (one_of HT_.out (by kernel_rfl)) (by decide) (fun K hK => ?_)
  have xc := (blk_cell HE5.out 0).trans rfl
  have xz : W5.frozen? ⟨E, 0, none⟩ = false := by simp [World.frozen?, HE5.out]
  refine skip_ (w1 := W5.setCell ⟨E, 0, none⟩ (.int .i64 er)) (by rfl) rfl (by first | (go_simp; done) | (go_simp; rfl)) ?_
  clear xc xz
  have hW6E := Aside0.mk (show (W5.setCell ⟨E, 0, none⟩ (.int .i64 er)).heap[E]? = some (.cells #[.int .i64 er] 25 (0, 0)) from blk_put HE5.out 0 _ rfl)
  have hW6X := Aside0.mk ((Below.heap_setCell W5 ⟨E, 0, none⟩ (.int .i64 er) X N2.out).trans HX5.out)
  have hW6A := Aside0.mk ((Below.heap_setCell W5 ⟨E, 0, none⟩ (.int .i64 er) A N3.out).trans HA5.out)
  have hW6F := Aside0.mk ((Below.heap_setCell W5 ⟨E, 0, none⟩ (.int .i64 er) F HFX.out.2.2).trans HF5.out)
  have hsW6 := Aside0.mk (Lft3.mk (X := X) (A := A) (E := E) (w := w) (w' := W5.setCell ⟨E, 0, none⟩ (.int .i64 er)) HS5.out.os HS5.out.tape HS5.out.output (by simpa using HS5.out.size) (fun k hk n1 n2 n3 => (Below.heap_setCell _ _ _ k n3).trans (HS5.out.block k hk n1 n2 n3)))
  generalize W5.setCell ⟨E, 0, none⟩ (.int .i64 er) = W6 at *
  have HE6 := hW6E
  clear hW6E
  have HX6 := hW6X
  clear hW6X
  have HA6 := hW6A
  clear hW6A
  have HF6 := hW6F
  clear hW6F
  have HS6 := hsW6
  clear hsW6
  refine hK.out _ _ ?_
  clear hK K
  refine done_ (done_of HT_.out (by kernel_rfl)) ?_
  go_wp2_with (fail)
  exact ⟨rfl, _, rfl, .tuple #[], by simp [results, Tryd.results21], rfl, rfl, HX6.out, HA6.out, HE6.out, HS6.out⟩
end Go.Proofs.YtmfpikhmeacnbaaDoor.X

/- Patterns by hand: Parse (mkX11.py). -/
namespace Go.Proofs.YtmfpikhmeacnbaaDoor.X
open Go.RowKit Go.Proofs.YtmfpikhmeacnbaaDoor.Q Go.Proofs.YtmfpikhmeacnbaaDoorW.PrintWords Go.Proofs.YtmfpikhmeacnbaaDoorW.PrintLast Go.Proofs.YtmfpikhmeacnbaaDoorW.PrintMore
set_option linter.unusedVariables false
set_option linter.unusedSimpArgs false
def parF (k : Nat) (s : ByteArray) : Option (Res (Pt × Nat)) :=
  if 256 < s.size then some (.bad 0 3) else
  match paF k s 0 0 with
  | none => none
  | some (.bad a e) => some (.bad a e)
  | some (.ok (p, m) j) => if j < s.size then some (.bad j 8) else some (.ok (p, m) j)
theorem parF_head {k : Nat} {s : ByteArray} {R : Res (Pt × Nat)} (h : parF k s = some R) : (256 < s.size ∧ R = .bad 0 3) ∨ (s.size ≤ 256 ∧ ((∃ a e, paF k s 0 0 = some (.bad a e) ∧ R = .bad a e) ∨ (∃ p m j, paF k s 0 0 = some (.ok (p, m) j) ∧ ((j < s.size ∧ R = .bad j 8) ∨ (¬ j < s.size ∧ R = .ok (p, m) j))))) := by
  unfold parF at h
  by_cases e : 256 < s.size
  · rw [if_pos e] at h; exact .inl ⟨e, (Option.some.inj h).symm⟩
  rw [if_neg e] at h
  refine .inr ⟨by omega, ?_⟩
  cases hb : paF k s 0 0 with
  | none => rw [hb] at h; cases h
  | some RB =>
    rw [hb] at h
    cases RB with
    | bad a e => exact .inl ⟨a, e, rfl, (Option.some.inj h).symm⟩
    | ok pm j =>
      obtain ⟨p, m⟩ := pm
      dsimp only at h
      refine .inr ⟨p, m, j, rfl, ?_⟩
      by_cases e1 : j < s.size
      · rw [if_pos e1] at h; exact .inl ⟨e1, (Option.some.inj h).symm⟩
      · rw [if_neg e1] at h; exact .inr ⟨e1, (Option.some.inj h).symm⟩
/-- A pattern in memory. -/
def Rx (w : World) (B Q : Nat) (s : ByteArray) (p : Pt) (m : Nat) : Prop := B ≤ Q ∧ ∃ q, w.heap[Q]? = some (.cells #[.string s, .pointer (some ⟨q, 0, none⟩), .int .i64 m] 43 (0, 0)) ∧ Tr w B (fun k => B ≤ k) q p
def PostR (s : ByteArray) (w : World) (R : Res (Pt × Nat)) : Ending → World → Prop := fun x w' => Below w.heap.size w w' ∧ match R with
  | .ok (p, m) _ => ∃ Q, x = .returned (.tuple #[.pointer (some ⟨Q, 0, none⟩), .int .i64 0, .int .i64 0]) ∧ Rx w' w.heap.size Q s p m
  | .bad a e => x = .returned (.tuple #[.pointer none, .int .i64 a, .int .i64 e])
theorem Below.far_ {n : Nat} {w w' : World} (h : Below n w w') {X : Nat} (hp : n ≤ X) (o : Nat) (v : Value) : Below n w (w'.setCell ⟨X, o, none⟩ v) :=
  ⟨h.os, h.tape, h.output, by simpa using h.size, fun k hk => (Below.heap_setCell _ _ _ k (fun e => by have e' : k = X := e; omega)).trans (h.block k hk)⟩
theorem Tr.far {w : World} {n q X o : Nat} {p : Pt} {v : Value} (h : Tr w n (fun k => n ≤ k) q p) (hX : X < n) : Tr (w.setCell ⟨X, o, none⟩ v) n (fun k => n ≤ k) q p :=
  h.turn (Nat.le_refl _) (fun k hk hl ho => ⟨ho, Below.heap_setCell _ _ _ k (fun e => by have e' : k = X := e; omega)⟩)
theorem below_stp {b : Nat} {w w6 w7 : World} (h : Below w.heap.size w w6) (hs : Stp b w6 w7) (hb : w.heap.size ≤ b) : Below w.heap.size w w7 :=
  ⟨hs.os.trans h.os, hs.tape.trans h.tape, hs.output.trans h.output, Nat.le_trans h.size hs.size, fun k hk => (hs.block k (Nat.lt_of_lt_of_le hk h.size) (by omega)).trans (h.block k hk)⟩
theorem one_cell {w : World} {X t : Nat} {v : Value} (h : w.heap[X]? = some (.cells #[v] t (0, 0))) : w.cell? ⟨X, 0, none⟩ = some v ∧ w.frozen? ⟨X, 0, none⟩ = false := ⟨(blk_cell h 0).trans rfl, by simp [World.frozen?, h]⟩
theorem set_far {w : World} {X Y : Nat} {o : Obj} (h : w.heap[Y]? = some o) (hn : Y ≠ X) (i : Nat) (v : Value) : (w.setCell ⟨X, i, none⟩ v).heap[Y]? = some o := (Below.heap_setCell _ _ _ Y hn).trans h
set_option maxHeartbeats 4000000 in
set_option maxRecDepth 100000 in
theorem parse_calls {w : World} (hT : Tab w) {s : ByteArray} {k : Nat} {R : Res (Pt × Nat)} (hf : parF k s = some R) : Calls Tryd.prog 10 #[.string s] w (PostR s w R) := by
  have hmf : ∀ (fn : Fn) (first cap : Array Value) (w : World), (Instr.makeFunc fn first cap).run Tryd.prog w = .ok (.func fn first cap) w := fun _ _ _ _ => rfl
  have HT := Aside0.mk hT
  have H2 := Aside0.mk (show 2 ≤ w.heap.size from by have := cell_lt (hT.2 0 (by decide)).1; exact this)
  have hd := parF_head hf
  clear hT hf
  rcases hd with ⟨hl, rfl⟩ | ⟨hl, hd⟩
  · have hl' : (s.size : Int) > 256 := by omega
    clear hl
    go_enter_defers Tryd.func10, Tryd.ntmps10
    go_wp2_with (first
      | ((with_reducible refine gate_dst (N := 2) rfl ?_); refine box_event ?hg (N := 2) ?hd (cs := #[.pointer none]) (t := 24) ?hr ?_; (case hd => rfl); (case hg => rfl); (case hr => first | (go_simp; done) | (go_simp; rfl)); intro X hX w1 hx5 hb5; have HXe := Aside0.mk hX; have HB1 := Aside0.mk hb5; have HX1 := Aside0.mk hx5; clear hX hx5 hb5)
      | ((with_reducible refine gate_dst (N := 3) rfl ?_); refine box_event ?hg (N := 3) ?hd (cs := #[.int .i64 0]) (t := 3) ?hr ?_; (case hd => rfl); (case hg => rfl); (case hr => first | (go_simp; done) | (go_simp; rfl)); intro A hX w2 hx5 hb5; have HAe := Aside0.mk hX; have HB2 := Aside0.mk (HB1.out.trans (hb5.mono HB1.out.size)); have HX2 := Aside0.mk ((hb5.block X (blk_lt HX1.out)).trans HX1.out); have HA2 := Aside0.mk hx5; clear hX hx5 hb5)
      | ((with_reducible refine gate_dst (N := 4) rfl ?_); refine box_event ?hg (N := 4) ?hd (cs := #[.int .i64 0]) (t := 25) ?hr ?_; (case hd => rfl); (case hg => rfl); (case hr => first | (go_simp; done) | (go_simp; rfl)); intro E hX w3 hx5 hb5; have HEe := Aside0.mk hX; have HB3 := Aside0.mk (HB2.out.trans (hb5.mono HB2.out.size)); have HX3 := Aside0.mk ((hb5.block X (blk_lt HX2.out)).trans HX2.out); have HA3 := Aside0.mk ((hb5.block A (blk_lt HA2.out)).trans HA2.out); have HE3 := Aside0.mk hx5; have xa : X ≠ A := (fun e => by have h1 := blk_lt HX1.out; have h2 := HAe.out; omega); have xe : X ≠ E := (fun e => by have h1 := blk_lt HX2.out; omega); have ae : A ≠ E := (fun e => by have h1 := blk_lt HA2.out; omega); have ax := xa.symm; have ex := xe.symm; have ea := ae.symm; obtain ⟨cx, fx⟩ := one_cell HX3.out; obtain ⟨ca, fa⟩ := one_cell HA3.out; obtain ⟨ce, fe⟩ := one_cell HE3.out; clear hX hx5 hb5))

    obtain ⟨W, hW⟩ : ∃ W, W = (((w3.setCell ⟨X, 0, none⟩ (.pointer none)).setCell ⟨A, 0, none⟩ (.int .i64 0)).setCell ⟨E, 0, none⟩ (.int .i64 3)) := ⟨_, rfl⟩
    rw [← hW]
    have hx1 : (w3.setCell ⟨X, 0, none⟩ (.pointer none)).heap[X]? = some (.cells #[.pointer none] 24 (0, 0)) := blk_put HX3.out 0 _ rfl
    have ha2 : ((w3.setCell ⟨X, 0, none⟩ (.pointer none)).setCell ⟨A, 0, none⟩ (.int .i64 0)).heap[A]? = some (.cells #[.int .i64 0] 3 (0, 0)) := blk_put (set_far HA3.out ax 0 _) 0 _ rfl
    have he3 : W.heap[E]? = some (.cells #[.int .i64 3] 25 (0, 0)) := by rw [hW]; exact blk_put (set_far (set_far HE3.out ex 0 _) ea 0 _) 0 _ rfl
    have hx3 : W.heap[X]? = some (.cells #[.pointer none] 24 (0, 0)) := by rw [hW]; exact set_far (set_far hx1 xa 0 _) xe 0 _
    have ha3 : W.heap[A]? = some (.cells #[.int .i64 0] 3 (0, 0)) := by rw [hW]; exact set_far ha2 ae 0 _
    have hB : Below w.heap.size w W := by
      rw [hW]
      have h1 := HXe.out
      have h2 : w.heap.size ≤ A := by rw [HAe.out]; exact HB1.out.size
      have h3 : w.heap.size ≤ E := by rw [HEe.out]; exact HB2.out.size
      exact Below.far_ (Below.far_ (Below.far_ HB3.out (by omega) 0 _) h2 0 _) h3 0 _
    clear hW
    obtain ⟨gx, _⟩ := one_cell hx3
    obtain ⟨ga, _⟩ := one_cell ha3
    obtain ⟨ge, _⟩ := one_cell he3
    exact ⟨.tuple #[.pointer none, .int .i64 0, .int .i64 3], by simp [results, Tryd.results10, go_sem, gx, ga, ge], hB, rfl⟩
  have HPA := Aside0.mk (parser_ok s k k (Nat.le_refl _)).2.2
  have hl' : ¬ (s.size : Int) > 256 := by omega
  have HSH := Aside0.mk hl
  clear hl
  rcases hd with ⟨a1, e1, hq, rfl⟩ | ⟨p, m, j, hq, hd⟩
  · have HQ := Aside0.mk hq
    clear hq
    go_enter_defers Tryd.func10, Tryd.ntmps10
    go_wp2_with (first
      | ((with_reducible refine gate_dst (N := 2) rfl ?_); refine box_event ?hg (N := 2) ?hd (cs := #[.pointer none]) (t := 24) ?hr ?_; (case hd => rfl); (case hg => rfl); (case hr => first | (go_simp; done) | (go_simp; rfl)); intro X hX w1 hx5 hb5; have HXe := Aside0.mk hX; have HB1 := Aside0.mk hb5; have HX1 := Aside0.mk hx5; clear hX hx5 hb5)
      | ((with_reducible refine gate_dst (N := 3) rfl ?_); refine box_event ?hg (N := 3) ?hd (cs := #[.int .i64 0]) (t := 3) ?hr ?_; (case hd => rfl); (case hg => rfl); (case hr => first | (go_simp; done) | (go_simp; rfl)); intro A hX w2 hx5 hb5; have HAe := Aside0.mk hX; have HB2 := Aside0.mk (HB1.out.trans (hb5.mono HB1.out.size)); have HX2 := Aside0.mk ((hb5.block X (blk_lt HX1.out)).trans HX1.out); have HA2 := Aside0.mk hx5; clear hX hx5 hb5)
      | ((with_reducible refine gate_dst (N := 4) rfl ?_); refine box_event ?hg (N := 4) ?hd (cs := #[.int .i64 0]) (t := 25) ?hr ?_; (case hd => rfl); (case hg => rfl); (case hr => first | (go_simp; done) | (go_simp; rfl)); intro E hX w3 hx5 hb5; have HEe := Aside0.mk hX; have HB3 := Aside0.mk (HB2.out.trans (hb5.mono HB2.out.size)); have HX3 := Aside0.mk ((hb5.block X (blk_lt HX2.out)).trans HX2.out); have HA3 := Aside0.mk ((hb5.block A (blk_lt HA2.out)).trans HA2.out); have HE3 := Aside0.mk hx5;  clear hX hx5 hb5)
      | ((with_reducible refine gate_dst (N := 12) rfl ?_); refine box_event ?hg (N := 12) ?hd (cs := #[.string s, .int .i64 0, .int .i64 0, .int .i64 0]) (t := 48) ?hr ?_; (case hd => rfl); (case hg => rfl); (case hr => first | (go_simp; done) | (go_simp; rfl)); intro b hX w4 hx5 hb5; have HBe := Aside0.mk hX; have HB4 := Aside0.mk (HB3.out.trans (hb5.mono HB3.out.size)); have HX4 := Aside0.mk ((hb5.block X (blk_lt HX3.out)).trans HX3.out); have HA4 := Aside0.mk ((hb5.block A (blk_lt HA3.out)).trans HA3.out); have HE4 := Aside0.mk ((hb5.block E (blk_lt HE3.out)).trans HE3.out); have HR4 := Aside0.mk hx5; clear hX hx5 hb5)
      | ((with_reducible refine gate_dst (N := 5) rfl ?_); refine box_event ?hg (N := 5) ?hd (cs := #[.pointer none]) (t := 46) ?hr ?_; (case hd => rfl); (case hg => rfl); (case hr => first | (go_simp; done) | (go_simp; rfl)); intro V hX w5 hx5 hb5; have hb5' := HB4.out.trans (hb5.mono HB4.out.size); have HX5 := Aside0.mk ((hb5.block X (blk_lt HX4.out)).trans HX4.out); have HA5 := Aside0.mk ((hb5.block A (blk_lt HA4.out)).trans HA4.out); have HE5 := Aside0.mk ((hb5.block E (blk_lt HE4.out)).trans HE4.out); have HR5 := Aside0.mk ((hb5.block b (blk_lt HR4.out)).trans HR4.out); have LX := blk_lt HX1.out; have LA := blk_lt HA2.out; have LE := blk_lt HE3.out; have LB := blk_lt HR4.out; have h1 := HXe.out; have h2 := HAe.out; have h3 := HEe.out; have h4 := HBe.out; have h5 := HB1.out.size; have h6 := HB2.out.size; have h7 := HB3.out.size; have h8 := HB4.out.size; have hne : X ≠ A ∧ X ≠ E ∧ X ≠ b ∧ A ≠ E ∧ A ≠ b ∧ E ≠ b ∧ X ≠ V ∧ A ≠ V ∧ E ≠ V ∧ b ≠ V := (by omega); have hlo : w.heap.size ≤ X ∧ w.heap.size ≤ A ∧ w.heap.size ≤ E ∧ w.heap.size ≤ b ∧ w.heap.size ≤ V := (by omega); have hlt : X < w4.heap.size ∧ A < w4.heap.size ∧ E < w4.heap.size ∧ b < w4.heap.size := (by have g1 := blk_lt HX4.out; have g2 := blk_lt HA4.out; have g3 := blk_lt HE4.out; omega); clear LX LA LE LB h1 h2 h3 h4 h5 h6 h7 h8; obtain ⟨cv, fv⟩ := one_cell hx5; have hx6 := set_far HX5.out hne.2.2.2.2.2.2.1 0 (.pointer (some ⟨b, 0, none⟩)); have ha6 := set_far HA5.out hne.2.2.2.2.2.2.2.1 0 (.pointer (some ⟨b, 0, none⟩)); have he6 := set_far HE5.out hne.2.2.2.2.2.2.2.2.1 0 (.pointer (some ⟨b, 0, none⟩)); have hr6 := set_far HR5.out hne.2.2.2.2.2.2.2.2.2 0 (.pointer (some ⟨b, 0, none⟩)); have hv6 := blk_put hx5 0 (.pointer (some ⟨b, 0, none⟩)) rfl; have hB6 := Below.far_ hb5' hlo.2.2.2.2 0 (.pointer (some ⟨b, 0, none⟩)); have HX6 := Aside0.mk hx6; have HA6 := Aside0.mk ha6; have HE6 := Aside0.mk he6; have HV6 := Aside0.mk hv6; have HB6 := Aside0.mk hB6; have HRD := Aside0.mk (show Rd (w5.setCell ⟨V, 0, none⟩ (.pointer (some ⟨b, 0, none⟩))) b s 0 0 0 from ⟨hr6, HT.out.below hB6, (by have := H2.out; have := hlo.2.2.2.1; omega), HSH.out, Nat.zero_le _⟩); have HZ6 := Aside0.mk (show w.heap.size ≤ (w5.setCell ⟨V, 0, none⟩ (.pointer (some ⟨b, 0, none⟩))).heap.size from hB6.size); have HV5 := Aside0.mk hx5; have NE := Aside0.mk hne; have HLO := Aside0.mk hlo; have HLT := Aside0.mk (And.intro (blk_lt hx6) (And.intro (blk_lt ha6) (And.intro (blk_lt he6) (blk_lt hr6)))); clear hx6 ha6 he6 hr6 hv6 hB6 hne hlo hlt hb5'; clear hX hx5 hb5)
      | (go_at_call 22; (with_reducible refine (HPA.out.go HRD.out (Nat.zero_le _) HQ.out).mono ?_); rintro e w7 ⟨rfl, hs⟩; have HX7 := Aside0.mk ((hs.block X (blk_lt HX6.out) NE.out.2.2.1).trans HX6.out); have HA7 := Aside0.mk ((hs.block A (blk_lt HA6.out) NE.out.2.2.2.2.1).trans HA6.out); have HE7 := Aside0.mk ((hs.block E (blk_lt HE6.out) NE.out.2.2.2.2.2.1).trans HE6.out); have HV7 := Aside0.mk ((hs.block V (blk_lt HV6.out) (fun e => NE.out.2.2.2.2.2.2.2.2.2 e.symm)).trans HV6.out); have HB7 := Aside0.mk (below_stp HB6.out hs HLO.out.2.2.2.1); clear hs))
    refine leaves_cons (P := Tryd.prog) (fn := Tryd.f10) (fv := .func 21) (cap := #[.pointer (some ⟨V, 0, none⟩), .pointer (some ⟨X, 0, none⟩), .pointer (some ⟨A, 0, none⟩), .pointer (some ⟨E, 0, none⟩)]) (dargs := #[]) (ds := []) (u := .panicking (flt a1 e1)) (f := 21) (args := #[.pointer (some ⟨V, 0, none⟩), .pointer (some ⟨X, 0, none⟩), .pointer (some ⟨A, 0, none⟩), .pointer (some ⟨E, 0, none⟩)]) (by simp) (by simp [go_sem]) ?_
    refine (catch_some HX7.out HA7.out HE7.out NE.out.1 NE.out.2.1 NE.out.2.2.2.1).mono ?_
    rintro e u' w8 ⟨rfl, rfl, hx8, ha8, he8, hl8⟩
    obtain ⟨gx, _⟩ := one_cell hx8
    obtain ⟨ga, _⟩ := one_cell ha8
    obtain ⟨ge, _⟩ := one_cell he8
    have hB : Below w.heap.size w w8 := ⟨hl8.os.trans HB7.out.os, hl8.tape.trans HB7.out.tape, hl8.output.trans HB7.out.output, Nat.le_trans HB7.out.size hl8.size, fun k hk => (hl8.block k (Nat.lt_of_lt_of_le hk HB7.out.size) (fun e => by have := HLO.out; omega) (fun e => by have := HLO.out; omega) (fun e => by have := HLO.out; omega)).trans (HB7.out.block k hk)⟩
    exact ⟨.tuple #[.pointer none, .int .i64 a1, .int .i64 e1], by simp [results, Tryd.results10, go_sem, gx, ga, ge], hB, rfl⟩
  · have HQ := Aside0.mk hq
    clear hq
    rcases hd with ⟨hj, rfl⟩ | ⟨hj, rfl⟩
    · have hj' : (j : Int) < (s.size : Int) := by omega
      clear hj
      go_enter_defers Tryd.func10, Tryd.ntmps10
      go_wp2_with (first
        | ((with_reducible refine gate_dst (N := 2) rfl ?_); refine box_event ?hg (N := 2) ?hd (cs := #[.pointer none]) (t := 24) ?hr ?_; (case hd => rfl); (case hg => rfl); (case hr => first | (go_simp; done) | (go_simp; rfl)); intro X hX w1 hx5 hb5; have HXe := Aside0.mk hX; have HB1 := Aside0.mk hb5; have HX1 := Aside0.mk hx5; clear hX hx5 hb5)
        | ((with_reducible refine gate_dst (N := 3) rfl ?_); refine box_event ?hg (N := 3) ?hd (cs := #[.int .i64 0]) (t := 3) ?hr ?_; (case hd => rfl); (case hg => rfl); (case hr => first | (go_simp; done) | (go_simp; rfl)); intro A hX w2 hx5 hb5; have HAe := Aside0.mk hX; have HB2 := Aside0.mk (HB1.out.trans (hb5.mono HB1.out.size)); have HX2 := Aside0.mk ((hb5.block X (blk_lt HX1.out)).trans HX1.out); have HA2 := Aside0.mk hx5; clear hX hx5 hb5)
        | ((with_reducible refine gate_dst (N := 4) rfl ?_); refine box_event ?hg (N := 4) ?hd (cs := #[.int .i64 0]) (t := 25) ?hr ?_; (case hd => rfl); (case hg => rfl); (case hr => first | (go_simp; done) | (go_simp; rfl)); intro E hX w3 hx5 hb5; have HEe := Aside0.mk hX; have HB3 := Aside0.mk (HB2.out.trans (hb5.mono HB2.out.size)); have HX3 := Aside0.mk ((hb5.block X (blk_lt HX2.out)).trans HX2.out); have HA3 := Aside0.mk ((hb5.block A (blk_lt HA2.out)).trans HA2.out); have HE3 := Aside0.mk hx5;  clear hX hx5 hb5)
        | ((with_reducible refine gate_dst (N := 12) rfl ?_); refine box_event ?hg (N := 12) ?hd (cs := #[.string s, .int .i64 0, .int .i64 0, .int .i64 0]) (t := 48) ?hr ?_; (case hd => rfl); (case hg => rfl); (case hr => first | (go_simp; done) | (go_simp; rfl)); intro b hX w4 hx5 hb5; have HBe := Aside0.mk hX; have HB4 := Aside0.mk (HB3.out.trans (hb5.mono HB3.out.size)); have HX4 := Aside0.mk ((hb5.block X (blk_lt HX3.out)).trans HX3.out); have HA4 := Aside0.mk ((hb5.block A (blk_lt HA3.out)).trans HA3.out); have HE4 := Aside0.mk ((hb5.block E (blk_lt HE3.out)).trans HE3.out); have HR4 := Aside0.mk hx5; clear hX hx5 hb5)
        | ((with_reducible refine gate_dst (N := 5) rfl ?_); refine box_event ?hg (N := 5) ?hd (cs := #[.pointer none]) (t := 46) ?hr ?_; (case hd => rfl); (case hg => rfl); (case hr => first | (go_simp; done) | (go_simp; rfl)); intro V hX w5 hx5 hb5; have hb5' := HB4.out.trans (hb5.mono HB4.out.size); have HX5 := Aside0.mk ((hb5.block X (blk_lt HX4.out)).trans HX4.out); have HA5 := Aside0.mk ((hb5.block A (blk_lt HA4.out)).trans HA4.out); have HE5 := Aside0.mk ((hb5.block E (blk_lt HE4.out)).trans HE4.out); have HR5 := Aside0.mk ((hb5.block b (blk_lt HR4.out)).trans HR4.out); have LX := blk_lt HX1.out; have LA := blk_lt HA2.out; have LE := blk_lt HE3.out; have LB := blk_lt HR4.out; have h1 := HXe.out; have h2 := HAe.out; have h3 := HEe.out; have h4 := HBe.out; have h5 := HB1.out.size; have h6 := HB2.out.size; have h7 := HB3.out.size; have h8 := HB4.out.size; have hne : X ≠ A ∧ X ≠ E ∧ X ≠ b ∧ A ≠ E ∧ A ≠ b ∧ E ≠ b ∧ X ≠ V ∧ A ≠ V ∧ E ≠ V ∧ b ≠ V := (by omega); have hlo : w.heap.size ≤ X ∧ w.heap.size ≤ A ∧ w.heap.size ≤ E ∧ w.heap.size ≤ b ∧ w.heap.size ≤ V := (by omega); have hlt : X < w4.heap.size ∧ A < w4.heap.size ∧ E < w4.heap.size ∧ b < w4.heap.size := (by have g1 := blk_lt HX4.out; have g2 := blk_lt HA4.out; have g3 := blk_lt HE4.out; omega); clear LX LA LE LB h1 h2 h3 h4 h5 h6 h7 h8; obtain ⟨cv, fv⟩ := one_cell hx5; have hx6 := set_far HX5.out hne.2.2.2.2.2.2.1 0 (.pointer (some ⟨b, 0, none⟩)); have ha6 := set_far HA5.out hne.2.2.2.2.2.2.2.1 0 (.pointer (some ⟨b, 0, none⟩)); have he6 := set_far HE5.out hne.2.2.2.2.2.2.2.2.1 0 (.pointer (some ⟨b, 0, none⟩)); have hr6 := set_far HR5.out hne.2.2.2.2.2.2.2.2.2 0 (.pointer (some ⟨b, 0, none⟩)); have hv6 := blk_put hx5 0 (.pointer (some ⟨b, 0, none⟩)) rfl; have hB6 := Below.far_ hb5' hlo.2.2.2.2 0 (.pointer (some ⟨b, 0, none⟩)); have HX6 := Aside0.mk hx6; have HA6 := Aside0.mk ha6; have HE6 := Aside0.mk he6; have HV6 := Aside0.mk hv6; have HB6 := Aside0.mk hB6; have HRD := Aside0.mk (show Rd (w5.setCell ⟨V, 0, none⟩ (.pointer (some ⟨b, 0, none⟩))) b s 0 0 0 from ⟨hr6, HT.out.below hB6, (by have := H2.out; have := hlo.2.2.2.1; omega), HSH.out, Nat.zero_le _⟩); have HZ6 := Aside0.mk (show w.heap.size ≤ (w5.setCell ⟨V, 0, none⟩ (.pointer (some ⟨b, 0, none⟩))).heap.size from hB6.size); have HV5 := Aside0.mk hx5; have NE := Aside0.mk hne; have HLO := Aside0.mk hlo; have HLT := Aside0.mk (And.intro (blk_lt hx6) (And.intro (blk_lt ha6) (And.intro (blk_lt he6) (blk_lt hr6)))); clear hx6 ha6 he6 hr6 hv6 hB6 hne hlo hlt hb5'; clear hX hx5 hb5)
        | (go_at_call 22; (with_reducible refine (HPA.out.go HRD.out (Nat.zero_le _) HQ.out).mono ?_); rintro e w7 ⟨q, rfl, h7, hs, ht⟩; rw [Nat.zero_add] at h7; have H7 := Aside0.mk h7; have HX7 := Aside0.mk ((hs.block X (blk_lt HX6.out) NE.out.2.2.1).trans HX6.out); have HA7 := Aside0.mk ((hs.block A (blk_lt HA6.out) NE.out.2.2.2.2.1).trans HA6.out); have HE7 := Aside0.mk ((hs.block E (blk_lt HE6.out) NE.out.2.2.2.2.2.1).trans HE6.out); have HV7 := Aside0.mk ((hs.block V (blk_lt HV6.out) (fun e => NE.out.2.2.2.2.2.2.2.2.2 e.symm)).trans HV6.out); have HB7 := Aside0.mk (below_stp HB6.out hs HLO.out.2.2.2.1); clear hs ht cv fv; obtain ⟨c0, c1, c2, c3⟩ := h7.cell; clear h7; obtain ⟨cv, fv⟩ := one_cell HV7.out)
        | (go_at_call 23; (with_reducible refine (bad_calls H7.out 8).mono ?_); rintro e w' ⟨rfl, rfl⟩))
      refine leaves_cons (P := Tryd.prog) (fn := Tryd.f10) (fv := .func 21) (cap := #[.pointer (some ⟨V, 0, none⟩), .pointer (some ⟨X, 0, none⟩), .pointer (some ⟨A, 0, none⟩), .pointer (some ⟨E, 0, none⟩)]) (dargs := #[]) (ds := []) (u := .panicking (flt j 8)) (f := 21) (args := #[.pointer (some ⟨V, 0, none⟩), .pointer (some ⟨X, 0, none⟩), .pointer (some ⟨A, 0, none⟩), .pointer (some ⟨E, 0, none⟩)]) (by simp) (by simp [go_sem]) ?_
      refine (catch_some HX7.out HA7.out HE7.out NE.out.1 NE.out.2.1 NE.out.2.2.2.1).mono ?_
      rintro e u' w8 ⟨rfl, rfl, hx8, ha8, he8, hl8⟩
      obtain ⟨gx, _⟩ := one_cell hx8
      obtain ⟨ga, _⟩ := one_cell ha8
      obtain ⟨ge, _⟩ := one_cell he8
      have hB : Below w.heap.size w w8 := ⟨hl8.os.trans HB7.out.os, hl8.tape.trans HB7.out.tape, hl8.output.trans HB7.out.output, Nat.le_trans HB7.out.size hl8.size, fun k hk => (hl8.block k (Nat.lt_of_lt_of_le hk HB7.out.size) (fun e => by have := HLO.out; omega) (fun e => by have := HLO.out; omega) (fun e => by have := HLO.out; omega)).trans (HB7.out.block k hk)⟩
      exact ⟨.tuple #[.pointer none, .int .i64 j, .int .i64 8], by simp [results, Tryd.results10, go_sem, gx, ga, ge], hB, rfl⟩
    · have hj' : ¬ (j : Int) < (s.size : Int) := by omega
      clear hj
      go_enter_defers Tryd.func10, Tryd.ntmps10
      go_wp2_with (first
        | ((with_reducible refine gate_dst (N := 2) rfl ?_); refine box_event ?hg (N := 2) ?hd (cs := #[.pointer none]) (t := 24) ?hr ?_; (case hd => rfl); (case hg => rfl); (case hr => first | (go_simp; done) | (go_simp; rfl)); intro X hX w1 hx5 hb5; have HXe := Aside0.mk hX; have HB1 := Aside0.mk hb5; have HX1 := Aside0.mk hx5; clear hX hx5 hb5)
        | ((with_reducible refine gate_dst (N := 3) rfl ?_); refine box_event ?hg (N := 3) ?hd (cs := #[.int .i64 0]) (t := 3) ?hr ?_; (case hd => rfl); (case hg => rfl); (case hr => first | (go_simp; done) | (go_simp; rfl)); intro A hX w2 hx5 hb5; have HAe := Aside0.mk hX; have HB2 := Aside0.mk (HB1.out.trans (hb5.mono HB1.out.size)); have HX2 := Aside0.mk ((hb5.block X (blk_lt HX1.out)).trans HX1.out); have HA2 := Aside0.mk hx5; clear hX hx5 hb5)
        | ((with_reducible refine gate_dst (N := 4) rfl ?_); refine box_event ?hg (N := 4) ?hd (cs := #[.int .i64 0]) (t := 25) ?hr ?_; (case hd => rfl); (case hg => rfl); (case hr => first | (go_simp; done) | (go_simp; rfl)); intro E hX w3 hx5 hb5; have HEe := Aside0.mk hX; have HB3 := Aside0.mk (HB2.out.trans (hb5.mono HB2.out.size)); have HX3 := Aside0.mk ((hb5.block X (blk_lt HX2.out)).trans HX2.out); have HA3 := Aside0.mk ((hb5.block A (blk_lt HA2.out)).trans HA2.out); have HE3 := Aside0.mk hx5;  clear hX hx5 hb5)
        | ((with_reducible refine gate_dst (N := 12) rfl ?_); refine box_event ?hg (N := 12) ?hd (cs := #[.string s, .int .i64 0, .int .i64 0, .int .i64 0]) (t := 48) ?hr ?_; (case hd => rfl); (case hg => rfl); (case hr => first | (go_simp; done) | (go_simp; rfl)); intro b hX w4 hx5 hb5; have HBe := Aside0.mk hX; have HB4 := Aside0.mk (HB3.out.trans (hb5.mono HB3.out.size)); have HX4 := Aside0.mk ((hb5.block X (blk_lt HX3.out)).trans HX3.out); have HA4 := Aside0.mk ((hb5.block A (blk_lt HA3.out)).trans HA3.out); have HE4 := Aside0.mk ((hb5.block E (blk_lt HE3.out)).trans HE3.out); have HR4 := Aside0.mk hx5; clear hX hx5 hb5)
        | ((with_reducible refine gate_dst (N := 5) rfl ?_); refine box_event ?hg (N := 5) ?hd (cs := #[.pointer none]) (t := 46) ?hr ?_; (case hd => rfl); (case hg => rfl); (case hr => first | (go_simp; done) | (go_simp; rfl)); intro V hX w5 hx5 hb5; have hb5' := HB4.out.trans (hb5.mono HB4.out.size); have HX5 := Aside0.mk ((hb5.block X (blk_lt HX4.out)).trans HX4.out); have HA5 := Aside0.mk ((hb5.block A (blk_lt HA4.out)).trans HA4.out); have HE5 := Aside0.mk ((hb5.block E (blk_lt HE4.out)).trans HE4.out); have HR5 := Aside0.mk ((hb5.block b (blk_lt HR4.out)).trans HR4.out); have LX := blk_lt HX1.out; have LA := blk_lt HA2.out; have LE := blk_lt HE3.out; have LB := blk_lt HR4.out; have h1 := HXe.out; have h2 := HAe.out; have h3 := HEe.out; have h4 := HBe.out; have h5 := HB1.out.size; have h6 := HB2.out.size; have h7 := HB3.out.size; have h8 := HB4.out.size; have hne : X ≠ A ∧ X ≠ E ∧ X ≠ b ∧ A ≠ E ∧ A ≠ b ∧ E ≠ b ∧ X ≠ V ∧ A ≠ V ∧ E ≠ V ∧ b ≠ V := (by omega); have hlo : w.heap.size ≤ X ∧ w.heap.size ≤ A ∧ w.heap.size ≤ E ∧ w.heap.size ≤ b ∧ w.heap.size ≤ V := (by omega); have hlt : X < w4.heap.size ∧ A < w4.heap.size ∧ E < w4.heap.size ∧ b < w4.heap.size := (by have g1 := blk_lt HX4.out; have g2 := blk_lt HA4.out; have g3 := blk_lt HE4.out; omega); clear LX LA LE LB h1 h2 h3 h4 h5 h6 h7 h8; obtain ⟨cv, fv⟩ := one_cell hx5; have hx6 := set_far HX5.out hne.2.2.2.2.2.2.1 0 (.pointer (some ⟨b, 0, none⟩)); have ha6 := set_far HA5.out hne.2.2.2.2.2.2.2.1 0 (.pointer (some ⟨b, 0, none⟩)); have he6 := set_far HE5.out hne.2.2.2.2.2.2.2.2.1 0 (.pointer (some ⟨b, 0, none⟩)); have hr6 := set_far HR5.out hne.2.2.2.2.2.2.2.2.2 0 (.pointer (some ⟨b, 0, none⟩)); have hv6 := blk_put hx5 0 (.pointer (some ⟨b, 0, none⟩)) rfl; have hB6 := Below.far_ hb5' hlo.2.2.2.2 0 (.pointer (some ⟨b, 0, none⟩)); have HX6 := Aside0.mk hx6; have HA6 := Aside0.mk ha6; have HE6 := Aside0.mk he6; have HV6 := Aside0.mk hv6; have HB6 := Aside0.mk hB6; have HRD := Aside0.mk (show Rd (w5.setCell ⟨V, 0, none⟩ (.pointer (some ⟨b, 0, none⟩))) b s 0 0 0 from ⟨hr6, HT.out.below hB6, (by have := H2.out; have := hlo.2.2.2.1; omega), HSH.out, Nat.zero_le _⟩); have HZ6 := Aside0.mk (show w.heap.size ≤ (w5.setCell ⟨V, 0, none⟩ (.pointer (some ⟨b, 0, none⟩))).heap.size from hB6.size); have HV5 := Aside0.mk hx5; have NE := Aside0.mk hne; have HLO := Aside0.mk hlo; have HLT := Aside0.mk (And.intro (blk_lt hx6) (And.intro (blk_lt ha6) (And.intro (blk_lt he6) (blk_lt hr6)))); clear hx6 ha6 he6 hr6 hv6 hB6 hne hlo hlt hb5'; clear hX hx5 hb5)
        | (go_at_call 22; (with_reducible refine (HPA.out.go HRD.out (Nat.zero_le _) HQ.out).mono ?_); rintro e w7 ⟨q, rfl, h7, hs, ht⟩; rw [Nat.zero_add] at h7; have H7 := Aside0.mk h7; have HX7 := Aside0.mk ((hs.block X (blk_lt HX6.out) NE.out.2.2.1).trans HX6.out); have HA7 := Aside0.mk ((hs.block A (blk_lt HA6.out) NE.out.2.2.2.2.1).trans HA6.out); have HE7 := Aside0.mk ((hs.block E (blk_lt HE6.out) NE.out.2.2.2.2.2.1).trans HE6.out); have HV7 := Aside0.mk ((hs.block V (blk_lt HV6.out) (fun e => NE.out.2.2.2.2.2.2.2.2.2 e.symm)).trans HV6.out); have HB7 := Aside0.mk (below_stp HB6.out hs HLO.out.2.2.2.1); have HT7 := Aside0.mk ht; clear hs ht cv fv; obtain ⟨c0, c1, c2, c3⟩ := h7.cell; clear h7; obtain ⟨cv, fv⟩ := one_cell HV7.out)
        | ((with_reducible refine gate_dst (N := 32) rfl ?_); refine box_event ?hg (N := 32) ?hd (cs := #[.string s, .pointer (some ⟨q, 0, none⟩), .int .i64 m]) (t := 43) ?hr ?_; (case hd => rfl); (case hg => rfl); (case hr => first | (go_simp; done) | (go_simp; rfl)); intro Q hX w8 hx5 hb5; have HX8 := Aside0.mk ((hb5.block X (blk_lt HX7.out)).trans HX7.out); have HA8 := Aside0.mk ((hb5.block A (blk_lt HA7.out)).trans HA7.out); have HE8 := Aside0.mk ((hb5.block E (blk_lt HE7.out)).trans HE7.out); have HB8 := Aside0.mk (HB7.out.trans (hb5.mono HB7.out.size)); have HT8 := Aside0.mk (HT7.out.stp (Stp.of (b := b) hb5) HLT.out.2.2.2); have HQ8 := Aside0.mk hx5; have HQe := Aside0.mk hX; have HQN := Aside0.mk (show Q ≠ X ∧ Q ≠ A ∧ Q ≠ E from (by have h1 := blk_lt HX7.out; have h2 := blk_lt HA7.out; have h3 := blk_lt HE7.out; omega)); obtain ⟨cx, fx⟩ := one_cell HX8.out; obtain ⟨ca, fa⟩ := one_cell HA8.out; obtain ⟨ce, fe⟩ := one_cell HE8.out; have xa := NE.out.1; have xe := NE.out.2.1; have ae := NE.out.2.2.2.1; have ax := xa.symm; have ex := xe.symm; have ea := ae.symm; clear hX hx5 hb5))
      obtain ⟨W, hW⟩ : ∃ W, W = (((w8.setCell ⟨X, 0, none⟩ (.pointer (some ⟨Q, 0, none⟩))).setCell ⟨A, 0, none⟩ (.int .i64 0)).setCell ⟨E, 0, none⟩ (.int .i64 0)) := ⟨_, rfl⟩
      rw [← hW]
      have xa := NE.out.1
      have xe := NE.out.2.1
      have ae := NE.out.2.2.2.1
      have hx1 : (w8.setCell ⟨X, 0, none⟩ (.pointer (some ⟨Q, 0, none⟩))).heap[X]? = some (.cells #[.pointer (some ⟨Q, 0, none⟩)] 24 (0, 0)) := blk_put HX8.out 0 _ rfl
      have ha2 : ((w8.setCell ⟨X, 0, none⟩ (.pointer (some ⟨Q, 0, none⟩))).setCell ⟨A, 0, none⟩ (.int .i64 0)).heap[A]? = some (.cells #[.int .i64 0] 3 (0, 0)) := blk_put (set_far HA8.out xa.symm 0 _) 0 _ rfl
      have he3 : W.heap[E]? = some (.cells #[.int .i64 0] 25 (0, 0)) := by rw [hW]; exact blk_put (set_far (set_far HE8.out xe.symm 0 _) ae.symm 0 _) 0 _ rfl
      have hx3 : W.heap[X]? = some (.cells #[.pointer (some ⟨Q, 0, none⟩)] 24 (0, 0)) := by rw [hW]; exact set_far (set_far hx1 xa 0 _) xe 0 _
      have ha3 : W.heap[A]? = some (.cells #[.int .i64 0] 3 (0, 0)) := by rw [hW]; exact set_far ha2 ae 0 _
      have hB : Below w.heap.size w W := by
        rw [hW]
        have h1 := HLO.out
        exact Below.far_ (Below.far_ (Below.far_ HB8.out (by omega) 0 _) (by omega) 0 _) (by omega) 0 _
      have hq3 : W.heap[Q]? = some (.cells #[.string s, .pointer (some ⟨q, 0, none⟩), .int .i64 m] 43 (0, 0)) := by
        rw [hW]
        exact set_far (set_far (set_far HQ8.out HQN.out.1 0 _) HQN.out.2.1 0 _) HQN.out.2.2 0 _
      have ht3 : Tr W w.heap.size (fun k => w.heap.size ≤ k) q p := by
        rw [hW]
        have h1 := HLT.out
        exact (((HT8.out.far h1.1).far h1.2.1).far h1.2.2.1).down HZ6.out
      have hQ : w.heap.size ≤ Q := by rw [HQe.out]; exact HB7.out.size
      have hf3 : Lft3 X A E w8 W := by rw [hW]; exact ⟨rfl, rfl, rfl, by simp, fun k _ n1 n2 n3 => ((Below.heap_setCell _ _ _ k n3).trans (Below.heap_setCell _ _ _ k n2)).trans (Below.heap_setCell _ _ _ k n1)⟩
      refine leaves_cons (P := Tryd.prog) (fn := Tryd.f10) (fv := .func 21) (cap := #[.pointer (some ⟨V, 0, none⟩), .pointer (some ⟨X, 0, none⟩), .pointer (some ⟨A, 0, none⟩), .pointer (some ⟨E, 0, none⟩)]) (dargs := #[]) (ds := []) (u := .returning) (f := 21) (args := #[.pointer (some ⟨V, 0, none⟩), .pointer (some ⟨X, 0, none⟩), .pointer (some ⟨A, 0, none⟩), .pointer (some ⟨E, 0, none⟩)]) (by simp) (by simp [go_sem]) ?_
      clear hW
      refine (catch_idle V X A E W).mono ?_
      rintro e u' w9 ⟨rfl, rfl, rfl⟩
      obtain ⟨gx, _⟩ := one_cell hx3
      obtain ⟨ga, _⟩ := one_cell ha3
      obtain ⟨ge, _⟩ := one_cell he3
      exact ⟨.tuple #[.pointer (some ⟨Q, 0, none⟩), .int .i64 0, .int .i64 0], by simp [results, Tryd.results10, go_sem, gx, ga, ge], hB, Q, rfl, hQ, q, hq3, ht3⟩
end Go.Proofs.YtmfpikhmeacnbaaDoor.X
