import Derived.Test.YticoaaddhhiglaaT2
import Derived.Deep.MidRow
/- The table of tenants by hand: structs in memory of their own; copied. -/
namespace Go.Proofs.Yticoaaddhhiglaa.T
open Go.RowKit Go.Proofs.Yticoaaddhhiglaa.Q Go.Proofs.YticoaaddhhiglaaW.PrintWords Go.Proofs.YticoaaddhhiglaaW.PrintLast Go.Proofs.YticoaaddhhiglaaW.PrintMore
set_option linter.unusedVariables false
set_option linter.unusedSimpArgs false
theorem size39 : (Try.prog.info? 39).map (·.size) = some 9 := by kernel_rfl
theorem size27 : (Try.prog.info? 27).map (·.size) = some 11 := by kernel_rfl
theorem size23 : (Try.prog.info? 23).map (·.size) = some 2 := by kernel_rfl
theorem size25 : (Try.prog.info? 25).map (·.size) = some 4 := by kernel_rfl
theorem size9 : (Try.prog.info? 9).map (·.size) = some 1 := by kernel_rfl
theorem range_blk {w : World} {B : Nat} {t : TypeId} {cs : List Value} (h : w.heap[B]? = some (.cells cs.toArray t (0, 0))) : w.rangeAt B 0 cs := fun j v hv => by
  rw [Nat.zero_add, blk_cell h j]
  simpa using hv
section
variable {ops : Array Oper} {rest : List Oper} {op : Oper} {a : Act} {w : World} {Q : Exit → Act → World → Prop}
theorem load_blk (hgd : op.guard = none) (t : TypeId) (x : Operand) (ho : op.op = .load t x) (B : Nat) (hx : a.eval x = .pointer (some ⟨B, 0, none⟩)) (cs : List Value) (h : w.heap[B]? = some (.cells cs.toArray t (0, 0))) (d : TypeDesc) (hu : Try.prog.underlying t = some d) (hd : d.isRow = true) (hi : (Try.prog.info? t).map (·.size) = some cs.length)
    (hk : wpList Try.prog ops Q rest (a.put op.dst (.agg cs.toArray)) w) : wpList Try.prog ops Q (op :: rest) a w :=
  wpList_load_mid hgd t x ho B 0 hx cs d (range_blk h) hu hd hi hk
theorem store_blk (hgd : op.guard = none) (t : TypeId) (x y : Operand) (ho : op.op = .store t x y) (B : Nat) (cs cs' : List Value) (hx : a.eval x = .pointer (some ⟨B, 0, none⟩)) (hy : a.eval y = .agg cs'.toArray) (h : w.heap[B]? = some (.cells cs.toArray t (0, 0))) (hl : cs'.length = cs.length) (hi : (Try.prog.info? t).map (·.size) = some cs'.length) (h1 : ∀ v ∈ cs', v.oneCell' = true)
    (hk : ∀ w1, w1.heap[B]? = some (.cells cs'.toArray t (0, 0)) → (∀ k, k ≠ B → w1.heap[k]? = w.heap[k]?) → (∀ W : World, W.heap.size ≤ B → Below W.heap.size W w → Below W.heap.size W w1) → wpList Try.prog ops Q rest (a.put op.dst undef) w1) : wpList Try.prog ops Q (op :: rest) a w := by
  have hsz : (cs'.toArray).size = cs'.length := by simp
  refine wpList_store_mid hgd t x y ho B 0 cs'.toArray hx hy (fun j hj => ?_) (by rw [hsz]; exact hi) (all_oneCell_toArray h1) ?_
  · rw [Nat.zero_add]
    refine ⟨?_, blk_frozen h j⟩
    rw [blk_cell h j]
    simp
    rw [hsz] at hj
    omega
  · obtain ⟨cur', h3, h4, h5⟩ := setCells_row cs' 0 w cs.toArray h (by simp; omega)
    obtain ⟨s1, s2, s3, s4⟩ := setCells_same B cs' 0 w
    have e : cur' = cs'.toArray := by
      have : cur'.toList = cs' := by rw [h5]; simp; omega
      rw [← this]
    rw [e] at h3
    refine hk _ h3 (fun k hne => setCells_far _ _ k hne) (fun W hW hb => ?_)
    exact ⟨s1.trans hb.os, s2.trans hb.tape, s3.trans hb.output, by rw [s4]; exact hb.size, fun k hk => (setCells_far _ _ k (by omega)).trans (hb.block k hk)⟩
end
/-- A tenant's cells, with its rows. -/
def ten (x : S39) (v1 v8 : Value) : List Value := [.string x.f0, v1, .int .i64 x.f2.f0, .int .i64 x.f2.f1, .int .i64 x.f2.f2, .int .i64 x.f2.f3, .int .i64 x.f3, .int .i64 x.f4, v8]
theorem ten_one (x : S39) {v1 v8 : Value} (h1 : v1.oneCell' = true) (h8 : v8.oneCell' = true) : ∀ v ∈ ten x v1 v8, v.oneCell' = true := fun v hv => by
  simp only [ten, List.mem_cons, List.not_mem_nil, or_false] at hv
  rcases hv with rfl | rfl | rfl | rfl | rfl | rfl | rfl | rfl | rfl <;> first | rfl | assumption
theorem cells9 {w : World} {B : Nat} {x : S39} {v1 v8 : Value} (h : w.heap[B]? = some (.cells (ten x v1 v8).toArray 39 (0, 0))) : w.cell? ⟨B, 1, none⟩ = some v1 ∧ w.cell? ⟨B, 8, none⟩ = some v8 ∧ w.frozen? ⟨B, 1, none⟩ = false ∧ w.frozen? ⟨B, 8, none⟩ = false :=
  ⟨(blk_cell h 1).trans rfl, (blk_cell h 8).trans rfl, blk_frozen h 1, blk_frozen h 8⟩
theorem flat23 {W : World} {base : Nat} (W1 : World) (ok : Nat → Prop) (x : S23) (cs : List Value) (h : k23.K W x cs) : k23.M W1 base ok x cs := by
  obtain rfl := k23_open h
  exact k23_mkM W1 base ok x
theorem flatS {W : World} {base : Nat} (W1 : World) (ok : Nat → Prop) (x : ByteArray) (cs : List Value) (h : Kd.string.K W x cs) : Kd.string.M W1 base ok x cs := h
theorem results_c1 {fn : Func} {p : Tmp} {ty : TypeId} (h : fn.results = #[.cell p ty]) (tmps : Array Value) (w : World) (b : Nat) (v : Value) (hp : tmps.getD p undef = .pointer (some ⟨b, 0, none⟩)) (hl : (loadVar ty ⟨b, 0, none⟩).run Try.prog w = .ok v w) : (results fn tmps).run Try.prog w = .ok v w := by
  have hp' : tmps[p]?.getD undef = .pointer (some ⟨b, 0, none⟩) := by rw [← hp]; simp [Array.getD_eq_getD_getElem?]
  simp [results, h, hp', asAddr, hl]
theorem one_of_R {α : Type} {d : Kd α} {e base : Nat} {ok : Nat → Prop} {w : World} {v : Value} {xs : List α} (h : d.R e w base ok v xs) : v.oneCell' = true := by
  obtain ⟨A, c, rfl⟩ := Kd.R_slice h
  rfl
/-- What copied hands out. -/
def Copy (w : World) (x : S39) (e : Ending) (w' : World) : Prop := ∃ v1 v8, e = .returned (.agg (ten x v1 v8).toArray) ∧ k23.R 23 w' w.heap.size (fun _ => True) v1 x.f1 ∧ Kd.string.R 9 w' w.heap.size (fun _ => True) v8 x.f5 ∧ Below w.heap.size w w'
set_option maxHeartbeats 4000000 in
set_option maxRecDepth 100000 in
theorem copied_calls {w : World} (x : S39) {A1 : Option Addr} {c1 : Nat} {A8 : Option Addr} {c8 : Nat} (l1 : x.f1.length ≤ c1) (g1 : k23.C w A1 x.f1.length x.f1) (l8 : x.f5.length ≤ c8) (g8 : Kd.string.C w A8 x.f5.length x.f5) (hf : x.f1.length ≤ 1000 ∧ x.f5.length ≤ 1000) : Calls Try.prog 39 #[.agg (ten x (.slice A1 x.f1.length c1) (.slice A8 x.f5.length c8)).toArray] w (Copy w x) := by
  have G1 := Aside0.mk g1
  have G8 := Aside0.mk g8
  have HF := Aside0.mk hf
  clear l1 l8 g1 g8 hf
  unfold ten
  obtain ⟨m, hm⟩ : ∃ m : Nat, m = x.f1.length := ⟨_, rfl⟩
  obtain ⟨q, hq⟩ : ∃ q : Nat, q = x.f5.length := ⟨_, rfl⟩
  rw [← hm, ← hq]
  have HMQ := Aside0.mk (And.intro hm hq)
  clear hm hq
  go_enter Try.func39, Try.ntmps39
  go_wp2_with (first
    | ((with_reducible refine gate_dst (N := 1) rfl ?_); refine box_event ?hg (N := 1) ?hd (cs := (ten x (.slice A1 m c1) (.slice A8 q c8)).toArray) (t := 39) ?hr ?_; (case hd => rfl); (case hg => rfl); (case hr => first | (go_simp; done) | (go_simp; rfl)); intro B hB w1 h1 hb1; obtain ⟨z1, z2, z3, z4⟩ := cells9 h1; have H1 := Aside0.mk h1; have HB1 := Aside0.mk hb1; have HBE := Aside0.mk hB; clear h1 hb1 hB)
    | ((with_reducible refine gate_dst (N := 2) rfl ?_); refine box_event ?hg (N := 2) ?hd (cs := (ten z39 (.slice none 0 0) (.slice none 0 0)).toArray) (t := 39) ?hr ?_; (case hd => rfl); (case hg => rfl); (case hr => first | (go_simp; done) | (go_simp; rfl)); intro E hE w2 h2 hb2; have H2 := Aside0.mk h2; have HB2 := Aside0.mk (below_step HB1.out hb2); have H12 := Aside0.mk ((hb2.block B (heap_lt H1.out)).trans H1.out); have hEB := Aside0.mk (show E ≠ B from by rw [hE]; have := heap_lt H1.out; omega); have HEG := Aside0.mk (show w.heap.size ≤ E from by rw [hE]; exact HB1.out.size); clear h2 hb2 hE z1 z2 z3 z4; obtain ⟨z1, z2, z3, z4⟩ := cells9 H12.out)
    | ((with_reducible refine gate_dst (N := 8) rfl ?_); refine Kd.R_make k23 (w0 := w) w.heap.size 23 rfl rfl 36 (.tmp 7) (.tmp 7) rfl (m : Int) rfl rfl Try.underlying36 (.agg #[.int .i64 0, .string ⟨#[]⟩]) 24 info23 rfl (by decide) (by decide) z23 (ok := fun _ => True) (okp := fun _ => False) (k23_mkM _ _ _ _) (fun _ h => h.elim) trivial (by omega) (by have := HF.out; have := HMQ.out; simp only [Int.toNat_natCast]; omega) HB2.out HB2.out.size ?_; intro v3 w3 hr3 hb3 hg3 ho3; simp only [Int.toNat_natCast] at hr3; obtain ⟨A3, c3, hv3⟩ := Kd.R_slice hr3; rw [List.length_replicate] at hv3; subst hv3; have HR3 := Aside0.mk hr3; have HB3 := Aside0.mk hb3; have H3B := Aside0.mk ((hg3.block B (heap_lt H12.out) (fun e => by cases e)).trans H12.out); have H3E := Aside0.mk ((hg3.block E (heap_lt H2.out) (fun e => by cases e)).trans H2.out); have HO3 := Aside0.mk ho3; clear hr3 hb3 hg3 ho3 z1 z2 z3 z4; obtain ⟨z1, z2, z3, z4⟩ := cells9 H3B.out)
    | ((with_reducible refine gate_builtin (b := .copy) (xs := #[.tmp 9, .tmp 11]) rfl ?_); refine copy_event k23 (w0 := w) w.heap.size rfl (.tmp 9) (.tmp 11) 36 36 23 rfl Try.underlying36 size23 (by decide) flat23 (.slice A3 m c3) _ x.f1 A1 c1 (fun _ => True) HMQ.out.1 rfl rfl HR3.out (by rw [List.length_replicate]; exact HMQ.out.1) (Kd.C_below G1.out HB3.out) HB3.out HB3.out.size ?_; intro w4 hr4 hb4 hg4; have HR4 := Aside0.mk hr4; have HB4 := Aside0.mk hb4; have hne : ∀ k, w3.heap[k]? = some (.cells (ten x (.slice A1 m c1) (.slice A8 q c8)).toArray 39 (0, 0)) ∨ w3.heap[k]? = some (.cells (ten z39 (.slice none 0 0) (.slice none 0 0)).toArray 39 (0, 0)) → some k ≠ (Value.slice A3 m c3).ownBlock := (fun k hk e => by obtain ⟨cs, hcs⟩ := own_typed (HR3.out.2.choose_spec.1) k e.symm; rcases hk with hk | hk <;> (rw [hcs] at hk; injection hk with hk; injection hk with _ hk; exact absurd hk (by decide))); have H4B := Aside0.mk ((hg4.block B (heap_lt H3B.out) (hne B (.inl H3B.out))).trans H3B.out); have H4E := Aside0.mk ((hg4.block E (heap_lt H3E.out) (hne E (.inr H3E.out))).trans H3E.out); clear hr4 hb4 hg4 hne z1 z2 z3 z4; obtain ⟨z1, z2, z3, z4⟩ := cells9 H4B.out)
    | ((with_reducible refine gate_dst (N := 16) rfl ?_); refine Kd.R_make Kd.string (w0 := w) w.heap.size 9 rfl rfl 37 (.tmp 15) (.tmp 15) rfl (q : Int) rfl rfl Try.underlying37 (.string ⟨#[]⟩) 16 info9 rfl (by decide) (by decide) (⟨#[]⟩ : ByteArray) (ok := fun _ => True) (okp := fun _ => False) rfl (fun _ h => h.elim) trivial (by omega) (by have := HF.out; have := HMQ.out; simp only [Int.toNat_natCast]; omega) HB4.out HB4.out.size ?_; intro v5 w5 hr5 hb5 hg5 ho5; simp only [Int.toNat_natCast] at hr5; obtain ⟨A5, c5, hv5⟩ := Kd.R_slice hr5; rw [List.length_replicate] at hv5; subst hv5; have HR5 := Aside0.mk hr5; have HB5 := Aside0.mk hb5; have H5B := Aside0.mk ((hg5.block B (heap_lt H4B.out) (fun e => by cases e)).trans H4B.out); have H5E := Aside0.mk ((hg5.block E (heap_lt H4E.out) (fun e => by cases e)).trans H4E.out); have HK5 := Aside0.mk (Kd.R_grown HR4.out hg5 (fun k _ e => by cases e)); clear hr5 hb5 hg5 ho5 z1 z2 z3 z4; obtain ⟨z1, z2, z3, z4⟩ := cells9 H5B.out)
    | ((with_reducible refine gate_builtin (b := .copy) (xs := #[.tmp 17, .tmp 19]) rfl ?_); refine copy_event Kd.string (w0 := w) w.heap.size rfl (.tmp 17) (.tmp 19) 37 37 9 rfl Try.underlying37 size9 (by decide) flatS (.slice A5 q c5) _ x.f5 A8 c8 (fun _ => True) HMQ.out.2 rfl rfl HR5.out (by rw [List.length_replicate]; exact HMQ.out.2) (Kd.C_below G8.out HB5.out) HB5.out HB5.out.size ?_; intro w6 hr6 hb6 hg6; have HR6 := Aside0.mk hr6; have HB6 := Aside0.mk hb6; have hne : ∀ k, w5.heap[k]? = some (.cells (ten x (.slice A1 m c1) (.slice A8 q c8)).toArray 39 (0, 0)) ∨ w5.heap[k]? = some (.cells (ten z39 (.slice none 0 0) (.slice none 0 0)).toArray 39 (0, 0)) → some k ≠ (Value.slice A5 q c5).ownBlock := (fun k hk e => by obtain ⟨cs, hcs⟩ := own_typed (HR5.out.2.choose_spec.1) k e.symm; rcases hk with hk | hk <;> (rw [hcs] at hk; injection hk with hk; injection hk with _ hk; exact absurd hk (by decide))); have H6B := Aside0.mk ((hg6.block B (heap_lt H5B.out) (hne B (.inl H5B.out))).trans H5B.out); have H6E := Aside0.mk ((hg6.block E (heap_lt H5E.out) (hne E (.inr H5E.out))).trans H5E.out); have HK6 := Aside0.mk (Kd.R_drop (Kd.R_grown (Kd.R_apartR HK5.out HR5.out (by decide)) hg6 (fun k hk => hk.2))); clear hr6 hb6 hg6 hne z1 z2 z3 z4; obtain ⟨z1, z2, z3, z4⟩ := cells9 H6B.out)
    | ((with_reducible refine gate_ (.load 39 (.tmp 1)) rfl ?_); refine load_blk rfl 39 (.tmp 1) rfl B rfl (ten x (.slice A3 m c3) (.slice A5 q c5)) (blk_put (blk_put H6B.out 1 (.slice A3 m c3) rfl) 8 (.slice A5 q c5) rfl) _ Try.underlying39 rfl size39 ?_)
    | ((with_reducible refine gate_ (.store 39 (.tmp 2) (.tmp 25)) rfl ?_); refine store_blk rfl 39 (.tmp 2) (.tmp 25) rfl E (ten z39 (.slice none 0 0) (.slice none 0 0)) (ten x (.slice A3 m c3) (.slice A5 q c5)) rfl rfl ((Below.heap_setCell _ _ _ E (fun e => hEB.out e)).trans ((Below.heap_setCell _ _ _ E (fun e => hEB.out e)).trans H6E.out)) rfl size39 (ten_one x (one_of_R HK6.out) (one_of_R HR6.out)) ?_; intro w7 h7 hk7 hb7; have H7 := Aside0.mk h7; have HB7 := Aside0.mk hb7; have HK7 := Aside0.mk hk7; clear h7 hb7 hk7))
  ((try simp only [Exit.inBlock, Exit.then]); refine bodyPost_ret (results_c1 rfl _ _ E _ rfl (run_loadVar_mid _ _ _ 39 _ _ (range_blk H7.out) Try.underlying39 rfl size39)) rfl ?_)
  have hEQ : ∀ {cs : Array Value} {w6' : World}, w6'.heap[E]? = some (.cells cs 39 (0, 0)) → True := fun _ => trivial
  have e6 := (Below.heap_setCell (w6.setCell ⟨B, 1, none⟩ (.slice A3 m c3)) ⟨B, 8, none⟩ (.slice A5 q c5) E (fun e => hEB.out e)).trans ((Below.heap_setCell w6 ⟨B, 1, none⟩ (.slice A3 m c3) E (fun e => hEB.out e)).trans H6E.out)
  have r1 := Kd.R_set (Kd.R_set HK6.out H6B.out (by decide) 1 (.slice A3 m c3)) (blk_put H6B.out 1 (.slice A3 m c3) rfl) (by decide) 8 (.slice A5 q c5)
  have r2 := Kd.R_set (Kd.R_set HR6.out H6B.out (by decide) 1 (.slice A3 m c3)) (blk_put H6B.out 1 (.slice A3 m c3) rfl) (by decide) 8 (.slice A5 q c5)
  refine ⟨.slice A3 m c3, .slice A5 q c5, rfl, Kd.R_mono (Kd.R_move (Kd.R_types r1 e6 (by decide)) (fun k hk => HK7.out k hk.2)) (fun _ _ => trivial), Kd.R_mono (Kd.R_move (Kd.R_types r2 e6 (by decide)) (fun k hk => HK7.out k hk.2)) (fun _ _ => trivial), ?_⟩
  exact HB7.out w HEG.out (below_set (below_set HB6.out (by rw [HBE.out]; exact Nat.le_refl _)) (by rw [HBE.out]; exact Nat.le_refl _))
end Go.Proofs.Yticoaaddhhiglaa.T
