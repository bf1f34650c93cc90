/- The network by hand: Clone. -/
import Derived.Test.YtlnipfmgdkiboaaN44
import Derived.Test.YtlnipfmgdkiboaaNK
namespace Go.Proofs.Ytlnipfmgdkiboaa.N
open Go.RowKit Go.Shelf Go.Proofs.Ytlnipfmgdkiboaa.Q Go.Proofs.YtlnipfmgdkiboaaW.PrintWords Go.Proofs.YtlnipfmgdkiboaaW.PrintLast Go.Proofs.YtlnipfmgdkiboaaW.PrintMore
attribute [local go_sem] Oper.semAt_some
set_option linter.unusedVariables false
set_option linter.unusedSimpArgs false
def clone.T9 : Bool × List (List Nat × List Nat) := (true, [([], []), ([0], [0]), ([1], [1]), ([2], [2]), ([], []), ([], []), ([5], [5]), ([6], [6]), ([7], [7]), ([], []), ([8, 9], [8, 9]), ([], []), ([11], [11]), ([10, 12], [10, 12]), ([3, 4, 13, 13, 0, 1, 2, 3, 4, 5, 6, 7, 8, 9, 10, 11, 12, 13], [3, 4, 13])])
def clone.B9 : List Nat := [0, 1, 3, 7, 0, 0, 32, 96, 224, 0, 992, 0, 2048, 8160, 16383]
theorem clone.tab9 : rtab .any (opsOf Try.f20 9) = clone.T9 := by kernel_rfl
theorem clone.bits9 : waitsOk clone.T9.2 clone.B9 = true := by kernel_rfl
section
variable {w : World} {N M : Nat} {room : Int} {B : Nat} {own : Nat → Option ByteArray} {G : ByteArray → Option Value} {Q : ByteArray → List S34}
/-- The copy as it is made. -/
theorem clone_new (h : NetG w N M room B own G Q) : NetG (((w.alloc (Obj.map #[] 0)).alloc (Obj.cells #[.int .i64 room, .map (some w.heap.size)] 62)).alloc (Obj.cells #[.pointer (some ⟨w.heap.size + 1, 0, none⟩)] 23)) (w.heap.size + 1) w.heap.size room w.heap.size (fun _ => none) (fun _ => none) (fun _ => []) ∧
    Below w.heap.size w (((w.alloc (Obj.map #[] 0)).alloc (Obj.cells #[.int .i64 room, .map (some w.heap.size)] 62)).alloc (Obj.cells #[.pointer (some ⟨w.heap.size + 1, 0, none⟩)] 23)) ∧
    Boxed (((w.alloc (Obj.map #[] 0)).alloc (Obj.cells #[.int .i64 room, .map (some w.heap.size)] 62)).alloc (Obj.cells #[.pointer (some ⟨w.heap.size + 1, 0, none⟩)] 23)) (w.heap.size + 2) 23 (.pointer (some ⟨w.heap.size + 1, 0, none⟩)) := by
  have hb : ((w.alloc (.map #[] 0)).alloc (.cells #[.int .i64 room, .map (some w.heap.size)] 62)).heap[w.heap.size + 1]? = some (.cells #[.int .i64 room, .map (some w.heap.size)] 62 (0, 0)) := by
    have := World.alloc_heap_new (w.alloc (.map #[] 0)) (.cells #[.int .i64 room, .map (some w.heap.size)] 62)
    rwa [World.size_alloc] at this
  have hm : MapF ((w.alloc (.map #[] 0)).alloc (.cells #[.int .i64 room, .map (some w.heap.size)] 62)) w.heap.size (fun _ => none) := (MapF.made w).move ((MapKept.heap_alloc _ _).2 _ (by show _ < (w.heap.push _).size; simp))
  have hn : NetG ((w.alloc (.map #[] 0)).alloc (.cells #[.int .i64 room, .map (some w.heap.size)] 62)) (w.heap.size + 1) w.heap.size room w.heap.size (fun _ => none) (fun _ => none) (fun _ => []) :=
    ⟨hb, hm, fun s => Kd.S_nil _ _ _ _ _, h.room1, h.room2, fun s => by have := h.room1; simp; omega, by omega, Nat.le_refl _, (fun k s e => by cases e), rfl, rfl, fun s x hx => by cases hx⟩
  refine ⟨hn.below (below_alloc (Below.refl _ _) _), below_alloc (below_alloc (below_alloc (Below.refl _ _) _) _) _, ?_⟩
  have := Boxed.new ((w.alloc (Obj.map #[] 0)).alloc (Obj.cells #[.int .i64 room, .map (some w.heap.size)] 62)) 23 (.pointer (some ⟨w.heap.size + 1, 0, none⟩))
  rwa [World.size_alloc, World.size_alloc] at this
/-- The names lie in one block; where there are none, another block stands for it. -/
theorem names_at {W0 W1 : World} {ok : Nat → Prop} {v : Value} {xs : List ByteArray} (hR : Kd.string.R 9 W1 W0.heap.size ok v xs) {T : Nat} {u : Value} (hT : Boxed W0 T 23 u) (hb : Below W0.heap.size W0 W1) :
    ∃ A g o cn, v = .slice A xs.length cn ∧ W1.heap[g]? = some o ∧ o.isCells = true ∧ ∀ wr : World, wr.heap[g]? = some o → ∀ i, i < xs.length → A = some ⟨g, 0, none⟩ ∧ wr.cell? ⟨g, i, none⟩ = some (.string (xs.getD i ⟨#[]⟩)) := by
  obtain ⟨A, c, hv, _, _⟩ := Kd.R_reads hR
  rcases Nat.eq_zero_or_pos xs.length with h0 | hp
  · refine ⟨A, T, _, c, hv, (hb.block T hT.lt).trans hT, rfl, fun wr _ i hi => by omega⟩
  · obtain ⟨g, c', hv', _, hg, cells, hc⟩ := Kd.R_form hR hp
    rw [hv] at hv'
    injection hv' with hA _ _
    subst hA
    refine ⟨_, g, _, c, hv, hc, rfl, fun wr hw i hi => ⟨rfl, ?_⟩⟩
    rw [hv] at hR
    obtain ⟨cs, hl, hM, hcell, _⟩ := Kd.R_elem hR ⟨#[]⟩ (i : Int) (by omega) (by omega)
    have hk : cs = [.string (xs.getD i ⟨#[]⟩)] := hM
    subst hk
    have hq : W1.cell? ⟨g, (i : Int).toNat * 1 + 0, none⟩ = _ := hcell 0 _ rfl
    rw [Nat.mul_one, Nat.add_zero, Int.toNat_natCast] at hq
    rw [← hq]
    simp only [World.cell?, hw, hc]
/-- What the rounds over a tenant's letters leave: the copy's row is the letters that have come, as they came. -/
def CI (W2 : World) (Mc : Nat) (s : ByteArray) (G0 : ByteArray → Option Value) (pre : List (Nat × RawL)) (W : World) : Prop :=
  ∃ G1 v, MapF W Mc G1 ∧ (∀ t, (G1 t).getD (.slice none 0 0) = if t = s then v else (G0 t).getD (.slice none 0 0)) ∧ (∀ t, t ≠ s → G0 t = none → G1 t = none) ∧ W.ownsRow W2.heap.size 34 2 v pre.length (flatL pre) ∧ Chg (fun k => k = Mc) W2 W
theorem CI_own {W2 : World} {Mc : Nat} {s : ByteArray} {G0 : ByteArray → Option Value} {n : Nat} (hn : W2.heap.size = n) (hM : Mc < n) : OwnFrom n (CI W2 Mc s G0) := fun pre A W' row hs hg hr => by
  subst hn
  obtain ⟨G1, v, h1, h2, h3, h4, h5⟩ := hs
  have hold : ∀ k, k < W2.heap.size → W'.heap[k]? = A.heap[k]? := fun k hk => hg.block k (Nat.lt_of_lt_of_le hk h5.size) (fun e => by have := (hr k e.symm).1; omega)
  exact ⟨G1, v, h1.move (hold Mc hM), h2, h3, h4.kept hg (own_row_ne hr h4), hg.os.trans h5.os, hg.tape.trans h5.tape, hg.output.trans h5.output, Nat.le_trans h5.size hg.size, fun k hk hn => (hold k hk).trans (h5.block k hk hn), fun k cells hk => (hold k (heap_lt hk)).trans (h5.five k cells hk)⟩
theorem CI_start {W2 : World} {Mc : Nat} {s : ByteArray} {G0 : ByteArray → Option Value} (hM : MapF W2 Mc G0) (h0 : G0 s = none) : CI W2 Mc s G0 [] W2 :=
  ⟨G0, .slice none 0 0, hM, fun t => by by_cases e : t = s <;> simp [e, h0], fun t _ h => h, World.ownsRow_nil _ _ _ _, Chg.refl _ _⟩
/-- A letter more. -/
theorem CI_put {W2 W w3 w4 : World} {Mc : Nat} {s : ByteArray} {G0 G1 : ByteArray → Option Value} {pre : List (Nat × RawL)} {x : Nat × RawL} {v v2 : Value} (hMl : Mc < W2.heap.size) (hMm : ∀ cells, W2.heap[Mc]? ≠ some (Obj.cells cells 5 (0, 0)))
    (h2 : ∀ t, (G1 t).getD (.slice none 0 0) = if t = s then v else (G0 t).getD (.slice none 0 0)) (h3 : ∀ t, t ≠ s → G0 t = none → G1 t = none) (h4 : W.ownsRow W2.heap.size 34 2 v pre.length (flatL pre)) (h5 : Chg (fun k => k = Mc) W2 W)
    (hown : w3.ownsRow W2.heap.size 34 2 v2 (pre.length + 1) (flatL pre ++ rawV x.2)) (hg : W.grownBy w3 v.ownBlock)
    (hM : MapF w4 Mc (fun t => if t = s then some v2 else G1 t)) (e1 : w4.os = w3.os) (e2 : w4.tape = w3.tape) (e3 : w4.output = w3.output) (e4 : w4.heap.size = w3.heap.size) (e5 : ∀ k, k ≠ Mc → w4.heap[k]? = w3.heap[k]?) :
    KeepsFrom W2.heap.size W w4 ∧ (∀ k, k ≠ Mc → k < W2.heap.size → w4.heap[k]? = W.heap[k]?) ∧ W.heap.size ≤ w4.heap.size ∧ CI W2 Mc s G0 (pre ++ [x]) w4 := by
  have hrow : ∀ k, v.ownBlock = some k → W2.heap.size ≤ k := fun k e => by
    rcases h4.2 with ⟨rfl, _⟩ | ⟨g, cap, cur, rfl, hb, _⟩
    · simp [Value.ownBlock] at e
    · have : g = k := by simpa [Value.ownBlock] using e
      omega
  have hrow2 : ∀ k, v2.ownBlock = some k → W2.heap.size ≤ k := fun k e => by
    rcases hown.2 with ⟨rfl, _⟩ | ⟨g, cap, cur, rfl, hb, _⟩
    · simp [Value.ownBlock] at e
    · have : g = k := by simpa [Value.ownBlock] using e
      omega
  have hold : ∀ k, k ≠ Mc → k < W2.heap.size → w4.heap[k]? = W.heap[k]? := fun k hk hl => (e5 k hk).trans (hg.block k (Nat.lt_of_lt_of_le hl h5.size) (fun e => by have := hrow k e.symm; omega))
  have hsz : W.heap.size ≤ w4.heap.size := by rw [e4]; exact hg.size
  refine ⟨⟨hsz, fun k o hk h ho => ?_⟩, hold, hsz, _, v2, hM, fun t => ?_, fun t ht h => ?_, ?_, ?_⟩
  · refine (e5 k (by omega)).trans ((hg.block k (heap_lt h) (fun e => ?_)).trans h)
    obtain ⟨cells, hc⟩ := own_typed h4 k e.symm
    rw [hc] at h
    cases h
    cases ho
  · show (if t = s then some v2 else G1 t).getD _ = _
    by_cases e : t = s
    · rw [if_pos e, if_pos e]; rfl
    · rw [if_neg e, if_neg e, h2 t, if_neg e]
  · show (if t = s then some v2 else G1 t) = none
    rw [if_neg ht]
    exact h3 t ht h
  · rw [List.length_append, List.length_singleton, flatL_snoc]
    exact own_move hown (fun k e => e5 k (by have := hrow2 k e; omega))
  · refine ⟨e1.trans (hg.os.trans h5.os), e2.trans (hg.tape.trans h5.tape), e3.trans (hg.output.trans h5.output), Nat.le_trans h5.size hsz, fun k hk hn => (hold k hn hk).trans (h5.block k hk hn), fun k cells hk => ?_⟩
    have hne : k ≠ Mc := fun e => hMm cells (e ▸ hk)
    exact (hold k hne (heap_lt hk)).trans (h5.five k cells hk)
theorem results_t1 {fn : Func} {p : Tmp} {tmps : Array Value} {w : World} {v : Value} (h : fn.results = #[.tmp p]) (hp : tmps.getD p undef = v) : (results fn tmps).run Try.prog w = .ok v w := by
  have hp' : tmps[p]?.getD undef = v := by simpa using hp
  simp [results, h, hp', go_sem]
theorem NetG.not5 (h : NetG w N M room B own G Q) : ∀ cells, w.heap[M]? ≠ some (Obj.cells cells 5 (0, 0)) := fun cells e => by
  obtain ⟨ma, clk, hb, _⟩ := h.map
  rw [hb] at e
  cases e
theorem upto_zip {R : S34 × Nat → List Value → Prop} {l : List S34} {zs : Nat → RawL} (h : ∀ j, j < l.length → R (l.getD j z34, j) (rawV (zs j))) : Reps R 2 l.zipIdx (flatL (upto (fun j => (j, zs j)) l.length)) := by
  have H : ∀ k, k ≤ l.length → Reps R 2 (l.zipIdx.take k) (flatL (upto (fun j => (j, zs j)) k)) := by
    intro k
    induction k with
    | zero => intro _; rw [List.take_zero]; exact Reps.none _ _
    | succ k ih =>
      intro hk
      have e : l.zipIdx.take (k + 1) = l.zipIdx.take k ++ [(l.getD k z34, k)] := by
        have hl : k < l.zipIdx.length := by rw [List.length_zipIdx]; omega
        rw [List.take_add_one, List.getElem?_zipIdx, List.getElem?_eq_getElem (show k < l.length by omega), List.getD_eq_getElem?_getD, List.getElem?_eq_getElem (show k < l.length by omega), Nat.zero_add]
        rfl
      rw [e, upto_succ, flatL_snoc]
      exact Reps.snoc (ih (by omega)) (h k (by omega)) rfl
  have h1 := H l.length (Nat.le_refl _)
  rwa [List.take_of_length_le (by rw [List.length_zipIdx]; exact Nat.le_refl _)] at h1
/-- A tenant's row has been copied. -/
theorem row_done {Wb W2 W : World} {C Mc D Bs : Nat} {own0 : Nat → Option ByteArray} {G0 : ByteArray → Option Value} {Qd : ByteArray → List S34} {s : ByteArray} {l : List S34} {vr : Value} {f : Nat → Nat} {zs : Nat → RawL}
    (h : NetG Wb C Mc room D own0 G0 Qd) (hb : Below Wb.heap.size Wb W2)
    (hM : ∀ j, j < l.length → k34.M W2 Wb.heap.size (fun k => ((Wb.heap.size ≤ k ∧ k ≠ Bs) ∧ some k ≠ vr.ownBlock) ∧ f k = j) (l.getD j z34) (rawV (zs j)))
    (hci : CI W2 Mc s G0 (upto (fun j => (j, zs j)) l.length) W) (hl : (l.length : Int) ≤ room) (hsh : ∀ x ∈ l, x.f1.length < 140737488355328) :
    ∃ own1 G1, NetG W C Mc room D own1 G1 (setQ Qd s l) ∧ Chg (fun k => k = Mc) W2 W ∧ (∀ k t, own1 k = some t → (∃ cells ty, W.heap[k]? = some (Obj.cells cells ty (0, 0))) ∧ (own0 k = some t ∨ Wb.heap.size ≤ k)) ∧ ∀ t, t ≠ s → G0 t = none → G1 t = none := by
  classical
  obtain ⟨G1, v, h1, h2, h3, h4, h5⟩ := hci
  rw [upto_length] at h4
  have hMl : Mc < Wb.heap.size := h.map.lt
  have hCl : C < Wb.heap.size := heap_lt h.cells
  have hDb : D ≤ Wb.heap.size := Nat.le_trans h.baseM (Nat.le_of_lt hMl)
  have hbW : ∀ k, k < Wb.heap.size → k ≠ Mc → W.heap[k]? = Wb.heap[k]? := fun k hk hn => (h5.block k (Nat.lt_of_lt_of_le hk hb.size) hn).trans (hb.block k hk)
  have hrow : ∀ k, v.ownBlock = some k → W2.heap.size ≤ k := fun k e => by
    rcases h4.2 with ⟨rfl, _⟩ | ⟨g, cap, cur, rfl, hbb, _⟩
    · simp [Value.ownBlock] at e
    · have : g = k := by simpa [Value.ownBlock] using e
      omega
  have hN : NetG W C Mc room D (fun k => if Wb.heap.size ≤ k ∧ k < W.heap.size then some s else own0 k) G1 (setQ Qd s l) := by
    refine ⟨(hbW C hCl h.ne).trans h.cells, h1, fun t => ?_, h.room1, h.room2, fun t => ?_, h.baseN, h.baseM, fun k t hk => ?_, ?_, ?_, fun t x hx => ?_⟩
    · rw [h2 t]
      unfold setQ
      by_cases e : t = s
      · rw [if_pos e, if_pos e]
        subst e
        have hS : Kd.S k34 34 W D (fun k => Wb.heap.size ≤ k) v l := by
          refine ⟨f, fun k e => Nat.le_trans hb.size (hrow k e), flatL (upto (fun j => (j, zs j)) l.length), ?_, ?_⟩
          · rw [List.length_zipIdx]
            exact own_weaken h4 (Nat.le_trans hDb hb.size)
          · refine upto_zip (R := (Kd.tag f k34).M W D (fun k => Wb.heap.size ≤ k ∧ some k ≠ v.ownBlock)) (fun j hj => ?_)
            show k34.M W D (fun k => (Wb.heap.size ≤ k ∧ some k ≠ v.ownBlock) ∧ f k = j) (l.getD j z34) (rawV (zs j))
            refine k34.M_mono (ok := fun k => (((Wb.heap.size ≤ k ∧ k ≠ Bs) ∧ some k ≠ vr.ownBlock) ∧ f k = j) ∧ k < W2.heap.size) (fun k hk => ⟨⟨hk.1.1.1.1, fun e => by have := hrow k e.symm; have := hk.2; omega⟩, hk.1.2⟩) (k34.M_lower hDb (Kd.M_step (k34.M_mono (fun k hk => ⟨hk.1, hk.2.2.1⟩) (k34.M_bound (hM j hj))) (fun k hk hlt => h5.block k hlt (fun e => by have := hk.1.1.1.1; omega))))
        exact Kd.S_mono (Kd.S_bound hS) (fun k hk => by show (if _ then _ else _) = _; rw [if_pos ⟨hk.1, hk.2.2.1⟩])
      · rw [if_neg e, if_neg e]
        refine Kd.S_mono (Kd.S_step (Kd.S_bound (h.rows t)) (fun k hk hlt => hbW k hlt (fun e => ?_))) (fun k hk => ?_)
        · have := hk.1; rw [e, h.notM] at this; cases this
        · show (if _ then _ else _) = _
          have := hk.2.2.1
          rw [if_neg (by omega)]
          exact hk.1
    · unfold setQ
      by_cases e : t = s
      · rw [if_pos e]; exact hl
      · rw [if_neg e]; exact h.few t
    · change (if _ then _ else _) = _ at hk
      by_cases e : Wb.heap.size ≤ k ∧ k < W.heap.size
      · exact ⟨by omega, e.2⟩
      · rw [if_neg e] at hk
        exact ⟨(h.lt k t hk).1, Nat.lt_of_lt_of_le (h.lt k t hk).2 (Nat.le_trans hb.size h5.size)⟩
    · show (if _ then _ else _) = _
      rw [if_neg (by omega)]; exact h.notN
    · show (if _ then _ else _) = _
      rw [if_neg (by omega)]; exact h.notM
    · unfold setQ at hx
      by_cases e : t = s
      · rw [if_pos e] at hx; exact hsh x hx
      · rw [if_neg e] at hx; exact h.short t x hx
  obtain ⟨own', hN', ho1, ho2⟩ := hN.trim
  refine ⟨own', G1, hN', h5, fun k t hk => ⟨ho2 k t hk, ?_⟩, h3⟩
  have h6 : (if Wb.heap.size ≤ k ∧ k < W.heap.size then some s else own0 k) = some t := ho1 k t hk
  by_cases e : Wb.heap.size ≤ k ∧ k < W.heap.size
  · exact .inr e.1
  · rw [if_neg e] at h6; exact .inl h6
open Classical in
/-- The letters of the first names. -/
noncomputable def upQ (Q : ByteArray → List S34) (names : List ByteArray) (j : Nat) : ByteArray → List S34 := fun t => if t ∈ names.take j then Q t else []
/-- The copy in the making: the first names' letters are there. -/
def CR (w W1 : World) (C Mc T3 g : Nat) (o : Obj) (room : Int) (Q : ByteArray → List S34) (names : List ByteArray) (j : Nat) (Ds : List Nat) (wr : World) : Prop :=
  ∃ own1 G1, NetG wr C Mc room w.heap.size own1 G1 (upQ Q names j) ∧ (∀ t, t ∉ names.take j → G1 t = none) ∧ (∀ k t, own1 k = some t → (∃ cells ty, wr.heap[k]? = some (Obj.cells cells ty (0, 0))) ∧ W1.heap.size ≤ k) ∧ wr.heap[g]? = some o ∧ Boxed wr T3 23 (.pointer (some ⟨C, 0, none⟩)) ∧ Below w.heap.size w wr ∧ W1.heap.size ≤ wr.heap.size ∧ Ds.Nodup ∧ ∀ D' ∈ Ds, w.heap.size ≤ D' ∧ wr.heap[D']? = some (.deferred (some []))
theorem take_one_more (names : List ByteArray) (j : Nat) (hj : j < names.length) : names.take (j + 1) = names.take j ++ [names.getD j ⟨#[]⟩] := by
  rw [List.take_add_one, List.getElem?_eq_getElem hj, List.getD_eq_getElem?_getD, List.getElem?_eq_getElem hj]
  rfl
theorem setQ_take (Q : ByteArray → List S34) (names : List ByteArray) (j : Nat) (hj : j < names.length) : setQ (upQ Q names j) (names.getD j ⟨#[]⟩) (Q (names.getD j ⟨#[]⟩)) = upQ Q names (j + 1) := by
  have e : names.take (j + 1) = names.take j ++ [names.getD j ⟨#[]⟩] := by
    rw [List.take_add_one, List.getElem?_eq_getElem hj, List.getD_eq_getElem?_getD, List.getElem?_eq_getElem hj]
    rfl
  funext t
  unfold setQ upQ
  rw [e]
  by_cases ht : t = names.getD j ⟨#[]⟩
  · rw [if_pos ht, if_pos (by rw [ht]; simp), ht]
  · rw [if_neg ht]
    by_cases h2 : t ∈ names.take j
    · rw [if_pos h2, if_pos (List.mem_append_left _ h2)]
    · rw [if_neg h2, if_neg (by simp only [List.mem_append, List.mem_singleton]; exact fun h => h.elim h2 ht)]
theorem not_yet {names : List ByteArray} (hn : names.Nodup) {j : Nat} (hj : j < names.length) : names.getD j ⟨#[]⟩ ∉ names.take j := by
  intro h
  rw [List.getD_eq_getElem?_getD, List.getElem?_eq_getElem hj, Option.getD_some] at h
  obtain ⟨i, hi, he⟩ := List.getElem_of_mem h
  rw [List.length_take] at hi
  rw [List.getElem_take] at he
  exact (List.pairwise_iff_getElem.1 hn i j (by omega) hj (by omega)) he
theorem CR_step {W1 wr W2 W : World} {C Mc T3 g Bs D2 : Nat} {o x : Obj} {names : List ByteArray} {j : Nat} {Ds : List Nat} {own1 : Nat → Option ByteArray} {G1 : ByteArray → Option Value} {l : List S34} {vr : Value} {f : Nat → Nat} {zs : Nat → RawL} {s : ByteArray}
    (hN : NetG wr C Mc room w.heap.size own1 G1 (upQ Q names j)) (hG : ∀ t, t ∉ names.take j → G1 t = none) (ho : ∀ k t, own1 k = some t → (∃ cells ty, wr.heap[k]? = some (Obj.cells cells ty (0, 0))) ∧ W1.heap.size ≤ k)
    (hg : wr.heap[g]? = some o) (hoc : o.isCells = true) (hT : Boxed wr T3 23 (.pointer (some ⟨C, 0, none⟩))) (hB : Below w.heap.size w wr) (hW1 : W1.heap.size ≤ wr.heap.size) (hnd : Ds.Nodup) (hD : ∀ D' ∈ Ds, w.heap.size ≤ D' ∧ wr.heap[D']? = some (.deferred (some [])))
    (hs : s = names.getD j ⟨#[]⟩) (hl : l = Q s) (hj : j < names.length) (hnn : names.Nodup)
    (hb : Below (wr.alloc x).heap.size (wr.alloc x) W2)
    (hM : ∀ j, j < l.length → k34.M W2 (wr.alloc x).heap.size (fun k => (((wr.alloc x).heap.size ≤ k ∧ k ≠ Bs) ∧ some k ≠ vr.ownBlock) ∧ f k = j) (l.getD j z34) (rawV (zs j)))
    (hci : CI W2 Mc s G1 (upto (fun j => (j, zs j)) l.length) W) (hlr : (l.length : Int) ≤ room) (hsh : ∀ x ∈ l, x.f1.length < 140737488355328) (hD2 : W2.heap.size ≤ D2) (hK : W.heap[D2]? = some (.deferred (some []))) :
    CR w W1 C Mc T3 g o room Q names (j + 1) (D2 :: Ds) W := by
  have hbx : Below wr.heap.size wr (wr.alloc x) := below_alloc (Below.refl _ _) _
  obtain ⟨own2, G2, hN2, hC, ho2, hG2⟩ := row_done (hN.below hbx) hb hM hci hlr hsh
  subst hs
  subst hl
  rw [setQ_take Q names j hj] at hN2
  have hsz : wr.heap.size ≤ W2.heap.size := Nat.le_trans hbx.size hb.size
  have hkeep : ∀ k, k < wr.heap.size → k ≠ Mc → W.heap[k]? = wr.heap[k]? := fun k hk hn => (hC.block k (Nat.lt_of_lt_of_le hk hsz) hn).trans ((hb.block k (Nat.lt_of_lt_of_le hk hbx.size)).trans (hbx.block k hk))
  have hmap : ∀ k (c : Obj), wr.heap[k]? = some c → c.isCells = true → k ≠ Mc := fun k c hk hc e => by
    obtain ⟨ma, clk, hm, _⟩ := hN.map
    rw [e, hm] at hk
    cases hk
    cases hc
  have hdef : ∀ k ds, wr.heap[k]? = some (.deferred ds) → k ≠ Mc := fun k ds hk e => by
    obtain ⟨ma, clk, hm, _⟩ := hN.map
    rw [e, hm] at hk
    cases hk
  refine ⟨own2, G2, hN2, fun t ht => hG2 t (fun e => ht ?_) (hG t (fun e => ht ?_)), fun k t hk => ⟨(ho2 k t hk).1, (ho2 k t hk).2.elim (fun e => (ho k t e).2) (fun e => ?_)⟩, (hkeep g (heap_lt hg) (hmap g o hg hoc)).trans hg, (hkeep T3 hT.lt (hmap T3 _ hT rfl)).trans hT, ?_, Nat.le_trans hW1 (Nat.le_trans hsz hC.size), ?_, fun D' hD' => ?_⟩
  · rw [e, take_one_more names j hj]
    exact List.mem_append_right _ (List.mem_singleton.2 rfl)
  · rw [take_one_more names j hj]
    exact List.mem_append_left _ e
  · have := hbx.size
    omega
  · exact (hB.trans (hbx.mono hB.size)).trans (Chg.onto (hb.mono (Nat.le_trans hB.size hbx.size)) (Nat.le_trans hB.size hbx.size) hC (fun k e => by rw [e]; exact hN.baseM))
  · refine List.nodup_cons.2 ⟨fun e => ?_, hnd⟩
    have := heap_lt (hD D2 e).2
    omega
  · rcases List.mem_cons.1 hD' with e | e
    · rw [e]; exact ⟨by have := hB.size; omega, hK⟩
    · exact ⟨(hD D' e).1, (hkeep D' (heap_lt (hD D' e).2) (hdef D' _ (hD D' e).2)).trans (hD D' e).2⟩
theorem names_nodup {st : St} (h : Rep Q st) : (st.map (·.f0)).Nodup := by
  unfold List.Nodup
  rw [List.pairwise_map]
  exact List.Pairwise.imp (fun h => Lt.ne h) h.sorted
theorem upQ_zero (Q : ByteArray → List S34) (names : List ByteArray) : upQ Q names 0 = fun _ => [] := by
  funext t
  unfold upQ
  rw [List.take_zero, if_neg (by simp)]
theorem upQ_all {st : St} (h : Rep Q st) : upQ Q (st.map (·.f0)) st.length = Q := by
  funext t
  unfold upQ
  rw [List.take_of_length_le (by rw [List.length_map]; exact Nat.le_refl _)]
  by_cases ht : t ∈ st.map (·.f0)
  · rw [if_pos ht]
  · rw [if_neg ht, h.of t]
    unfold ofSt
    rw [look_none.2 (fun f hf e => ht (List.mem_map.2 ⟨f, hf, e⟩))]
/-- The row of a name is not the block b. -/
def RowNe (W : World) (D : Nat) (s : ByteArray) (b : Nat) : Prop := ∀ ma clk, W.heap[D]? = some (.map ma clk) → ∀ e ∈ ma.toList, e.key = .string s → e.val.ownBlock ≠ some b
theorem RowNe.of {W : World} {D : Nat} {s : ByteArray} {b : Nat} {G : ByteArray → Option Value} {v : Value} (h : RowNe W D s b) (hM : MapF W D G) (hv : (G s).getD (.slice none 0 0) = v) : v.ownBlock ≠ some b := by
  obtain ⟨ma, clk, hb, _, h1, h2⟩ := hM
  cases hG : G s with
  | none => rw [hG] at hv; subst hv; simp [Value.ownBlock]
  | some u =>
    rw [hG] at hv
    obtain ⟨e, he, hk⟩ := h2 s u hG
    obtain ⟨t, ht, hu⟩ := h1 e he
    rw [hk] at ht
    injection ht with ht
    subst ht
    rw [hG] at hu
    injection hu with hu
    have hv' : u = v := hv
    rw [← hv', hu]
    exact h ma clk hb e he hk
theorem CI_new {W2 W : World} {D : Nat} {s : ByteArray} {G0 : ByteArray → Option Value} {pre : List (Nat × RawL)} (h : CI W2 D s G0 pre W) (o : Obj) : RowNe (W.alloc o) D s W.heap.size := fun ma clk hb e he hk => by
  obtain ⟨G1, v, ⟨ma', clk', hb', _, h1, _⟩, h2, h3, h4, h5⟩ := h
  have hlt := heap_lt hb'
  rw [Below.heap_alloc _ _ _ hlt, hb'] at hb
  injection hb with hb
  injection hb with hb1 hb2
  subst hb1
  obtain ⟨t, ht, hu⟩ := h1 e he
  rw [hk] at ht
  injection ht with ht
  subst ht
  have h6 := h2 s
  rw [if_pos rfl, hu] at h6
  have h7 : e.val = v := h6
  rw [h7]
  intro e'
  obtain ⟨cells, hc⟩ := own_typed h4 _ e'
  have := heap_lt hc
  omega
theorem ps_clone {w' : World} {T3 T5 C D Bx : Nat} {room t : Int} {G : ByteArray → Option Value} {s : ByteArray} {v u : Value} (h3 : Boxed w' T3 23 (.pointer (some ⟨C, 0, none⟩))) (hC : w'.heap[C]? = some (.cells #[.int .i64 room, .map (some D)] 62 (0, 0))) (h5 : Boxed w' T5 9 (.string s)) (hM : MapF w' D G) (hG : (G s).getD (.slice none 0 0) = v) (hx : w'.heap[Bx]? = some (.cells #[.int .i64 t, u] 34 (0, 0))) :
    w'.cell? ⟨T3, 0, none⟩ = some (.pointer (some ⟨C, 0, none⟩)) ∧ w'.cell? ⟨C, 1, none⟩ = some (.map (some D)) ∧ w'.cell? ⟨T5, 0, none⟩ = some (.string s) ∧ (Instr.lookup 60 (.map (some D)) (.string s) false).run Try.prog w' = .ok v w' ∧ w'.cell? ⟨Bx, 0, none⟩ = some (.int .i64 t) ∧ w'.cell? ⟨Bx, 1, none⟩ = some u :=
  ⟨h3.cell, (blk_cell hC 1).trans rfl, h5.cell, by rw [← hG]; exact hM.look Try.underlying60 Try.underlying9 (zero29 w') s, (blk_cell hx 0).trans rfl, (blk_cell hx 1).trans rfl⟩
set_option maxHeartbeats 4000000 in
set_option maxRecDepth 100000 in
theorem clone_in {st : St} (h : NetG w N M room B own G Q) (hr : Rep Q st) (hf : st.length ≤ 1000) :
    CallsIn Fence.wide 9 Try.prog 20 #[.pointer (some ⟨N, 0, none⟩)] w fun e w' => ∃ C Mc own' G', e = .returned (.pointer (some ⟨C, 0, none⟩)) ∧ NetG w' C Mc room w.heap.size own' G' Q ∧ Below w.heap.size w w' := by
  obtain ⟨c0, c1⟩ := h.cell
  have hmm := @run_makeMap Try.prog
  have HH := Aside0.mk h
  have HREP := Aside0.mk hr
  have HF := Aside0.mk hf
  clear h hr hf
  refine callsIn_of_wp_marks Try.func20 rfl trivial ?_ rfl
  simp only [Try.ntmps20, List.size_toArray, List.length_cons, List.length_nil, Nat.reduceAdd, Nat.reduceSub, Array.replicate_succ, Array.replicate_zero, List.push_toArray, List.append_toArray, List.nil_append, List.cons_append]
  gi_wp2_with (first
    | (refine And.intro trivial ?_; gi_at_call 25; (with_reducible refine (callsIn_wide.2 (ok_calls N M _ c1)).mono ?_); rintro e w' ⟨rfl, rfl⟩)
    | (refine And.intro trivial ?_; gi_at_call 19
       have hW := clone_new HH.out
       generalize hW0 : (((_ : World).alloc (Obj.map #[] 0)).alloc _).alloc _ = W0 at *
       (with_reducible refine (callsIn_wide.2 (tenants_calls (HH.out.below hW.2.1) HREP.out HF.out)).mono ?_)
       rintro e W1 ⟨v, rfl, hR, hb⟩
       obtain ⟨A, g, o, cn, hv, hnm⟩ := names_at hR hW.2.2 hb
       rw [List.length_map] at hv hnm
       subst hv
       have HW := Aside0.mk hW
       have HB := Aside0.mk hb
       have HNM := Aside0.mk hnm
       clear hR hW hb hnm))
  clear hmm hW0 c0 c1
  obtain ⟨D, hD⟩ : ∃ D, D = w'.heap.size := ⟨_, rfl⟩
  obtain ⟨C, hC⟩ : ∃ C, C = w'.heap.size + 1 := ⟨_, rfl⟩
  obtain ⟨T3, hT3⟩ : ∃ T3, T3 = w'.heap.size + 1 + 1 := ⟨_, rfl⟩
  obtain ⟨names, hnames⟩ : ∃ names, names = st.map (·.f0) := ⟨_, rfl⟩
  have HCR := Aside0.mk (show CR w' W1 C D T3 g o room Q names 0 [] W1 from by
    obtain ⟨h1, h2, h3⟩ := HW.out
    subst hD hC hT3
    exact ⟨_, _, by rw [upQ_zero]; exact h1.below HB.out, fun _ _ => rfl, (fun k t e => by cases e), HNM.out.1, (HB.out.block _ h3.lt).trans h3, h2.trans (HB.out.mono h2.size), Nat.le_refl _, List.nodup_nil, (fun D' hD' => by cases hD')⟩)
  have HM := Aside0.mk (show names.length = st.length ∧ names.Nodup ∧ upQ Q names st.length = Q from by
    subst hnames
    exact ⟨List.length_map _, names_nodup HREP.out, upQ_all HREP.out⟩)
  rw [← hC, ← hT3, ← hD] at *
  rw [← hnames] at HNM
  clear hnames hC hT3 HW HB HREP
  generalize st.length = m at *
  refine wpIn_loop_ghost_k (fun k a wr => ∃ (u5 : Value) (j : Nat) (u22 u23 u24 u25 u26 u27 u44 : Value) (Ds : List Nat), (k + j = m + 1 ∧ j ≤ m) ∧ CR w' W1 C D T3 g o room Q names j Ds wr ∧ a = { tmps := #[.pointer (some ⟨N, 0, none⟩), undef, .pointer none, .pointer (some ⟨T3, 0, none⟩), undef, u5, undef, undef, .pointer (some ⟨N, 0, none⟩), .bool true, .bool false, .pointer (some ⟨N, 0, none⟩), .pointer (some ⟨N, 0, none⟩), .pointer (some ⟨N, 0, none⟩), .int .i64 room, .map (some D), .agg #[.int .i64 room, .map (some D)], .pointer (some ⟨C, 0, none⟩), .pointer (some ⟨N, 0, none⟩), .slice A m cn, .int .i64 m, .int .i64 j, u22, u23, u24, u25, u26, u27, undef, undef, undef, undef, undef, undef, undef, undef, undef, undef, undef, undef, undef, undef, undef, undef, u44, undef], defers := Ds.map fun D' => { target := .collected D', args := #[] } }) (m + 1) ?start ?round
  case start => exact ⟨undef, 0, undef, undef, undef, undef, undef, undef, undef, [], ⟨by omega, by omega⟩, HCR.out, rfl⟩
  case round =>
    rintro gk a wr ⟨u5, j, u22, u23, u24, u25, u26, u27, u44, Ds, hJ, hR, rfl⟩ J K hJ' hK'
    have HJ := Aside0.mk hJ
    have HR := Aside0.mk hR
    have HGO := Aside0.mk hJ'
    clear hJ hR hJ'
    by_cases hlt : j < m
    · obtain ⟨own1, G1, hN, hG, ho, hg, hT, hB, hW1, hnd, hDs⟩ := HR.out
      obtain ⟨hA, xs⟩ := HNM.out.2.2 wr hg j hlt
      subst hA
      have HN := Aside0.mk hN
      have HG := Aside0.mk hG
      have HO := Aside0.mk ho
      have HGG := Aside0.mk hg
      have HT := Aside0.mk hT
      have HBW := Aside0.mk hB
      have HSZ := Aside0.mk (And.intro hW1 hnd)
      have HDS := Aside0.mk hDs
      clear hN hG ho hg hT hB hW1 hnd hDs
      obtain ⟨s, hs⟩ : ∃ s, s = names.getD j ⟨#[]⟩ := ⟨_, rfl⟩
      rw [← hs] at xs
      have HS := Aside0.mk hs
      clear hs
      have hj0 : (0 : Int) ≤ (j : Int) := by omega
      have hj1 : (j : Int) < (m : Int) := by omega
      gi_wp2_with (first
        | (refine And.intro trivial ?_
           gi_at_call 17
           have hold := HH.out.below (HBW.out.trans (below_alloc (Below.refl _ _) (.cells #[.string s] 9) |>.mono HBW.out.size))
           (with_reducible refine (callsIn_wide.2 (allS_calls hold s)).mono ?_)
           rintro e W2 ⟨Bs, vr, rfl, hBs, hBl, hS, hb⟩
           have HOLD := Aside0.mk hold
           have HBS := Aside0.mk hBs
           have HBL := Aside0.mk hBl
           have HSS := Aside0.mk hS
           have HB2 := Aside0.mk hb
           clear hold hBs hBl hS hb))
      have hQl : (Q s).length ≤ 256 := by have h1 := HH.out.few s; have h2 := HH.out.room2; omega
      obtain ⟨zs, f, hrr, hMs⟩ := raws_sep HSS.out (by omega)
      have HMS := Aside0.mk hMs
      have HQL := Aside0.mk hQl
      clear hMs hQl
      obtain ⟨Wb, hWb⟩ : ∃ Wb, Wb = wr.alloc (Obj.cells #[.string s] 9) := ⟨_, rfl⟩
      have HNb := HN.out.below (below_alloc (Below.refl wr.heap.size wr) (.cells #[.string s] 9))
      have hbx : Boxed (wr.alloc (.cells #[.string s] 9)) wr.heap.size 9 (.string s) := Boxed.new _ _ _
      have HTb := HT.out.alloc (.cells #[.string s] 9)
      rw [← hWb] at HNb hbx HTb HSS HB2 HBL HMS HOLD
      have hDl : D < W2.heap.size := Nat.lt_of_lt_of_le HNb.map.lt HB2.out.size
      have hM2 := HNb.map.move (HB2.out.block D HNb.map.lt)
      have HC2 := Aside0.mk ((HB2.out.block C (heap_lt HNb.cells)).trans HNb.cells)
      have HT2 := Aside0.mk (show Boxed W2 T3 23 (.pointer (some ⟨C, 0, none⟩)) from (HB2.out.block T3 (heap_lt HTb)).trans HTb)
      have HX2 := Aside0.mk (show Boxed W2 wr.heap.size 9 (.string s) from (HB2.out.block _ (heap_lt hbx)).trans hbx)
      have HLT := Aside0.mk (And.intro hDl (And.intro (Nat.lt_of_lt_of_le (heap_lt HNb.cells) HB2.out.size) (And.intro (Nat.lt_of_lt_of_le (heap_lt HTb) HB2.out.size) (And.intro (Nat.lt_of_lt_of_le (heap_lt hbx) HB2.out.size) (And.intro HNb.ne (HNb.not5))))))
      have HNM2 := Aside0.mk (And.intro (show ∀ cells, W2.heap[D]? ≠ some (Obj.cells cells 5 (0, 0)) from fun cells e => by obtain ⟨ma, clk, hb, _⟩ := hM2; rw [hb] at e; cases e) (show (∀ k, k = T3 ∨ k = wr.heap.size → k ≠ D) from fun k hk e => by
        obtain ⟨ma, clk, hb, _⟩ := hM2
        subst e
        rcases hk with e | e
        · rw [e, show W2.heap[T3]? = _ from HT2.out] at hb; cases hb
        · rw [e, show W2.heap[wr.heap.size]? = _ from HX2.out] at hb; cases hb))
      have hbv : W2.cell? ⟨Bs, 0, none⟩ = some vr := (blk_cell HBS.out 0).trans rfl
      have HVR := Aside0.mk (show ∀ k, some k = vr.ownBlock → Wb.heap.size ≤ k ∧ k < W2.heap.size from fun k e => ⟨(Kd.S_base HSS.out) k e.symm, (Kd.S_lt HSS.out) k e.symm⟩)
      have hG0 : G1 s = none := HG.out s (by have h1 := not_yet HM.out.2.1 (j := j) (by rw [HM.out.1]; exact hlt); rwa [← HS.out] at h1)
      have HCI0 := Aside0.mk (CI_start (W2 := W2) hM2 hG0)
      have HDB := Aside0.mk (show D < Wb.heap.size from HNb.map.lt)
      clear hG0 HTb hbx hM2 HNb
      refine wpIn_rangeFunc_ownH (F := Fence.wide) (n := 9) rfl (by omega) (gf := 30) (lb := #[.pointer (some ⟨Bs, 0, none⟩)]) rfl trivial (enters_of Try.func30 (by kernel_rfl) rfl)
        (all_stops2 Fence.wide 8 trivial rfl (by omega) Bs (Q s).length vr zs W2 (heap_lt HBS.out) hbv hrr) (fun h k => Kq.trans h k) ?hKb (Below.refl _ _) (fun _ => rfl)
        (CI W2 D s G1) (fun _ _ _ => False) ?hI ?hIx ?h0
        (fun x a' W => ∃ Bx, W2.heap.size ≤ Bx ∧ W.heap[Bx]? = some (.cells #[.int .i64 x.2.t, .slice x.2.a x.2.n x.2.c] 34 (0, 0)) ∧ RowNe W D s Bx ∧ a' = { tmps := #[.pointer (some ⟨N, 0, none⟩), undef, .pointer none, .pointer (some ⟨T3, 0, none⟩), undef, .pointer (some ⟨wr.heap.size, 0, none⟩), undef, .pointer (some ⟨Bx, 0, none⟩), .pointer (some ⟨N, 0, none⟩), .bool true, .bool false, .pointer (some ⟨N, 0, none⟩), .pointer (some ⟨N, 0, none⟩), .pointer (some ⟨N, 0, none⟩), .int .i64 room, .map (some D), .agg #[.int .i64 room, .map (some D)], .pointer (some ⟨C, 0, none⟩), .pointer (some ⟨N, 0, none⟩), .slice (some ⟨g, 0, none⟩) m cn, .int .i64 m, .int .i64 j, .bool true, .pointer (some ⟨g, j, none⟩), .string s, .pointer (some ⟨N, 0, none⟩), .string s, .func (.func 30) #[] #[.pointer (some ⟨Bs, 0, none⟩)], .int .i64 (x.1 : Int), .agg #[.int .i64 x.2.t, .slice x.2.a x.2.n x.2.c], undef, undef, undef, undef, undef, undef, undef, undef, undef, undef, undef, undef, undef, undef, u44, undef], defers := [] })
        ?hAx ?assign ?body ?done ?stop
      case hKb => exact fun W l o o' hl _ _ _ => Kq.of_grown (grownBy_putObj' W l o') (fun k hk e => by have := HVR.out k hk; injection e with e; omega)
      case hI => exact CI_own rfl HLT.out.1
      case hIx => exact fun _ _ _ _ _ h _ _ => h
      case h0 => exact HCI0.out
      case hAx =>
        exact fun x a' _ X Y row hs hg hr => by
          obtain ⟨Bx, h1, h2, h3, h4⟩ := hs
          refine ⟨Bx, h1, (hg.block Bx (heap_lt h2) (row_ne hr h2)).trans h2, fun ma clk hb => ?_, h4⟩
          have hDX : D < X.heap.size := Nat.lt_of_lt_of_le HLT.out.1 (by have := heap_lt h2; omega)
          exact h3 ma clk ((hg.block D hDX (fun e => by have := (hr D e.symm).1; have := HLT.out.1; omega)).symm.trans hb)
      case assign =>
        rintro lp pre x W K hi hK
        have hsz : W2.heap.size ≤ W.heap.size := by obtain ⟨_, _, _, _, _, _, h5⟩ := hi; exact h5.size
        dsimp only [encR]
        gi_wp2
        exact hK _ _ ((KeepsOthers.alloc _ _).from _) (Kq.alloc _ _ _) ((CI_own rfl HLT.out.1).alloc _ hi) ⟨W.heap.size, hsz, blk_new W _, CI_new hi _, rfl⟩
      case body =>
        rintro lp pre x a' W hl2 ⟨r, hr⟩ hi ⟨Bx, hBx, bX, hne, rfl⟩ hlt2
        obtain ⟨G2, v, hm2, hg2, hg3, hrow, hchg⟩ := hi
        have hv2 := hg2 s
        rw [if_pos rfl] at hv2
        have hnv := hne.of hm2 hv2
        obtain ⟨Av, cv, rfl⟩ : ∃ A c, v = .slice A pre.length c := by
          rcases hrow.2 with ⟨rfl, h0⟩ | ⟨g, cap, cur, rfl, _⟩
          · exact ⟨none, 0, by rw [h0]⟩
          · exact ⟨_, _, rfl⟩
        have hrb : ∀ k, (Value.slice Av pre.length cv).ownBlock = some k → W2.heap.size ≤ k := fun k e => by
          rcases hrow.2 with ⟨h0, _⟩ | ⟨g, cap, cur, h0, hb, _⟩
          · rw [h0] at e; simp [Value.ownBlock] at e
          · rw [h0] at e
            have : g = k := by simpa [Value.ownBlock] using e
            omega
        have hC3 := (hchg.block C HLT.out.2.1 HLT.out.2.2.2.2.1).trans HC2.out
        have hT3 := (hchg.block T3 HLT.out.2.2.1 (HNM2.out.2 T3 (.inl rfl))).trans HT2.out
        have hX3 := (hchg.block wr.heap.size HLT.out.2.2.2.1 (HNM2.out.2 _ (.inr rfl))).trans HX2.out
        have HPS := Aside0.mk (show ∀ {row : Option Nat} (w3 : World), W.drew.grownBy w3 row → (∀ k, row = some k → W2.heap.size ≤ k) → row ≠ some Bx → MapF w3 D G2 ∧ (w3.cell? ⟨T3, 0, none⟩ = some (.pointer (some ⟨C, 0, none⟩)) ∧ w3.cell? ⟨C, 1, none⟩ = some (.map (some D)) ∧ w3.cell? ⟨wr.heap.size, 0, none⟩ = some (.string s) ∧ (Instr.lookup 60 (.map (some D)) (.string s) false).run Try.prog w3 = .ok (.slice Av pre.length cv) w3 ∧ w3.cell? ⟨Bx, 0, none⟩ = some (.int .i64 x.2.t) ∧ w3.cell? ⟨Bx, 1, none⟩ = some (.slice x.2.a x.2.n x.2.c)) from fun w3 hg hrow hnb => by
          have keep : ∀ k, k < W2.heap.size → w3.heap[k]? = W.heap[k]? := fun k hk => hg.block k (Nat.lt_of_lt_of_le hk hchg.size) (fun e => by have := hrow k e.symm; omega)
          have hm3 : MapF w3 D G2 := hm2.move (keep D HLT.out.1)
          exact ⟨hm3, ps_clone ((keep T3 HLT.out.2.2.1).trans hT3) ((keep C HLT.out.2.1).trans hC3) ((keep _ HLT.out.2.2.2.1).trans hX3) hm3 hv2 ((hg.block Bx (heap_lt bX) (fun e => hnb e.symm)).trans bX)⟩)
        have HPS0 := Aside0.mk (HPS.out _ (row := none) ⟨rfl, rfl, rfl, Nat.le_refl _, fun _ _ _ => rfl⟩ (by simp) (by simp)).2
        have HNE := Aside0.mk (And.intro hrb hnv)
        have HROW := Aside0.mk (show W.drew.ownsRow W2.heap.size 34 2 (.slice Av pre.length cv) pre.length (flatL pre) from hrow)
        have HW2 := Aside0.mk (show W2.heap.size ≤ W.drew.heap.size from hchg.size)
        have HNP := Aside0.mk (show pre.length ≤ 1000 by have := HQL.out; omega)
        have HFIN := Aside0.mk (And.intro hg2 (And.intro hg3 (show Chg (fun k => k = D) W2 W.drew from ⟨hchg.os, hchg.tape, hchg.output, hchg.size, hchg.block, hchg.five⟩)))
        have HDR := Aside0.mk (show KeepsFrom W2.heap.size W W.drew ∧ W.drew.heap.size = W.heap.size ∧ ∀ k : Nat, W.drew.heap[k]? = W.heap[k]? from ⟨(KeepsOthers.drew W).from _, rfl, fun _ => rfl⟩)
        clear hg2 hg3 hrow hchg hm2 hv2 hnv hrb hC3 hT3 hX3 bX hne hr xs hj0 hj1 hbv hrr
        obtain ⟨np, hnp⟩ : ∃ np, np = pre.length := ⟨_, rfl⟩
        rw [← hnp] at HPS HPS0 HNE HROW HNP HFIN
        have HNPQ := Aside0.mk hnp
        clear hnp
        gi_wp2_with (fail)
        refine start_r (n := 15) (S := fun w' => w'.cell? ⟨T3, 0, none⟩ = some (.pointer (some ⟨C, 0, none⟩)) ∧ w'.cell? ⟨C, 1, none⟩ = some (.map (some D)) ∧ w'.cell? ⟨wr.heap.size, 0, none⟩ = some (.string s) ∧ (Instr.lookup 60 (.map (some D)) (.string s) false).run Try.prog w' = .ok (.slice Av np cv) w' ∧ w'.cell? ⟨Bx, 0, none⟩ = some (.int .i64 x.2.t) ∧ w'.cell? ⟨Bx, 1, none⟩ = some (.slice x.2.a x.2.n x.2.c)) (ds := [14]) #[false, false, false, false, false, false, false, false, false, false, false, false, false, false, false] (by kernel_rfl) rfl rfl (by kernel_rfl) HPS0.out (fun hHeld => ?_); refine with_tabW clone.tab9 clone.bits9 (fun HT_ HW_ => ?_)
        generalize W.drew = W0 at *
        refine take_ (i := 0) (N := some 30) (v := ?_) (a' := ?_) #[true, false, false, false, false, false, false, false, false, false, false, false, false, false, false] rfl rfl (take_ofW HT_.out HW_.out (by kernel_rfl)) (fun _ _ _ h => h) (Or.inl ⟨by rfl, ?_⟩) hHeld ?_ ?_
        rotate_left
        · rintro w' ⟨s0, s1, s2, s3, s4, s5⟩
          go_simp
          with_reducible rfl
        rotate_left
        · simp only [Act.put, List.setIfInBounds_toArray, List.set_cons_zero, List.set_cons_succ, i64_w, i32_w, xu32_w, xu8_w]
          rfl
        refine pure_ (i := 1) (N := some 31) (v := ?_) (a' := ?_) #[true, true, false, false, false, false, false, false, false, false, false, false, false, false, false] rfl rfl (any_of HT_.out (by kernel_rfl)) (fun _ _ _ h => h) (Or.inl ⟨by rfl, ?_⟩) ?_ ?_
        rotate_left
        · intro w'
          go_simp
          with_reducible rfl
        rotate_left
        · simp only [Act.put, List.setIfInBounds_toArray, List.set_cons_zero, List.set_cons_succ, i64_w, i32_w, xu32_w, xu8_w]
          rfl
        refine pure_ (i := 2) (N := some 32) (v := ?_) (a' := ?_) #[true, true, true, false, false, false, false, false, false, false, false, false, false, false, false] rfl rfl (any_of HT_.out (by kernel_rfl)) (fun _ _ _ h => h) (Or.inl ⟨by rfl, ?_⟩) ?_ ?_
        rotate_left
        · intro w'
          go_simp
          with_reducible rfl
        rotate_left
        · simp only [Act.put, List.setIfInBounds_toArray, List.set_cons_zero, List.set_cons_succ, i64_w, i32_w, xu32_w, xu8_w]
          rfl
        refine take_ (i := 3) (N := some 33) (v := ?_) (a' := ?_) #[true, true, true, true, false, false, false, false, false, false, false, false, false, false, false] rfl rfl (take_ofW HT_.out HW_.out (by kernel_rfl)) (fun _ _ _ h => h) (Or.inl ⟨by rfl, ?_⟩) hHeld ?_ ?_
        rotate_left
        · rintro w' ⟨s0, s1, s2, s3, s4, s5⟩
          go_simp
          with_reducible rfl
        rotate_left
        · simp only [Act.put, List.setIfInBounds_toArray, List.set_cons_zero, List.set_cons_succ, i64_w, i32_w, xu32_w, xu8_w]
          rfl
        refine take_ (i := 4) (N := some 34) (v := ?_) (a' := ?_) #[true, true, true, true, true, false, false, false, false, false, false, false, false, false, false] rfl rfl (take_ofW HT_.out HW_.out (by kernel_rfl)) (fun _ _ _ h => h) (Or.inl ⟨by rfl, ?_⟩) hHeld ?_ ?_
        rotate_left
        · rintro w' ⟨s0, s1, s2, s3, s4, s5⟩
          go_simp
          with_reducible rfl
        rotate_left
        · simp only [Act.put, List.setIfInBounds_toArray, List.set_cons_zero, List.set_cons_succ, i64_w, i32_w, xu32_w, xu8_w]
          rfl
        refine take_ (i := 5) (N := some 35) (v := ?_) (a' := ?_) #[true, true, true, true, true, true, false, false, false, false, false, false, false, false, false] rfl rfl (take_ofW HT_.out HW_.out (by kernel_rfl)) (fun _ _ _ h => h) (Or.inl ⟨by rfl, ?_⟩) hHeld ?_ ?_
        rotate_left
        · rintro w' ⟨s0, s1, s2, s3, s4, s5⟩
          go_simp
          with_reducible rfl
        rotate_left
        · simp only [Act.put, List.setIfInBounds_toArray, List.set_cons_zero, List.set_cons_succ, i64_w, i32_w, xu32_w, xu8_w]
          rfl
        refine pure_ (i := 6) (N := some 36) (v := ?_) (a' := ?_) #[true, true, true, true, true, true, true, false, false, false, false, false, false, false, false] rfl rfl (any_of HT_.out (by kernel_rfl)) (fun _ _ _ h => h) (Or.inl ⟨by rfl, ?_⟩) ?_ ?_
        rotate_left
        · intro w'
          go_simp
          with_reducible rfl
        rotate_left
        · simp only [Act.put, List.setIfInBounds_toArray, List.set_cons_zero, List.set_cons_succ, i64_w, i32_w, xu32_w, xu8_w]
          rfl
        refine pure_ (i := 7) (N := some 37) (v := ?_) (a' := ?_) #[true, true, true, true, true, true, true, true, false, false, false, false, false, false, false] rfl rfl (any_of HT_.out (by kernel_rfl)) (fun _ _ _ h => h) (Or.inl ⟨by rfl, ?_⟩) ?_ ?_
        rotate_left
        · intro w'
          go_simp
          with_reducible rfl
        rotate_left
        · simp only [Act.put, List.setIfInBounds_toArray, List.set_cons_zero, List.set_cons_succ, i64_w, i32_w, xu32_w, xu8_w]
          rfl
        refine take_ (i := 8) (N := some 38) (v := ?_) (a' := ?_) #[true, true, true, true, true, true, true, true, true, false, false, false, false, false, false] rfl rfl (take_ofW HT_.out HW_.out (by kernel_rfl)) (fun _ _ _ h => h) (Or.inl ⟨by rfl, ?_⟩) hHeld ?_ ?_
        rotate_left
        · rintro w' ⟨s0, s1, s2, s3, s4, s5⟩
          go_simp
          with_reducible rfl
        rotate_left
        · simp only [Act.put, List.setIfInBounds_toArray, List.set_cons_zero, List.set_cons_succ, i64_w, i32_w, xu32_w, xu8_w]
          rfl
        refine take_ (i := 9) (N := some 39) (v := ?_) (a' := ?_) #[true, true, true, true, true, true, true, true, true, true, false, false, false, false, false] rfl rfl (take_ofW HT_.out HW_.out (by kernel_rfl)) (fun _ _ _ h => h) (Or.inl ⟨by rfl, ?_⟩) hHeld ?_ ?_
        rotate_left
        · rintro w' ⟨s0, s1, s2, s3, s4, s5⟩
          go_simp
          with_reducible rfl
        rotate_left
        · simp only [Act.put, List.setIfInBounds_toArray, List.set_cons_zero, List.set_cons_succ, i64_w, i32_w, xu32_w, xu8_w]
          rfl
        refine take_ (i := 10) (N := some 40) (v := ?_) (a' := ?_) #[true, true, true, true, true, true, true, true, true, true, true, false, false, false, false] rfl rfl (take_ofW HT_.out HW_.out (by kernel_rfl)) (fun _ _ _ h => h) (Or.inl ⟨by rfl, ?_⟩) hHeld ?_ ?_
        rotate_left
        · rintro w' ⟨s0, s1, s2, s3, s4, s5⟩
          go_simp
          with_reducible rfl
        rotate_left
        · simp only [Act.put, List.setIfInBounds_toArray, List.set_cons_zero, List.set_cons_succ, i64_w, i32_w, xu32_w, xu8_w]
          rfl
        refine take_ (i := 11) (N := some 41) (v := ?_) (a' := ?_) #[true, true, true, true, true, true, true, true, true, true, true, true, false, false, false] rfl rfl (take_ofW HT_.out HW_.out (by kernel_rfl)) (fun _ _ _ h => h) (Or.inl ⟨by rfl, ?_⟩) hHeld ?_ ?_
        rotate_left
        · rintro w' ⟨s0, s1, s2, s3, s4, s5⟩
          go_simp
          with_reducible rfl
        rotate_left
        · simp only [Act.put, List.setIfInBounds_toArray, List.set_cons_zero, List.set_cons_succ, i64_w, i32_w, xu32_w, xu8_w]
          rfl
        refine one_ (i := 12) (N := some 42) #[true, true, true, true, true, true, true, true, true, true, true, true, true, false, false] rfl rfl (one_of HT_.out (by kernel_rfl)) (by decide) (fun K hK => ?_)
        refine value_ (v := .slice (some ⟨W0.heap.size, 0, none⟩) 1 1) (w1 := W0.alloc (.cells #[.int .i64 x.2.t, .slice x.2.a x.2.n x.2.c] 34)) (by rfl) rfl (by first | (go_simp; done) | (go_simp; rfl)) ?_
        refine hK.out _ _ ((HPS.out _ (World.grownBy_alloc W0 _ none) (by simp) (by simp)).2) (fun hHeld => ?_)
        clear hK K
        refine norm_ (a' := ?_) ?_ ?_
        rotate_left
        · show Act.put _ (some 42) _ = _
          simp only [Act.put, List.setIfInBounds_toArray, List.set_cons_zero, List.set_cons_succ, i64_w, i32_w, xu32_w, xu8_w]
          rfl
        refine one_ (i := 13) (N := some 43) #[true, true, true, true, true, true, true, true, true, true, true, true, true, true, false] rfl rfl (one_of HT_.out (by kernel_rfl)) (by decide) (fun K hK => ?_)
        refine step_append_cells (w0 := W0) W2.heap.size (by rfl) (.tmp 40) (.tmp 42) 29 34 (.agg #[.int .i64 0, .slice none 0 0]) 2 32 rfl Try.underlying29 info34 rfl (by decide) (by omega) (.slice Av np cv) np (flatL pre) [.int .i64 x.2.t, .slice x.2.a x.2.n x.2.c] rfl rfl rfl (by simp [Value.oneCell']) HROW.out (Below.refl _ _) HW2.out (by have := HNP.out; omega) ?_
        intro v2 w3 hown hbB hg hat
        obtain ⟨A3, c3, rfl⟩ : ∃ A c, v2 = .slice A (np + 1) c := ⟨_, _, (ownsRow_succ hown).choose_spec.choose_spec⟩
        have HOWN := Aside0.mk hown
        have HGR := Aside0.mk hg
        have HP3 := Aside0.mk (HPS.out _ hg HNE.out.1 HNE.out.2)
        clear hown hbB hg hat
        refine hK.out _ _ HP3.out.2 (fun hHeld => ?_)
        clear hK K
        refine norm_ (a' := ?_) ?_ ?_
        rotate_left
        · show Act.put _ (some 43) _ = _
          simp only [Act.put, List.setIfInBounds_toArray, List.set_cons_zero, List.set_cons_succ, i64_w, i32_w, xu32_w, xu8_w]
          rfl
        refine last_ (i := 14) (N := none) #[true, true, true, true, true, true, true, true, true, true, true, true, true, true, true] rfl rfl (one_of HT_.out (by kernel_rfl)) (by decide) (fun K hK => ?_)
        obtain ⟨w4, hrun4, hM4, e1, e2, e3, e4, e5⟩ := HP3.out.1.put (P := Try.prog) Try.underlying60 Try.underlying9 s (.slice A3 (np + 1) c3)
        refine skip_ (w1 := w4) (by rfl) rfl (by first | (go_simp; done) | (go_simp; rfl)) ?_
        refine hK.out _ _ ?_
        clear hK K
        refine done_ (done_of HT_.out (by kernel_rfl)) ?_
        have hnp := HNPQ.out
        subst hnp
        obtain ⟨k1, k2, k3, k4⟩ := CI_put (x := x) HLT.out.1 HNM2.out.1 HFIN.out.1 HFIN.out.2.1 HROW.out HFIN.out.2.2 HOWN.out HGR.out hM4 e1 e2 e3 e4 e5
        refine ⟨HDR.out.1.trans k1, ⟨by rw [← HDR.out.2.1]; exact k3, fun k hk _ => ?_⟩, k4⟩
        have h1 := HVR.out k hk
        exact (k2 k (by have := HDB.out; omega) h1.2).trans (HDR.out.2.2 k)
      case done =>
        rintro D2 ys W hD2 rfl hi hK2
        obtain ⟨hW1, hnd⟩ := HSZ.out
        subst hWb
        have HNEW := Aside0.mk (CR_step (room := room) (Q := Q) (w := w') HN.out HG.out HO.out HGG.out HNM.out.2.1 HT.out HBW.out hW1 hnd HDS.out HS.out rfl (by rw [HM.out.1]; exact hlt) HM.out.2.1 HB2.out HMS.out hi (by have h1 := HH.out.few s; omega) (fun y hy => HH.out.short s y hy) hD2 hK2)
        clear hi hK2 hW1 hnd xs hbv hrr
        gi_wp2_with (fail)
        have hw : wrap64 ((j : Int) + 1) = ((j + 1 : Nat) : Int) := by rw [wrap64_self (by have := HF.out; omega) (by have := HF.out; omega)]; rfl
        rw [hw]
        refine Handed.intro (gk - 1) ?_ (HGO.out _ _ _ ⟨_, j + 1, _, _, _, _, _, _, _, D2 :: Ds, ?_, HNEW.out, rfl⟩)
        · have := HJ.out; omega
        · have := HJ.out; omega
      case stop => exact fun _ _ _ _ _ _ h _ => h.elim
    · have hjm : j = m := by have := HJ.out; omega
      subst hjm
      dsimp only
      obtain ⟨own1, G1, hN, hG, ho, hg, hT, hB, hW1, hnd, hDs⟩ := HR.out
      have cT := hT.cell
      have HN := Aside0.mk hN
      have HO := Aside0.mk ho
      have HBW := Aside0.mk hB
      have HSZ := Aside0.mk (And.intro hW1 hnd)
      have HDS := Aside0.mk hDs
      clear hN hG ho hg hT hB hW1 hnd hDs
      gi_wp2_with (fail)
      show LeavesInM Fence.wide 9 Try.prog Try.f20 _ _ (Ds.map fun D' => { target := .collected D', args := #[] }) .returning wr
      refine leaves_marks Ds wr HSZ.out.2 (fun D' hD' => (HDS.out D' hD').2) (fun w2 e1 e2 e3 e4 e5 => ⟨.pointer (some ⟨C, 0, none⟩), results_t1 rfl rfl, C, rfl, ⟨D, own1, G1, ?_⟩, ?_⟩)
      · have h1 := HN.out
        rw [HM.out.2.2] at h1
        have hc := h1.cells
        have hm := h1.map
        refine h1.move (by rw [e4]; exact Nat.le_refl _) (fun k hk hw => e5 k (fun hin => ?_))
        have hd := (HDS.out k hin).2
        rcases hw with hw | hw | hw
        · rw [hw, hc] at hd; cases hd
        · obtain ⟨ma, clk, hb, _⟩ := hm
          rw [hw, hb] at hd
          cases hd
        · obtain ⟨t, ht⟩ := Option.ne_none_iff_exists'.1 hw
          obtain ⟨⟨cells, ty, hcc⟩, _⟩ := HO.out k t ht
          rw [hcc] at hd
          cases hd
      · have hb := HBW.out
        refine ⟨e1.trans hb.os, e2.trans hb.tape, e3.trans hb.output, by rw [e4]; exact hb.size, fun k hk => (e5 k (fun hin => ?_)).trans (hb.block k hk)⟩
        have := (HDS.out k hin).1
        omega
/-- A copy. -/
theorem clone_calls {st : St} (h : NetG w N M room B own G Q) (hr : Rep Q st) (hf : st.length ≤ 1000) :
    Calls Try.prog 20 #[.pointer (some ⟨N, 0, none⟩)] w fun e w' => ∃ C, e = .returned (.pointer (some ⟨C, 0, none⟩)) ∧ (∃ Mc own' G', NetG w' C Mc room w.heap.size own' G' Q) ∧ Below w.heap.size w w' :=
  callsIn_wide.1 ((clone_in h hr hf).mono fun e w' ⟨C, Mc, own', G', he, hN, hb⟩ => ⟨C, he, ⟨Mc, own', G', hN⟩, hb⟩)
end
end Go.Proofs.Ytlnipfmgdkiboaa.N
