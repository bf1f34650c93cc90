/- The network by hand: told, over the iterator. -/
import Derived.Test.YtlnipfmgdkiboaaN11
namespace Go.Proofs.Ytlnipfmgdkiboaa.N
open Go.RowKit Go.Shelf Go.Proofs.Ytlnipfmgdkiboaa.Q Go.Proofs.YtlnipfmgdkiboaaW.PrintWords Go.Proofs.YtlnipfmgdkiboaaW.PrintLast Go.Proofs.YtlnipfmgdkiboaaW.PrintMore
attribute [local go_sem] Oper.semAt_some
set_option linter.unusedVariables false
set_option linter.unusedSimpArgs false
def rawV (r : RawL) : List Value := [.int .i64 r.t, .slice r.a r.n r.c]
def flatL (pre : List (Nat × RawL)) : List Value := pre.flatMap (fun x => rawV x.2)
theorem flatL_snoc (pre : List (Nat × RawL)) (x : Nat × RawL) : flatL (pre ++ [x]) = flatL pre ++ rawV x.2 := by simp [flatL]
theorem cells_two_new (w : World) (a b : Value) (t : TypeId) : ∀ j u, [a, b][j]? = some u → (w.alloc (.cells #[a, b] t)).cell? ((⟨w.heap.size, 0, none⟩ : Addr).add j) = some u := by
  intro j u h
  have hb := blk_cell (blk_new w (.cells #[a, b] t))
  have : ((⟨w.heap.size, 0, none⟩ : Addr).add j) = ⟨w.heap.size, j, none⟩ := by simp [Addr.add]; omega
  rw [this, hb j]
  match j, h with
  | 0, h => exact h
  | 1, h => exact h
/-- What the row's letters are in memory. -/
theorem raws_of {w : World} {base : Nat} {ok : Nat → Prop} {v : Value} {l : List S34} (h : k34.R 34 w base ok v l) (hl : l.length ≤ 1000) {n₀ : Nat} (hn : ∀ k, ok k → k < w.heap.size → k < n₀) :
    ∃ zs, RawRow w v l.length zs n₀ ∧ ∀ j, j < l.length → k34.M w base (fun k => ok k ∧ some k ≠ v.ownBlock) (l.getD j z34) (rawV (zs j)) := by
  have hall : ∀ j, ∃ r : RawL, j < l.length → (k34.M w base (fun k => ok k ∧ some k ≠ v.ownBlock) (l.getD j z34) (rawV r) ∧ ∃ b c, v = .slice (some ⟨b, 0, none⟩) l.length c ∧ b < n₀ ∧ w.cell? ⟨b, j * 2, none⟩ = some (.int .i64 r.t) ∧ w.cell? ⟨b, j * 2 + 1, none⟩ = some (.slice r.a r.n r.c)) := by
    intro j
    by_cases hj : j < l.length
    · obtain ⟨g, c, hv, _, hg, _⟩ := Kd.R_form h (by omega)
      have hown : ok g := h.1 g (by rw [hv]; simp [Value.ownBlock])
      have h' := h
      rw [hv] at h'
      obtain ⟨cs, hl2, hM, hcell, _⟩ := Kd.R_elem h' z34 (j : Int) (by omega) (by omega)
      obtain ⟨v1, rfl, hv1⟩ := k34_openM hM
      obtain ⟨A1, c1, rfl⟩ := Kd.R_slice hv1
      rw [Int.toNat_natCast] at hM hcell
      refine ⟨⟨(l.getD j z34).f0, A1, (l.getD j z34).f1.length, c1⟩, fun _ => ⟨by rw [hv]; exact k34.M_mono (fun k hk => ⟨hk.1, fun e => hk.2 (by simpa [Value.ownBlock] using e)⟩) hM, g, c, hv, hn g hown hg, hcell 0 _ rfl, hcell 1 _ rfl⟩⟩
    · exact ⟨⟨0, none, 0, 0⟩, fun h => absurd h hj⟩
  refine ⟨fun j => Classical.choose (hall j), ?_, fun j hj => ((Classical.choose_spec (hall j)) hj).1⟩
  obtain ⟨A, c, hv, _, _⟩ := Kd.R_reads h
  refine ⟨A, c, hv, by omega, fun hp => ?_⟩
  obtain ⟨b, c', hv', hb, _, _⟩ := ((Classical.choose_spec (hall 0)) hp).2
  rw [hv] at hv'
  injection hv' with e1 _ _
  subst e1
  refine ⟨b, rfl, hb, fun j hj => ?_, fun j hj => ?_⟩
  · obtain ⟨b', c'', hv'', _, h1, _⟩ := ((Classical.choose_spec (hall j)) hj).2
    rw [hv] at hv''
    injection hv'' with e1 _ _
    injection e1 with e1
    injection e1 with e1
    subst e1
    exact h1
  · obtain ⟨b', c'', hv'', _, _, h1⟩ := ((Classical.choose_spec (hall j)) hj).2
    rw [hv] at hv''
    injection hv'' with e1 _ _
    injection e1 with e1
    injection e1 with e1
    subst e1
    exact h1
theorem func_ne (Bs : Nat) (W : World) : (binOp .eql 45 (.func (.func 30) #[] #[.pointer (some ⟨Bs, 0, none⟩)]) .nilFunc).run Try.prog W = .ok (.bool false) W := by kernel_rfl
theorem Boxed.below {n₀ : Nat} {W W' : World} {k : Nat} {t : TypeId} {v : Value} (h : Boxed W k t v) (hb : Below n₀ W W') (hk : k < n₀) : Boxed W' k t v := (hb.block k hk).trans h
/-- What told's loop keeps: the letters that have come. -/
def TI (w : World) (most : Int) (pre : List (Nat × RawL)) (W : World) : Prop :=
  ((∃ v, Boxed W (w.heap.size + 3) 29 v ∧ W.ownsRow w.heap.size 34 2 v pre.length (flatL pre) ∧ (pre.length : Int) ≤ most) ∧ Boxed W w.heap.size 3 (.int .i64 most) ∧ (∃ u, Boxed W (w.heap.size + 1) 29 u) ∧ (∃ u, Boxed W (w.heap.size + 2) 4 u)) ∧ Below w.heap.size w W
def TX (w : World) (most : Int) (c : Code) (pre : List (Nat × RawL)) (W : World) : Prop :=
  (c = .exit 0 ∧ ∃ pre0 x, pre = pre0 ++ [x] ∧ TI w most pre0 W ∧ (pre0.length : Int) = most) ∨ (c = .ret ∧ ∃ pre0 x, pre = pre0 ++ [x] ∧ x.1 ≠ pre0.length)
theorem Boxed.past {W w1 : World} {tmp : Obj} {B n₀ size k : Nat} {t e : TypeId} {u v : Value} {xs : List Value} (hb : Boxed W B t u) (ht : t ≠ e) (hrow : W.ownsRow n₀ e size v k xs) (hg : (W.alloc tmp).grownBy w1 v.ownBlock) : Boxed w1 B t u :=
  (hb.alloc tmp).kept hg (Boxed.not_row (hb.alloc tmp) ht (hrow.alloc tmp))
theorem row_ne {A : World} {row : Option Nat} {B : Nat} (hr : ∀ r, row = some r → B ≤ r ∧ ∃ o : Obj, A.heap[r]? = some o ∧ o.isCells = false) {k : Nat} {t : TypeId} {cs : Array Value} {z : Nat × Nat} (hk : A.heap[k]? = some (.cells cs t z)) : some k ≠ row := fun e => by
  obtain ⟨_, o, ho, hc⟩ := hr k e.symm
  rw [hk] at ho
  cases ho
  cases hc
theorem own_row_ne {A : World} {row : Option Nat} {B : Nat} (hr : ∀ r, row = some r → B ≤ r ∧ ∃ o : Obj, A.heap[r]? = some o ∧ o.isCells = false) {base size n : Nat} {e : TypeId} {v : Value} {xs : List Value} (h : A.ownsRow base e size v n xs) : v.ownBlock = none ∨ v.ownBlock ≠ row := by
  cases hv : v.ownBlock with
  | none => exact .inl rfl
  | some k =>
    obtain ⟨cells, hc⟩ := own_typed h k hv
    exact .inr (row_ne hr hc)
theorem TI_own (w : World) (most : Int) (B : Nat) (hB : w.heap.size ≤ B) : OwnFrom B (TI w most) := fun s A W' row hs hg hr => by
  obtain ⟨⟨⟨v, h1, h2, h3⟩, h4, ⟨u5, h5⟩, u6, h6⟩, h7⟩ := hs
  exact ⟨⟨⟨v, h1.kept hg (row_ne hr h1), h2.kept hg (own_row_ne hr h2), h3⟩, h4.kept hg (row_ne hr h4), ⟨u5, h5.kept hg (row_ne hr h5)⟩, u6, h6.kept hg (row_ne hr h6)⟩, below_trans_grown h7 hg (fun k e => Nat.le_trans hB (hr k e.symm).1) h7.size⟩
theorem TX_own (w : World) (most : Int) (B : Nat) (hB : w.heap.size ≤ B) (c : Code) : OwnFrom B (TX w most c) := fun s A W' row hs hg hr => by
  rcases hs with ⟨h1, pre0, x, h2, h3, h4⟩ | h
  · exact .inl ⟨h1, pre0, x, h2, TI_own w most B hB pre0 A W' row h3 hg hr, h4⟩
  · exact .inr h
theorem TI_alloc {w W : World} {most : Int} {pre : List (Nat × RawL)} (h : TI w most pre W) (o : Obj) : TI w most pre (W.alloc o) :=
  (TI_own w most w.heap.size (Nat.le_refl _)).alloc o h
theorem upto_reps {R : S34 → List Value → Prop} {l : List S34} {zs : Nat → RawL} (h : ∀ j, j < l.length → R (l.getD j z34) (rawV (zs j))) : ∀ k, k ≤ l.length → Reps R 2 (l.take k) (flatL (upto (fun j => (j, zs j)) k))
  | 0, _ => by rw [List.take_zero]; exact Reps.none _ _
  | k + 1, hk => by
    have e : l.take (k + 1) = l.take k ++ [l.getD k z34] := by
      rw [List.take_add_one, List.getElem?_eq_getElem (show k < l.length by omega), List.getD_eq_getElem?_getD, List.getElem?_eq_getElem (show k < l.length by omega)]
      rfl
    rw [e, upto_succ, flatL_snoc]
    exact Reps.snoc (upto_reps h k (by omega)) (h k (by omega)) rfl
theorem results_cc {fn : Func} {p q : Tmp} {tmps : Array Value} {w : World} {a b : Addr} {x y : Value} (h : fn.results = #[.cell p 29, .cell q 4]) (hp : tmps.getD p undef = .pointer (some a)) (hq : tmps.getD q undef = .pointer (some b)) (ha : w.cell? a = some x) (hb : w.cell? b = some y) :
    (results fn tmps).run Try.prog w = .ok (.tuple #[x, y]) w := by
  have hp' : tmps[p]?.getD undef = .pointer (some a) := by simpa using hp
  have hq' : tmps[q]?.getD undef = .pointer (some b) := by simpa using hq
  simp [results, h, hp', hq', go_sem, ha, hb]
/-- Behind the loop: what is handed back. -/
theorem told_end {w W : World} {D : Nat} {l : List S34} {base k : Nat} {ok : Nat → Prop} {zs : Nat → RawL} (hk : k ≤ l.length) (hbase : base ≤ w.heap.size) (hM : ∀ j, j < l.length → k34.M w base ok (l.getD j z34) (rawV (zs j)))
    {u : Value} (hown : W.ownsRow w.heap.size 34 2 u k (flatL (upto (fun j => (j, zs j)) k))) (hB : Below w.heap.size w W) (hD : w.heap.size ≤ D) (hK : W.heap[D]? = some (.deferred (some [])))
    {u5 u6 : Value} (h5 : Boxed W (w.heap.size + 1) 29 u5) (h6 : Boxed W (w.heap.size + 2) 4 u6) (v5 v6 : Value) :
    k34.R 34 (((W.setCell ⟨w.heap.size + 1, 0, none⟩ v5).setCell ⟨w.heap.size + 2, 0, none⟩ v6).putObj D (.deferred none)) base (fun k => ok k ∨ w.heap.size ≤ k) u (l.take k) ∧
    Below w.heap.size w (((W.setCell ⟨w.heap.size + 1, 0, none⟩ v5).setCell ⟨w.heap.size + 2, 0, none⟩ v6).putObj D (.deferred none)) ∧
    (((W.setCell ⟨w.heap.size + 1, 0, none⟩ v5).setCell ⟨w.heap.size + 2, 0, none⟩ v6).putObj D (.deferred none)).cell? ⟨w.heap.size + 1, 0, none⟩ = some v5 ∧ (((W.setCell ⟨w.heap.size + 1, 0, none⟩ v5).setCell ⟨w.heap.size + 2, 0, none⟩ v6).putObj D (.deferred none)).cell? ⟨w.heap.size + 2, 0, none⟩ = some v6 := by
  have hD5 : w.heap.size + 1 ≠ D := fun e => by subst e; rw [show W.heap[w.heap.size + 1]? = _ from h5] at hK; cases hK
  have hD6 : w.heap.size + 2 ≠ D := fun e => by subst e; rw [show W.heap[w.heap.size + 2]? = _ from h6] at hK; cases hK
  have hs5 := h5.set v5
  have hs6 := (h6.other (by omega) v5 (B := w.heap.size + 2) (B' := w.heap.size + 1)).set v6
  have hs56 := hs5.other (by omega) v6 (B' := w.heap.size + 2)
  have hK2 : ((W.setCell ⟨w.heap.size + 1, 0, none⟩ v5).setCell ⟨w.heap.size + 2, 0, none⟩ v6).heap[D]? = some (.deferred (some [])) := by
    rw [Below.heap_setCell _ _ _ D (fun e => hD6 e.symm), Below.heap_setCell _ _ _ D (fun e => hD5 e.symm)]
    exact hK
  have hb2 := (hB.setCell (p := ⟨w.heap.size + 1, 0, none⟩) (by simp) v5).setCell (p := ⟨w.heap.size + 2, 0, none⟩) (by simp) v6
  have hbE : Below w.heap.size w (((W.setCell ⟨w.heap.size + 1, 0, none⟩ v5).setCell ⟨w.heap.size + 2, 0, none⟩ v6).putObj D (.deferred none)) := hb2.trans (belowK_b (w := w) (Nat.le_refl _) _ D _ _ hD hK2 rfl rfl)
  refine ⟨?_, hbE, ?_, ?_⟩
  · have hbk := hown.lt
    refine ⟨fun k hk => .inr (hbk k hk).1, _, own_weaken (own_move (w := W) ?_ (fun j hj => ?_)) hbase, Reps.imp_ (upto_reps hM k hk) (fun x cs h => ?_)⟩
    · have : (l.take k).length = k := by rw [List.length_take]; omega
      rw [this]
      exact hown
    · obtain ⟨cells, hc⟩ := own_typed hown j hj
      rw [World.putObj_heap_other (fun e => by subst e; rw [hc] at hK; cases hK), Below.heap_setCell _ _ _ j (fun e => by subst e; rw [show W.heap[w.heap.size + 2]? = _ from h6] at hc; injection hc with hc; injection hc with _ hc; cases hc), Below.heap_setCell _ _ _ j (fun e => by subst e; rw [show W.heap[w.heap.size + 1]? = _ from h5] at hc; injection hc with hc; injection hc with _ hc; cases hc)]
    · exact k34.M_mono (ok := fun j => ok j ∧ j < w.heap.size) (fun j hj => ⟨.inl hj.1, fun e => by have := hbk j e.symm; have := hj.2; omega⟩) (Kd.M_step (k34.M_mono (fun j hj => ⟨hj.1, hj.2.2.1⟩) (k34.M_bound h)) (fun j hj hlt => hbE.block j hlt))
  · exact (Boxed.cell (t := 29) ((World.putObj_heap_other hD5).trans hs56))
  · exact (Boxed.cell (t := 4) ((World.putObj_heap_other hD6).trans hs6))
set_option maxRecDepth 100000 in
set_option maxHeartbeats 4000000 in
theorem told_in {w : World} {Bs : Nat} {v : Value} {l : List S34} {base : Nat} {ok : Nat → Prop} (hb : w.heap[Bs]? = some (.cells #[v] 29 (0, 0))) (hR : k34.R 34 w base ok v l) (hl : l.length ≤ 1000) (hbase : base ≤ w.heap.size) (most : Int) (hm0 : 0 ≤ most) (hm1 : most ≤ 1048576) :
    CallsIn Fence.wide 6 Try.prog 16 #[.func (.func 30) #[] #[.pointer (some ⟨Bs, 0, none⟩)], .int .i64 most] w fun e W' => ∃ v', e = .returned (.tuple #[v', .bool true]) ∧ k34.R 34 W' base (fun k => ok k ∨ w.heap.size ≤ k) v' (l.take most.toNat) ∧ Below w.heap.size w W' := by
  obtain ⟨zs, hrr, hMs⟩ := raws_of hR hl (n₀ := w.heap.size) (fun k _ hk => hk)
  have hBs : Bs < w.heap.size := heap_lt hb
  have h1 : 1 ≤ 6 := by omega
  refine callsIn_of_wp_marks Try.func16 rfl trivial ?_ rfl
  simp only [Try.ntmps16, List.size_toArray, List.length_cons, List.length_nil, Nat.reduceAdd, Nat.reduceSub, Array.replicate_succ, Array.replicate_zero, List.push_toArray, List.append_toArray, List.nil_append, List.cons_append]
  have hne := func_ne Bs
  gi_wp2
  clear hne
  have b0 := ((((Boxed.new w 3 (.int .i64 most)).alloc (.cells #[.slice none 0 0] 29)).alloc (.cells #[.bool false] 4)).alloc (.cells #[.slice none 0 0] 29))
  have b1 := (((Boxed.new (w.alloc (.cells #[.int .i64 most] 3)) 29 (.slice none 0 0)).alloc (.cells #[.bool false] 4)).alloc (.cells #[.slice none 0 0] 29))
  have b2 := ((Boxed.new ((w.alloc (.cells #[.int .i64 most] 3)).alloc (.cells #[.slice none 0 0] 29)) 4 (.bool false)).alloc (.cells #[.slice none 0 0] 29))
  have b3 := (Boxed.new (((w.alloc (.cells #[.int .i64 most] 3)).alloc (.cells #[.slice none 0 0] 29)).alloc (.cells #[.bool false] 4)) 29 (.slice none 0 0))
  simp only [World.size_alloc] at b1 b2 b3
  have hB0 : Below w.heap.size w ((((w.alloc (.cells #[.int .i64 most] 3)).alloc (.cells #[.slice none 0 0] 29)).alloc (.cells #[.bool false] 4)).alloc (.cells #[.slice none 0 0] 29)) := ((((Below.refl _ w).alloc (Nat.le_refl _) _).alloc (by simp) _).alloc (by simp; omega) _).alloc (by simp; omega) _
  have hsz : ((((w.alloc (.cells #[.int .i64 most] 3)).alloc (.cells #[.slice none 0 0] 29)).alloc (.cells #[.bool false] 4)).alloc (.cells #[.slice none 0 0] 29)).heap.size = w.heap.size + 4 := by simp
  obtain ⟨W0, hW0⟩ : ∃ W0, ((((w.alloc (.cells #[.int .i64 most] 3)).alloc (.cells #[.slice none 0 0] 29)).alloc (.cells #[.bool false] 4)).alloc (.cells #[.slice none 0 0] 29)) = W0 := ⟨_, rfl⟩
  rw [hW0] at b0 b1 b2 b3 hB0 hsz ⊢
  clear hW0
  have hbx : W0.cell? ⟨Bs, 0, none⟩ = some v := (Boxed.below hb hB0 hBs).cell
  refine wpIn_rangeFunc_ownH (F := Fence.wide) (n := 6) rfl h1 (gf := 30) (lb := #[.pointer (some ⟨Bs, 0, none⟩)]) rfl trivial (enters_of Try.func30 (by kernel_rfl) rfl)
    (all_stops Fence.wide 5 trivial rfl (by omega) Bs w.heap.size l.length v zs W0 hB0.size hBs hbx (hrr.below hB0)) belowK_t (belowK_b hB0.size) (Below.refl _ _) (fun _ => rfl)
    (TI w most) (TX w most) ?hI ?hIx ?h0
    (fun x a' W => ∃ Bx, w.heap.size + 3 < Bx ∧ W.heap[Bx]? = some (.cells #[.int .i64 x.2.t, .slice x.2.a x.2.n x.2.c] 34 (0, 0)) ∧ a' = { tmps := #[.func (.func 30) #[] #[.pointer (some ⟨Bs, 0, none⟩)], .int .i64 most, undef, .pointer (some ⟨w.heap.size, 0, none⟩), .pointer (some ⟨w.heap.size + 1, 0, none⟩), .pointer (some ⟨w.heap.size + 2, 0, none⟩), .pointer (some ⟨w.heap.size + 3, 0, none⟩), .int .i64 (x.1 : Int), .pointer (some ⟨Bx, 0, none⟩), .func (.func 30) #[] #[.pointer (some ⟨Bs, 0, none⟩)], .bool false, .func (.func 30) #[] #[.pointer (some ⟨Bs, 0, none⟩)], .int .i64 (x.1 : Int), .agg #[.int .i64 x.2.t, .slice x.2.a x.2.n x.2.c], undef, undef, undef, undef, undef, undef, undef, undef, undef, undef, undef, undef, undef], defers := [] })
    ?hAx ?assign ?body ?done ?stop
  case hI => exact TI_own w most _ hB0.size
  case hIx => exact TX_own w most _ hB0.size
  case h0 => exact ⟨⟨⟨_, b3, World.ownsRow_nil _ _ _ _, by simpa using hm0⟩, b0, ⟨_, b1⟩, ⟨_, b2⟩⟩, hB0⟩
  case hAx => exact fun x a' _ X Y row hs hg hr => by obtain ⟨Bx, h1, h2, h3⟩ := hs; exact ⟨Bx, h1, (hg.block Bx (heap_lt h2) (row_ne hr h2)).trans h2, h3⟩
  case assign =>
    rintro lp pre x W K hi hK
    have hlt3 : w.heap.size + 3 < W.heap.size := by obtain ⟨⟨⟨vq, h1, _⟩, _⟩, _⟩ := hi; exact h1.lt
    dsimp only [encR]
    gi_wp2
    exact hK _ _ ((KeepsOthers.alloc _ _).from _) ((Below.refl _ W).alloc hi.2.size _) (TI_alloc hi _) ⟨W.heap.size, hlt3, blk_new W _, rfl⟩
  case body =>
    rintro lp pre x a' W hl2 ⟨r, hr⟩ hi ⟨Bx, hBx, bX, rfl⟩ hlt
    have HI := Aside0.mk hi
    obtain ⟨⟨⟨vq, h1, h2, h3⟩, h4, ⟨u5, h5⟩, u6, h6⟩, h7⟩ := hi
    obtain ⟨Aq, cq, rfl⟩ : ∃ A c, vq = .slice A pre.length c := by
      rcases h2.2 with ⟨rfl, h0⟩ | ⟨g, cap, cur, rfl, _⟩
      · exact ⟨none, 0, by rw [h0]⟩
      · exact ⟨_, _, rfl⟩
    have cL := h1.cell
    have cM := h4.cell
    have fL := h1.frozen
    have f5 := h5.frozen
    have f6 := h6.frozen
    have c5 := h5.cell
    have c6 := h6.cell
    have cX0 : W.cell? ⟨Bx, 0, none⟩ = some (.int .i64 x.2.t) := (blk_cell bX 0).trans rfl
    have cX1 : W.cell? ⟨Bx, 1, none⟩ = some (.slice x.2.a x.2.n x.2.c) := (blk_cell bX 1).trans rfl
    have HBX := Aside0.mk bX
    have H1 := Aside0.mk h1
    have H2 := Aside0.mk h2
    have H7 := Aside0.mk h7
    have HR := Aside0.mk hr
    clear h1 h2 h4 h5 h6 h7 hr bX b0 b1 b2 b3 hbx hb hR
    by_cases hge : most ≤ (pre.length : Int)
    · gi_wp2
      exact ⟨KeepsFrom.refl _ _, .inl ⟨rfl, pre, x, rfl, HI.out, by obtain ⟨⟨⟨_, _, _, h⟩, _⟩, _⟩ := HI.out; omega⟩⟩
    · by_cases hne : x.1 = pre.length
      · have hne' : ((x.1 : Int) != (pre.length : Int)) = false := by rw [bne_eq_false_iff_eq]; omega
        have hlt' : pre.length < 1000 := by omega
        obtain ⟨i0, hi, hz0, hz1, hz2⟩ := info_parts info34
        clear hne
        gi_wp2_with (gi_at_builtin; refine wpListIn_append_own _ rfl _ _ 29 rfl w.heap.size 34 i0 (.agg #[.int .i64 0, .slice none 0 0]) 2 32 Try.underlying29 hi hz0 hz1 hz2 rfl (by decide) _ _ _ rfl (H2.out.alloc _) ⟨W.heap.size, 0, none⟩ 1 1 [.int .i64 x.2.t, .slice x.2.a x.2.n x.2.c] rfl rfl (cells_two_new _ _ _ _) (by simp [Value.oneCell']) (by unfold maxLen; omega) (by omega) (by have := H7.out.size; simp; omega) ?_; intro v' w1 hown' hgrow hnil; obtain ⟨g', cap', rfl⟩ := ownsRow_succ hown'; obtain ⟨hv1, hv2, hr2, hk2, hb2⟩ := Boxed.appended H1.out (by decide) H2.out H7.out.size (by omega) hown' hgrow; have HV2 := Aside0.mk hv2; have HR2 := Aside0.mk hr2; have HK2 := Aside0.mk hk2; have HB2 := Aside0.mk hb2; have HG := Aside0.mk (show (W.alloc _).grownBy w1 (Value.slice Aq pre.length cq).ownBlock from hgrow); have cL1 := hv1.cell; have fL1 := hv1.frozen; clear hv1 hv2 hr2 hk2 hb2 hgrow hown' hnil)
        have hkeep : ∀ {k t u}, Boxed W k t u → t ≠ 34 → k ≠ w.heap.size + 3 → Boxed (w1.setCell ⟨w.heap.size + 3, 0, none⟩ (.slice (some ⟨g', 0, none⟩) (pre.length + 1) cap')) k t u := fun hb ht hk =>
          Boxed.other (Boxed.past hb ht H2.out HG.out) hk _
        refine ⟨HK2.out.from _, HB2.out, ⟨⟨_, HV2.out, ?_, ?_⟩, ?_, ?_⟩, H7.out.trans HB2.out⟩
        · rw [List.length_append, flatL_snoc]; exact HR2.out
        · rw [List.length_append]; simp only [List.length_singleton]; omega
        · obtain ⟨⟨_, h4, _⟩, _⟩ := HI.out; exact hkeep h4 (by decide) (by omega)
        · obtain ⟨⟨_, _, ⟨u5, h5⟩, u6, h6⟩, _⟩ := HI.out; exact ⟨⟨_, hkeep h5 (by decide) (by omega)⟩, _, hkeep h6 (by decide) (by omega)⟩
      · have hne' : ((x.1 : Int) != (pre.length : Int)) = true := by rw [bne_iff_ne]; omega
        gi_wp2
        exact ⟨((KeepsOthers.setCell _ _ _).trans (KeepsOthers.setCell _ _ _)).from _, .inr ⟨rfl, pre, x, rfl, hne⟩⟩
  case done =>
    rintro D ys W hD rfl hi hK
    obtain ⟨⟨⟨vq, h1, h2, h3⟩, h4, ⟨u5, h5⟩, u6, h6⟩, h7⟩ := hi
    rw [upto_length] at h2 h3
    have hlen : l.take most.toNat = l.take l.length := by rw [List.take_of_length_le (Nat.le_refl _), List.take_of_length_le (by omega)]
    have HE := Aside0.mk (fun v5 => told_end (k := l.length) (Nat.le_refl _) hbase hMs h2 h7 (Nat.le_trans hB0.size hD) hK h5 h6 v5 (.bool true))
    obtain ⟨Aq, cq, rfl⟩ : ∃ A c, vq = .slice A l.length c := by
      rcases h2.2 with ⟨rfl, h0⟩ | ⟨g, cap, cur, rfl, _⟩
      · exact ⟨none, 0, by rw [h0]⟩
      · exact ⟨_, _, rfl⟩
    have cL := h1.cell
    have f5 := h5.frozen
    have f6 := h6.frozen
    have c5 := h5.cell
    have c6 := h6.cell
    have hKe : ((W.setCell ⟨w.heap.size + 1, 0, none⟩ (.slice Aq l.length cq)).setCell ⟨w.heap.size + 2, 0, none⟩ (.bool true)).heap[D]? = some (.deferred (some [])) := by
      rw [Below.heap_setCell _ _ _ D (fun e => by subst e; rw [show W.heap[w.heap.size + 2]? = _ from h6] at hK; cases hK), Below.heap_setCell _ _ _ D (fun e => by subst e; rw [show W.heap[w.heap.size + 1]? = _ from h5] at hK; cases hK)]
      exact hK
    clear h1 h2 h4 h5 h6 h7 h3
    have HL := Aside0.mk hlen
    clear hlen
    gi_wp2
    clear cL f5 f6 c5 c6
    obtain ⟨e1, e2, e3, e4⟩ := HE.out (.slice Aq l.length cq)
    refine ⟨by simp, .inl ⟨_, _, rfl, run_takeDeferred hKe, ?_⟩⟩
    refine ⟨.tuple #[.slice Aq l.length cq, .bool true], ?_, _, rfl, ?_, e2⟩
    · exact results_cc (a := ⟨w.heap.size + 1, 0, none⟩) (b := ⟨w.heap.size + 2, 0, none⟩) rfl rfl rfl e3 e4
    · rw [HL.out]
      exact Kd.R_mono e1 (fun k hk => Or.imp (fun h => h.1) id hk)
  case stop =>
    rintro D c pre W hD hs hx hK
    obtain ⟨k', hk', hs⟩ := hs
    rcases hx with ⟨rfl, pre0, x, he, hi, hm⟩ | ⟨rfl, pre0, x, he, hne⟩
    · have hl1 := congrArg List.length (he.symm.trans hs)
      rw [upto_length, List.length_append, List.length_singleton] at hl1
      subst hl1
      rw [hs, upto_succ] at he
      have h2 := (List.append_inj he (by rw [upto_length])).1
      generalize hk0 : pre0.length = k at *
      subst h2
      obtain ⟨⟨⟨vq, h1, h2, h3⟩, h4, ⟨u5, h5⟩, u6, h6⟩, h7⟩ := hi
      rw [upto_length] at h2 h3
      have hlen : l.take most.toNat = l.take k := by rw [show most.toNat = k by omega]
      have HE := Aside0.mk (fun v5 => told_end (k := k) (by omega) hbase hMs h2 h7 (Nat.le_trans hB0.size hD) hK h5 h6 v5 (.bool true))
      obtain ⟨Aq, cq, rfl⟩ : ∃ A c, vq = .slice A k c := by
        rcases h2.2 with ⟨rfl, h0⟩ | ⟨g, cap, cur, rfl, _⟩
        · exact ⟨none, 0, by rw [h0]⟩
        · exact ⟨_, _, rfl⟩
      have cL := h1.cell
      have f5 := h5.frozen
      have f6 := h6.frozen
      have c5 := h5.cell
      have c6 := h6.cell
      have hKe : ((W.setCell ⟨w.heap.size + 1, 0, none⟩ (.slice Aq k cq)).setCell ⟨w.heap.size + 2, 0, none⟩ (.bool true)).heap[D]? = some (.deferred (some [])) := by
        rw [Below.heap_setCell _ _ _ D (fun e => by subst e; rw [show W.heap[w.heap.size + 2]? = _ from h6] at hK; cases hK), Below.heap_setCell _ _ _ D (fun e => by subst e; rw [show W.heap[w.heap.size + 1]? = _ from h5] at hK; cases hK)]
        exact hK
      clear h1 h2 h4 h5 h6 h7 h3
      have HL := Aside0.mk hlen
      clear hlen
      gi_wp2
      clear cL f5 f6 c5 c6
      obtain ⟨e1, e2, e3, e4⟩ := HE.out (.slice Aq k cq)
      refine ⟨by simp, .inl ⟨_, _, rfl, run_takeDeferred hKe, ?_⟩⟩
      refine ⟨.tuple #[.slice Aq k cq, .bool true], ?_, _, rfl, ?_, e2⟩
      · exact results_cc (a := ⟨w.heap.size + 1, 0, none⟩) (b := ⟨w.heap.size + 2, 0, none⟩) rfl rfl rfl e3 e4
      · rw [HL.out]
        exact Kd.R_mono e1 (fun k hk => Or.imp (fun h => h.1) id hk)
    · exfalso
      have hl1 := congrArg List.length (he.symm.trans hs)
      rw [upto_length, List.length_append, List.length_singleton] at hl1
      subst hl1
      rw [hs, upto_succ] at he
      have h2 := (List.append_inj he (by rw [upto_length])).2
      injection h2 with h2 _
      exact hne (by rw [← h2])
end Go.Proofs.Ytlnipfmgdkiboaa.N
