import Derived.Test.YticoaaddhhiglaaTH
import Derived.Test.YticoaaddhhiglaaTG
/- The document's table by hand: Do (mkT30.py). -/
namespace Go.Proofs.Yticoaaddhhiglaa.T
open Go.RowKit Go.Proofs.Yticoaaddhhiglaa.Q Go.Proofs.YticoaaddhhiglaaW.PrintWords Go.Proofs.YticoaaddhhiglaaW.PrintLast Go.Proofs.YticoaaddhhiglaaW.PrintMore
set_option linter.unusedVariables false
set_option linter.unusedSimpArgs false
theorem set_put {st : St} : ∀ {i : Nat} {y x : S39}, Sorted st → st[i]? = some y → x.f0 = y.f0 → st.set i x = put st x := by
  induction st with
  | nil => intro i y x _ hy; simp at hy
  | cons z r ih =>
    intro i y x hs hy e
    cases i with
    | zero =>
      have hz : z = y := by simpa using hy
      subst hz
      show x :: r = put (z :: r) x
      unfold put
      rw [if_pos e]
    | succ i =>
      have hy' : r[i]? = some y := by simpa using hy
      have hs' := List.pairwise_cons.1 hs
      have hlt := hs'.1 y (List.mem_of_getElem? hy')
      have h1 : ¬ x.f0 = z.f0 := fun h => by rw [← e, h] at hlt; exact Lt.irrefl _ hlt
      have h2 : ¬ Lt x.f0 z.f0 := fun h => by rw [e] at h; exact h.asymm hlt
      show z :: r.set i x = put (z :: r) x
      unfold put
      rw [if_neg h1, if_neg h2, ih hs'.2 hy' e]
/-- Which block a table's row has. -/
def rowOf (w : World) (g : Nat) : Option Nat := match w.cell? ⟨g, 0, none⟩ with
  | some v => v.ownBlock
  | none => none
/-- What the document's Do leaves. -/
def RDo (w0 w : World) (g : Nat) (r : Int × St) (e : Ending) (w' : World) : Prop := e = .returned (.int .i64 r.1) ∧ RefT w0 g r.2 w' ∧ Chg (fun k => k = g ∨ some k = rowOf w g) w w'
/-- The worlds of the document's Do. -/
structure RdW (w0 w : World) (g X : Nat) (st : St) (c : S27) (W : World) : Prop where
  tab : RefT w0 g st W
  below : Below w.heap.size w W
  blkX : W.heap[X]? = some (.cells (chg c).toArray 27 (0, 0))
theorem RdW.then_ {w0 w : World} {g X : Nat} {st : St} {c : S27} {W W' : World} (h : RdW w0 w g X st c W) (hb : Below W.heap.size W W') : RdW w0 w g X st c W' := ⟨h.tab.then_ hb, below_step h.below hb, (hb.block X (heap_lt h.blkX)).trans h.blkX⟩
theorem RdW.same {w0 w : World} {g X : Nat} {st : St} {c : S27} {W : World} (h : RdW w0 w g X st c W) {r : Int × St} (hr : r.2 = st) {e : Ending} (he : e = .returned (.int .i64 r.1)) : RDo w0 w g r e W := ⟨he, by rw [hr]; exact h.tab, Chg.of_below _ h.below⟩
/-- A tenant is written to its place. -/
theorem rset {w0 w W : World} {g : Nat} {st : St} (ht : RefT w0 g st w) (hb : Below w.heap.size w W) (hs : Sorted st) {i : Nat} {y x : S39} (hi : st[i]? = some y) (hn : x.f0 = y.f0) {v1 v8 : Value} (h1 : k23.R 23 W w0.heap.size (fun _ => True) v1 x.f1) (h8 : Kd.string.R 9 W w0.heap.size (fun _ => True) v8 x.f5) :
    ∃ r c W', W.heap[g]? = some (.cells #[.slice (some ⟨r, 0, none⟩) st.length c] 52 (0, 0)) ∧ W.setCells r (i * 9) (ten x v1 v8) = W' ∧ W.there r (i * 9) 9 ∧ RefT w0 g (put st x) W' ∧ Chg (fun k => k = g ∨ some k = rowOf w g) w W' := by
  obtain ⟨A, c, hg, hR⟩ := ht.row
  have hil : i < st.length := (List.getElem?_eq_some_iff.1 hi).1
  obtain ⟨r, cap, cs, hv, hO⟩ := R_ownB hR (by omega)
  injection hv with ea _ ec
  subst ea; subst ec
  have hRW := Kd.R_below hR hb
  have hgW := (hb.block g (heap_lt hg)).trans hg
  obtain ⟨cs', hcl, hM, hc⟩ := Kd.R_getA hRW z39 (i : Int) (by omega) (by omega)
  rw [Int.toNat_natCast] at hc
  have hne1 : ∀ {α : Type} {d : Kd α} {e : Nat} {v : Value} {xs : List α}, d.R e W w0.heap.size (fun _ => True) v xs → (∀ q ∈ e :: d.E, q ≠ 39) → d.R e W w0.heap.size (fun k => k ≠ r) v xs := fun h ht => Kd.R_mono (apartok h hRW ht) (fun k hk e => hk (by rw [e]; rfl))
  have hseg := Kd.R_seg (okp := fun k => k ≠ r) hRW (i : Int) (by omega) (by omega) (c := cs') (seg := ten x v1 v8) (j := 0) hcl (fun j u hu => by
    have := hc j u hu
    rw [Addr.add_lit] at this
    rw [Int.toNat_natCast]
    simpa using this) (by show 0 + 9 ≤ 9; decide) (x' := x) (by
    rw [List.take_zero, List.nil_append, List.drop_of_length_le (by rw [hcl]; exact Nat.le_refl 9), List.append_nil]
    exact k39_mkM W w0.heap.size (fun k => k ≠ r) x (hne1 h1 (by decide)) (hne1 h8 (by decide))) (fun k hk => ⟨trivial, hk⟩)
  rw [Int.toNat_natCast, set_put hs hi hn] at hseg
  have hrg : r ≠ g := fun e => by
    obtain ⟨cur, hh, _⟩ := hO.blk
    rw [e, hg] at hh
    injection hh with hh
    injection hh with _ hh
    exact absurd hh (by decide)
  have hlen : (put st x).length = st.length := by rw [← set_put hs hi hn, List.length_set]
  have hrow : rowOf w g = some r := by unfold rowOf; rw [R_cells hg]; rfl
  refine ⟨r, c, _, hgW, rfl, ?_, ⟨⟨some ⟨r, 0, none⟩, c, ?_, ?_⟩, ?_, ht.hg⟩, ?_⟩
  · obtain ⟨cur, hh, hcs, _⟩ := hO.blk
    have hh' := (hb.block r (heap_lt hh)).trans hh
    have hle := hO.le
    intro a ha
    refine ⟨?_, blk_frozen hh' _⟩
    rw [blk_cell hh']
    have : i * 9 + a < cur.size := by rw [hcs]; show i * 9 + a < c * 9; omega
    simp [this]
  · rw [hlen]
    exact (hseg.2.block g (heap_lt hgW) (fun e => by injection e with e; exact hrg e.symm)).trans hgW
  · rw [hlen]
    exact hseg.1
  · exact Chg.onto (ht.below.trans (hb.mono ht.below.size)) (Nat.le_refl _) (Chg.of_grown hseg.2) (fun k e => by injection e with e; rw [e]; exact hO.low)
  · refine (Chg.of_below _ hb).trans (Chg.of_grown hseg.2) (fun _ _ e => e) (fun k _ e => .inr ?_)
    rw [hrow]
    exact e
/-- add, at a tenant that comes. -/
theorem radd_new {w0 w : World} {g : Nat} {st : St} (h : RefT w0 g st w) (hf : st.length ≤ 100) {d : Int} {tn : ByteArray} {k : S23} {lm : S25} {qu ri : Int} {rdr : ByteArray} (hno : ∀ y ∈ st, y.f0 ≠ tn) :
    Calls Try.prog 45 #[.pointer (some ⟨g, 0, none⟩), .agg #[.string tn, .slice (some ⟨w.heap.size, 0, none⟩) 1 1, .int .i64 lm.f0, .int .i64 lm.f1, .int .i64 lm.f2, .int .i64 lm.f3, .int .i64 qu, .int .i64 ri, .slice none 0 0]] (w.alloc (.cells #[.int .i64 k.f0, .string k.f1] 23)) fun e w' => e = .returned (.tuple #[]) ∧ RefT w0 g (addT st (newT ⟨d, tn, k, lm, qu, ri, rdr⟩)) w' ∧ Chg (fun k => k = g) w w' := by
  have hb := below_alloc (Below.refl w.heap.size w) (.cells #[.int .i64 k.f0, .string k.f1] 23)
  have hR1 : k23.R 23 (w.alloc (.cells #[.int .i64 k.f0, .string k.f1] 23)) w0.heap.size (fun _ => True) (.slice (some ⟨w.heap.size, 0, none⟩) 1 1) [k] := by
    refine ⟨fun _ _ => trivial, [.int .i64 k.f0, .string k.f1], ?_, ?_⟩
    · exact World.ownsRow_lit (base := w0.heap.size) (e := 23) (size := 2) w #[.int .i64 k.f0, .string k.f1] 1 h.below.size (by decide) rfl
    · exact (Reps.none _ 2).snoc (p := k) (c := [.int .i64 k.f0, .string k.f1]) (k23_mkM _ _ _ k) rfl
  exact (radd_calls (x := newT ⟨d, tn, k, lm, qu, ri, rdr⟩) (h.then_ hb) hf hR1 (Kd.R_nil _ _ _ _ _) hno).mono (fun e w' h => ⟨h.1, h.2.1, (Chg.of_below _ hb).trans h.2.2 (fun _ _ e => e) (fun _ _ e => e)⟩)
theorem limits_done3 {w0 w W : World} {T : Nat} {x : S39} {v1 v8 : Value} (h : W.heap[T]? = some (.cells (ten x v1 v8).toArray 39 (0, 0))) (hb : Below w.heap.size w W) (hT : w.heap.size ≤ T) (h1 : k23.R 23 W w0.heap.size (fun _ => True) v1 x.f1) (h8 : Kd.string.R 9 W w0.heap.size (fun _ => True) v8 x.f5) (lm : S25) :
    (W.setCells T 2 (#[.int .i64 lm.f0, .int .i64 lm.f1, .int .i64 lm.f2, .int .i64 lm.f3] : Array Value).toList).heap[T]? = some (.cells (ten { x with f2 := lm } v1 v8).toArray 39 (0, 0)) ∧ Below w.heap.size w (W.setCells T 2 (#[.int .i64 lm.f0, .int .i64 lm.f1, .int .i64 lm.f2, .int .i64 lm.f3] : Array Value).toList) ∧
    k23.R 23 (W.setCells T 2 (#[.int .i64 lm.f0, .int .i64 lm.f1, .int .i64 lm.f2, .int .i64 lm.f3] : Array Value).toList) w0.heap.size (fun _ => True) v1 ({ x with f2 := lm } : S39).f1 ∧ Kd.string.R 9 (W.setCells T 2 (#[.int .i64 lm.f0, .int .i64 lm.f1, .int .i64 lm.f2, .int .i64 lm.f3] : Array Value).toList) w0.heap.size (fun _ => True) v8 ({ x with f2 := lm } : S39).f5 := by
  have hfar : ∀ k, k ≠ T → (W.setCells T 2 (#[.int .i64 lm.f0, .int .i64 lm.f1, .int .i64 lm.f2, .int .i64 lm.f3] : Array Value).toList).heap[k]? = W.heap[k]? := fun k hk => setCells_far _ _ k hk
  obtain ⟨s1, s2, s3, s4⟩ := setCells_same T (#[.int .i64 lm.f0, .int .i64 lm.f1, .int .i64 lm.f2, .int .i64 lm.f3] : Array Value).toList 2 W
  refine ⟨?_, ⟨s1.trans hb.os, s2.trans hb.tape, s3.trans hb.output, by rw [s4]; exact hb.size, fun k hk => (hfar k (by omega)).trans (hb.block k hk)⟩, Kd.R_drop (Kd.R_step (Kd.R_types h1 h (by decide)) (fun k hk _ => hfar k hk.2)), Kd.R_drop (Kd.R_step (Kd.R_types h8 h (by decide)) (fun k hk _ => hfar k hk.2))⟩
  exact blk_put (blk_put (blk_put (blk_put h 2 _ rfl) 3 _ rfl) 4 _ rfl) 5 _ rfl
def rdo.T30 : Bool × List (List Nat × List Nat) := (true, [([], []), ([0], [0]), ([1], [1]), ([2], [2]), ([], []), ([], []), ([3, 4, 0, 1, 2, 3, 4, 5], [3, 4]), ([6, 5, 0, 1, 2, 3, 4, 5], [5, 6])])
def rdo.B30 : List Nat := [0, 1, 3, 7, 0, 0, 63, 127]
theorem rdo.tab30 : rtab .any (opsOf Try.f24 30) = rdo.T30 := by kernel_rfl
theorem rdo.bits30 : waitsOk rdo.T30.2 rdo.B30 = true := by kernel_rfl
def UniqR (st : St) : Prop := ∀ x ∈ st, x.f5.Nodup
set_option maxHeartbeats 16000000 in
set_option maxRecDepth 100000 in
theorem rdo_calls {w0 w : World} {g : Nat} {st : St} (h : RefT w0 g st w) (hf : st.length ≤ 16) (hfx : ∀ x ∈ st, Fine x) (hs : Sorted st) (huk : Uniq st) (hur : UniqR st) (c : S27) :
    Calls Try.prog 24 #[.pointer (some ⟨g, 0, none⟩), .agg (chg c).toArray] w (RDo w0 w g (doT st c)) := by
  obtain ⟨rr, hrr⟩ : ∃ rr, rr = rightE c := ⟨_, rfl⟩
  have HRR := Aside0.mk hrr
  have HT := Aside0.mk h
  have HF := Aside0.mk hf
  have HS := Aside0.mk hs
  have hfx' := hfx
  obtain ⟨ps, hps⟩ : ∃ ps, ps = posI (atT st c.f1) := ⟨_, rfl⟩
  have HP := Aside0.mk hps
  by_cases h0 : rr = 0
  · have hrg := right_range (c := c) (by rw [← hrr]; exact h0)
    subst h0
    obtain ⟨d, tn, k, lm, qu, ri, rdr⟩ := c
    dsimp only at hps hrg HP
    cases hat : atT st tn with
    | none =>
      have hl := atT_none hat
      rw [hat] at hps
      have hp : ps = -1 := hps
      subst hp
      by_cases hd : d = 0
      · subst hd
        obtain ⟨n, hn⟩ : ∃ n : Nat, n = st.length := ⟨_, rfl⟩
        have HN := Aside0.mk hn
        by_cases h16 : 16 ≤ n
        · have q1 : (n : Int) ≥ 16 := by omega
          have HD := Aside0.mk (show doT st ⟨0, tn, k, lm, qu, ri, rdr⟩ = (5, st) by
            unfold doT
            rw [if_pos HRR.out.symm, if_pos rfl, hl]
            exact if_pos (hn ▸ h16))
          clear hrr h hf hfx hs huk hur hps hat hl hn h16 hrg hfx'
          unfold chg
          go_enter Try.func24, Try.ntmps24
          go_wp2_with (first
            | ((with_reducible refine gate_dst (N := 3) rfl ?_); refine box_event ?hg (N := 3) ?hd (cs := (chg ⟨0, tn, k, lm, qu, ri, rdr⟩).toArray) (t := 27) ?hr ?_; (case hd => rfl); (case hg => rfl); (case hr => first | (go_simp; done) | (go_simp; rfl)); intro X hX w1 hx1 hb1; have H1 := Aside0.mk (show RdW w0 w g X st ⟨0, tn, k, lm, qu, ri, rdr⟩ w1 from ⟨HT.out.then_ hb1, hb1, hx1⟩); clear hX hx1 hb1)
            | ((with_reducible refine gate_ (.load 27 (.tmp 3)) rfl ?_); refine load_blk rfl 27 (.tmp 3) rfl X rfl (chg ⟨0, tn, k, lm, qu, ri, rdr⟩) H1.out.blkX _ Try.underlying27 rfl size27 ?_)
            | (go_at_call 12; (with_reducible refine (refright_calls ⟨0, tn, k, lm, qu, ri, rdr⟩ _).mono ?_); rintro e w2 ⟨rfl, hb2⟩; rw [← HRR.out]; have H2 := Aside0.mk (H1.out.then_ hb2); obtain ⟨x0, x1, x2, x3, x4, x5, x6, x7, x8, x9, x10⟩ := cellsX H2.out.blkX; (try dsimp only at x0 x1 x2 x3 x4 x5 x6 x7 x8 x9 x10); clear hb2)
            | (go_at_call 44; (with_reducible refine (at_calls H2.out.tab (by have := HF.out; omega) tn).mono ?_); rw [← HP.out]; rintro e w3 ⟨rfl, hb3⟩; have H3 := Aside0.mk (H2.out.then_ hb3); clear x0 x1 x2 x3 x4 x5 x6 x7 x8 x9 x10 hb3; obtain ⟨x0, x1, x2, x3, x4, x5, x6, x7, x8, x9, x10⟩ := cellsX H3.out.blkX; (try dsimp only at x0 x1 x2 x3 x4 x5 x6 x7 x8 x9 x10); obtain ⟨LA, lc, hz, hR⟩ := H3.out.tab.row; rw [← HN.out] at hz hR; have z0 := R_cells hz; have HZ := Aside0.mk (And.intro hz hR); clear hz hR))
          go_ret
          rw [HD.out]
          exact H3.out.same rfl rfl
        · have q1 : ¬ (n : Int) ≥ 16 := by omega
          have HD := Aside0.mk (show doT st ⟨0, tn, k, lm, qu, ri, rdr⟩ = (0, put st (newT ⟨0, tn, k, lm, qu, ri, rdr⟩)) by
            unfold doT
            rw [if_pos HRR.out.symm, if_pos rfl, hl]
            exact if_neg (hn ▸ h16))
          have HPA := Aside0.mk (addT_put (x := newT ⟨0, tn, k, lm, qu, ri, rdr⟩) hs hl)
          have HNO := Aside0.mk (look_none.1 hl)
          clear hrr h hf hfx hs huk hur hps hat hl hn h16 hrg hfx'
          unfold chg
          go_enter Try.func24, Try.ntmps24
          go_wp2_with (first
            | ((with_reducible refine gate_dst (N := 3) rfl ?_); refine box_event ?hg (N := 3) ?hd (cs := (chg ⟨0, tn, k, lm, qu, ri, rdr⟩).toArray) (t := 27) ?hr ?_; (case hd => rfl); (case hg => rfl); (case hr => first | (go_simp; done) | (go_simp; rfl)); intro X hX w1 hx1 hb1; have H1 := Aside0.mk (show RdW w0 w g X st ⟨0, tn, k, lm, qu, ri, rdr⟩ w1 from ⟨HT.out.then_ hb1, hb1, hx1⟩); clear hX hx1 hb1)
            | ((with_reducible refine gate_ (.load 27 (.tmp 3)) rfl ?_); refine load_blk rfl 27 (.tmp 3) rfl X rfl (chg ⟨0, tn, k, lm, qu, ri, rdr⟩) H1.out.blkX _ Try.underlying27 rfl size27 ?_)
            | (go_at_call 12; (with_reducible refine (refright_calls ⟨0, tn, k, lm, qu, ri, rdr⟩ _).mono ?_); rintro e w2 ⟨rfl, hb2⟩; rw [← HRR.out]; have H2 := Aside0.mk (H1.out.then_ hb2); obtain ⟨x0, x1, x2, x3, x4, x5, x6, x7, x8, x9, x10⟩ := cellsX H2.out.blkX; (try dsimp only at x0 x1 x2 x3 x4 x5 x6 x7 x8 x9 x10); clear hb2)
            | (go_at_call 44; (with_reducible refine (at_calls H2.out.tab (by have := HF.out; omega) tn).mono ?_); rw [← HP.out]; rintro e w3 ⟨rfl, hb3⟩; have H3 := Aside0.mk (H2.out.then_ hb3); clear x0 x1 x2 x3 x4 x5 x6 x7 x8 x9 x10 hb3; obtain ⟨x0, x1, x2, x3, x4, x5, x6, x7, x8, x9, x10⟩ := cellsX H3.out.blkX; (try dsimp only at x0 x1 x2 x3 x4 x5 x6 x7 x8 x9 x10); obtain ⟨LA, lc, hz, hR⟩ := H3.out.tab.row; rw [← HN.out] at hz hR; have z0 := R_cells hz; have HZ := Aside0.mk (And.intro hz hR); clear hz hR; have p4 := pw_cell_below (below_alloc (Below.refl w3.heap.size w3) (.cells #[.int .i64 k.f0, .string k.f1] 23)) x4; have p5 := pw_cell_below (below_alloc (Below.refl w3.heap.size w3) (.cells #[.int .i64 k.f0, .string k.f1] 23)) x5; have p6 := pw_cell_below (below_alloc (Below.refl w3.heap.size w3) (.cells #[.int .i64 k.f0, .string k.f1] 23)) x6; have p7 := pw_cell_below (below_alloc (Below.refl w3.heap.size w3) (.cells #[.int .i64 k.f0, .string k.f1] 23)) x7; have p8 := pw_cell_below (below_alloc (Below.refl w3.heap.size w3) (.cells #[.int .i64 k.f0, .string k.f1] 23)) x8; have p9 := pw_cell_below (below_alloc (Below.refl w3.heap.size w3) (.cells #[.int .i64 k.f0, .string k.f1] 23)) x9)
            | (go_at_call 45; (with_reducible refine (radd_new (d := 0) (rdr := rdr) H3.out.tab (by have := HF.out; omega) HNO.out).mono ?_); rintro e w4 ⟨rfl, h4, hc4⟩; have H4 := Aside0.mk (And.intro h4 hc4); clear h4 hc4 p4 p5 p6 p7 p8 p9 z0 x0 x1 x2 x3 x4 x5 x6 x7 x8 x9 x10))
          go_ret
          rw [HD.out]
          refine ⟨rfl, ?_, (Chg.of_below _ H3.out.below).trans H4.out.2 (fun _ _ e => e) (fun _ _ e => .inl e)⟩
          rw [← HPA.out]
          exact H4.out.1
      · have HD := Aside0.mk (show doT st ⟨d, tn, k, lm, qu, ri, rdr⟩ = (180, st) by
          unfold doT
          rw [if_pos HRR.out.symm, if_neg hd, hl])
        obtain ⟨n, hn⟩ : ∃ n : Nat, n = st.length := ⟨_, rfl⟩
        have HN := Aside0.mk hn
        clear hrr h hf hfx hs huk hur hps hat hl hrg hfx' hn
        unfold chg
        go_enter Try.func24, Try.ntmps24
        go_wp2_with (first
          | ((with_reducible refine gate_dst (N := 3) rfl ?_); refine box_event ?hg (N := 3) ?hd (cs := (chg ⟨d, tn, k, lm, qu, ri, rdr⟩).toArray) (t := 27) ?hr ?_; (case hd => rfl); (case hg => rfl); (case hr => first | (go_simp; done) | (go_simp; rfl)); intro X hX w1 hx1 hb1; have H1 := Aside0.mk (show RdW w0 w g X st ⟨d, tn, k, lm, qu, ri, rdr⟩ w1 from ⟨HT.out.then_ hb1, hb1, hx1⟩); clear hX hx1 hb1)
          | ((with_reducible refine gate_ (.load 27 (.tmp 3)) rfl ?_); refine load_blk rfl 27 (.tmp 3) rfl X rfl (chg ⟨d, tn, k, lm, qu, ri, rdr⟩) H1.out.blkX _ Try.underlying27 rfl size27 ?_)
          | (go_at_call 12; (with_reducible refine (refright_calls ⟨d, tn, k, lm, qu, ri, rdr⟩ _).mono ?_); rintro e w2 ⟨rfl, hb2⟩; rw [← HRR.out]; have H2 := Aside0.mk (H1.out.then_ hb2); obtain ⟨x0, x1, x2, x3, x4, x5, x6, x7, x8, x9, x10⟩ := cellsX H2.out.blkX; (try dsimp only at x0 x1 x2 x3 x4 x5 x6 x7 x8 x9 x10); clear hb2)
          | (go_at_call 44; (with_reducible refine (at_calls H2.out.tab (by have := HF.out; omega) tn).mono ?_); rw [← HP.out]; rintro e w3 ⟨rfl, hb3⟩; have H3 := Aside0.mk (H2.out.then_ hb3); clear x0 x1 x2 x3 x4 x5 x6 x7 x8 x9 x10 hb3; obtain ⟨x0, x1, x2, x3, x4, x5, x6, x7, x8, x9, x10⟩ := cellsX H3.out.blkX; (try dsimp only at x0 x1 x2 x3 x4 x5 x6 x7 x8 x9 x10); obtain ⟨LA, lc, hz, hR⟩ := H3.out.tab.row; rw [← HN.out] at hz hR; have z0 := R_cells hz; have HZ := Aside0.mk (And.intro hz hR); clear hz hR))
        go_ret
        rw [HD.out]
        exact H3.out.same rfl rfl
    | some i =>
      obtain ⟨x, hx, hl, hxs⟩ := atT_some hat
      rw [hat] at hps
      have hp : ps = (i : Int) := hps
      subst hp
      have hil : i < st.length := (List.getElem?_eq_some_iff.1 hx).1
      have hmem := List.mem_of_getElem? hx
      have hfn := hfx x hmem
      have huk' := huk x hmem
      have hur' := hur x hmem
      obtain ⟨n, hn⟩ : ∃ n : Nat, n = st.length := ⟨_, rfl⟩
      have HN := Aside0.mk hn
      have HX := Aside0.mk hx
      have HFN := Aside0.mk hfn
      have HU := Aside0.mk hur'
      have i0 : (i : Int) ≥ 0 := by omega
      have i1 : ¬ (i : Int) < 0 := by omega
      have i2 : (0 : Int) ≤ (i : Int) := by omega
      have i3 : (i : Int) < (n : Int) := by omega
      have hdo : ¬ d = 0 → doT st ⟨d, tn, k, lm, qu, ri, rdr⟩ = if (changeT x ⟨d, tn, k, lm, qu, ri, rdr⟩).1 = 0 then (0, put st (changeT x ⟨d, tn, k, lm, qu, ri, rdr⟩).2) else ((changeT x ⟨d, tn, k, lm, qu, ri, rdr⟩).1, st) := fun hd => by
        rw [do_other HRR.out.symm hd, hl]
      have hdz : d = 0 → doT st ⟨d, tn, k, lm, qu, ri, rdr⟩ = (100, st) := fun hd => by
        unfold doT
        rw [if_pos HRR.out.symm, if_pos hd, hl]
      have HXS := Aside0.mk hxs
      have hd6 : d = 0 ∨ d = 1 ∨ d = 2 ∨ d = 3 ∨ (d = 4 ∨ d = 5) := by omega
      clear hrr h hf hfx hs huk hur hps hat hl hrg hfx' hn hx hil hmem hfn hxs
      rcases hd6 with rfl | rfl | rfl | rfl | hd45
      · have HD := Aside0.mk (hdz rfl)
        clear hdo hdz huk' hur'
        unfold chg
        go_enter Try.func24, Try.ntmps24
        go_wp2_with (first
          | ((with_reducible refine gate_dst (N := 3) rfl ?_); refine box_event ?hg (N := 3) ?hd (cs := (chg ⟨0, tn, k, lm, qu, ri, rdr⟩).toArray) (t := 27) ?hr ?_; (case hd => rfl); (case hg => rfl); (case hr => first | (go_simp; done) | (go_simp; rfl)); intro X hX w1 hx1 hb1; have H1 := Aside0.mk (show RdW w0 w g X st ⟨0, tn, k, lm, qu, ri, rdr⟩ w1 from ⟨HT.out.then_ hb1, hb1, hx1⟩); clear hX hx1 hb1)
          | ((with_reducible refine gate_ (.load 27 (.tmp 3)) rfl ?_); refine load_blk rfl 27 (.tmp 3) rfl X rfl (chg ⟨0, tn, k, lm, qu, ri, rdr⟩) H1.out.blkX _ Try.underlying27 rfl size27 ?_)
          | (go_at_call 12; (with_reducible refine (refright_calls ⟨0, tn, k, lm, qu, ri, rdr⟩ _).mono ?_); rintro e w2 ⟨rfl, hb2⟩; rw [← HRR.out]; have H2 := Aside0.mk (H1.out.then_ hb2); obtain ⟨x0, x1, x2, x3, x4, x5, x6, x7, x8, x9, x10⟩ := cellsX H2.out.blkX; (try dsimp only at x0 x1 x2 x3 x4 x5 x6 x7 x8 x9 x10); clear hb2)
          | (go_at_call 44; (with_reducible refine (at_calls H2.out.tab (by have := HF.out; omega) tn).mono ?_); rw [← HP.out]; rintro e w3 ⟨rfl, hb3⟩; have H3 := Aside0.mk (H2.out.then_ hb3); clear x0 x1 x2 x3 x4 x5 x6 x7 x8 x9 x10 hb3; obtain ⟨x0, x1, x2, x3, x4, x5, x6, x7, x8, x9, x10⟩ := cellsX H3.out.blkX; (try dsimp only at x0 x1 x2 x3 x4 x5 x6 x7 x8 x9 x10); obtain ⟨LA, lc, hz, hR⟩ := H3.out.tab.row; rw [← HN.out] at hz hR; have z0 := R_cells hz; have HZ := Aside0.mk (And.intro hz hR); clear hz hR))
        go_ret
        rw [HD.out]
        exact H3.out.same rfl rfl
      · obtain ⟨kr, hkr⟩ : ∃ kr, kr = keysR x.f1 k := ⟨_, rfl⟩
        have HKR := Aside0.mk hkr
        have hkl : (changeT x ⟨1, tn, k, lm, qu, ri, rdr⟩) = if kr.length ≤ 4 then (0, { x with f1 := kr }) else (5, x) := by
          unfold changeT
          rw [if_pos rfl]
          dsimp only
          cases hk : keyAt x.f1 k.f0 with
          | some j =>
            have e1 := keysR_some huk' hk
            rw [← hkr] at e1
            have : kr.length ≤ 4 := by rw [e1, List.length_set]; exact HFN.out.keys
            rw [if_pos this, e1]
          | none =>
            have e1 := keysR_none hk
            rw [← hkr] at e1
            have e2 : kr.length = x.f1.length + 1 := by rw [e1]; simp
            by_cases h4 : 4 ≤ x.f1.length
            · rw [if_neg (show ¬ kr.length ≤ 4 by omega)]
              exact if_pos h4
            · rw [if_pos (show kr.length ≤ 4 by omega), e1]
              exact if_neg h4
        by_cases h4 : kr.length ≤ 4
        · have HD := Aside0.mk (show doT st ⟨1, tn, k, lm, qu, ri, rdr⟩ = (0, put st { x with f1 := kr }) by rw [hdo (by decide), hkl, if_pos h4]; rfl)
          have hdec : decide (kr.length ≤ 4) = true := decide_eq_true h4
          clear hdo hdz huk' hur' hkr hkl h4
          unfold chg
          go_enter Try.func24, Try.ntmps24
          go_wp2_with (first
            | ((with_reducible refine gate_dst (N := 3) rfl ?_); refine box_event ?hg (N := 3) ?hd (cs := (chg ⟨1, tn, k, lm, qu, ri, rdr⟩).toArray) (t := 27) ?hr ?_; (case hd => rfl); (case hg => rfl); (case hr => first | (go_simp; done) | (go_simp; rfl)); intro X hX w1 hx1 hb1; have H1 := Aside0.mk (show RdW w0 w g X st ⟨1, tn, k, lm, qu, ri, rdr⟩ w1 from ⟨HT.out.then_ hb1, hb1, hx1⟩); clear hX hx1 hb1)
            | ((with_reducible refine gate_ (.load 27 (.tmp 3)) rfl ?_); refine load_blk rfl 27 (.tmp 3) rfl X rfl (chg ⟨1, tn, k, lm, qu, ri, rdr⟩) H1.out.blkX _ Try.underlying27 rfl size27 ?_)
            | (go_at_call 12; (with_reducible refine (refright_calls ⟨1, tn, k, lm, qu, ri, rdr⟩ _).mono ?_); rintro e w2 ⟨rfl, hb2⟩; rw [← HRR.out]; have H2 := Aside0.mk (H1.out.then_ hb2); obtain ⟨x0, x1, x2, x3, x4, x5, x6, x7, x8, x9, x10⟩ := cellsX H2.out.blkX; (try dsimp only at x0 x1 x2 x3 x4 x5 x6 x7 x8 x9 x10); clear hb2)
            | (go_at_call 44; (with_reducible refine (at_calls H2.out.tab (by have := HF.out; omega) tn).mono ?_); rw [← HP.out]; rintro e w3 ⟨rfl, hb3⟩; have H3 := Aside0.mk (H2.out.then_ hb3); clear x0 x1 x2 x3 x4 x5 x6 x7 x8 x9 x10 hb3; obtain ⟨x0, x1, x2, x3, x4, x5, x6, x7, x8, x9, x10⟩ := cellsX H3.out.blkX; (try dsimp only at x0 x1 x2 x3 x4 x5 x6 x7 x8 x9 x10); obtain ⟨LA, lc, hz, hR⟩ := H3.out.tab.row; rw [← HN.out] at hz hR; have z0 := R_cells hz; obtain ⟨ad, A1, c1, A8, c8, hA, y0, y1, y2, y3, y4, y5, y6, y7, y8, hRR⟩ := lent39 hR HX.out; have HRW := Aside0.mk hRR; subst hA; clear hz hR hRR)
            | ((with_reducible refine gate_dst (N := 7) rfl ?_); refine box_event ?hg (N := 7) ?hd (cs := (ten z39 (.slice none 0 0) (.slice none 0 0)).toArray) (t := 39) ?hr ?_; (case hd => rfl); (case hg => rfl); (case hr => first | (go_simp; done) | (go_simp; rfl)); intro T hT w4 hx4 hb4; have HT4 := Aside0.mk hx4; have HB4 := Aside0.mk hb4; have HTG := Aside0.mk (show w3.heap.size ≤ T by omega); clear hT hx4 hb4)
            | ((with_reducible refine gate_ (.store 39 (.tmp 7) (.tmp 54)) rfl ?_); refine store_blk rfl 39 (.tmp 7) (.tmp 54) rfl T (ten z39 (.slice none 0 0) (.slice none 0 0)) (ten x (.slice A1 x.f1.length c1) (.slice A8 x.f5.length c8)) rfl rfl HT4.out rfl size39 (ten_one _ rfl rfl) ?_; intro w5 h5 hk5 hb5; have hbb := hb5 w3 HTG.out HB4.out; have H5 := Aside0.mk (H3.out.then_ hbb); have HT5 := Aside0.mk h5; have HR5 := Aside0.mk (And.intro (Kd.R_below HRW.out.1 hbb) (Kd.R_below HRW.out.2 hbb)); have HTW := Aside0.mk (Nat.le_trans H3.out.below.size HTG.out); clear z0 y0 y1 y2 y3 y4 y5 y6 y7 y8 x0 x1 x2 x3 x4 x5 x6 x7 x8 x9 x10; obtain ⟨x0, x1, x2, x3, x4, x5, x6, x7, x8, x9, x10⟩ := cellsX H5.out.blkX; (try dsimp only at x0 x1 x2 x3 x4 x5 x6 x7 x8 x9 x10); obtain ⟨t1, t8, f1, f8⟩ := cells9 h5; clear h5 hk5 hb5 hbb)
            | (go_at_call 46; (with_reducible refine (keysf_calls k (R_len HR5.out.1).1 rfl (R_len HR5.out.1).2 (by have := HFN.out.keys; omega)).mono ?_); rw [← HKR.out]; rintro e w6 ⟨v9, rfl, hv9, hb6⟩; have H6 := Aside0.mk (H5.out.then_ hb6); have HT6 := Aside0.mk ((hb6.block T (heap_lt HT5.out)).trans HT5.out); have HV9 := Aside0.mk (Kd.R_lower (base' := w0.heap.size) hv9 H5.out.tab.below.size); have HR6 := Aside0.mk (And.intro (Kd.R_below HR5.out.1 hb6) (Kd.R_below HR5.out.2 hb6)); obtain ⟨A9, c9, hvs⟩ := Kd.R_slice hv9; subst hvs; clear t1 t8 f1 f8 hv9 hb6 x0 x1 x2 x3 x4 x5 x6 x7 x8 x9 x10; obtain ⟨x0, x1, x2, x3, x4, x5, x6, x7, x8, x9, x10⟩ := cellsX H6.out.blkX; (try dsimp only at x0 x1 x2 x3 x4 x5 x6 x7 x8 x9 x10); obtain ⟨t1, t8, f1, f8⟩ := cells9 HT6.out))
          obtain ⟨xx, hxx⟩ : ∃ xx : S39, xx = { x with f1 := kr } := ⟨_, rfl⟩
          obtain ⟨w7, hw7⟩ : ∃ w7, w7 = w6.setCell ⟨T, 1, none⟩ (.slice A9 kr.length c9) := ⟨_, rfl⟩
          rw [← hw7]
          have HT7 := Aside0.mk (show w7.heap[T]? = some (.cells (ten xx (.slice A9 kr.length c9) (.slice A8 x.f5.length c8)).toArray 39 (0, 0)) by rw [hw7, hxx]; exact blk_put HT6.out 1 _ rfl)
          have HB7 := Aside0.mk (show Below w.heap.size w w7 by rw [hw7]; exact below_set H6.out.below HTW.out)
          have HR7 := Aside0.mk (show k23.R 23 w7 w0.heap.size (fun _ => True) (.slice A9 kr.length c9) xx.f1 ∧ Kd.string.R 9 w7 w0.heap.size (fun _ => True) (.slice A8 x.f5.length c8) xx.f5 by rw [hw7, hxx]; exact ⟨Kd.R_set HV9.out HT6.out (by decide) 1 _, Kd.R_set HR6.out.2 HT6.out (by decide) 1 _⟩)
          have HXN := Aside0.mk (show xx.f0 = x.f0 by rw [hxx])
          rw [← hxx] at HD
          clear hw7 hxx t1 t8 f1 f8 x0 x1 x2 x3 x4 x5 x6 x7 x8 x9 x10
          obtain ⟨rb, lc9, W9, hz9, hs9, hth9, hr9, hc9⟩ := rset (W := w7.drew) HT.out (below_drew HB7.out) HS.out HX.out HXN.out (Kd.R_drew HR7.out.1) (Kd.R_drew HR7.out.2)
          have HST := Aside0.mk (And.intro hs9 (And.intro hth9 (And.intro hr9 hc9)))
          rw [← HN.out] at hz9
          have z9 := R_cells hz9
          obtain ⟨e0, e1, e2, e3, e4, e5, e6, e7, e8⟩ := cellsT HT7.out
          clear hz9 hs9 hth9 hr9 hc9
          refine start_ (n := 8) (S := fun w' => w'.cell? ⟨g, 0, none⟩ = some (.slice (some ⟨rb, 0, none⟩) n lc9) ∧ w'.cell? ⟨T, 0, none⟩ = some (.string xx.f0) ∧ w'.cell? ⟨T, 1, none⟩ = some (.slice A9 kr.length c9) ∧ w'.cell? ⟨T, 2, none⟩ = some (.int .i64 xx.f2.f0) ∧ w'.cell? ⟨T, 3, none⟩ = some (.int .i64 xx.f2.f1) ∧ w'.cell? ⟨T, 4, none⟩ = some (.int .i64 xx.f2.f2) ∧ w'.cell? ⟨T, 5, none⟩ = some (.int .i64 xx.f2.f3) ∧ w'.cell? ⟨T, 6, none⟩ = some (.int .i64 xx.f3) ∧ w'.cell? ⟨T, 7, none⟩ = some (.int .i64 xx.f4) ∧ w'.cell? ⟨T, 8, none⟩ = some (.slice A8 x.f5.length c8)) (ds := [7]) #[false, false, false, false, false, false, false, false] (by kernel_rfl) rfl rfl ⟨z9, e0, e1, e2, e3, e4, e5, e6, e7, e8⟩ (fun hHeld => ?_); refine with_tabW rdo.tab30 rdo.bits30 (fun HT_ HW_ => ?_)
          refine pure_ (i := 0) (N := some 100) (v := ?_) (a' := ?_) #[true, false, false, false, false, false, false, false] rfl rfl (any_of HT_.out (by kernel_rfl)) (fun _ _ _ h => h) (Or.inl ⟨by rfl, ?_⟩) ?_ ?_
          rotate_left
          · intro w'
            go_simp
            with_reducible rfl
          rotate_left
          · simp only [Act.put, List.setIfInBounds_toArray, List.set_cons_zero, List.set_cons_succ, i64_w, i32_w, xu32_w, xu8_w]
            rfl
          refine pure_ (i := 1) (N := some 101) (v := ?_) (a' := ?_) #[true, true, false, false, false, false, false, false] rfl rfl (any_of HT_.out (by kernel_rfl)) (fun _ _ _ h => h) (Or.inl ⟨by rfl, ?_⟩) ?_ ?_
          rotate_left
          · intro w'
            go_simp
            with_reducible rfl
          rotate_left
          · simp only [Act.put, List.setIfInBounds_toArray, List.set_cons_zero, List.set_cons_succ, i64_w, i32_w, xu32_w, xu8_w]
            rfl
          refine pure_ (i := 2) (N := some 102) (v := ?_) (a' := ?_) #[true, true, true, false, false, false, false, false] rfl rfl (any_of HT_.out (by kernel_rfl)) (fun _ _ _ h => h) (Or.inl ⟨by rfl, ?_⟩) ?_ ?_
          rotate_left
          · intro w'
            go_simp
            with_reducible rfl
          rotate_left
          · simp only [Act.put, List.setIfInBounds_toArray, List.set_cons_zero, List.set_cons_succ, i64_w, i32_w, xu32_w, xu8_w]
            rfl
          refine pure_ (i := 4) (N := some 104) (v := ?_) (a' := ?_) #[true, true, true, false, true, false, false, false] rfl rfl (any_of HT_.out (by kernel_rfl)) (fun _ _ _ h => h) (Or.inl ⟨by rfl, ?_⟩) ?_ ?_
          rotate_left
          · intro w'
            go_simp
            with_reducible rfl
          rotate_left
          · simp only [Act.put, List.setIfInBounds_toArray, List.set_cons_zero, List.set_cons_succ, i64_w, i32_w, xu32_w, xu8_w]
            rfl
          refine take_ (i := 3) (N := some 103) (v := ?_) (a' := ?_) #[true, true, true, true, true, false, false, false] rfl rfl (take_ofW HT_.out HW_.out (by kernel_rfl)) (fun _ _ _ h => h) (Or.inl ⟨by rfl, ?_⟩) hHeld ?_ ?_
          rotate_left
          · rintro w' ⟨s0, s1, s2, s3, s4, s5, s6, s7, s8, s9⟩
            go_simp
            with_reducible rfl
          rotate_left
          · simp only [Act.put, List.setIfInBounds_toArray, List.set_cons_zero, List.set_cons_succ, i64_w, i32_w, xu32_w, xu8_w]
            rfl
          refine take_ (i := 5) (N := some 105) (v := ?_) (a' := ?_) #[true, true, true, true, true, true, false, false] rfl rfl (take_ofW HT_.out HW_.out (by kernel_rfl)) (fun _ _ _ h => h) (Or.inl ⟨by rfl, ?_⟩) hHeld ?_ ?_
          rotate_left
          · rintro w' ⟨s0, s1, s2, s3, s4, s5, s6, s7, s8, s9⟩
            go_simp
            with_reducible rfl
          rotate_left
          · simp only [Act.put, List.setIfInBounds_toArray, List.set_cons_zero, List.set_cons_succ, i64_w, i32_w, xu32_w, xu8_w]
            rfl
          refine pure_ (i := 6) (N := some 106) (v := ?_) (a' := ?_) #[true, true, true, true, true, true, true, false] rfl rfl (any_of HT_.out (by kernel_rfl)) (fun _ _ _ h => h) (Or.inl ⟨by rfl, ?_⟩) ?_ ?_
          rotate_left
          · intro w'
            go_simp
            with_reducible rfl
          rotate_left
          · simp only [Act.put, List.setIfInBounds_toArray, List.set_cons_zero, List.set_cons_succ, i64_w, i32_w, xu32_w, xu8_w]
            rfl
          refine last_ (i := 7) (N := none) #[true, true, true, true, true, true, true, true] rfl rfl (one_of HT_.out (by kernel_rfl)) (by decide) (fun K hK => ?_)
          refine store_step (by rfl) rfl 39 (.tmp 106) (.tmp 105) rfl rb (i * 9) (ten xx (.slice A9 kr.length c9) (.slice A8 x.f5.length c8)).toArray rfl rfl HST.out.2.1 size39 (all_oneCell_toArray (ten_one _ rfl rfl)) ?_
          rw [show w7.drew.setCells rb (i * 9) (ten xx (.slice A9 kr.length c9) (.slice A8 x.f5.length c8)).toArray.toList = W9 from HST.out.1]
          refine hK.out _ _ ?_
          clear hK K
          refine done_ (done_of HT_.out (by kernel_rfl)) ?_
          clear hHeld HT_ HW_
          go_wp2_with (fail)
          go_ret
          rw [HD.out]
          exact ⟨rfl, HST.out.2.2.1, HST.out.2.2.2⟩
        · have HD := Aside0.mk (show doT st ⟨1, tn, k, lm, qu, ri, rdr⟩ = (5, st) by rw [hdo (by decide), hkl, if_neg h4]; rfl)
          have hdec : decide (kr.length ≤ 4) = false := decide_eq_false h4
          clear hdo hdz huk' hur' hkr hkl h4
          unfold chg
          go_enter Try.func24, Try.ntmps24
          go_wp2_with (first
            | ((with_reducible refine gate_dst (N := 3) rfl ?_); refine box_event ?hg (N := 3) ?hd (cs := (chg ⟨1, tn, k, lm, qu, ri, rdr⟩).toArray) (t := 27) ?hr ?_; (case hd => rfl); (case hg => rfl); (case hr => first | (go_simp; done) | (go_simp; rfl)); intro X hX w1 hx1 hb1; have H1 := Aside0.mk (show RdW w0 w g X st ⟨1, tn, k, lm, qu, ri, rdr⟩ w1 from ⟨HT.out.then_ hb1, hb1, hx1⟩); clear hX hx1 hb1)
            | ((with_reducible refine gate_ (.load 27 (.tmp 3)) rfl ?_); refine load_blk rfl 27 (.tmp 3) rfl X rfl (chg ⟨1, tn, k, lm, qu, ri, rdr⟩) H1.out.blkX _ Try.underlying27 rfl size27 ?_)
            | (go_at_call 12; (with_reducible refine (refright_calls ⟨1, tn, k, lm, qu, ri, rdr⟩ _).mono ?_); rintro e w2 ⟨rfl, hb2⟩; rw [← HRR.out]; have H2 := Aside0.mk (H1.out.then_ hb2); obtain ⟨x0, x1, x2, x3, x4, x5, x6, x7, x8, x9, x10⟩ := cellsX H2.out.blkX; (try dsimp only at x0 x1 x2 x3 x4 x5 x6 x7 x8 x9 x10); clear hb2)
            | (go_at_call 44; (with_reducible refine (at_calls H2.out.tab (by have := HF.out; omega) tn).mono ?_); rw [← HP.out]; rintro e w3 ⟨rfl, hb3⟩; have H3 := Aside0.mk (H2.out.then_ hb3); clear x0 x1 x2 x3 x4 x5 x6 x7 x8 x9 x10 hb3; obtain ⟨x0, x1, x2, x3, x4, x5, x6, x7, x8, x9, x10⟩ := cellsX H3.out.blkX; (try dsimp only at x0 x1 x2 x3 x4 x5 x6 x7 x8 x9 x10); obtain ⟨LA, lc, hz, hR⟩ := H3.out.tab.row; rw [← HN.out] at hz hR; have z0 := R_cells hz; obtain ⟨ad, A1, c1, A8, c8, hA, y0, y1, y2, y3, y4, y5, y6, y7, y8, hRR⟩ := lent39 hR HX.out; have HRW := Aside0.mk hRR; subst hA; clear hz hR hRR)
            | ((with_reducible refine gate_dst (N := 7) rfl ?_); refine box_event ?hg (N := 7) ?hd (cs := (ten z39 (.slice none 0 0) (.slice none 0 0)).toArray) (t := 39) ?hr ?_; (case hd => rfl); (case hg => rfl); (case hr => first | (go_simp; done) | (go_simp; rfl)); intro T hT w4 hx4 hb4; have HT4 := Aside0.mk hx4; have HB4 := Aside0.mk hb4; have HTG := Aside0.mk (show w3.heap.size ≤ T by omega); clear hT hx4 hb4)
            | ((with_reducible refine gate_ (.store 39 (.tmp 7) (.tmp 54)) rfl ?_); refine store_blk rfl 39 (.tmp 7) (.tmp 54) rfl T (ten z39 (.slice none 0 0) (.slice none 0 0)) (ten x (.slice A1 x.f1.length c1) (.slice A8 x.f5.length c8)) rfl rfl HT4.out rfl size39 (ten_one _ rfl rfl) ?_; intro w5 h5 hk5 hb5; have hbb := hb5 w3 HTG.out HB4.out; have H5 := Aside0.mk (H3.out.then_ hbb); have HT5 := Aside0.mk h5; have HR5 := Aside0.mk (And.intro (Kd.R_below HRW.out.1 hbb) (Kd.R_below HRW.out.2 hbb)); have HTW := Aside0.mk (Nat.le_trans H3.out.below.size HTG.out); clear z0 y0 y1 y2 y3 y4 y5 y6 y7 y8 x0 x1 x2 x3 x4 x5 x6 x7 x8 x9 x10; obtain ⟨x0, x1, x2, x3, x4, x5, x6, x7, x8, x9, x10⟩ := cellsX H5.out.blkX; (try dsimp only at x0 x1 x2 x3 x4 x5 x6 x7 x8 x9 x10); obtain ⟨t1, t8, f1, f8⟩ := cells9 h5; clear h5 hk5 hb5 hbb)
            | (go_at_call 46; (with_reducible refine (keysf_calls k (R_len HR5.out.1).1 rfl (R_len HR5.out.1).2 (by have := HFN.out.keys; omega)).mono ?_); rw [← HKR.out]; rintro e w6 ⟨v9, rfl, hv9, hb6⟩; have H6 := Aside0.mk (H5.out.then_ hb6); have HT6 := Aside0.mk ((hb6.block T (heap_lt HT5.out)).trans HT5.out); have HV9 := Aside0.mk (Kd.R_lower (base' := w0.heap.size) hv9 H5.out.tab.below.size); have HR6 := Aside0.mk (And.intro (Kd.R_below HR5.out.1 hb6) (Kd.R_below HR5.out.2 hb6)); obtain ⟨A9, c9, hvs⟩ := Kd.R_slice hv9; subst hvs; clear t1 t8 f1 f8 hv9 hb6 x0 x1 x2 x3 x4 x5 x6 x7 x8 x9 x10; obtain ⟨x0, x1, x2, x3, x4, x5, x6, x7, x8, x9, x10⟩ := cellsX H6.out.blkX; (try dsimp only at x0 x1 x2 x3 x4 x5 x6 x7 x8 x9 x10); obtain ⟨t1, t8, f1, f8⟩ := cells9 HT6.out))
          go_ret
          rw [HD.out]
          exact H6.out.same rfl rfl
      · obtain ⟨kr, hkr⟩ : ∃ kr, kr = x.f1.filter (fun y => decide (y.f0 ≠ k.f0)) := ⟨_, rfl⟩
        have HKR := Aside0.mk hkr
        have hkl : (changeT x ⟨2, tn, k, lm, qu, ri, rdr⟩) = if kr.length = x.f1.length then (181, x) else (0, { x with f1 := kr }) := by
          unfold changeT
          dsimp only
          rw [if_neg (by decide), if_pos rfl]
          cases hk : keyAt x.f1 k.f0 with
          | some j =>
            have e1 := less_some huk' hk
            rw [← hkr] at e1
            have hj := keyAt_lt hk
            have : ¬ kr.length = x.f1.length := by rw [e1, List.length_eraseIdx, if_pos hj]; omega
            rw [if_neg this, e1]
          | none =>
            have e1 := less_none hk
            rw [← hkr] at e1
            rw [if_pos (by rw [e1])]
        by_cases h4 : kr.length = x.f1.length
        · have HD := Aside0.mk (show doT st ⟨2, tn, k, lm, qu, ri, rdr⟩ = (181, st) by rw [hdo (by decide), hkl, if_pos h4]; rfl)
          have hdec : ((kr.length : Int) == (x.f1.length : Int)) = true := by simp [h4]
          clear hdo hdz huk' hur' hkr hkl h4
          unfold chg
          go_enter Try.func24, Try.ntmps24
          go_wp2_with (first
            | ((with_reducible refine gate_dst (N := 3) rfl ?_); refine box_event ?hg (N := 3) ?hd (cs := (chg ⟨2, tn, k, lm, qu, ri, rdr⟩).toArray) (t := 27) ?hr ?_; (case hd => rfl); (case hg => rfl); (case hr => first | (go_simp; done) | (go_simp; rfl)); intro X hX w1 hx1 hb1; have H1 := Aside0.mk (show RdW w0 w g X st ⟨2, tn, k, lm, qu, ri, rdr⟩ w1 from ⟨HT.out.then_ hb1, hb1, hx1⟩); clear hX hx1 hb1)
            | ((with_reducible refine gate_ (.load 27 (.tmp 3)) rfl ?_); refine load_blk rfl 27 (.tmp 3) rfl X rfl (chg ⟨2, tn, k, lm, qu, ri, rdr⟩) H1.out.blkX _ Try.underlying27 rfl size27 ?_)
            | (go_at_call 12; (with_reducible refine (refright_calls ⟨2, tn, k, lm, qu, ri, rdr⟩ _).mono ?_); rintro e w2 ⟨rfl, hb2⟩; rw [← HRR.out]; have H2 := Aside0.mk (H1.out.then_ hb2); obtain ⟨x0, x1, x2, x3, x4, x5, x6, x7, x8, x9, x10⟩ := cellsX H2.out.blkX; (try dsimp only at x0 x1 x2 x3 x4 x5 x6 x7 x8 x9 x10); clear hb2)
            | (go_at_call 44; (with_reducible refine (at_calls H2.out.tab (by have := HF.out; omega) tn).mono ?_); rw [← HP.out]; rintro e w3 ⟨rfl, hb3⟩; have H3 := Aside0.mk (H2.out.then_ hb3); clear x0 x1 x2 x3 x4 x5 x6 x7 x8 x9 x10 hb3; obtain ⟨x0, x1, x2, x3, x4, x5, x6, x7, x8, x9, x10⟩ := cellsX H3.out.blkX; (try dsimp only at x0 x1 x2 x3 x4 x5 x6 x7 x8 x9 x10); obtain ⟨LA, lc, hz, hR⟩ := H3.out.tab.row; rw [← HN.out] at hz hR; have z0 := R_cells hz; obtain ⟨ad, A1, c1, A8, c8, hA, y0, y1, y2, y3, y4, y5, y6, y7, y8, hRR⟩ := lent39 hR HX.out; have HRW := Aside0.mk hRR; subst hA; clear hz hR hRR)
            | ((with_reducible refine gate_dst (N := 7) rfl ?_); refine box_event ?hg (N := 7) ?hd (cs := (ten z39 (.slice none 0 0) (.slice none 0 0)).toArray) (t := 39) ?hr ?_; (case hd => rfl); (case hg => rfl); (case hr => first | (go_simp; done) | (go_simp; rfl)); intro T hT w4 hx4 hb4; have HT4 := Aside0.mk hx4; have HB4 := Aside0.mk hb4; have HTG := Aside0.mk (show w3.heap.size ≤ T by omega); clear hT hx4 hb4)
            | ((with_reducible refine gate_ (.store 39 (.tmp 7) (.tmp 54)) rfl ?_); refine store_blk rfl 39 (.tmp 7) (.tmp 54) rfl T (ten z39 (.slice none 0 0) (.slice none 0 0)) (ten x (.slice A1 x.f1.length c1) (.slice A8 x.f5.length c8)) rfl rfl HT4.out rfl size39 (ten_one _ rfl rfl) ?_; intro w5 h5 hk5 hb5; have hbb := hb5 w3 HTG.out HB4.out; have H5 := Aside0.mk (H3.out.then_ hbb); have HT5 := Aside0.mk h5; have HR5 := Aside0.mk (And.intro (Kd.R_below HRW.out.1 hbb) (Kd.R_below HRW.out.2 hbb)); have HTW := Aside0.mk (Nat.le_trans H3.out.below.size HTG.out); clear z0 y0 y1 y2 y3 y4 y5 y6 y7 y8 x0 x1 x2 x3 x4 x5 x6 x7 x8 x9 x10; obtain ⟨x0, x1, x2, x3, x4, x5, x6, x7, x8, x9, x10⟩ := cellsX H5.out.blkX; (try dsimp only at x0 x1 x2 x3 x4 x5 x6 x7 x8 x9 x10); obtain ⟨t1, t8, f1, f8⟩ := cells9 h5; clear h5 hk5 hb5 hbb)
            | (go_at_call 47; (with_reducible refine (less_calls k.f0 (R_len HR5.out.1).1 rfl (R_len HR5.out.1).2 (by have := HFN.out.keys; omega)).mono ?_); rw [← HKR.out]; rintro e w6 ⟨v9, rfl, hv9, hb6⟩; have H6 := Aside0.mk (H5.out.then_ hb6); have HT6 := Aside0.mk ((hb6.block T (heap_lt HT5.out)).trans HT5.out); have HV9 := Aside0.mk (Kd.R_lower (base' := w0.heap.size) hv9 H5.out.tab.below.size); have HR6 := Aside0.mk (And.intro (Kd.R_below HR5.out.1 hb6) (Kd.R_below HR5.out.2 hb6)); obtain ⟨A9, c9, hvs⟩ := Kd.R_slice hv9; subst hvs; clear t1 t8 f1 f8 hv9 hb6 x0 x1 x2 x3 x4 x5 x6 x7 x8 x9 x10; obtain ⟨x0, x1, x2, x3, x4, x5, x6, x7, x8, x9, x10⟩ := cellsX H6.out.blkX; (try dsimp only at x0 x1 x2 x3 x4 x5 x6 x7 x8 x9 x10); obtain ⟨t1, t8, f1, f8⟩ := cells9 HT6.out))
          go_ret
          rw [HD.out]
          exact H6.out.same rfl rfl
        · have HD := Aside0.mk (show doT st ⟨2, tn, k, lm, qu, ri, rdr⟩ = (0, put st { x with f1 := kr }) by rw [hdo (by decide), hkl, if_neg h4]; rfl)
          have hdec : ((kr.length : Int) == (x.f1.length : Int)) = false := by rw [beq_eq_false_iff_ne]; omega
          clear hdo hdz huk' hur' hkr hkl h4
          unfold chg
          go_enter Try.func24, Try.ntmps24
          go_wp2_with (first
            | ((with_reducible refine gate_dst (N := 3) rfl ?_); refine box_event ?hg (N := 3) ?hd (cs := (chg ⟨2, tn, k, lm, qu, ri, rdr⟩).toArray) (t := 27) ?hr ?_; (case hd => rfl); (case hg => rfl); (case hr => first | (go_simp; done) | (go_simp; rfl)); intro X hX w1 hx1 hb1; have H1 := Aside0.mk (show RdW w0 w g X st ⟨2, tn, k, lm, qu, ri, rdr⟩ w1 from ⟨HT.out.then_ hb1, hb1, hx1⟩); clear hX hx1 hb1)
            | ((with_reducible refine gate_ (.load 27 (.tmp 3)) rfl ?_); refine load_blk rfl 27 (.tmp 3) rfl X rfl (chg ⟨2, tn, k, lm, qu, ri, rdr⟩) H1.out.blkX _ Try.underlying27 rfl size27 ?_)
            | (go_at_call 12; (with_reducible refine (refright_calls ⟨2, tn, k, lm, qu, ri, rdr⟩ _).mono ?_); rintro e w2 ⟨rfl, hb2⟩; rw [← HRR.out]; have H2 := Aside0.mk (H1.out.then_ hb2); obtain ⟨x0, x1, x2, x3, x4, x5, x6, x7, x8, x9, x10⟩ := cellsX H2.out.blkX; (try dsimp only at x0 x1 x2 x3 x4 x5 x6 x7 x8 x9 x10); clear hb2)
            | (go_at_call 44; (with_reducible refine (at_calls H2.out.tab (by have := HF.out; omega) tn).mono ?_); rw [← HP.out]; rintro e w3 ⟨rfl, hb3⟩; have H3 := Aside0.mk (H2.out.then_ hb3); clear x0 x1 x2 x3 x4 x5 x6 x7 x8 x9 x10 hb3; obtain ⟨x0, x1, x2, x3, x4, x5, x6, x7, x8, x9, x10⟩ := cellsX H3.out.blkX; (try dsimp only at x0 x1 x2 x3 x4 x5 x6 x7 x8 x9 x10); obtain ⟨LA, lc, hz, hR⟩ := H3.out.tab.row; rw [← HN.out] at hz hR; have z0 := R_cells hz; obtain ⟨ad, A1, c1, A8, c8, hA, y0, y1, y2, y3, y4, y5, y6, y7, y8, hRR⟩ := lent39 hR HX.out; have HRW := Aside0.mk hRR; subst hA; clear hz hR hRR)
            | ((with_reducible refine gate_dst (N := 7) rfl ?_); refine box_event ?hg (N := 7) ?hd (cs := (ten z39 (.slice none 0 0) (.slice none 0 0)).toArray) (t := 39) ?hr ?_; (case hd => rfl); (case hg => rfl); (case hr => first | (go_simp; done) | (go_simp; rfl)); intro T hT w4 hx4 hb4; have HT4 := Aside0.mk hx4; have HB4 := Aside0.mk hb4; have HTG := Aside0.mk (show w3.heap.size ≤ T by omega); clear hT hx4 hb4)
            | ((with_reducible refine gate_ (.store 39 (.tmp 7) (.tmp 54)) rfl ?_); refine store_blk rfl 39 (.tmp 7) (.tmp 54) rfl T (ten z39 (.slice none 0 0) (.slice none 0 0)) (ten x (.slice A1 x.f1.length c1) (.slice A8 x.f5.length c8)) rfl rfl HT4.out rfl size39 (ten_one _ rfl rfl) ?_; intro w5 h5 hk5 hb5; have hbb := hb5 w3 HTG.out HB4.out; have H5 := Aside0.mk (H3.out.then_ hbb); have HT5 := Aside0.mk h5; have HR5 := Aside0.mk (And.intro (Kd.R_below HRW.out.1 hbb) (Kd.R_below HRW.out.2 hbb)); have HTW := Aside0.mk (Nat.le_trans H3.out.below.size HTG.out); clear z0 y0 y1 y2 y3 y4 y5 y6 y7 y8 x0 x1 x2 x3 x4 x5 x6 x7 x8 x9 x10; obtain ⟨x0, x1, x2, x3, x4, x5, x6, x7, x8, x9, x10⟩ := cellsX H5.out.blkX; (try dsimp only at x0 x1 x2 x3 x4 x5 x6 x7 x8 x9 x10); obtain ⟨t1, t8, f1, f8⟩ := cells9 h5; clear h5 hk5 hb5 hbb)
            | (go_at_call 47; (with_reducible refine (less_calls k.f0 (R_len HR5.out.1).1 rfl (R_len HR5.out.1).2 (by have := HFN.out.keys; omega)).mono ?_); rw [← HKR.out]; rintro e w6 ⟨v9, rfl, hv9, hb6⟩; have H6 := Aside0.mk (H5.out.then_ hb6); have HT6 := Aside0.mk ((hb6.block T (heap_lt HT5.out)).trans HT5.out); have HV9 := Aside0.mk (Kd.R_lower (base' := w0.heap.size) hv9 H5.out.tab.below.size); have HR6 := Aside0.mk (And.intro (Kd.R_below HR5.out.1 hb6) (Kd.R_below HR5.out.2 hb6)); obtain ⟨A9, c9, hvs⟩ := Kd.R_slice hv9; subst hvs; clear t1 t8 f1 f8 hv9 hb6 x0 x1 x2 x3 x4 x5 x6 x7 x8 x9 x10; obtain ⟨x0, x1, x2, x3, x4, x5, x6, x7, x8, x9, x10⟩ := cellsX H6.out.blkX; (try dsimp only at x0 x1 x2 x3 x4 x5 x6 x7 x8 x9 x10); obtain ⟨t1, t8, f1, f8⟩ := cells9 HT6.out))
          obtain ⟨xx, hxx⟩ : ∃ xx : S39, xx = { x with f1 := kr } := ⟨_, rfl⟩
          obtain ⟨w7, hw7⟩ : ∃ w7, w7 = w6.setCell ⟨T, 1, none⟩ (.slice A9 kr.length c9) := ⟨_, rfl⟩
          rw [← hw7]
          have HT7 := Aside0.mk (show w7.heap[T]? = some (.cells (ten xx (.slice A9 kr.length c9) (.slice A8 x.f5.length c8)).toArray 39 (0, 0)) by rw [hw7, hxx]; exact blk_put HT6.out 1 _ rfl)
          have HB7 := Aside0.mk (show Below w.heap.size w w7 by rw [hw7]; exact below_set H6.out.below HTW.out)
          have HR7 := Aside0.mk (show k23.R 23 w7 w0.heap.size (fun _ => True) (.slice A9 kr.length c9) xx.f1 ∧ Kd.string.R 9 w7 w0.heap.size (fun _ => True) (.slice A8 x.f5.length c8) xx.f5 by rw [hw7, hxx]; exact ⟨Kd.R_set HV9.out HT6.out (by decide) 1 _, Kd.R_set HR6.out.2 HT6.out (by decide) 1 _⟩)
          have HXN := Aside0.mk (show xx.f0 = x.f0 by rw [hxx])
          rw [← hxx] at HD
          clear hw7 hxx t1 t8 f1 f8 x0 x1 x2 x3 x4 x5 x6 x7 x8 x9 x10
          obtain ⟨rb, lc9, W9, hz9, hs9, hth9, hr9, hc9⟩ := rset (W := w7.drew) HT.out (below_drew HB7.out) HS.out HX.out HXN.out (Kd.R_drew HR7.out.1) (Kd.R_drew HR7.out.2)
          have HST := Aside0.mk (And.intro hs9 (And.intro hth9 (And.intro hr9 hc9)))
          rw [← HN.out] at hz9
          have z9 := R_cells hz9
          obtain ⟨e0, e1, e2, e3, e4, e5, e6, e7, e8⟩ := cellsT HT7.out
          clear hz9 hs9 hth9 hr9 hc9
          refine start_ (n := 8) (S := fun w' => w'.cell? ⟨g, 0, none⟩ = some (.slice (some ⟨rb, 0, none⟩) n lc9) ∧ w'.cell? ⟨T, 0, none⟩ = some (.string xx.f0) ∧ w'.cell? ⟨T, 1, none⟩ = some (.slice A9 kr.length c9) ∧ w'.cell? ⟨T, 2, none⟩ = some (.int .i64 xx.f2.f0) ∧ w'.cell? ⟨T, 3, none⟩ = some (.int .i64 xx.f2.f1) ∧ w'.cell? ⟨T, 4, none⟩ = some (.int .i64 xx.f2.f2) ∧ w'.cell? ⟨T, 5, none⟩ = some (.int .i64 xx.f2.f3) ∧ w'.cell? ⟨T, 6, none⟩ = some (.int .i64 xx.f3) ∧ w'.cell? ⟨T, 7, none⟩ = some (.int .i64 xx.f4) ∧ w'.cell? ⟨T, 8, none⟩ = some (.slice A8 x.f5.length c8)) (ds := [7]) #[false, false, false, false, false, false, false, false] (by kernel_rfl) rfl rfl ⟨z9, e0, e1, e2, e3, e4, e5, e6, e7, e8⟩ (fun hHeld => ?_); refine with_tabW rdo.tab30 rdo.bits30 (fun HT_ HW_ => ?_)
          refine pure_ (i := 0) (N := some 100) (v := ?_) (a' := ?_) #[true, false, false, false, false, false, false, false] rfl rfl (any_of HT_.out (by kernel_rfl)) (fun _ _ _ h => h) (Or.inl ⟨by rfl, ?_⟩) ?_ ?_
          rotate_left
          · intro w'
            go_simp
            with_reducible rfl
          rotate_left
          · simp only [Act.put, List.setIfInBounds_toArray, List.set_cons_zero, List.set_cons_succ, i64_w, i32_w, xu32_w, xu8_w]
            rfl
          refine pure_ (i := 1) (N := some 101) (v := ?_) (a' := ?_) #[true, true, false, false, false, false, false, false] rfl rfl (any_of HT_.out (by kernel_rfl)) (fun _ _ _ h => h) (Or.inl ⟨by rfl, ?_⟩) ?_ ?_
          rotate_left
          · intro w'
            go_simp
            with_reducible rfl
          rotate_left
          · simp only [Act.put, List.setIfInBounds_toArray, List.set_cons_zero, List.set_cons_succ, i64_w, i32_w, xu32_w, xu8_w]
            rfl
          refine pure_ (i := 2) (N := some 102) (v := ?_) (a' := ?_) #[true, true, true, false, false, false, false, false] rfl rfl (any_of HT_.out (by kernel_rfl)) (fun _ _ _ h => h) (Or.inl ⟨by rfl, ?_⟩) ?_ ?_
          rotate_left
          · intro w'
            go_simp
            with_reducible rfl
          rotate_left
          · simp only [Act.put, List.setIfInBounds_toArray, List.set_cons_zero, List.set_cons_succ, i64_w, i32_w, xu32_w, xu8_w]
            rfl
          refine pure_ (i := 4) (N := some 104) (v := ?_) (a' := ?_) #[true, true, true, false, true, false, false, false] rfl rfl (any_of HT_.out (by kernel_rfl)) (fun _ _ _ h => h) (Or.inl ⟨by rfl, ?_⟩) ?_ ?_
          rotate_left
          · intro w'
            go_simp
            with_reducible rfl
          rotate_left
          · simp only [Act.put, List.setIfInBounds_toArray, List.set_cons_zero, List.set_cons_succ, i64_w, i32_w, xu32_w, xu8_w]
            rfl
          refine take_ (i := 3) (N := some 103) (v := ?_) (a' := ?_) #[true, true, true, true, true, false, false, false] rfl rfl (take_ofW HT_.out HW_.out (by kernel_rfl)) (fun _ _ _ h => h) (Or.inl ⟨by rfl, ?_⟩) hHeld ?_ ?_
          rotate_left
          · rintro w' ⟨s0, s1, s2, s3, s4, s5, s6, s7, s8, s9⟩
            go_simp
            with_reducible rfl
          rotate_left
          · simp only [Act.put, List.setIfInBounds_toArray, List.set_cons_zero, List.set_cons_succ, i64_w, i32_w, xu32_w, xu8_w]
            rfl
          refine take_ (i := 5) (N := some 105) (v := ?_) (a' := ?_) #[true, true, true, true, true, true, false, false] rfl rfl (take_ofW HT_.out HW_.out (by kernel_rfl)) (fun _ _ _ h => h) (Or.inl ⟨by rfl, ?_⟩) hHeld ?_ ?_
          rotate_left
          · rintro w' ⟨s0, s1, s2, s3, s4, s5, s6, s7, s8, s9⟩
            go_simp
            with_reducible rfl
          rotate_left
          · simp only [Act.put, List.setIfInBounds_toArray, List.set_cons_zero, List.set_cons_succ, i64_w, i32_w, xu32_w, xu8_w]
            rfl
          refine pure_ (i := 6) (N := some 106) (v := ?_) (a' := ?_) #[true, true, true, true, true, true, true, false] rfl rfl (any_of HT_.out (by kernel_rfl)) (fun _ _ _ h => h) (Or.inl ⟨by rfl, ?_⟩) ?_ ?_
          rotate_left
          · intro w'
            go_simp
            with_reducible rfl
          rotate_left
          · simp only [Act.put, List.setIfInBounds_toArray, List.set_cons_zero, List.set_cons_succ, i64_w, i32_w, xu32_w, xu8_w]
            rfl
          refine last_ (i := 7) (N := none) #[true, true, true, true, true, true, true, true] rfl rfl (one_of HT_.out (by kernel_rfl)) (by decide) (fun K hK => ?_)
          refine store_step (by rfl) rfl 39 (.tmp 106) (.tmp 105) rfl rb (i * 9) (ten xx (.slice A9 kr.length c9) (.slice A8 x.f5.length c8)).toArray rfl rfl HST.out.2.1 size39 (all_oneCell_toArray (ten_one _ rfl rfl)) ?_
          rw [show w7.drew.setCells rb (i * 9) (ten xx (.slice A9 kr.length c9) (.slice A8 x.f5.length c8)).toArray.toList = W9 from HST.out.1]
          refine hK.out _ _ ?_
          clear hK K
          refine done_ (done_of HT_.out (by kernel_rfl)) ?_
          clear hHeld HT_ HW_
          go_wp2_with (fail)
          go_ret
          rw [HD.out]
          exact ⟨rfl, HST.out.2.2.1, HST.out.2.2.2⟩
      · have HD := Aside0.mk (show doT st ⟨3, tn, k, lm, qu, ri, rdr⟩ = (0, put st { x with f2 := lm }) by rw [hdo (by decide)]; rfl)
        clear hdo hdz huk' hur'
        unfold chg
        go_enter Try.func24, Try.ntmps24
        go_wp2_with (first
          | ((with_reducible refine gate_dst (N := 3) rfl ?_); refine box_event ?hg (N := 3) ?hd (cs := (chg ⟨3, tn, k, lm, qu, ri, rdr⟩).toArray) (t := 27) ?hr ?_; (case hd => rfl); (case hg => rfl); (case hr => first | (go_simp; done) | (go_simp; rfl)); intro X hX w1 hx1 hb1; have H1 := Aside0.mk (show RdW w0 w g X st ⟨3, tn, k, lm, qu, ri, rdr⟩ w1 from ⟨HT.out.then_ hb1, hb1, hx1⟩); clear hX hx1 hb1)
          | ((with_reducible refine gate_ (.load 27 (.tmp 3)) rfl ?_); refine load_blk rfl 27 (.tmp 3) rfl X rfl (chg ⟨3, tn, k, lm, qu, ri, rdr⟩) H1.out.blkX _ Try.underlying27 rfl size27 ?_)
          | (go_at_call 12; (with_reducible refine (refright_calls ⟨3, tn, k, lm, qu, ri, rdr⟩ _).mono ?_); rintro e w2 ⟨rfl, hb2⟩; rw [← HRR.out]; have H2 := Aside0.mk (H1.out.then_ hb2); obtain ⟨x0, x1, x2, x3, x4, x5, x6, x7, x8, x9, x10⟩ := cellsX H2.out.blkX; (try dsimp only at x0 x1 x2 x3 x4 x5 x6 x7 x8 x9 x10); clear hb2)
          | (go_at_call 44; (with_reducible refine (at_calls H2.out.tab (by have := HF.out; omega) tn).mono ?_); rw [← HP.out]; rintro e w3 ⟨rfl, hb3⟩; have H3 := Aside0.mk (H2.out.then_ hb3); clear x0 x1 x2 x3 x4 x5 x6 x7 x8 x9 x10 hb3; obtain ⟨x0, x1, x2, x3, x4, x5, x6, x7, x8, x9, x10⟩ := cellsX H3.out.blkX; (try dsimp only at x0 x1 x2 x3 x4 x5 x6 x7 x8 x9 x10); obtain ⟨LA, lc, hz, hR⟩ := H3.out.tab.row; rw [← HN.out] at hz hR; have z0 := R_cells hz; obtain ⟨ad, A1, c1, A8, c8, hA, y0, y1, y2, y3, y4, y5, y6, y7, y8, hRR⟩ := lent39 hR HX.out; have HRW := Aside0.mk hRR; subst hA; clear hz hR hRR)
          | ((with_reducible refine gate_dst (N := 7) rfl ?_); refine box_event ?hg (N := 7) ?hd (cs := (ten z39 (.slice none 0 0) (.slice none 0 0)).toArray) (t := 39) ?hr ?_; (case hd => rfl); (case hg => rfl); (case hr => first | (go_simp; done) | (go_simp; rfl)); intro T hT w4 hx4 hb4; have HT4 := Aside0.mk hx4; have HB4 := Aside0.mk hb4; have HTG := Aside0.mk (show w3.heap.size ≤ T by omega); clear hT hx4 hb4)
          | ((with_reducible refine gate_ (.store 39 (.tmp 7) (.tmp 54)) rfl ?_); refine store_blk rfl 39 (.tmp 7) (.tmp 54) rfl T (ten z39 (.slice none 0 0) (.slice none 0 0)) (ten x (.slice A1 x.f1.length c1) (.slice A8 x.f5.length c8)) rfl rfl HT4.out rfl size39 (ten_one _ rfl rfl) ?_; intro w5 h5 hk5 hb5; have hbb := hb5 w3 HTG.out HB4.out; have H5 := Aside0.mk (H3.out.then_ hbb); have HT5 := Aside0.mk h5; have HR5 := Aside0.mk (And.intro (Kd.R_below HRW.out.1 hbb) (Kd.R_below HRW.out.2 hbb)); have HTW := Aside0.mk (Nat.le_trans H3.out.below.size HTG.out); clear z0 y0 y1 y2 y3 y4 y5 y6 y7 y8 x0 x1 x2 x3 x4 x5 x6 x7 x8 x9 x10; obtain ⟨x0, x1, x2, x3, x4, x5, x6, x7, x8, x9, x10⟩ := cellsX H5.out.blkX; (try dsimp only at x0 x1 x2 x3 x4 x5 x6 x7 x8 x9 x10); obtain ⟨t1, t8, f1, f8⟩ := cells9 h5; clear h5 hk5 hb5 hbb)
          | ((with_reducible refine gate_ (.load 25 (.tmp 95)) rfl ?_); refine wpList_load_mid rfl 25 (.tmp 95) rfl X 4 rfl [.int .i64 lm.f0, .int .i64 lm.f1, .int .i64 lm.f2, .int .i64 lm.f3] _ (rangeX H5.out.blkX) Try.underlying25 rfl size25 ?_)
          | ((with_reducible refine gate_ (.store 25 (.tmp 97) (.tmp 96)) rfl ?_); refine wpList_store_mid rfl 25 (.tmp 97) (.tmp 96) rfl T 2 #[.int .i64 lm.f0, .int .i64 lm.f1, .int .i64 lm.f2, .int .i64 lm.f3] rfl rfl (there_B HT5.out) size25 (by simp [Value.oneCell']) ?_; have HLD := Aside0.mk (limits_done3 HT5.out H5.out.below HTW.out HR5.out.1 HR5.out.2 lm); obtain ⟨w7, hw7⟩ : ∃ w7, w5.setCells T 2 (#[.int .i64 lm.f0, .int .i64 lm.f1, .int .i64 lm.f2, .int .i64 lm.f3] : Array Value).toList = w7 := ⟨_, rfl⟩; rw [hw7] at HLD ⊢; clear hw7 t1 t8 f1 f8 x0 x1 x2 x3 x4 x5 x6 x7 x8 x9 x10))
        obtain ⟨xx, hxx⟩ : ∃ xx : S39, xx = { x with f2 := lm } := ⟨_, rfl⟩
        have h1 : x.f1.length = xx.f1.length := by rw [hxx]
        have h5 : x.f5.length = xx.f5.length := by rw [hxx]
        rw [← hxx] at HD
        have HXN := Aside0.mk (show xx.f0 = x.f0 by rw [hxx])
        have HT7 := Aside0.mk (show w7.heap[T]? = some (.cells (ten xx (.slice A1 x.f1.length c1) (.slice A8 x.f5.length c8)).toArray 39 (0, 0)) by rw [hxx]; exact HLD.out.1)
        have HR7 := Aside0.mk (show k23.R 23 w7 w0.heap.size (fun _ => True) (.slice A1 x.f1.length c1) xx.f1 ∧ Kd.string.R 9 w7 w0.heap.size (fun _ => True) (.slice A8 x.f5.length c8) xx.f5 by rw [hxx]; exact HLD.out.2.2)
        clear hxx h1 h5
        obtain ⟨rb, lc9, W9, hz9, hs9, hth9, hr9, hc9⟩ := rset (W := w7.drew) HT.out (below_drew HLD.out.2.1) HS.out HX.out HXN.out (Kd.R_drew HR7.out.1) (Kd.R_drew HR7.out.2)
        have HST := Aside0.mk (And.intro hs9 (And.intro hth9 (And.intro hr9 hc9)))
        rw [← HN.out] at hz9
        have z9 := R_cells hz9
        obtain ⟨e0, e1, e2, e3, e4, e5, e6, e7, e8⟩ := cellsT HT7.out
        clear hz9 hs9 hth9 hr9 hc9
        refine start_ (n := 8) (S := fun w' => w'.cell? ⟨g, 0, none⟩ = some (.slice (some ⟨rb, 0, none⟩) n lc9) ∧ w'.cell? ⟨T, 0, none⟩ = some (.string xx.f0) ∧ w'.cell? ⟨T, 1, none⟩ = some (.slice A1 x.f1.length c1) ∧ w'.cell? ⟨T, 2, none⟩ = some (.int .i64 xx.f2.f0) ∧ w'.cell? ⟨T, 3, none⟩ = some (.int .i64 xx.f2.f1) ∧ w'.cell? ⟨T, 4, none⟩ = some (.int .i64 xx.f2.f2) ∧ w'.cell? ⟨T, 5, none⟩ = some (.int .i64 xx.f2.f3) ∧ w'.cell? ⟨T, 6, none⟩ = some (.int .i64 xx.f3) ∧ w'.cell? ⟨T, 7, none⟩ = some (.int .i64 xx.f4) ∧ w'.cell? ⟨T, 8, none⟩ = some (.slice A8 x.f5.length c8)) (ds := [7]) #[false, false, false, false, false, false, false, false] (by kernel_rfl) rfl rfl ⟨z9, e0, e1, e2, e3, e4, e5, e6, e7, e8⟩ (fun hHeld => ?_); refine with_tabW rdo.tab30 rdo.bits30 (fun HT_ HW_ => ?_)
        refine pure_ (i := 0) (N := some 100) (v := ?_) (a' := ?_) #[true, false, false, false, false, false, false, false] rfl rfl (any_of HT_.out (by kernel_rfl)) (fun _ _ _ h => h) (Or.inl ⟨by rfl, ?_⟩) ?_ ?_
        rotate_left
        · intro w'
          go_simp
          with_reducible rfl
        rotate_left
        · simp only [Act.put, List.setIfInBounds_toArray, List.set_cons_zero, List.set_cons_succ, i64_w, i32_w, xu32_w, xu8_w]
          rfl
        refine pure_ (i := 1) (N := some 101) (v := ?_) (a' := ?_) #[true, true, false, false, false, false, false, false] rfl rfl (any_of HT_.out (by kernel_rfl)) (fun _ _ _ h => h) (Or.inl ⟨by rfl, ?_⟩) ?_ ?_
        rotate_left
        · intro w'
          go_simp
          with_reducible rfl
        rotate_left
        · simp only [Act.put, List.setIfInBounds_toArray, List.set_cons_zero, List.set_cons_succ, i64_w, i32_w, xu32_w, xu8_w]
          rfl
        refine pure_ (i := 2) (N := some 102) (v := ?_) (a' := ?_) #[true, true, true, false, false, false, false, false] rfl rfl (any_of HT_.out (by kernel_rfl)) (fun _ _ _ h => h) (Or.inl ⟨by rfl, ?_⟩) ?_ ?_
        rotate_left
        · intro w'
          go_simp
          with_reducible rfl
        rotate_left
        · simp only [Act.put, List.setIfInBounds_toArray, List.set_cons_zero, List.set_cons_succ, i64_w, i32_w, xu32_w, xu8_w]
          rfl
        refine pure_ (i := 4) (N := some 104) (v := ?_) (a' := ?_) #[true, true, true, false, true, false, false, false] rfl rfl (any_of HT_.out (by kernel_rfl)) (fun _ _ _ h => h) (Or.inl ⟨by rfl, ?_⟩) ?_ ?_
        rotate_left
        · intro w'
          go_simp
          with_reducible rfl
        rotate_left
        · simp only [Act.put, List.setIfInBounds_toArray, List.set_cons_zero, List.set_cons_succ, i64_w, i32_w, xu32_w, xu8_w]
          rfl
        refine take_ (i := 3) (N := some 103) (v := ?_) (a' := ?_) #[true, true, true, true, true, false, false, false] rfl rfl (take_ofW HT_.out HW_.out (by kernel_rfl)) (fun _ _ _ h => h) (Or.inl ⟨by rfl, ?_⟩) hHeld ?_ ?_
        rotate_left
        · rintro w' ⟨s0, s1, s2, s3, s4, s5, s6, s7, s8, s9⟩
          go_simp
          with_reducible rfl
        rotate_left
        · simp only [Act.put, List.setIfInBounds_toArray, List.set_cons_zero, List.set_cons_succ, i64_w, i32_w, xu32_w, xu8_w]
          rfl
        refine take_ (i := 5) (N := some 105) (v := ?_) (a' := ?_) #[true, true, true, true, true, true, false, false] rfl rfl (take_ofW HT_.out HW_.out (by kernel_rfl)) (fun _ _ _ h => h) (Or.inl ⟨by rfl, ?_⟩) hHeld ?_ ?_
        rotate_left
        · rintro w' ⟨s0, s1, s2, s3, s4, s5, s6, s7, s8, s9⟩
          go_simp
          with_reducible rfl
        rotate_left
        · simp only [Act.put, List.setIfInBounds_toArray, List.set_cons_zero, List.set_cons_succ, i64_w, i32_w, xu32_w, xu8_w]
          rfl
        refine pure_ (i := 6) (N := some 106) (v := ?_) (a' := ?_) #[true, true, true, true, true, true, true, false] rfl rfl (any_of HT_.out (by kernel_rfl)) (fun _ _ _ h => h) (Or.inl ⟨by rfl, ?_⟩) ?_ ?_
        rotate_left
        · intro w'
          go_simp
          with_reducible rfl
        rotate_left
        · simp only [Act.put, List.setIfInBounds_toArray, List.set_cons_zero, List.set_cons_succ, i64_w, i32_w, xu32_w, xu8_w]
          rfl
        refine last_ (i := 7) (N := none) #[true, true, true, true, true, true, true, true] rfl rfl (one_of HT_.out (by kernel_rfl)) (by decide) (fun K hK => ?_)
        refine store_step (by rfl) rfl 39 (.tmp 106) (.tmp 105) rfl rb (i * 9) (ten xx (.slice A1 x.f1.length c1) (.slice A8 x.f5.length c8)).toArray rfl rfl HST.out.2.1 size39 (all_oneCell_toArray (ten_one _ rfl rfl)) ?_
        rw [show w7.drew.setCells rb (i * 9) (ten xx (.slice A1 x.f1.length c1) (.slice A8 x.f5.length c8)).toArray.toList = W9 from HST.out.1]
        refine hK.out _ _ ?_
        clear hK K
        refine done_ (done_of HT_.out (by kernel_rfl)) ?_
        clear hHeld HT_ HW_
        go_wp2_with (fail)
        go_ret
        rw [HD.out]
        exact ⟨rfl, HST.out.2.2.1, HST.out.2.2.2⟩
      · obtain ⟨er, her⟩ : ∃ er, er = (changeT x ⟨d, tn, k, lm, qu, ri, rdr⟩).1 := ⟨_, rfl⟩
        obtain ⟨xx, hxx⟩ : ∃ xx, xx = (changeT x ⟨d, tn, k, lm, qu, ri, rdr⟩).2 := ⟨_, rfl⟩
        have HCH := Aside0.mk (And.intro her hxx)
        have HD45 := Aside0.mk hd45
        have HXN := Aside0.mk (show xx.f0 = x.f0 by rw [hxx]; exact change_name x _)
        have n0 : ¬ d = 0 := by omega
        have n1 : ¬ d = 1 := by omega
        have n2 : ¬ d = 2 := by omega
        have n3 : ¬ d = 3 := by omega
        have hdo' := hdo n0
        rw [← her, ← hxx] at hdo'
        clear hdo hdz hd45 her hxx huk' hur'
        by_cases he : er = 0
        · subst he
          have HD := Aside0.mk (show doT st ⟨d, tn, k, lm, qu, ri, rdr⟩ = (0, put st xx) by rw [hdo', if_pos rfl])
          clear hdo'
          unfold chg
          go_enter Try.func24, Try.ntmps24
          go_wp2_with (first
            | ((with_reducible refine gate_dst (N := 3) rfl ?_); refine box_event ?hg (N := 3) ?hd (cs := (chg ⟨d, tn, k, lm, qu, ri, rdr⟩).toArray) (t := 27) ?hr ?_; (case hd => rfl); (case hg => rfl); (case hr => first | (go_simp; done) | (go_simp; rfl)); intro X hX w1 hx1 hb1; have H1 := Aside0.mk (show RdW w0 w g X st ⟨d, tn, k, lm, qu, ri, rdr⟩ w1 from ⟨HT.out.then_ hb1, hb1, hx1⟩); clear hX hx1 hb1)
            | ((with_reducible refine gate_ (.load 27 (.tmp 3)) rfl ?_); first | (refine load_blk rfl 27 (.tmp 3) rfl X rfl (chg ⟨d, tn, k, lm, qu, ri, rdr⟩) H5.out.blkX _ Try.underlying27 rfl size27 ?_) | (refine load_blk rfl 27 (.tmp 3) rfl X rfl (chg ⟨d, tn, k, lm, qu, ri, rdr⟩) H1.out.blkX _ Try.underlying27 rfl size27 ?_))
            | (go_at_call 12; (with_reducible refine (refright_calls ⟨d, tn, k, lm, qu, ri, rdr⟩ _).mono ?_); rintro e w2 ⟨rfl, hb2⟩; rw [← HRR.out]; have H2 := Aside0.mk (H1.out.then_ hb2); obtain ⟨x0, x1, x2, x3, x4, x5, x6, x7, x8, x9, x10⟩ := cellsX H2.out.blkX; (try dsimp only at x0 x1 x2 x3 x4 x5 x6 x7 x8 x9 x10); clear hb2)
            | (go_at_call 44; (with_reducible refine (at_calls H2.out.tab (by have := HF.out; omega) tn).mono ?_); rw [← HP.out]; rintro e w3 ⟨rfl, hb3⟩; have H3 := Aside0.mk (H2.out.then_ hb3); clear x0 x1 x2 x3 x4 x5 x6 x7 x8 x9 x10 hb3; obtain ⟨x0, x1, x2, x3, x4, x5, x6, x7, x8, x9, x10⟩ := cellsX H3.out.blkX; (try dsimp only at x0 x1 x2 x3 x4 x5 x6 x7 x8 x9 x10); obtain ⟨LA, lc, hz, hR⟩ := H3.out.tab.row; rw [← HN.out] at hz hR; have z0 := R_cells hz; obtain ⟨ad, A1, c1, A8, c8, hA, y0, y1, y2, y3, y4, y5, y6, y7, y8, hRR⟩ := lent39 hR HX.out; have HRW := Aside0.mk hRR; subst hA; clear hz hR hRR)
            | ((with_reducible refine gate_dst (N := 7) rfl ?_); refine box_event ?hg (N := 7) ?hd (cs := (ten z39 (.slice none 0 0) (.slice none 0 0)).toArray) (t := 39) ?hr ?_; (case hd => rfl); (case hg => rfl); (case hr => first | (go_simp; done) | (go_simp; rfl)); intro T hT w4 hx4 hb4; have HT4 := Aside0.mk hx4; have HB4 := Aside0.mk hb4; have HTG := Aside0.mk (show w3.heap.size ≤ T by omega); clear hT hx4 hb4)
            | ((with_reducible refine gate_ (.store 39 (.tmp 7) (.tmp 54)) rfl ?_); refine store_blk rfl 39 (.tmp 7) (.tmp 54) rfl T (ten z39 (.slice none 0 0) (.slice none 0 0)) (ten x (.slice A1 x.f1.length c1) (.slice A8 x.f5.length c8)) rfl rfl HT4.out rfl size39 (ten_one _ rfl rfl) ?_; intro w5 h5 hk5 hb5; have hbb := hb5 w3 HTG.out HB4.out; have H5 := Aside0.mk (H3.out.then_ hbb); have HT5 := Aside0.mk h5; have HR5 := Aside0.mk (And.intro (Kd.R_below HRW.out.1 hbb) (Kd.R_below HRW.out.2 hbb)); have HTW := Aside0.mk (Nat.le_trans H3.out.below.size HTG.out); clear z0 y0 y1 y2 y3 y4 y5 y6 y7 y8 x0 x1 x2 x3 x4 x5 x6 x7 x8 x9 x10; obtain ⟨x0, x1, x2, x3, x4, x5, x6, x7, x8, x9, x10⟩ := cellsX H5.out.blkX; (try dsimp only at x0 x1 x2 x3 x4 x5 x6 x7 x8 x9 x10); obtain ⟨t1, t8, f1, f8⟩ := cells9 h5; clear h5 hk5 hb5 hbb)
            | ((with_reducible refine gate_ (.load 39 (.tmp 7)) rfl ?_); refine load_blk rfl 39 (.tmp 7) rfl T rfl (ten x (.slice A1 x.f1.length c1) (.slice A8 x.f5.length c8)) HT5.out _ Try.underlying39 rfl size39 ?_)
            | (go_at_call 48; (with_reducible refine (reader_calls H5.out.tab.below.size HR5.out.1 HR5.out.2 HU.out HFN.out.readers ⟨d, tn, k, lm, qu, ri, rdr⟩ HD45.out).mono ?_); unfold RdP; rw [← HCH.out.1, ← HCH.out.2]; rintro e w6 ⟨v1, v8, rfl, hrv, hb6⟩; have H6 := Aside0.mk (H5.out.then_ hb6); have HT6 := Aside0.mk ((hb6.block T (heap_lt HT5.out)).trans HT5.out); have HRV := Aside0.mk hrv; obtain ⟨V1, d1, hv1⟩ := Kd.R_slice hrv.1; obtain ⟨V8, d8, hv8⟩ := Kd.R_slice hrv.2; subst hv1; subst hv8; clear t1 t8 f1 f8 hrv hb6 x0 x1 x2 x3 x4 x5 x6 x7 x8 x9 x10)
            | ((with_reducible refine gate_ (.store 39 (.tmp 7) (.tmp 61)) rfl ?_); refine store_blk rfl 39 (.tmp 7) (.tmp 61) rfl T (ten x (.slice A1 x.f1.length c1) (.slice A8 x.f5.length c8)) (ten xx (.slice V1 xx.f1.length d1) (.slice V8 xx.f5.length d8)) rfl rfl HT6.out rfl size39 (ten_one _ rfl rfl) ?_; intro w7 h7 hk7 hb7; have HT7 := Aside0.mk h7; have HB7 := Aside0.mk (hb7 w HTW.out H6.out.below); have HR7 := Aside0.mk (And.intro (Kd.R_drop (Kd.R_step (Kd.R_types HRV.out.1 HT6.out (by decide)) (fun k hk _ => hk7 k hk.2))) (Kd.R_drop (Kd.R_step (Kd.R_types HRV.out.2 HT6.out (by decide)) (fun k hk _ => hk7 k hk.2)))); clear h7 hk7 hb7))
          obtain ⟨rb, lc9, W9, hz9, hs9, hth9, hr9, hc9⟩ := rset (W := w7.drew) HT.out (below_drew HB7.out) HS.out HX.out HXN.out (Kd.R_drew HR7.out.1) (Kd.R_drew HR7.out.2)
          have HST := Aside0.mk (And.intro hs9 (And.intro hth9 (And.intro hr9 hc9)))
          rw [← HN.out] at hz9
          have z9 := R_cells hz9
          obtain ⟨e0, e1, e2, e3, e4, e5, e6, e7, e8⟩ := cellsT HT7.out
          clear hz9 hs9 hth9 hr9 hc9
          refine start_ (n := 8) (S := fun w' => w'.cell? ⟨g, 0, none⟩ = some (.slice (some ⟨rb, 0, none⟩) n lc9) ∧ w'.cell? ⟨T, 0, none⟩ = some (.string xx.f0) ∧ w'.cell? ⟨T, 1, none⟩ = some (.slice V1 xx.f1.length d1) ∧ w'.cell? ⟨T, 2, none⟩ = some (.int .i64 xx.f2.f0) ∧ w'.cell? ⟨T, 3, none⟩ = some (.int .i64 xx.f2.f1) ∧ w'.cell? ⟨T, 4, none⟩ = some (.int .i64 xx.f2.f2) ∧ w'.cell? ⟨T, 5, none⟩ = some (.int .i64 xx.f2.f3) ∧ w'.cell? ⟨T, 6, none⟩ = some (.int .i64 xx.f3) ∧ w'.cell? ⟨T, 7, none⟩ = some (.int .i64 xx.f4) ∧ w'.cell? ⟨T, 8, none⟩ = some (.slice V8 xx.f5.length d8)) (ds := [7]) #[false, false, false, false, false, false, false, false] (by kernel_rfl) rfl rfl ⟨z9, e0, e1, e2, e3, e4, e5, e6, e7, e8⟩ (fun hHeld => ?_); refine with_tabW rdo.tab30 rdo.bits30 (fun HT_ HW_ => ?_)
          refine pure_ (i := 0) (N := some 100) (v := ?_) (a' := ?_) #[true, false, false, false, false, false, false, false] rfl rfl (any_of HT_.out (by kernel_rfl)) (fun _ _ _ h => h) (Or.inl ⟨by rfl, ?_⟩) ?_ ?_
          rotate_left
          · intro w'
            go_simp
            with_reducible rfl
          rotate_left
          · simp only [Act.put, List.setIfInBounds_toArray, List.set_cons_zero, List.set_cons_succ, i64_w, i32_w, xu32_w, xu8_w]
            rfl
          refine pure_ (i := 1) (N := some 101) (v := ?_) (a' := ?_) #[true, true, false, false, false, false, false, false] rfl rfl (any_of HT_.out (by kernel_rfl)) (fun _ _ _ h => h) (Or.inl ⟨by rfl, ?_⟩) ?_ ?_
          rotate_left
          · intro w'
            go_simp
            with_reducible rfl
          rotate_left
          · simp only [Act.put, List.setIfInBounds_toArray, List.set_cons_zero, List.set_cons_succ, i64_w, i32_w, xu32_w, xu8_w]
            rfl
          refine pure_ (i := 2) (N := some 102) (v := ?_) (a' := ?_) #[true, true, true, false, false, false, false, false] rfl rfl (any_of HT_.out (by kernel_rfl)) (fun _ _ _ h => h) (Or.inl ⟨by rfl, ?_⟩) ?_ ?_
          rotate_left
          · intro w'
            go_simp
            with_reducible rfl
          rotate_left
          · simp only [Act.put, List.setIfInBounds_toArray, List.set_cons_zero, List.set_cons_succ, i64_w, i32_w, xu32_w, xu8_w]
            rfl
          refine pure_ (i := 4) (N := some 104) (v := ?_) (a' := ?_) #[true, true, true, false, true, false, false, false] rfl rfl (any_of HT_.out (by kernel_rfl)) (fun _ _ _ h => h) (Or.inl ⟨by rfl, ?_⟩) ?_ ?_
          rotate_left
          · intro w'
            go_simp
            with_reducible rfl
          rotate_left
          · simp only [Act.put, List.setIfInBounds_toArray, List.set_cons_zero, List.set_cons_succ, i64_w, i32_w, xu32_w, xu8_w]
            rfl
          refine take_ (i := 3) (N := some 103) (v := ?_) (a' := ?_) #[true, true, true, true, true, false, false, false] rfl rfl (take_ofW HT_.out HW_.out (by kernel_rfl)) (fun _ _ _ h => h) (Or.inl ⟨by rfl, ?_⟩) hHeld ?_ ?_
          rotate_left
          · rintro w' ⟨s0, s1, s2, s3, s4, s5, s6, s7, s8, s9⟩
            go_simp
            with_reducible rfl
          rotate_left
          · simp only [Act.put, List.setIfInBounds_toArray, List.set_cons_zero, List.set_cons_succ, i64_w, i32_w, xu32_w, xu8_w]
            rfl
          refine take_ (i := 5) (N := some 105) (v := ?_) (a' := ?_) #[true, true, true, true, true, true, false, false] rfl rfl (take_ofW HT_.out HW_.out (by kernel_rfl)) (fun _ _ _ h => h) (Or.inl ⟨by rfl, ?_⟩) hHeld ?_ ?_
          rotate_left
          · rintro w' ⟨s0, s1, s2, s3, s4, s5, s6, s7, s8, s9⟩
            go_simp
            with_reducible rfl
          rotate_left
          · simp only [Act.put, List.setIfInBounds_toArray, List.set_cons_zero, List.set_cons_succ, i64_w, i32_w, xu32_w, xu8_w]
            rfl
          refine pure_ (i := 6) (N := some 106) (v := ?_) (a' := ?_) #[true, true, true, true, true, true, true, false] rfl rfl (any_of HT_.out (by kernel_rfl)) (fun _ _ _ h => h) (Or.inl ⟨by rfl, ?_⟩) ?_ ?_
          rotate_left
          · intro w'
            go_simp
            with_reducible rfl
          rotate_left
          · simp only [Act.put, List.setIfInBounds_toArray, List.set_cons_zero, List.set_cons_succ, i64_w, i32_w, xu32_w, xu8_w]
            rfl
          refine last_ (i := 7) (N := none) #[true, true, true, true, true, true, true, true] rfl rfl (one_of HT_.out (by kernel_rfl)) (by decide) (fun K hK => ?_)
          refine store_step (by rfl) rfl 39 (.tmp 106) (.tmp 105) rfl rb (i * 9) (ten xx (.slice V1 xx.f1.length d1) (.slice V8 xx.f5.length d8)).toArray rfl rfl HST.out.2.1 size39 (all_oneCell_toArray (ten_one _ rfl rfl)) ?_
          rw [show w7.drew.setCells rb (i * 9) (ten xx (.slice V1 xx.f1.length d1) (.slice V8 xx.f5.length d8)).toArray.toList = W9 from HST.out.1]
          refine hK.out _ _ ?_
          clear hK K
          refine done_ (done_of HT_.out (by kernel_rfl)) ?_
          clear hHeld HT_ HW_
          go_wp2_with (fail)
          go_ret
          rw [HD.out]
          exact ⟨rfl, HST.out.2.2.1, HST.out.2.2.2⟩
        · have HD := Aside0.mk (show doT st ⟨d, tn, k, lm, qu, ri, rdr⟩ = (er, st) by rw [hdo', if_neg he])
          have hne : (er == 0) = false := beq_false_of_ne he
          clear hdo' he
          unfold chg
          go_enter Try.func24, Try.ntmps24
          go_wp2_with (first
            | ((with_reducible refine gate_dst (N := 3) rfl ?_); refine box_event ?hg (N := 3) ?hd (cs := (chg ⟨d, tn, k, lm, qu, ri, rdr⟩).toArray) (t := 27) ?hr ?_; (case hd => rfl); (case hg => rfl); (case hr => first | (go_simp; done) | (go_simp; rfl)); intro X hX w1 hx1 hb1; have H1 := Aside0.mk (show RdW w0 w g X st ⟨d, tn, k, lm, qu, ri, rdr⟩ w1 from ⟨HT.out.then_ hb1, hb1, hx1⟩); clear hX hx1 hb1)
            | ((with_reducible refine gate_ (.load 27 (.tmp 3)) rfl ?_); first | (refine load_blk rfl 27 (.tmp 3) rfl X rfl (chg ⟨d, tn, k, lm, qu, ri, rdr⟩) H5.out.blkX _ Try.underlying27 rfl size27 ?_) | (refine load_blk rfl 27 (.tmp 3) rfl X rfl (chg ⟨d, tn, k, lm, qu, ri, rdr⟩) H1.out.blkX _ Try.underlying27 rfl size27 ?_))
            | (go_at_call 12; (with_reducible refine (refright_calls ⟨d, tn, k, lm, qu, ri, rdr⟩ _).mono ?_); rintro e w2 ⟨rfl, hb2⟩; rw [← HRR.out]; have H2 := Aside0.mk (H1.out.then_ hb2); obtain ⟨x0, x1, x2, x3, x4, x5, x6, x7, x8, x9, x10⟩ := cellsX H2.out.blkX; (try dsimp only at x0 x1 x2 x3 x4 x5 x6 x7 x8 x9 x10); clear hb2)
            | (go_at_call 44; (with_reducible refine (at_calls H2.out.tab (by have := HF.out; omega) tn).mono ?_); rw [← HP.out]; rintro e w3 ⟨rfl, hb3⟩; have H3 := Aside0.mk (H2.out.then_ hb3); clear x0 x1 x2 x3 x4 x5 x6 x7 x8 x9 x10 hb3; obtain ⟨x0, x1, x2, x3, x4, x5, x6, x7, x8, x9, x10⟩ := cellsX H3.out.blkX; (try dsimp only at x0 x1 x2 x3 x4 x5 x6 x7 x8 x9 x10); obtain ⟨LA, lc, hz, hR⟩ := H3.out.tab.row; rw [← HN.out] at hz hR; have z0 := R_cells hz; obtain ⟨ad, A1, c1, A8, c8, hA, y0, y1, y2, y3, y4, y5, y6, y7, y8, hRR⟩ := lent39 hR HX.out; have HRW := Aside0.mk hRR; subst hA; clear hz hR hRR)
            | ((with_reducible refine gate_dst (N := 7) rfl ?_); refine box_event ?hg (N := 7) ?hd (cs := (ten z39 (.slice none 0 0) (.slice none 0 0)).toArray) (t := 39) ?hr ?_; (case hd => rfl); (case hg => rfl); (case hr => first | (go_simp; done) | (go_simp; rfl)); intro T hT w4 hx4 hb4; have HT4 := Aside0.mk hx4; have HB4 := Aside0.mk hb4; have HTG := Aside0.mk (show w3.heap.size ≤ T by omega); clear hT hx4 hb4)
            | ((with_reducible refine gate_ (.store 39 (.tmp 7) (.tmp 54)) rfl ?_); refine store_blk rfl 39 (.tmp 7) (.tmp 54) rfl T (ten z39 (.slice none 0 0) (.slice none 0 0)) (ten x (.slice A1 x.f1.length c1) (.slice A8 x.f5.length c8)) rfl rfl HT4.out rfl size39 (ten_one _ rfl rfl) ?_; intro w5 h5 hk5 hb5; have hbb := hb5 w3 HTG.out HB4.out; have H5 := Aside0.mk (H3.out.then_ hbb); have HT5 := Aside0.mk h5; have HR5 := Aside0.mk (And.intro (Kd.R_below HRW.out.1 hbb) (Kd.R_below HRW.out.2 hbb)); have HTW := Aside0.mk (Nat.le_trans H3.out.below.size HTG.out); clear z0 y0 y1 y2 y3 y4 y5 y6 y7 y8 x0 x1 x2 x3 x4 x5 x6 x7 x8 x9 x10; obtain ⟨x0, x1, x2, x3, x4, x5, x6, x7, x8, x9, x10⟩ := cellsX H5.out.blkX; (try dsimp only at x0 x1 x2 x3 x4 x5 x6 x7 x8 x9 x10); obtain ⟨t1, t8, f1, f8⟩ := cells9 h5; clear h5 hk5 hb5 hbb)
            | ((with_reducible refine gate_ (.load 39 (.tmp 7)) rfl ?_); refine load_blk rfl 39 (.tmp 7) rfl T rfl (ten x (.slice A1 x.f1.length c1) (.slice A8 x.f5.length c8)) HT5.out _ Try.underlying39 rfl size39 ?_)
            | (go_at_call 48; (with_reducible refine (reader_calls H5.out.tab.below.size HR5.out.1 HR5.out.2 HU.out HFN.out.readers ⟨d, tn, k, lm, qu, ri, rdr⟩ HD45.out).mono ?_); unfold RdP; rw [← HCH.out.1, ← HCH.out.2]; rintro e w6 ⟨v1, v8, rfl, hrv, hb6⟩; have H6 := Aside0.mk (H5.out.then_ hb6); have HT6 := Aside0.mk ((hb6.block T (heap_lt HT5.out)).trans HT5.out); have HRV := Aside0.mk hrv; obtain ⟨V1, d1, hv1⟩ := Kd.R_slice hrv.1; obtain ⟨V8, d8, hv8⟩ := Kd.R_slice hrv.2; subst hv1; subst hv8; clear t1 t8 f1 f8 hrv hb6 x0 x1 x2 x3 x4 x5 x6 x7 x8 x9 x10)
            | ((with_reducible refine gate_ (.store 39 (.tmp 7) (.tmp 61)) rfl ?_); refine store_blk rfl 39 (.tmp 7) (.tmp 61) rfl T (ten x (.slice A1 x.f1.length c1) (.slice A8 x.f5.length c8)) (ten xx (.slice V1 xx.f1.length d1) (.slice V8 xx.f5.length d8)) rfl rfl HT6.out rfl size39 (ten_one _ rfl rfl) ?_; intro w7 h7 hk7 hb7; have HT7 := Aside0.mk h7; have HB7 := Aside0.mk (hb7 w HTW.out H6.out.below); have HR7 := Aside0.mk (And.intro (Kd.R_drop (Kd.R_step (Kd.R_types HRV.out.1 HT6.out (by decide)) (fun k hk _ => hk7 k hk.2))) (Kd.R_drop (Kd.R_step (Kd.R_types HRV.out.2 HT6.out (by decide)) (fun k hk _ => hk7 k hk.2)))); clear h7 hk7 hb7))
          go_ret
          rw [HD.out]
          exact ⟨rfl, HT.out.then_ HB7.out, Chg.of_below _ HB7.out⟩
  · have HD := Aside0.mk (show doT st c = (rr, st) by
      unfold doT
      rw [← HRR.out, if_neg h0])
    clear hrr h hf hfx hs huk hur hps hfx'
    obtain ⟨d, tn, k, lm, qu, ri, rdr⟩ := c
    unfold chg
    go_enter Try.func24, Try.ntmps24
    go_wp2_with (first
      | ((with_reducible refine gate_dst (N := 3) rfl ?_); refine box_event ?hg (N := 3) ?hd (cs := (chg ⟨d, tn, k, lm, qu, ri, rdr⟩).toArray) (t := 27) ?hr ?_; (case hd => rfl); (case hg => rfl); (case hr => first | (go_simp; done) | (go_simp; rfl)); intro X hX w1 hx1 hb1; have H1 := Aside0.mk (show RdW w0 w g X st ⟨d, tn, k, lm, qu, ri, rdr⟩ w1 from ⟨HT.out.then_ hb1, hb1, hx1⟩); clear hX hx1 hb1)
      | ((with_reducible refine gate_ (.load 27 (.tmp 3)) rfl ?_); refine load_blk rfl 27 (.tmp 3) rfl X rfl (chg ⟨d, tn, k, lm, qu, ri, rdr⟩) H1.out.blkX _ Try.underlying27 rfl size27 ?_)
      | (go_at_call 12; (with_reducible refine (refright_calls ⟨d, tn, k, lm, qu, ri, rdr⟩ _).mono ?_); rintro e w2 ⟨rfl, hb2⟩; rw [← HRR.out]; have H2 := Aside0.mk (H1.out.then_ hb2); clear hb2))
    go_ret
    rw [HD.out]
    exact H2.out.same rfl rfl
end Go.Proofs.Yticoaaddhhiglaa.T
