import Derived.Test.YticoaaddhhiglaaT21
/- The document's table by hand: what it is in memory; At, Get (mkT24.py). -/
namespace Go.Proofs.Yticoaaddhhiglaa.T
open Go.RowKit Go.Proofs.Yticoaaddhhiglaa.Q Go.Proofs.YticoaaddhhiglaaW.PrintWords Go.Proofs.YticoaaddhhiglaaW.PrintLast Go.Proofs.YticoaaddhhiglaaW.PrintMore
set_option linter.unusedVariables false
set_option linter.unusedSimpArgs false
/-- The document's table of block g. -/
structure RefT (w0 : World) (g : Nat) (st : St) (w : World) : Prop where
  row : ∃ A c, w.heap[g]? = some (.cells #[.slice A st.length c] 52 (0, 0)) ∧ k39.R 39 w w0.heap.size (fun _ => True) (.slice A st.length c) st
  below : Below w0.heap.size w0 w
  hg : w0.heap.size ≤ g
theorem RefT.sane {w0 w w' : World} {g : Nat} {st : St} (h : RefT w0 g st w) (hs : Sane w w') (hb : Below w0.heap.size w0 w') : RefT w0 g st w' := by
  obtain ⟨A, c, h1, h2⟩ := h.row
  exact ⟨⟨A, c, (hs _ _ _ _ h1).trans h1, R_sane h2 hs⟩, hb, h.hg⟩
theorem RefT.then_ {w0 w w' : World} {g : Nat} {st : St} (h : RefT w0 g st w) (hb : Below w.heap.size w w') : RefT w0 g st w' := h.sane (sane_below hb) (below_step h.below hb)
theorem lent39 {w : World} {B n c : Nat} {ok : Nat → Prop} {A : Option Addr} {st : St} (h : k39.R 39 w B ok (.slice A n c) st) {i : Nat} {x : S39} (hx : st[i]? = some x) :
    ∃ ad A1 c1 A8 c8, A = some ad ∧ w.cell? (ad.add (i * 9)) = some (.string x.f0) ∧ w.cell? ⟨(ad.add (i * 9)).block, (ad.add (i * 9)).off + 1, none⟩ = some (.slice A1 x.f1.length c1) ∧ w.cell? ⟨(ad.add (i * 9)).block, (ad.add (i * 9)).off + 2, none⟩ = some (.int .i64 x.f2.f0) ∧ w.cell? ⟨(ad.add (i * 9)).block, (ad.add (i * 9)).off + 3, none⟩ = some (.int .i64 x.f2.f1) ∧ w.cell? ⟨(ad.add (i * 9)).block, (ad.add (i * 9)).off + 4, none⟩ = some (.int .i64 x.f2.f2) ∧ w.cell? ⟨(ad.add (i * 9)).block, (ad.add (i * 9)).off + 5, none⟩ = some (.int .i64 x.f2.f3) ∧ w.cell? ⟨(ad.add (i * 9)).block, (ad.add (i * 9)).off + 6, none⟩ = some (.int .i64 x.f3) ∧ w.cell? ⟨(ad.add (i * 9)).block, (ad.add (i * 9)).off + 7, none⟩ = some (.int .i64 x.f4) ∧ w.cell? ⟨(ad.add (i * 9)).block, (ad.add (i * 9)).off + 8, none⟩ = some (.slice A8 x.f5.length c8) ∧
      (k23.R 23 w B ok (.slice A1 x.f1.length c1) x.f1 ∧ Kd.string.R 9 w B ok (.slice A8 x.f5.length c8) x.f5) := by
  have hi := (List.getElem?_eq_some_iff.1 hx).1
  obtain ⟨hn, _, hC⟩ := Kd.R_reads' h
  obtain ⟨ad, _, _, _, _, hA, _⟩ := at_T39 hC (i : Int) (by omega) (by omega)
  subst hA
  obtain ⟨cs, hcl, hM, hc⟩ := Kd.R_getA h z39 (i : Int) (by omega) (by omega)
  rw [Int.toNat_natCast] at hM hc
  have hx' : st.getD i z39 = x := by rw [List.getD_eq_getElem?_getD, hx]; rfl
  rw [hx'] at hM
  obtain ⟨v1, v8, rfl, hR1, hR8⟩ := k39_openM hM
  obtain ⟨A1, c1, hv1⟩ := Kd.R_slice hR1
  obtain ⟨A8, c8, hv8⟩ := Kd.R_slice hR8
  subst hv1; subst hv8
  exact ⟨ad, A1, c1, A8, c8, rfl, hc 0 _ rfl, by rw [← add_field _ _ 1 (by omega)]; exact hc 1 _ rfl, by rw [← add_field _ _ 2 (by omega)]; exact hc 2 _ rfl, by rw [← add_field _ _ 3 (by omega)]; exact hc 3 _ rfl, by rw [← add_field _ _ 4 (by omega)]; exact hc 4 _ rfl, by rw [← add_field _ _ 5 (by omega)]; exact hc 5 _ rfl, by rw [← add_field _ _ 6 (by omega)]; exact hc 6 _ rfl, by rw [← add_field _ _ 7 (by omega)]; exact hc 7 _ rfl, by rw [← add_field _ _ 8 (by omega)]; exact hc 8 _ rfl, Kd.R_mono hR1 (fun k hk => hk.1), Kd.R_mono hR8 (fun k hk => hk.1)⟩
/-- Where a tenant stands. -/
def atT (st : St) (s : ByteArray) : Option Nat := st.findIdx? (fun x => decide (x.f0 = s))
theorem atT_none : ∀ {st : St} {s : ByteArray}, atT st s = none → look st s = none
  | [], s, _ => rfl
  | y :: r, s, h => by
    unfold atT at h
    rw [List.findIdx?_cons] at h
    unfold look
    by_cases e : y.f0 = s
    · simp [e] at h
    · rw [if_neg e]
      simp only [e, decide_false, Bool.false_eq_true, if_false, Option.map_eq_none_iff] at h
      exact atT_none h
theorem atT_some : ∀ {st : St} {s : ByteArray} {i : Nat}, atT st s = some i → ∃ x, st[i]? = some x ∧ look st s = some x ∧ x.f0 = s
  | [], s, i, h => by simp [atT] at h
  | y :: r, s, i, h => by
    unfold atT at h
    rw [List.findIdx?_cons] at h
    unfold look
    by_cases e : y.f0 = s
    · simp only [e, decide_true, if_true, Option.some.injEq] at h
      subst h
      exact ⟨y, rfl, if_pos e, e⟩
    · simp only [e, decide_false, Bool.false_eq_true, if_false, Option.map_eq_some_iff] at h
      obtain ⟨j, hj, rfl⟩ := h
      obtain ⟨x, h1, h2, h3⟩ := atT_some (st := r) hj
      exact ⟨x, by simpa using h1, by rw [if_neg e]; exact h2, h3⟩
theorem R_cells {w : World} {g : Nat} {v : Value} (h : w.heap[g]? = some (.cells #[v] 52 (0, 0))) : w.cell? ⟨g, 0, none⟩ = some v := (blk_cell h 0).trans rfl
set_option maxHeartbeats 4000000 in
set_option maxRecDepth 100000 in
theorem at_calls {w0 w : World} {g : Nat} {st : St} (h : RefT w0 g st w) (hf : st.length ≤ 100) (s : ByteArray) : Calls Try.prog 44 #[.pointer (some ⟨g, 0, none⟩), .string s] w fun e w' => e = .returned (.int .i64 (posI (atT st s))) ∧ Below w.heap.size w w' := by
  obtain ⟨A, c, h1, h2⟩ := h.row
  obtain ⟨n, hn⟩ : ∃ n : Nat, n = st.length := ⟨_, rfl⟩
  rw [← hn] at h1 h2 hf
  have HR := Aside0.mk h2
  have HN := Aside0.mk (And.intro hn hf)
  have z0 := R_cells h1
  clear h h1 h2 hn hf
  go_enter Try.func44, Try.ntmps44
  go_wp2
  go_loopg [12] (n + 1) (fun kq v12 wr => ∃ (i : Nat), v12 = .int .i64 i ∧ Aside0 (kq + i = n + 1 ∧ i ≤ n) ∧ Aside0 (∀ (j : Nat) (y : S39), j < i → st[j]? = some y → ¬ y.f0 = s) ∧ Aside0 (Below w.heap.size w wr))
  case atStart => exact ⟨0, rfl, ⟨by omega⟩, ⟨fun j y hj => absurd hj (Nat.not_lt_zero _)⟩, ⟨Below.refl _ _⟩⟩
  case round =>
    obtain ⟨i, rfl, HK, HN2, HB⟩ := hrel
    cases gk with
    | zero => have := HK.out; omega
    | succ k1 =>
    by_cases hlt : i < n
    · have hi0 : (0 : Int) ≤ (i : Int) := by omega
      have hi1 : (i : Int) < (n : Int) := by omega
      obtain ⟨x, hx⟩ : ∃ x, st[i]? = some x := ⟨_, List.getElem?_eq_getElem (by have := HN.out.1; omega)⟩
      obtain ⟨ad, A1, c1, A8, c8, hA, x0, x1, x2, x3, x4, x5, x6, x7, x8, _⟩ := lent39 (Kd.R_below HR.out HB.out) hx
      have HX := Aside0.mk hx
      subst hA
      clear hlt hx
      by_cases e : x.f0 = s
      · have HRR := Aside0.mk (show (i : Int) = posI (atT st s) from Idx.pos (p := fun y : S39 => y.f0 = s) (.inl ⟨i, _, rfl, HX.out, e, HN2.out⟩))
        subst e
        go_wp2
        go_ret
        exact ⟨by rw [← HRR.out]; rfl, below_alloc HB.out _⟩
      · have hne : (x.f0.toList == s.toList) = false := beq_false_of_ne (str_beq e)
        have HNE := Aside0.mk (show ∀ (j : Nat) (y : S39), j < i + 1 → st[j]? = some y → ¬ y.f0 = s from fun j y hj hy => by
          rcases Nat.lt_or_ge j i with h | h
          · exact HN2.out j y h hy
          · have : j = i := by omega
            subst this
            rw [HX.out] at hy
            injection hy with hy
            subst hy
            exact e)
        clear e
        go_wp2
        go_roundg k1
        case measure => omega
        case rel => exact ⟨i + 1, by first | rfl | (simp; done) | (rw [wrap_id (n := (i : Int) + 1) (by omega) (by have := HN.out.2; omega)]; first | rfl | (simp; done)), ⟨by have := HK.out; omega⟩, HNE, ⟨below_alloc HB.out _⟩⟩
    · have hi : i = n := by have := HK.out; omega
      subst hi
      have HRR := Aside0.mk (show (-1 : Int) = posI (atT st s) from Idx.pos (p := fun y : S39 => y.f0 = s) (.inr ⟨rfl, fun y hy => by
        obtain ⟨j, hj, rfl⟩ := List.mem_iff_getElem.1 hy
        exact HN2.out j _ (by have := HN.out.1; omega) (List.getElem?_eq_getElem hj)⟩))
      clear hlt
      go_wp2
      go_ret
      exact ⟨by rw [← HRR.out]; rfl, HB.out⟩
/-- What Get hands out: the table's own rows. -/
def RGet (w : World) (st : St) (s : ByteArray) (B : Nat) (e : Ending) (w' : World) : Prop := ∃ A1 c1 A8 c8, e = .returned (.tuple #[.agg (ten (getX st s) (.slice A1 (getX st s).f1.length c1) (.slice A8 (getX st s).f5.length c8)).toArray, .bool (getB st s)]) ∧
    (k23.R 23 w' B (fun _ => True) (.slice A1 (getX st s).f1.length c1) (getX st s).f1 ∧ Kd.string.R 9 w' B (fun _ => True) (.slice A8 (getX st s).f5.length c8) (getX st s).f5) ∧ Below w.heap.size w w'
set_option maxHeartbeats 4000000 in
set_option maxRecDepth 100000 in
theorem rget_calls {w0 w : World} {g : Nat} {st : St} (h : RefT w0 g st w) (hf : st.length ≤ 100) (s : ByteArray) : Calls Try.prog 43 #[.pointer (some ⟨g, 0, none⟩), .string s] w (RGet w st s w0.heap.size) := by
  have HT := Aside0.mk h
  have HF := Aside0.mk hf
  clear h hf
  obtain ⟨ps, hps⟩ : ∃ ps, ps = posI (atT st s) := ⟨_, rfl⟩
  have HP := Aside0.mk hps
  cases hat : atT st s with
  | none =>
    have hl := atT_none hat
    rw [hat] at hps
    have hp : ps = -1 := hps
    subst hp
    have HL := Aside0.mk hl
    clear hps hat hl
    go_enter Try.func43, Try.ntmps43
    go_wp2_with (first
      | ((with_reducible refine gate_dst (N := 4) rfl ?_); refine box_event ?hg (N := 4) ?hd (cs := (ten z39 (.slice none 0 0) (.slice none 0 0)).toArray) (t := 39) ?hr ?_; (case hd => rfl); (case hg => rfl); (case hr => first | (go_simp; done) | (go_simp; rfl)); intro E hE w1 h1 hb1; have H1 := Aside0.mk h1; have HB1 := Aside0.mk hb1; have HEG := Aside0.mk (show w.heap.size ≤ E by omega); clear h1 hb1 hE)
      | (go_at_call 44; (with_reducible refine (at_calls (HT.out.then_ HB1.out) HF.out s).mono ?_); rw [← HP.out]; rintro e w2 ⟨rfl, hb⟩; have HB2 := Aside0.mk (below_step HB1.out hb); have H2 := Aside0.mk ((hb.block E (heap_lt H1.out)).trans H1.out); clear hb)
      | ((with_reducible refine gate_ (.store 39 (.tmp 4) (.tmp 12)) rfl ?_); refine store_blk rfl 39 (.tmp 4) (.tmp 12) rfl E (ten z39 (.slice none 0 0) (.slice none 0 0)) (ten z39 (.slice none 0 0) (.slice none 0 0)) rfl rfl H2.out rfl size39 nil_one ?_; intro w4 h4 hk4 hb4; have HB4 := Aside0.mk (hb4 w HEG.out HB2.out); have H4 := Aside0.mk h4; clear h4 hk4 hb4))
    ((try simp only [Exit.inBlock, Exit.then]); refine bodyPost_ret (results_ct rfl _ _ E _ rfl (run_loadVar_mid _ _ _ 39 _ _ (range_blk H4.out) Try.underlying39 rfl size39)) rfl ?_)
    unfold RGet getX getB
    rw [HL.out]
    exact ⟨none, 0, none, 0, rfl, ⟨Kd.R_nil _ _ _ _ _, Kd.R_nil _ _ _ _ _⟩, HB4.out⟩
  | some i =>
    obtain ⟨x, hx, hl, hxs⟩ := atT_some hat
    rw [hat] at hps
    have hp : ps = (i : Int) := hps
    subst hp
    have HL := Aside0.mk hl
    have HX := Aside0.mk hx
    have hi : i < st.length := (List.getElem?_eq_some_iff.1 hx).1
    obtain ⟨n, hn⟩ : ∃ n : Nat, n = st.length := ⟨_, rfl⟩
    have hi0 : (0 : Int) ≤ (i : Int) := by omega
    have hi1 : (i : Int) < (n : Int) := by omega
    have hi2 : ¬ (i : Int) < 0 := by omega
    have HN := Aside0.mk hn
    clear hps hat hl hx hxs hi hn
    go_enter Try.func43, Try.ntmps43
    go_wp2_with (first
      | ((with_reducible refine gate_dst (N := 4) rfl ?_); refine box_event ?hg (N := 4) ?hd (cs := (ten z39 (.slice none 0 0) (.slice none 0 0)).toArray) (t := 39) ?hr ?_; (case hd => rfl); (case hg => rfl); (case hr => first | (go_simp; done) | (go_simp; rfl)); intro E hE w1 h1 hb1; have H1 := Aside0.mk h1; have HB1 := Aside0.mk hb1; have HEG := Aside0.mk (show w.heap.size ≤ E by omega); clear h1 hb1 hE)
      | (go_at_call 44; (with_reducible refine (at_calls (HT.out.then_ HB1.out) HF.out s).mono ?_); rw [← HP.out]; rintro e w2 ⟨rfl, hb⟩; have HB2 := Aside0.mk (below_step HB1.out hb); have H2 := Aside0.mk ((hb.block E (heap_lt H1.out)).trans H1.out); obtain ⟨A, c, hz, hR⟩ := (HT.out.then_ HB2.out).row; rw [← HN.out] at hz hR; have z0 := R_cells hz; obtain ⟨ad, A1, c1, A8, c8, hA, x0, x1, x2, x3, x4, x5, x6, x7, x8, hR1, hR8⟩ := lent39 hR HX.out; have HRR := Aside0.mk (And.intro hR1 hR8); subst hA; clear hb hz hR hR1 hR8)
      | ((with_reducible refine gate_ (.store 39 (.tmp 4) (.tmp 19)) rfl ?_); refine store_blk rfl 39 (.tmp 4) (.tmp 19) rfl E (ten z39 (.slice none 0 0) (.slice none 0 0)) (ten x (.slice A1 x.f1.length c1) (.slice A8 x.f5.length c8)) rfl rfl H2.out rfl size39 (ten_one _ rfl rfl) ?_; intro w4 h4 hk4 hb4; have HB4 := Aside0.mk (hb4 w HEG.out HB2.out); have H4 := Aside0.mk h4; have HK4 := Aside0.mk hk4; clear h4 hk4 hb4 z0 x0 x1 x2 x3 x4 x5 x6 x7 x8))
    ((try simp only [Exit.inBlock, Exit.then]); refine bodyPost_ret (results_ct rfl _ _ E _ rfl (run_loadVar_mid _ _ _ 39 _ _ (range_blk H4.out) Try.underlying39 rfl size39)) rfl ?_)
    unfold RGet getX getB
    rw [HL.out]
    exact ⟨A1, c1, A8, c8, rfl, ⟨Kd.R_drop (Kd.R_step (Kd.R_types HRR.out.1 H2.out (by decide)) (fun k hk _ => HK4.out k hk.2)), Kd.R_drop (Kd.R_step (Kd.R_types HRR.out.2 H2.out (by decide)) (fun k hk _ => HK4.out k hk.2))⟩, HB4.out⟩
end Go.Proofs.Yticoaaddhhiglaa.T
/- The document's table by hand: Key, Reads, Names, Access, Keys (mkT25.py). -/
namespace Go.Proofs.Yticoaaddhhiglaa.T
open Go.RowKit Go.Proofs.Yticoaaddhhiglaa.Q Go.Proofs.YticoaaddhhiglaaW.PrintWords Go.Proofs.YticoaaddhhiglaaW.PrintLast Go.Proofs.YticoaaddhhiglaaW.PrintMore
set_option linter.unusedVariables false
set_option linter.unusedSimpArgs false
theorem getX_few {st : St} (hf : ∀ x ∈ st, Fine x) (s : ByteArray) : (getX st s).f1.length ≤ 4 ∧ (getX st s).f5.length ≤ 8 := by
  unfold getX
  cases hl : look st s with
  | none => exact ⟨by decide, by decide⟩
  | some x => exact ⟨(hf x (look_mem hl).1).keys, (hf x (look_mem hl).1).readers⟩
theorem R_len {α : Type} {d : Kd α} {e base : Nat} {ok : Nat → Prop} {w : World} {A : Option Addr} {n c : Nat} {xs : List α} (h : d.R e w base ok (.slice A n c) xs) : d.C w A n xs ∧ n ≤ c := by
  obtain ⟨h1, h2, h3⟩ := Kd.R_reads' h
  subst h1
  exact ⟨h3, h2⟩
set_option maxHeartbeats 4000000 in
set_option maxRecDepth 100000 in
theorem rreads_calls {w0 w : World} {g : Nat} {st : St} (h : RefT w0 g st w) (hf : st.length ≤ 100) (hfx : ∀ x ∈ st, Fine x) (who owner : ByteArray) : Calls Try.prog 26 #[.pointer (some ⟨g, 0, none⟩), .string who, .string owner] w fun e w' => e = .returned (.bool (readsT st who owner)) ∧ Below w.heap.size w w' := by
  have HT := Aside0.mk h
  have HF := Aside0.mk hf
  have HS := Aside0.mk (getX_few hfx owner)
  have HRD := Aside0.mk (show readsT st who owner = (getB st owner && (decide (who = owner) || decide (who ∈ (getX st owner).f5))) by unfold readsT getB getX; cases look st owner <;> rfl)
  clear h hf hfx
  obtain ⟨b0, hb0⟩ : ∃ b, b = getB st owner := ⟨_, rfl⟩
  obtain ⟨x, hx⟩ : ∃ x, x = getX st owner := ⟨_, rfl⟩
  rw [← hx] at HS
  rw [HRD.out, ← hb0, ← hx]
  obtain ⟨m, hm⟩ : ∃ m : Nat, m = x.f1.length := ⟨_, rfl⟩
  obtain ⟨n8, hn8⟩ : ∃ n : Nat, n = x.f5.length := ⟨_, rfl⟩
  have HX := Aside0.mk (And.intro hx (And.intro hm (And.intro hn8 hb0)))
  clear hx hm hn8 hb0 HRD
  have hcase : b0 = false ∨ (b0 = true ∧ who = owner) ∨ (b0 = true ∧ ¬ who = owner) := by cases b0 <;> by_cases e : who = owner <;> simp [e]
  rcases hcase with rfl | ⟨rfl, rfl⟩ | ⟨rfl, e⟩
  · go_enter Try.func26, Try.ntmps26
    go_wp2_with (first
      | (go_at_call 43; (with_reducible refine (rget_calls HT.out HF.out owner).mono ?_); unfold RGet; rw [← HX.out.1, ← HX.out.2.1, ← HX.out.2.2.1, ← HX.out.2.2.2]; rintro e w1 ⟨A1, c1, A8, c8, rfl, hr, hb⟩; have HB1 := Aside0.mk hb; have HR := Aside0.mk hr.2; clear hr hb)
      | ((with_reducible refine gate_dst (N := 7) rfl ?_); refine box_event ?hg (N := 7) ?hd (cs := (ten z39 (.slice none 0 0) (.slice none 0 0)).toArray) (t := 39) ?hr ?_; (case hd => rfl); (case hg => rfl); (case hr => first | (go_simp; done) | (go_simp; rfl)); intro E hE w2 h2 hb2; have H2 := Aside0.mk h2; have HB2 := Aside0.mk hb2; have HEG := Aside0.mk (show w1.heap.size ≤ E by omega); clear h2 hb2 hE)
      | ((with_reducible refine gate_ (.store 39 (.tmp 7) (.tmp 13)) rfl ?_); refine store_blk rfl 39 (.tmp 7) (.tmp 13) rfl E (ten z39 (.slice none 0 0) (.slice none 0 0)) (ten x (.slice A1 m c1) (.slice A8 n8 c8)) rfl rfl H2.out rfl size39 (ten_one _ rfl rfl) ?_; intro w3 h3 hk3 hb3; have HB3 := Aside0.mk (below_step HB1.out (hb3 w1 HEG.out HB2.out)); have HC := Aside0.mk (R_len (Kd.R_below HR.out (hb3 w1 HEG.out HB2.out))); obtain ⟨z1, z8, _, _⟩ := cells9 h3; clear h3 hk3 hb3))
    go_ret
    exact ⟨rfl, HB3.out⟩
  · go_enter Try.func26, Try.ntmps26
    go_wp2_with (first
      | (go_at_call 43; (with_reducible refine (rget_calls HT.out HF.out who).mono ?_); unfold RGet; rw [← HX.out.1, ← HX.out.2.1, ← HX.out.2.2.1, ← HX.out.2.2.2]; rintro e w1 ⟨A1, c1, A8, c8, rfl, hr, hb⟩; have HB1 := Aside0.mk hb; have HR := Aside0.mk hr.2; clear hr hb)
      | ((with_reducible refine gate_dst (N := 7) rfl ?_); refine box_event ?hg (N := 7) ?hd (cs := (ten z39 (.slice none 0 0) (.slice none 0 0)).toArray) (t := 39) ?hr ?_; (case hd => rfl); (case hg => rfl); (case hr => first | (go_simp; done) | (go_simp; rfl)); intro E hE w2 h2 hb2; have H2 := Aside0.mk h2; have HB2 := Aside0.mk hb2; have HEG := Aside0.mk (show w1.heap.size ≤ E by omega); clear h2 hb2 hE)
      | ((with_reducible refine gate_ (.store 39 (.tmp 7) (.tmp 13)) rfl ?_); refine store_blk rfl 39 (.tmp 7) (.tmp 13) rfl E (ten z39 (.slice none 0 0) (.slice none 0 0)) (ten x (.slice A1 m c1) (.slice A8 n8 c8)) rfl rfl H2.out rfl size39 (ten_one _ rfl rfl) ?_; intro w3 h3 hk3 hb3; have HB3 := Aside0.mk (below_step HB1.out (hb3 w1 HEG.out HB2.out)); have HC := Aside0.mk (R_len (Kd.R_below HR.out (hb3 w1 HEG.out HB2.out))); obtain ⟨z1, z8, _, _⟩ := cells9 h3; clear h3 hk3 hb3))
    go_ret
    exact ⟨by simp, HB3.out⟩
  · have hne : (who.toList == owner.toList) = false := beq_false_of_ne (str_beq e)
    have hd : decide (who = owner) = false := decide_eq_false e
    rw [hd, Bool.true_and, Bool.false_or]
    clear e hd
    go_enter Try.func26, Try.ntmps26
    go_wp2_with (first
      | (go_at_call 43; (with_reducible refine (rget_calls HT.out HF.out owner).mono ?_); unfold RGet; rw [← HX.out.1, ← HX.out.2.1, ← HX.out.2.2.1, ← HX.out.2.2.2]; rintro e w1 ⟨A1, c1, A8, c8, rfl, hr, hb⟩; have HB1 := Aside0.mk hb; have HR := Aside0.mk hr.2; clear hr hb)
      | ((with_reducible refine gate_dst (N := 7) rfl ?_); refine box_event ?hg (N := 7) ?hd (cs := (ten z39 (.slice none 0 0) (.slice none 0 0)).toArray) (t := 39) ?hr ?_; (case hd => rfl); (case hg => rfl); (case hr => first | (go_simp; done) | (go_simp; rfl)); intro E hE w2 h2 hb2; have H2 := Aside0.mk h2; have HB2 := Aside0.mk hb2; have HEG := Aside0.mk (show w1.heap.size ≤ E by omega); clear h2 hb2 hE)
      | ((with_reducible refine gate_ (.store 39 (.tmp 7) (.tmp 13)) rfl ?_); refine store_blk rfl 39 (.tmp 7) (.tmp 13) rfl E (ten z39 (.slice none 0 0) (.slice none 0 0)) (ten x (.slice A1 m c1) (.slice A8 n8 c8)) rfl rfl H2.out rfl size39 (ten_one _ rfl rfl) ?_; intro w3 h3 hk3 hb3; have HB3 := Aside0.mk (below_step HB1.out (hb3 w1 HEG.out HB2.out)); have HC := Aside0.mk (R_len (Kd.R_below HR.out (hb3 w1 HEG.out HB2.out))); obtain ⟨z1, z8, _, _⟩ := cells9 h3; clear h3 hk3 hb3)
      | (go_at_call 18; (with_reducible refine (In_calls who HC.out.1 HX.out.2.2.1 HC.out.2 (by have := HS.out.2; omega)).mono ?_); rintro e w4 ⟨rfl, hb⟩; have HB4 := Aside0.mk (below_step HB3.out hb); clear hb))
    go_ret
    exact ⟨rfl, HB4.out⟩
set_option maxHeartbeats 4000000 in
set_option maxRecDepth 100000 in
theorem rnames_calls {w0 w : World} {g : Nat} {st : St} (h : RefT w0 g st w) (hf : st.length ≤ 100) : Calls Try.prog 49 #[.pointer (some ⟨g, 0, none⟩)] w fun e w' => ∃ A c, e = .returned (.slice A (namesT st).length c) ∧ (Kd.string.C w' A (namesT st).length (namesT st) ∧ (namesT st).length ≤ c) ∧ Below w.heap.size w w' := by
  obtain ⟨A, c, h1, h2⟩ := h.row
  obtain ⟨n, hn⟩ : ∃ n : Nat, n = st.length := ⟨_, rfl⟩
  rw [← hn] at h1 h2 hf
  have HR := Aside0.mk h2
  have HN := Aside0.mk (And.intro hn hf)
  have z0 := R_cells h1
  clear h h1 h2 hn hf
  go_enter Try.func49, Try.ntmps49
  go_wp2
  go_loopg [3, 11] (n + 1) (fun kq v3 v11 wr => ∃ (i : Nat), v11 = .int .i64 i ∧ Aside0 (kq + i = n + 1 ∧ i ≤ n) ∧ Aside0 (Kd.string.R 9 wr w.heap.size (fun _ => True) v3 (namesT (st.take i))) ∧ Aside0 (Below w.heap.size w wr))
  case atStart => exact ⟨0, rfl, ⟨by omega⟩, ⟨Kd.R_nil _ _ _ _ _⟩, ⟨Below.refl _ _⟩⟩
  case round =>
    obtain ⟨i, rfl, HK, HO, HB⟩ := hrel
    cases gk with
    | zero => have := HK.out; omega
    | succ k1 =>
    by_cases hlt : i < n
    · have hi0 : (0 : Int) ≤ (i : Int) := by omega
      have hi1 : (i : Int) < (n : Int) := by omega
      have hil : i < st.length := by have := HN.out.1; omega
      obtain ⟨x, hx⟩ : ∃ x, st[i]? = some x := ⟨_, List.getElem?_eq_getElem hil⟩
      have HTK := Aside0.mk (show namesT (st.take (i + 1)) = namesT (st.take i) ++ [x.f0] by
        rw [List.take_add_one, hx]; simp [namesT])
      have HLN := Aside0.mk (show (namesT (st.take i)).length ≤ 100 by simp [namesT]; have := HN.out; omega)
      obtain ⟨ad, A1, c1, A8, c8, hA, x0, x1, x2, x3, x4, x5, x6, x7, x8, _⟩ := lent39 (Kd.R_below HR.out HB.out) hx
      subst hA
      clear hlt hx hil
      generalize namesT (st.take i) = OUT at *
      go_wp2_with (first
        | ((with_reducible refine gate_builtin (b := .append) (xs := #[.tmp 15, .tmp 18]) rfl ?_); at_builtin; refine Kd.R_append Kd.string (w0 := w) w.heap.size rfl (.tmp 15) (.tmp 18) 37 9 (.string ⟨#[]⟩) 16 rfl Try.underlying37 info9 rfl (by decide) (by omega) u3 OUT x.f0 [.string x.f0] (fun _ => True) (fun _ => False) rfl (by show Value.slice (some ⟨wr.heap.size + 1, 0, none⟩) 1 1 = _; simp) ?aP (fun _ hk => hk.elim) ?aF ?aO ?aB ?aS ?aL ?_; (case aP => exact rfl); (case aB => exact (by repeat (first | (with_reducible first | exact HB.out | apply below_alloc | apply pw_below_drewN | apply below_drew1) | exact HB.out))); (case aF => exact (fun _ _ => trivial)); (case aO => exact (by (with_reducible repeat (first | apply Kd.R_alloc | apply Kd.R_drewN | apply Kd.R_drew)); exact HO.out)); (case aS => exact (below_size (by repeat (first | (with_reducible first | exact HB.out | apply below_alloc | apply pw_below_drewN | apply below_drew1) | exact HB.out)))); (case aL => have := HLN.out; omega); intro v6 w6 ho hb hg hat; have HO6 := Aside0.mk ho; have HB6 := Aside0.mk hb; clear ho hb hg hat))
      go_roundg k1
      case measure => omega
      case rel => exact ⟨i + 1, by first | rfl | (simp; done) | (rw [wrap_id (n := (i : Int) + 1) (by omega) (by have := HN.out.2; omega)]; first | rfl | (simp; done)), ⟨by have := HK.out; omega⟩, ⟨by rw [HTK.out]; exact HO6.out⟩, HB6⟩
    · have hi : i = n := by have := HK.out; omega
      subst hi
      have htk : st.take i = st := List.take_of_length_le (by have := HN.out.1; omega)
      rw [htk] at HO
      obtain ⟨A9, c9, hv9⟩ := Kd.R_slice HO.out
      subst hv9
      have HR9 := Aside0.mk (Kd.R_reads' HO.out)
      clear HO htk hlt
      go_wp2_with (fail)
      go_ret
      exact ⟨A9, c9, rfl, ⟨HR9.out.2.2, HR9.out.2.1⟩, HB.out⟩
theorem access_take {st : St} (hs : Sorted st) (who : ByteArray) {i : Nat} {x : S39} (hx : st[i]? = some x) : (namesT (st.take (i + 1))).filter (fun o => readsT st who o) = (namesT (st.take i)).filter (fun o => readsT st who o) ++ (if readsT st who x.f0 then [x.f0] else []) := by
  rw [List.take_add_one, hx]
  simp only [namesT, Option.toList_some, List.map_append, List.map_cons, List.map_nil, List.filter_append]
  congr 1
  by_cases h : readsT st who x.f0 = true <;> simp [h]
set_option maxHeartbeats 4000000 in
set_option maxRecDepth 100000 in
theorem raccess_calls {w0 w : World} {g : Nat} {st : St} (h : RefT w0 g st w) (hf : st.length ≤ 100) (hfx : ∀ x ∈ st, Fine x) (hs : Sorted st) (who : ByteArray) : Calls Try.prog 52 #[.pointer (some ⟨g, 0, none⟩), .string who] w fun e w' => ∃ A c, e = .returned (.slice A (accessT st who).length c) ∧ (Kd.string.C w' A (accessT st who).length (accessT st who) ∧ (accessT st who).length ≤ c) ∧ Below w.heap.size w w' := by
  have HT := Aside0.mk h
  have HFX := Aside0.mk hfx
  have HSO := Aside0.mk hs
  obtain ⟨A, c, h1, h2⟩ := h.row
  obtain ⟨n, hn⟩ : ∃ n : Nat, n = st.length := ⟨_, rfl⟩
  rw [← hn] at h1 h2 hf
  have HR := Aside0.mk h2
  have HN := Aside0.mk (And.intro hn hf)
  have z0 := R_cells h1
  clear h h1 h2 hn hf hfx hs
  go_enter Try.func52, Try.ntmps52
  go_wp2
  go_loopg [5, 13] (n + 1) (fun kq v5 v13 wr => ∃ (i : Nat), v13 = .int .i64 i ∧ Aside0 (kq + i = n + 1 ∧ i ≤ n) ∧ Aside0 (Kd.string.R 9 wr w.heap.size (fun _ => True) v5 ((namesT (st.take i)).filter (fun o => readsT st who o))) ∧ Aside0 (Below w.heap.size w wr))
  case atStart => exact ⟨0, rfl, ⟨by omega⟩, ⟨Kd.R_nil _ _ _ _ _⟩, ⟨Below.refl _ _⟩⟩
  case round =>
    obtain ⟨i, rfl, HK, HO, HB⟩ := hrel
    cases gk with
    | zero => have := HK.out; omega
    | succ k1 =>
    by_cases hlt : i < n
    · have hi0 : (0 : Int) ≤ (i : Int) := by omega
      have hi1 : (i : Int) < (n : Int) := by omega
      have hil : i < st.length := by have := HN.out.1; omega
      obtain ⟨x, hx⟩ : ∃ x, st[i]? = some x := ⟨_, List.getElem?_eq_getElem hil⟩
      have HTK := Aside0.mk (access_take HSO.out who hx)
      have HLN := Aside0.mk (show ((namesT (st.take i)).filter (fun o => readsT st who o)).length ≤ 100 from Nat.le_trans (List.length_filter_le _ _) (by simp [namesT]; have := HN.out; omega))
      obtain ⟨ad, A1, c1, A8, c8, hA, x0, x1, x2, x3, x4, x5, x6, x7, x8, _⟩ := lent39 (Kd.R_below HR.out HB.out) hx
      subst hA
      clear hlt hx hil
      generalize (namesT (st.take i)).filter (fun o => readsT st who o) = OUT at *
      have HRD := Aside0.mk (fun (W : World) (hw : Below w.heap.size w W) => rreads_calls (HT.out.then_ hw) (by have := HN.out; omega) HFX.out who x.f0)
      cases hb : readsT st who x.f0 with
      | false =>
        rw [hb] at HRD HTK
        clear hb
        go_wp2_with (first
          | (go_at_call 26; (with_reducible refine (HRD.out _ (below_alloc HB.out _)).mono ?_); rintro e w2 ⟨rfl, hb⟩; have HB2 := Aside0.mk (below_step (below_alloc HB.out _) hb); have HO2 := Aside0.mk (Kd.R_below (Kd.R_alloc HO.out _) hb); clear hb))
        go_roundg k1
        case measure => omega
        case rel => exact ⟨i + 1, by first | rfl | (simp; done) | (rw [wrap_id (n := (i : Int) + 1) (by omega) (by have := HN.out.2; omega)]; first | rfl | (simp; done)), ⟨by have := HK.out; omega⟩, ⟨by rw [HTK.out]; simpa using HO2.out⟩, HB2⟩
      | true =>
        rw [hb] at HRD HTK
        clear hb
        go_wp2_with (first
          | (go_at_call 26; (with_reducible refine (HRD.out _ (below_alloc HB.out _)).mono ?_); rintro e w2 ⟨rfl, hb⟩; have HB2 := Aside0.mk (below_step (below_alloc HB.out _) hb); have HO2 := Aside0.mk (Kd.R_below (Kd.R_alloc HO.out _) hb); have y0 := pw_cell_below hb ((blk_cell (heap_alloc_new wr (.cells #[.string x.f0, .slice A1 x.f1.length c1, .int .i64 x.f2.f0, .int .i64 x.f2.f1, .int .i64 x.f2.f2, .int .i64 x.f2.f3, .int .i64 x.f3, .int .i64 x.f4, .slice A8 x.f5.length c8] 39)) 0).trans rfl); clear hb)
          | ((with_reducible refine gate_builtin (b := .append) (xs := #[.tmp 22, .tmp 25]) rfl ?_); at_builtin; refine Kd.R_append Kd.string (w0 := w) w.heap.size rfl (.tmp 22) (.tmp 25) 37 9 (.string ⟨#[]⟩) 16 rfl Try.underlying37 info9 rfl (by decide) (by omega) u5 OUT x.f0 [.string x.f0] (fun _ => True) (fun _ => False) rfl rfl ?aP (fun _ hk => hk.elim) ?aF ?aO ?aB ?aS ?aL ?_; (case aP => exact rfl); (case aB => exact (by repeat (first | (with_reducible first | exact HB2.out | apply below_alloc | apply pw_below_drewN | apply below_drew1) | exact HB2.out))); (case aF => exact (fun _ _ => trivial)); (case aO => exact (by (with_reducible repeat (first | apply Kd.R_alloc | apply Kd.R_drewN | apply Kd.R_drew)); exact HO2.out)); (case aS => exact (below_size (by repeat (first | (with_reducible first | exact HB2.out | apply below_alloc | apply pw_below_drewN | apply below_drew1) | exact HB2.out)))); (case aL => have := HLN.out; omega); intro v6 w6 ho hb hg hat; have HO6 := Aside0.mk ho; have HB6 := Aside0.mk hb; clear ho hb hg hat))
        go_roundg k1
        case measure => omega
        case rel => exact ⟨i + 1, by first | rfl | (simp; done) | (rw [wrap_id (n := (i : Int) + 1) (by omega) (by have := HN.out.2; omega)]; first | rfl | (simp; done)), ⟨by have := HK.out; omega⟩, ⟨by rw [HTK.out]; simpa using HO6.out⟩, HB6⟩
    · have hi : i = n := by have := HK.out; omega
      subst hi
      have htk : st.take i = st := List.take_of_length_le (by have := HN.out.1; omega)
      rw [htk] at HO
      have HO' := Aside0.mk (show Kd.string.R 9 wr w.heap.size (fun _ => True) u5 (accessT st who) from HO.out)
      obtain ⟨A9, c9, hv9⟩ := Kd.R_slice HO'.out
      subst hv9
      have HR9 := Aside0.mk (Kd.R_reads' HO'.out)
      clear HO HO' htk hlt
      go_wp2_with (fail)
      go_ret
      exact ⟨A9, c9, rfl, ⟨HR9.out.2.2, HR9.out.2.1⟩, HB.out⟩
end Go.Proofs.Yticoaaddhhiglaa.T
/- The document's table by hand: Keys; keys, less, without (mkT26.py). -/
namespace Go.Proofs.Yticoaaddhhiglaa.T
open Go.RowKit Go.Proofs.Yticoaaddhhiglaa.Q Go.Proofs.YticoaaddhhiglaaW.PrintWords Go.Proofs.YticoaaddhhiglaaW.PrintLast Go.Proofs.YticoaaddhhiglaaW.PrintMore
set_option linter.unusedVariables false
set_option linter.unusedSimpArgs false
def own1 (x : S39) : List S82 := x.f1.map (fun k => ⟨x.f0, k⟩)
theorem keysT_own {st : St} (hs : Sorted st) : keysT st = st.flatMap own1 := by
  unfold keysT namesT
  rw [List.flatMap_map, List.flatMap_def, List.flatMap_def]
  congr 1
  refine List.map_congr_left (fun x hx => ?_)
  unfold ownT own1
  rw [look_of_mem hs hx]
  rfl
theorem less_l0 (l : List S23) (id : Int) (hl : l.length ≤ 1000) : ∀ (d i k : Nat) (o : List S23), i + d = l.length → d < k → o.length ≤ i → manometerref18_less.l0 k id o l (l.length : Int) (i : Int) = some (o ++ (l.drop i).filter (fun y => decide (y.f0 ≠ id)))
  | 0, i, k + 1, o, h, _, _ => by
    rw [manometerref18_less.l0, if_neg (by omega), List.drop_of_length_le (by omega)]
    simp
  | d + 1, i, k + 1, o, h, hk, ho => by
    have hil : i < l.length := by omega
    have hrd : rd_T23 l (i : Int) = l[i] := by
      unfold rd_T23
      rw [Int.toNat_natCast, List.getD_eq_getElem?_getD, List.getElem?_eq_getElem hil]
      rfl
    have hd : l.drop i = l[i] :: l.drop (i + 1) := List.drop_eq_getElem_cons hil
    rw [manometerref18_less.l0, if_pos (by omega), if_pos (by omega), if_pos (by omega), hrd, hd, show wrap64 ((i : Int) + 1) = ((i + 1 : Nat) : Int) by unfold wrap64; omega]
    by_cases e : l[i].f0 = id
    · rw [if_pos e, less_l0 l id hl d (i + 1) k o (by omega) (by omega) (by omega), List.filter_cons_of_neg (by simp [e])]
    · rw [if_neg e, if_pos (by omega), less_l0 l id hl d (i + 1) k _ (by omega) (by omega) (by simp; omega), List.filter_cons_of_pos (by simp [e])]
      simp
theorem less_f (l : List S23) (id : Int) (hl : l.length ≤ 1000) {k : Nat} (hk : l.length < k) : manometerref18_less.f k l id = some (l.filter (fun y => decide (y.f0 ≠ id))) := by
  unfold manometerref18_less.f
  have := less_l0 l id hl l.length 0 k [] (by omega) hk (by simp)
  simpa using this
theorem without_l0 (l : List ByteArray) (s : ByteArray) (hl : l.length ≤ 1000) : ∀ (d i k : Nat) (o : List ByteArray), i + d = l.length → d < k → o.length ≤ i → manometerref18_without.l0 k s o l (l.length : Int) (i : Int) = some (o ++ (l.drop i).filter (fun y => decide (y ≠ s)))
  | 0, i, k + 1, o, h, _, _ => by
    rw [manometerref18_without.l0, if_neg (by omega), List.drop_of_length_le (by omega)]
    simp
  | d + 1, i, k + 1, o, h, hk, ho => by
    have hil : i < l.length := by omega
    have hrd : rdOf ByteArray.empty l (i : Int) = l[i] := by
      unfold rdOf
      rw [Int.toNat_natCast, List.getD_eq_getElem?_getD, List.getElem?_eq_getElem hil]
      rfl
    have hd : l.drop i = l[i] :: l.drop (i + 1) := List.drop_eq_getElem_cons hil
    rw [manometerref18_without.l0, if_pos (by omega), if_pos (by omega), if_pos (by omega), hrd, hd, show wrap64 ((i : Int) + 1) = ((i + 1 : Nat) : Int) by unfold wrap64; omega]
    by_cases e : l[i] = s
    · rw [if_pos (str_iff.2 e), without_l0 l s hl d (i + 1) k o (by omega) (by omega) (by omega), List.filter_cons_of_neg (by simp [e])]
    · rw [if_neg (fun h => e (str_iff.1 h)), if_pos (by omega), without_l0 l s hl d (i + 1) k _ (by omega) (by omega) (by simp; omega), List.filter_cons_of_pos (by simp [e])]
      simp
theorem without_f (l : List ByteArray) (s : ByteArray) (hl : l.length ≤ 1000) {k : Nat} (hk : l.length < k) : manometerref18_without.f k l s = some (l.filter (fun y => decide (y ≠ s))) := by
  unfold manometerref18_without.f
  have := without_l0 l s hl l.length 0 k [] (by omega) hk (by simp)
  simpa using this
theorem less_calls {w : World} {A : Option Addr} {n c : Nat} {l : List S23} (id : Int) (hC : k23.C w A n l) (hn : n = l.length) (hc : n ≤ c) (hl : l.length ≤ 1000) : Calls Try.prog 47 #[.slice A n c, .int .i64 id] w fun e w' => ∃ v, e = .returned v ∧ k23.R 23 w' w.heap.size (fun _ => True) v (l.filter (fun y => decide (y.f0 ≠ id))) ∧ Below w.heap.size w w' := by
  subst hn
  exact manometerref18_less.calls (l.length + 1) A c l id _ w hC hc (less_f l id hl (by omega))
theorem without_calls {w : World} {A : Option Addr} {n c : Nat} {l : List ByteArray} (s : ByteArray) (hC : Kd.string.C w A n l) (hn : n = l.length) (hc : n ≤ c) (hl : l.length ≤ 1000) : Calls Try.prog 64 #[.slice A n c, .string s] w fun e w' => ∃ v, e = .returned v ∧ Kd.string.R 9 w' w.heap.size (fun _ => True) v (l.filter (fun y => decide (y ≠ s))) ∧ Below w.heap.size w w' := by
  subst hn
  exact manometerref18_without.calls (l.length + 1) A c l s _ w hC hc (without_f l s hl (by omega))
theorem lent39w {w : World} {B n c : Nat} {ok : Nat → Prop} {A : Option Addr} {st : St} (h : k39.R 39 w B ok (.slice A n c) st) {i : Nat} {x : S39} (hx : st[i]? = some x) :
    ∃ ad A1 c1 A8 c8, A = some ad ∧ (∀ w', Below w.heap.size w w' → w'.cell? (ad.add (i * 9)) = some (.string x.f0) ∧ w'.cell? ⟨(ad.add (i * 9)).block, (ad.add (i * 9)).off + 1, none⟩ = some (.slice A1 x.f1.length c1) ∧ w'.cell? ⟨(ad.add (i * 9)).block, (ad.add (i * 9)).off + 2, none⟩ = some (.int .i64 x.f2.f0) ∧ w'.cell? ⟨(ad.add (i * 9)).block, (ad.add (i * 9)).off + 3, none⟩ = some (.int .i64 x.f2.f1) ∧ w'.cell? ⟨(ad.add (i * 9)).block, (ad.add (i * 9)).off + 4, none⟩ = some (.int .i64 x.f2.f2) ∧ w'.cell? ⟨(ad.add (i * 9)).block, (ad.add (i * 9)).off + 5, none⟩ = some (.int .i64 x.f2.f3) ∧ w'.cell? ⟨(ad.add (i * 9)).block, (ad.add (i * 9)).off + 6, none⟩ = some (.int .i64 x.f3) ∧ w'.cell? ⟨(ad.add (i * 9)).block, (ad.add (i * 9)).off + 7, none⟩ = some (.int .i64 x.f4) ∧ w'.cell? ⟨(ad.add (i * 9)).block, (ad.add (i * 9)).off + 8, none⟩ = some (.slice A8 x.f5.length c8)) ∧ (k23.R 23 w B ok (.slice A1 x.f1.length c1) x.f1 ∧ Kd.string.R 9 w B ok (.slice A8 x.f5.length c8) x.f5) := by
  obtain ⟨ad, A1, c1, A8, c8, hA, x0, x1, x2, x3, x4, x5, x6, x7, x8, hR⟩ := lent39 h hx
  exact ⟨ad, A1, c1, A8, c8, hA, fun w' hb => ⟨pw_cell_below hb x0, pw_cell_below hb x1, pw_cell_below hb x2, pw_cell_below hb x3, pw_cell_below hb x4, pw_cell_below hb x5, pw_cell_below hb x6, pw_cell_below hb x7, pw_cell_below hb x8⟩, hR⟩
set_option maxHeartbeats 4000000 in
set_option maxRecDepth 100000 in
theorem rkeys_calls {w0 w : World} {g : Nat} {st : St} (h : RefT w0 g st w) (hf : st.length ≤ 16) (hfx : ∀ x ∈ st, Fine x) (hs : Sorted st) : Calls Try.prog 51 #[.pointer (some ⟨g, 0, none⟩)] w fun e w' => ∃ A c, e = .returned (.slice A (keysT st).length c) ∧ (k82.C w' A (keysT st).length (keysT st) ∧ (keysT st).length ≤ c) ∧ Below w.heap.size w w' := by
  rw [keysT_own hs]
  obtain ⟨KT, hKT⟩ : ∃ K, K = st.flatMap own1 := ⟨_, rfl⟩
  rw [← hKT]
  have HKT := Aside0.mk hKT
  clear hKT
  have hflat : ∀ l : List S39, (∀ x ∈ l, Fine x) → (l.flatMap own1).length ≤ 4 * l.length := by
    intro l
    induction l with
    | nil => intro _; simp
    | cons y r ih =>
      intro hy
      rw [List.flatMap_cons, List.length_append, List.length_cons]
      have h1 := (hy y List.mem_cons_self).keys
      have h2 := ih (fun x hx => hy x (List.mem_cons_of_mem _ hx))
      simp only [own1, List.length_map] at h1 ⊢
      omega
  have HFL := Aside0.mk (fun i => hflat (st.take i) (fun x hx => hfx x (List.mem_of_mem_take hx)))
  have HFX := Aside0.mk hfx
  obtain ⟨A, c, h1, h2⟩ := h.row
  obtain ⟨n, hn⟩ : ∃ n : Nat, n = st.length := ⟨_, rfl⟩
  rw [← hn] at h1 h2 hf
  have HR := Aside0.mk h2
  have HN := Aside0.mk (And.intro hn hf)
  have z0 := R_cells h1
  clear h h1 h2 hn hf hfx hflat hs
  go_enter Try.func51, Try.ntmps51
  go_wp2
  go_loopg [3, 13] (n + 1) (fun kq v3 v13 wr => ∃ (i : Nat), v13 = .int .i64 i ∧ Aside0 (kq + i = n + 1 ∧ i ≤ n) ∧ Aside0 (k82.R 82 wr w.heap.size (fun _ => True) v3 ((st.take i).flatMap own1)) ∧ Aside0 (Below w.heap.size w wr))
  case atStart => exact ⟨0, rfl, ⟨by omega⟩, ⟨Kd.R_nil _ _ _ _ _⟩, ⟨Below.refl _ _⟩⟩
  case round =>
    obtain ⟨i, rfl, HK, HO, HB⟩ := hrel
    cases gk with
    | zero => have := HK.out; omega
    | succ k1 =>
    by_cases hlt : i < n
    · have hi0 : (0 : Int) ≤ (i : Int) := by omega
      have hi1 : (i : Int) < (n : Int) := by omega
      have hil : i < st.length := by have := HN.out.1; omega
      obtain ⟨x, hx⟩ : ∃ x, st[i]? = some x := ⟨_, List.getElem?_eq_getElem hil⟩
      have HST := Aside0.mk (show (st.take (i + 1)).flatMap own1 = (st.take i).flatMap own1 ++ own1 x by
        rw [List.take_add_one, hx]; simp)
      have HLN := Aside0.mk (show ((st.take i).flatMap own1).length ≤ 64 from Nat.le_trans (HFL.out i) (by rw [List.length_take]; have := HN.out; omega))
      have HFI := Aside0.mk (HFX.out x (List.mem_of_getElem? hx))
      obtain ⟨ad, A1, c1, A8, c8, hA, hcell, hR1, _⟩ := lent39w HR.out hx
      obtain ⟨x0, x1, x2, x3, x4, x5, x6, x7, x8⟩ := hcell wr HB.out
      clear hcell
      obtain ⟨q, hq⟩ : ∃ q : Nat, q = x.f1.length := ⟨_, rfl⟩
      rw [← hq] at x1 hR1
      have HQ := Aside0.mk hq
      have HQ4 := Aside0.mk (show q ≤ 4 by have := HFI.out.keys; omega)
      have HC3 := Aside0.mk (R_len hR1)
      subst hA
      clear hlt hx hil hR1 hq
      generalize (st.take i).flatMap own1 = OUT at *
      go_wp2_with (first
        | ((with_reducible refine gate_dst (N := 5) rfl ?_); refine box_event ?hg (N := 5) ?hd (cs := (ten z39 (.slice none 0 0) (.slice none 0 0)).toArray) (t := 39) ?hr ?_; (case hd => rfl); (case hg => rfl); (case hr => first | (go_simp; done) | (go_simp; rfl)); intro E hE w2 h2 hb2; have H2 := Aside0.mk h2; have HB2 := Aside0.mk hb2; have HEG := Aside0.mk (show wr.heap.size ≤ E by omega); clear h2 hb2 hE)
        | ((with_reducible refine gate_ (.store 39 (.tmp 5) (.tmp 16)) rfl ?_); refine store_blk rfl 39 (.tmp 5) (.tmp 16) rfl E (ten z39 (.slice none 0 0) (.slice none 0 0)) (ten x (.slice A1 q c1) (.slice A8 x.f5.length c8)) rfl rfl H2.out rfl size39 (ten_one _ rfl rfl) ?_; intro w3 h3 hk3 hb3; have HB3 := Aside0.mk (below_step HB.out (hb3 wr HEG.out HB2.out)); have HO3 := Aside0.mk (Kd.R_below HO.out (hb3 wr HEG.out HB2.out)); have HE3 := Aside0.mk h3; obtain ⟨z1, z8, _, _⟩ := cells9 h3; clear h3 hk3 hb3 x0 x1 x2 x3 x4 x5 x6 x7 x8))
      clear z1 z8 z0
      rename World => wo
      go_loopg [3, 20] (q + 1) (fun kq v3 v20 wr => ∃ (j : Nat), v20 = .int .i64 j ∧ Aside0 (kq + j = q + 1 ∧ j ≤ q) ∧ Aside0 (k82.R 82 wr w.heap.size (fun _ => True) v3 (OUT ++ (x.f1.take j).map (fun k => ⟨x.f0, k⟩))) ∧ Aside0 (wr.heap[E]? = some (.cells (ten x (.slice A1 q c1) (.slice A8 x.f5.length c8)).toArray 39 (0, 0))) ∧ Aside0 (Below w.heap.size w wr))
      case atStart => exact ⟨0, rfl, ⟨by omega⟩, ⟨by simpa using HO3.out⟩, HE3, HB3⟩
      case round =>
        obtain ⟨j, rfl, HJ, HOJ, HWJ, HBJ⟩ := hrel
        cases gk with
        | zero => have := HJ.out; omega
        | succ k2 =>
        by_cases hj : j < q
        · have hj0 : (0 : Int) ≤ (j : Int) := by omega
          have hj1 : (j : Int) < (q : Int) := by omega
          obtain ⟨ae, hAe, x0, x1⟩ := at_T23 (Kd.C_below HC3.out.1 HBJ.out) (j : Int) hj0 hj1
          simp only [Int.toNat_natCast] at x0 x1
          have y0 := (cellsT HWJ.out).1
          have HTJ := Aside0.mk (show OUT ++ (x.f1.take (j + 1)).map (fun k => (⟨x.f0, k⟩ : S82)) = (OUT ++ (x.f1.take j).map (fun k => ⟨x.f0, k⟩)) ++ [⟨x.f0, rd_T23 x.f1 (j : Int)⟩] by rw [take_rd23 (by have := HQ.out; omega), List.map_append, List.append_assoc]; rfl)
          have HLJ := Aside0.mk (show (OUT ++ (x.f1.take j).map (fun k => (⟨x.f0, k⟩ : S82))).length ≤ 100 by rw [List.length_append, List.length_map, List.length_take]; have := HLN.out; have := HQ4.out; have := HQ.out; omega)
          subst hAe
          clear hj
          generalize OUT ++ (x.f1.take j).map (fun k => (⟨x.f0, k⟩ : S82)) = OJ at *
          generalize rd_T23 x.f1 (j : Int) = kk at *
          go_wp2_with (first
            | ((with_reducible refine gate_dst (N := 7) rfl ?_); refine box_event ?hg (N := 7) ?hd (cs := [Value.int .i64 0, .string ⟨#[]⟩].toArray) (t := 23) ?hr ?_; (case hd => rfl); (case hg => rfl); (case hr => first | (go_simp; done) | (go_simp; rfl)); intro F hF w2 h2 hb2; have H2b := Aside0.mk h2; have HBb := Aside0.mk hb2; have HFG := Aside0.mk (show wr.heap.size ≤ F by omega); clear h2 hb2 hF x0 x1)
            | ((with_reducible refine gate_ (.store 23 (.tmp 7) (.tmp 23)) rfl ?_); refine store_blk rfl 23 (.tmp 7) (.tmp 23) rfl F [Value.int .i64 0, .string ⟨#[]⟩] [.int .i64 kk.f0, .string kk.f1] rfl rfl H2b.out rfl size23 (by simp; exact ⟨rfl, rfl⟩) ?_; intro w4 h3 hk3 hb3; have hbb := hb3 wr HFG.out HBb.out; have HB4 := Aside0.mk (below_step HBJ.out hbb); have HW4 := Aside0.mk ((hbb.block E (heap_lt HWJ.out)).trans HWJ.out); have HO4 := Aside0.mk (Kd.R_below HOJ.out hbb); obtain ⟨z0, z1⟩ := cells2 h3; have y1 := pw_cell_below hbb y0; clear h3 hk3 hb3 hbb y0)
            | ((with_reducible refine gate_builtin (b := .append) (xs := #[.tmp 24, .tmp 29]) rfl ?_); at_builtin; refine Kd.R_append k82 (w0 := w) w.heap.size rfl (.tmp 24) (.tmp 29) 61 82 (.agg #[.string ⟨#[]⟩, .int .i64 0, .string ⟨#[]⟩]) 40 rfl Try.underlying61 info82 rfl (by decide) (by omega) u3 OJ ⟨x.f0, kk⟩ [.string x.f0, .int .i64 kk.f0, .string kk.f1] (fun _ => True) (fun _ => False) rfl rfl ?aP (fun _ hk => hk.elim) ?aF ?aO ?aB ?aS ?aL ?_; (case aP => exact k82_mkM _ _ _ _); (case aB => exact (by repeat (first | (with_reducible first | exact HB4.out | apply below_alloc | apply pw_below_drewN | apply below_drew1) | exact HB4.out))); (case aF => exact (fun _ _ => trivial)); (case aO => exact (by (with_reducible repeat (first | apply Kd.R_alloc | apply Kd.R_drewN | apply Kd.R_drew)); exact HO4.out)); (case aS => exact (below_size (by repeat (first | (with_reducible first | exact HB4.out | apply below_alloc | apply pw_below_drewN | apply below_drew1) | exact HB4.out)))); (case aL => have := HLJ.out; omega); intro v6 w6 ho hb hg hat; have HO6 := Aside0.mk ho; have HB6 := Aside0.mk hb; have HG6 := Aside0.mk hg; clear ho hb hg hat))
          have HW6 := Aside0.mk ((HG6.out.block E (heap_lt HW4.out) (own_type HO4.out HW4.out (by decide))).trans HW4.out)
          go_roundg k2
          case measure => omega
          case rel => exact ⟨j + 1, by first | rfl | (simp; done) | (rw [wrap_id (n := (j : Int) + 1) (by omega) (by have := HQ4.out; omega)]; first | rfl | (simp; done)), ⟨by have := HJ.out; omega⟩, ⟨by rw [HTJ.out]; exact HO6.out⟩, HW6, HB6⟩
        · have hjq : j = q := by have := HJ.out; omega
          subst hjq
          have htk : x.f1.take j = x.f1 := List.take_of_length_le (by have := HQ.out; omega)
          rw [htk] at HOJ
          clear htk hj
          go_wp2_with (fail)
          go_roundg k1
          case measure => omega
          case rel => exact ⟨i + 1, by first | rfl | (simp; done) | (rw [wrap_id (n := (i : Int) + 1) (by omega) (by have := HN.out; omega)]; first | rfl | (simp; done)), ⟨by have := HK.out; omega⟩, ⟨by rw [HST.out]; exact HOJ.out⟩, HBJ⟩
    · have hi : i = n := by have := HK.out; omega
      subst hi
      have htk : st.take i = st := List.take_of_length_le (by have := HN.out; omega)
      rw [htk, ← HKT.out] at HO
      obtain ⟨A9, c9, hv9⟩ := Kd.R_slice HO.out
      subst hv9
      have HR9 := Aside0.mk (Kd.R_reads' HO.out)
      clear HO htk
      go_wp2_with (fail)
      go_ret
      exact ⟨A9, c9, rfl, ⟨HR9.out.2.2, HR9.out.2.1⟩, HB.out⟩
end Go.Proofs.Yticoaaddhhiglaa.T
/- The document's table by hand: keys, reader (mkT27.py). -/
namespace Go.Proofs.Yticoaaddhhiglaa.T
open Go.RowKit Go.Proofs.Yticoaaddhhiglaa.Q Go.Proofs.YticoaaddhhiglaaW.PrintWords Go.Proofs.YticoaaddhhiglaaW.PrintLast Go.Proofs.YticoaaddhhiglaaW.PrintMore
set_option linter.unusedVariables false
set_option linter.unusedSimpArgs false
/-- What goes at its place goes by a filter, where each is there once. -/
theorem filter_none {α : Type} {p : α → Bool} {l : List α} (h : ∀ x ∈ l, p x = false) : l.filter (fun x => !p x) = l := by
  rw [List.filter_eq_self]
  intro x hx
  rw [h x hx]
  rfl
theorem filter_erase {α : Type} {p : α → Bool} {l : List α} {j : Nat} (hj : j < l.length) (h1 : p l[j] = true) (h2 : ∀ i (hi : i < l.length), i ≠ j → p l[i] = false) : l.filter (fun x => !p x) = l.eraseIdx j := by
  rw [List.eraseIdx_eq_take_drop_succ]
  have hl : l = l.take j ++ l[j] :: l.drop (j + 1) := by rw [← List.drop_eq_getElem_cons hj, List.take_append_drop]
  conv => lhs; rw [hl]
  rw [List.filter_append, List.filter_cons_of_neg (by simp [h1]), filter_none (fun x hx => ?_), filter_none (fun x hx => ?_)]
  · obtain ⟨i, hi, rfl⟩ := List.mem_iff_getElem.1 hx
    rw [List.length_drop] at hi
    rw [List.getElem_drop]
    exact h2 _ _ (by omega)
  · obtain ⟨i, hi, rfl⟩ := List.mem_iff_getElem.1 hx
    rw [List.length_take] at hi
    rw [List.getElem_take]
    exact h2 _ _ (by omega)
theorem less_none {l : List S23} {id : Int} (h : keyAt l id = none) : l.filter (fun y => decide (y.f0 ≠ id)) = l := by
  rw [List.filter_eq_self]
  intro y hy
  simpa using keyAt_none h y hy
theorem less_some {l : List S23} {id : Int} {j : Nat} (hu : UniqK l) (h : keyAt l id = some j) : l.filter (fun y => decide (y.f0 ≠ id)) = l.eraseIdx j := by
  obtain ⟨hj, h1, h2⟩ := keyAt_some h
  have := filter_erase (p := fun y : S23 => decide (y.f0 = id)) hj (by simpa using h1) (fun i hi hne => by
    rcases Nat.lt_or_gt_of_ne hne with hlt | hgt
    · simpa using h2 i hlt
    · have hn := List.pairwise_iff_getElem.1 (List.nodup_iff_pairwise_ne.1 hu) j i (by rw [List.length_map]; exact hj) (by rw [List.length_map]; exact hi) hgt
      simp only [List.getElem_map] at hn
      exact decide_eq_false (fun e => hn (h1.trans e.symm)))
  rw [← this]
  refine List.filter_congr (fun y _ => ?_)
  simp
theorem wordAt_some {l : List ByteArray} {s : ByteArray} {j : Nat} (h : wordAt l s = some j) : ∃ hj : j < l.length, l[j] = s ∧ ∀ i (hi : i < j), ¬ (l[i]'(by omega)) = s := by
  unfold wordAt at h
  rw [List.findIdx?_eq_some_iff_getElem] at h
  obtain ⟨hj, h1, h2⟩ := h
  exact ⟨hj, by simpa using h1, fun i hi => by simpa using h2 i hi⟩
theorem without_none {l : List ByteArray} {s : ByteArray} (h : s ∉ l) : l.filter (fun y => decide (y ≠ s)) = l := by
  rw [List.filter_eq_self]
  intro y hy
  exact decide_eq_true (fun e => h (e ▸ hy))
theorem without_some {l : List ByteArray} {s : ByteArray} {j : Nat} (hu : l.Nodup) (h : wordAt l s = some j) : l.filter (fun y => decide (y ≠ s)) = l.eraseIdx j := by
  obtain ⟨hj, h1, h2⟩ := wordAt_some h
  have := filter_erase (p := fun y : ByteArray => decide (y = s)) hj (by simpa using h1) (fun i hi hne => by
    rcases Nat.lt_or_gt_of_ne hne with hlt | hgt
    · simpa using h2 i hlt
    · have hn := List.pairwise_iff_getElem.1 (List.nodup_iff_pairwise_ne.1 hu) j i hj hi hgt
      exact decide_eq_false (fun e => hn (h1.trans e.symm)))
  rw [← this]
  refine List.filter_congr (fun y _ => ?_)
  simp
/-- What the document's keys answers. -/
def keysR (l : List S23) (k : S23) : List S23 := if l.any (fun y => decide (y.f0 = k.f0)) = true then l.map (fun y => if y.f0 = k.f0 then k else y) else l.map (fun y => if y.f0 = k.f0 then k else y) ++ [k]
theorem keysR_none {l : List S23} {k : S23} (h : keyAt l k.f0 = none) : keysR l k = l ++ [k] := by
  have hn := keyAt_none h
  unfold keysR
  have h1 : l.any (fun y => decide (y.f0 = k.f0)) = false := by
    rw [List.any_eq_false]
    intro y hy
    simpa using hn y hy
  have h2 : l.map (fun y => if y.f0 = k.f0 then k else y) = l := by
    conv => rhs; rw [← List.map_id l]
    exact List.map_congr_left (fun y hy => if_neg (hn y hy))
  rw [h1, h2, if_neg (by decide)]
theorem keysR_some {l : List S23} {k : S23} {j : Nat} (hu : UniqK l) (h : keyAt l k.f0 = some j) : keysR l k = l.set j k := by
  obtain ⟨hj, h1, h2⟩ := keyAt_some h
  unfold keysR
  have ha : l.any (fun y => decide (y.f0 = k.f0)) = true := List.any_eq_true.2 ⟨l[j], List.getElem_mem hj, by simpa using h1⟩
  rw [if_pos ha]
  apply List.ext_getElem
  · simp
  · intro i hi hi'
    rw [List.length_map] at hi
    rw [List.getElem_map, List.getElem_set]
    by_cases e : j = i
    · subst e
      rw [if_pos rfl, if_pos h1]
    · rw [if_neg e, if_neg]
      rcases Nat.lt_or_gt_of_ne (Ne.symm e) with hlt | hgt
      · exact h2 i hlt
      · have hn := List.pairwise_iff_getElem.1 (List.nodup_iff_pairwise_ne.1 hu) j i (by rw [List.length_map]; exact hj) (by rw [List.length_map]; exact hi) hgt
        simp only [List.getElem_map] at hn
        exact fun e' => hn (h1.trans e'.symm)
def subK (k : S23) (y : S23) : S23 := if y.f0 = k.f0 then k else y
theorem keysR_sub (l : List S23) (k : S23) : keysR l k = if l.any (fun y => decide (y.f0 = k.f0)) = true then l.map (subK k) else l.map (subK k) ++ [k] := rfl
set_option maxHeartbeats 4000000 in
set_option maxRecDepth 100000 in
theorem keysf_calls {w : World} {A : Option Addr} {n c : Nat} {l : List S23} (k : S23) (hC : k23.C w A n l) (hn : n = l.length) (hc : n ≤ c) (hl : n ≤ 100) : Calls Try.prog 46 #[.slice A n c, .agg #[.int .i64 k.f0, .string k.f1]] w fun e w' => ∃ v, e = .returned (.tuple #[v, .bool (decide ((keysR l k).length ≤ 4))]) ∧ k23.R 23 w' w.heap.size (fun _ => True) v (keysR l k) ∧ Below w.heap.size w w' := by
  have HC := Aside0.mk (And.intro hC hc)
  have HN := Aside0.mk (And.intro hn hl)
  clear hC hn hc hl
  go_enter Try.func46, Try.ntmps46
  go_wp2_with (first
    | ((with_reducible refine gate_dst (N := 3) rfl ?_); refine box_event ?hg (N := 3) ?hd (cs := [Value.int .i64 k.f0, .string k.f1].toArray) (t := 23) ?hr ?_; (case hd => rfl); (case hg => rfl); (case hr => first | (go_simp; done) | (go_simp; rfl)); intro X hX w1 h1 hb1; have HX1 := Aside0.mk h1; have HB1 := Aside0.mk hb1; clear h1 hb1 hX)
    | ((with_reducible refine gate_dst (N := 10) rfl ?_); refine Kd.R_lit k23 (w0 := w1) w1.heap.size 23 ?hg (N := 10) ?hd (xs := ([] : List S23)) (inner := []) (ok := fun _ => True) (okp := fun _ => True) ?hr ?hp (fun _ hk => hk) trivial (Below.refl _ _) (Nat.le_refl _) (by simp) ?_; (case hd => rfl); (case hg => rfl); (case hr => first | (go_simp; done) | (go_simp; rfl)); (case hp => exact (Reps.none _ _)); intro v2 w2 ho hb hg_ hnew_; clear hg_; have HO2 := Aside0.mk (Kd.R_lower ho HB1.out.size); have HB2 := Aside0.mk (below_step HB1.out hb); have HX2 := Aside0.mk ((hb.block X (heap_lt HX1.out)).trans HX1.out); have HXN := Aside0.mk (show some X ≠ v2.ownBlock from fun e' => by (obtain ⟨b', h, h'⟩ := hnew_); (rw [h] at e'; injection e' with e'; have := heap_lt HX1.out; omega)); clear ho hb hnew_))
  go_loopg [6, 7, 13] (n + 1) (fun kq v6 v7 v13 wr => ∃ (i : Nat) (b : Bool), v13 = .int .i64 i ∧ v7 = .bool b ∧ Aside0 (b = (l.take i).any (fun y => decide (y.f0 = k.f0))) ∧ Aside0 (kq + i = n + 1 ∧ i ≤ n) ∧ Aside0 (k23.R 23 wr w.heap.size (fun _ => True) v6 ((l.take i).map (subK k))) ∧ Aside0 (Below w.heap.size w wr) ∧ Aside0 (wr.heap[X]? = some (.cells [Value.int .i64 k.f0, .string k.f1].toArray 23 (0, 0))) ∧ Aside0 (some X ≠ v6.ownBlock))
  case atStart => exact ⟨0, false, rfl, rfl, ⟨rfl⟩, ⟨by omega⟩, HO2, HB2, HX2, HXN⟩
  case round =>
    obtain ⟨i, b, rfl, rfl, HBB, HK, HO, HB, HX, HXN⟩ := hrel
    cases gk with
    | zero => have := HK.out; omega
    | succ k1 =>
    obtain ⟨xc0, xc1⟩ := cells2 HX.out
    by_cases hlt : i < n
    · have hi0 : (0 : Int) ≤ (i : Int) := by omega
      have hi1 : (i : Int) < (n : Int) := by omega
      obtain ⟨ad, hA, x0, x1⟩ := at_T23 (Kd.C_below HC.out.1 HB.out) (i : Int) hi0 hi1
      simp only [Int.toNat_natCast] at x0 x1
      have HTK := Aside0.mk (show l.take (i + 1) = l.take i ++ [rd_T23 l (i : Int)] from take_rd23 (by have := HN.out.1; omega))
      have HLN := Aside0.mk (show ((l.take i).map (subK k)).length ≤ 100 by rw [List.length_map, List.length_take]; have := HN.out; omega)
      have HAN := Aside0.mk (show (l.take (i + 1)).any (fun y => decide (y.f0 = k.f0)) = (b || decide ((rd_T23 l (i : Int)).f0 = k.f0)) by rw [HTK.out, List.any_append, ← HBB.out]; simp)
      have HMP := Aside0.mk (show (l.take (i + 1)).map (subK k) = (l.take i).map (subK k) ++ [subK k (rd_T23 l (i : Int))] by rw [HTK.out, List.map_append]; rfl)
      subst hA
      clear hlt
      generalize rd_T23 l (i : Int) = y at *
      generalize (l.take i).map (subK k) = OUT at *
      by_cases e : y.f0 = k.f0
      · have HSU := Aside0.mk (show subK k y = k from if_pos e)
        have HBQ := Aside0.mk (show (b || decide (y.f0 = k.f0)) = true by simp [e])
        have heq : (y.f0 == k.f0) = true := by simp [e]
        clear e
        go_wp2_with (first
          | ((with_reducible refine gate_dst (N := 9) rfl ?_); refine box_event ?hg (N := 9) ?hd (cs := [Value.int .i64 0, .string ⟨#[]⟩].toArray) (t := 23) ?hr ?_; (case hd => rfl); (case hg => rfl); (case hr => first | (go_simp; done) | (go_simp; rfl)); intro F hF w2b h2 hb2; have HF2 := Aside0.mk h2; have HB2b := Aside0.mk hb2; have HFG := Aside0.mk (show wr.heap.size ≤ F by omega); clear h2 hb2 hF x0 x1)
          | ((with_reducible refine gate_ (.store 23 (.tmp 9) (.tmp 16)) rfl ?_); refine store_blk rfl 23 (.tmp 9) (.tmp 16) rfl F [Value.int .i64 0, .string ⟨#[]⟩] [.int .i64 y.f0, .string y.f1] rfl rfl HF2.out rfl size23 (by simp; exact ⟨rfl, rfl⟩) ?_; intro w4 h3 hk3 hb3; have HBb := Aside0.mk (hb3 wr HFG.out HB2b.out); have HF4 := Aside0.mk h3; obtain ⟨z2, z3⟩ := cells2 h3; clear xc0 xc1; obtain ⟨xc0, xc1⟩ := cells2 ((HBb.out.block X (heap_lt HX.out)).trans HX.out); clear h3 hk3 hb3)
          | ((with_reducible refine gate_ (.store 23 (.tmp 9) (.tmp 22)) rfl ?_); refine store_blk rfl 23 (.tmp 9) (.tmp 22) rfl F [.int .i64 y.f0, .string y.f1] [.int .i64 k.f0, .string k.f1] rfl rfl HF4.out rfl size23 (by simp; exact ⟨rfl, rfl⟩) ?_; intro w5 h3 hk3 hb3; have HB5 := Aside0.mk (hb3 wr HFG.out HBb.out); obtain ⟨z0, z1⟩ := cells2 h3; clear h3 hk3 hb3 z2 z3 xc0 xc1)
          | ((with_reducible refine gate_builtin (b := .append) (xs := #[.tmp 23, .tmp 25]) rfl ?_); at_builtin; have hbb := below_step HB.out HB5.out; refine Kd.R_append k23 (w0 := w) w.heap.size rfl (.tmp 23) (.tmp 25) 36 23 (.agg #[.int .i64 0, .string ⟨#[]⟩]) 24 rfl Try.underlying36 info23 rfl (by decide) (by decide) u6 OUT k [.int .i64 k.f0, .string k.f1] (fun _ => True) (fun _ => False) rfl rfl ?aP (fun _ hk => hk.elim) ?aF ?aO ?aB ?aS ?aL ?_; (case aP => exact k23_mkM _ _ _ _); (case aB => exact hbb); (case aF => exact (fun _ _ => trivial)); (case aO => exact Kd.R_below HO.out HB5.out); (case aS => exact hbb.size); (case aL => have := HLN.out; omega); intro v6 w6 ho hb hg hat; have HO6 := Aside0.mk ho; have HB6 := Aside0.mk hb; have HX6 := Aside0.mk ((hg.block X (Nat.lt_of_lt_of_le (heap_lt HX.out) HB5.out.size) HXN.out).trans ((HB5.out.block X (heap_lt HX.out)).trans HX.out)); have HXN6 := Aside0.mk (show some X ≠ v6.ownBlock from fun e' => by (rcases hat with h | ⟨b', h, h'⟩); (exact HXN.out (e'.trans h)); (rw [h] at e'; injection e' with e'; have h1 := heap_lt HX.out; have h2 := HB5.out.size; omega)); clear ho hb hg hat hbb))
        go_roundg k1
        case measure => omega
        case rel => exact ⟨i + 1, true, by first | rfl | (simp; done) | (rw [wrap_id (n := (i : Int) + 1) (by omega) (by have := HN.out.2; omega)]; first | rfl | (simp; done)), rfl, ⟨by rw [HAN.out, HBQ.out]⟩, ⟨by have := HK.out; omega⟩, ⟨by rw [HMP.out, HSU.out]; exact HO6.out⟩, HB6, HX6, HXN6⟩
      · have HSU := Aside0.mk (show subK k y = y from if_neg e)
        have HBQ := Aside0.mk (show (b || decide (y.f0 = k.f0)) = b by simp [e])
        have hne : (y.f0 == k.f0) = false := beq_false_of_ne e
        clear e
        go_wp2_with (first
          | ((with_reducible refine gate_dst (N := 9) rfl ?_); refine box_event ?hg (N := 9) ?hd (cs := [Value.int .i64 0, .string ⟨#[]⟩].toArray) (t := 23) ?hr ?_; (case hd => rfl); (case hg => rfl); (case hr => first | (go_simp; done) | (go_simp; rfl)); intro F hF w2b h2 hb2; have HF2 := Aside0.mk h2; have HB2b := Aside0.mk hb2; have HFG := Aside0.mk (show wr.heap.size ≤ F by omega); clear h2 hb2 hF x0 x1)
          | ((with_reducible refine gate_ (.store 23 (.tmp 9) (.tmp 16)) rfl ?_); refine store_blk rfl 23 (.tmp 9) (.tmp 16) rfl F [Value.int .i64 0, .string ⟨#[]⟩] [.int .i64 y.f0, .string y.f1] rfl rfl HF2.out rfl size23 (by simp; exact ⟨rfl, rfl⟩) ?_; intro w4 h3 hk3 hb3; have HBb := Aside0.mk (hb3 wr HFG.out HB2b.out); have HF4 := Aside0.mk h3; obtain ⟨z2, z3⟩ := cells2 h3; clear xc0 xc1; obtain ⟨xc0, xc1⟩ := cells2 ((HBb.out.block X (heap_lt HX.out)).trans HX.out); clear h3 hk3 hb3)
          | ((with_reducible refine gate_builtin (b := .append) (xs := #[.tmp 23, .tmp 25]) rfl ?_); at_builtin; have hbb := below_step HB.out HBb.out; refine Kd.R_append k23 (w0 := w) w.heap.size rfl (.tmp 23) (.tmp 25) 36 23 (.agg #[.int .i64 0, .string ⟨#[]⟩]) 24 rfl Try.underlying36 info23 rfl (by decide) (by decide) u6 OUT y [.int .i64 y.f0, .string y.f1] (fun _ => True) (fun _ => False) rfl rfl ?aP (fun _ hk => hk.elim) ?aF ?aO ?aB ?aS ?aL ?_; (case aP => exact k23_mkM _ _ _ _); (case aB => exact hbb); (case aF => exact (fun _ _ => trivial)); (case aO => exact Kd.R_below HO.out HBb.out); (case aS => exact hbb.size); (case aL => have := HLN.out; omega); intro v6 w6 ho hb hg hat; have HO6 := Aside0.mk ho; have HB6 := Aside0.mk hb; have HX6 := Aside0.mk ((hg.block X (Nat.lt_of_lt_of_le (heap_lt HX.out) HBb.out.size) HXN.out).trans ((HBb.out.block X (heap_lt HX.out)).trans HX.out)); have HXN6 := Aside0.mk (show some X ≠ v6.ownBlock from fun e' => by (rcases hat with h | ⟨b', h, h'⟩); (exact HXN.out (e'.trans h)); (rw [h] at e'; injection e' with e'; have h1 := heap_lt HX.out; have h2 := HBb.out.size; omega)); clear ho hb hg hat hbb))
        go_roundg k1
        case measure => omega
        case rel => exact ⟨i + 1, b, by first | rfl | (simp; done) | (rw [wrap_id (n := (i : Int) + 1) (by omega) (by have := HN.out.2; omega)]; first | rfl | (simp; done)), rfl, ⟨by rw [HAN.out, HBQ.out]⟩, ⟨by have := HK.out; omega⟩, ⟨by rw [HMP.out, HSU.out]; exact HO6.out⟩, HB6, HX6, HXN6⟩
    · have hi : i = n := by have := HK.out; omega
      subst hi
      have htk : l.take i = l := List.take_of_length_le (by have := HN.out.1; omega)
      rw [htk] at HO HBB
      have HKR := Aside0.mk (keysR_sub l k)
      clear htk hlt
      cases b
      · have HKE := Aside0.mk (show keysR l k = l.map (subK k) ++ [k] by rw [HKR.out, ← HBB.out]; rfl)
        have HLN := Aside0.mk (show (l.map (subK k)).length ≤ 100 by rw [List.length_map]; have := HN.out; omega)
        generalize l.map (subK k) = OUT at *
        go_wp2_with (first
          | ((with_reducible refine gate_builtin (b := .append) (xs := #[.tmp 30, .tmp 32]) rfl ?_); at_builtin; refine Kd.R_append k23 (w0 := w) w.heap.size rfl (.tmp 30) (.tmp 32) 36 23 (.agg #[.int .i64 0, .string ⟨#[]⟩]) 24 rfl Try.underlying36 info23 rfl (by decide) (by decide) u6 OUT k [.int .i64 k.f0, .string k.f1] (fun _ => True) (fun _ => False) rfl rfl ?aP (fun _ hk => hk.elim) ?aF ?aO ?aB ?aS ?aL ?_; (case aP => exact k23_mkM _ _ _ _); (case aB => exact (by repeat (first | (with_reducible first | exact HB.out | apply below_alloc | apply pw_below_drewN | apply below_drew1) | exact HB.out))); (case aF => exact (fun _ _ => trivial)); (case aO => exact (by (with_reducible repeat (first | apply Kd.R_alloc | apply Kd.R_drewN | apply Kd.R_drew)); exact HO.out)); (case aS => exact (below_size (by repeat (first | (with_reducible first | exact HB.out | apply below_alloc | apply pw_below_drewN | apply below_drew1) | exact HB.out)))); (case aL => have := HLN.out; omega); intro v6 w6 ho hb hg hat; obtain ⟨A6, c6, hv6⟩ := Kd.R_slice ho; subst hv6; have HO6 := Aside0.mk ho; have HB6 := Aside0.mk hb; generalize hln : (OUT ++ [k]).length = n6 at *; have HL6 := Aside0.mk hln; clear ho hb hg hat hln))
        go_ret2
        rw [HKE.out]
        exact ⟨_, by simp [← HL6.out]; omega, HO6.out, HB6.out⟩
      · have HKE := Aside0.mk (show keysR l k = l.map (subK k) by rw [HKR.out, ← HBB.out]; rfl)
        generalize l.map (subK k) = OUT at *
        obtain ⟨A6, c6, hv6⟩ := Kd.R_slice HO.out
        subst hv6
        generalize hln : OUT.length = n6 at *
        have HL6 := Aside0.mk hln
        clear hln
        go_wp2
        go_ret2
        rw [HKE.out]
        exact ⟨_, by simp [← HL6.out]; omega, HO.out, HB.out⟩
end Go.Proofs.Yticoaaddhhiglaa.T
/- The document's table by hand: reader (mkT28.py). -/
namespace Go.Proofs.Yticoaaddhhiglaa.T
open Go.RowKit Go.Proofs.Yticoaaddhhiglaa.Q Go.Proofs.YticoaaddhhiglaaW.PrintWords Go.Proofs.YticoaaddhhiglaaW.PrintLast Go.Proofs.YticoaaddhhiglaaW.PrintMore
set_option linter.unusedVariables false
set_option linter.unusedSimpArgs false
theorem wordAt_mem {l : List ByteArray} {s : ByteArray} (h : s ∈ l) : ∃ j, wordAt l s = some j := by
  cases hw : wordAt l s with
  | some j => exact ⟨j, rfl⟩
  | none => exact absurd h (wordAt_none hw)
theorem wordAt_not {l : List ByteArray} {s : ByteArray} (h : s ∉ l) : wordAt l s = none := by
  cases hw : wordAt l s with
  | none => rfl
  | some j => obtain ⟨hj, e, _⟩ := wordAt_some hw; exact absurd (e ▸ List.getElem_mem hj) h
theorem reader_deny {x : S39} {c : S27} (hu : x.f5.Nodup) (hd : c.f0 = 5) (h : c.f6 ∈ x.f5) : changeT x c = (0, { x with f5 := x.f5.filter (fun y => decide (y ≠ c.f6)) }) := by
  obtain ⟨j, hj⟩ := wordAt_mem h
  unfold changeT
  rw [if_neg (by omega), if_neg (by omega), if_neg (by omega), if_neg (by omega), hj, without_some hu hj]
theorem reader_denyn {x : S39} {c : S27} (hd : c.f0 = 5) (h : c.f6 ∉ x.f5) : changeT x c = (4, x) := by
  unfold changeT
  rw [if_neg (by omega), if_neg (by omega), if_neg (by omega), if_neg (by omega), wordAt_not h]
theorem reader_allown {x : S39} {c : S27} (hd : c.f0 = 4) (h : c.f6 ∈ x.f5) : changeT x c = (100, x) := by
  obtain ⟨j, hj⟩ := wordAt_mem h
  unfold changeT
  rw [if_neg (by omega), if_neg (by omega), if_neg (by omega), if_pos hd, hj]
theorem reader_full {x : S39} {c : S27} (hd : c.f0 = 4) (h : c.f6 ∉ x.f5) (h8 : 8 ≤ x.f5.length) : changeT x c = (5, x) := by
  unfold changeT
  rw [if_neg (by omega), if_neg (by omega), if_neg (by omega), if_pos hd, wordAt_not h]
  exact if_pos h8
theorem reader_allow {x : S39} {c : S27} (hd : c.f0 = 4) (h : c.f6 ∉ x.f5) (h8 : ¬ 8 ≤ x.f5.length) : changeT x c = (0, { x with f5 := x.f5.filter (fun y => decide (y ≠ c.f6)) ++ [c.f6] }) := by
  unfold changeT
  rw [if_neg (by omega), if_neg (by omega), if_neg (by omega), if_pos hd, wordAt_not h, without_none h]
  exact if_neg h8
/-- What reader hands out. -/
def RdP (w : World) (base : Nat) (r : Int × S39) (e : Ending) (w' : World) : Prop := ∃ v1 v8, e = .returned (.tuple #[.agg (ten r.2 v1 v8).toArray, .int .i64 r.1]) ∧ (k23.R 23 w' base (fun _ => True) v1 r.2.f1 ∧ Kd.string.R 9 w' base (fun _ => True) v8 r.2.f5) ∧ Below w.heap.size w w'
set_option maxHeartbeats 4000000 in
set_option maxRecDepth 100000 in
theorem reader_calls {w : World} {base : Nat} {x : S39} {A1 : Option Addr} {n1 c1 : Nat} {A8 : Option Addr} {n8 c8 : Nat} (hb : base ≤ w.heap.size) (h1 : k23.R 23 w base (fun _ => True) (.slice A1 n1 c1) x.f1) (h8 : Kd.string.R 9 w base (fun _ => True) (.slice A8 n8 c8) x.f5) (hu : x.f5.Nodup) (hf : x.f5.length ≤ 8) (c : S27) (hc : c.f0 = 4 ∨ c.f0 = 5) :
    Calls Try.prog 48 #[.agg (ten x (.slice A1 n1 c1) (.slice A8 n8 c8)).toArray, .agg (chg c).toArray] w (RdP w base (changeT x c)) := by
  obtain ⟨d, tn, k, lm, qu, ri, who⟩ := c
  have hn8 := (Kd.R_reads' h8).1
  have HR1 := Aside0.mk h1
  have HR8 := Aside0.mk h8
  have HN := Aside0.mk (And.intro hn8 hf)
  have HBS := Aside0.mk hb
  dsimp only at hc
  obtain ⟨F, hF⟩ : ∃ F, F = x.f5.filter (fun y => decide (y ≠ who)) := ⟨_, rfl⟩
  have HFL := Aside0.mk (show F.length ≤ 8 by rw [hF]; exact Nat.le_trans (List.length_filter_le _ _) hf)
  have HF := Aside0.mk hF
  obtain ⟨b, hbm⟩ : ∃ b, b = decide (who ∈ x.f5) := ⟨_, rfl⟩
  have HBM := Aside0.mk hbm
  have hcase : (d = 5 ∧ b = false) ∨ (d = 5 ∧ b = true) ∨ (d = 4 ∧ b = true) ∨ (d = 4 ∧ b = false ∧ 8 ≤ n8) ∨ (d = 4 ∧ b = false ∧ ¬ 8 ≤ n8) := by
    rcases hc with h | h <;> cases b <;> by_cases h8 : 8 ≤ n8 <;> simp [h, h8]
  rcases hcase with ⟨rfl, rfl⟩ | ⟨rfl, rfl⟩ | ⟨rfl, rfl⟩ | ⟨rfl, rfl, q8⟩ | ⟨rfl, rfl, q8⟩
  · skip
    have HT := Aside0.mk (show changeT x ⟨5, tn, k, lm, qu, ri, who⟩ = (4, x) from reader_denyn rfl (fun h => by rw [decide_eq_true h] at hbm; cases hbm))
    clear h1 h8 hu hf hn8 hb hF hbm hc
    unfold chg ten
    go_enter Try.func48, Try.ntmps48
    go_wp2_with (first
      | ((with_reducible refine gate_dst (N := 2) rfl ?_); refine box_event ?hg (N := 2) ?hd (cs := (ten x (.slice A1 n1 c1) (.slice A8 n8 c8)).toArray) (t := 39) ?hr ?_; (case hd => rfl); (case hg => rfl); (case hr => first | (go_simp; done) | (go_simp; rfl)); intro B hB w1 k1 hb1; have HB1 := Aside0.mk hb1; have HX1 := Aside0.mk k1; have HBG := Aside0.mk (show w.heap.size ≤ B by omega); clear hB k1 hb1)
      | ((with_reducible refine gate_dst (N := 3) rfl ?_); refine box_event ?hg (N := 3) ?hd (cs := (chg ⟨5, tn, k, lm, qu, ri, who⟩).toArray) (t := 27) ?hr ?_; (case hd => rfl); (case hg => rfl); (case hr => first | (go_simp; done) | (go_simp; rfl)); intro X hX w2 k2 hb2; have HB2 := Aside0.mk (below_step HB1.out hb2); have HX2 := Aside0.mk ((hb2.block B (heap_lt HX1.out)).trans HX1.out); have HC2 := Aside0.mk k2; clear hX k2 hb2)
      | ((with_reducible refine gate_dst (N := 4) rfl ?_); refine box_event ?hg (N := 4) ?hd (cs := (ten z39 (.slice none 0 0) (.slice none 0 0)).toArray) (t := 39) ?hr ?_; (case hd => rfl); (case hg => rfl); (case hr => first | (go_simp; done) | (go_simp; rfl)); intro E hE w3 k3 hb3; have HB3 := Aside0.mk (below_step HB2.out hb3); have HX3 := Aside0.mk ((hb3.block B (heap_lt HX2.out)).trans HX2.out); have HC3 := Aside0.mk ((hb3.block X (heap_lt HC2.out)).trans HC2.out); have HE3 := Aside0.mk k3; have HEG := Aside0.mk (show w.heap.size ≤ E by have := HB2.out.size; omega); have HEB := Aside0.mk (show E ≠ B by have := heap_lt HX2.out; omega); obtain ⟨z1, z8, f1, f8⟩ := cells9 HX3.out; have y0 := (cellsX HC3.out).1; have y6 := (cellsX HC3.out).2.2.2.2.2.2.2.2.2.2; (try dsimp only at y0 y6); clear hE k3 hb3)
      | (go_at_call 18; (with_reducible refine (In_calls who (R_len (Kd.R_below HR8.out HB3.out)).1 HN.out.1 (R_len (Kd.R_below HR8.out HB3.out)).2 (by have := HN.out; omega)).mono ?_); rintro e w4 ⟨rfl, hb⟩; rw [← HBM.out]; have HB4 := Aside0.mk (below_step HB3.out hb); have HX4 := Aside0.mk ((hb.block B (heap_lt HX3.out)).trans HX3.out); have HC4 := Aside0.mk ((hb.block X (heap_lt HC3.out)).trans HC3.out); have HE4 := Aside0.mk ((hb.block E (heap_lt HE3.out)).trans HE3.out); clear z1 z8 f1 f8 y0 y6 hb; obtain ⟨z1, z8, f1, f8⟩ := cells9 HX4.out; have y0 := (cellsX HC4.out).1; have y6 := (cellsX HC4.out).2.2.2.2.2.2.2.2.2.2; (try dsimp only at y0 y6))
      | (go_at_call 64; (with_reducible refine (without_calls who (R_len (Kd.R_below HR8.out HB4.out)).1 HN.out.1 (R_len (Kd.R_below HR8.out HB4.out)).2 (by have := HN.out; omega)).mono ?_); rintro e w5 ⟨v7, rfl, hv7, hb⟩; rw [← HF.out] at hv7; obtain ⟨A7, c7, hvs⟩ := Kd.R_slice hv7; subst hvs; have HVN := Aside0.mk (show ∀ k, (Value.slice A7 F.length c7).ownBlock = some k → w.heap.size ≤ k from fun k hk => Nat.le_trans HB4.out.size (Kd.R_base hv7 k hk)); have HV7 := Aside0.mk (Kd.R_lower (base' := base) hv7 (by have := HB4.out.size; have := HBS.out; omega)); have HB5 := Aside0.mk (below_step HB4.out hb); have HX5 := Aside0.mk ((hb.block B (heap_lt HX4.out)).trans HX4.out); have HC5 := Aside0.mk ((hb.block X (heap_lt HC4.out)).trans HC4.out); have HE5 := Aside0.mk ((hb.block E (heap_lt HE4.out)).trans HE4.out); clear z1 z8 f1 f8 y0 y6 hb hv7; obtain ⟨z1, z8, f1, f8⟩ := cells9 HX5.out; have y0 := (cellsX HC5.out).1; have y6 := (cellsX HC5.out).2.2.2.2.2.2.2.2.2.2; (try dsimp only at y0 y6))
      | ((with_reducible refine gate_ (.load 39 (.tmp 2)) rfl ?_); refine load_blk rfl 39 (.tmp 2) rfl B rfl (ten x (.slice A1 n1 c1) (.slice A8 n8 c8)) HX5.out _ Try.underlying39 rfl size39 ?_)
      | ((with_reducible refine gate_ (.store 39 (.tmp 4) (.tmp 26)) rfl ?_); refine store_blk rfl 39 (.tmp 4) (.tmp 26) rfl E (ten z39 (.slice none 0 0) (.slice none 0 0)) (ten x (.slice A1 n1 c1) (.slice A8 n8 c8)) rfl rfl HE5.out rfl size39 (ten_one _ rfl rfl) ?_; intro w9 k9 hk9 hb9; have HE9 := Aside0.mk k9; have HK9 := Aside0.mk hk9; have HB9 := Aside0.mk (hb9 w HEG.out HB5.out); clear k9 hk9 hb9))
    ((try simp only [Exit.inBlock, Exit.then]); refine bodyPost_ret (results_ct rfl _ _ E _ rfl (run_loadVar_mid _ _ _ 39 _ _ (range_blk HE9.out) Try.underlying39 rfl size39)) rfl ?_)
    rw [HT.out]
    exact ⟨_, _, rfl, ⟨Kd.R_below HR1.out HB9.out, Kd.R_below HR8.out HB9.out⟩, HB9.out⟩
  · skip
    have HT := Aside0.mk (show changeT x ⟨5, tn, k, lm, qu, ri, who⟩ = (0, { x with f5 := F }) from by rw [hF]; exact reader_deny hu rfl (of_decide_eq_true hbm.symm))
    clear h1 h8 hu hf hn8 hb hF hbm hc
    unfold chg ten
    go_enter Try.func48, Try.ntmps48
    go_wp2_with (first
      | ((with_reducible refine gate_dst (N := 2) rfl ?_); refine box_event ?hg (N := 2) ?hd (cs := (ten x (.slice A1 n1 c1) (.slice A8 n8 c8)).toArray) (t := 39) ?hr ?_; (case hd => rfl); (case hg => rfl); (case hr => first | (go_simp; done) | (go_simp; rfl)); intro B hB w1 k1 hb1; have HB1 := Aside0.mk hb1; have HX1 := Aside0.mk k1; have HBG := Aside0.mk (show w.heap.size ≤ B by omega); clear hB k1 hb1)
      | ((with_reducible refine gate_dst (N := 3) rfl ?_); refine box_event ?hg (N := 3) ?hd (cs := (chg ⟨5, tn, k, lm, qu, ri, who⟩).toArray) (t := 27) ?hr ?_; (case hd => rfl); (case hg => rfl); (case hr => first | (go_simp; done) | (go_simp; rfl)); intro X hX w2 k2 hb2; have HB2 := Aside0.mk (below_step HB1.out hb2); have HX2 := Aside0.mk ((hb2.block B (heap_lt HX1.out)).trans HX1.out); have HC2 := Aside0.mk k2; clear hX k2 hb2)
      | ((with_reducible refine gate_dst (N := 4) rfl ?_); refine box_event ?hg (N := 4) ?hd (cs := (ten z39 (.slice none 0 0) (.slice none 0 0)).toArray) (t := 39) ?hr ?_; (case hd => rfl); (case hg => rfl); (case hr => first | (go_simp; done) | (go_simp; rfl)); intro E hE w3 k3 hb3; have HB3 := Aside0.mk (below_step HB2.out hb3); have HX3 := Aside0.mk ((hb3.block B (heap_lt HX2.out)).trans HX2.out); have HC3 := Aside0.mk ((hb3.block X (heap_lt HC2.out)).trans HC2.out); have HE3 := Aside0.mk k3; have HEG := Aside0.mk (show w.heap.size ≤ E by have := HB2.out.size; omega); have HEB := Aside0.mk (show E ≠ B by have := heap_lt HX2.out; omega); obtain ⟨z1, z8, f1, f8⟩ := cells9 HX3.out; have y0 := (cellsX HC3.out).1; have y6 := (cellsX HC3.out).2.2.2.2.2.2.2.2.2.2; (try dsimp only at y0 y6); clear hE k3 hb3)
      | (go_at_call 18; (with_reducible refine (In_calls who (R_len (Kd.R_below HR8.out HB3.out)).1 HN.out.1 (R_len (Kd.R_below HR8.out HB3.out)).2 (by have := HN.out; omega)).mono ?_); rintro e w4 ⟨rfl, hb⟩; rw [← HBM.out]; have HB4 := Aside0.mk (below_step HB3.out hb); have HX4 := Aside0.mk ((hb.block B (heap_lt HX3.out)).trans HX3.out); have HC4 := Aside0.mk ((hb.block X (heap_lt HC3.out)).trans HC3.out); have HE4 := Aside0.mk ((hb.block E (heap_lt HE3.out)).trans HE3.out); clear z1 z8 f1 f8 y0 y6 hb; obtain ⟨z1, z8, f1, f8⟩ := cells9 HX4.out; have y0 := (cellsX HC4.out).1; have y6 := (cellsX HC4.out).2.2.2.2.2.2.2.2.2.2; (try dsimp only at y0 y6))
      | (go_at_call 64; (with_reducible refine (without_calls who (R_len (Kd.R_below HR8.out HB4.out)).1 HN.out.1 (R_len (Kd.R_below HR8.out HB4.out)).2 (by have := HN.out; omega)).mono ?_); rintro e w5 ⟨v7, rfl, hv7, hb⟩; rw [← HF.out] at hv7; obtain ⟨A7, c7, hvs⟩ := Kd.R_slice hv7; subst hvs; have HVN := Aside0.mk (show ∀ k, (Value.slice A7 F.length c7).ownBlock = some k → w.heap.size ≤ k from fun k hk => Nat.le_trans HB4.out.size (Kd.R_base hv7 k hk)); have HV7 := Aside0.mk (Kd.R_lower (base' := base) hv7 (by have := HB4.out.size; have := HBS.out; omega)); have HB5 := Aside0.mk (below_step HB4.out hb); have HX5 := Aside0.mk ((hb.block B (heap_lt HX4.out)).trans HX4.out); have HC5 := Aside0.mk ((hb.block X (heap_lt HC4.out)).trans HC4.out); have HE5 := Aside0.mk ((hb.block E (heap_lt HE4.out)).trans HE4.out); clear z1 z8 f1 f8 y0 y6 hb hv7; obtain ⟨z1, z8, f1, f8⟩ := cells9 HX5.out; have y0 := (cellsX HC5.out).1; have y6 := (cellsX HC5.out).2.2.2.2.2.2.2.2.2.2; (try dsimp only at y0 y6))
      | ((with_reducible refine gate_ (.load 39 (.tmp 2)) rfl ?_); refine load_blk rfl 39 (.tmp 2) rfl B rfl (ten ({ x with f5 := F } : S39) (.slice A1 n1 c1) (.slice A7 F.length c7)) (blk_put HX5.out 8 (.slice A7 F.length c7) rfl) _ Try.underlying39 rfl size39 ?_)
      | ((with_reducible refine gate_ (.store 39 (.tmp 4) (.tmp 33)) rfl ?_); refine store_blk rfl 39 (.tmp 4) (.tmp 33) rfl E (ten z39 (.slice none 0 0) (.slice none 0 0)) (ten ({ x with f5 := F } : S39) (.slice A1 n1 c1) (.slice A7 F.length c7)) rfl rfl ((Below.heap_setCell _ _ _ E (fun e => HEB.out e)).trans HE5.out) rfl size39 (ten_one _ rfl (one_of_R HV7.out)) ?_; intro w9 k9 hk9 hb9; have HE9 := Aside0.mk k9; have HK9 := Aside0.mk hk9; have HB9 := Aside0.mk (hb9 w HEG.out (below_set HB5.out HBG.out)); clear k9 hk9 hb9))
    ((try simp only [Exit.inBlock, Exit.then]); refine bodyPost_ret (results_ct rfl _ _ E _ rfl (run_loadVar_mid _ _ _ 39 _ _ (range_blk HE9.out) Try.underlying39 rfl size39)) rfl ?_)
    rw [HT.out]
    refine ⟨_, _, rfl, ⟨Kd.R_below HR1.out HB9.out, ?_⟩, HB9.out⟩
    exact Kd.R_drop (Kd.R_step (Kd.R_types (Kd.R_set HV7.out HX5.out (by decide) 8 _) ((Below.heap_setCell _ _ _ E (fun e => HEB.out e)).trans HE5.out) (by decide)) (fun k hk _ => HK9.out k hk.2))
  · skip
    have HT := Aside0.mk (show changeT x ⟨4, tn, k, lm, qu, ri, who⟩ = (100, x) from reader_allown rfl (of_decide_eq_true hbm.symm))
    clear h1 h8 hu hf hn8 hb hF hbm hc
    unfold chg ten
    go_enter Try.func48, Try.ntmps48
    go_wp2_with (first
      | ((with_reducible refine gate_dst (N := 2) rfl ?_); refine box_event ?hg (N := 2) ?hd (cs := (ten x (.slice A1 n1 c1) (.slice A8 n8 c8)).toArray) (t := 39) ?hr ?_; (case hd => rfl); (case hg => rfl); (case hr => first | (go_simp; done) | (go_simp; rfl)); intro B hB w1 k1 hb1; have HB1 := Aside0.mk hb1; have HX1 := Aside0.mk k1; have HBG := Aside0.mk (show w.heap.size ≤ B by omega); clear hB k1 hb1)
      | ((with_reducible refine gate_dst (N := 3) rfl ?_); refine box_event ?hg (N := 3) ?hd (cs := (chg ⟨4, tn, k, lm, qu, ri, who⟩).toArray) (t := 27) ?hr ?_; (case hd => rfl); (case hg => rfl); (case hr => first | (go_simp; done) | (go_simp; rfl)); intro X hX w2 k2 hb2; have HB2 := Aside0.mk (below_step HB1.out hb2); have HX2 := Aside0.mk ((hb2.block B (heap_lt HX1.out)).trans HX1.out); have HC2 := Aside0.mk k2; clear hX k2 hb2)
      | ((with_reducible refine gate_dst (N := 4) rfl ?_); refine box_event ?hg (N := 4) ?hd (cs := (ten z39 (.slice none 0 0) (.slice none 0 0)).toArray) (t := 39) ?hr ?_; (case hd => rfl); (case hg => rfl); (case hr => first | (go_simp; done) | (go_simp; rfl)); intro E hE w3 k3 hb3; have HB3 := Aside0.mk (below_step HB2.out hb3); have HX3 := Aside0.mk ((hb3.block B (heap_lt HX2.out)).trans HX2.out); have HC3 := Aside0.mk ((hb3.block X (heap_lt HC2.out)).trans HC2.out); have HE3 := Aside0.mk k3; have HEG := Aside0.mk (show w.heap.size ≤ E by have := HB2.out.size; omega); have HEB := Aside0.mk (show E ≠ B by have := heap_lt HX2.out; omega); obtain ⟨z1, z8, f1, f8⟩ := cells9 HX3.out; have y0 := (cellsX HC3.out).1; have y6 := (cellsX HC3.out).2.2.2.2.2.2.2.2.2.2; (try dsimp only at y0 y6); clear hE k3 hb3)
      | (go_at_call 18; (with_reducible refine (In_calls who (R_len (Kd.R_below HR8.out HB3.out)).1 HN.out.1 (R_len (Kd.R_below HR8.out HB3.out)).2 (by have := HN.out; omega)).mono ?_); rintro e w4 ⟨rfl, hb⟩; rw [← HBM.out]; have HB4 := Aside0.mk (below_step HB3.out hb); have HX4 := Aside0.mk ((hb.block B (heap_lt HX3.out)).trans HX3.out); have HC4 := Aside0.mk ((hb.block X (heap_lt HC3.out)).trans HC3.out); have HE4 := Aside0.mk ((hb.block E (heap_lt HE3.out)).trans HE3.out); clear z1 z8 f1 f8 y0 y6 hb; obtain ⟨z1, z8, f1, f8⟩ := cells9 HX4.out; have y0 := (cellsX HC4.out).1; have y6 := (cellsX HC4.out).2.2.2.2.2.2.2.2.2.2; (try dsimp only at y0 y6))
      | (go_at_call 64; (with_reducible refine (without_calls who (R_len (Kd.R_below HR8.out HB4.out)).1 HN.out.1 (R_len (Kd.R_below HR8.out HB4.out)).2 (by have := HN.out; omega)).mono ?_); rintro e w5 ⟨v7, rfl, hv7, hb⟩; rw [← HF.out] at hv7; obtain ⟨A7, c7, hvs⟩ := Kd.R_slice hv7; subst hvs; have HVN := Aside0.mk (show ∀ k, (Value.slice A7 F.length c7).ownBlock = some k → w.heap.size ≤ k from fun k hk => Nat.le_trans HB4.out.size (Kd.R_base hv7 k hk)); have HV7 := Aside0.mk (Kd.R_lower (base' := base) hv7 (by have := HB4.out.size; have := HBS.out; omega)); have HB5 := Aside0.mk (below_step HB4.out hb); have HX5 := Aside0.mk ((hb.block B (heap_lt HX4.out)).trans HX4.out); have HC5 := Aside0.mk ((hb.block X (heap_lt HC4.out)).trans HC4.out); have HE5 := Aside0.mk ((hb.block E (heap_lt HE4.out)).trans HE4.out); clear z1 z8 f1 f8 y0 y6 hb hv7; obtain ⟨z1, z8, f1, f8⟩ := cells9 HX5.out; have y0 := (cellsX HC5.out).1; have y6 := (cellsX HC5.out).2.2.2.2.2.2.2.2.2.2; (try dsimp only at y0 y6))
      | ((with_reducible refine gate_ (.load 39 (.tmp 2)) rfl ?_); refine load_blk rfl 39 (.tmp 2) rfl B rfl (ten x (.slice A1 n1 c1) (.slice A8 n8 c8)) HX5.out _ Try.underlying39 rfl size39 ?_)
      | ((with_reducible refine gate_ (.store 39 (.tmp 4) (.tmp 36)) rfl ?_); refine store_blk rfl 39 (.tmp 4) (.tmp 36) rfl E (ten z39 (.slice none 0 0) (.slice none 0 0)) (ten x (.slice A1 n1 c1) (.slice A8 n8 c8)) rfl rfl HE5.out rfl size39 (ten_one _ rfl rfl) ?_; intro w9 k9 hk9 hb9; have HE9 := Aside0.mk k9; have HK9 := Aside0.mk hk9; have HB9 := Aside0.mk (hb9 w HEG.out HB5.out); clear k9 hk9 hb9))
    ((try simp only [Exit.inBlock, Exit.then]); refine bodyPost_ret (results_ct rfl _ _ E _ rfl (run_loadVar_mid _ _ _ 39 _ _ (range_blk HE9.out) Try.underlying39 rfl size39)) rfl ?_)
    rw [HT.out]
    exact ⟨_, _, rfl, ⟨Kd.R_below HR1.out HB9.out, Kd.R_below HR8.out HB9.out⟩, HB9.out⟩
  · have q1 : (n8 : Int) ≥ 8 := by omega
    have HT := Aside0.mk (show changeT x ⟨4, tn, k, lm, qu, ri, who⟩ = (5, x) from reader_full rfl (fun h => by rw [decide_eq_true h] at hbm; cases hbm) (by omega))
    clear h1 h8 hu hf hn8 hb hF hbm hc
    unfold chg ten
    go_enter Try.func48, Try.ntmps48
    go_wp2_with (first
      | ((with_reducible refine gate_dst (N := 2) rfl ?_); refine box_event ?hg (N := 2) ?hd (cs := (ten x (.slice A1 n1 c1) (.slice A8 n8 c8)).toArray) (t := 39) ?hr ?_; (case hd => rfl); (case hg => rfl); (case hr => first | (go_simp; done) | (go_simp; rfl)); intro B hB w1 k1 hb1; have HB1 := Aside0.mk hb1; have HX1 := Aside0.mk k1; have HBG := Aside0.mk (show w.heap.size ≤ B by omega); clear hB k1 hb1)
      | ((with_reducible refine gate_dst (N := 3) rfl ?_); refine box_event ?hg (N := 3) ?hd (cs := (chg ⟨4, tn, k, lm, qu, ri, who⟩).toArray) (t := 27) ?hr ?_; (case hd => rfl); (case hg => rfl); (case hr => first | (go_simp; done) | (go_simp; rfl)); intro X hX w2 k2 hb2; have HB2 := Aside0.mk (below_step HB1.out hb2); have HX2 := Aside0.mk ((hb2.block B (heap_lt HX1.out)).trans HX1.out); have HC2 := Aside0.mk k2; clear hX k2 hb2)
      | ((with_reducible refine gate_dst (N := 4) rfl ?_); refine box_event ?hg (N := 4) ?hd (cs := (ten z39 (.slice none 0 0) (.slice none 0 0)).toArray) (t := 39) ?hr ?_; (case hd => rfl); (case hg => rfl); (case hr => first | (go_simp; done) | (go_simp; rfl)); intro E hE w3 k3 hb3; have HB3 := Aside0.mk (below_step HB2.out hb3); have HX3 := Aside0.mk ((hb3.block B (heap_lt HX2.out)).trans HX2.out); have HC3 := Aside0.mk ((hb3.block X (heap_lt HC2.out)).trans HC2.out); have HE3 := Aside0.mk k3; have HEG := Aside0.mk (show w.heap.size ≤ E by have := HB2.out.size; omega); have HEB := Aside0.mk (show E ≠ B by have := heap_lt HX2.out; omega); obtain ⟨z1, z8, f1, f8⟩ := cells9 HX3.out; have y0 := (cellsX HC3.out).1; have y6 := (cellsX HC3.out).2.2.2.2.2.2.2.2.2.2; (try dsimp only at y0 y6); clear hE k3 hb3)
      | (go_at_call 18; (with_reducible refine (In_calls who (R_len (Kd.R_below HR8.out HB3.out)).1 HN.out.1 (R_len (Kd.R_below HR8.out HB3.out)).2 (by have := HN.out; omega)).mono ?_); rintro e w4 ⟨rfl, hb⟩; rw [← HBM.out]; have HB4 := Aside0.mk (below_step HB3.out hb); have HX4 := Aside0.mk ((hb.block B (heap_lt HX3.out)).trans HX3.out); have HC4 := Aside0.mk ((hb.block X (heap_lt HC3.out)).trans HC3.out); have HE4 := Aside0.mk ((hb.block E (heap_lt HE3.out)).trans HE3.out); clear z1 z8 f1 f8 y0 y6 hb; obtain ⟨z1, z8, f1, f8⟩ := cells9 HX4.out; have y0 := (cellsX HC4.out).1; have y6 := (cellsX HC4.out).2.2.2.2.2.2.2.2.2.2; (try dsimp only at y0 y6))
      | (go_at_call 64; (with_reducible refine (without_calls who (R_len (Kd.R_below HR8.out HB4.out)).1 HN.out.1 (R_len (Kd.R_below HR8.out HB4.out)).2 (by have := HN.out; omega)).mono ?_); rintro e w5 ⟨v7, rfl, hv7, hb⟩; rw [← HF.out] at hv7; obtain ⟨A7, c7, hvs⟩ := Kd.R_slice hv7; subst hvs; have HVN := Aside0.mk (show ∀ k, (Value.slice A7 F.length c7).ownBlock = some k → w.heap.size ≤ k from fun k hk => Nat.le_trans HB4.out.size (Kd.R_base hv7 k hk)); have HV7 := Aside0.mk (Kd.R_lower (base' := base) hv7 (by have := HB4.out.size; have := HBS.out; omega)); have HB5 := Aside0.mk (below_step HB4.out hb); have HX5 := Aside0.mk ((hb.block B (heap_lt HX4.out)).trans HX4.out); have HC5 := Aside0.mk ((hb.block X (heap_lt HC4.out)).trans HC4.out); have HE5 := Aside0.mk ((hb.block E (heap_lt HE4.out)).trans HE4.out); clear z1 z8 f1 f8 y0 y6 hb hv7; obtain ⟨z1, z8, f1, f8⟩ := cells9 HX5.out; have y0 := (cellsX HC5.out).1; have y6 := (cellsX HC5.out).2.2.2.2.2.2.2.2.2.2; (try dsimp only at y0 y6))
      | ((with_reducible refine gate_ (.load 39 (.tmp 2)) rfl ?_); refine load_blk rfl 39 (.tmp 2) rfl B rfl (ten x (.slice A1 n1 c1) (.slice A8 n8 c8)) HX5.out _ Try.underlying39 rfl size39 ?_)
      | ((with_reducible refine gate_ (.store 39 (.tmp 4) (.tmp 42)) rfl ?_); refine store_blk rfl 39 (.tmp 4) (.tmp 42) rfl E (ten z39 (.slice none 0 0) (.slice none 0 0)) (ten x (.slice A1 n1 c1) (.slice A8 n8 c8)) rfl rfl HE5.out rfl size39 (ten_one _ rfl rfl) ?_; intro w9 k9 hk9 hb9; have HE9 := Aside0.mk k9; have HK9 := Aside0.mk hk9; have HB9 := Aside0.mk (hb9 w HEG.out HB5.out); clear k9 hk9 hb9))
    ((try simp only [Exit.inBlock, Exit.then]); refine bodyPost_ret (results_ct rfl _ _ E _ rfl (run_loadVar_mid _ _ _ 39 _ _ (range_blk HE9.out) Try.underlying39 rfl size39)) rfl ?_)
    rw [HT.out]
    exact ⟨_, _, rfl, ⟨Kd.R_below HR1.out HB9.out, Kd.R_below HR8.out HB9.out⟩, HB9.out⟩
  · have q1 : ¬ (n8 : Int) ≥ 8 := by omega
    have HT := Aside0.mk (show changeT x ⟨4, tn, k, lm, qu, ri, who⟩ = (0, { x with f5 := F ++ [who] }) from by rw [hF]; exact reader_allow rfl (fun h => by rw [decide_eq_true h] at hbm; cases hbm) (by omega))
    clear h1 h8 hu hf hn8 hb hF hbm hc
    unfold chg ten
    go_enter Try.func48, Try.ntmps48
    go_wp2_with (first
      | ((with_reducible refine gate_dst (N := 2) rfl ?_); refine box_event ?hg (N := 2) ?hd (cs := (ten x (.slice A1 n1 c1) (.slice A8 n8 c8)).toArray) (t := 39) ?hr ?_; (case hd => rfl); (case hg => rfl); (case hr => first | (go_simp; done) | (go_simp; rfl)); intro B hB w1 k1 hb1; have HB1 := Aside0.mk hb1; have HX1 := Aside0.mk k1; have HBG := Aside0.mk (show w.heap.size ≤ B by omega); clear hB k1 hb1)
      | ((with_reducible refine gate_dst (N := 3) rfl ?_); refine box_event ?hg (N := 3) ?hd (cs := (chg ⟨4, tn, k, lm, qu, ri, who⟩).toArray) (t := 27) ?hr ?_; (case hd => rfl); (case hg => rfl); (case hr => first | (go_simp; done) | (go_simp; rfl)); intro X hX w2 k2 hb2; have HB2 := Aside0.mk (below_step HB1.out hb2); have HX2 := Aside0.mk ((hb2.block B (heap_lt HX1.out)).trans HX1.out); have HC2 := Aside0.mk k2; clear hX k2 hb2)
      | ((with_reducible refine gate_dst (N := 4) rfl ?_); refine box_event ?hg (N := 4) ?hd (cs := (ten z39 (.slice none 0 0) (.slice none 0 0)).toArray) (t := 39) ?hr ?_; (case hd => rfl); (case hg => rfl); (case hr => first | (go_simp; done) | (go_simp; rfl)); intro E hE w3 k3 hb3; have HB3 := Aside0.mk (below_step HB2.out hb3); have HX3 := Aside0.mk ((hb3.block B (heap_lt HX2.out)).trans HX2.out); have HC3 := Aside0.mk ((hb3.block X (heap_lt HC2.out)).trans HC2.out); have HE3 := Aside0.mk k3; have HEG := Aside0.mk (show w.heap.size ≤ E by have := HB2.out.size; omega); have HEB := Aside0.mk (show E ≠ B by have := heap_lt HX2.out; omega); obtain ⟨z1, z8, f1, f8⟩ := cells9 HX3.out; have y0 := (cellsX HC3.out).1; have y6 := (cellsX HC3.out).2.2.2.2.2.2.2.2.2.2; (try dsimp only at y0 y6); clear hE k3 hb3)
      | (go_at_call 18; (with_reducible refine (In_calls who (R_len (Kd.R_below HR8.out HB3.out)).1 HN.out.1 (R_len (Kd.R_below HR8.out HB3.out)).2 (by have := HN.out; omega)).mono ?_); rintro e w4 ⟨rfl, hb⟩; rw [← HBM.out]; have HB4 := Aside0.mk (below_step HB3.out hb); have HX4 := Aside0.mk ((hb.block B (heap_lt HX3.out)).trans HX3.out); have HC4 := Aside0.mk ((hb.block X (heap_lt HC3.out)).trans HC3.out); have HE4 := Aside0.mk ((hb.block E (heap_lt HE3.out)).trans HE3.out); clear z1 z8 f1 f8 y0 y6 hb; obtain ⟨z1, z8, f1, f8⟩ := cells9 HX4.out; have y0 := (cellsX HC4.out).1; have y6 := (cellsX HC4.out).2.2.2.2.2.2.2.2.2.2; (try dsimp only at y0 y6))
      | (go_at_call 64; (with_reducible refine (without_calls who (R_len (Kd.R_below HR8.out HB4.out)).1 HN.out.1 (R_len (Kd.R_below HR8.out HB4.out)).2 (by have := HN.out; omega)).mono ?_); rintro e w5 ⟨v7, rfl, hv7, hb⟩; rw [← HF.out] at hv7; obtain ⟨A7, c7, hvs⟩ := Kd.R_slice hv7; subst hvs; have HVN := Aside0.mk (show ∀ k, (Value.slice A7 F.length c7).ownBlock = some k → w.heap.size ≤ k from fun k hk => Nat.le_trans HB4.out.size (Kd.R_base hv7 k hk)); have HV7 := Aside0.mk (Kd.R_lower (base' := base) hv7 (by have := HB4.out.size; have := HBS.out; omega)); have HB5 := Aside0.mk (below_step HB4.out hb); have HX5 := Aside0.mk ((hb.block B (heap_lt HX4.out)).trans HX4.out); have HC5 := Aside0.mk ((hb.block X (heap_lt HC4.out)).trans HC4.out); have HE5 := Aside0.mk ((hb.block E (heap_lt HE4.out)).trans HE4.out); clear z1 z8 f1 f8 y0 y6 hb hv7; obtain ⟨z1, z8, f1, f8⟩ := cells9 HX5.out; have y0 := (cellsX HC5.out).1; have y6 := (cellsX HC5.out).2.2.2.2.2.2.2.2.2.2; (try dsimp only at y0 y6))
      | ((with_reducible refine gate_builtin (b := .append) (xs := #[.tmp 43, .tmp 46]) rfl ?_); at_builtin; refine Kd.R_append Kd.string (w0 := w) base rfl (.tmp 43) (.tmp 46) 37 9 (.string ⟨#[]⟩) 16 rfl Try.underlying37 info9 rfl (by decide) (by decide) (.slice A7 F.length c7) F who [.string who] (fun _ => True) (fun _ => False) rfl rfl ?aP (fun _ hk => hk.elim) ?aF ?aO ?aB ?aS ?aL ?_; (case aP => exact rfl); (case aB => exact (HB5.out.mono HBS.out)); (case aF => exact (fun _ _ => trivial)); (case aO => exact HV7.out); (case aS => exact Nat.le_trans HBS.out HB5.out.size); (case aL => have := HFL.out; omega); intro v9 w6 ho hb hg hat; obtain ⟨A9, c9, hvs⟩ := Kd.R_slice ho; subst hvs; generalize (F ++ [who]).length = n9 at *; have HV9 := Aside0.mk ho; have HG6 := Aside0.mk hg; have HX6 := Aside0.mk ((hg.block B (heap_lt HX5.out) (own_type HV7.out HX5.out (by decide))).trans HX5.out); have HE6 := Aside0.mk ((hg.block E (heap_lt HE5.out) (own_type HV7.out HE5.out (by decide))).trans HE5.out); have HB6 := Aside0.mk (show Below w.heap.size w w6 from pw_below_grown HB5.out _ HB5.out.size hg (fun k hk => HVN.out k hk)); have HR6 := Aside0.mk (Kd.R_drop (Kd.R_grown (Kd.R_apartR (Kd.R_below HR1.out HB5.out) HV7.out (by decide)) hg (fun k hk => hk.2))); clear z1 z8 f1 f8 y0 y6 ho hb hg hat; obtain ⟨z1, z8, f1, f8⟩ := cells9 HX6.out)
      | ((with_reducible refine gate_ (.load 39 (.tmp 2)) rfl ?_); refine load_blk rfl 39 (.tmp 2) rfl B rfl (ten ({ x with f5 := F ++ [who] } : S39) (.slice A1 n1 c1) (.slice A9 n9 c9)) (blk_put HX6.out 8 (.slice A9 n9 c9) rfl) _ Try.underlying39 rfl size39 ?_)
      | ((with_reducible refine gate_ (.store 39 (.tmp 4) (.tmp 49)) rfl ?_); refine store_blk rfl 39 (.tmp 4) (.tmp 49) rfl E (ten z39 (.slice none 0 0) (.slice none 0 0)) (ten ({ x with f5 := F ++ [who] } : S39) (.slice A1 n1 c1) (.slice A9 n9 c9)) rfl rfl ((Below.heap_setCell _ _ _ E (fun e => HEB.out e)).trans HE6.out) rfl size39 (ten_one _ rfl (one_of_R HV9.out)) ?_; intro w9 k9 hk9 hb9; have HE9 := Aside0.mk k9; have HK9 := Aside0.mk hk9; have HB9 := Aside0.mk (hb9 w HEG.out (below_set HB6.out HBG.out)); clear k9 hk9 hb9))
    ((try simp only [Exit.inBlock, Exit.then]); refine bodyPost_ret (results_ct rfl _ _ E _ rfl (run_loadVar_mid _ _ _ 39 _ _ (range_blk HE9.out) Try.underlying39 rfl size39)) rfl ?_)
    rw [HT.out]
    refine ⟨_, _, rfl, ⟨Kd.R_below HR1.out HB9.out, ?_⟩, HB9.out⟩
    exact Kd.R_drop (Kd.R_step (Kd.R_types (Kd.R_set HV9.out HX6.out (by decide) 8 _) ((Below.heap_setCell _ _ _ E (fun e => HEB.out e)).trans HE6.out) (by decide)) (fun k hk _ => HK9.out k hk.2))
end Go.Proofs.Yticoaaddhhiglaa.T
/- The document's table by hand: add (mkT29.py). -/
namespace Go.Proofs.Yticoaaddhhiglaa.T
open Go.RowKit Go.Proofs.Yticoaaddhhiglaa.Q Go.Proofs.YticoaaddhhiglaaW.PrintWords Go.Proofs.YticoaaddhhiglaaW.PrintLast Go.Proofs.YticoaaddhhiglaaW.PrintMore
set_option linter.unusedVariables false
set_option linter.unusedSimpArgs false
theorem info39 : (Try.prog.info? 39).map (fun i => (i.zero, i.size, i.bytes)) = some (some (.agg #[.string ⟨#[]⟩, .slice none 0 0, .int .i64 0, .int .i64 0, .int .i64 0, .int .i64 0, .int .i64 0, .int .i64 0, .slice none 0 0]), 9, 112) := by kernel_rfl
def lowT (st : St) (x : S39) : St := st.filter (fun y => decide (Lt y.f0 x.f0))
def highT (st : St) (x : S39) : St := st.filter (fun y => decide (Lt x.f0 y.f0))
def addT (st : St) (x : S39) : St := lowT st x ++ [x] ++ highT st x
theorem addT_put : ∀ {st : St} {x : S39}, Sorted st → look st x.f0 = none → addT st x = put st x
  | [], x, _, _ => rfl
  | y :: r, x, hs, hl => by
    have hs' := List.pairwise_cons.1 hs
    unfold look at hl
    by_cases e : y.f0 = x.f0
    · rw [if_pos e] at hl; cases hl
    rw [if_neg e] at hl
    have ih := addT_put hs'.2 hl
    unfold put
    rw [if_neg (fun h => e h.symm)]
    by_cases hlt : Lt x.f0 y.f0
    · rw [if_pos hlt]
      have hr : ∀ z ∈ r, Lt x.f0 z.f0 := fun z hz => hlt.trans (hs'.1 z hz)
      have h1 : lowT (y :: r) x = [] := by
        unfold lowT
        rw [List.filter_eq_nil_iff]
        intro z hz
        rcases List.mem_cons.1 hz with rfl | hz
        · simpa using fun h => hlt.asymm h
        · simpa using fun h => (hr z hz).asymm h
      have h2 : highT (y :: r) x = y :: r := by
        unfold highT
        rw [List.filter_eq_self]
        intro z hz
        rcases List.mem_cons.1 hz with rfl | hz
        · simpa using hlt
        · simpa using hr z hz
      unfold addT
      rw [h1, h2]
      rfl
    · rw [if_neg hlt, ← ih]
      have hly : Lt y.f0 x.f0 := by
        rcases Lt.total x.f0 y.f0 with h | h | h
        · exact absurd h hlt
        · exact absurd h.symm e
        · exact h
      have h1 : lowT (y :: r) x = y :: lowT r x := by
        unfold lowT
        rw [List.filter_cons_of_pos (by simpa using hly)]
      have h2 : highT (y :: r) x = highT r x := by
        unfold highT
        rw [List.filter_cons_of_neg (by simpa using hlt)]
      unfold addT
      rw [h1, h2]
      rfl
theorem gtr_run {s t : ByteArray} (hne : s ≠ t) (b : Bool) (hb : b = decide (Lt t s)) : ∀ W : World, (binOp .gtr 9 (.string s) (.string t)).run Try.prog W = .ok (.bool b) W := fun W => by
  have h : Op.bytesLess t.toList s.toList = b := by
    rw [hb]
    by_cases h : Lt t s
    · rw [decide_eq_true h]; exact (bytesLess_iff _ _).2 h
    · rw [decide_eq_false h]
      cases hq : Op.bytesLess t.toList s.toList
      · rfl
      · exact absurd ((bytesLess_iff _ _).1 hq) h
  have h2 : Op.bytesLess s.toList t.toList = !b := by
    rw [hb]
    by_cases h : Lt s t
    · rw [(bytesLess_iff _ _).2 h, decide_eq_false (fun h' => h.asymm h')]; rfl
    · have ht : Lt t s := by
        rcases Lt.total s t with h' | h' | h'
        · exact absurd h' h
        · exact absurd h' hne
        · exact h'
      rw [decide_eq_true ht]
      cases hq : Op.bytesLess s.toList t.toList
      · rfl
      · exact absurd ((bytesLess_iff _ _).1 hq) h
  have h3 : ¬ s.toList = t.toList := fun e => hne (str_inj e)
  simp [binOp, Op.stringOp, h, h2, h3]
theorem less_true {s t : ByteArray} (h : Lt s t) : Op.bytesLess s.toList t.toList = true := (bytesLess_iff _ _).2 h
theorem less_false {s t : ByteArray} (h : ¬ Lt s t) : Op.bytesLess s.toList t.toList = false := by
  cases hq : Op.bytesLess s.toList t.toList
  · rfl
  · exact absurd ((bytesLess_iff _ _).1 hq) h
theorem low_take {st : St} {x : S39} {i : Nat} {y : S39} (hy : st[i]? = some y) : lowT (st.take (i + 1)) x = lowT (st.take i) x ++ (if Lt y.f0 x.f0 then [y] else []) := by
  unfold lowT
  rw [List.take_add_one, hy, Option.toList_some, List.filter_append]
  congr 1
  by_cases h : Lt y.f0 x.f0 <;> simp [h]
theorem high_take {st : St} {x : S39} {i : Nat} {y : S39} (hy : st[i]? = some y) : highT (st.take (i + 1)) x = highT (st.take i) x ++ (if Lt x.f0 y.f0 then [y] else []) := by
  unfold highT
  rw [List.take_add_one, hy, Option.toList_some, List.filter_append]
  congr 1
  by_cases h : Lt x.f0 y.f0 <;> simp [h]
theorem apartok {α β : Type} {d : Kd α} {d' : Kd β} {e e' base base' : Nat} {w : World} {v v' : Value} {xs : List α} {ys : List β} (h : d.R e w base (fun _ => True) v xs) (h' : d'.R e' w base' (fun _ => True) v' ys) (ht : ∀ q ∈ e :: d.E, q ≠ e') : d.R e w base (fun k => some k ≠ v'.ownBlock) v xs :=
  Kd.R_mono (Kd.R_apartR h h' ht) (fun k hk => hk.2)
/-- A row that is being made. -/
structure MkT (w0 w : World) (B : Nat) (cs : Array Value) (v : Value) (xs : St) (wr : World) : Prop where
  row : k39.R 39 wr w0.heap.size (fun _ => True) v xs
  new : ∀ k, v.ownBlock = some k → w.heap.size ≤ k
  blk : wr.heap[B]? = some (.cells cs 39 (0, 0))
  ne : some B ≠ v.ownBlock
  below : Below w.heap.size w wr
theorem MkT.then_ {w0 w : World} {B : Nat} {cs : Array Value} {v : Value} {xs : St} {wr w' : World} (h : MkT w0 w B cs v xs wr) (hb : Below wr.heap.size wr w') : MkT w0 w B cs v xs w' :=
  ⟨Kd.R_below h.row hb, h.new, (hb.block B (heap_lt h.blk)).trans h.blk, h.ne, below_step h.below hb⟩
theorem MkT.grow {w0 w : World} {B : Nat} {cs : Array Value} {v : Value} {xs : St} {wr w' : World} (h : MkT w0 w B cs v xs wr) {v' : Value} {xs' : St} (ho : k39.R 39 w' w0.heap.size (fun _ => True) v' xs') (hg : wr.grownBy w' v.ownBlock) (hat : v'.ownBlock = v.ownBlock ∨ ∃ b, v'.ownBlock = some b ∧ wr.heap.size ≤ b) : MkT w0 w B cs v' xs' w' :=
  ⟨ho, fun k hk => by
    rcases hat with e | ⟨b, e, hb⟩
    · exact h.new k (e ▸ hk)
    · rw [e] at hk; injection hk with hk; have := h.below.size; omega,
   (hg.block B (heap_lt h.blk) h.ne).trans h.blk, fun e' => by
    rcases hat with e | ⟨b, e, hb⟩
    · exact h.ne (e'.trans e)
    · rw [e] at e'; injection e' with e'; have := heap_lt h.blk; omega,
   pw_below_grown h.below _ h.below.size hg (fun k hk => h.new k hk)⟩
set_option maxHeartbeats 8000000 in
set_option maxRecDepth 100000 in
theorem radd_calls {w0 w : World} {g : Nat} {st : St} (h : RefT w0 g st w) (hf : st.length ≤ 100) {x : S39} {A1 : Option Addr} {n1 c1 : Nat} {A8 : Option Addr} {n8 c8 : Nat} (h1 : k23.R 23 w w0.heap.size (fun _ => True) (.slice A1 n1 c1) x.f1) (h8 : Kd.string.R 9 w w0.heap.size (fun _ => True) (.slice A8 n8 c8) x.f5) (hno : ∀ y ∈ st, y.f0 ≠ x.f0) :
    Calls Try.prog 45 #[.pointer (some ⟨g, 0, none⟩), .agg (ten x (.slice A1 n1 c1) (.slice A8 n8 c8)).toArray] w fun e w' => e = .returned (.tuple #[]) ∧ RefT w0 g (addT st x) w' ∧ Chg (fun k => k = g) w w' := by
  have HT := Aside0.mk h
  obtain ⟨A, c, hg, hR⟩ := h.row
  obtain ⟨n, hn⟩ : ∃ n : Nat, n = st.length := ⟨_, rfl⟩
  rw [← hn] at hg hR hf
  have HG := Aside0.mk hg
  have HR := Aside0.mk hR
  have HR1 := Aside0.mk h1
  have HR8 := Aside0.mk h8
  have HN := Aside0.mk (And.intro hn hf)
  have HNO := Aside0.mk hno
  have HBS := Aside0.mk (show w0.heap.size ≤ w.heap.size from h.below.size)
  clear h hg hR h1 h8 hn hf hno
  unfold ten
  go_enter Try.func45, Try.ntmps45
  go_wp2_with (first
    | ((with_reducible refine gate_dst (N := 3) rfl ?_); refine box_event ?hg (N := 3) ?hd (cs := (ten x (.slice A1 n1 c1) (.slice A8 n8 c8)).toArray) (t := 39) ?hr ?_; (case hd => rfl); (case hg => rfl); (case hr => first | (go_simp; done) | (go_simp; rfl)); intro B hB w1 k1 hb1; have HX1 := Aside0.mk k1; have HB1 := Aside0.mk hb1; clear hB k1 hb1)
    | ((with_reducible refine gate_dst (N := 9) rfl ?_); refine Kd.R_lit k39 (w0 := w1) w1.heap.size 39 ?hg (N := 9) ?hd (xs := ([] : St)) (inner := []) (ok := fun _ => True) (okp := fun _ => True) ?hr ?hp (fun _ hk => hk) trivial (Below.refl _ _) (Nat.le_refl _) (by simp) ?_; (case hd => rfl); (case hg => rfl); (case hr => first | (go_simp; done) | (go_simp; rfl)); (case hp => exact (Reps.none _ _)); intro v2 w2 ho hb hg_ hnew_; have H2 := Aside0.mk (show MkT w0 w B (ten x (.slice A1 n1 c1) (.slice A8 n8 c8)).toArray v2 [] w2 from ⟨Kd.R_lower ho (Nat.le_trans HBS.out HB1.out.size), (fun k hk => by obtain ⟨b', e, h'⟩ := hnew_; rw [e] at hk; injection hk with hk; have := HB1.out.size; omega), (hb.block B (heap_lt HX1.out)).trans HX1.out, (fun e' => by obtain ⟨b', e, h'⟩ := hnew_; rw [e] at e'; injection e' with e'; have := heap_lt HX1.out; omega), below_step HB1.out hb⟩); have z0 := R_cells ((H2.out.below.block g (heap_lt HG.out)).trans HG.out); clear ho hb hg_ hnew_))
  clear z0
  go_loopg [4, 15] (n + 1) (fun kq v4 v15 wr => ∃ (i : Nat), v15 = .int .i64 i ∧ Aside0 (kq + i = n + 1 ∧ i ≤ n) ∧ Aside0 (MkT w0 w B (ten x (.slice A1 n1 c1) (.slice A8 n8 c8)).toArray v4 (lowT (st.take i) x) wr))
  case atStart => exact ⟨0, rfl, ⟨by omega⟩, H2⟩
  case round =>
    obtain ⟨i, rfl, HK, HL⟩ := hrel
    cases gk with
    | zero => have := HK.out; omega
    | succ k1 =>
    obtain ⟨b0, b1, b2, b3, b4, b5, b6, b7, b8⟩ := cellsT HL.out.blk
    by_cases hlt : i < n
    · have hi0 : (0 : Int) ≤ (i : Int) := by omega
      have hi1 : (i : Int) < (n : Int) := by omega
      obtain ⟨y, hy⟩ : ∃ y, st[i]? = some y := ⟨_, List.getElem?_eq_getElem (by have := HN.out.1; omega)⟩
      have HTK := Aside0.mk (low_take (x := x) hy)
      have HLN := Aside0.mk (show (lowT (st.take i) x).length ≤ 100 from Nat.le_trans (List.length_filter_le _ _) (by rw [List.length_take]; have := HN.out; omega))
      obtain ⟨ad, Y1, d1, Y8, d8, hA, hcell, hRY⟩ := lent39w HR.out hy
      obtain ⟨x0, x1, x2, x3, x4, x5, x6, x7, x8⟩ := hcell wr HL.out.below
      have HRY := Aside0.mk hRY
      subst hA
      clear hlt hy hcell hRY
      generalize lowT (st.take i) x = OUT at *
      have cb0 := pw_cell_below (below_alloc (Below.refl wr.heap.size wr) (.cells #[.string y.f0, .slice Y1 y.f1.length d1, .int .i64 y.f2.f0, .int .i64 y.f2.f1, .int .i64 y.f2.f2, .int .i64 y.f2.f3, .int .i64 y.f3, .int .i64 y.f4, .slice Y8 y.f5.length d8] 39)) b0
      by_cases e : Lt y.f0 x.f0
      · have hbl := less_true e
        rw [if_pos e] at HTK
        clear e
        go_wp2_with (first
          | ((with_reducible refine gate_builtin (b := .append) (xs := #[.tmp 24, .tmp 26]) rfl ?_); at_builtin; refine Kd.R_append k39 (w0 := w0) w0.heap.size rfl (.tmp 24) (.tmp 26) 50 39 (.agg #[.string ⟨#[]⟩, .slice none 0 0, .int .i64 0, .int .i64 0, .int .i64 0, .int .i64 0, .int .i64 0, .int .i64 0, .slice none 0 0]) 112 rfl Try.underlying50 info39 rfl (by decide) (by decide) u4 OUT y [.string y.f0, .slice Y1 y.f1.length d1, .int .i64 y.f2.f0, .int .i64 y.f2.f1, .int .i64 y.f2.f2, .int .i64 y.f2.f3, .int .i64 y.f3, .int .i64 y.f4, .slice Y8 y.f5.length d8] (fun _ => True) (fun k => some k ≠ (u4).ownBlock) rfl (by show Value.slice (some ⟨wr.heap.size + 1, 0, none⟩) 1 1 = _; simp) ?aP (fun k hk => ⟨trivial, hk⟩) ?aF ?aO ?aB ?aS ?aL ?_; (case aP => exact k39_mkM _ _ _ y (apartok (Kd.R_below HRY.out.1 ((HL.out.then_ (below_alloc (Below.refl _ _) _)).below)) ((HL.out.then_ (below_alloc (Below.refl _ _) _)).row) (by decide)) (apartok (Kd.R_below HRY.out.2 ((HL.out.then_ (below_alloc (Below.refl _ _) _)).below)) ((HL.out.then_ (below_alloc (Below.refl _ _) _)).row) (by decide))); (case aB => exact (HT.out.below.trans (((HL.out.then_ (below_alloc (Below.refl _ _) _))).below.mono HBS.out))); (case aF => exact (fun _ _ => trivial)); (case aO => exact ((HL.out.then_ (below_alloc (Below.refl _ _) _))).row); (case aS => exact Nat.le_trans HBS.out ((HL.out.then_ (below_alloc (Below.refl _ _) _))).below.size); (case aL => have := HLN.out; omega); intro v6 w6 ho hb hg hat; have H6 := Aside0.mk (((HL.out.then_ (below_alloc (Below.refl _ _) _))).grow ho hg hat); clear ho hb hg hat))
        go_roundg k1
        case measure => omega
        case rel => exact ⟨i + 1, by first | rfl | (simp; done) | (rw [wrap_id (n := (i : Int) + 1) (by omega) (by have := HN.out.2; omega)]; first | rfl | (simp; done)), ⟨by have := HK.out; omega⟩, ⟨by rw [HTK.out]; exact H6.out⟩⟩
      · have hbl := less_false e
        rw [if_neg e, List.append_nil] at HTK
        clear e
        go_wp2
        go_roundg k1
        case measure => omega
        case rel => exact ⟨i + 1, by first | rfl | (simp; done) | (rw [wrap_id (n := (i : Int) + 1) (by omega) (by have := HN.out.2; omega)]; first | rfl | (simp; done)), ⟨by have := HK.out; omega⟩, ⟨by rw [HTK.out]; exact HL.out.then_ (below_alloc (Below.refl _ _) _)⟩⟩
    · have hi : i = n := by have := HK.out; omega
      subst hi
      have htk : st.take i = st := List.take_of_length_le (by have := HN.out.1; omega)
      rw [htk] at HL
      have HLN := Aside0.mk (show (lowT st x).length ≤ 100 from Nat.le_trans (List.length_filter_le _ _) (by have := HN.out; omega))
      clear htk hlt
      rename World => wo
      go_wp2_with (first
        | ((with_reducible refine gate_builtin (b := .append) (xs := #[.tmp 29, .tmp 31]) rfl ?_); at_builtin; refine Kd.R_append k39 (w0 := w0) w0.heap.size rfl (.tmp 29) (.tmp 31) 50 39 (.agg #[.string ⟨#[]⟩, .slice none 0 0, .int .i64 0, .int .i64 0, .int .i64 0, .int .i64 0, .int .i64 0, .int .i64 0, .slice none 0 0]) 112 rfl Try.underlying50 info39 rfl (by decide) (by decide) u4 (lowT st x) x [.string x.f0, .slice A1 n1 c1, .int .i64 x.f2.f0, .int .i64 x.f2.f1, .int .i64 x.f2.f2, .int .i64 x.f2.f3, .int .i64 x.f3, .int .i64 x.f4, .slice A8 n8 c8] (fun _ => True) (fun k => some k ≠ (u4).ownBlock) rfl rfl ?aP (fun k hk => ⟨trivial, hk⟩) ?aF ?aO ?aB ?aS ?aL ?_; (case aP => exact k39_mkM _ _ _ x (apartok (Kd.R_below HR1.out (HL.out.below)) (HL.out.row) (by decide)) (apartok (Kd.R_below HR8.out (HL.out.below)) (HL.out.row) (by decide))); (case aB => exact (HT.out.below.trans ((HL.out).below.mono HBS.out))); (case aF => exact (fun _ _ => trivial)); (case aO => exact (HL.out).row); (case aS => exact Nat.le_trans HBS.out (HL.out).below.size); (case aL => have := HLN.out; omega); intro v6 w6 ho hb hg hat; have H7 := Aside0.mk ((HL.out).grow ho hg hat); clear ho hb hg hat; have z0 := R_cells ((H7.out.below.block g (heap_lt HG.out)).trans HG.out)))
      clear z0
      go_loopg [4, 38] (i + 1) (fun kq v4 v38 wr => ∃ (j : Nat), v38 = .int .i64 j ∧ Aside0 (kq + j = i + 1 ∧ j ≤ i) ∧ Aside0 (MkT w0 w B (ten x (.slice A1 n1 c1) (.slice A8 n8 c8)).toArray v4 (lowT st x ++ [x] ++ highT (st.take j) x) wr))
      case atStart => exact ⟨0, rfl, ⟨by omega⟩, ⟨by simpa [highT] using H7.out⟩⟩
      case round =>
        obtain ⟨j, rfl, HJ, HL7⟩ := hrel
        cases gk with
        | zero => have := HJ.out; omega
        | succ k1 =>
        obtain ⟨b0, b1, b2, b3, b4, b5, b6, b7, b8⟩ := cellsT HL7.out.blk
        by_cases hlt : j < i
        · have hi0 : (0 : Int) ≤ (j : Int) := by omega
          have hi1 : (j : Int) < (i : Int) := by omega
          obtain ⟨y, hy⟩ : ∃ y, st[j]? = some y := ⟨_, List.getElem?_eq_getElem (by have := HN.out.1; omega)⟩
          have HTK := Aside0.mk (high_take (x := x) hy)
          have hne := HNO.out y (List.mem_of_getElem? hy)
          have HLN7 := Aside0.mk (show (lowT st x ++ [x] ++ highT (st.take j) x).length ≤ 300 by
            have h1 := HLN.out
            have h2 : (highT (st.take j) x).length ≤ 100 := Nat.le_trans (List.length_filter_le _ _) (by rw [List.length_take]; have := HN.out; omega)
            simp only [List.length_append, List.length_cons, List.length_nil]
            omega)
          obtain ⟨ad, Y1, d1, Y8, d8, hA, hcell, hRY⟩ := lent39w HR.out hy
          obtain ⟨x0, x1, x2, x3, x4, x5, x6, x7, x8⟩ := hcell wr HL7.out.below
          have HRY := Aside0.mk hRY
          have HTT := Aside0.mk (show lowT st x ++ [x] ++ highT (st.take (j + 1)) x = (lowT st x ++ [x] ++ highT (st.take j) x) ++ (if Lt x.f0 y.f0 then [y] else []) by rw [HTK.out, List.append_assoc (lowT st x ++ [x])])
          subst hA
          clear hlt hy hcell hRY HTK
          generalize lowT st x ++ [x] ++ highT (st.take j) x = OUT at *
          have cb0 := pw_cell_below (below_alloc (Below.refl wr.heap.size wr) (.cells #[.string y.f0, .slice Y1 y.f1.length d1, .int .i64 y.f2.f0, .int .i64 y.f2.f1, .int .i64 y.f2.f2, .int .i64 y.f2.f3, .int .i64 y.f3, .int .i64 y.f4, .slice Y8 y.f5.length d8] 39)) b0
          by_cases e : Lt x.f0 y.f0
          · have hcmp := gtr_run hne true (decide_eq_true e).symm
            rw [if_pos e] at HTT
            clear e hne
            go_wp2_with (first
              | ((with_reducible refine gate_builtin (b := .append) (xs := #[.tmp 47, .tmp 49]) rfl ?_); at_builtin; refine Kd.R_append k39 (w0 := w0) w0.heap.size rfl (.tmp 47) (.tmp 49) 50 39 (.agg #[.string ⟨#[]⟩, .slice none 0 0, .int .i64 0, .int .i64 0, .int .i64 0, .int .i64 0, .int .i64 0, .int .i64 0, .slice none 0 0]) 112 rfl Try.underlying50 info39 rfl (by decide) (by decide) u4 OUT y [.string y.f0, .slice Y1 y.f1.length d1, .int .i64 y.f2.f0, .int .i64 y.f2.f1, .int .i64 y.f2.f2, .int .i64 y.f2.f3, .int .i64 y.f3, .int .i64 y.f4, .slice Y8 y.f5.length d8] (fun _ => True) (fun k => some k ≠ (u4).ownBlock) rfl (by show Value.slice (some ⟨wr.heap.size + 1, 0, none⟩) 1 1 = _; simp) ?aP (fun k hk => ⟨trivial, hk⟩) ?aF ?aO ?aB ?aS ?aL ?_; (case aP => exact k39_mkM _ _ _ y (apartok (Kd.R_below HRY.out.1 ((HL7.out.then_ (below_alloc (Below.refl _ _) _)).below)) ((HL7.out.then_ (below_alloc (Below.refl _ _) _)).row) (by decide)) (apartok (Kd.R_below HRY.out.2 ((HL7.out.then_ (below_alloc (Below.refl _ _) _)).below)) ((HL7.out.then_ (below_alloc (Below.refl _ _) _)).row) (by decide))); (case aB => exact (HT.out.below.trans (((HL7.out.then_ (below_alloc (Below.refl _ _) _))).below.mono HBS.out))); (case aF => exact (fun _ _ => trivial)); (case aO => exact ((HL7.out.then_ (below_alloc (Below.refl _ _) _))).row); (case aS => exact Nat.le_trans HBS.out ((HL7.out.then_ (below_alloc (Below.refl _ _) _))).below.size); (case aL => have := HLN7.out; omega); intro v6 w6 ho hb hg hat; have H6 := Aside0.mk (((HL7.out.then_ (below_alloc (Below.refl _ _) _))).grow ho hg hat); clear ho hb hg hat))
            go_roundg k1
            case measure => omega
            case rel => exact ⟨j + 1, by first | rfl | (simp; done) | (rw [wrap_id (n := (j : Int) + 1) (by omega) (by have := HN.out.2; omega)]; first | rfl | (simp; done)), ⟨by have := HJ.out; omega⟩, ⟨by rw [HTT.out]; exact H6.out⟩⟩
          · have hcmp := gtr_run hne false (decide_eq_false e).symm
            rw [if_neg e, List.append_nil] at HTT
            clear e hne
            go_wp2
            go_roundg k1
            case measure => omega
            case rel => exact ⟨j + 1, by first | rfl | (simp; done) | (rw [wrap_id (n := (j : Int) + 1) (by omega) (by have := HN.out.2; omega)]; first | rfl | (simp; done)), ⟨by have := HJ.out; omega⟩, ⟨by rw [HTT.out]; exact HL7.out.then_ (below_alloc (Below.refl _ _) _)⟩⟩
        · have hj : j = i := by have := HJ.out; omega
          subst hj
          have htk : st.take j = st := List.take_of_length_le (by have := HN.out.1; omega)
          rw [htk] at HL7
          have HE := Aside0.mk (show lowT st x ++ [x] ++ highT st x = addT st x from rfl)
          rw [HE.out] at HL7
          obtain ⟨A9, c9, hv9⟩ := Kd.R_slice HL7.out.row
          subst hv9
          have hgb := (HL7.out.below.block g (heap_lt HG.out)).trans HG.out
          have HGB := Aside0.mk hgb
          have z0 := R_cells hgb
          have fz := blk_frozen hgb 0
          clear htk hlt HE hgb
          obtain ⟨m, hm⟩ : ∃ m, m = (addT st x).length := ⟨_, rfl⟩
          rw [← hm] at HL7 ⊢
          have HM := Aside0.mk hm
          clear hm
          go_wp2_with (fail)
          go_end0
          have hc := (Chg.of_below (fun k => k = g) HL7.out.below).set ⟨g, 0, none⟩ (.slice A9 m c9) rfl
          refine ⟨rfl, ⟨⟨A9, c9, ?_, ?_⟩, ?_, HT.out.hg⟩, hc⟩
          · rw [← HM.out]; exact blk_put HGB.out 0 _ rfl
          · rw [← HM.out]; exact Kd.R_set HL7.out.row HGB.out (by decide) 0 _
          · exact setc_below (HT.out.below.trans (HL7.out.below.mono HBS.out)) HT.out.hg 0 _
end Go.Proofs.Yticoaaddhhiglaa.T
