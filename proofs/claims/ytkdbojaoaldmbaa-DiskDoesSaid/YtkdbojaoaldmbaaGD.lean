import Derived.Test.YtkdbojaoaldmbaaG17
import Derived.Test.YtkdbojaoaldmbaaQ0
/- The document's disk by hand: what it is in memory; at, Size. -/
namespace Go.Proofs.Ytkdbojaoaldmbaa.G
open Go.RowKit Go.Proofs.Ytkdbojaoaldmbaa.Q Go.Proofs.YtkdbojaoaldmbaaW.PrintWords Go.Proofs.YtkdbojaoaldmbaaW.PrintLast Go.Proofs.YtkdbojaoaldmbaaW.PrintMore
set_option linter.unusedVariables false
set_option linter.unusedSimpArgs false
def toS (f : FS) : S71 := ⟨f.n, f.b, f.l⟩
/-- The document's disk in memory: its cells, and a row of files of its own. -/
structure RefG (W : World) (g B : Nat) (room : Int) (st : St) : Prop where
  ex : ∃ v, W.heap[g]? = some (.cells #[.int .i64 room, v] 49 (0, 0)) ∧ k71.R 71 W B (fun k => B ≤ k) v (st.map toS)
  base : B ≤ g
theorem RefG.below {W W' : World} {g B : Nat} {room : Int} {st : St} (h : RefG W g B room st) (hb : Below W.heap.size W W') : RefG W' g B room st := by
  obtain ⟨v, h1, h2⟩ := h.ex
  exact ⟨⟨v, (hb.block g (heap_lt h1)).trans h1, Kd.R_below h2 hb⟩, h.base⟩
theorem RefG.slice {W : World} {g B : Nat} {room : Int} {st : St} (h : RefG W g B room st) : ∃ A c, W.heap[g]? = some (.cells #[.int .i64 room, .slice A st.length c] 49 (0, 0)) ∧ k71.C W A st.length (st.map toS) ∧ st.length ≤ c := by
  obtain ⟨v, h1, h2⟩ := h.ex
  obtain ⟨A, c, hv⟩ := Kd.R_slice h2
  subst hv
  obtain ⟨_, h4, h5⟩ := Kd.R_reads' h2
  rw [List.length_map] at h1 h4 h5
  exact ⟨A, c, h1, h5, h4⟩
theorem rd_map {st : St} {i : Nat} (hi : i < st.length) : rd_T71 (st.map toS) (i : Int) = toS st[i] := by
  unfold rd_T71
  rw [Int.toNat_natCast, List.getD_eq_getElem?_getD, List.getElem?_map, List.getElem?_eq_getElem hi]
  rfl
/-- Where a file stands. -/
def AtR (st : St) (s : ByteArray) (w : World) (e : Ending) (w' : World) : Prop :=
  ((look st s = none ∧ e = .returned (.int .i64 (-1))) ∨ ∃ (i : Nat) (f : FS), look st s = some f ∧ st[i]? = some f ∧ e = .returned (.int .i64 (i : Int))) ∧ Below w.heap.size w w'
theorem look_first : ∀ {st : St} {s : ByteArray} {i : Nat} {f : FS}, (∀ (j : Nat) (g : FS), j < i → st[j]? = some g → g.n ≠ s) → st[i]? = some f → f.n = s → look st s = some f
  | [], s, i, f, h, hi, hn => by simp at hi
  | g :: r, s, 0, f, h, hi, hn => by
    have : g = f := by simpa using hi
    subst this
    unfold look; rw [if_pos hn]
  | g :: r, s, i + 1, f, h, hi, hn => by
    unfold look
    rw [if_neg (h 0 g (by omega) rfl)]
    exact look_first (i := i) (f := f) (fun j g' hj hg => h (j + 1) g' (by omega) (by simpa using hg)) (by simpa using hi) hn
set_option maxHeartbeats 1000000 in
set_option maxRecDepth 100000 in
theorem at_calls {w : World} {g B : Nat} {room : Int} {st : St} (h : RefG w g B room st) (hfew : st.length ≤ 100000) (s : ByteArray) : Calls Try.prog 42 #[.pointer (some ⟨g, 0, none⟩), .string s] w (AtR st s w) := by
  obtain ⟨A, c, h1, h2, h3⟩ := h.slice
  have g1 : w.cell? ⟨g, 1, none⟩ = some (.slice A st.length c) := (blk_cell h1 1).trans rfl
  obtain ⟨n, hn⟩ : ∃ n : Nat, n = st.length := ⟨_, rfl⟩
  rw [← hn] at g1 h2 h3 hfew
  have HN := Aside0.mk hn
  have HC := Aside0.mk h2
  clear h1 h2 h hn
  go_enter Try.func42, Try.ntmps42
  go_wp2
  go_loopg [12] (n + 1) (fun kq v12 wr => ∃ (i : Nat), v12 = .int .i64 i ∧ Aside0 (kq + i = n + 1 ∧ i ≤ n) ∧ Aside0 (Below w.heap.size w wr) ∧ Aside0 (∀ (j : Nat) (g : FS), j < i → st[j]? = some g → g.n ≠ s))
  case atStart => exact ⟨0, rfl, ⟨by omega⟩, ⟨Below.refl _ _⟩, ⟨fun j g hj => absurd hj (Nat.not_lt_zero _)⟩⟩
  case round =>
    obtain ⟨i, rfl, HK, HB, HA⟩ := hrel
    clear g1
    cases gk with
    | zero => have := HK.out; omega
    | succ k1 =>
    by_cases hlt : i < n
    · have hi1 : (i : Int) < (n : Int) := by omega
      have hil : i < st.length := by have := HN.out; omega
      obtain ⟨ad, A1, c1, hAe, x0, x1, x2, hc1, hd1⟩ := at_T71 (Kd.C_below HC.out HB.out) (i : Int) (by omega) (by omega)
      subst hAe
      rw [rd_map hil] at x0 x1 x2 hc1 hd1
      simp only [Int.toNat_natCast, toS] at x0 x1 x2 hc1 hd1
      have hgi := List.getElem?_eq_getElem hil
      generalize st[i] = f at *
      have HG := Aside0.mk hgi
      have HB1 := Aside0.mk (below_alloc HB.out (.cells #[.string f.n, .slice A1 f.b.length c1, .int .i64 f.l] 71))
      clear hgi hd1
      cases hb1 : (f.n.toList == s.toList)
      · have HNE : Aside0 (f.n ≠ s) := ⟨fun e => by rw [e] at hb1; simp at hb1⟩
        go_wp2
        go_roundg k1
        case measure => omega
        case rel => exact ⟨i + 1, by first | rfl | (simp; done) | (rw [wrap_id (n := (i : Int) + 1) (by omega) (by omega)]; first | rfl | (simp; done)), ⟨by have := HK.out; omega⟩, HB1, ⟨fun j g' hj hg => by
          rcases Nat.lt_or_ge j i with h | h
          · exact HA.out j g' h hg
          · have : j = i := by omega
            subst this
            rw [HG.out] at hg
            cases hg
            exact HNE.out⟩⟩
      · have HEQ : Aside0 (f.n = s) := ⟨str_inj (by simpa using hb1)⟩
        go_wp2
        go_ret
        exact ⟨.inr ⟨i, f, look_first HA.out HG.out HEQ.out, HG.out, rfl⟩, HB1.out⟩
    · have hi : i = n := by have := HK.out; omega
      subst hi
      go_wp2
      go_ret
      refine ⟨.inl ⟨look_none.2 (fun f hf e => ?_), rfl⟩, HB.out⟩
      obtain ⟨j, hj⟩ := List.getElem?_of_mem hf
      exact HA.out j f (by have := (List.getElem?_eq_some_iff.1 hj).1; have := HN.out; omega) hj e
theorem total_take {st : St} {i : Nat} (hi : i < st.length) : total (st.take (i + 1)) = total (st.take i) + st[i].b.length := by
  induction st generalizing i with
  | nil => simp at hi
  | cons f r ih =>
    cases i with
    | zero => simp [total]
    | succ i =>
      have := ih (i := i) (by simpa using hi)
      simp only [List.take_succ_cons, total, List.getElem_cons_succ]
      omega
theorem total_take_le (st : St) (i : Nat) : total (st.take i) ≤ total st := by
  induction st generalizing i with
  | nil => simp
  | cons f r ih =>
    cases i with
    | zero => simp [total]
    | succ i => simp only [List.take_succ_cons, total]; have := ih i; omega
set_option maxHeartbeats 1000000 in
set_option maxRecDepth 100000 in
theorem rsize_calls {w : World} {g B : Nat} {room : Int} {st : St} (h : RefG w g B room st) (hfew : st.length ≤ 100000) (htot : total st ≤ 16777216) : Calls Try.prog 41 #[.pointer (some ⟨g, 0, none⟩)] w fun e w' => e = .returned (.int .i64 (total st)) ∧ Below w.heap.size w w' := by
  obtain ⟨A, c, h1, h2, h3⟩ := h.slice
  have g1 : w.cell? ⟨g, 1, none⟩ = some (.slice A st.length c) := (blk_cell h1 1).trans rfl
  obtain ⟨n, hn⟩ : ∃ n : Nat, n = st.length := ⟨_, rfl⟩
  rw [← hn] at g1 h2 h3 hfew
  have HN := Aside0.mk hn
  have HC := Aside0.mk h2
  have HT := Aside0.mk htot
  clear h1 h2 h hn htot
  go_enter Try.func41, Try.ntmps41
  go_wp2
  go_loopg [3, 11] (n + 1) (fun kq v3 v11 wr => ∃ (i : Nat), v3 = .int .i64 (total (st.take i) : Nat) ∧ v11 = .int .i64 i ∧ Aside0 (kq + i = n + 1 ∧ i ≤ n) ∧ Aside0 (Below w.heap.size w wr))
  case atStart => exact ⟨0, by simp [total], rfl, ⟨by omega⟩, ⟨Below.refl _ _⟩⟩
  case round =>
    obtain ⟨i, rfl, rfl, HK, HB⟩ := hrel
    clear g1
    cases gk with
    | zero => have := HK.out; omega
    | succ k1 =>
    by_cases hlt : i < n
    · have hi1 : (i : Int) < (n : Int) := by omega
      have hil : i < st.length := by have := HN.out; omega
      obtain ⟨ad, A1, c1, hAe, x0, x1, x2, hc1, hd1⟩ := at_T71 (Kd.C_below HC.out HB.out) (i : Int) (by omega) (by omega)
      subst hAe
      rw [rd_map hil] at x0 x1 x2 hc1 hd1
      simp only [Int.toNat_natCast, toS] at x0 x1 x2 hc1 hd1
      have htk := total_take hil
      have hle := total_take_le st (i + 1)
      generalize st[i] = f at *
      have hww : wrap64 (((total (st.take i) : Nat) : Int) + (f.b.length : Int)) = ((total (st.take (i + 1)) : Nat) : Int) := by
        have := HT.out
        rw [htk] at hle ⊢
        rw [wrap_id (by omega) (by omega)]
        simp
      have HB1 := Aside0.mk (below_alloc HB.out (.cells #[.string f.n, .slice A1 f.b.length c1, .int .i64 f.l] 71))
      have HWW := Aside0.mk hww
      clear hd1 htk hle hww
      go_wp2
      rw [HWW.out]
      go_roundg k1
      case measure => omega
      case rel => exact ⟨i + 1, rfl, by first | rfl | (simp; done) | (rw [wrap_id (n := (i : Int) + 1) (by omega) (by omega)]; first | rfl | (simp; done)), ⟨by have := HK.out; omega⟩, HB1⟩
    · have hi : i = n := by have := HK.out; omega
      subst hi
      go_wp2
      go_ret
      rw [List.take_of_length_le (by have := HN.out; omega)]
      exact ⟨rfl, HB.out⟩
end Go.Proofs.Ytkdbojaoaldmbaa.G

/- The document's disk by hand: drop. -/
namespace Go.Proofs.Ytkdbojaoaldmbaa.G
open Go.RowKit Go.Proofs.Ytkdbojaoaldmbaa.Q Go.Proofs.YtkdbojaoaldmbaaW.PrintWords Go.Proofs.YtkdbojaoaldmbaaW.PrintLast Go.Proofs.YtkdbojaoaldmbaaW.PrintMore
set_option linter.unusedVariables false
set_option linter.unusedSimpArgs false
theorem info71 : (Try.prog.info? 71).map (fun i => (i.zero, i.size, i.bytes)) = some (some (.agg #[.string ⟨#[]⟩, .slice none 0 0, .int .i64 0]), 3, 48) := by kernel_rfl
/-- What may turn when the document's disk is written: blocks of its own types. -/
def RefB (w : World) (B : Nat) (k : Nat) : Prop := B ≤ k ∧ ∃ cs q fz, w.heap[k]? = some (.cells cs q fz) ∧ (q = 49 ∨ q = 71)
/-- A file of the row, lent. -/
theorem lent {w : World} {B n c : Nat} {ok : Nat → Prop} {ad : Addr} {st : St} (h : k71.R 71 w B ok (.slice (some ad) n c) (st.map toS)) {i : Nat} (hi : i < st.length) :
    ∃ A1 c1, w.cell? (ad.add (i * 3)) = some (.string st[i].n) ∧ w.cell? ⟨(ad.add (i * 3)).block, (ad.add (i * 3)).off + 1, none⟩ = some (.slice A1 st[i].b.length c1) ∧ w.cell? ⟨(ad.add (i * 3)).block, (ad.add (i * 3)).off + 2, none⟩ = some (.int .i64 st[i].l) ∧
      k71.M w B (fun k => ok k ∧ some k ≠ (Value.slice (some ad) n c).ownBlock) (toS st[i]) [.string st[i].n, .slice A1 st[i].b.length c1, .int .i64 st[i].l] := by
  have hn := (Kd.R_reads' h).1
  rw [List.length_map] at hn
  obtain ⟨cs, hcl, hM, hc⟩ := Kd.R_getA h z71 (i : Int) (by omega) (by omega)
  rw [Int.toNat_natCast] at hM hc
  have hx : (st.map toS).getD i z71 = toS st[i] := by
    rw [List.getD_eq_getElem?_getD, List.getElem?_map, List.getElem?_eq_getElem hi]; rfl
  rw [hx] at hM
  obtain ⟨v1, rfl, hR⟩ := k71_openM hM
  obtain ⟨A1, c1, hv⟩ := Kd.R_slice hR
  subst hv
  exact ⟨A1, c1, hc 0 _ rfl, by rw [← add_field _ _ 1 (by omega)]; exact hc 1 _ rfl, by rw [← add_field _ _ 2 (by omega)]; exact hc 2 _ rfl, hM⟩
theorem drop_take {st : St} {s : ByteArray} {i : Nat} (hi : i < st.length) : G.drop (st.take (i + 1)) s = G.drop (st.take i) s ++ (if st[i].n = s then [] else [st[i]]) := by
  rw [List.take_add_one, List.getElem?_eq_getElem hi]
  unfold G.drop
  rw [List.filter_append]
  congr 1
  by_cases h : st[i].n = s
  · rw [if_pos h]; simp [h]
  · rw [if_neg h]; simp [h]
/-- A store into a block of no row of the document's leaves its row. -/
theorem row_off {W : World} {B F : Nat} {v : Value} {xs : List S71} (h : k71.R 71 W B (fun k => B ≤ k) v xs) (hv : ∀ k, v.ownBlock = some k → k ≠ F) (hF : ∃ cs, W.heap[F]? = some (.cells cs 71 (0, 0))) (j : Nat) (u : Value) : k71.R 71 (W.setCell ⟨F, j, none⟩ u) B (fun k => B ≤ k) v xs := by
  obtain ⟨cs, hcs⟩ := hF
  obtain ⟨hok, inner, hown, hr⟩ := h
  have hR : k71.R 71 W B (fun k => B ≤ k ∧ k ≠ F) v xs := ⟨fun k hk => ⟨hok k hk, hv k hk⟩, inner, hown, hr.imp_ (fun p c hp => k71.M_mono (fun k hk => ⟨⟨hk.1.1, hk.2⟩, hk.1.2⟩) (Kd.M_types hp hcs (fun q hq => by
    have : q = 5 := by simpa [k71, Kd.iso, Kd.pair, Kd.slice, Kd.int, Kd.string, Kd.scalar] using hq
    rw [this]; decide)))⟩
  exact Kd.R_mono (Kd.R_step hR (fun k hk _ => Below.heap_setCell _ _ _ k hk.2)) (fun k hk => hk.1)
set_option maxHeartbeats 1000000 in
set_option maxRecDepth 100000 in
theorem rdrop_full {w : World} {g B : Nat} {room : Int} {st : St} (h : RefG w g B room st) (hB : B ≤ w.heap.size) (hfew : st.length ≤ 100000) (s : ByteArray) : Calls Try.prog 47 #[.pointer (some ⟨g, 0, none⟩), .string s] w fun e w' => e = .returned (.tuple #[]) ∧ RefG w' g B room (G.drop st s) ∧ Chg (fun k => k = g) w w' ∧ ∀ (F j : Nat) (u : Value), F < w.heap.size → (∃ cs, w.heap[F]? = some (.cells cs 71 (0, 0))) → RefG (w'.setCell ⟨F, j, none⟩ u) g B room (G.drop st s) := by
  obtain ⟨v0, h1, h2⟩ := h.ex
  obtain ⟨A, c, hv⟩ := Kd.R_slice h2
  subst hv
  rw [List.length_map] at h1 h2
  have hrd := (Kd.R_reads' h2).2
  have g1 : w.cell? ⟨g, 1, none⟩ = some (.slice A st.length c) := (blk_cell h1 1).trans rfl
  obtain ⟨n, hn⟩ : ∃ n : Nat, n = st.length := ⟨_, rfl⟩
  rw [← hn] at g1 h1 h2 hfew
  have h3 := hrd.1
  rw [← hn] at h3
  have HN := Aside0.mk hn
  have HFW := Aside0.mk hfew
  have HO := Aside0.mk (Kd.R_mono (ok' := fun k => B ≤ k ∧ k < w.heap.size) (Kd.R_bound h2) (fun k hk => ⟨hk.1, hk.2.2.1⟩))
  have HG := Aside0.mk h1
  have HBS := Aside0.mk (And.intro hB (And.intro h.base (heap_lt h1)))
  clear h1 h2 h hn hrd hB
  go_enter Try.func47, Try.ntmps47
  go_wp2_with ((with_reducible refine gate_dst (N := 7) rfl ?_); refine Kd.R_lit k71 B 71 ?hg (N := 7) ?hd (xs := ([] : List S71)) (inner := []) (ok := fun k => B ≤ k) (okp := fun _ => False) ?hr ?hp (fun _ hk => hk.elim) HBS.out.1 (Below.refl _ _) HBS.out.1 (by simp) ?_; (case hd => rfl); (case hg => rfl); (case hr => first | (go_simp; done) | (go_simp; rfl)); (case hp => exact (Reps.none _ _)); intro v1 w1 ho1 hb1 hg1 hn1; have hbw : Below w.heap.size w w1 := ⟨hg1.os, hg1.tape, hg1.output, hg1.size, fun k hk => hg1.block k hk (by simp)⟩; replace g1 := pw_cell_below hbw g1; have HR1 := Aside0.mk ho1; have HB1 := Aside0.mk hbw; have HV1 := Aside0.mk (show ∀ k, v1.ownBlock = some k → w.heap.size ≤ k from fun k hk => by obtain ⟨b, e1, e2⟩ := hn1; rw [e1] at hk; cases hk; exact e2); clear ho1 hb1 hg1 hn1 hbw)
  go_loopg [4, 13] (n + 1) (fun kq v4 v13 wr => ∃ (i : Nat), v13 = .int .i64 i ∧ Aside0 (kq + i = n + 1 ∧ i ≤ n) ∧ Aside0 (Below w.heap.size w wr) ∧ Aside0 (k71.R 71 wr B (fun k => B ≤ k) v4 ((G.drop (st.take i) s).map toS)) ∧ Aside0 (∀ k, v4.ownBlock = some k → w.heap.size ≤ k))
  case atStart => exact ⟨0, rfl, ⟨by omega⟩, HB1, HR1, HV1⟩
  case round =>
    obtain ⟨i, rfl, HK, HB, HR, HV⟩ := hrel
    clear HR1 HB1 HV1
    cases gk with
    | zero => have := HK.out; omega
    | succ k1 =>
    by_cases hlt : i < n
    · have hi1 : (i : Int) < (n : Int) := by omega
      have hil : i < st.length := by have := HN.out; omega
      have hOr := Kd.R_below HO.out HB.out
      obtain ⟨ad, hA⟩ : ∃ ad, A = some ad := by
        obtain ⟨ad, _, e, _⟩ := Kd.C_get (Kd.R_reads' hOr).2.2 z71 (i : Int) (by omega) (by rw [List.length_map]; omega)
        exact ⟨ad, e⟩
      subst hA
      obtain ⟨A1, c1, x0, x1, x2, hM⟩ := lent hOr hil
      have hdt := drop_take (s := s) hil

      have hsp := List.getElem?_eq_getElem hil
      have hdl : (G.drop (st.take i) s).length ≤ 100000 := by
        have := List.length_filter_le (fun f : FS => decide (f.n ≠ s)) (st.take i)
        rw [List.length_take] at this
        have h2 : (G.drop (st.take i) s).length ≤ min i st.length := this
        omega
      generalize st[i] = f at *
      have HB1 := Aside0.mk (below_alloc HB.out (.cells #[.string f.n, .slice A1 f.b.length c1, .int .i64 f.l] 71))
      have HR1 := Aside0.mk (Kd.R_alloc HR.out (.cells #[.string f.n, .slice A1 f.b.length c1, .int .i64 f.l] 71))
      have HM := Aside0.mk (Kd.M_alloc hM (.cells #[.string f.n, .slice A1 f.b.length c1, .int .i64 f.l] 71))
      have HDT := Aside0.mk (And.intro hdt hdl)
      clear hM hOr hdt hdl hsp hfew
      cases hb1 : (f.n.toList == s.toList)
      · have HNE : Aside0 (f.n ≠ s) := ⟨fun e => by rw [e] at hb1; simp at hb1⟩
        go_wp2_with ((with_reducible refine gate_builtin (b := .append) (xs := #[.tmp 21, .tmp 23]) rfl ?_); at_builtin; refine Kd.R_append k71 (w0 := w) B rfl (.tmp 21) (.tmp 23) 47 71 (.agg #[.string ⟨#[]⟩, .slice none 0 0, .int .i64 0]) 48 rfl Try.underlying47 info71 rfl (by decide) (by omega) u4 ((G.drop (st.take i) s).map toS) (toS f) [.string f.n, .slice A1 f.b.length c1, .int .i64 f.l] (fun k => B ≤ k) (fun k => (B ≤ k ∧ k < w.heap.size) ∧ some k ≠ (Value.slice (some ad) n c).ownBlock) rfl (by show Value.slice (some ⟨wr.heap.size + 1, 0, none⟩) 1 1 = _; simp) ?aP ?aK ?aF ?aO ?aB ?aS ?aL ?_; (case aP => exact HM.out); (case aK => exact fun k hk => ⟨hk.1.1, fun e => by have := HV.out k e.symm; omega⟩); (case aF => exact fun k hk => by have h1 := HB1.out.size; have h2 := HBS.out.1; omega); (case aO => exact HR1.out); (case aB => exact HB1.out.mono HBS.out.1); (case aS => exact Nat.le_trans HBS.out.1 HB1.out.size); (case aL => rw [List.length_map]; have := HDT.out.2; omega); intro v5 w5 ho5 hb5 hg5 hat5; have HO5 := Aside0.mk ho5; have HG5 := Aside0.mk hg5; have HA5 := Aside0.mk hat5; clear ho5 hb5 hg5 hat5)
        go_roundg k1
        case measure => omega
        case rel =>
          have hz := HB1.out.size
          have hg5 := HG5.out
          refine ⟨i + 1, by first | rfl | (simp; done) | (rw [wrap_id (n := (i : Int) + 1) (by omega) (by have := HFW.out; omega)]; first | rfl | (simp; done)), ⟨by have := HK.out; omega⟩, ⟨?_⟩, ⟨?_⟩, ⟨fun k hk => ?_⟩⟩
          · have hb := HB1.out
            exact ⟨hg5.os.trans hb.os, hg5.tape.trans hb.tape, hg5.output.trans hb.output, Nat.le_trans hb.size hg5.size, fun k hk => (hg5.block k (Nat.lt_of_lt_of_le hk hb.size) (fun e => by have := HV.out k e.symm; omega)).trans (hb.block k hk)⟩
          · rw [HDT.out.1, if_neg HNE.out, List.map_append]; exact HO5.out
          · rcases HA5.out with e | ⟨b, e1, e2⟩
            · rw [e] at hk; exact HV.out k hk
            · rw [e1] at hk; cases hk; exact Nat.le_trans hz e2
      · have HEQ : Aside0 (f.n = s) := ⟨str_inj (by simpa using hb1)⟩
        go_wp2_with (fail)
        go_roundg k1
        case measure => omega
        case rel => exact ⟨i + 1, by first | rfl | (simp; done) | (rw [wrap_id (n := (i : Int) + 1) (by omega) (by have := HFW.out; omega)]; first | rfl | (simp; done)), ⟨by have := HK.out; omega⟩, HB1, ⟨by rw [HDT.out.1, if_pos HEQ.out, List.append_nil]; exact HR1.out⟩, HV⟩
    · have hi : i = n := by have := HK.out; omega
      subst hi
      have hbl := HB.out.block g HBS.out.2.2
      have hGr := hbl.trans HG.out
      have q0 := (blk_cell hGr 1).trans rfl
      have q1 := blk_frozen hGr 1
      have HGr := Aside0.mk hGr
      clear hbl hGr hlt
      obtain ⟨A4, c4, hv4⟩ := Kd.R_slice HR.out
      subst hv4
      go_wp2_with (fail)
      (first | go_end0 | ((try simp only [Exit.inBlock, Exit.then]); refine bodyPost_ret (results_none rfl _ _ _) rfl ?_))
      have hst : st.take i = st := List.take_of_length_le (by have := HN.out; omega)
      have hR := HR.out
      rw [hst, List.length_map] at hR
      rw [hst]
      refine ⟨rfl, ⟨⟨_, blk_put HGr.out 1 _ rfl, Kd.R_set hR HGr.out (fun q hq => ?_) 1 _⟩, HBS.out.2.1⟩, ?_, ?_⟩
      · have : q = 71 ∨ q = 5 := by simpa [k71, Kd.iso, Kd.pair, Kd.slice, Kd.int, Kd.string, Kd.scalar] using hq
        rcases this with e | e <;> rw [e] <;> decide
      · have hb := HB.out
        exact ⟨hb.os, hb.tape, hb.output, by simpa using hb.size, fun k hk hn => (Below.heap_setCell _ _ _ k (fun e => hn e)).trans (hb.block k hk)⟩
      · intro F j u hF hcs
        obtain ⟨cs, hcs⟩ := hcs
        have hFg : F ≠ g := fun e => by rw [e, HG.out] at hcs; cases hcs
        have hR2 := Kd.R_set hR HGr.out (fun q hq => by
          have : q = 71 ∨ q = 5 := by simpa [k71, Kd.iso, Kd.pair, Kd.slice, Kd.int, Kd.string, Kd.scalar] using hq
          rcases this with e | e <;> rw [e] <;> decide) 1 (Value.slice A4 (G.drop st s).length c4)
        have hfw : (wr.setCell ⟨g, 1, none⟩ (Value.slice A4 (G.drop st s).length c4)).heap[F]? = some (.cells cs 71 (0, 0)) := (Below.heap_setCell _ _ _ F hFg).trans ((HB.out.block F hF).trans hcs)
        have hv := HV.out
        rw [hst, List.length_map] at hv
        exact ⟨⟨_, (Below.heap_setCell _ _ _ g (fun e => hFg e.symm)).trans (blk_put HGr.out 1 _ rfl), row_off hR2 (fun k hk e => by have := hv k hk; omega) ⟨cs, hfw⟩ j u⟩, HBS.out.2.1⟩
theorem rdrop_calls {w : World} {g B : Nat} {room : Int} {st : St} (h : RefG w g B room st) (hB : B ≤ w.heap.size) (hfew : st.length ≤ 100000) (s : ByteArray) : Calls Try.prog 47 #[.pointer (some ⟨g, 0, none⟩), .string s] w fun e w' => e = .returned (.tuple #[]) ∧ RefG w' g B room (G.drop st s) ∧ Chg (fun k => k = g) w w' :=
  (rdrop_full h hB hfew s).mono fun e w' ⟨h1, h2, h3, _⟩ => ⟨h1, h2, h3⟩
end Go.Proofs.Ytkdbojaoaldmbaa.G

/- The document's disk by hand: put. -/
namespace Go.Proofs.Ytkdbojaoaldmbaa.G
open Go.RowKit Go.Proofs.Ytkdbojaoaldmbaa.Q Go.Proofs.YtkdbojaoaldmbaaW.PrintWords Go.Proofs.YtkdbojaoaldmbaaW.PrintLast Go.Proofs.YtkdbojaoaldmbaaW.PrintMore
set_option linter.unusedVariables false
set_option linter.unusedSimpArgs false
def low (st : St) (s : ByteArray) : St := st.filter (fun f => Op.bytesLess f.n.toList s.toList)
def high (st : St) (s : ByteArray) : St := st.filter (fun f => Op.bytesLess s.toList f.n.toList)
theorem low_take {st : St} {s : ByteArray} {i : Nat} (hi : i < st.length) : low (st.take (i + 1)) s = low (st.take i) s ++ (if Op.bytesLess st[i].n.toList s.toList = true then [st[i]] else []) := by
  rw [List.take_add_one, List.getElem?_eq_getElem hi]
  unfold low
  rw [List.filter_append]
  congr 1
  cases h : Op.bytesLess st[i].n.toList s.toList <;> simp [h]
theorem high_take {st : St} {s : ByteArray} {i : Nat} (hi : i < st.length) : high (st.take (i + 1)) s = high (st.take i) s ++ (if Op.bytesLess s.toList st[i].n.toList = true then [st[i]] else []) := by
  rw [List.take_add_one, List.getElem?_eq_getElem hi]
  unfold high
  rw [List.filter_append]
  congr 1
  cases h : Op.bytesLess s.toList st[i].n.toList <;> simp [h]
theorem low_len (st : St) (s : ByteArray) (i : Nat) : (low (st.take i) s).length ≤ st.length := Nat.le_trans (List.length_filter_le _ _) (by rw [List.length_take]; omega)
theorem high_len (st : St) (s : ByteArray) (i : Nat) : (high (st.take i) s).length ≤ st.length := Nat.le_trans (List.length_filter_le _ _) (by rw [List.length_take]; omega)
theorem low_len2 (st : St) (s : ByteArray) : (low st s).length ≤ st.length := List.length_filter_le _ _
theorem blt {s t : ByteArray} : Op.bytesLess s.toList t.toList = true ↔ Lt s t := bytesLess_iff _ _
/-- What stands ahead of a file, it, and what stands behind it. -/
theorem put_parts : ∀ {st : St} (x : FS), Sorted st → low (G.drop st x.n) x.n ++ [x] ++ high (G.drop st x.n) x.n = put st x
  | [], x, _ => by simp [low, high, G.drop, put]
  | f :: r, x, hs => by
    obtain ⟨h1, h2⟩ := List.pairwise_cons.1 hs
    have ih := put_parts x h2
    have hall : ∀ {l : St}, (∀ g ∈ l, Lt x.n g.n) → low l x.n = [] ∧ high l x.n = l ∧ G.drop l x.n = l := fun {l} hl => by
      refine ⟨List.filter_eq_nil_iff.2 (fun g hg e => ?_), List.filter_eq_self.2 (fun g hg => blt.2 (hl g hg)), List.filter_eq_self.2 (fun g hg => ?_)⟩
      · exact (hl g hg).asymm (blt.1 e)
      · simpa using (hl g hg).ne.symm
    unfold put
    by_cases hx : x.n = f.n
    · rw [if_pos hx]
      have hd : G.drop (f :: r) x.n = G.drop r x.n := by unfold G.drop; rw [List.filter_cons_of_neg (by simp [hx])]
      obtain ⟨e1, e2, e3⟩ := hall (l := r) (fun g hg => by rw [hx]; exact h1 g hg)
      rw [hd, e3, e1, e2]; rfl
    · rw [if_neg hx]
      by_cases hl : Lt x.n f.n
      · rw [if_pos hl]
        obtain ⟨e1, e2, e3⟩ := hall (l := f :: r) (fun g hg => by
          rcases List.mem_cons.1 hg with e | e
          · rw [e]; exact hl
          · exact hl.trans (h1 g e))
        rw [e3, e1, e2]; rfl
      · rw [if_neg hl]
        have hd : G.drop (f :: r) x.n = f :: G.drop r x.n := by unfold G.drop; rw [List.filter_cons_of_pos (by simpa using fun e => hx e.symm)]
        have hfl : Lt f.n x.n := by
          rcases Lt.total f.n x.n with h | h | h
          · exact h
          · exact absurd h.symm hx
          · exact absurd h hl
        have e1 : low (f :: G.drop r x.n) x.n = f :: low (G.drop r x.n) x.n := by unfold low; rw [List.filter_cons_of_pos (p := fun f : FS => Op.bytesLess f.n.toList x.n.toList) (blt.2 hfl)]
        have e2 : high (f :: G.drop r x.n) x.n = high (G.drop r x.n) x.n := by unfold high; rw [List.filter_cons_of_neg (p := fun f : FS => Op.bytesLess x.n.toList f.n.toList) (fun e => hl (blt.1 e))]
        rw [hd, e1, e2, ← ih]; rfl
theorem grown_below {w2 wr w5 : World} {v : Value} (hb : Below w2.heap.size w2 wr) (hg : wr.grownBy w5 v.ownBlock) (hv : ∀ k, v.ownBlock = some k → w2.heap.size ≤ k) : Below w2.heap.size w2 w5 :=
  ⟨hg.os.trans hb.os, hg.tape.trans hb.tape, hg.output.trans hb.output, Nat.le_trans hb.size hg.size, fun k hk => (hg.block k (Nat.lt_of_lt_of_le hk hb.size) (fun e => by have := hv k e.symm; omega)).trans (hb.block k hk)⟩
theorem fresh_own {w2 wr : World} {v v5 : Value} (hb : Below w2.heap.size w2 wr) (hv : ∀ k, v.ownBlock = some k → w2.heap.size ≤ k) (ha : v5.ownBlock = v.ownBlock ∨ ∃ b, v5.ownBlock = some b ∧ wr.heap.size ≤ b) : ∀ k, v5.ownBlock = some k → w2.heap.size ≤ k := fun k hk => by
  rcases ha with e | ⟨b, e1, e2⟩
  · rw [e] at hk; exact hv k hk
  · rw [e1] at hk; cases hk; exact Nat.le_trans hb.size e2
theorem gtr_str (a b : ByteArray) (W : World) : (binOp .gtr 9 (.string a) (.string b)).run Try.prog W = .ok (.bool (Op.bytesLess b.toList a.toList)) W := by
  have key : (!(Op.bytesLess a.toList b.toList || a.toList == b.toList)) = Op.bytesLess b.toList a.toList := by
    rcases Lt.total a b with h | h | h
    · have h1 := (bytesLess_iff a.toList b.toList).2 h
      have h2 : Op.bytesLess b.toList a.toList = false := by
        cases hq : Op.bytesLess b.toList a.toList
        · rfl
        · exact (h.asymm ((bytesLess_iff _ _).1 hq)).elim
      rw [h1, h2]; rfl
    · subst h
      have h2 : Op.bytesLess a.toList a.toList = false := by
        cases hq : Op.bytesLess a.toList a.toList
        · rfl
        · exact (Lt.irrefl a ((bytesLess_iff _ _).1 hq)).elim
      rw [h2]; simp
    · have h1 := (bytesLess_iff b.toList a.toList).2 h
      have h2 : Op.bytesLess a.toList b.toList = false := by
        cases hq : Op.bytesLess a.toList b.toList
        · rfl
        · exact (h.asymm ((bytesLess_iff _ _).1 hq)).elim
      have h3 : (a.toList == b.toList) = false := by
        rw [beq_eq_false_iff_ne]; exact fun e => h.ne (str_inj e).symm
      rw [h1, h2, h3]; rfl
  rw [← key]
  simp [binOp, Op.stringOp]
theorem x_moved {w wa w2 : World} {g B F : Nat} {room : Int} {st : St} {x : FS} {Ax : Option Addr} {cx : Nat} (h : RefG w g B room st) (hba : Below w.heap.size w wa) (hla : wa.heap[F]? = some (.cells #[.string x.n, .slice Ax x.b.length cx, .int .i64 x.l] 71 (0, 0))) (hF : F = w.heap.size)
    (hx : k71.M w B (fun k => B ≤ k ∧ k < w.heap.size) (toS x) [.string x.n, .slice Ax x.b.length cx, .int .i64 x.l]) (hC : Chg (fun k => k = g) wa w2) :
    w2.cell? ⟨F, 0, none⟩ = some (.string x.n) ∧ w2.cell? ⟨F, 1, none⟩ = some (.slice Ax x.b.length cx) ∧ w2.cell? ⟨F, 2, none⟩ = some (.int .i64 x.l) ∧ k71.M w2 B (fun k => (B ≤ k ∧ k < w.heap.size) ∧ k ≠ g) (toS x) [.string x.n, .slice Ax x.b.length cx, .int .i64 x.l] := by
  obtain ⟨v, h1, _⟩ := h.ex
  have hg := heap_lt h1
  have hb := (hC.block F (heap_lt hla) (fun e => by omega)).trans hla
  refine ⟨(blk_cell hb 0).trans rfl, (blk_cell hb 1).trans rfl, (blk_cell hb 2).trans rfl, ?_⟩
  have hm := Kd.M_types hx h1 (fun q hq => by
    have : q = 5 := by simpa [k71, Kd.iso, Kd.pair, Kd.slice, Kd.int, Kd.string, Kd.scalar] using hq
    rw [this]; decide)
  exact Kd.M_step hm (fun k hk hlt => (hC.block k (Nat.lt_of_lt_of_le hlt hba.size) (fun e => hk.2 e)).trans (hba.block k hlt))
set_option maxHeartbeats 2000000 in
set_option maxRecDepth 100000 in
theorem rput_calls {w : World} {g B : Nat} {room : Int} {st : St} (h : RefG w g B room st) (hB : B ≤ w.heap.size) (hs : Sorted st) (hfew : st.length ≤ 100000) (x : FS) (Ax : Option Addr) (cx : Nat)
    (hx : k71.M w B (fun k => B ≤ k ∧ k < w.heap.size) (toS x) [.string x.n, .slice Ax x.b.length cx, .int .i64 x.l]) :
    Calls Try.prog 46 #[.pointer (some ⟨g, 0, none⟩), .agg #[.string x.n, .slice Ax x.b.length cx, .int .i64 x.l]] w fun e w' => e = .returned (.tuple #[]) ∧ RefG w' g B room (put st x) ∧ Chg (fun k => k = g) w w' := by
  rw [← put_parts x hs]
  have HD := Aside0.mk h
  have HB0 := Aside0.mk hB
  have HF0 := Aside0.mk hfew
  have HX := Aside0.mk hx
  clear h hB hs hfew hx
  go_enter Try.func46, Try.ntmps46
  go_wp2_with (first
    | ((with_reducible refine gate_dst (N := 3) rfl ?_); refine box_event ?hg (N := 3) ?hd (cs := #[.string x.n, .slice Ax x.b.length cx, .int .i64 x.l]) (t := 71) ?hr ?_; (case hd => rfl); (case hg => rfl); (case hr => first | (go_simp; done) | (go_simp; rfl)); intro F hF wa hla hba; have o0 : wa.cell? ⟨F, 0, none⟩ = some (.string x.n) := (blk_cell hla 0).trans rfl; have HLA := Aside0.mk hla; have HBA := Aside0.mk hba; have HFF := Aside0.mk hF; clear hla hba hF)
    | (go_at_call 47; (with_reducible refine (rdrop_calls (HD.out.below HBA.out) (Nat.le_trans HB0.out HBA.out.size) HF0.out x.n).mono ?_); rintro e w2 ⟨rfl, hR, hC⟩; obtain ⟨vd, d1, d2⟩ := hR.ex; obtain ⟨A, c, hv⟩ := Kd.R_slice d2; subst hv; rw [List.length_map] at d1 d2; obtain ⟨n, hn⟩ : ∃ n : Nat, n = (G.drop st x.n).length := ⟨_, rfl⟩; rw [← hn] at d1 d2; have g1 : w2.cell? ⟨g, 1, none⟩ = some (.slice A n c) := (blk_cell d1 1).trans rfl; have h3 := (Kd.R_reads' d2).2.1; have HN := Aside0.mk hn; have HG := Aside0.mk d1; have HO := Aside0.mk (Kd.R_mono (ok' := fun k => B ≤ k ∧ k < w2.heap.size) (Kd.R_bound d2) (fun k hk => ⟨hk.1, hk.2.2.1⟩)); have HXX := Aside0.mk (x_moved HD.out HBA.out HLA.out HFF.out HX.out hC); have HCC := Aside0.mk hC; have HBS := Aside0.mk (And.intro (Nat.le_trans HB0.out (Nat.le_trans HBA.out.size hC.size)) (And.intro hR.base (heap_lt d1))); have hfw : n ≤ 100000 := Nat.le_trans (Nat.le_of_eq hn) (Nat.le_trans (List.length_filter_le _ _) HF0.out); have HFW := Aside0.mk hfw; clear hR hC o0 d1 d2 hn hfw)
    | ((with_reducible refine gate_dst (N := 13) rfl ?_); refine Kd.R_lit k71 B 71 ?hg (N := 13) ?hd (xs := ([] : List S71)) (inner := []) (ok := fun k => B ≤ k) (okp := fun _ => False) ?hr ?hp (fun _ hk => hk.elim) HBS.out.1 (Below.refl _ _) HBS.out.1 (by simp) ?_; (case hd => rfl); (case hg => rfl); (case hr => first | (go_simp; done) | (go_simp; rfl)); (case hp => exact (Reps.none _ _)); intro v1 w1 ho1 hb1 hg1 hn1; have hbw : Below w2.heap.size w2 w1 := ⟨hg1.os, hg1.tape, hg1.output, hg1.size, fun k hk => hg1.block k hk (by simp)⟩; replace g1 := pw_cell_below hbw g1; have HR1 : Aside0 (k71.R 71 w1 B (fun k => B ≤ k) v1 ((low ((G.drop st x.n).take 0) x.n).map toS)) := ⟨ho1⟩; have HB1 := Aside0.mk hbw; have HV1 := Aside0.mk (show ∀ k, v1.ownBlock = some k → w2.heap.size ≤ k from fun k hk => by obtain ⟨b, e1, e2⟩ := hn1; rw [e1] at hk; cases hk; exact e2); clear ho1 hb1 hg1 hn1 hbw))
  go_loopg [4, 19] (n + 1) (fun kq v4 vi wr => ∃ (i : Nat), vi = .int .i64 i ∧ Aside0 (kq + i = n + 1 ∧ i ≤ n) ∧ Aside0 (Below w2.heap.size w2 wr) ∧ Aside0 (k71.R 71 wr B (fun k => B ≤ k) v4 ((low ((G.drop st x.n).take i) x.n).map toS)) ∧ Aside0 (∀ k, v4.ownBlock = some k → w2.heap.size ≤ k))
  case atStart => exact ⟨0, rfl, ⟨by omega⟩, HB1, HR1, HV1⟩
  case round =>
    obtain ⟨i, rfl, HK, HB, HR, HV⟩ := hrel
    clear HR1 HB1 HV1
    cases gk with
    | zero => have := HK.out; omega
    | succ k1 =>
    by_cases hlt : i < n
    · have hi1 : (i : Int) < (n : Int) := by omega
      have hil : i < (G.drop st x.n).length := by have := HN.out; omega
      have hOr := Kd.R_below HO.out HB.out
      have hxc := pw_cell_below HB.out HXX.out.1
      obtain ⟨ad, hA⟩ : ∃ ad, A = some ad := by
        obtain ⟨ad, _, e, _⟩ := Kd.C_get (Kd.R_reads' hOr).2.2 z71 (i : Int) (by omega) (by rw [List.length_map]; omega)
        exact ⟨ad, e⟩
      subst hA
      obtain ⟨A1, c1, x0, x1, x2, hM⟩ := lent hOr hil
      have hdt := low_take (s := x.n) hil
      have hdl := low_len (G.drop st x.n) x.n i
      generalize (G.drop st x.n)[i] = f at *
      have HBn := Aside0.mk (below_alloc HB.out (.cells #[.string f.n, .slice A1 f.b.length c1, .int .i64 f.l] 71))
      have HRn := Aside0.mk (Kd.R_alloc HR.out (.cells #[.string f.n, .slice A1 f.b.length c1, .int .i64 f.l] 71))
      have hxd := fun o => Go.Lib.cell?_alloc_some (W := wr) o hxc
      have HM := Aside0.mk (Kd.M_alloc hM (.cells #[.string f.n, .slice A1 f.b.length c1, .int .i64 f.l] 71))
      have HDT := Aside0.mk hdt
      have HLEN : Aside0 ((low ((G.drop st x.n).take i) x.n).length ≤ 200001) := ⟨by have h1 := HN.out; have h2 := HFW.out; have h3 := low_len2 (G.drop st x.n) x.n; first | (rw [List.length_append, List.length_append, List.length_singleton]; omega) | omega⟩
      clear hM hOr hdt hdl
      have hgt := gtr_str f.n x.n
      cases hb1 : (Op.bytesLess f.n.toList x.n.toList)
      · go_wp2_with (fail)
        go_roundg k1
        case measure => omega
        case rel => exact ⟨i + 1, by first | rfl | (simp; done) | (rw [wrap_id (n := (i : Int) + 1) (by omega) (by have := HFW.out; omega)]; first | rfl | (simp; done)), ⟨by have := HK.out; omega⟩, HBn, ⟨by have h := HDT.out; rw [hb1] at h; simp only [Bool.false_eq_true, if_false, List.append_nil] at h; rw [h]; exact HRn.out⟩, HV⟩
      · go_wp2_with ((with_reducible refine gate_builtin (b := .append) (xs := #[.tmp 28, .tmp 30]) rfl ?_); at_builtin; refine Kd.R_append k71 (w0 := w2) B rfl (.tmp 28) (.tmp 30) 47 71 (.agg #[.string ⟨#[]⟩, .slice none 0 0, .int .i64 0]) 48 rfl Try.underlying47 info71 rfl (by decide) (by omega) u4 ((low ((G.drop st x.n).take i) x.n).map toS) (toS f) [.string f.n, .slice A1 f.b.length c1, .int .i64 f.l] (fun k => B ≤ k) (fun k => (B ≤ k ∧ k < w2.heap.size) ∧ some k ≠ (Value.slice (some ad) n c).ownBlock) rfl (by show Value.slice (some ⟨wr.heap.size + 1, 0, none⟩) 1 1 = _; simp) ?aP ?aK ?aF ?aO ?aB ?aS ?aL ?_; (case aP => exact HM.out); (case aK => exact fun k hk => ⟨hk.1.1, fun e => by have := HV.out k e.symm; omega⟩); (case aF => exact fun k hk => by have h1 := HBn.out.size; have h2 := HBS.out.1; omega); (case aO => exact HRn.out); (case aB => exact HBn.out.mono HBS.out.1); (case aS => exact Nat.le_trans HBS.out.1 HBn.out.size); (case aL => rw [List.length_map]; have := HLEN.out; omega); intro v5 w5 ho5 hb5 hg5 hat5; have HO5 := Aside0.mk ho5; have HG5 := Aside0.mk hg5; have HA5 := Aside0.mk hat5; clear ho5 hb5 hg5 hat5)
        go_roundg k1
        case measure => omega
        case rel =>
          have hz := HBn.out.size
          have hg5 := HG5.out
          refine ⟨i + 1, by first | rfl | (simp; done) | (rw [wrap_id (n := (i : Int) + 1) (by omega) (by have := HFW.out; omega)]; first | rfl | (simp; done)), ⟨by have := HK.out; omega⟩, ⟨grown_below HBn.out hg5 HV.out⟩, ⟨?_⟩, ⟨fresh_own HBn.out HV.out HA5.out⟩⟩
          have h := HDT.out
          rw [hb1] at h
          simp only [if_true] at h
          first | rw [h, ← List.append_assoc, List.map_append] | rw [h, List.map_append]
          exact HO5.out
    · have hi : n = i := by have := HK.out; omega
      subst hi
      have hst : (G.drop st x.n).take n = G.drop st x.n := List.take_of_length_le (by have := HN.out; omega)
      have hRl := HR.out
      rw [hst] at hRl
      have HRl := Aside0.mk hRl
      have o0 := pw_cell_below HB.out HXX.out.1
      have o1 := pw_cell_below HB.out HXX.out.2.1
      have o2 := pw_cell_below HB.out HXX.out.2.2.1
      have hGr := (HB.out.block g HBS.out.2.2).trans HG.out
      have q0 : wr.cell? ⟨g, 1, none⟩ = some (.slice A n c) := (blk_cell hGr 1).trans rfl
      have HMx := Aside0.mk (Kd.M_below HXX.out.2.2.2 HB.out)
      have HLEN : Aside0 ((low (G.drop st x.n) x.n).length ≤ 200001) := ⟨by have := low_len2 (G.drop st x.n) x.n; have := HN.out; have := HFW.out; omega⟩
      clear hRl hst hGr hlt
      go_wp2_with ((with_reducible refine gate_builtin (b := .append) (xs := #[.tmp 33, .tmp 35]) rfl ?_); at_builtin; refine Kd.R_append k71 (w0 := w2) B rfl (.tmp 33) (.tmp 35) 47 71 (.agg #[.string ⟨#[]⟩, .slice none 0 0, .int .i64 0]) 48 rfl Try.underlying47 info71 rfl (by decide) (by omega) u4 ((low (G.drop st x.n) x.n).map toS) (toS x) [.string x.n, .slice Ax x.b.length cx, .int .i64 x.l] (fun k => B ≤ k) (fun k => (B ≤ k ∧ k < w.heap.size) ∧ k ≠ g) rfl (by show Value.slice (some ⟨wr.heap.size, 0, none⟩) 1 1 = _; simp) ?aP ?aK ?aF ?aO ?aB ?aS ?aL ?_; (case aP => exact HMx.out); (case aK => exact fun k hk => ⟨hk.1.1, fun e => by have h1 := HV.out k e.symm; have h2 := HCC.out.size; have h3 := HBA.out.size; omega⟩); (case aF => exact fun k hk => by have h1 := HB.out.size; have h2 := HBS.out.1; omega); (case aO => exact HRl.out); (case aB => exact HB.out.mono HBS.out.1); (case aS => exact Nat.le_trans HBS.out.1 HB.out.size); (case aL => rw [List.length_map]; have := HLEN.out; omega); intro v5 w5 ho5 hb5 hg5 hat5; have hB5 := grown_below HB.out hg5 HV.out; have q5 : w5.cell? ⟨g, 1, none⟩ = some (.slice A n c) := pw_cell_below hB5 ((blk_cell HG.out 1).trans rfl); have HB1 := Aside0.mk hB5; have HR1 : Aside0 (k71.R 71 w5 B (fun k => B ≤ k) v5 ((low (G.drop st x.n) x.n ++ [x] ++ high ((G.drop st x.n).take 0) x.n).map toS)) := ⟨by have h := ho5; rw [show (low (G.drop st x.n) x.n ++ [x] ++ high ((G.drop st x.n).take 0) x.n) = low (G.drop st x.n) x.n ++ [x] from List.append_nil _, List.map_append]; exact h⟩; have HV1 := Aside0.mk (fresh_own HB.out HV.out hat5); clear ho5 hb5 hg5 hat5 hB5)
      clear o0 o1 o2 q0
      go_loopg [4, 42] (n + 1) (fun kq v4 vi wr => ∃ (i : Nat), vi = .int .i64 i ∧ Aside0 (kq + i = n + 1 ∧ i ≤ n) ∧ Aside0 (Below w2.heap.size w2 wr) ∧ Aside0 (k71.R 71 wr B (fun k => B ≤ k) v4 ((low (G.drop st x.n) x.n ++ [x] ++ high ((G.drop st x.n).take i) x.n).map toS)) ∧ Aside0 (∀ k, v4.ownBlock = some k → w2.heap.size ≤ k))
      case atStart => exact ⟨0, rfl, ⟨by omega⟩, HB1, HR1, HV1⟩
      case round =>
        obtain ⟨i, rfl, HK, HB, HR, HV⟩ := hrel
        clear HR1 HB1 HV1
        cases gk with
        | zero => have := HK.out; omega
        | succ k1 =>
        by_cases hlt : i < n
        · have hi1 : (i : Int) < (n : Int) := by omega
          have hil : i < (G.drop st x.n).length := by have := HN.out; omega
          have hOr := Kd.R_below HO.out HB.out
          have hxc := pw_cell_below HB.out HXX.out.1
          obtain ⟨ad, hA⟩ : ∃ ad, A = some ad := by
            obtain ⟨ad, _, e, _⟩ := Kd.C_get (Kd.R_reads' hOr).2.2 z71 (i : Int) (by omega) (by rw [List.length_map]; omega)
            exact ⟨ad, e⟩
          subst hA
          obtain ⟨A1, c1, x0, x1, x2, hM⟩ := lent hOr hil
          have hdt := high_take (s := x.n) hil
          have hdl := high_len (G.drop st x.n) x.n i
          generalize (G.drop st x.n)[i] = f at *
          have HBn := Aside0.mk (below_alloc HB.out (.cells #[.string f.n, .slice A1 f.b.length c1, .int .i64 f.l] 71))
          have HRn := Aside0.mk (Kd.R_alloc HR.out (.cells #[.string f.n, .slice A1 f.b.length c1, .int .i64 f.l] 71))
          have hxd := fun o => Go.Lib.cell?_alloc_some (W := wr) o hxc
          have HM := Aside0.mk (Kd.M_alloc hM (.cells #[.string f.n, .slice A1 f.b.length c1, .int .i64 f.l] 71))
          have HDT := Aside0.mk hdt
          have HLEN : Aside0 ((low (G.drop st x.n) x.n ++ [x] ++ high ((G.drop st x.n).take i) x.n).length ≤ 200001) := ⟨by have h1 := HN.out; have h2 := HFW.out; have h3 := low_len2 (G.drop st x.n) x.n; first | (rw [List.length_append, List.length_append, List.length_singleton]; omega) | omega⟩
          clear hM hOr hdt hdl
          have hgt := gtr_str f.n x.n
          cases hb1 : (Op.bytesLess x.n.toList f.n.toList)
          · go_wp2_with (fail)
            go_roundg k1
            case measure => omega
            case rel => exact ⟨i + 1, by first | rfl | (simp; done) | (rw [wrap_id (n := (i : Int) + 1) (by omega) (by have := HFW.out; omega)]; first | rfl | (simp; done)), ⟨by have := HK.out; omega⟩, HBn, ⟨by have h := HDT.out; rw [hb1] at h; simp only [Bool.false_eq_true, if_false, List.append_nil] at h; rw [h]; exact HRn.out⟩, HV⟩
          · go_wp2_with ((with_reducible refine gate_builtin (b := .append) (xs := #[.tmp 51, .tmp 53]) rfl ?_); at_builtin; refine Kd.R_append k71 (w0 := w2) B rfl (.tmp 51) (.tmp 53) 47 71 (.agg #[.string ⟨#[]⟩, .slice none 0 0, .int .i64 0]) 48 rfl Try.underlying47 info71 rfl (by decide) (by omega) u4 ((low (G.drop st x.n) x.n ++ [x] ++ high ((G.drop st x.n).take i) x.n).map toS) (toS f) [.string f.n, .slice A1 f.b.length c1, .int .i64 f.l] (fun k => B ≤ k) (fun k => (B ≤ k ∧ k < w2.heap.size) ∧ some k ≠ (Value.slice (some ad) n c).ownBlock) rfl (by show Value.slice (some ⟨wr.heap.size + 1, 0, none⟩) 1 1 = _; simp) ?aP ?aK ?aF ?aO ?aB ?aS ?aL ?_; (case aP => exact HM.out); (case aK => exact fun k hk => ⟨hk.1.1, fun e => by have := HV.out k e.symm; omega⟩); (case aF => exact fun k hk => by have h1 := HBn.out.size; have h2 := HBS.out.1; omega); (case aO => exact HRn.out); (case aB => exact HBn.out.mono HBS.out.1); (case aS => exact Nat.le_trans HBS.out.1 HBn.out.size); (case aL => rw [List.length_map]; have := HLEN.out; omega); intro v5 w5 ho5 hb5 hg5 hat5; have HO5 := Aside0.mk ho5; have HG5 := Aside0.mk hg5; have HA5 := Aside0.mk hat5; clear ho5 hb5 hg5 hat5)
            go_roundg k1
            case measure => omega
            case rel =>
              have hz := HBn.out.size
              have hg5 := HG5.out
              refine ⟨i + 1, by first | rfl | (simp; done) | (rw [wrap_id (n := (i : Int) + 1) (by omega) (by have := HFW.out; omega)]; first | rfl | (simp; done)), ⟨by have := HK.out; omega⟩, ⟨grown_below HBn.out hg5 HV.out⟩, ⟨?_⟩, ⟨fresh_own HBn.out HV.out HA5.out⟩⟩
              have h := HDT.out
              rw [hb1] at h
              simp only [if_true] at h
              first | rw [h, ← List.append_assoc, List.map_append] | rw [h, List.map_append]
              exact HO5.out
        · have hi : n = i := by have := HK.out; omega
          subst hi
          obtain ⟨A4, c4, hv4⟩ := Kd.R_slice HR.out
          obtain ⟨N4, hN4⟩ : ∃ N4 : Nat, N4 = (List.map toS (low (G.drop st x.n) x.n ++ [x] ++ high ((G.drop st x.n).take n) x.n)).length := ⟨_, rfl⟩
          rw [← hN4] at hv4
          clear hN4
          subst hv4
          have hGr := (HB.out.block g HBS.out.2.2).trans HG.out
          have q0 := (blk_cell hGr 1).trans rfl
          have q1 := blk_frozen hGr 1
          have HGr := Aside0.mk hGr
          clear hGr hlt
          go_wp2_with (fail)
          (first | go_end0 | ((try simp only [Exit.inBlock, Exit.then]); refine bodyPost_ret (results_none rfl _ _ _) rfl ?_))
          have hst : (G.drop st x.n).take n = G.drop st x.n := List.take_of_length_le (by have := HN.out; omega)
          have hR := HR.out
          rw [hst] at hR
          refine ⟨rfl, ⟨⟨_, blk_put HGr.out 1 _ rfl, Kd.R_set hR HGr.out (fun q hq => ?_) 1 _⟩, HBS.out.2.1⟩, ?_⟩
          · have : q = 71 ∨ q = 5 := by simpa [k71, Kd.iso, Kd.pair, Kd.slice, Kd.int, Kd.string, Kd.scalar] using hq
            rcases this with e | e <;> rw [e] <;> decide
          · have hb := HB.out
            have hc := HCC.out
            have ha := HBA.out
            exact ⟨hb.os.trans (hc.os.trans ha.os), hb.tape.trans (hc.tape.trans ha.tape), hb.output.trans (hc.output.trans ha.output), by have := hb.size; have := hc.size; have := ha.size; simp; omega, fun k hk hn => (Below.heap_setCell _ _ _ k (fun e => hn e)).trans ((hb.block k (by have := hc.size; have := ha.size; omega)).trans ((hc.block k (by have := ha.size; omega) hn).trans (ha.block k hk)))⟩
end Go.Proofs.Ytkdbojaoaldmbaa.G

-- Laid by this session's turned edition of print.py out of the translation. Not trusted: Lean checks it.
namespace Go.Proofs.Ytkdbojaoaldmbaa.Q
open Go.RowKit Go.Proofs.YtkdbojaoaldmbaaW.PrintWords Go.Proofs.YtkdbojaoaldmbaaW.PrintLast Go.Proofs.YtkdbojaoaldmbaaW.PrintMore
attribute [local go_sem] max2_int min2_int max_two min_two max_three min_three max_four min_four   -- for this text's walks alone
set_option linter.unusedVariables false
set_option linter.unusedSimpArgs false

/-! ### manometerref11_Title: function 45 -/
mutual
def manometerref11_Title.l0 : Nat → ByteArray → Int → Int → Option (Bool)
  | 0, _, _, _ => none
  | k + 1, x0, x6, x7 => if x7 < x6 then (if 0 ≤ x7 then (if x7 < (x0.size : Int) then (if (bt x0 x7) < 97 then (if (bt x0 x7) < 48 then (if (bt x0 x7) = 45 then (manometerref11_Title.j1 k x0 x6 x7 false) else (manometerref11_Title.j1 k x0 x6 x7 ((bt x0 x7) != 46))) else (if (bt x0 x7) > 57 then (if (bt x0 x7) = 45 then (manometerref11_Title.j1 k x0 x6 x7 false) else (manometerref11_Title.j1 k x0 x6 x7 ((bt x0 x7) != 46))) else (manometerref11_Title.j1 k x0 x6 x7 false))) else (if (bt x0 x7) > 122 then (if (bt x0 x7) < 48 then (if (bt x0 x7) = 45 then (manometerref11_Title.j1 k x0 x6 x7 false) else (manometerref11_Title.j1 k x0 x6 x7 ((bt x0 x7) != 46))) else (if (bt x0 x7) > 57 then (if (bt x0 x7) = 45 then (manometerref11_Title.j1 k x0 x6 x7 false) else (manometerref11_Title.j1 k x0 x6 x7 ((bt x0 x7) != 46))) else (manometerref11_Title.j1 k x0 x6 x7 false))) else (manometerref11_Title.j1 k x0 x6 x7 false))) else (none)) else (none)) else (if (x0.size : Int) ≥ 1 then (some (decide ((x0.size : Int) ≤ 32))) else (some false))
def manometerref11_Title.j1 : Nat → ByteArray → Int → Int → Bool → Option (Bool)
  | 0, _, _, _, _ => none
  | k + 1, x0, x6, x7, x34 => if x34 = true then (some false) else (manometerref11_Title.l0 k x0 x6 (wrap64 (x7 + 1)))
end
def manometerref11_Title.f (k : Nat) (a0 : ByteArray) : Option (Bool) := manometerref11_Title.l0 k a0 (a0.size : Int) 0
theorem manometerref11_Title.mono_l : ∀ k, (∀ y0 y1 y2, LeO (manometerref11_Title.l0 k y0 y1 y2) (manometerref11_Title.l0 (k + 1) y0 y1 y2)) ∧ (∀ y0 y1 y2 y3, LeO (manometerref11_Title.j1 k y0 y1 y2 y3) (manometerref11_Title.j1 (k + 1) y0 y1 y2 y3))
  | 0 => ⟨fun _ _ _ r h => by simp [manometerref11_Title.l0] at h, fun _ _ _ _ r h => by simp [manometerref11_Title.j1] at h⟩
  | k + 1 => by
    obtain ⟨ih0, ih1⟩ := manometerref11_Title.mono_l k
    refine ⟨?_, ?_⟩
    · intro y0 y1 y2
      unfold manometerref11_Title.l0
      repeat' first
      | (with_reducible exact ih0 _ _ _)
      | (with_reducible exact ih1 _ _ _ _)
      | (with_reducible exact LeO.refl _)
      | (with_reducible exact LeO.none _)
      | (with_reducible refine LeO.ite ?_ ?_)
      | (with_reducible refine LeO.bind ?_ (fun _ => ?_))
      | exact ih0 _ _ _
      | exact ih1 _ _ _ _
      | exact LeO.none _
      | refine LeO.ite ?_ ?_
      | refine LeO.bind ?_ (fun _ => ?_)
    · intro y0 y1 y2 y3
      unfold manometerref11_Title.j1
      repeat' first
      | (with_reducible exact ih0 _ _ _)
      | (with_reducible exact ih1 _ _ _ _)
      | (with_reducible exact LeO.refl _)
      | (with_reducible exact LeO.none _)
      | (with_reducible refine LeO.ite ?_ ?_)
      | (with_reducible refine LeO.bind ?_ (fun _ => ?_))
      | exact ih0 _ _ _
      | exact ih1 _ _ _ _
      | exact LeO.none _
      | refine LeO.ite ?_ ?_
      | refine LeO.bind ?_ (fun _ => ?_)
theorem manometerref11_Title.mono : ∀ a0 k, LeO (manometerref11_Title.f k a0) (manometerref11_Title.f (k + 1) a0) := by
  intro a0 k
  obtain ⟨ih0, ih1⟩ := manometerref11_Title.mono_l k
  unfold manometerref11_Title.f
  repeat' first
      | (with_reducible exact ih0 _ _ _)
      | (with_reducible exact ih1 _ _ _ _)
      | (with_reducible exact LeO.refl _)
      | (with_reducible exact LeO.none _)
      | (with_reducible refine LeO.ite ?_ ?_)
      | (with_reducible refine LeO.bind ?_ (fun _ => ?_))
      | exact ih0 _ _ _
      | exact ih1 _ _ _ _
      | exact LeO.none _
      | refine LeO.ite ?_ ?_
      | refine LeO.bind ?_ (fun _ => ?_)
set_option maxHeartbeats 8000000 in
set_option maxRecDepth 100000 in
theorem manometerref11_Title.calls (k : Nat) (a0 : ByteArray) (r : Bool) (w : World) (h : manometerref11_Title.f k a0 = some r) :
    Calls Try.prog 45 #[.string a0] w fun e w' => e = .returned (.bool r) ∧ Drawn0 w w' := by
  have H : (manometerref11_Title.l0 k a0 (a0.size : Int) 0) = some r := h
  clear h
  have H' := Aside0.mk H
  clear H
  go_enter Try.func45, Try.ntmps45
  go_wp2
  go_loopg [7] k (fun kq v7 w' => ∃ (x7_1 : Int), v7 = .int .i64 x7_1 ∧ Aside0 (manometerref11_Title.l0 kq a0 (a0.size : Int) x7_1 = some r) ∧ Aside0 (kq ≤ k) ∧ Drawn0 w w')
  case atStart => exact ⟨(0), (by first | rfl | (simp; done) | (simp [*]; done)), H', ⟨Nat.le_refl _⟩, by repeat (first | exact Drawn0.refl _ | apply Drawn0.step)⟩
  case round =>
    clear H'
    obtain ⟨x7_1, rfl, HA, HK1, ⟨m1, rfl⟩⟩ := hrel
    cases gk with
    | zero => exact absurd HA.out (by simp [manometerref11_Title.l0])
    | succ k1 =>
      have H := HA.out
      clear HA
      simp only [manometerref11_Title.l0] at H
      by_cases c2 : x7_1 < (a0.size : Int)
      · rw [if_pos c2] at H
        have c2b0 : decide (x7_1 < (a0.size : Int)) = true := decide_eq_true c2
        clear c2
        by_cases c3 : 0 ≤ x7_1
        rotate_left
        · rw [if_neg c3] at H
          exact absurd H (by simp)
        rw [if_pos c3] at H
        have c3b0 : decide (0 ≤ x7_1) = true := decide_eq_true c3
        clear c3
        by_cases c4 : x7_1 < (a0.size : Int)
        rotate_left
        · rw [if_neg c4] at H
          exact absurd H (by simp)
        rw [if_pos c4] at H
        have c4b0 : decide (x7_1 < (a0.size : Int)) = true := decide_eq_true c4
        clear c4
        have HC6 := Aside0.mk H
        clear H
        have p5 : 0 ≤ (x7_1 : Int) := of_decide_eq_true (by first | (with_reducible assumption) | assumption)
        have q5 : x7_1 < (a0.size : Int) := of_decide_eq_true (by first | (with_reducible assumption) | assumption)
        have hx5 := bt_at a0 x7_1
        replace p5 := eq_true p5
        replace q5 := eq_true q5
        go_upto_region 5 with (fail)
        go_cut [34] (fun v34 wc => ∃ (kq : Nat) (x34_5 : Bool), v34 = .bool x34_5 ∧ Aside0 (manometerref11_Title.j1 kq a0 (a0.size : Int) x7_1 x34_5 = some r) ∧ Aside0 (kq ≤ k1) ∧ Drawn0 w wc)
        case first =>
          have H := HC6.out
          clear HC6
          by_cases c7 : (bt a0 x7_1) < 97
          · rw [if_pos c7] at H
            have c7b0 : decide ((bt a0 x7_1) < 97) = true := decide_eq_true c7
            clear c7
            (first | rw [c7b0] | (simp only [i64_w, i32_w, xu32_w, xu8_w]; rw [c7b0]) | skip)
            by_cases c8 : (bt a0 x7_1) < 48
            · rw [if_pos c8] at H
              have c8b0 : decide ((bt a0 x7_1) < 48) = true := decide_eq_true c8
              clear c8
              by_cases c9 : (bt a0 x7_1) = 45
              · rw [if_pos c9] at H
                have c9b0 : ((bt a0 x7_1) == 45) = true := beq_iff_eq.mpr c9
                have c9b1 : ((bt a0 x7_1) != 45) = false := bne_eq_false_iff_eq.mpr c9
                clear c9
                have H' := Aside0.mk H
                clear H
                go_wp2
                go_meet
                case rel => exact ⟨_, (false), (by first | rfl | (simp; done) | (simp [*]; done)), H', ⟨by have := HK1.out; first | omega | exact Nat.le_refl _⟩, by repeat (first | exact Drawn0.refl _ | apply Drawn0.step)⟩
              · rw [if_neg c9] at H
                have c9b0 : ((bt a0 x7_1) == 45) = false := beq_eq_false_iff_ne.mpr c9
                have c9b1 : ((bt a0 x7_1) != 45) = true := bne_iff_ne.mpr c9
                have H' := Aside0.mk H
                clear H
                go_wp2
                go_meet
                case rel => exact ⟨_, (((bt a0 x7_1) != 46)), (by first | rfl | (simp; done) | (simp [*]; done)), H', ⟨by have := HK1.out; first | omega | exact Nat.le_refl _⟩, by repeat (first | exact Drawn0.refl _ | apply Drawn0.step)⟩
            · rw [if_neg c8] at H
              have c8b0 : decide ((bt a0 x7_1) < 48) = false := decide_eq_false c8
              clear c8
              by_cases c10 : (bt a0 x7_1) > 57
              · rw [if_pos c10] at H
                have c10b0 : decide (57 < (bt a0 x7_1)) = true := decide_eq_true c10
                clear c10
                by_cases c11 : (bt a0 x7_1) = 45
                · rw [if_pos c11] at H
                  have c11b0 : ((bt a0 x7_1) == 45) = true := beq_iff_eq.mpr c11
                  have c11b1 : ((bt a0 x7_1) != 45) = false := bne_eq_false_iff_eq.mpr c11
                  clear c11
                  have H' := Aside0.mk H
                  clear H
                  go_wp2
                  go_meet
                  case rel => exact ⟨_, (false), (by first | rfl | (simp; done) | (simp [*]; done)), H', ⟨by have := HK1.out; first | omega | exact Nat.le_refl _⟩, by repeat (first | exact Drawn0.refl _ | apply Drawn0.step)⟩
                · rw [if_neg c11] at H
                  have c11b0 : ((bt a0 x7_1) == 45) = false := beq_eq_false_iff_ne.mpr c11
                  have c11b1 : ((bt a0 x7_1) != 45) = true := bne_iff_ne.mpr c11
                  have H' := Aside0.mk H
                  clear H
                  go_wp2
                  go_meet
                  case rel => exact ⟨_, (((bt a0 x7_1) != 46)), (by first | rfl | (simp; done) | (simp [*]; done)), H', ⟨by have := HK1.out; first | omega | exact Nat.le_refl _⟩, by repeat (first | exact Drawn0.refl _ | apply Drawn0.step)⟩
              · rw [if_neg c10] at H
                have c10b0 : decide (57 < (bt a0 x7_1)) = false := decide_eq_false c10
                clear c10
                have H' := Aside0.mk H
                clear H
                go_wp2
                go_meet
                case rel => exact ⟨_, (false), (by first | rfl | (simp; done) | (simp [*]; done)), H', ⟨by have := HK1.out; first | omega | exact Nat.le_refl _⟩, by repeat (first | exact Drawn0.refl _ | apply Drawn0.step)⟩
          · rw [if_neg c7] at H
            have c7b0 : decide ((bt a0 x7_1) < 97) = false := decide_eq_false c7
            clear c7
            (first | rw [c7b0] | (simp only [i64_w, i32_w, xu32_w, xu8_w]; rw [c7b0]) | skip)
            by_cases c12 : (bt a0 x7_1) > 122
            · rw [if_pos c12] at H
              have c12b0 : decide (122 < (bt a0 x7_1)) = true := decide_eq_true c12
              clear c12
              by_cases c13 : (bt a0 x7_1) < 48
              · rw [if_pos c13] at H
                have c13b0 : decide ((bt a0 x7_1) < 48) = true := decide_eq_true c13
                clear c13
                by_cases c14 : (bt a0 x7_1) = 45
                · rw [if_pos c14] at H
                  have c14b0 : ((bt a0 x7_1) == 45) = true := beq_iff_eq.mpr c14
                  have c14b1 : ((bt a0 x7_1) != 45) = false := bne_eq_false_iff_eq.mpr c14
                  clear c14
                  have H' := Aside0.mk H
                  clear H
                  go_wp2
                  go_meet
                  case rel => exact ⟨_, (false), (by first | rfl | (simp; done) | (simp [*]; done)), H', ⟨by have := HK1.out; first | omega | exact Nat.le_refl _⟩, by repeat (first | exact Drawn0.refl _ | apply Drawn0.step)⟩
                · rw [if_neg c14] at H
                  have c14b0 : ((bt a0 x7_1) == 45) = false := beq_eq_false_iff_ne.mpr c14
                  have c14b1 : ((bt a0 x7_1) != 45) = true := bne_iff_ne.mpr c14
                  have H' := Aside0.mk H
                  clear H
                  go_wp2
                  go_meet
                  case rel => exact ⟨_, (((bt a0 x7_1) != 46)), (by first | rfl | (simp; done) | (simp [*]; done)), H', ⟨by have := HK1.out; first | omega | exact Nat.le_refl _⟩, by repeat (first | exact Drawn0.refl _ | apply Drawn0.step)⟩
              · rw [if_neg c13] at H
                have c13b0 : decide ((bt a0 x7_1) < 48) = false := decide_eq_false c13
                clear c13
                by_cases c15 : (bt a0 x7_1) > 57
                · rw [if_pos c15] at H
                  have c15b0 : decide (57 < (bt a0 x7_1)) = true := decide_eq_true c15
                  clear c15
                  by_cases c16 : (bt a0 x7_1) = 45
                  · rw [if_pos c16] at H
                    have c16b0 : ((bt a0 x7_1) == 45) = true := beq_iff_eq.mpr c16
                    have c16b1 : ((bt a0 x7_1) != 45) = false := bne_eq_false_iff_eq.mpr c16
                    clear c16
                    have H' := Aside0.mk H
                    clear H
                    go_wp2
                    go_meet
                    case rel => exact ⟨_, (false), (by first | rfl | (simp; done) | (simp [*]; done)), H', ⟨by have := HK1.out; first | omega | exact Nat.le_refl _⟩, by repeat (first | exact Drawn0.refl _ | apply Drawn0.step)⟩
                  · rw [if_neg c16] at H
                    have c16b0 : ((bt a0 x7_1) == 45) = false := beq_eq_false_iff_ne.mpr c16
                    have c16b1 : ((bt a0 x7_1) != 45) = true := bne_iff_ne.mpr c16
                    have H' := Aside0.mk H
                    clear H
                    go_wp2
                    go_meet
                    case rel => exact ⟨_, (((bt a0 x7_1) != 46)), (by first | rfl | (simp; done) | (simp [*]; done)), H', ⟨by have := HK1.out; first | omega | exact Nat.le_refl _⟩, by repeat (first | exact Drawn0.refl _ | apply Drawn0.step)⟩
                · rw [if_neg c15] at H
                  have c15b0 : decide (57 < (bt a0 x7_1)) = false := decide_eq_false c15
                  clear c15
                  have H' := Aside0.mk H
                  clear H
                  go_wp2
                  go_meet
                  case rel => exact ⟨_, (false), (by first | rfl | (simp; done) | (simp [*]; done)), H', ⟨by have := HK1.out; first | omega | exact Nat.le_refl _⟩, by repeat (first | exact Drawn0.refl _ | apply Drawn0.step)⟩
            · rw [if_neg c12] at H
              have c12b0 : decide (122 < (bt a0 x7_1)) = false := decide_eq_false c12
              clear c12
              have H' := Aside0.mk H
              clear H
              go_wp2
              go_meet
              case rel => exact ⟨_, (false), (by first | rfl | (simp; done) | (simp [*]; done)), H', ⟨by have := HK1.out; first | omega | exact Nat.le_refl _⟩, by repeat (first | exact Drawn0.refl _ | apply Drawn0.step)⟩
        case rest =>
          clear HC6
          try clear c1
          try clear c2
          try clear c2b0
          try clear p2
          try clear c3
          try clear c3b0
          try clear c4
          try clear c4b0
          try clear p5
          try clear q5
          try clear hx5
          try clear c7
          try clear c7b0
          try clear c8
          try clear c8b0
          try clear c9
          try clear c9b0
          try clear c9b1
          try clear c10
          try clear c10b0
          try clear c11
          try clear c11b0
          try clear c11b1
          try clear c12
          try clear c12b0
          try clear c13
          try clear c13b0
          try clear c14
          try clear c14b0
          try clear c14b1
          try clear c15
          try clear c15b0
          try clear c16
          try clear c16b0
          try clear c16b1
          try clear p5
          try clear q5
          obtain ⟨kq, x34_5, rfl, HA, HJ5, ⟨mc5, rfl⟩⟩ := hcut
          cases kq with
          | zero => exact absurd HA.out (by simp [manometerref11_Title.j1])
          | succ kj5 =>
            have H := HA.out
            clear HA
            simp only [manometerref11_Title.j1] at H
            by_cases c17 : x34_5 = true
            · subst c17
              have H1 : (some false) = some r := by rw [if_pos rfl] at H; exact H
              clear H
              have H := H1
              clear H1
              obtain rfl := Option.some.inj H
              go_wp2
              go_ret
              exact ⟨by first | rfl | (simp; done) | (simp [*]; done), by repeat (first | exact Drawn0.refl _ | apply Drawn0.step)⟩
            · replace c17 := Bool.eq_false_iff.mpr c17
              subst c17
              have H1 : (manometerref11_Title.l0 kj5 a0 (a0.size : Int) (wrap64 (x7_1 + 1))) = some r := by rw [if_neg (show ¬ (false = true) by decide)] at H; exact H
              clear H
              have H := H1
              clear H1
              have H' := Aside0.mk H
              clear H
              go_wp2
              go_roundg kj5
              case measure => have := HK1.out; have := HJ5.out; omega
              case rel => exact ⟨(wrap64 (x7_1 + 1)), (by first | rfl | (simp; done) | (simp [*]; done)), H', ⟨by have := HK1.out; have := HJ5.out; omega⟩, by repeat (first | exact Drawn0.refl _ | apply Drawn0.step)⟩
      · rw [if_neg c2] at H
        have c2b0 : decide (x7_1 < (a0.size : Int)) = false := decide_eq_false c2
        clear c2
        by_cases c18 : (a0.size : Int) ≥ 1
        · rw [if_pos c18] at H
          have c18b0 : decide (1 ≤ (a0.size : Int)) = true := decide_eq_true c18
          have c18b1 : decide (1 ≤ a0.size) = true := decide_eq_true (by omega)
          clear c18
          obtain rfl := Option.some.inj H
          go_wp2
          go_ret
          exact ⟨by first | rfl | (simp; done) | (simp [*]; done), by repeat (first | exact Drawn0.refl _ | apply Drawn0.step)⟩
        · rw [if_neg c18] at H
          have c18b0 : decide (1 ≤ (a0.size : Int)) = false := decide_eq_false c18
          have c18b1 : decide (1 ≤ a0.size) = false := decide_eq_false (by omega)
          clear c18
          obtain rfl := Option.some.inj H
          go_wp2
          go_ret
          exact ⟨by first | rfl | (simp; done) | (simp [*]; done), by repeat (first | exact Drawn0.refl _ | apply Drawn0.step)⟩

end Go.Proofs.Ytkdbojaoaldmbaa.Q

/- The document's disk by hand: Title, Read, Lasts, Remove, Append. -/
namespace Go.Proofs.Ytkdbojaoaldmbaa.G
open Go.RowKit Go.Proofs.Ytkdbojaoaldmbaa.Q Go.Proofs.YtkdbojaoaldmbaaW.PrintWords Go.Proofs.YtkdbojaoaldmbaaW.PrintLast Go.Proofs.YtkdbojaoaldmbaaW.PrintMore
set_option linter.unusedVariables false
set_option linter.unusedSimpArgs false
theorem rtitle_body (s : ByteArray) (n i c : Int) (k : Nat) (R : Bool) (hR : manometerref11_Title.l0 k s n (wrap64 (i + 1)) = some R) :
    (if c < 97 then (if c < 48 then (if c = 45 then (manometerref11_Title.j1 (k + 1) s n i false) else (manometerref11_Title.j1 (k + 1) s n i (c != 46))) else (if c > 57 then (if c = 45 then (manometerref11_Title.j1 (k + 1) s n i false) else (manometerref11_Title.j1 (k + 1) s n i (c != 46))) else (manometerref11_Title.j1 (k + 1) s n i false))) else (if c > 122 then (if c < 48 then (if c = 45 then (manometerref11_Title.j1 (k + 1) s n i false) else (manometerref11_Title.j1 (k + 1) s n i (c != 46))) else (if c > 57 then (if c = 45 then (manometerref11_Title.j1 (k + 1) s n i false) else (manometerref11_Title.j1 (k + 1) s n i (c != 46))) else (manometerref11_Title.j1 (k + 1) s n i false))) else (manometerref11_Title.j1 (k + 1) s n i false))) = some (okc c && R) := by
  have j : ∀ b, manometerref11_Title.j1 (k + 1) s n i b = if b = true then some false else some R := fun b => by
    simp only [manometerref11_Title.j1, hR]
  simp only [j]
  unfold okc
  by_cases a1 : c < 97
  · rw [if_pos a1]
    have b1 : ¬ (97 ≤ c) := by omega
    by_cases a2 : c < 48
    · rw [if_pos a2]
      have b2 : ¬ (48 ≤ c) := by omega
      by_cases a3 : c = 45
      · simp [a3]
      · by_cases a4 : c = 46
        · simp [a4]
        · simp [a3, a4, b1, b2]
    · rw [if_neg a2]
      have b2 : 48 ≤ c := by omega
      by_cases a5 : c > 57
      · rw [if_pos a5]
        have b5 : ¬ (c ≤ 57) := by omega
        have b6 : ¬ c = 45 := by omega
        have b7 : ¬ c = 46 := by omega
        simp [b1, b2, b5, b6, b7]
      · rw [if_neg a5]
        have b5 : c ≤ 57 := by omega
        simp [b2, b5]
  · rw [if_neg a1]
    have b1 : 97 ≤ c := by omega
    by_cases a2 : c > 122
    · rw [if_pos a2]
      have b2 : ¬ (c ≤ 122) := by omega
      have b3 : ¬ (c < 48) := by omega
      have b4 : c > 57 := by omega
      have b5 : ¬ c ≤ 57 := by omega
      have b6 : ¬ c = 45 := by omega
      have b7 : ¬ c = 46 := by omega
      rw [if_neg b3, if_pos b4]
      simp [b1, b2, b5, b6, b7]
    · rw [if_neg a2]
      have b2 : c ≤ 122 := by omega
      simp [b1, b2]
theorem rtitle_l0 (s : ByteArray) (hs : s.size ≤ 9223372036854775807) : ∀ d i : Nat, d + i = s.size → manometerref11_Title.l0 (2 * d + 1) s (s.size : Int) (i : Int) = some (okFrom s d i && (if s.toList = [] then false else decide ((s.size : Int) ≤ 32))) := by
  have he : s.toList = [] ↔ s.size = 0 := by
    rw [ByteArray.toList_eq]
    constructor
    · intro h
      have := congrArg List.length h
      simpa using this
    · intro h
      exact List.eq_nil_of_length_eq_zero (by simpa using h)
  intro d
  induction d with
  | zero =>
    intro i hi
    simp only [manometerref11_Title.l0]
    rw [if_neg (by omega)]
    by_cases h : s.size = 0
    · rw [if_neg (by omega), if_pos (he.2 h)]; simp
    · rw [if_pos (by omega), if_neg (fun e => h (he.1 e))]; simp [okFrom]
  | succ d ih =>
    intro i hi
    show manometerref11_Title.l0 (2 * d + 1 + 1 + 1) s (s.size : Int) (i : Int) = _
    conv => lhs; unfold manometerref11_Title.l0
    rw [if_pos (show (i : Int) < (s.size : Int) by omega), if_pos (show (0 : Int) ≤ (i : Int) by omega), if_pos (show (i : Int) < (s.size : Int) by omega)]
    rw [rtitle_body s s.size i (bt s i) (2 * d + 1) (okFrom s d (i + 1) && (if s.toList = [] then false else decide ((s.size : Int) ≤ 32))) (by
      rw [show wrap64 ((i : Int) + 1) = ((i + 1 : Nat) : Int) by unfold wrap64; omega]
      exact ih (i + 1) (by omega))]
    simp only [okFrom, Bool.and_assoc]
theorem rtitle_calls (s : ByteArray) (hs : s.size ≤ 9223372036854775807) (w : World) : Calls Try.prog 45 #[.string s] w fun e w' => e = .returned (.bool (titleB s)) ∧ Drawn0 w w' := manometerref11_Title.calls (2 * s.size + 1) s _ w (rtitle_l0 s hs s.size 0 (by omega))
section
variable {w : World} {g B : Nat} {room : Int} {st : St}
theorem at_none (h : RefG w g B room st) (hfew : st.length ≤ 100000) (s : ByteArray) (hl : look st s = none) : Calls Try.prog 42 #[.pointer (some ⟨g, 0, none⟩), .string s] w fun e w' => e = .returned (.int .i64 (-1)) ∧ Below w.heap.size w w' :=
  (at_calls h hfew s).mono fun e w' ⟨hq, hb⟩ => by
    rcases hq with ⟨_, he⟩ | ⟨i, f, h1, _⟩
    · exact ⟨he, hb⟩
    · rw [hl] at h1; cases h1
/-- Where a file stands. -/
def AtS (st : St) (f : FS) (w : World) (e : Ending) (w' : World) : Prop := ∃ i : Nat, st[i]? = some f ∧ e = .returned (.int .i64 (i : Int)) ∧ Below w.heap.size w w'
theorem at_some (h : RefG w g B room st) (hfew : st.length ≤ 100000) (s : ByteArray) {f : FS} (hl : look st s = some f) : Calls Try.prog 42 #[.pointer (some ⟨g, 0, none⟩), .string s] w (AtS st f w) :=
  (at_calls h hfew s).mono fun e w' ⟨hq, hb⟩ => by
    rcases hq with ⟨h1, _⟩ | ⟨i, f', h1, h2, he⟩
    · rw [hl] at h1; cases h1
    · rw [hl] at h1; cases h1; exact ⟨i, h2, he, hb⟩
set_option maxHeartbeats 400000 in
set_option maxRecDepth 100000 in
theorem rremove_calls (h : RefG w g B room st) (hB : B ≤ w.heap.size) (hfew : st.length ≤ 100000) (s : ByteArray) : Calls Try.prog 38 #[.pointer (some ⟨g, 0, none⟩), .string s] w fun e w' => e = .returned (.int .i64 (removeE st s)) ∧ RefG w' g B room (removeS st s) ∧ Chg (fun k => k = g) w w' := by
  have HD := Aside0.mk h
  have HB := Aside0.mk hB
  have HF := Aside0.mk hfew
  clear h hB hfew
  cases hl : look st s with
  | none =>
    have e1 : removeE st s = 4 := by unfold removeE; rw [hl]
    have e2 : removeS st s = st := by unfold removeS; rw [hl]
    rw [e1, e2]
    have HL := Aside0.mk hl
    clear e1 e2 hl
    go_enter Try.func38, Try.ntmps38
    go_wp2_with (go_at_call 42; (with_reducible refine (at_none HD.out HF.out s HL.out).mono ?_); rintro e w9 ⟨rfl, hb⟩; have HB9 := Aside0.mk hb; clear hb)
    go_ret
    exact ⟨rfl, HD.out.below HB9.out, Chg.of_below _ HB9.out⟩
  | some f =>
    have e1 : removeE st s = 0 := by unfold removeE; rw [hl]
    have e2 : removeS st s = G.drop st s := by unfold removeS; rw [hl]
    rw [e1, e2]
    have HL := Aside0.mk hl
    clear e1 e2 hl
    go_enter Try.func38, Try.ntmps38
    go_wp2_with (first
      | (go_at_call 42; (with_reducible refine (at_some HD.out HF.out s HL.out).mono ?_); rintro e w9 ⟨i, hi, rfl, hb⟩; have HB9 := Aside0.mk hb; have hi0 : ¬ (i : Int) < 0 := (by omega); clear hb hi)
      | (go_at_call 47; (with_reducible refine (rdrop_calls (HD.out.below HB9.out) (Nat.le_trans HB.out HB9.out.size) HF.out s).mono ?_); rintro e w2 ⟨rfl, hR, hC⟩; have HR2 := Aside0.mk hR; have HC2 := Aside0.mk hC; clear hR hC))
    go_ret
    exact ⟨rfl, HR2.out, (Chg.of_below _ HB9.out).trans HC2.out (fun _ _ e => e) (fun _ _ e => e)⟩
/-- A file of the document's disk, lent, at its place. -/
theorem RefG.at_ (h : RefG w g B room st) {i : Nat} {f : FS} (hi : st[i]? = some f) : ∃ (ad : Addr) (c : Nat) (A1 : Option Addr) (c1 : Nat), w.cell? ⟨g, 1, none⟩ = some (.slice (some ad) st.length c) ∧ i < st.length ∧ st.length ≤ c ∧ w.cell? (ad.add (i * 3)) = some (.string f.n) ∧
    w.cell? ⟨(ad.add (i * 3)).block, (ad.add (i * 3)).off + 1, none⟩ = some (.slice A1 f.b.length c1) ∧ w.cell? ⟨(ad.add (i * 3)).block, (ad.add (i * 3)).off + 2, none⟩ = some (.int .i64 f.l) ∧ f.b.length ≤ c1 ∧ (Kd.int .u8).C w A1 f.b.length f.b ∧
    k71.M w B (fun k => B ≤ k ∧ k < w.heap.size) (toS f) [.string f.n, .slice A1 f.b.length c1, .int .i64 f.l] := by
  obtain ⟨v, h1, h2⟩ := h.ex
  obtain ⟨A, c, hv⟩ := Kd.R_slice h2
  subst hv
  have hil := (List.getElem?_eq_some_iff.1 hi).1
  have hrd := Kd.R_reads' h2
  obtain ⟨ad, hA⟩ : ∃ ad, A = some ad := by
    obtain ⟨ad, _, e, _⟩ := Kd.C_get hrd.2.2 z71 (i : Int) (by omega) (by rw [List.length_map]; omega)
    exact ⟨ad, e⟩
  subst hA
  have h2b := Kd.R_mono (ok' := fun k => B ≤ k ∧ k < w.heap.size) (Kd.R_bound h2) (fun k hk => ⟨hk.1, hk.2.2.1⟩)
  obtain ⟨A1, c1, x0, x1, x2, hM⟩ := lent h2b hil
  have hf : st[i] = f := (List.getElem?_eq_some_iff.1 hi).2
  rw [hf] at x0 x1 x2 hM
  rw [List.length_map] at h1 hrd
  obtain ⟨v1, hv1, hR1⟩ := k71_openM hM
  have hv1' : v1 = .slice A1 f.b.length c1 := by injection hv1 with _ e; injection e with e _; exact e.symm
  subst hv1'
  obtain ⟨_, hc1, hC1⟩ := Kd.R_reads' hR1
  exact ⟨ad, c, A1, c1, (blk_cell h1 1).trans rfl, hil, hrd.2.1, x0, x1, x2, hc1, hC1, k71.M_mono (fun k hk => hk.1) hM⟩
set_option maxHeartbeats 400000 in
set_option maxRecDepth 100000 in
theorem rlasts_calls (h : RefG w g B room st) (hfew : st.length ≤ 100000) (s : ByteArray) : Calls Try.prog 26 #[.pointer (some ⟨g, 0, none⟩), .string s] w fun e w' => e = .returned (.tuple #[.int .i64 (lastsR st s).1, .int .i64 (lastsR st s).2]) ∧ Below w.heap.size w w' := by
  have HD := Aside0.mk h
  have HF := Aside0.mk hfew
  clear h
  cases hl : look st s with
  | none =>
    have e1 : lastsR st s = (0, 4) := by unfold lastsR; rw [hl]
    rw [e1]
    have HL := Aside0.mk hl
    clear e1 hl
    go_enter Try.func26, Try.ntmps26
    go_wp2_with (go_at_call 42; (with_reducible refine (at_none HD.out HF.out s HL.out).mono ?_); rintro e w9 ⟨rfl, hb⟩; have HB9 := Aside0.mk hb; clear hb)
    go_ret2
    exact ⟨rfl, HB9.out⟩
  | some f =>
    have e1 : lastsR st s = (f.l, 0) := by unfold lastsR; rw [hl]
    rw [e1]
    have HL := Aside0.mk hl
    clear e1 hl
    generalize hnn : st.length = n at *
    have HN := Aside0.mk hnn
    clear hnn
    go_enter Try.func26, Try.ntmps26
    go_wp2_with (go_at_call 42; (with_reducible refine (at_some HD.out (by have := HF.out; have := HN.out; omega) s HL.out).mono ?_); rintro e w9 ⟨i, hi, rfl, hb⟩; have HB9 := Aside0.mk hb; have hi0 : ¬ (i : Int) < 0 := (by omega); obtain ⟨ad, c, A1, c1, g1, hil, hcc, x0, x1, x2, hc1, hC1, hM⟩ := (HD.out.below hb).at_ hi; rw [HN.out] at g1 hil hcc; have hi1 : (i : Int) < (n : Int) := (by omega); clear hb hi hC1 hM)
    go_ret2
    exact ⟨rfl, HB9.out⟩
set_option maxHeartbeats 400000 in
set_option maxRecDepth 100000 in
theorem rread_calls (h : RefG w g B room st) (hfew : st.length ≤ 100000) (hsm : total st ≤ 16777216) (s : ByteArray) : Calls Try.prog 25 #[.pointer (some ⟨g, 0, none⟩), .string s] w fun e w' => ∃ v, e = .returned (.tuple #[v, .int .i64 (readE st s)]) ∧ (Kd.int .u8).R 5 w' w.heap.size (fun k => w.heap.size ≤ k) v (readB st s) ∧ Below w.heap.size w w' := by
  have HD := Aside0.mk h
  have HF := Aside0.mk hfew
  clear h
  cases hl : look st s with
  | none =>
    have e1 : readE st s = 4 := by unfold readE; rw [hl]
    have e2 : readB st s = [] := by unfold readB; rw [hl]
    rw [e1, e2]
    have HL := Aside0.mk hl
    clear e1 e2 hl
    go_enter Try.func25, Try.ntmps25
    go_wp2_with (go_at_call 42; (with_reducible refine (at_none HD.out HF.out s HL.out).mono ?_); rintro e w9 ⟨rfl, hb⟩; have HB9 := Aside0.mk hb; clear hb)
    go_ret2
    exact ⟨_, rfl, Kd.R_nil _ _ _ _ _, HB9.out⟩
  | some f =>
    have e1 : readE st s = 0 := by unfold readE; rw [hl]
    have e2 : readB st s = f.b := by unfold readB; rw [hl]
    rw [e1, e2]
    have hbl : f.b.length ≤ 16777216 := Nat.le_trans (look_len hl) hsm
    have HBL := Aside0.mk hbl
    have HL := Aside0.mk hl
    clear e1 e2 hl hbl hsm
    generalize hnn : st.length = n at *
    have HN := Aside0.mk hnn
    clear hnn
    go_enter Try.func25, Try.ntmps25
    go_wp2_with (first
      | (go_at_call 42; (with_reducible refine (at_some HD.out (by have := HF.out; have := HN.out; omega) s HL.out).mono ?_); rintro e w9 ⟨i, hi, rfl, hb⟩; have HB9 := Aside0.mk hb; have hi0 : ¬ (i : Int) < 0 := (by omega); obtain ⟨ad, c, A1, c1, g1, hil, hcc, x0, x1, x2, hc1, hC1, hM⟩ := (HD.out.below hb).at_ hi; rw [HN.out] at g1 hil hcc; have hi1 : (i : Int) < (n : Int) := (by omega); have HC := Aside0.mk (And.intro hc1 hC1); clear hb hi hC1 hM hc1)
      | (go_at_call 32; (with_reducible refine (join_calls w9 A1 f.b c1 HC.out.1 HC.out.2 (by have := HBL.out; omega)).mono ?_); rintro e w5 ⟨v5, rfl, hR, hb⟩; have hb5 := below_step (below_alloc (Below.refl _ _) _) hb; have HB5 := Aside0.mk (below_step HB9.out hb5); have hz := (below_alloc (Below.refl w9.heap.size w9) (.cells #[.slice A1 f.b.length c1] 29)).size; have HR5 := Aside0.mk (Kd.R_lower (Kd.R_mono (Kd.R_bound hR) (ok' := fun k => w.heap.size ≤ k) (fun k hk => Nat.le_trans HB9.out.size (Nat.le_trans hz hk.2.1))) (Nat.le_trans HB9.out.size hz)); clear hR hb hb5 hz))
    go_ret2
    exact ⟨_, rfl, HR5.out, HB5.out⟩
end
end Go.Proofs.Ytkdbojaoaldmbaa.G

/- The document's disk by hand: a file written in its place; Sync. -/
namespace Go.Proofs.Ytkdbojaoaldmbaa.G
open Go.RowKit Go.Proofs.Ytkdbojaoaldmbaa.Q Go.Proofs.YtkdbojaoaldmbaaW.PrintWords Go.Proofs.YtkdbojaoaldmbaaW.PrintLast Go.Proofs.YtkdbojaoaldmbaaW.PrintMore
set_option linter.unusedVariables false
set_option linter.unusedSimpArgs false
def rsync.T4 : Bool × List (List Nat × List Nat) := (true, [([], []), ([0], [0]), ([1], [1]), ([2], [2]), ([], []), ([], []), ([5], [5]), ([6], [6]), ([7], [7]), ([], []), ([8, 9], [8, 9]), ([10], [10]), ([11], [11]), ([12], [12]), ([3, 4, 0, 1, 2, 3, 4, 5, 6, 7, 8, 9, 10, 11, 12, 13], [3, 4]), ([14, 0, 1, 2, 3, 4, 5, 6, 7, 8, 9, 10, 11, 12, 13], [14]), ([15, 13, 0, 1, 2, 3, 4, 5, 6, 7, 8, 9, 10, 11, 12, 13], [13, 15])])
def rsync.B4 : List Nat := [0, 1, 3, 7, 0, 0, 32, 96, 224, 0, 992, 2016, 4064, 8160, 16383, 32767, 65535]
theorem rsync.tab4 : rtab .any (opsOf Try.f36 4) = rsync.T4 := by kernel_rfl
theorem rsync.bits4 : waitsOk rsync.T4.2 rsync.B4 = true := by kernel_rfl
/-- A file is another one under its own name. -/
theorem put_set : ∀ {st : St} {i : Nat} {f f' : FS}, Sorted st → st[i]? = some f → f'.n = f.n → st.set i f' = put st f'
  | [], i, f, f', _, hi, _ => by simp at hi
  | g :: r, 0, f, f', hs, hi, hn => by
    have : g = f := by simpa using hi
    subst this
    unfold put
    rw [if_pos hn]; rfl
  | g :: r, i + 1, f, f', hs, hi, hn => by
    obtain ⟨h1, h2⟩ := List.pairwise_cons.1 hs
    have hi' : r[i]? = some f := by simpa using hi
    have hlt := h1 f (List.mem_of_getElem? hi')
    unfold put
    rw [if_neg (fun e => hlt.ne (by rw [← e, hn])), if_neg (fun e => hlt.asymm (by rw [hn] at e; exact e)), ← put_set h2 hi' hn]
    rfl
section
variable {w : World} {g B : Nat} {room : Int} {st : St}
/-- A file of the document's disk, at its place, to be written. -/
theorem RefG.slot (h : RefG w g B room st) {i : Nat} {f : FS} (hi : st[i]? = some f) : ∃ (r c : Nat) (A1 : Option Addr) (c1 : Nat), w.cell? ⟨g, 1, none⟩ = some (.slice (some ⟨r, 0, none⟩) st.length c) ∧ i < st.length ∧ st.length ≤ c ∧ B ≤ r ∧ r ≠ g ∧ (∃ cs, w.heap[r]? = some (.cells cs 71 (0, 0))) ∧
    w.cell? ⟨r, i * 3 + 1, none⟩ = some (.slice A1 f.b.length c1) ∧ w.cell? ⟨r, i * 3 + 2, none⟩ = some (.int .i64 f.l) ∧ w.frozen? ⟨r, i * 3 + 1, none⟩ = false ∧ w.frozen? ⟨r, i * 3 + 2, none⟩ = false ∧ f.b.length ≤ c1 ∧ (Kd.int .u8).C w A1 f.b.length f.b ∧
    (∀ l', RefG (w.setCell ⟨r, i * 3 + 2, none⟩ (.int .i64 l')) g B room (st.set i ⟨f.n, f.b, l'⟩)) ∧
    ∀ v5 b', (Kd.int .u8).R 5 w B (fun k => B ≤ k ∧ k ≠ r) v5 b' → RefG (w.setCell ⟨r, i * 3 + 1, none⟩ v5) g B room (st.set i ⟨f.n, b', f.l⟩) := by
  obtain ⟨v, h1, h2⟩ := h.ex
  obtain ⟨A, c, hv⟩ := Kd.R_slice h2
  subst hv
  have hil := (List.getElem?_eq_some_iff.1 hi).1
  have hrd := Kd.R_reads' h2
  have hf : st[i] = f := (List.getElem?_eq_some_iff.1 hi).2
  obtain ⟨r, cap, hv, hbr, hlr, cs, hcs⟩ := Kd.R_form h2 (by rw [List.length_map]; omega)
  injection hv with e1 e2 e3
  subst e1 e3
  have hrg : r ≠ g := fun e => by rw [e, h1] at hcs; cases hcs
  have hlen : (i : Int) < ((st.map toS).length : Nat) := by rw [List.length_map]; omega
  obtain ⟨cs2, hcl, hM, hc, hfz⟩ := Kd.R_elem h2 z71 (i : Int) (by omega) hlen
  have hx : (st.map toS).getD i z71 = toS f := by
    rw [List.getD_eq_getElem?_getD, List.getElem?_map, List.getElem?_eq_getElem hil, hf]; rfl
  rw [Int.toNat_natCast] at hM hc hfz
  rw [hx] at hM
  obtain ⟨v1, rfl, hR1⟩ := k71_openM hM
  obtain ⟨A1, c1, hv1⟩ := Kd.R_slice hR1
  subst hv1
  obtain ⟨_, hc1, hC1⟩ := Kd.R_reads' hR1
  rw [List.length_map] at h1
  refine ⟨r, c, A1, c1, (blk_cell h1 1).trans rfl, hil, by have := hrd.2.1; rw [List.length_map] at this; exact this, hbr, hrg, ⟨cs, hcs⟩, hc 1 _ rfl, hc 2 _ rfl, hfz 1, hfz 2, hc1, hC1, fun l' => ?_, fun v5 b' hR5 => ?_⟩
  rotate_left
  · have hs := (Kd.R_seg h2 (i : Int) (by omega) hlen (c := [.string (toS f).f0, .slice A1 (toS f).f1.length c1, .int .i64 (toS f).f2]) (seg := [v5]) (j := 1) rfl (by rw [Int.toNat_natCast]; exact hc) (by show 1 + 1 ≤ 3; omega) (x' := ⟨f.n, b', f.l⟩) (okp := fun k => B ≤ k ∧ k ≠ r) (k71_mkM w B _ ⟨f.n, b', f.l⟩ hR5) (fun k hk => hk)).1
    rw [Int.toNat_natCast] at hs
    have hset : (st.map toS).set i ⟨f.n, b', f.l⟩ = (st.set i ⟨f.n, b', f.l⟩).map toS := by rw [List.map_set]; rfl
    rw [hset, List.length_map] at hs
    exact ⟨⟨_, (Below.heap_setCell _ _ _ g (fun e => hrg e.symm)).trans h1, hs⟩, h.base⟩
  have hs := (Kd.R_seg h2 (i : Int) (by omega) hlen (c := [.string (toS f).f0, .slice A1 (toS f).f1.length c1, .int .i64 (toS f).f2]) (seg := [.int .i64 l']) (j := 2) rfl (by rw [Int.toNat_natCast]; exact hc) (by show 2 + 1 ≤ 3; omega) (x' := ⟨f.n, f.b, l'⟩) (okp := fun k => B ≤ k ∧ k ≠ r) (k71_mkM w B _ ⟨f.n, f.b, l'⟩ hR1) (fun k hk => hk)).1
  rw [Int.toNat_natCast] at hs
  have hset : (st.map toS).set i ⟨f.n, f.b, l'⟩ = (st.set i ⟨f.n, f.b, l'⟩).map toS := by rw [List.map_set]; rfl
  rw [hset] at hs
  refine ⟨⟨_, (Below.heap_setCell _ _ _ g (fun e => hrg e.symm)).trans h1, ?_⟩, h.base⟩
  have hl2 : (st.set i ⟨f.n, f.b, l'⟩).length = st.length := List.length_set
  have hs' := hs
  rw [List.length_map] at hs'
  exact hs'
set_option maxHeartbeats 1000000 in
set_option maxRecDepth 100000 in
theorem rsync_calls (h : RefG w g B room st) (hs : Sorted st) (hfew : st.length ≤ 100000) (s : ByteArray) : Calls Try.prog 36 #[.pointer (some ⟨g, 0, none⟩), .string s] w fun e w' => e = .returned (.int .i64 (syncE st s)) ∧ RefG w' g B room (syncS st s) ∧ Chg (RefB w B) w w' := by
  have HD := Aside0.mk h
  have HF := Aside0.mk hfew
  have HSR := Aside0.mk hs
  clear h hs
  cases hl : look st s with
  | none =>
    have e1 : syncE st s = 4 := by unfold syncE; rw [hl]
    have e2 : syncS st s = st := by unfold syncS; rw [hl]
    rw [e1, e2]
    have HL := Aside0.mk hl
    clear e1 e2 hl
    go_enter Try.func36, Try.ntmps36
    go_wp2_with (go_at_call 42; (with_reducible refine (at_none HD.out HF.out s HL.out).mono ?_); rintro e w9 ⟨rfl, hb⟩; have HB9 := Aside0.mk hb; clear hb)
    go_ret
    exact ⟨rfl, HD.out.below HB9.out, Chg.of_below _ HB9.out⟩
  | some f =>
    have e1 : syncE st s = 0 := by unfold syncE; rw [hl]
    have e2 : syncS st s = put st ⟨f.n, f.b, f.b.length⟩ := by unfold syncS; rw [hl]
    rw [e1, e2]
    have HL := Aside0.mk hl
    clear e1 e2 hl
    obtain ⟨n, hnn⟩ : ∃ n : Nat, n = st.length := ⟨_, rfl⟩
    have HN := Aside0.mk hnn
    have hnf : n ≤ 100000 := by omega
    clear hnn hfew
    go_enter Try.func36, Try.ntmps36
    go_wp2_with (go_at_call 42; (with_reducible refine (at_some HD.out HF.out s HL.out).mono ?_); rintro e w9 ⟨i, hi, rfl, hb⟩; have HB9 := Aside0.mk hb; have hi0 : ¬ (i : Int) < 0 := (by omega); obtain ⟨r, c, A1, c1, g1, hil, hcc, hBr, hrg, hcs, x1, x2, z1, z2, hc1, hC1, hset⟩ := (HD.out.below hb).slot hi; rw [← HN.out] at g1 hil hcc; have hi1 : (i : Int) < (n : Int) := (by omega); have hi2 : (0 : Int) ≤ (i : Int) := (by omega); have HI := Aside0.mk hi; have HSET := Aside0.mk hset.1; have HRB := Aside0.mk (And.intro hBr hcs); clear hb hi hC1 hset hBr hcs)
    refine start_ (n := 17) (S := fun w' => w'.cell? ⟨g, 1, none⟩ = some (.slice (some ⟨r, 0, none⟩) n c) ∧ w'.cell? ⟨r, i * 3 + 1, none⟩ = some (.slice A1 f.b.length c1)) (ds := [16]) #[false, false, false, false, false, false, false, false, false, false, false, false, false, false, false, false, false] (by kernel_rfl) rfl rfl ⟨g1, x1⟩ (fun hHeld => ?_); refine with_tabW rsync.tab4 rsync.bits4 (fun HT_ HW_ => ?_)
    refine pure_ (i := 0) (N := some 11) (v := ?_) (a' := ?_) #[true, false, false, false, false, false, false, false, false, false, false, false, false, false, false, false, false] rfl rfl (any_of HT_.out (by kernel_rfl)) (fun _ _ _ h => h) (Or.inl ⟨by rfl, ?_⟩) ?_ ?_
    rotate_left
    · intro w'
      go_simp
      with_reducible rfl
    rotate_left
    · simp only [Act.put, List.setIfInBounds_toArray, List.set_cons_zero, List.set_cons_succ, i64_w, i32_w, xu32_w, xu8_w]
      rfl
    refine pure_ (i := 1) (N := some 12) (v := ?_) (a' := ?_) #[true, true, false, false, false, false, false, false, false, false, false, false, false, false, false, false, false] rfl rfl (any_of HT_.out (by kernel_rfl)) (fun _ _ _ h => h) (Or.inl ⟨by rfl, ?_⟩) ?_ ?_
    rotate_left
    · intro w'
      go_simp
      with_reducible rfl
    rotate_left
    · simp only [Act.put, List.setIfInBounds_toArray, List.set_cons_zero, List.set_cons_succ, i64_w, i32_w, xu32_w, xu8_w]
      rfl
    refine pure_ (i := 2) (N := some 13) (v := ?_) (a' := ?_) #[true, true, true, false, false, false, false, false, false, false, false, false, false, false, false, false, false] rfl rfl (any_of HT_.out (by kernel_rfl)) (fun _ _ _ h => h) (Or.inl ⟨by rfl, ?_⟩) ?_ ?_
    rotate_left
    · intro w'
      go_simp
      with_reducible rfl
    rotate_left
    · simp only [Act.put, List.setIfInBounds_toArray, List.set_cons_zero, List.set_cons_succ, i64_w, i32_w, xu32_w, xu8_w]
      rfl
    refine pure_ (i := 4) (N := some 15) (v := ?_) (a' := ?_) #[true, true, true, false, true, false, false, false, false, false, false, false, false, false, false, false, false] rfl rfl (any_of HT_.out (by kernel_rfl)) (fun _ _ _ h => h) (Or.inl ⟨by rfl, ?_⟩) ?_ ?_
    rotate_left
    · intro w'
      go_simp
      with_reducible rfl
    rotate_left
    · simp only [Act.put, List.setIfInBounds_toArray, List.set_cons_zero, List.set_cons_succ, i64_w, i32_w, xu32_w, xu8_w]
      rfl
    refine pure_ (i := 5) (N := some 16) (v := ?_) (a' := ?_) #[true, true, true, false, true, true, false, false, false, false, false, false, false, false, false, false, false] rfl rfl (any_of HT_.out (by kernel_rfl)) (fun _ _ _ h => h) (Or.inl ⟨by rfl, ?_⟩) ?_ ?_
    rotate_left
    · intro w'
      go_simp
      with_reducible rfl
    rotate_left
    · simp only [Act.put, List.setIfInBounds_toArray, List.set_cons_zero, List.set_cons_succ, i64_w, i32_w, xu32_w, xu8_w]
      rfl
    refine pure_ (i := 6) (N := some 17) (v := ?_) (a' := ?_) #[true, true, true, false, true, true, true, false, false, false, false, false, false, false, false, false, false] rfl rfl (any_of HT_.out (by kernel_rfl)) (fun _ _ _ h => h) (Or.inl ⟨by rfl, ?_⟩) ?_ ?_
    rotate_left
    · intro w'
      go_simp
      with_reducible rfl
    rotate_left
    · simp only [Act.put, List.setIfInBounds_toArray, List.set_cons_zero, List.set_cons_succ, i64_w, i32_w, xu32_w, xu8_w]
      rfl
    refine pure_ (i := 7) (N := some 18) (v := ?_) (a' := ?_) #[true, true, true, false, true, true, true, true, false, false, false, false, false, false, false, false, false] rfl rfl (any_of HT_.out (by kernel_rfl)) (fun _ _ _ h => h) (Or.inl ⟨by rfl, ?_⟩) ?_ ?_
    rotate_left
    · intro w'
      go_simp
      with_reducible rfl
    rotate_left
    · simp only [Act.put, List.setIfInBounds_toArray, List.set_cons_zero, List.set_cons_succ, i64_w, i32_w, xu32_w, xu8_w]
      rfl
    refine pure_ (i := 9) (N := some 20) (v := ?_) (a' := ?_) #[true, true, true, false, true, true, true, true, false, true, false, false, false, false, false, false, false] rfl rfl (any_of HT_.out (by kernel_rfl)) (fun _ _ _ h => h) (Or.inl ⟨by rfl, ?_⟩) ?_ ?_
    rotate_left
    · intro w'
      go_simp
      with_reducible rfl
    rotate_left
    · simp only [Act.put, List.setIfInBounds_toArray, List.set_cons_zero, List.set_cons_succ, i64_w, i32_w, xu32_w, xu8_w]
      rfl
    refine take_ (i := 3) (N := some 14) (v := ?_) (a' := ?_) #[true, true, true, true, true, true, true, true, false, true, false, false, false, false, false, false, false] rfl rfl (take_ofW HT_.out HW_.out (by kernel_rfl)) (fun _ _ _ h => h) (Or.inl ⟨by rfl, ?_⟩) hHeld ?_ ?_
    rotate_left
    · rintro w' ⟨s0, s1⟩
      go_simp
      with_reducible rfl
    rotate_left
    · simp only [Act.put, List.setIfInBounds_toArray, List.set_cons_zero, List.set_cons_succ, i64_w, i32_w, xu32_w, xu8_w]
      rfl
    refine take_ (i := 8) (N := some 19) (v := ?_) (a' := ?_) #[true, true, true, true, true, true, true, true, true, true, false, false, false, false, false, false, false] rfl rfl (take_ofW HT_.out HW_.out (by kernel_rfl)) (fun _ _ _ h => h) (Or.inl ⟨by rfl, ?_⟩) hHeld ?_ ?_
    rotate_left
    · rintro w' ⟨s0, s1⟩
      go_simp
      with_reducible rfl
    rotate_left
    · simp only [Act.put, List.setIfInBounds_toArray, List.set_cons_zero, List.set_cons_succ, i64_w, i32_w, xu32_w, xu8_w]
      rfl
    refine pure_ (i := 10) (N := some 21) (v := ?_) (a' := ?_) #[true, true, true, true, true, true, true, true, true, true, true, false, false, false, false, false, false] rfl rfl (any_of HT_.out (by kernel_rfl)) (fun _ _ _ h => h) (Or.inl ⟨by rfl, ?_⟩) ?_ ?_
    rotate_left
    · intro w'
      go_simp
      with_reducible rfl
    rotate_left
    · simp only [Act.put, List.setIfInBounds_toArray, List.set_cons_zero, List.set_cons_succ, i64_w, i32_w, xu32_w, xu8_w]
      rfl
    refine pure_ (i := 11) (N := some 22) (v := ?_) (a' := ?_) #[true, true, true, true, true, true, true, true, true, true, true, true, false, false, false, false, false] rfl rfl (any_of HT_.out (by kernel_rfl)) (fun _ _ _ h => h) (Or.inl ⟨by rfl, ?_⟩) ?_ ?_
    rotate_left
    · intro w'
      go_simp
      with_reducible rfl
    rotate_left
    · simp only [Act.put, List.setIfInBounds_toArray, List.set_cons_zero, List.set_cons_succ, i64_w, i32_w, xu32_w, xu8_w]
      rfl
    refine take_ (i := 12) (N := some 23) (v := ?_) (a' := ?_) #[true, true, true, true, true, true, true, true, true, true, true, true, true, false, false, false, false] rfl rfl (take_ofW HT_.out HW_.out (by kernel_rfl)) (fun _ _ _ h => h) (Or.inl ⟨by rfl, ?_⟩) hHeld ?_ ?_
    rotate_left
    · rintro w' ⟨s0, s1⟩
      go_simp
      with_reducible rfl
    rotate_left
    · simp only [Act.put, List.setIfInBounds_toArray, List.set_cons_zero, List.set_cons_succ, i64_w, i32_w, xu32_w, xu8_w]
      rfl
    refine pure_ (i := 13) (N := some 24) (v := ?_) (a' := ?_) #[true, true, true, true, true, true, true, true, true, true, true, true, true, true, false, false, false] rfl rfl (any_of HT_.out (by kernel_rfl)) (fun _ _ _ h => h) (Or.inl ⟨by rfl, ?_⟩) ?_ ?_
    rotate_left
    · intro w'
      go_simp
      with_reducible rfl
    rotate_left
    · simp only [Act.put, List.setIfInBounds_toArray, List.set_cons_zero, List.set_cons_succ, i64_w, i32_w, xu32_w, xu8_w]
      rfl
    refine pure_ (i := 14) (N := some 25) (v := ?_) (a' := ?_) #[true, true, true, true, true, true, true, true, true, true, true, true, true, true, true, false, false] rfl rfl (any_of HT_.out (by kernel_rfl)) (fun _ _ _ h => h) (Or.inl ⟨by rfl, ?_⟩) ?_ ?_
    rotate_left
    · intro w'
      go_simp
      with_reducible rfl
    rotate_left
    · simp only [Act.put, List.setIfInBounds_toArray, List.set_cons_zero, List.set_cons_succ, i64_w, i32_w, xu32_w, xu8_w]
      rfl
    refine pure_ (i := 15) (N := some 26) (v := ?_) (a' := ?_) #[true, true, true, true, true, true, true, true, true, true, true, true, true, true, true, true, false] rfl rfl (any_of HT_.out (by kernel_rfl)) (fun _ _ _ h => h) (Or.inl ⟨by rfl, ?_⟩) ?_ ?_
    rotate_left
    · intro w'
      go_simp
      with_reducible rfl
    rotate_left
    · simp only [Act.put, List.setIfInBounds_toArray, List.set_cons_zero, List.set_cons_succ, i64_w, i32_w, xu32_w, xu8_w]
      rfl
    refine last_ (i := 16) (N := none) #[true, true, true, true, true, true, true, true, true, true, true, true, true, true, true, true, true] rfl rfl (one_of HT_.out (by kernel_rfl)) (by decide) (fun K hK => ?_)
    refine skip_ (w1 := w9.drew.setCell ⟨r, i * 3 + 2, none⟩ (.int .i64 (f.b.length : Nat))) (by rfl) rfl (by first | (go_simp; done) | (go_simp; rfl)) ?_
    refine hK.out _ _ ?_
    clear hK K
    refine done_ (done_of HT_.out (by kernel_rfl)) ?_
    clear hHeld HT_ HW_
    go_wp2_with (fail)
    go_ret
    have hp := put_set (f' := ⟨f.n, f.b, (f.b.length : Nat)⟩) HSR.out HI.out rfl
    rw [← hp]
    obtain ⟨hBr, cs, hcs⟩ := HRB.out
    have hR := HSET.out ((f.b.length : Nat) : Int)
    refine ⟨rfl, ⟨hR.ex, hR.base⟩, ?_⟩
    have hb := HB9.out
    have hc := (Chg.refl (fun k => k = r) w9).set ⟨r, i * 3 + 2, none⟩ (.int .i64 (f.b.length : Nat)) rfl
    refine (Chg.of_below (RefB w B) hb).trans (T := fun k => k = r) ⟨hc.os, hc.tape, hc.output, hc.size, hc.block⟩ (fun _ _ e => e) (fun k hk e => ?_)
    subst e
    exact ⟨hBr, cs, 71, _, (hb.block _ hk).symm.trans hcs, .inr rfl⟩
end
end Go.Proofs.Ytkdbojaoaldmbaa.G

/- The document's disk by hand: Cut. -/
namespace Go.Proofs.Ytkdbojaoaldmbaa.G
open Go.RowKit Go.Proofs.Ytkdbojaoaldmbaa.Q Go.Proofs.YtkdbojaoaldmbaaW.PrintWords Go.Proofs.YtkdbojaoaldmbaaW.PrintLast Go.Proofs.YtkdbojaoaldmbaaW.PrintMore
set_option linter.unusedVariables false
set_option linter.unusedSimpArgs false
def rcut.T6 : Bool × List (List Nat × List Nat) := (true, [([], []), ([0], [0]), ([1], [1]), ([2], [2]), ([], []), ([], []), ([5], [5]), ([6], [6]), ([7], [7]), ([], []), ([8, 9], [8, 9]), ([10], [10]), ([11], [11]), ([], []), ([12, 13], [12, 13]), ([14], [14]), ([15], [15]), ([3, 4, 0, 1, 2, 3, 4, 5, 6, 7, 8, 9, 10, 11, 12, 13, 14, 15, 16], [3, 4]), ([17, 0, 1, 2, 3, 4, 5, 6, 7, 8, 9, 10, 11, 12, 13, 14, 15, 16], [17]), ([18, 16, 16, 0, 1, 2, 3, 4, 5, 6, 7, 8, 9, 10, 11, 12, 13, 14, 15, 16], [16, 18])])
def rcut.B6 : List Nat := [0, 1, 3, 7, 0, 0, 32, 96, 224, 0, 992, 2016, 4064, 0, 16352, 32736, 65504, 131071, 262143, 524287]
theorem rcut.tab6 : rtab .any (opsOf Try.f37 6) = rcut.T6 := by kernel_rfl
theorem rcut.bits6 : waitsOk rcut.T6.2 rcut.B6 = true := by kernel_rfl
section
variable {w : World} {g B : Nat} {room : Int} {st : St}
theorem cell_set_ne {w5 : World} {r a b : Nat} {u v : Value} (h : w5.cell? ⟨r, b, none⟩ = some v) (hab : a ≠ b) : (w5.setCell ⟨r, a, none⟩ u).cell? ⟨r, b, none⟩ = some v := by
  exact (World.cell?_setCell_other w5 ⟨r, a, none⟩ ⟨r, b, none⟩ u (fun e => hab (by injection e))).trans h
theorem frozen_set {w5 : World} {p q : Addr} {u : Value} (h : w5.frozen? q = false) : (w5.setCell p u).frozen? q = false := by
  rw [← h]; simp
/-- Behind the two writes of Cut. -/
theorem cut_set {w9 w5 W6 : World} {r i N : Nat} {c : Nat} {f : FS} {v5 : Value} (h : RefG w9 g B room st) (hs : Sorted st) (hi : st[i]? = some f) (hb : Below w9.heap.size w9 w5) (g1 : w9.cell? ⟨g, 1, none⟩ = some (.slice (some ⟨r, 0, none⟩) st.length c))
    (hR : (Kd.int .u8).R 5 w5 B (fun k => B ≤ k ∧ w9.heap.size ≤ k) v5 (f.b.take N)) (hW : W6 = w5.setCell ⟨r, i * 3 + 1, none⟩ v5) : RefG (W6.setCell ⟨r, i * 3 + 2, none⟩ (.int .i64 (N : Nat))) g B room (put st ⟨f.n, f.b.take N, (N : Nat)⟩) := by
  obtain ⟨r', c', A1, c1, q1, q2, q3, q4, q5, q6, q7, q8, q9, q10, q11, q12, q13, q14⟩ := (h.below hb).slot hi
  rw [pw_cell_below hb g1] at q1
  injection q1 with q1; injection q1 with q1; injection q1 with q1; injection q1 with q1
  subst q1
  have hrl : r < w9.heap.size := by
    obtain ⟨r2, c2, A2, c22, p1, p2, p3, p4, p5, ⟨cs, p6⟩, _⟩ := h.slot hi
    rw [g1] at p1
    injection p1 with p1; injection p1 with p1; injection p1 with p1; injection p1 with p1
    subst p1
    exact heap_lt p6
  have hA := q14 v5 (f.b.take N) (Kd.R_mono hR (fun k hk => ⟨hk.1, by omega⟩))
  rw [← hW] at hA
  have hi2 : (st.set i ⟨f.n, f.b.take N, f.l⟩)[i]? = some ⟨f.n, f.b.take N, f.l⟩ := by rw [List.getElem?_set_self q2]
  obtain ⟨r3, c3, A3, c33, t1, t2, t3, t4, t5, t6, t7, t8, t9, t10, t11, t12, t13, t14⟩ := hA.slot hi2
  have e1 : W6.cell? ⟨g, 1, none⟩ = some (.slice (some ⟨r, 0, none⟩) st.length c) := by
    rw [hW]
    exact (World.cell?_of_block (Below.heap_setCell _ _ _ g (fun e => q5 e.symm))).trans (pw_cell_below hb g1)
  rw [e1] at t1
  injection t1 with t1; injection t1 with t1; injection t1 with t1; injection t1 with t1
  subst t1
  have hF := t13 ((N : Nat) : Int)
  rw [List.set_set, put_set (f := f) (f' := ⟨f.n, f.b.take N, (N : Nat)⟩) hs hi rfl] at hF
  exact hF
set_option maxHeartbeats 1000000 in
set_option maxRecDepth 100000 in
theorem rcut_calls (h : RefG w g B room st) (hB : B ≤ w.heap.size) (hs : Sorted st) (hfew : st.length ≤ 100000) (htot : total st ≤ 16777216) (s : ByteArray) (n : Int) : Calls Try.prog 37 #[.pointer (some ⟨g, 0, none⟩), .string s, .int .i64 n] w fun e w' => e = .returned (.int .i64 (cutE st s n)) ∧ RefG w' g B room (cutS st s n) ∧ Chg (RefB w B) w w' := by
  have HD := Aside0.mk h
  have HF := Aside0.mk hfew
  have HSR := Aside0.mk hs
  have HBB := Aside0.mk hB
  clear h hs hB
  cases hl : look st s with
  | none =>
    have e1 : cutE st s n = 4 := by unfold cutE; rw [hl]
    have e2 : cutS st s n = st := by unfold cutS; rw [hl]
    rw [e1, e2]
    have HL := Aside0.mk hl
    clear e1 e2 hl
    go_enter Try.func37, Try.ntmps37
    go_wp2_with (go_at_call 42; (with_reducible refine (at_none HD.out HF.out s HL.out).mono ?_); rintro e w9 ⟨rfl, hb⟩; have HB9 := Aside0.mk hb; clear hb)
    go_ret
    exact ⟨rfl, HD.out.below HB9.out, Chg.of_below _ HB9.out⟩
  | some f =>
    have HL := Aside0.mk hl
    have hbl : f.b.length ≤ 16777216 := Nat.le_trans (look_len hl) htot
    have HBL := Aside0.mk hbl
    obtain ⟨m, hnn⟩ : ∃ m : Nat, m = st.length := ⟨_, rfl⟩
    have HN := Aside0.mk hnn
    have hnf : m ≤ 100000 := by omega
    clear hnn hfew htot
    by_cases hn : 0 ≤ n ∧ n ≤ f.b.length
    · have e1 : cutE st s n = 0 := by unfold cutE; rw [hl]; exact if_pos hn
      have e2 : cutS st s n = put st ⟨f.n, f.b.take n.toNat, n⟩ := by unfold cutS; rw [hl]; exact if_pos hn
      rw [e1, e2]
      obtain ⟨hn0, hn1⟩ := hn
      obtain ⟨N, rfl⟩ := Int.eq_ofNat_of_zero_le hn0
      rw [Int.toNat_natCast]
      have n2 : ¬ (N : Int) < 0 := by omega
      have n3 : ¬ (N : Int) > (f.b.length : Int) := by omega
      have hN : N ≤ f.b.length := by omega
      have HNN := Aside0.mk hN
      clear e1 e2 hl hn0 hN hbl
      go_enter Try.func37, Try.ntmps37
      go_wp2_with (go_at_call 42; (with_reducible refine (at_some HD.out HF.out s HL.out).mono ?_); rintro e w9 ⟨i, hi, rfl, hb⟩; have HB9 := Aside0.mk hb; have hi0 : ¬ (i : Int) < 0 := (by omega); have hsl := (HD.out.below hb).slot hi; have HSL := Aside0.mk hsl; obtain ⟨r, c, A1, c1, g1, hil, hcc, hBr, hrg, hcs, x1, x2, z1, z2, hc1, hC1, hset⟩ := hsl; rw [← HN.out] at g1 hil hcc; have hi1 : (i : Int) < (m : Int) := (by omega); have hi2 : (0 : Int) ≤ (i : Int) := (by omega); have HI := Aside0.mk hi; have HC1 := Aside0.mk (And.intro hc1 hC1); have HRB := Aside0.mk (And.intro hBr hcs); clear hb hi hC1 hset hBr hcs)
      have htl : (f.b.take N).length = N := by rw [List.length_take]; have := HNN.out; omega
      have HJ := Aside0.mk (show Calls Try.prog 32 #[.slice (some ⟨w9.drew.heap.size, 0, none⟩) 1 1] (w9.drew.alloc (.cells #[.slice A1 N c1] 29)) _ from htl ▸ join_calls w9.drew A1 (f.b.take N) c1 (by have := HC1.out.1; omega) (Kd.C_drew (Kd.C_take HC1.out.2 HNN.out)) (by have := HBL.out; omega))
      obtain ⟨i5, hi5, _⟩ := Option.map_eq_some_iff.1 info5
      have hsl := cut_to (P := Try.prog) 29 5 .i64 Try.underlying29 hi5 A1 f.b.length c1 (N : Int) (by omega) (by omega) hc1
      rw [Int.toNat_natCast] at hsl
      clear hi5
      refine start_ (n := 20) (S := fun w' => w'.cell? ⟨g, 1, none⟩ = some (.slice (some ⟨r, 0, none⟩) m c) ∧ w'.cell? ⟨r, i * 3 + 1, none⟩ = some (.slice A1 f.b.length c1)) (ds := [19]) #[false, false, false, false, false, false, false, false, false, false, false, false, false, false, false, false, false, false, false, false] (by kernel_rfl) rfl rfl ⟨g1, x1⟩ (fun hHeld => ?_); refine with_tabW rcut.tab6 rcut.bits6 (fun HT_ HW_ => ?_)
      refine pure_ (i := 0) (N := some 28) (v := ?_) (a' := ?_) #[true, false, false, false, false, false, false, false, false, false, false, false, false, false, false, false, false, false, false, false] rfl rfl (any_of HT_.out (by kernel_rfl)) (fun _ _ _ h => h) (Or.inl ⟨by rfl, ?_⟩) ?_ ?_
      rotate_left
      · intro w'
        go_simp
        with_reducible rfl
      rotate_left
      · simp only [Act.put, List.setIfInBounds_toArray, List.set_cons_zero, List.set_cons_succ, i64_w, i32_w, xu32_w, xu8_w]
        rfl
      refine pure_ (i := 1) (N := some 29) (v := ?_) (a' := ?_) #[true, true, false, false, false, false, false, false, false, false, false, false, false, false, false, false, false, false, false, false] rfl rfl (any_of HT_.out (by kernel_rfl)) (fun _ _ _ h => h) (Or.inl ⟨by rfl, ?_⟩) ?_ ?_
      rotate_left
      · intro w'
        go_simp
        with_reducible rfl
      rotate_left
      · simp only [Act.put, List.setIfInBounds_toArray, List.set_cons_zero, List.set_cons_succ, i64_w, i32_w, xu32_w, xu8_w]
        rfl
      refine pure_ (i := 2) (N := some 30) (v := ?_) (a' := ?_) #[true, true, true, false, false, false, false, false, false, false, false, false, false, false, false, false, false, false, false, false] rfl rfl (any_of HT_.out (by kernel_rfl)) (fun _ _ _ h => h) (Or.inl ⟨by rfl, ?_⟩) ?_ ?_
      rotate_left
      · intro w'
        go_simp
        with_reducible rfl
      rotate_left
      · simp only [Act.put, List.setIfInBounds_toArray, List.set_cons_zero, List.set_cons_succ, i64_w, i32_w, xu32_w, xu8_w]
        rfl
      refine pure_ (i := 4) (N := some 32) (v := ?_) (a' := ?_) #[true, true, true, false, true, false, false, false, false, false, false, false, false, false, false, false, false, false, false, false] rfl rfl (any_of HT_.out (by kernel_rfl)) (fun _ _ _ h => h) (Or.inl ⟨by rfl, ?_⟩) ?_ ?_
      rotate_left
      · intro w'
        go_simp
        with_reducible rfl
      rotate_left
      · simp only [Act.put, List.setIfInBounds_toArray, List.set_cons_zero, List.set_cons_succ, i64_w, i32_w, xu32_w, xu8_w]
        rfl
      refine pure_ (i := 5) (N := some 33) (v := ?_) (a' := ?_) #[true, true, true, false, true, true, false, false, false, false, false, false, false, false, false, false, false, false, false, false] rfl rfl (any_of HT_.out (by kernel_rfl)) (fun _ _ _ h => h) (Or.inl ⟨by rfl, ?_⟩) ?_ ?_
      rotate_left
      · intro w'
        go_simp
        with_reducible rfl
      rotate_left
      · simp only [Act.put, List.setIfInBounds_toArray, List.set_cons_zero, List.set_cons_succ, i64_w, i32_w, xu32_w, xu8_w]
        rfl
      refine pure_ (i := 6) (N := some 34) (v := ?_) (a' := ?_) #[true, true, true, false, true, true, true, false, false, false, false, false, false, false, false, false, false, false, false, false] rfl rfl (any_of HT_.out (by kernel_rfl)) (fun _ _ _ h => h) (Or.inl ⟨by rfl, ?_⟩) ?_ ?_
      rotate_left
      · intro w'
        go_simp
        with_reducible rfl
      rotate_left
      · simp only [Act.put, List.setIfInBounds_toArray, List.set_cons_zero, List.set_cons_succ, i64_w, i32_w, xu32_w, xu8_w]
        rfl
      refine pure_ (i := 7) (N := some 35) (v := ?_) (a' := ?_) #[true, true, true, false, true, true, true, true, false, false, false, false, false, false, false, false, false, false, false, false] rfl rfl (any_of HT_.out (by kernel_rfl)) (fun _ _ _ h => h) (Or.inl ⟨by rfl, ?_⟩) ?_ ?_
      rotate_left
      · intro w'
        go_simp
        with_reducible rfl
      rotate_left
      · simp only [Act.put, List.setIfInBounds_toArray, List.set_cons_zero, List.set_cons_succ, i64_w, i32_w, xu32_w, xu8_w]
        rfl
      refine pure_ (i := 9) (N := some 37) (v := ?_) (a' := ?_) #[true, true, true, false, true, true, true, true, false, true, false, false, false, false, false, false, false, false, false, false] rfl rfl (any_of HT_.out (by kernel_rfl)) (fun _ _ _ h => h) (Or.inl ⟨by rfl, ?_⟩) ?_ ?_
      rotate_left
      · intro w'
        go_simp
        with_reducible rfl
      rotate_left
      · simp only [Act.put, List.setIfInBounds_toArray, List.set_cons_zero, List.set_cons_succ, i64_w, i32_w, xu32_w, xu8_w]
        rfl
      refine pure_ (i := 13) (N := some 41) (v := ?_) (a' := ?_) #[true, true, true, false, true, true, true, true, false, true, false, false, false, true, false, false, false, false, false, false] rfl rfl (any_of HT_.out (by kernel_rfl)) (fun _ _ _ h => h) (Or.inl ⟨by rfl, ?_⟩) ?_ ?_
      rotate_left
      · intro w'
        go_simp
        with_reducible rfl
      rotate_left
      · simp only [Act.put, List.setIfInBounds_toArray, List.set_cons_zero, List.set_cons_succ, i64_w, i32_w, xu32_w, xu8_w]
        rfl
      refine take_ (i := 3) (N := some 31) (v := ?_) (a' := ?_) #[true, true, true, true, true, true, true, true, false, true, false, false, false, true, false, false, false, false, false, false] rfl rfl (take_ofW HT_.out HW_.out (by kernel_rfl)) (fun _ _ _ h => h) (Or.inl ⟨by rfl, ?_⟩) hHeld ?_ ?_
      rotate_left
      · rintro w' ⟨s0, s1⟩
        go_simp
        with_reducible rfl
      rotate_left
      · simp only [Act.put, List.setIfInBounds_toArray, List.set_cons_zero, List.set_cons_succ, i64_w, i32_w, xu32_w, xu8_w]
        rfl
      refine take_ (i := 8) (N := some 36) (v := ?_) (a' := ?_) #[true, true, true, true, true, true, true, true, true, true, false, false, false, true, false, false, false, false, false, false] rfl rfl (take_ofW HT_.out HW_.out (by kernel_rfl)) (fun _ _ _ h => h) (Or.inl ⟨by rfl, ?_⟩) hHeld ?_ ?_
      rotate_left
      · rintro w' ⟨s0, s1⟩
        go_simp
        with_reducible rfl
      rotate_left
      · simp only [Act.put, List.setIfInBounds_toArray, List.set_cons_zero, List.set_cons_succ, i64_w, i32_w, xu32_w, xu8_w]
        rfl
      refine pure_ (i := 10) (N := some 38) (v := ?_) (a' := ?_) #[true, true, true, true, true, true, true, true, true, true, true, false, false, true, false, false, false, false, false, false] rfl rfl (any_of HT_.out (by kernel_rfl)) (fun _ _ _ h => h) (Or.inl ⟨by rfl, ?_⟩) ?_ ?_
      rotate_left
      · intro w'
        go_simp
        with_reducible rfl
      rotate_left
      · simp only [Act.put, List.setIfInBounds_toArray, List.set_cons_zero, List.set_cons_succ, i64_w, i32_w, xu32_w, xu8_w]
        rfl
      refine pure_ (i := 11) (N := some 39) (v := ?_) (a' := ?_) #[true, true, true, true, true, true, true, true, true, true, true, true, false, true, false, false, false, false, false, false] rfl rfl (any_of HT_.out (by kernel_rfl)) (fun _ _ _ h => h) (Or.inl ⟨by rfl, ?_⟩) ?_ ?_
      rotate_left
      · intro w'
        go_simp
        with_reducible rfl
      rotate_left
      · simp only [Act.put, List.setIfInBounds_toArray, List.set_cons_zero, List.set_cons_succ, i64_w, i32_w, xu32_w, xu8_w]
        rfl
      refine take_ (i := 12) (N := some 40) (v := ?_) (a' := ?_) #[true, true, true, true, true, true, true, true, true, true, true, true, true, true, false, false, false, false, false, false] rfl rfl (take_ofW HT_.out HW_.out (by kernel_rfl)) (fun _ _ _ h => h) (Or.inl ⟨by rfl, ?_⟩) hHeld ?_ ?_
      rotate_left
      · rintro w' ⟨s0, s1⟩
        go_simp
        with_reducible rfl
      rotate_left
      · simp only [Act.put, List.setIfInBounds_toArray, List.set_cons_zero, List.set_cons_succ, i64_w, i32_w, xu32_w, xu8_w]
        rfl
      refine pure_ (i := 14) (N := some 42) (v := ?_) (a' := ?_) #[true, true, true, true, true, true, true, true, true, true, true, true, true, true, true, false, false, false, false, false] rfl rfl (any_of HT_.out (by kernel_rfl)) (fun _ _ _ h => h) (Or.inl ⟨by rfl, ?_⟩) ?_ ?_
      rotate_left
      · intro w'
        go_simp
        with_reducible rfl
      rotate_left
      · simp only [Act.put, List.setIfInBounds_toArray, List.set_cons_zero, List.set_cons_succ, i64_w, i32_w, xu32_w, xu8_w]
        rfl
      refine one_ (i := 15) (N := some 43) #[true, true, true, true, true, true, true, true, true, true, true, true, true, true, true, true, false, false, false, false] rfl rfl (one_of HT_.out (by kernel_rfl)) (by decide) (fun K hK => ?_)
      refine value_ (v := .slice (some ⟨w9.drew.heap.size, 0, none⟩) 1 1) (w1 := w9.drew.alloc (.cells #[.slice A1 N c1] 29)) (by rfl) rfl (by first | (go_simp; done) | (go_simp; rfl)) ?_
      refine hK.out _ _ (ps2 ⟨g1, x1⟩ (below_alloc (below_drew (Below.refl _ _)) _)) (fun hHeld => ?_)
      clear hK K
      refine norm_ (a' := ?_) ?_ ?_
      rotate_left
      · show Act.put _ (some 43) _ = _
        simp only [Act.put, List.setIfInBounds_toArray, List.set_cons_zero, List.set_cons_succ, i64_w, i32_w, xu32_w, xu8_w]
        rfl
      refine one_ (i := 16) (N := some 44) #[true, true, true, true, true, true, true, true, true, true, true, true, true, true, true, true, true, false, false, false] rfl rfl (one_of HT_.out (by kernel_rfl)) (by decide) (fun K hK => ?_)
      refine goes_ Try.func32 (by kernel_rfl) rfl #[.slice (some ⟨w9.drew.heap.size, 0, none⟩) 1 1] (by rfl) rfl rfl (by (try simp only [List.map_toArray, List.map_cons, List.map_nil]); first | done | rfl) ?_
      with_reducible refine HJ.out.mono ?_
      rintro e w5 ⟨v5, rfl, hR5, hb5⟩
      refine ⟨_, rfl, ?_⟩
      obtain ⟨A5, c5, hv5⟩ := Kd.R_slice hR5
      rw [htl] at hv5
      subst hv5
      have hb95 : Below w9.heap.size w9 w5 := below_step (below_alloc (below_drew (Below.refl w9.heap.size w9)) _) hb5
      obtain ⟨W6, hW6⟩ : ∃ W6 : World, W6 = w5.setCell ⟨r, i * 3 + 1, none⟩ (.slice A5 N c5) := ⟨_, rfl⟩
      have HV5 := Aside0.mk (And.intro (Kd.R_lower (base' := B) (Kd.R_mono (Kd.R_bound hR5) (ok' := fun k => B ≤ k ∧ w9.heap.size ≤ k) (fun k hk => by have h1 := hk.2.1; have h2 := (below_alloc (below_drew (Below.refl w9.heap.size w9)) (.cells #[.slice A1 N c1] 29)).size; have h3 := HB9.out.size; have h4 := HBB.out; omega)) (by have h2 := (below_alloc (below_drew (Below.refl w9.heap.size w9)) (.cells #[.slice A1 N c1] 29)).size; have h3 := HB9.out.size; have h4 := HBB.out; omega)) (And.intro hb95 hW6))
      obtain ⟨csr, hcsr⟩ := HRB.out.2
      have h5r := (hb95.block r (heap_lt hcsr)).trans hcsr
      have k1 := pw_cell_below hb95 x1
      have k2 := pw_cell_below hb95 x2
      have k3 := blk_frozen h5r (i * 3 + 1)
      have k4 := blk_frozen h5r (i * 3 + 2)
      have k5 := pw_cell_below hb95 g1
      have m1 : W6.cell? ⟨g, 1, none⟩ = some (.slice (some ⟨r, 0, none⟩) m c) := by rw [hW6]; exact (World.cell?_of_block (Below.heap_setCell _ _ _ g (fun e => hrg e.symm))).trans k5
      have m2 : W6.cell? ⟨r, i * 3 + 2, none⟩ = some (.int .i64 f.l) := by rw [hW6]; exact cell_set_ne k2 (by omega)
      have m3 : W6.frozen? ⟨r, i * 3 + 2, none⟩ = false := by rw [hW6]; exact frozen_set k4
      refine hK.out _ _ (ps2 ⟨g1, x1⟩ hb95) (fun hHeld => ?_)
      clear hK K hR5 hb5 hb95 hcsr h5r
      refine norm_ (a' := ?_) ?_ ?_
      rotate_left
      · show Act.put _ (some 44) _ = _
        simp only [Act.put, List.setIfInBounds_toArray, List.set_cons_zero, List.set_cons_succ, i64_w, i32_w, xu32_w, xu8_w]
        rfl
      refine pure_ (i := 17) (N := some 45) (v := ?_) (a' := ?_) #[true, true, true, true, true, true, true, true, true, true, true, true, true, true, true, true, true, true, false, false] rfl rfl (any_of HT_.out (by kernel_rfl)) (fun _ _ _ h => h) (Or.inl ⟨by rfl, ?_⟩) ?_ ?_
      rotate_left
      · intro w'
        go_simp
        with_reducible rfl
      rotate_left
      · simp only [Act.put, List.setIfInBounds_toArray, List.set_cons_zero, List.set_cons_succ, i64_w, i32_w, xu32_w, xu8_w]
        rfl
      refine pure_ (i := 18) (N := some 46) (v := ?_) (a' := ?_) #[true, true, true, true, true, true, true, true, true, true, true, true, true, true, true, true, true, true, true, false] rfl rfl (any_of HT_.out (by kernel_rfl)) (fun _ _ _ h => h) (Or.inl ⟨by rfl, ?_⟩) ?_ ?_
      rotate_left
      · intro w'
        go_simp
        with_reducible rfl
      rotate_left
      · simp only [Act.put, List.setIfInBounds_toArray, List.set_cons_zero, List.set_cons_succ, i64_w, i32_w, xu32_w, xu8_w]
        rfl
      refine last_ (i := 19) (N := none) #[true, true, true, true, true, true, true, true, true, true, true, true, true, true, true, true, true, true, true, true] rfl rfl (one_of HT_.out (by kernel_rfl)) (by decide) (fun K hK => ?_)
      refine skip_ (w1 := W6) (by rfl) rfl (by rw [hW6]; first | (go_simp; done) | (go_simp; rfl)) ?_
      refine hK.out _ _ ?_
      clear hK K hW6 k1 k2 k3 k4 k5
      refine done_ (done_of HT_.out (by kernel_rfl)) ?_
      clear hHeld HT_ HW_
      go_wp2_with (fail)
      go_ret
      obtain ⟨hBr, cs, hcs⟩ := HRB.out
      obtain ⟨y1, y2, y3⟩ := HV5.out
      refine ⟨rfl, cut_set (HD.out.below HB9.out) HSR.out HI.out y2 (by rw [← HN.out]; exact g1) y1 y3, ?_⟩
      have hb := HB9.out
      have hc : Chg (fun k => k = r) w9 ((w5.setCell ⟨r, i * 3 + 1, none⟩ (.slice A5 N c5)).setCell ⟨r, i * 3 + 2, none⟩ (.int .i64 (N : Nat))) := ((Chg.of_below (fun k => k = r) y2).set _ _ rfl).set _ _ rfl
      rw [← y3] at hc
      refine (Chg.of_below (RefB w B) hb).trans hc (fun _ _ e => e) (fun k hk e => ?_)
      subst e
      exact ⟨hBr, cs, 71, _, (hb.block _ hk).symm.trans hcs, .inr rfl⟩
    · have e1 : cutE st s n = 1 := by unfold cutE; rw [hl]; exact if_neg hn
      have e2 : cutS st s n = st := by unfold cutS; rw [hl]; exact if_neg hn
      rw [e1, e2]
      have hn2 : n < 0 ∨ (¬ n < 0 ∧ n > (f.b.length : Int)) := by omega
      clear hn e1 e2 hl hbl
      rcases hn2 with n2 | ⟨n2, n3⟩
      all_goals
        go_enter Try.func37, Try.ntmps37
        go_wp2_with (go_at_call 42; (with_reducible refine (at_some HD.out HF.out s HL.out).mono ?_); rintro e w9 ⟨i, hi, rfl, hb⟩; have HB9 := Aside0.mk hb; have hi0 : ¬ (i : Int) < 0 := (by omega); obtain ⟨r, c, A1, c1, g1, hil, hcc, hBr, hrg, hcs, x1, x2, z1, z2, hc1, hC1, hset⟩ := (HD.out.below hb).slot hi; rw [← HN.out] at g1 hil hcc; have hi1 : (i : Int) < (m : Int) := (by omega); have hi2 : (0 : Int) ≤ (i : Int) := (by omega); clear hb hi hC1 hset hBr hcs hc1)
        go_ret
        exact ⟨rfl, HD.out.below HB9.out, Chg.of_below _ HB9.out⟩
end
end Go.Proofs.Ytkdbojaoaldmbaa.G
