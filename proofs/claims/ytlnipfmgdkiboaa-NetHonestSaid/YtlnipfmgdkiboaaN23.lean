/- The laws by hand: NetHonest (mkN23.py). -/
import Derived.Test.YtlnipfmgdkiboaaN22
namespace Go.Proofs.Ytlnipfmgdkiboaa.N
open Go.RowKit Go.Proofs.Ytlnipfmgdkiboaa.Q Go.Proofs.YtlnipfmgdkiboaaW.PrintWords Go.Proofs.YtlnipfmgdkiboaaW.PrintLast Go.Proofs.YtlnipfmgdkiboaaW.PrintMore
set_option linter.unusedVariables false
set_option linter.unusedSimpArgs false
/-- The acts within the reach. -/
structure OkHon (l : List S31) : Prop where
  few : l.length ≤ 140737488355328
  each : ∀ x ∈ l, x.f1.size ≤ 9223372036854775807 ∧ ∀ y ∈ x.f2, y.f1.length < 140737488355328
theorem at_F31 {w : World} {ok : Nat → Prop} {A : Option Addr} {n : Nat} {xs : List S31} (h : Kd.F k31 w ok A n xs) (i : Int) (h0 : 0 ≤ i) (h1 : i < n) : ∃ ad A2 c2, A = some ad ∧ w.cell? (ad.add (i.toNat * 4)) = some (.int .i64 (rd_T31 xs i).f0) ∧ w.cell? ⟨(ad.add (i.toNat * 4)).block, (ad.add (i.toNat * 4)).off + 1, none⟩ = some (.string (rd_T31 xs i).f1) ∧ w.cell? ⟨(ad.add (i.toNat * 4)).block, (ad.add (i.toNat * 4)).off + 2, none⟩ = some (.slice A2 (rd_T31 xs i).f2.length c2) ∧ w.cell? ⟨(ad.add (i.toNat * 4)).block, (ad.add (i.toNat * 4)).off + 3, none⟩ = some (.int .i64 (rd_T31 xs i).f3) ∧ (rd_T31 xs i).f2.length ≤ c2 ∧ Kd.F k34 w ok A2 (rd_T31 xs i).f2.length (rd_T31 xs i).f2 := by
  obtain ⟨ad, c, e, _, hK, hc0, _⟩ := Kd.F_get h z31 i h0 h1
  have hc : ∀ j u, c[j]? = some u → w.cell? (ad.add (i.toNat * 4 + j)) = some u := hc0
  obtain ⟨A2, c2, rfl, l2, g2⟩ := k31_openF hK
  exact ⟨ad, A2, c2, e, hc 0 _ rfl, by rw [← add_field _ _ 1 (by omega)]; exact hc 1 _ rfl, by rw [← add_field _ _ 2 (by omega)]; exact hc 2 _ rfl, by rw [← add_field _ _ 3 (by omega)]; exact hc 3 _ rfl, l2, g2⟩
section
variable {w W : World} {N M : Nat} {room : Int} {own : Nat → Option ByteArray} {Q : ByteArray → List S34} {vs vt : Value} {sn tk : List S34}
theorem HonX.sent_ {w1 : World} {v1 : Value} {sn1 : List S34} {X : Nat} {cs : List Value} {t : TypeId} (h : HonX w W N M room own Q vs vt sn tk X cs t) (ht : 34 ≠ t) (hn : Kd.N k34 34 w1 w.heap.size (fun k => Free W M own k ∧ some k ≠ vt.ownBlock) v1 sn1) (hg : W.grownBy w1 vs.ownBlock) (hat : v1.ownBlock = vs.ownBlock ∨ ∃ b, v1.ownBlock = some b ∧ W.heap.size ≤ b) : HonX w w1 N M room own Q v1 vt sn1 tk X cs t := by
  have hb := hg.block X (heap_lt h.blk) (Kd.N_ne h.m.sent h.blk ht)
  exact ⟨h.m.sent_ hn hg hat, h.fr.same hb, hb.trans h.blk⟩
theorem HonX.took_ {w1 : World} {v1 : Value} {tk1 : List S34} {X : Nat} {cs : List Value} {t : TypeId} (h : HonX w W N M room own Q vs vt sn tk X cs t) (ht : 34 ≠ t) (hn : Kd.N k34 34 w1 w.heap.size (fun k => Free W M own k ∧ some k ≠ vs.ownBlock) v1 tk1) (hg : W.grownBy w1 vt.ownBlock) (hat : v1.ownBlock = vt.ownBlock ∨ ∃ b, v1.ownBlock = some b ∧ W.heap.size ≤ b) : HonX w w1 N M room own Q vs v1 sn tk1 X cs t := by
  have hb := hg.block X (heap_lt h.blk) (Kd.N_ne h.m.took h.blk ht)
  exact ⟨h.m.took_ hn hg hat, h.fr.same hb, hb.trans h.blk⟩
theorem fk_move {W' : World} {x : S34} {cs : List Value} (h : Kd.FK k34 W (fun k => ∃ cells, W.heap[k]? = some (Obj.cells cells 5 (0, 0))) x cs) (hb : Below W.heap.size W W') : Kd.FK k34 W' (fun k => ∃ cells, W'.heap[k]? = some (Obj.cells cells 5 (0, 0))) x cs :=
  Kd.FK_mono (Kd.FK_below (Kd.FK_bound h) hb) (fun k hk => by obtain ⟨⟨cells, hc⟩, hlt⟩ := hk; exact ⟨cells, (hb.block k hlt).trans hc⟩)
end

section
variable {w W : World} {N M : Nat} {room : Int} {own : Nat → Option ByteArray} {Q : ByteArray → List S34} {vs vt : Value} {sn tk : List S34} {st : St} {many more : Int}
theorem HonM.fits (h : HonM w W N M room own Q vs vt sn tk) (s : ByteArray) : ((Q s).length : Int) ≤ room ∧ (Q s).length ≤ 256 := by
  obtain ⟨G, hN⟩ := h.net
  have h1 := hN.few s
  have h2 := hN.room2
  exact ⟨h1, by omega⟩
theorem total_take : ∀ (st : St) (i : Nat) (hi : i < st.length), total (st.take (i + 1)) = total (st.take i) + (st[i]).f1.length
  | f :: st, 0, _ => by simp [total]
  | f :: st, i + 1, hi => by
    have := total_take st i (by simpa using hi)
    simp only [List.take_succ_cons, total, List.getElem_cons_succ]
    omega
/-- What is told, name by name. -/
structure HonT (sn : List S34) (st : St) (tk : List S34) (all : Int) (i : Nat) : Prop where
  ts : ∀ x ∈ tk, x ∈ sn
  al : all = total (st.take i)
  le : tk.length ≤ 120 + 256 * i
  all0 : 0 ≤ all ∧ all ≤ 256 * i
theorem HonT.nil {j : Nat} (h : HonP Q st sn tk many more j) (hj : j ≤ 120) : HonT sn st tk 0 0 := ⟨h.ts, by simp [total], by have := h.b5; omega, by omega⟩
theorem name_at (h : Rep Q st) {i : Nat} (hi : i < st.length) {x : ByteArray} (hx : (st.map (·.f0)).getD i ⟨#[]⟩ = x) : Q x = (st[i]).f1 ∧ Q x ≠ [] := by
  have e : x = (st[i]).f0 := by
    rw [← hx, List.getD_eq_getElem?_getD, List.getElem?_map, List.getElem?_eq_getElem hi]; rfl
  rw [e, h.at_ (List.getElem_mem hi)]
  exact ⟨rfl, h.some_ _ (List.getElem_mem hi)⟩
theorem HonT.next {j i : Nat} (h : HonP Q st sn tk many more j) {tk2 : List S34} {all : Int} (ht : HonT sn st tk2 all i) (hi : i < st.length) {x : ByteArray} (hx : (st.map (·.f0)).getD i ⟨#[]⟩ = x) (hl : (Q x).length ≤ 256) : HonT sn st (tk2 ++ Q x) (all + (Q x).length) (i + 1) := by
  have h1 := (name_at h.rep hi hx).1
  have h2 := total_take st i hi
  have h3 := ht.le
  have h4 := ht.all0
  refine ⟨fun y hy => ?_, ?_, ?_, ?_⟩
  · rcases List.mem_append.1 hy with hy | hy
    · exact ht.ts y hy
    · exact h.qs x y hy
  · rw [ht.al, h2, h1]; push_cast; rfl
  · rw [List.length_append]; omega
  · omega
theorem HonT.sum {j i : Nat} (h : HonP Q st sn tk many more j) {tk2 : List S34} {all : Int} (ht : HonT sn st tk2 all i) (hi : st.length ≤ i) : all = many + more := by
  rw [ht.al, List.take_of_length_le hi, h.sum]

theorem there_all {x : S34} (hx : x ∈ sn) : sn.any (sameL x) = true := List.any_eq_true.2 ⟨x, hx, sameL_refl x⟩
theorem there_next {x : S34} {q : Nat} (hq : q < sn.length) : (sn.take (q + 1)).any (sameL x) = ((sn.take q).any (sameL x) || sameL x (rd_T34 sn (q : Int))) := by
  have e : rd_T34 sn (q : Int) = sn[q] := by unfold rd_T34; rw [Int.toNat_natCast, List.getD_eq_getElem?_getD, List.getElem?_eq_getElem hq]; rfl
  rw [e, List.take_succ_eq_append_getElem hq, List.any_append]
  simp
theorem at_names {ok : Nat → Prop} {A : Option Addr} {n : Nat} {xs : List ByteArray} (h : Kd.F Kd.string W ok A n xs) (i : Nat) (h1 : i < n) : ∃ ad, A = some ad ∧ W.cell? (ad.add i) = some (.string (xs.getD i ⟨#[]⟩)) := by
  obtain ⟨ad, c, e, _, hK, hc0⟩ := Kd.C_get (Kd.F_now h) ⟨#[]⟩ (i : Int) (by omega) (by omega)
  have hc : ∀ j u, c[j]? = some u → W.cell? (ad.add ((i : Int).toNat * 1 + j)) = some u := hc0
  have hk : c = [.string (xs.getD i ⟨#[]⟩)] := hK
  subst hk
  refine ⟨ad, e, ?_⟩
  have hq := hc 0 _ rfl
  rwa [Nat.mul_one, Nat.add_zero, Int.toNat_natCast] at hq
theorem names_below {W' : World} {u v : Value} {A : Option Addr} {n : Nat} {xs : List ByteArray} (h : Kd.F Kd.string W (fun k => (Free W M own k ∧ some k ≠ u.ownBlock) ∧ some k ≠ v.ownBlock) A n xs) (hb : Below W.heap.size W W') : Kd.F Kd.string W' (fun k => (Free W' M own k ∧ some k ≠ u.ownBlock) ∧ some k ≠ v.ownBlock) A n xs :=
  Kd.F_mono (Kd.F_below (Kd.F_bound h) hb) (fun k hk => ⟨⟨hk.1.1.1.same (hb.block k hk.2), hk.1.1.2⟩, hk.1.2⟩)
theorem names_took {w1 : World} {v1 : Value} {A : Option Addr} {n : Nat} {xs : List ByteArray} (hM : HonM w W N M room own Q vs vt sn tk) (h : Kd.F Kd.string W (fun k => (Free W M own k ∧ some k ≠ vs.ownBlock) ∧ some k ≠ vt.ownBlock) A n xs) (hg : W.grownBy w1 vt.ownBlock) (hat : v1.ownBlock = vt.ownBlock ∨ ∃ b, v1.ownBlock = some b ∧ W.heap.size ≤ b) : Kd.F Kd.string w1 (fun k => (Free w1 M own k ∧ some k ≠ vs.ownBlock) ∧ some k ≠ v1.ownBlock) A n xs :=
  Kd.F_mono (Kd.F_after h hg hat) (fun k hk => ⟨⟨hk.1.1.imp id (fun ⟨c, hc⟩ => ⟨c, (hg.block k (heap_lt hc) (hM.bytes hc).2.2).trans hc⟩), hk.1.2⟩, hk.2⟩)
theorem same_len (x y : S34) (w : World) (A0 : Option Addr) (c0 : Nat) (A1 : Option Addr) (c1 : Nat) {n m : Nat} (hn : n = x.f1.length) (hm : m = y.f1.length) (h0 : (Kd.int .u8).C w A0 n x.f1) (l0 : n ≤ c0) (h1 : (Kd.int .u8).C w A1 m y.f1) (l1 : m ≤ c1) :
    Calls Try.prog 14 #[.agg #[.int .i64 x.f0, .slice A0 n c0], .agg #[.int .i64 y.f0, .slice A1 m c1]] w fun e w' => e = .returned (.bool (sameL x y)) ∧ Below w.heap.size w w' := by
  subst hn; subst hm
  exact same_calls x y w A0 c0 A1 c1 h0 l0 h1 l1
end
set_option maxHeartbeats 8000000 in
set_option maxRecDepth 100000 in
theorem honest_calls (room : Int) (A : Option Addr) (c : Nat) (l : List S31) (w : World) (h1 : 1 ≤ room) (h2 : room ≤ 256) (hc : l.length ≤ c) (hr : k31.C w A l.length l) (hok : OkHon l) :
    Calls Try.prog 4 #[.int .i64 room, .slice A l.length c] w fun e w' => e = .returned (.bool true) ∧ Below w.heap.size w w' := by
  have HF := Aside0.mk (Kd.C_F heap31 hr)
  have HR := Aside0.mk hr
  have HOK := Aside0.mk hok
  have HC := Aside0.mk hc
  have HRM := Aside0.mk (And.intro h1 h2)
  clear hr hok hc
  go_enter Try.func4, Try.ntmps4
  go_wp2_with (first
    | (go_at_call 7; (with_reducible refine (new_calls room _ HRM.out.1 HRM.out.2).mono ?_); rintro e wa ⟨N, M, rfl, hN, hb, hNl, hMl⟩; have H1 := Aside0.mk (HonM.made hN hb); clear hN hb hNl hMl)
    | (go_at_call 8; (with_reducible refine (live_calls _).mono ?_); rintro e wb ⟨rfl, hb⟩; have H2 := Aside0.mk (H1.out.then_ hb); clear hb)
    | (go_at_call 9; (with_reducible refine (few_calls _ _ l _ HC.out (Kd.C_below HR.out H2.out.below) HOK.out.few).mono ?_); rintro e wc ⟨m, hm, hm2, rfl, hb⟩; have H3 := Aside0.mk (H2.out.then_ hb); have HMM := Aside0.mk (And.intro hm hm2); clear hb hm hm2))
  go_loopg [7, 8, 9, 10, 50] (m + 1) (fun kq v7 v8 v9 v10 v50 wr => ∃ (j : Nat) (own : Nat → Option ByteArray) (Q : ByteArray → List S34) (st : St) (sn tk : List S34) (many more : Int), v50 = .int .i64 j ∧ v9 = .int .i64 many ∧ v10 = .int .i64 more ∧ Aside0 (kq + j = m + 1 ∧ j ≤ m) ∧ Aside0 (HonM w wr N M room own Q v7 v8 sn tk) ∧ Aside0 (HonP Q st sn tk many more j))
  case atStart => exact ⟨0, _, _, [], [], [], 0, 0, rfl, rfl, rfl, ⟨by omega⟩, H3, ⟨HonP.nil⟩⟩
  case round =>
    obtain ⟨j, own, Q, st, sn, tk, many, more, rfl, rfl, rfl, HJ, HM, HP⟩ := hrel
    cases gk with
    | zero => have := HJ.out; omega
    | succ k1 =>
    by_cases hlt : j < m
    · have hj0 : (0 : Int) ≤ (j : Int) := by omega
      have hj1 : (j : Int) < (l.length : Int) := by have := HMM.out; omega
      have hj2 : (j : Int) + 1 ≤ 9223372036854775807 := by have := HMM.out; omega
      have hjm : (j : Int) < (m : Int) := by omega
      have HB := Aside0.mk (And.intro HP.out.b1 (And.intro HP.out.b2 (And.intro HP.out.b3 (show j ≤ 120 by have := HMM.out; omega))))
      obtain ⟨ad, A1, c1, hA, x0, x1, x2, x3, hc1, hF1⟩ := at_F31 HF.out (j : Int) hj0 hj1
      simp only [Int.toNat_natCast] at x0 x1 x2 x3
      replace x0 := pw_cell_below HM.out.below x0
      replace x1 := pw_cell_below HM.out.below x1
      replace x2 := pw_cell_below HM.out.below x2
      replace x3 := pw_cell_below HM.out.below x3
      have HX := Aside0.mk (HOK.out.each (rd_T31 l (j : Int)) (by
        have hx : rd_T31 l (j : Int) = l.getD j z31 := rfl
        rw [hx, List.getD_eq_getElem?_getD, List.getElem?_eq_getElem (by omega)]; exact List.getElem_mem _))
      subst hA
      clear hlt
      generalize rd_T31 l (j : Int) = x at *
      obtain ⟨xdo, s, ls, xi⟩ := x
      dsimp only at x0 x1 x2 x3 hc1 hF1 HX
      obtain ⟨n, hn⟩ : ∃ n : Nat, n = ls.length := ⟨_, rfl⟩
      rw [← hn] at x2 hc1 hF1
      have HF1 := Aside0.mk (And.intro hF1 (And.intro hn hc1))
      have hnn : n ≤ c1 := hc1
      clear hF1 hn hc1
      obtain ⟨tb, htb⟩ : ∃ b, b = tenant s := ⟨_, rfl⟩
      have HTB := Aside0.mk htb
      clear htb
      cases tb with
      | false =>
        go_wp2_with (first
          | ((with_reducible refine gate_dst (N := 12) rfl ?_); refine box_event ?hg (N := 12) ?hd (cs := (opL 0 ⟨#[]⟩ none 0 0 0).toArray) (t := 31) ?hr ?_; (case hd => rfl); (case hg => rfl); (case hr => first | (go_simp; done) | (go_simp; rfl)); intro X hX w1 hx1 hb1; have H1 := Aside0.mk (And.intro hx1 (And.intro hb1 (show wr.heap.size ≤ X by omega))); clear hX hx1 hb1)
          | ((with_reducible refine gate_ (.store 31 (.tmp 12) (.tmp 53)) rfl ?_); refine store_blk rfl 31 (.tmp 12) (.tmp 53) rfl X (opL 0 ⟨#[]⟩ none 0 0 0) (opL xdo s A1 n c1 xi) rfl rfl H1.out.1 rfl size31 (opL_one _ _ _ _ _ _) ?_; intro w2 ha hka hba; have H2 := Aside0.mk (HonX.made HM.out H1.out.2.2 (hba wr H1.out.2.2 H1.out.2.1) ha); clear ha hka hba x0 x1 x2 x3; obtain ⟨x0, x1, x2, x3⟩ := cellsO H2.out.blk)
          | (go_at_call 18; (with_reducible refine (rtenant_calls s HX.out.1 _).mono ?_); rw [← HTB.out]; rintro e w3 ⟨rfl, hb⟩; have H3 := Aside0.mk (H2.out.then_ hb); clear hb x0 x1 x2 x3; obtain ⟨x0, x1, x2, x3⟩ := cellsO H3.out.blk))
        go_roundg k1
        case measure => omega
        case rel => exact ⟨j + 1, own, Q, st, sn, tk, many, more, by first | rfl | (simp; done) | (rw [wrap64_self (n := (j : Int) + 1) (by omega) (by omega)]; first | rfl | (simp; done)), rfl, rfl, ⟨by have := HJ.out; omega⟩, ⟨H3.out.m⟩, ⟨HP.out.idle⟩⟩
      | true =>
        by_cases e0 : xdo = 0
        · subst e0
          obtain ⟨kk, hk⟩ := HM.out.kk s n
          have HK := Aside0.mk hk
          have hk1 : (kk : Int) ≤ (n : Int) := by omega
          have hk2 : kk ≤ c1 := by omega
          have hk6 : ¬ n < kk := by omega
          have hk0 : decide ((kk : Int) < 0) = false := by simp
          by_cases hkn : kk = n
          · have hk5 : ¬ kk < n := by omega
            clear hk hkn
            go_wp2_with (first
              | ((with_reducible refine gate_dst (N := 12) rfl ?_); refine box_event ?hg (N := 12) ?hd (cs := (opL 0 ⟨#[]⟩ none 0 0 0).toArray) (t := 31) ?hr ?_; (case hd => rfl); (case hg => rfl); (case hr => first | (go_simp; done) | (go_simp; rfl)); intro X hX w1 hx1 hb1; have H1 := Aside0.mk (And.intro hx1 (And.intro hb1 (show wr.heap.size ≤ X by omega))); clear hX hx1 hb1)
              | ((with_reducible refine gate_ (.store 31 (.tmp 12) (.tmp 53)) rfl ?_); refine store_blk rfl 31 (.tmp 12) (.tmp 53) rfl X (opL 0 ⟨#[]⟩ none 0 0 0) (opL 0 s A1 n c1 xi) rfl rfl H1.out.1 rfl size31 (opL_one _ _ _ _ _ _) ?_; intro w2 ha hka hba; have H2 := Aside0.mk (HonX.made HM.out H1.out.2.2 (hba wr H1.out.2.2 H1.out.2.1) ha); clear ha hka hba x0 x1 x2 x3; obtain ⟨x0, x1, x2, x3⟩ := cellsO H2.out.blk)
              | (go_at_call 18; (with_reducible refine (rtenant_calls s HX.out.1 _).mono ?_); rw [← HTB.out]; rintro e w3 ⟨rfl, hb⟩; have H3 := Aside0.mk (H2.out.then_ hb); clear hb x0 x1 x2 x3; obtain ⟨x0, x1, x2, x3⟩ := cellsO H3.out.blk)
              | (go_at_call 10; (with_reducible refine (H3.out.m.send s HTB.out.symm HF1.out.1 HF1.out.2.1 HF1.out.2.2 HX.out.2 HK.out.1).mono ?_); rintro e w4 ⟨rfl, own', hm, hk4⟩; have H4 := Aside0.mk (H3.out.keep hm hk4); clear hm hk4 x0 x1 x2 x3; obtain ⟨x0, x1, x2, x3⟩ := cellsO H4.out.blk)
              | ((with_reducible refine gate_builtin (b := .append) (xs := #[.tmp 99, .tmp 103]) rfl ?_); at_builtin; refine Kd.N_append_rows k34 (w0 := w) w.heap.size rfl (.tmp 99) (.tmp 103) 29 34 (.agg #[.int .i64 0, .slice none 0 0]) 32 rfl Try.underlying29 info34 rfl (by decide) (by omega) u7 sn (ls.take kk) A1 kk c1 _ _ rfl rfl H4.out.m.sent (F_take (Kd.F_below HF1.out.1 H4.out.m.below) HK.out.2.1) (fun k hk => ⟨⟨(H4.out.m.elder hk).1, (H4.out.m.elder hk).2.2⟩, (H4.out.m.elder hk).2.1⟩) (fun k hk => ⟨(H4.out.m.fresh hk).1, (H4.out.m.fresh hk).2.2⟩) H4.out.m.below H4.out.m.below.size (by have h1 := HP.out.b4; have h2 := HB.out.2.2.2; have h3 := HK.out.2.2.1; omega) ?_; intro v5 w5 ho hb hg hat; have H5 := Aside0.mk (H4.out.sent_ (by decide) ho hg hat); clear ho hb hg hat x0 x1 x2 x3))
            go_roundg k1
            case measure => omega
            case rel => exact ⟨j + 1, _, _, _, _, tk, (many + kk), more, by first | rfl | (simp; done) | (rw [wrap64_self (n := (j : Int) + 1) (by omega) (by omega)]; first | rfl | (simp; done)), by first | rfl | (rw [wrap64_self (by have := HB.out; have := HK.out; omega) (by have := HB.out; have := HK.out; omega)]), rfl, ⟨by have := HJ.out; omega⟩, ⟨H5.out.m⟩, ⟨HP.out.send s ls kk (by have h3 := HK.out; have h4 := HF1.out.2.1; omega) HK.out.2.2.1⟩⟩
          · have hk5 : kk < n := by omega
            have HKR := Aside0.mk (show ((Q s).length : Int) + kk = room by omega)
            clear hk hkn
            go_wp2_with (first
              | ((with_reducible refine gate_dst (N := 12) rfl ?_); refine box_event ?hg (N := 12) ?hd (cs := (opL 0 ⟨#[]⟩ none 0 0 0).toArray) (t := 31) ?hr ?_; (case hd => rfl); (case hg => rfl); (case hr => first | (go_simp; done) | (go_simp; rfl)); intro X hX w1 hx1 hb1; have H1 := Aside0.mk (And.intro hx1 (And.intro hb1 (show wr.heap.size ≤ X by omega))); clear hX hx1 hb1)
              | ((with_reducible refine gate_ (.store 31 (.tmp 12) (.tmp 53)) rfl ?_); refine store_blk rfl 31 (.tmp 12) (.tmp 53) rfl X (opL 0 ⟨#[]⟩ none 0 0 0) (opL 0 s A1 n c1 xi) rfl rfl H1.out.1 rfl size31 (opL_one _ _ _ _ _ _) ?_; intro w2 ha hka hba; have H2 := Aside0.mk (HonX.made HM.out H1.out.2.2 (hba wr H1.out.2.2 H1.out.2.1) ha); clear ha hka hba x0 x1 x2 x3; obtain ⟨x0, x1, x2, x3⟩ := cellsO H2.out.blk)
              | (go_at_call 18; (with_reducible refine (rtenant_calls s HX.out.1 _).mono ?_); rw [← HTB.out]; rintro e w3 ⟨rfl, hb⟩; have H3 := Aside0.mk (H2.out.then_ hb); clear hb x0 x1 x2 x3; obtain ⟨x0, x1, x2, x3⟩ := cellsO H3.out.blk)
              | (go_at_call 10; (with_reducible refine (H3.out.m.send s HTB.out.symm HF1.out.1 HF1.out.2.1 HF1.out.2.2 HX.out.2 HK.out.1).mono ?_); rintro e w4 ⟨rfl, own', hm, hk4⟩; have H4 := Aside0.mk (H3.out.keep hm hk4); clear hm hk4 x0 x1 x2 x3; obtain ⟨x0, x1, x2, x3⟩ := cellsO H4.out.blk)
              | (go_at_call 15; (with_reducible refine (H4.out.m.len s (m := room) (by rw [setQ_self, List.length_append, List.length_take]; have h3 := HK.out; have h4 := HF1.out.2.1; omega)).mono ?_); rintro e w9 ⟨rfl, h9⟩; subst w9)
              | ((with_reducible refine gate_builtin (b := .append) (xs := #[.tmp 99, .tmp 103]) rfl ?_); at_builtin; refine Kd.N_append_rows k34 (w0 := w) w.heap.size rfl (.tmp 99) (.tmp 103) 29 34 (.agg #[.int .i64 0, .slice none 0 0]) 32 rfl Try.underlying29 info34 rfl (by decide) (by omega) u7 sn (ls.take kk) A1 kk c1 _ _ rfl rfl H4.out.m.sent (F_take (Kd.F_below HF1.out.1 H4.out.m.below) HK.out.2.1) (fun k hk => ⟨⟨(H4.out.m.elder hk).1, (H4.out.m.elder hk).2.2⟩, (H4.out.m.elder hk).2.1⟩) (fun k hk => ⟨(H4.out.m.fresh hk).1, (H4.out.m.fresh hk).2.2⟩) H4.out.m.below H4.out.m.below.size (by have h1 := HP.out.b4; have h2 := HB.out.2.2.2; have h3 := HK.out.2.2.1; omega) ?_; intro v5 w5 ho hb hg hat; have H5 := Aside0.mk (H4.out.sent_ (by decide) ho hg hat); clear ho hb hg hat x0 x1 x2 x3))
            go_roundg k1
            case measure => omega
            case rel => exact ⟨j + 1, _, _, _, _, tk, (many + kk), more, by first | rfl | (simp; done) | (rw [wrap64_self (n := (j : Int) + 1) (by omega) (by omega)]; first | rfl | (simp; done)), by first | rfl | (rw [wrap64_self (by have := HB.out; have := HK.out; omega) (by have := HB.out; have := HK.out; omega)]), rfl, ⟨by have := HJ.out; omega⟩, ⟨H5.out.m⟩, ⟨HP.out.send s ls kk (by have h3 := HK.out; have h4 := HF1.out.2.1; omega) HK.out.2.2.1⟩⟩
        by_cases e1 : xdo = 1
        · subst e1
          clear e0
          by_cases hi : 0 ≤ xi ∧ xi < (Q s).length
          · have HPT := Aside0.mk (HP.out.take s xi hi)
            obtain ⟨X1, hX1⟩ : ∃ X, takeX Q s xi = X := ⟨_, rfl⟩
            obtain ⟨nn, hnn⟩ : ∃ n : Nat, X1.f1.length = n := ⟨_, rfl⟩
            have HXE := Aside0.mk (And.intro hX1 (And.intro (show takeE Q s xi = 0 from if_pos hi) hnn))
            clear hX1 hnn hi
            go_wp2_with (first
              | ((with_reducible refine gate_dst (N := 12) rfl ?_); refine box_event ?hg (N := 12) ?hd (cs := (opL 0 ⟨#[]⟩ none 0 0 0).toArray) (t := 31) ?hr ?_; (case hd => rfl); (case hg => rfl); (case hr => first | (go_simp; done) | (go_simp; rfl)); intro X hX w1 hx1 hb1; have H1 := Aside0.mk (And.intro hx1 (And.intro hb1 (show wr.heap.size ≤ X by omega))); clear hX hx1 hb1)
              | ((with_reducible refine gate_ (.store 31 (.tmp 12) (.tmp 53)) rfl ?_); refine store_blk rfl 31 (.tmp 12) (.tmp 53) rfl X (opL 0 ⟨#[]⟩ none 0 0 0) (opL 1 s A1 n c1 xi) rfl rfl H1.out.1 rfl size31 (opL_one _ _ _ _ _ _) ?_; intro w2 ha hka hba; have H2 := Aside0.mk (HonX.made HM.out H1.out.2.2 (hba wr H1.out.2.2 H1.out.2.1) ha); clear ha hka hba x0 x1 x2 x3; obtain ⟨x0, x1, x2, x3⟩ := cellsO H2.out.blk)
              | (go_at_call 18; (with_reducible refine (rtenant_calls s HX.out.1 _).mono ?_); rw [← HTB.out]; rintro e w3 ⟨rfl, hb⟩; have H3 := Aside0.mk (H2.out.then_ hb); clear hb x0 x1 x2 x3; obtain ⟨x0, x1, x2, x3⟩ := cellsO H3.out.blk)
              | (go_at_call 11; (with_reducible refine (H3.out.m.take s xi HXE.out.1 HXE.out.2.1 HXE.out.2.2).mono ?_); rintro e w4 ⟨own', A2, c2, rfl, hm, hk4, hfk⟩; have H4 := Aside0.mk (H3.out.keep hm hk4); have HFK := Aside0.mk hfk; clear hm hk4 hfk x0 x1 x2 x3)
              | ((with_reducible refine gate_dst (N := 15) rfl ?_); refine box_event ?hg (N := 15) ?hd (cs := (leL 0 none 0 0).toArray) (t := 34) ?hr ?_; (case hd => rfl); (case hg => rfl); (case hr => first | (go_simp; done) | (go_simp; rfl)); intro Y hY w5 hx1 hb1; have H5 := Aside0.mk (And.intro hx1 (And.intro hb1 (show w4.heap.size ≤ Y by omega))); clear hY hx1 hb1)
              | ((with_reducible refine gate_ (.store 34 (.tmp 15) (.tmp 117)) rfl ?_); refine store_blk rfl 34 (.tmp 15) (.tmp 117) rfl Y (leL 0 none 0 0) (leL X1.f0 A2 nn c2) rfl rfl H5.out.1 rfl size34 (leL_one _ _ _ _) ?_; intro w6 ha hka hba; have hbb := hba w4 H5.out.2.2 H5.out.2.1; have H6 := Aside0.mk (H4.out.then_ hbb); have HF6 := Aside0.mk (fk_move HFK.out hbb); obtain ⟨y0, y1⟩ := cellsL ha; clear ha hka hba hbb)
              | ((with_reducible refine gate_builtin (b := .append) (xs := #[.tmp 121, .tmp 123]) rfl ?_); at_builtin; refine Kd.N_append k34 (w0 := w) w.heap.size rfl (.tmp 121) (.tmp 123) 29 34 (.agg #[.int .i64 0, .slice none 0 0]) 32 rfl Try.underlying29 info34 rfl (by decide) (by omega) u8 tk X1 [.int .i64 X1.f0, .slice A2 nn c2] _ _ rfl rfl HF6.out (fun k ⟨cells, hk⟩ => ⟨⟨(H6.out.m.bytes hk).1, (H6.out.m.bytes hk).2.1⟩, (H6.out.m.bytes hk).2.2⟩) (fun k hk => ⟨(H6.out.m.fresh hk).1, (H6.out.m.fresh hk).2.1⟩) H6.out.m.took H6.out.m.below H6.out.m.below.size (by have h1 := HP.out.b5; have h2 := HB.out.2.2.2; omega) ?_; intro v7 w7 ho hb hg hat; have H7 := Aside0.mk (H6.out.took_ (by decide) ho hg hat); clear ho hb hg hat))
            go_roundg k1
            case measure => omega
            case rel => exact ⟨j + 1, _, _, _, sn, _, (many - 1), more, by first | rfl | (simp; done) | (rw [wrap64_self (n := (j : Int) + 1) (by omega) (by omega)]; first | rfl | (simp; done)), by first | rfl | (rw [wrap64_self (by have := HB.out; omega) (by have := HB.out; omega)]), rfl, ⟨by have := HJ.out; omega⟩, ⟨H7.out.m⟩, ⟨HonP.took HPT.out.1 (by rw [← HXE.out.1]; exact HPT.out.2) HP.out.b5⟩⟩
          · obtain ⟨X1, hX1⟩ : ∃ X, takeX Q s xi = X := ⟨_, rfl⟩
            obtain ⟨nn, hnn⟩ : ∃ n : Nat, X1.f1.length = n := ⟨_, rfl⟩
            have HXE := Aside0.mk (And.intro hX1 (And.intro (show takeE Q s xi = 4 from if_neg hi) hnn))
            have HQ := Aside0.mk (show takeQ Q s xi = Q from if_neg hi)
            clear hX1 hnn hi
            go_wp2_with (first
              | ((with_reducible refine gate_dst (N := 12) rfl ?_); refine box_event ?hg (N := 12) ?hd (cs := (opL 0 ⟨#[]⟩ none 0 0 0).toArray) (t := 31) ?hr ?_; (case hd => rfl); (case hg => rfl); (case hr => first | (go_simp; done) | (go_simp; rfl)); intro X hX w1 hx1 hb1; have H1 := Aside0.mk (And.intro hx1 (And.intro hb1 (show wr.heap.size ≤ X by omega))); clear hX hx1 hb1)
              | ((with_reducible refine gate_ (.store 31 (.tmp 12) (.tmp 53)) rfl ?_); refine store_blk rfl 31 (.tmp 12) (.tmp 53) rfl X (opL 0 ⟨#[]⟩ none 0 0 0) (opL 1 s A1 n c1 xi) rfl rfl H1.out.1 rfl size31 (opL_one _ _ _ _ _ _) ?_; intro w2 ha hka hba; have H2 := Aside0.mk (HonX.made HM.out H1.out.2.2 (hba wr H1.out.2.2 H1.out.2.1) ha); clear ha hka hba x0 x1 x2 x3; obtain ⟨x0, x1, x2, x3⟩ := cellsO H2.out.blk)
              | (go_at_call 18; (with_reducible refine (rtenant_calls s HX.out.1 _).mono ?_); rw [← HTB.out]; rintro e w3 ⟨rfl, hb⟩; have H3 := Aside0.mk (H2.out.then_ hb); clear hb x0 x1 x2 x3; obtain ⟨x0, x1, x2, x3⟩ := cellsO H3.out.blk)
              | (go_at_call 11; (with_reducible refine (H3.out.m.take s xi HXE.out.1 HXE.out.2.1 HXE.out.2.2).mono ?_); rintro e w4 ⟨own', A2, c2, rfl, hm, hk4, hfk⟩; have H4 := Aside0.mk (H3.out.keep hm hk4); have HFK := Aside0.mk hfk; clear hm hk4 hfk x0 x1 x2 x3)
              | ((with_reducible refine gate_dst (N := 15) rfl ?_); refine box_event ?hg (N := 15) ?hd (cs := (leL 0 none 0 0).toArray) (t := 34) ?hr ?_; (case hd => rfl); (case hg => rfl); (case hr => first | (go_simp; done) | (go_simp; rfl)); intro Y hY w5 hx1 hb1; have H5 := Aside0.mk (And.intro hx1 (And.intro hb1 (show w4.heap.size ≤ Y by omega))); clear hY hx1 hb1)
              | ((with_reducible refine gate_ (.store 34 (.tmp 15) (.tmp 117)) rfl ?_); refine store_blk rfl 34 (.tmp 15) (.tmp 117) rfl Y (leL 0 none 0 0) (leL X1.f0 A2 nn c2) rfl rfl H5.out.1 rfl size34 (leL_one _ _ _ _) ?_; intro w6 ha hka hba; have hbb := hba w4 H5.out.2.2 H5.out.2.1; have H6 := Aside0.mk (H4.out.then_ hbb); have HF6 := Aside0.mk (fk_move HFK.out hbb); obtain ⟨y0, y1⟩ := cellsL ha; clear ha hka hba hbb))
            go_roundg k1
            case measure => omega
            case rel => exact ⟨j + 1, _, _, st, sn, tk, many, more, by first | rfl | (simp; done) | (rw [wrap64_self (n := (j : Int) + 1) (by omega) (by omega)]; first | rfl | (simp; done)), rfl, rfl, ⟨by have := HJ.out; omega⟩, ⟨(by have := H6.out.m; rw [HQ.out] at this; exact this)⟩, ⟨HP.out.idle⟩⟩
        by_cases e2 : xdo = 2
        · subst e2
          clear e0 e1
          by_cases hi : 0 ≤ xi ∧ xi < (Q s).length
          · have HPT := Aside0.mk (HP.out.take s xi hi)
            have HE := Aside0.mk (show takeE Q s xi = 0 from if_pos hi)
            clear hi
            go_wp2_with (first
              | ((with_reducible refine gate_dst (N := 12) rfl ?_); refine box_event ?hg (N := 12) ?hd (cs := (opL 0 ⟨#[]⟩ none 0 0 0).toArray) (t := 31) ?hr ?_; (case hd => rfl); (case hg => rfl); (case hr => first | (go_simp; done) | (go_simp; rfl)); intro X hX w1 hx1 hb1; have H1 := Aside0.mk (And.intro hx1 (And.intro hb1 (show wr.heap.size ≤ X by omega))); clear hX hx1 hb1)
              | ((with_reducible refine gate_ (.store 31 (.tmp 12) (.tmp 53)) rfl ?_); refine store_blk rfl 31 (.tmp 12) (.tmp 53) rfl X (opL 0 ⟨#[]⟩ none 0 0 0) (opL 2 s A1 n c1 xi) rfl rfl H1.out.1 rfl size31 (opL_one _ _ _ _ _ _) ?_; intro w2 ha hka hba; have H2 := Aside0.mk (HonX.made HM.out H1.out.2.2 (hba wr H1.out.2.2 H1.out.2.1) ha); clear ha hka hba x0 x1 x2 x3; obtain ⟨x0, x1, x2, x3⟩ := cellsO H2.out.blk)
              | (go_at_call 18; (with_reducible refine (rtenant_calls s HX.out.1 _).mono ?_); rw [← HTB.out]; rintro e w3 ⟨rfl, hb⟩; have H3 := Aside0.mk (H2.out.then_ hb); clear hb x0 x1 x2 x3; obtain ⟨x0, x1, x2, x3⟩ := cellsO H3.out.blk)
              | (go_at_call 12; (with_reducible refine (H3.out.m.drop s xi HE.out).mono ?_); rintro e w4 ⟨rfl, own', hm, hk4⟩; have H4 := Aside0.mk (H3.out.keep hm hk4); clear hm hk4 x0 x1 x2 x3))
            go_roundg k1
            case measure => omega
            case rel => exact ⟨j + 1, _, _, _, sn, tk, (many - 1), more, by first | rfl | (simp; done) | (rw [wrap64_self (n := (j : Int) + 1) (by omega) (by omega)]; first | rfl | (simp; done)), by first | rfl | (rw [wrap64_self (by have := HB.out; omega) (by have := HB.out; omega)]), rfl, ⟨by have := HJ.out; omega⟩, ⟨H4.out.m⟩, ⟨HPT.out.1⟩⟩
          · have HE := Aside0.mk (show takeE Q s xi = 4 from if_neg hi)
            have HQ := Aside0.mk (show takeQ Q s xi = Q from if_neg hi)
            clear hi
            go_wp2_with (first
              | ((with_reducible refine gate_dst (N := 12) rfl ?_); refine box_event ?hg (N := 12) ?hd (cs := (opL 0 ⟨#[]⟩ none 0 0 0).toArray) (t := 31) ?hr ?_; (case hd => rfl); (case hg => rfl); (case hr => first | (go_simp; done) | (go_simp; rfl)); intro X hX w1 hx1 hb1; have H1 := Aside0.mk (And.intro hx1 (And.intro hb1 (show wr.heap.size ≤ X by omega))); clear hX hx1 hb1)
              | ((with_reducible refine gate_ (.store 31 (.tmp 12) (.tmp 53)) rfl ?_); refine store_blk rfl 31 (.tmp 12) (.tmp 53) rfl X (opL 0 ⟨#[]⟩ none 0 0 0) (opL 2 s A1 n c1 xi) rfl rfl H1.out.1 rfl size31 (opL_one _ _ _ _ _ _) ?_; intro w2 ha hka hba; have H2 := Aside0.mk (HonX.made HM.out H1.out.2.2 (hba wr H1.out.2.2 H1.out.2.1) ha); clear ha hka hba x0 x1 x2 x3; obtain ⟨x0, x1, x2, x3⟩ := cellsO H2.out.blk)
              | (go_at_call 18; (with_reducible refine (rtenant_calls s HX.out.1 _).mono ?_); rw [← HTB.out]; rintro e w3 ⟨rfl, hb⟩; have H3 := Aside0.mk (H2.out.then_ hb); clear hb x0 x1 x2 x3; obtain ⟨x0, x1, x2, x3⟩ := cellsO H3.out.blk)
              | (go_at_call 12; (with_reducible refine (H3.out.m.drop s xi HE.out).mono ?_); rintro e w4 ⟨rfl, own', hm, hk4⟩; have H4 := Aside0.mk (H3.out.keep hm hk4); clear hm hk4 x0 x1 x2 x3))
            go_roundg k1
            case measure => omega
            case rel => exact ⟨j + 1, _, _, st, sn, tk, many, more, by first | rfl | (simp; done) | (rw [wrap64_self (n := (j : Int) + 1) (by omega) (by omega)]; first | rfl | (simp; done)), rfl, rfl, ⟨by have := HJ.out; omega⟩, ⟨(by have := H4.out.m; rw [HQ.out] at this; exact this)⟩, ⟨HP.out.idle⟩⟩
        by_cases e3 : xdo = 3
        · subst e3
          clear e0 e1 e2
          by_cases hi : 0 ≤ xi ∧ xi < (Q s).length
          · by_cases hf : ((Q s).length : Int) < room
            · have HPT := Aside0.mk (HP.out.double s xi hi)
              have HE := Aside0.mk (show doubleE room Q s xi = 0 by unfold doubleE; rw [if_pos hi, if_pos hf])
              have HQ := Aside0.mk (show doubleQ room Q s xi = setQ Q s (Q s ++ [(Q s).getD xi.toNat z34]) by unfold doubleQ; rw [if_pos hi, if_pos hf])
              clear hi hf
              go_wp2_with (first
                | ((with_reducible refine gate_dst (N := 12) rfl ?_); refine box_event ?hg (N := 12) ?hd (cs := (opL 0 ⟨#[]⟩ none 0 0 0).toArray) (t := 31) ?hr ?_; (case hd => rfl); (case hg => rfl); (case hr => first | (go_simp; done) | (go_simp; rfl)); intro X hX w1 hx1 hb1; have H1 := Aside0.mk (And.intro hx1 (And.intro hb1 (show wr.heap.size ≤ X by omega))); clear hX hx1 hb1)
                | ((with_reducible refine gate_ (.store 31 (.tmp 12) (.tmp 53)) rfl ?_); refine store_blk rfl 31 (.tmp 12) (.tmp 53) rfl X (opL 0 ⟨#[]⟩ none 0 0 0) (opL 3 s A1 n c1 xi) rfl rfl H1.out.1 rfl size31 (opL_one _ _ _ _ _ _) ?_; intro w2 ha hka hba; have H2 := Aside0.mk (HonX.made HM.out H1.out.2.2 (hba wr H1.out.2.2 H1.out.2.1) ha); clear ha hka hba x0 x1 x2 x3; obtain ⟨x0, x1, x2, x3⟩ := cellsO H2.out.blk)
                | (go_at_call 18; (with_reducible refine (rtenant_calls s HX.out.1 _).mono ?_); rw [← HTB.out]; rintro e w3 ⟨rfl, hb⟩; have H3 := Aside0.mk (H2.out.then_ hb); clear hb x0 x1 x2 x3; obtain ⟨x0, x1, x2, x3⟩ := cellsO H3.out.blk)
                | (go_at_call 13; (with_reducible refine (H3.out.m.double s xi HE.out).mono ?_); rintro e w4 ⟨rfl, own', hm, hk4⟩; have H4 := Aside0.mk (H3.out.keep hm hk4); clear hm hk4 x0 x1 x2 x3))
              go_roundg k1
              case measure => omega
              case rel => exact ⟨j + 1, _, _, _, sn, tk, many, (more + 1), by first | rfl | (simp; done) | (rw [wrap64_self (n := (j : Int) + 1) (by omega) (by omega)]; first | rfl | (simp; done)), rfl, by first | rfl | (rw [wrap64_self (by have := HB.out; omega) (by have := HB.out; omega)]), ⟨by have := HJ.out; omega⟩, ⟨(by have := H4.out.m; rw [HQ.out] at this; exact this)⟩, ⟨HPT.out⟩⟩
            · have HE := Aside0.mk (show doubleE room Q s xi = 5 by unfold doubleE; rw [if_pos hi, if_neg hf])
              have HQ := Aside0.mk (show doubleQ room Q s xi = Q by unfold doubleQ; rw [if_pos hi, if_neg hf])
              clear hi hf
              go_wp2_with (first
                | ((with_reducible refine gate_dst (N := 12) rfl ?_); refine box_event ?hg (N := 12) ?hd (cs := (opL 0 ⟨#[]⟩ none 0 0 0).toArray) (t := 31) ?hr ?_; (case hd => rfl); (case hg => rfl); (case hr => first | (go_simp; done) | (go_simp; rfl)); intro X hX w1 hx1 hb1; have H1 := Aside0.mk (And.intro hx1 (And.intro hb1 (show wr.heap.size ≤ X by omega))); clear hX hx1 hb1)
                | ((with_reducible refine gate_ (.store 31 (.tmp 12) (.tmp 53)) rfl ?_); refine store_blk rfl 31 (.tmp 12) (.tmp 53) rfl X (opL 0 ⟨#[]⟩ none 0 0 0) (opL 3 s A1 n c1 xi) rfl rfl H1.out.1 rfl size31 (opL_one _ _ _ _ _ _) ?_; intro w2 ha hka hba; have H2 := Aside0.mk (HonX.made HM.out H1.out.2.2 (hba wr H1.out.2.2 H1.out.2.1) ha); clear ha hka hba x0 x1 x2 x3; obtain ⟨x0, x1, x2, x3⟩ := cellsO H2.out.blk)
                | (go_at_call 18; (with_reducible refine (rtenant_calls s HX.out.1 _).mono ?_); rw [← HTB.out]; rintro e w3 ⟨rfl, hb⟩; have H3 := Aside0.mk (H2.out.then_ hb); clear hb x0 x1 x2 x3; obtain ⟨x0, x1, x2, x3⟩ := cellsO H3.out.blk)
                | (go_at_call 13; (with_reducible refine (H3.out.m.double s xi HE.out).mono ?_); rintro e w4 ⟨rfl, own', hm, hk4⟩; have H4 := Aside0.mk (H3.out.keep hm hk4); clear hm hk4 x0 x1 x2 x3))
              go_roundg k1
              case measure => omega
              case rel => exact ⟨j + 1, _, _, st, sn, tk, many, more, by first | rfl | (simp; done) | (rw [wrap64_self (n := (j : Int) + 1) (by omega) (by omega)]; first | rfl | (simp; done)), rfl, rfl, ⟨by have := HJ.out; omega⟩, ⟨(by have := H4.out.m; rw [HQ.out] at this; exact this)⟩, ⟨HP.out.idle⟩⟩
          · have HE := Aside0.mk (show doubleE room Q s xi = 4 by unfold doubleE; rw [if_neg hi])
            have HQ := Aside0.mk (show doubleQ room Q s xi = Q by unfold doubleQ; rw [if_neg hi])
            clear hi
            go_wp2_with (first
              | ((with_reducible refine gate_dst (N := 12) rfl ?_); refine box_event ?hg (N := 12) ?hd (cs := (opL 0 ⟨#[]⟩ none 0 0 0).toArray) (t := 31) ?hr ?_; (case hd => rfl); (case hg => rfl); (case hr => first | (go_simp; done) | (go_simp; rfl)); intro X hX w1 hx1 hb1; have H1 := Aside0.mk (And.intro hx1 (And.intro hb1 (show wr.heap.size ≤ X by omega))); clear hX hx1 hb1)
              | ((with_reducible refine gate_ (.store 31 (.tmp 12) (.tmp 53)) rfl ?_); refine store_blk rfl 31 (.tmp 12) (.tmp 53) rfl X (opL 0 ⟨#[]⟩ none 0 0 0) (opL 3 s A1 n c1 xi) rfl rfl H1.out.1 rfl size31 (opL_one _ _ _ _ _ _) ?_; intro w2 ha hka hba; have H2 := Aside0.mk (HonX.made HM.out H1.out.2.2 (hba wr H1.out.2.2 H1.out.2.1) ha); clear ha hka hba x0 x1 x2 x3; obtain ⟨x0, x1, x2, x3⟩ := cellsO H2.out.blk)
              | (go_at_call 18; (with_reducible refine (rtenant_calls s HX.out.1 _).mono ?_); rw [← HTB.out]; rintro e w3 ⟨rfl, hb⟩; have H3 := Aside0.mk (H2.out.then_ hb); clear hb x0 x1 x2 x3; obtain ⟨x0, x1, x2, x3⟩ := cellsO H3.out.blk)
              | (go_at_call 13; (with_reducible refine (H3.out.m.double s xi HE.out).mono ?_); rintro e w4 ⟨rfl, own', hm, hk4⟩; have H4 := Aside0.mk (H3.out.keep hm hk4); clear hm hk4 x0 x1 x2 x3))
            go_roundg k1
            case measure => omega
            case rel => exact ⟨j + 1, _, _, st, sn, tk, many, more, by first | rfl | (simp; done) | (rw [wrap64_self (n := (j : Int) + 1) (by omega) (by omega)]; first | rfl | (simp; done)), rfl, rfl, ⟨by have := HJ.out; omega⟩, ⟨(by have := H4.out.m; rw [HQ.out] at this; exact this)⟩, ⟨HP.out.idle⟩⟩
        have f0 : (xdo == 0) = false := by simpa using e0
        have f1 : (xdo == 1) = false := by simpa using e1
        have f2 : (xdo == 2) = false := by simpa using e2
        have f3 : (xdo == 3) = false := by simpa using e3
        clear e0 e1 e2 e3
        go_wp2_with (first
          | ((with_reducible refine gate_dst (N := 12) rfl ?_); refine box_event ?hg (N := 12) ?hd (cs := (opL 0 ⟨#[]⟩ none 0 0 0).toArray) (t := 31) ?hr ?_; (case hd => rfl); (case hg => rfl); (case hr => first | (go_simp; done) | (go_simp; rfl)); intro X hX w1 hx1 hb1; have H1 := Aside0.mk (And.intro hx1 (And.intro hb1 (show wr.heap.size ≤ X by omega))); clear hX hx1 hb1)
          | ((with_reducible refine gate_ (.store 31 (.tmp 12) (.tmp 53)) rfl ?_); refine store_blk rfl 31 (.tmp 12) (.tmp 53) rfl X (opL 0 ⟨#[]⟩ none 0 0 0) (opL xdo s A1 n c1 xi) rfl rfl H1.out.1 rfl size31 (opL_one _ _ _ _ _ _) ?_; intro w2 ha hka hba; have H2 := Aside0.mk (HonX.made HM.out H1.out.2.2 (hba wr H1.out.2.2 H1.out.2.1) ha); clear ha hka hba x0 x1 x2 x3; obtain ⟨x0, x1, x2, x3⟩ := cellsO H2.out.blk)
          | (go_at_call 18; (with_reducible refine (rtenant_calls s HX.out.1 _).mono ?_); rw [← HTB.out]; rintro e w3 ⟨rfl, hb⟩; have H3 := Aside0.mk (H2.out.then_ hb); clear hb x0 x1 x2 x3; obtain ⟨x0, x1, x2, x3⟩ := cellsO H3.out.blk))
        go_roundg k1
        case measure => omega
        case rel => exact ⟨j + 1, own, Q, st, sn, tk, many, more, by first | rfl | (simp; done) | (rw [wrap64_self (n := (j : Int) + 1) (by omega) (by omega)]; first | rfl | (simp; done)), rfl, rfl, ⟨by have := HJ.out; omega⟩, ⟨H3.out.m⟩, ⟨HP.out.idle⟩⟩
    · have hjm : ¬ (j : Int) < (m : Int) := by omega
      have HJ2 := Aside0.mk (show j ≤ 120 by have := HJ.out; have := HMM.out; omega)
      have HBI := Aside0.mk (And.intro HP.out.b1 (And.intro HP.out.b2 HP.out.b3))
      obtain ⟨nst, hnst⟩ : ∃ n : Nat, n = st.length := ⟨_, rfl⟩
      have HST := Aside0.mk (And.intro hnst (show nst ≤ 120 by have := HP.out.b6; have := HJ2.out; omega))
      clear hlt hnst
      go_wp2_with (first
        | (go_at_call 19; (with_reducible refine (HM.out.tenants HP.out.rep (by have := HST.out; omega) HST.out.1).mono ?_); rintro e w2 ⟨A2, c2, rfl, hF, hM, hb⟩; have HN2 := Aside0.mk hF; have HM2 := Aside0.mk hM; clear hF hM hb))
      generalize hwz : (st.map (·.f0)) = names at *
      have HNM := Aside0.mk hwz
      clear hwz
      go_loopg [8, 17, 153] (nst + 1) (fun kq v8 v17 v153 wr => ∃ (i : Nat) (tk2 : List S34) (all : Int), v153 = .int .i64 i ∧ v17 = .int .i64 all ∧ Aside0 (kq + i = nst + 1 ∧ i ≤ nst) ∧ Aside0 (HonM w wr N M room own Q u7 v8 sn tk2) ∧ Aside0 (Kd.F Kd.string wr (fun k => (Free wr M own k ∧ some k ≠ u7.ownBlock) ∧ some k ≠ v8.ownBlock) A2 nst names) ∧ Aside0 (HonT sn st tk2 all i))
      case atStart => exact ⟨0, tk, 0, rfl, rfl, ⟨by omega⟩, HM2, HN2, ⟨HonT.nil HP.out HJ2.out⟩⟩
      case round =>
        obtain ⟨i, tk2, all, rfl, rfl, HI, HM3, HN3, HT⟩ := hrel
        cases gk with
        | zero => have := HI.out; omega
        | succ k2 =>
        by_cases hi : i < nst
        · have hi0 : (0 : Int) ≤ (i : Int) := by omega
          have hi1 : (i : Int) < (nst : Int) := by omega
          have hi2 : (i : Int) + 1 ≤ 9223372036854775807 := by have := HST.out; omega
          obtain ⟨ad2, hA2, x0⟩ := at_names HN3.out i hi
          subst hA2
          obtain ⟨x, hx⟩ : ∃ x, names.getD i ⟨#[]⟩ = x := ⟨_, rfl⟩
          rw [hx] at x0
          obtain ⟨n1, hn1⟩ : ∃ n : Nat, n = (Q x).length := ⟨_, rfl⟩
          have HX := Aside0.mk (And.intro hn1 (And.intro hx (HM3.out.fits x)))
          have hne : ¬ n1 = 0 := by
            have h1 := (name_at (st := st) (i := i) (x := x) HP.out.rep (by have := HST.out; omega) (by rw [HNM.out]; exact hx)).2
            intro e; rw [e] at hn1; exact h1 (List.eq_nil_of_length_eq_zero hn1.symm)
          have hnz : ((n1 : Int) == 0) = false := by simpa using hne
          have hrm : decide (room < (n1 : Int)) = false := by have := HX.out; simp; omega
          have HAB := Aside0.mk (And.intro HT.out.all0 (show n1 ≤ 256 by have := HX.out; omega))
          clear hi hx hn1 hne
          go_wp2_with (first
            | (go_at_call 17; (with_reducible refine (HM3.out.all x).mono ?_); rintro e wa ⟨Bs, v, rfl, hxx, hR, hM, hb⟩; have HA := Aside0.mk (And.intro hxx (And.intro hR hb)); have HM4 := Aside0.mk hM; have HN4 := Aside0.mk (names_below HN3.out hb); clear hxx hR hM hb x0)
            | (go_at_call 16; (with_reducible refine (HM4.out.told HM3.out HA.out.2.2 HA.out.1 HA.out.2.1 (by have := HX.out; omega) HX.out.1).mono ?_); rintro e wb ⟨A3, c3, rfl, hc3, hF3, hM, hb⟩; have HF3 := Aside0.mk hF3; have HM5 := Aside0.mk hM; have HN5 := Aside0.mk (names_below HN4.out hb); clear hc3 hF3 hM hb)
            | ((with_reducible refine gate_builtin (b := .append) (xs := #[.tmp 177, .tmp 178]) rfl ?_); at_builtin; refine Kd.N_append_rows k34 (w0 := w) w.heap.size rfl (.tmp 177) (.tmp 178) 29 34 (.agg #[.int .i64 0, .slice none 0 0]) 32 rfl Try.underlying29 info34 rfl (by decide) (by omega) u8 tk2 (Q x) A3 n1 c3 _ _ rfl rfl HM5.out.took HF3.out (fun k hk => ⟨⟨hk.1, hk.2.1⟩, hk.2.2⟩) (fun k hk => ⟨(HM5.out.fresh hk).1, (HM5.out.fresh hk).2.1⟩) HM5.out.below HM5.out.below.size (by have h1 := HT.out.le; have h2 := HST.out; have h3 := HX.out; have h4 := HI.out; omega) ?_; intro v7 w7 ho hb hg hat; have H7 := Aside0.mk (HM5.out.took_ ho hg hat); have HN7 := Aside0.mk (names_took HM5.out HN5.out hg hat); clear ho hb hg hat))
          go_roundg k2
          case measure => omega
          case rel => exact ⟨i + 1, tk2 ++ Q x, all + (n1 : Int), by first | rfl | (simp; done) | (rw [wrap64_self (n := (i : Int) + 1) (by omega) (by omega)]; first | rfl | (simp; done)), by first | rfl | (rw [wrap64_self (by have := HAB.out; have := HI.out; have := HST.out; omega) (by have := HAB.out; have := HI.out; have := HST.out; omega)]), ⟨by have := HI.out; omega⟩, H7, HN7, ⟨by rw [HX.out.1]; exact HonT.next HP.out HT.out (by have := HST.out; have := HI.out; omega) (by rw [HNM.out]; exact HX.out.2.1) HX.out.2.2.2⟩⟩
        · have hi1 : ¬ (i : Int) < (nst : Int) := by omega
          have hall := HT.out.sum HP.out (by have := HST.out; have := HI.out; omega)
          have HTS := Aside0.mk HT.out.ts
          have HLE := Aside0.mk (show tk2.length ≤ 40000 by have := HT.out.le; have := HI.out; have := HST.out; omega)
          have HLS := Aside0.mk (show sn.length ≤ 40000 by have := HP.out.b4; have := HJ2.out; omega)
          subst hall
          obtain ⟨A8, c8, hv8, hc8, _⟩ := Kd.N_reads HM3.out.took
          obtain ⟨A7, c7, hv7, hc7, _⟩ := Kd.N_reads HM3.out.sent
          subst hv8
          subst hv7
          obtain ⟨n8, hn8⟩ : ∃ n : Nat, n = tk2.length := ⟨_, rfl⟩
          obtain ⟨n7, hn7⟩ : ∃ n : Nat, n = sn.length := ⟨_, rfl⟩
          rw [← hn8, ← hn7] at HM3
          have H87 := Aside0.mk (And.intro hn8 hn7)
          rw [← hn8, ← hn7]
          clear hi HN3 HT hc8 hc7 hn8 hn7
          obtain ⟨w9, hw9⟩ : ∃ w9 : World, w9 = wr := ⟨_, rfl⟩
          subst hw9
          go_wp2_with (fail)
          go_loopg [187] (n8 + 1) (fun kq v187 wr => ∃ p : Nat, v187 = .int .i64 p ∧ Aside0 (kq + p = n8 + 1 ∧ p ≤ n8) ∧ Aside0 (Below w9.heap.size w9 wr))
          case atStart => exact ⟨0, rfl, ⟨by omega⟩, ⟨Below.refl _ _⟩⟩
          case round =>
            obtain ⟨p, rfl, HPI, HB9⟩ := hrel
            cases gk with
            | zero => have := HPI.out; omega
            | succ k3 =>
            by_cases hp : p < n8
            · have hp0 : (0 : Int) ≤ (p : Int) := by omega
              have hp1 : (p : Int) < (n8 : Int) := by omega
              have hp2 : (p : Int) + 1 ≤ 9223372036854775807 := by have := H87.out; have := HLE.out; omega
              have hpl : p < tk2.length := by have := H87.out.1; omega
              obtain ⟨ad8, Ax, cx, hA8, x0, x1, lx, Cx⟩ := at_T34 (Kd.N_reads' (HM3.out.then_ HB9.out).took).2.2 (p : Int) hp0 (by omega)
              simp only [Int.toNat_natCast] at x0 x1
              have HIN := Aside0.mk (HTS.out (rd_T34 tk2 (p : Int)) (by
                have hx : rd_T34 tk2 (p : Int) = tk2.getD p z34 := rfl
                rw [hx, List.getD_eq_getElem?_getD, List.getElem?_eq_getElem hpl]; exact List.getElem_mem _))
              subst hA8
              generalize rd_T34 tk2 (p : Int) = x at *
              obtain ⟨nx, hnx⟩ : ∃ n : Nat, n = x.f1.length := ⟨_, rfl⟩
              rw [← hnx] at x1 lx Cx
              have HCX := Aside0.mk (And.intro Cx (And.intro lx hnx))
              clear hp hpl Cx lx hnx
              go_wp2_with (first
                | ((with_reducible refine gate_dst (N := 23) rfl ?_); refine box_event ?hg (N := 23) ?hd (cs := (leL 0 none 0 0).toArray) (t := 34) ?hr ?_; (case hd => rfl); (case hg => rfl); (case hr => first | (go_simp; done) | (go_simp; rfl)); intro B23 hX w1 hx1 hb1; have H1 := Aside0.mk (And.intro hx1 (And.intro hb1 (show wr.heap.size ≤ B23 by omega))); clear hX hx1 hb1)
                | ((with_reducible refine gate_ (.store 34 (.tmp 23) (.tmp 190)) rfl ?_); refine store_blk rfl 34 (.tmp 23) (.tmp 190) rfl B23 (leL 0 none 0 0) (leL x.f0 Ax nx cx) rfl rfl H1.out.1 rfl size34 (leL_one _ _ _ _) ?_; intro w2 ha hka hba; have hbb := hba wr H1.out.2.2 H1.out.2.1; have HB10 := Aside0.mk (HB9.out.trans (hbb.mono HB9.out.size)); have HX23 := Aside0.mk ha; have HC10 := Aside0.mk (Kd.C_below HCX.out.1 hbb); clear ha hka hba hbb x0 x1))
              rename World => wo
              go_loopg [24, 193] (n7 + 1) (fun kq v24 v193 wr => ∃ q : Nat, v193 = .int .i64 q ∧ v24 = .bool ((sn.take q).any (sameL x)) ∧ Aside0 (kq + q = n7 + 1 ∧ q ≤ n7) ∧ Aside0 (Below wo.heap.size wo wr))
              case atStart => exact ⟨0, rfl, rfl, ⟨by omega⟩, ⟨Below.refl _ _⟩⟩
              case round =>
                obtain ⟨q, rfl, rfl, HQI, HBQ⟩ := hrel
                cases gk with
                | zero => have := HQI.out; omega
                | succ k4 =>
                by_cases hq : q < n7
                · have hq0 : (0 : Int) ≤ (q : Int) := by omega
                  have hq1 : (q : Int) < (n7 : Int) := by omega
                  have hq2 : (q : Int) + 1 ≤ 9223372036854775807 := by have := H87.out; have := HLS.out; omega
                  have hql : q < sn.length := by have := H87.out.2; omega
                  have HTN := Aside0.mk (there_next (x := x) hql)
                  obtain ⟨ad7, Ay, cy, hA7, z0, z1, ly, Cy⟩ := at_T34 (Kd.N_reads' (HM3.out.then_ (HB10.out.trans (HBQ.out.mono HB10.out.size))).sent).2.2 (q : Int) hq0 (by omega)
                  simp only [Int.toNat_natCast] at z0 z1
                  subst hA7
                  generalize rd_T34 sn (q : Int) = y at *
                  obtain ⟨ny, hny⟩ : ∃ n : Nat, n = y.f1.length := ⟨_, rfl⟩
                  rw [← hny] at z1 ly Cy
                  have HCY := Aside0.mk (And.intro Cy (And.intro ly hny))
                  obtain ⟨bb, hbb0⟩ : ∃ b, (sn.take q).any (sameL x) = b := ⟨_, rfl⟩
                  rw [hbb0] at HTN
                  rw [hbb0]
                  clear hq hql Cy ly hny hbb0
                  cases bb with
                  | false =>
                    go_wp2_with (first
                      | ((with_reducible refine gate_dst (N := 26) rfl ?_); refine box_event ?hg (N := 26) ?hd (cs := (leL 0 none 0 0).toArray) (t := 34) ?hr ?_; (case hd => rfl); (case hg => rfl); (case hr => first | (go_simp; done) | (go_simp; rfl)); intro Y hX w1 hx1 hb1; have H1 := Aside0.mk (And.intro hx1 (And.intro hb1 (show wr.heap.size ≤ Y by omega))); clear hX hx1 hb1)
                      | ((with_reducible refine gate_ (.store 34 (.tmp 26) (.tmp 196)) rfl ?_); refine store_blk rfl 34 (.tmp 26) (.tmp 196) rfl Y (leL 0 none 0 0) (leL y.f0 Ay ny cy) rfl rfl H1.out.1 rfl size34 (leL_one _ _ _ _) ?_; intro w2 ha hka hba; have hbb := hba wr H1.out.2.2 H1.out.2.1; have HBW := Aside0.mk hbb; clear z0 z1; obtain ⟨y0, y1⟩ := cellsL (blk_below (blk_below HX23.out HBQ.out) HBW.out); obtain ⟨z0, z1⟩ := cellsL ha; have HCX2 := Aside0.mk (Kd.C_below HC10.out (HBQ.out.trans (HBW.out.mono HBQ.out.size))); have HCY2 := Aside0.mk (Kd.C_below HCY.out.1 HBW.out); clear ha hka hba hbb)
                      | (go_at_call 14; (with_reducible refine (same_len x y _ Ax cx Ay cy HCX.out.2.2 HCY.out.2.2 HCX2.out HCX.out.2.1 HCY2.out HCY.out.2.1).mono ?_); rintro e w5 ⟨rfl, hb5⟩; have HB5 := Aside0.mk (HBQ.out.trans ((HBW.out.trans (hb5.mono HBW.out.size)).mono HBQ.out.size)); clear hb5 y0 y1 z0 z1))
                    go_roundg k4
                    case measure => omega
                    case rel => exact ⟨q + 1, by first | rfl | (simp; done) | (rw [wrap64_self (n := (q : Int) + 1) (by omega) (by omega)]; first | rfl | (simp; done)), by rw [HTN.out, Bool.false_or], ⟨by have := HQI.out; omega⟩, HB5⟩
                  | true =>
                    go_wp2_with (first
                      | ((with_reducible refine gate_dst (N := 26) rfl ?_); refine box_event ?hg (N := 26) ?hd (cs := (leL 0 none 0 0).toArray) (t := 34) ?hr ?_; (case hd => rfl); (case hg => rfl); (case hr => first | (go_simp; done) | (go_simp; rfl)); intro Y hX w1 hx1 hb1; have H1 := Aside0.mk (And.intro hx1 (And.intro hb1 (show wr.heap.size ≤ Y by omega))); clear hX hx1 hb1)
                      | ((with_reducible refine gate_ (.store 34 (.tmp 26) (.tmp 196)) rfl ?_); refine store_blk rfl 34 (.tmp 26) (.tmp 196) rfl Y (leL 0 none 0 0) (leL y.f0 Ay ny cy) rfl rfl H1.out.1 rfl size34 (leL_one _ _ _ _) ?_; intro w2 ha hka hba; have hbb := hba wr H1.out.2.2 H1.out.2.1; have HBW := Aside0.mk hbb; clear z0 z1; obtain ⟨y0, y1⟩ := cellsL (blk_below (blk_below HX23.out HBQ.out) HBW.out); obtain ⟨z0, z1⟩ := cellsL ha; have HCX2 := Aside0.mk (Kd.C_below HC10.out (HBQ.out.trans (HBW.out.mono HBQ.out.size))); have HCY2 := Aside0.mk (Kd.C_below HCY.out.1 HBW.out); clear ha hka hba hbb))
                    go_roundg k4
                    case measure => omega
                    case rel => exact ⟨q + 1, by first | rfl | (simp; done) | (rw [wrap64_self (n := (q : Int) + 1) (by omega) (by omega)]; first | rfl | (simp; done)), by rw [HTN.out, Bool.true_or], ⟨by have := HQI.out; omega⟩, ⟨HBQ.out.trans (HBW.out.mono HBQ.out.size)⟩⟩
                · have hq1 : ¬ (q : Int) < (n7 : Int) := by omega
                  have hT : (sn.take q).any (sameL x) = true := by
                    rw [List.take_of_length_le (by have := H87.out.2; omega)]
                    exact there_all HIN.out
                  rw [hT]
                  clear hT hq
                  go_wp2_with (fail)
                  go_roundg k3
                  case measure => omega
                  case rel => exact ⟨p + 1, by first | rfl | (simp; done) | (rw [wrap64_self (n := (p : Int) + 1) (by omega) (by omega)]; first | rfl | (simp; done)), ⟨by have := HPI.out; omega⟩, ⟨HB10.out.trans (HBQ.out.mono HB10.out.size)⟩⟩
            · have hp1 : ¬ (p : Int) < (n8 : Int) := by omega
              have hm1 : many ≤ 36000 := by have := HBI.out; have := HJ2.out; omega
              have hm2 : -36000 ≤ many := by have := HBI.out; have := HJ2.out; omega
              have hm3 : 0 ≤ more := HBI.out.2.2.1
              have hm4 : more ≤ 120 := by have := HBI.out; have := HJ2.out; omega
              clear hp
              go_wp2_with (fail)
              go_ret
              exact ⟨by first | rfl | simp, (HM3.out.then_ HB9.out).below⟩

end Go.Proofs.Ytlnipfmgdkiboaa.N
