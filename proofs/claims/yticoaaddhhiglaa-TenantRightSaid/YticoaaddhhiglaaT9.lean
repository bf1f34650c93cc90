import Derived.Test.YticoaaddhhiglaaT8
/- The table of tenants by hand: Keys. -/
namespace Go.Proofs.Yticoaaddhhiglaa.T
open Go.RowKit Go.Proofs.Yticoaaddhhiglaa.Q Go.Proofs.YticoaaddhhiglaaW.PrintWords Go.Proofs.YticoaaddhhiglaaW.PrintLast Go.Proofs.YticoaaddhhiglaaW.PrintMore
set_option linter.unusedVariables false
set_option linter.unusedSimpArgs false
theorem info82 : (Try.prog.info? 82).map (fun i => (i.zero, i.size, i.bytes)) = some (some (.agg #[.string ⟨#[]⟩, .int .i64 0, .string ⟨#[]⟩]), 3, 40) := by kernel_rfl
/-- The keys of a name, as all keys tell them. -/
def ownT (st : St) (s : ByteArray) : List S82 := (((look st s).map (·.f1)).getD []).map (fun k => ⟨s, k⟩)
def keysT (st : St) : List S82 := (namesT st).flatMap (ownT st)
theorem TabG.keys2 {w w' : World} {D M : Nat} {st : St} (h : TabG w D M st) (hb : Below w.heap.size w w') (s : ByteArray) : ∃ (x : S39) (A1 : Option Addr) (c1 : Nat) (v8 : Value), (Instr.lookup 58 (.map (some M)) (.string s) false).run Try.prog w' = .ok (.agg (ten x (.slice A1 x.f1.length c1) v8).toArray) w' ∧ k23.C w A1 x.f1.length x.f1 ∧ x.f1.length ≤ c1 ∧ x.f1.length ≤ 4 ∧ ((look st s).map (·.f1)).getD [] = x.f1 := by
  obtain ⟨G, h1, h2⟩ := h.ex
  have hl1 := MapF.look (P := Try.prog) Try.underlying58 Try.underlying9 (zero39 w') (h1.move (hb.block M h1.lt)) s
  rcases h2.at_ s with ⟨hG, hl⟩ | ⟨v, x, hG, hl, A1, c1, A8, c8, rfl, e1, e2, e3, e4⟩
  · rw [hG] at hl1
    exact ⟨z39, none, 0, .slice none 0 0, hl1, C23_nil w, Nat.le_refl _, by simp [z39], by rw [hl]; rfl⟩
  · rw [hG] at hl1
    exact ⟨x, A1, c1, _, hl1, e1, e2, (look_fine h hl).keys, by rw [hl]; rfl⟩
theorem take_rd23 {l : List S23} {i : Nat} (h : i < l.length) : l.take (i + 1) = l.take i ++ [rd_T23 l (i : Int)] := by
  unfold rd_T23
  rw [List.take_add_one, List.getElem?_eq_getElem h, Int.toNat_natCast, List.getD_eq_getElem?_getD, List.getElem?_eq_getElem h]
  rfl
theorem own_few {w : World} {D M : Nat} {st : St} (h : TabG w D M st) (s : ByteArray) : (ownT st s).length ≤ 4 := by
  obtain ⟨x, A1, c1, v8, _, _, _, h4, _, he⟩ := h.keys s
  unfold ownT
  rw [List.length_map, he]
  exact h4
theorem flat_few {w : World} {D M : Nat} {st : St} (h : TabG w D M st) : ∀ l : List ByteArray, (l.flatMap (ownT st)).length ≤ 4 * l.length
  | [] => by simp
  | s :: r => by
    rw [List.flatMap_cons, List.length_append, List.length_cons]
    have := own_few h s
    have := flat_few h r
    omega
set_option maxHeartbeats 4000000 in
set_option maxRecDepth 100000 in
theorem keys_calls {w : World} {D M : Nat} {st : St} (h : TabG w D M st) : Calls Try.prog 28 #[.pointer (some ⟨D, 0, none⟩)] w fun e w' => ∃ A c, e = .returned (.slice A (keysT st).length c) ∧ k82.C w' A (keysT st).length (keysT st) ∧ (keysT st).length ≤ c ∧ Below w.heap.size w w' := by
  have HT := Aside0.mk h
  have HFEW := Aside0.mk h.few
  clear h
  go_enter Try.func28, Try.ntmps28
  go_wp2_with (go_at_call 21; (with_reducible refine (names_reads HT.out).mono ?_); rintro e w1 ⟨A1, cc, rfl, hC, hc, hR, hb⟩; have HC := Aside0.mk hC; have HCC := Aside0.mk hc; have HB1 := Aside0.mk hb; have HT1 := Aside0.mk (HT.out.below hb); clear hC hc hR hb)
  obtain ⟨m, hm⟩ : ∃ m : Nat, m = (namesT st).length := ⟨_, rfl⟩
  rw [← hm] at HFEW HC HCC ⊢
  have HM := Aside0.mk hm
  clear hm
  go_loopg [3, 11] (m + 1) (fun kq v3 v11 wr => ∃ (i : Nat), v11 = .int .i64 i ∧ Aside0 (kq + i = m + 1 ∧ i ≤ m) ∧ Aside0 (k82.R 82 wr w1.heap.size (fun _ => True) v3 (((namesT st).take i).flatMap (ownT st))) ∧ Aside0 (Below w1.heap.size w1 wr))
  case atStart => exact ⟨0, rfl, ⟨by omega⟩, ⟨Kd.R_nil _ _ _ _ _⟩, ⟨Below.refl _ _⟩⟩
  case round =>
    obtain ⟨i, rfl, HK, HO, HB⟩ := hrel
    cases gk with
    | zero => have := HK.out; omega
    | succ k1 =>
    by_cases hlt : i < m
    · have hi0 : (0 : Int) ≤ (i : Int) := by omega
      have hi1 : (i : Int) < (m : Int) := by omega
      obtain ⟨ad, hA, x0⟩ := Kd.at_string (Kd.C_below HC.out HB.out) (i : Int) hi0 hi1
      simp only [Int.toNat_natCast] at x0
      have HTK := Aside0.mk (take_rd (l := namesT st) (i := i) (by have := HM.out; omega))
      have HST := Aside0.mk (show ((namesT st).take (i + 1)).flatMap (ownT st) = ((namesT st).take i).flatMap (ownT st) ++ ownT st (rdOf ByteArray.empty (namesT st) (i : Int)) by rw [HTK.out, List.flatMap_append]; simp)
      have HLN := Aside0.mk (show (((namesT st).take i).flatMap (ownT st)).length ≤ 64 from Nat.le_trans (flat_few HT.out _) (by rw [List.length_take]; have := HFEW.out; omega))
      subst hA
      clear hlt HTK
      generalize rdOf ByteArray.empty (namesT st) (i : Int) = s at *
      generalize ((namesT st).take i).flatMap (ownT st) = OUT at *
      have HTW := Aside0.mk (HT1.out.below HB.out)
      have c1 := HTW.out.cells.2
      obtain ⟨x, B1, bc, v8, hlk, hC, hc, h4, hfk⟩ := HT1.out.keys2 HB.out s
      have HOW := Aside0.mk (show ownT st s = x.f1.map (fun k => ⟨s, k⟩) by unfold ownT; rw [hfk])
      have HKC := Aside0.mk hC
      have HKL := Aside0.mk (And.intro hc h4)
      obtain ⟨q, hq⟩ : ∃ q : Nat, q = x.f1.length := ⟨_, rfl⟩
      rw [← hq] at HKC HKL hlk
      have HQ := Aside0.mk hq
      have hfl := fld39
      unfold ten at hlk
      clear hC hc h4 hfk hq
      go_wp2_with (fail)
      clear hlk hfl c1 x0
      rename World => wo
      go_loopg [3, 7, 23] (q + 1) (fun kq v3 v7 v23 wr => ∃ (j : Nat), v23 = .int .i64 j ∧ Aside0 (kq + j = q + 1 ∧ j ≤ q) ∧ Aside0 (k82.R 82 wr w1.heap.size (fun _ => True) v3 (OUT ++ (x.f1.take j).map (fun k => ⟨s, k⟩))) ∧ Aside0 (Below w1.heap.size w1 wr))
      case atStart => exact ⟨0, rfl, ⟨by omega⟩, ⟨by simpa using HO.out⟩, HB⟩
      case round =>
        obtain ⟨j, rfl, HJ, HOJ, HBJ⟩ := hrel
        cases gk with
        | zero => have := HJ.out; omega
        | succ k2 =>
        by_cases hj : j < q
        · have hj0 : (0 : Int) ≤ (j : Int) := by omega
          have hj1 : (j : Int) < (q : Int) := by omega
          obtain ⟨ae, hAe, x0, x1⟩ := at_T23 (Kd.C_below HKC.out HBJ.out) (j : Int) hj0 hj1
          simp only [Int.toNat_natCast] at x0 x1
          have HTJ := Aside0.mk (show OUT ++ (x.f1.take (j + 1)).map (fun k => (⟨s, k⟩ : S82)) = (OUT ++ (x.f1.take j).map (fun k => ⟨s, k⟩)) ++ [⟨s, rd_T23 x.f1 (j : Int)⟩] by rw [take_rd23 (by have := HQ.out; omega), List.map_append, List.append_assoc]; rfl)
          have HLJ := Aside0.mk (show (OUT ++ (x.f1.take j).map (fun k => (⟨s, k⟩ : S82))).length ≤ 100 by rw [List.length_append, List.length_map, List.length_take]; have := HLN.out; have := HKL.out.2; have := HQ.out; omega)
          subst hAe
          clear hj
          generalize OUT ++ (x.f1.take j).map (fun k => (⟨s, k⟩ : S82)) = OJ at *
          generalize rd_T23 x.f1 (j : Int) = kk at *
          go_wp2_with (first
            | ((with_reducible refine gate_dst (N := 7) rfl ?_); refine box_event ?hg (N := 7) ?hd (cs := [Value.int .i64 0, .string ⟨#[]⟩].toArray) (t := 23) ?hr ?_; (case hd => rfl); (case hg => rfl); (case hr => first | (go_simp; done) | (go_simp; rfl)); intro F hF w2 h2 hb2; have H2 := Aside0.mk h2; have HB2 := Aside0.mk (below_step HBJ.out hb2); have HO2 := Aside0.mk (Kd.R_below HOJ.out hb2); have HFG := Aside0.mk (show w1.heap.size ≤ F by have := HBJ.out.size; omega); clear h2 hb2 hF x0 x1)
            | ((with_reducible refine gate_ (.store 23 (.tmp 7) (.tmp 26)) rfl ?_); refine store_blk rfl 23 (.tmp 7) (.tmp 26) rfl F [Value.int .i64 0, .string ⟨#[]⟩] [.int .i64 kk.f0, .string kk.f1] rfl rfl H2.out rfl size23 (by simp; exact ⟨rfl, rfl⟩) ?_; intro w3 h3 hk3 hb3; have HB3 := Aside0.mk (hb3 w1 HFG.out HB2.out); have HO3 := Aside0.mk (Kd.R_drop (Kd.R_move (Kd.R_types HO2.out H2.out (by decide)) (fun k hk => hk3 k hk.2))); obtain ⟨z0, z1⟩ := cells2 h3; clear h3 hk3 hb3)
            | ((with_reducible refine gate_builtin (b := .append) (xs := #[.tmp 27, .tmp 31]) rfl ?_); at_builtin; refine Kd.R_append k82 (w0 := w1) w1.heap.size rfl (.tmp 27) (.tmp 31) 61 82 (.agg #[.string ⟨#[]⟩, .int .i64 0, .string ⟨#[]⟩]) 40 rfl Try.underlying61 info82 rfl (by decide) (by omega) u3 OJ ⟨s, kk⟩ [.string s, .int .i64 kk.f0, .string kk.f1] (fun _ => True) (fun _ => False) rfl rfl ?aP (fun _ hk => hk.elim) ?aF ?aO ?aB ?aS ?aL ?_; (case aP => exact k82_mkM _ _ _ _); (case aB => exact (by repeat (first | (with_reducible first | exact HB3.out | apply below_alloc | apply pw_below_drewN | apply below_drew1) | exact HB3.out))); (case aF => exact (fun _ _ => trivial)); (case aO => exact (by (with_reducible repeat (first | apply Kd.R_alloc | apply Kd.R_drewN | apply Kd.R_drew)); exact HO3.out)); (case aS => exact (below_size (by repeat (first | (with_reducible first | exact HB3.out | apply below_alloc | apply pw_below_drewN | apply below_drew1) | exact HB3.out)))); (case aL => have := HLJ.out; omega); intro v6 w6 ho hb hg hat; have HO6 := Aside0.mk ho; have HB6 := Aside0.mk hb; clear ho hb hg hat))
          go_roundg k2
          case measure => omega
          case rel => exact ⟨j + 1, by first | rfl | (simp; done) | (rw [wrap_id (n := (j : Int) + 1) (by omega) (by have := HKL.out.2; omega)]; first | rfl | (simp; done)), ⟨by have := HJ.out; omega⟩, ⟨by rw [HTJ.out]; exact HO6.out⟩, HB6⟩
        · have hjq : j = q := by have := HJ.out; omega
          subst hjq
          have htk : x.f1.take j = x.f1 := List.take_of_length_le (by have := HQ.out; omega)
          rw [htk, ← HOW.out] at HOJ
          clear htk
          go_wp2_with (fail)
          go_roundg k1
          case measure => omega
          case rel => exact ⟨i + 1, by first | rfl | (simp; done) | (rw [wrap_id (n := (i : Int) + 1) (by omega) (by have := HFEW.out; omega)]; first | rfl | (simp; done)), ⟨by have := HK.out; omega⟩, ⟨by rw [HST.out]; exact HOJ.out⟩, HBJ⟩
    · have hi : i = m := by have := HK.out; omega
      subst hi
      have htk : (namesT st).take i = namesT st := List.take_of_length_le (by have := HM.out; omega)
      rw [htk] at HO
      have HKE : (namesT st).flatMap (ownT st) = keysT st := rfl
      rw [HKE] at HO
      obtain ⟨A9, c9, hv9⟩ := Kd.R_slice HO.out
      subst hv9
      have HR9 := Aside0.mk (Kd.R_reads' HO.out)
      clear HO htk
      go_wp2_with (fail)
      go_ret
      exact ⟨A9, c9, rfl, HR9.out.2.2, HR9.out.2.1, below_step HB1.out HB.out⟩
end Go.Proofs.Yticoaaddhhiglaa.T
