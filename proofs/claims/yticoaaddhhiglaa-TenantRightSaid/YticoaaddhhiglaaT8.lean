import Derived.Test.YticoaaddhhiglaaT7
/- The table of tenants by hand: Access, Keys. -/
namespace Go.Proofs.Yticoaaddhhiglaa.T
open Go.RowKit Go.Proofs.Yticoaaddhhiglaa.Q Go.Proofs.YticoaaddhhiglaaW.PrintWords Go.Proofs.YticoaaddhhiglaaW.PrintLast Go.Proofs.YticoaaddhhiglaaW.PrintMore
set_option linter.unusedVariables false
set_option linter.unusedSimpArgs false
def namesT (st : St) : List ByteArray := st.map (·.f0)
theorem names_reads {w : World} {D M : Nat} {st : St} (h : TabG w D M st) : Calls Try.prog 21 #[.pointer (some ⟨D, 0, none⟩)] w fun e w' => ∃ A c, e = .returned (.slice A (namesT st).length c) ∧ Kd.string.C w' A (namesT st).length (namesT st) ∧ (namesT st).length ≤ c ∧ Kd.string.R 9 w' w.heap.size (fun _ => True) (.slice A (namesT st).length c) (namesT st) ∧ Below w.heap.size w w' := by
  refine (names_calls h).mono ?_
  rintro e w' ⟨v, rfl, hv, hb⟩
  obtain ⟨A, c, rfl⟩ := Kd.R_slice hv
  have h2 := Kd.R_reads' hv
  exact ⟨A, c, rfl, h2.2.2, h2.2.1, Kd.R_mono hv (fun _ _ => trivial), hb⟩
theorem TabG.few {w : World} {D M : Nat} {st : St} (h : TabG w D M st) : (namesT st).length ≤ 16 := by
  obtain ⟨G, _, h2⟩ := h.ex
  unfold namesT
  rw [List.length_map]
  exact h2.few
theorem take_rd {l : List ByteArray} {i : Nat} (h : i < l.length) : l.take (i + 1) = l.take i ++ [rdOf ByteArray.empty l (i : Int)] := by
  unfold rdOf
  rw [List.take_add_one, List.getElem?_eq_getElem h, Int.toNat_natCast, List.getD_eq_getElem?_getD, List.getElem?_eq_getElem h]
  rfl
/-- All whose samples a tenant may read. -/
def accessT (st : St) (who : ByteArray) : List ByteArray := (namesT st).filter (fun o => readsT st who o)
set_option maxHeartbeats 4000000 in
set_option maxRecDepth 100000 in
theorem access_calls {w : World} {D M : Nat} {st : St} (h : TabG w D M st) (who : ByteArray) : Calls Try.prog 19 #[.pointer (some ⟨D, 0, none⟩), .string who] w fun e w' => ∃ A c, e = .returned (.slice A (accessT st who).length c) ∧ Kd.string.C w' A (accessT st who).length (accessT st who) ∧ (accessT st who).length ≤ c ∧ Below w.heap.size w w' := by
  have HT := Aside0.mk h
  have HFEW := Aside0.mk h.few
  clear h
  unfold accessT
  go_enter Try.func19, Try.ntmps19
  go_wp2_with (go_at_call 21; (with_reducible refine (names_reads HT.out).mono ?_); rintro e w1 ⟨A1, cc, rfl, hC, hc, hR, hb⟩; have HC := Aside0.mk hC; have HCC := Aside0.mk hc; have HB1 := Aside0.mk hb; have HT1 := Aside0.mk (HT.out.below hb); clear hC hc hR hb)
  obtain ⟨m, hm⟩ : ∃ m : Nat, m = (namesT st).length := ⟨_, rfl⟩
  rw [← hm] at HFEW HC HCC ⊢
  have HM := Aside0.mk hm
  clear hm
  go_loopg [5, 11] (m + 1) (fun kq v5 v11 wr => ∃ (i : Nat), v11 = .int .i64 i ∧ Aside0 (kq + i = m + 1 ∧ i ≤ m) ∧ Aside0 (Kd.string.R 9 wr w1.heap.size (fun _ => True) v5 (((namesT st).take i).filter (fun o => readsT st who o))) ∧ Aside0 (Below w1.heap.size w1 wr))
  case atStart => exact ⟨0, rfl, ⟨by omega⟩, ⟨Kd.R_nil _ _ _ _ _⟩, ⟨Below.refl _ _⟩⟩
  case round =>
    obtain ⟨i, rfl, HK, HO, HB⟩ := hrel
    cases gk with
    | zero => have := HK.out; omega
    | succ k1 =>
    by_cases hlt : i < m
    · have hi0 : (0 : Int) ≤ (i : Int) := by omega
      have hi1 : (i : Int) < (m : Int) := by omega
      obtain ⟨ad, hA, x0⟩ := Kd.at_string (Kd.C_below HC.out HB.out) (i : Int) hi0 hi1
      simp only [Int.toNat_natCast] at x0
      have HTK := Aside0.mk (take_rd (l := namesT st) (i := i) (by have := HM.out; omega))
      have HLN := Aside0.mk (show (((namesT st).take i).filter (fun o => readsT st who o)).length ≤ 16 from Nat.le_trans (List.length_filter_le _ _) (by rw [List.length_take]; have := HFEW.out; omega))
      have HRD := Aside0.mk (fun (W : World) (hw : Below w1.heap.size w1 W) => reads_calls (HT1.out.below hw) who (rdOf ByteArray.empty (namesT st) (i : Int)))
      subst hA
      clear hlt
      cases hb : readsT st who (rdOf ByteArray.empty (namesT st) (i : Int)) with
      | false =>
        have HST := Aside0.mk (show ((namesT st).take (i + 1)).filter (fun o => readsT st who o) = ((namesT st).take i).filter (fun o => readsT st who o) by rw [HTK.out, List.filter_append]; simp [hb])
        rw [hb] at HRD
        clear hb HTK
        generalize rdOf ByteArray.empty (namesT st) (i : Int) = s at *
        go_wp2_with (go_at_call 16; (with_reducible refine (HRD.out _ HB.out).mono ?_); rintro e w2 ⟨rfl, hb⟩; have HB2 := Aside0.mk (below_step HB.out hb); have HO2 := Aside0.mk (Kd.R_below HO.out hb); clear hb)
        go_roundg k1
        case measure => omega
        case rel => exact ⟨i + 1, by first | rfl | (simp; done) | (rw [wrap_id (n := (i : Int) + 1) (by omega) (by have := HFEW.out; omega)]; first | rfl | (simp; done)), ⟨by have := HK.out; omega⟩, ⟨by rw [HST.out]; exact HO2.out⟩, HB2⟩
      | true =>
        have HST := Aside0.mk (show ((namesT st).take (i + 1)).filter (fun o => readsT st who o) = ((namesT st).take i).filter (fun o => readsT st who o) ++ [rdOf ByteArray.empty (namesT st) (i : Int)] by rw [HTK.out, List.filter_append]; simp [hb])
        rw [hb] at HRD
        clear hb HTK
        generalize rdOf ByteArray.empty (namesT st) (i : Int) = s at *
        generalize ((namesT st).take i).filter (fun o => readsT st who o) = OUT at *
        go_wp2_with (first
          | (go_at_call 16; (with_reducible refine (HRD.out _ HB.out).mono ?_); rintro e w2 ⟨rfl, hb⟩; have HB2 := Aside0.mk (below_step HB.out hb); have HO2 := Aside0.mk (Kd.R_below HO.out hb); clear hb)
          | ((with_reducible refine gate_builtin (b := .append) (xs := #[.tmp 19, .tmp 21]) rfl ?_); at_builtin; refine Kd.R_append Kd.string (w0 := w1) w1.heap.size rfl (.tmp 19) (.tmp 21) 37 9 (.string ⟨#[]⟩) 16 rfl Try.underlying37 info9 rfl (by decide) (by omega) u5 OUT s [.string s] (fun _ => True) (fun _ => False) rfl rfl ?aP (fun _ hk => hk.elim) ?aF ?aO ?aB ?aS ?aL ?_; (case aP => exact rfl); (case aB => exact (by repeat (first | (with_reducible first | exact HB2.out | apply below_alloc | apply pw_below_drewN | apply below_drew1) | exact HB2.out))); (case aF => exact (fun _ _ => trivial)); (case aO => exact (by (with_reducible repeat (first | apply Kd.R_alloc | apply Kd.R_drewN | apply Kd.R_drew)); exact HO2.out)); (case aS => exact (below_size (by repeat (first | (with_reducible first | exact HB2.out | apply below_alloc | apply pw_below_drewN | apply below_drew1) | exact HB2.out)))); (case aL => have := HLN.out; omega); intro v6 w6 ho hb hg hat; have HO6 := Aside0.mk ho; have HB6 := Aside0.mk hb; clear ho hb hg hat))
        go_roundg k1
        case measure => omega
        case rel => exact ⟨i + 1, by first | rfl | (simp; done) | (rw [wrap_id (n := (i : Int) + 1) (by omega) (by have := HFEW.out; omega)]; first | rfl | (simp; done)), ⟨by have := HK.out; omega⟩, ⟨by rw [HST.out]; exact HO6.out⟩, HB6⟩
    · have hi : i = m := by have := HK.out; omega
      subst hi
      have htk : (namesT st).take i = namesT st := List.take_of_length_le (by have := HM.out; omega)
      rw [htk] at HO
      obtain ⟨A9, c9, hv9⟩ := Kd.R_slice HO.out
      subst hv9
      have HR9 := Aside0.mk (Kd.R_reads' HO.out)
      clear HO htk
      go_wp2_with (fail)
      go_ret
      exact ⟨A9, c9, rfl, HR9.out.2.2, HR9.out.2.1, below_step HB1.out HB.out⟩
end Go.Proofs.Yticoaaddhhiglaa.T
