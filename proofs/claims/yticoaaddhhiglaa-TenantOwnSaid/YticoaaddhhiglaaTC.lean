import Derived.Test.YticoaaddhhiglaaTB
import Derived.Test.YticoaaddhhiglaaS1
import Derived.Sort.OwnSorted
/- The table of tenants by hand: Names (mkT7.py, out of dk's List). -/
namespace Go.Proofs.Yticoaaddhhiglaa.T
open Go.RowKit Go.Proofs.Yticoaaddhhiglaa.Q Go.Proofs.YticoaaddhhiglaaW.PrintWords Go.Proofs.YticoaaddhhiglaaW.PrintLast Go.Proofs.YticoaaddhhiglaaW.PrintMore
open Go.Proofs.Yticoaaddhhiglaa
set_option linter.unusedVariables false
set_option linter.unusedSimpArgs false
theorem wpList_range_run {P : Program} (w : World) {ops : Array Oper} {rest : List Oper} {o : Oper} {a : Act} {Q : Exit → Act → World → Prop}
    (hg : o.guard = none) (m : Operand) (t : TypeId) (hop : o.op = Op.range t m) (M V : Value) (hm : a.eval m = M) (w1 : World)
    (hrun : (Instr.range t M).run P w = .ok V w1) (hK : wpList P ops Q rest (a.put o.dst V) w1) : wpList P ops Q (o :: rest) a w := by
  refine wpList_plain hg fun K' hK' => ?_
  unfold Oper.wp
  simp [execOp, hop, hm, hrun, Result.andThen]
  exact hK' _ _ hK
theorem wpList_next_run {P : Program} (w : World) {ops : Array Oper} {rest : List Oper} {o : Oper} {a : Act} {Q : Exit → Act → World → Prop}
    (hg : o.guard = none) (it : Operand) (hop : o.op = Op.next it false) (M V : Value) (hm : a.eval it = M) (w1 : World)
    (hrun : (Instr.next M false o.type).run P w = .ok V w1) (hK : wpList P ops Q rest (a.put o.dst V) w1) : wpList P ops Q (o :: rest) a w := by
  refine wpList_plain hg fun K' hK' => ?_
  unfold Oper.wp
  simp [execOp, hop, hm, hrun, Result.andThen]
  exact hK' _ _ hK
/-- The names in order. -/
theorem sorted_names {st : St} (hs : Sorted st) {ds : List ByteArray} (hn : ds.Nodup) (hm : ∀ s, s ∈ ds ↔ look st s ≠ none) :
    (ds.map (·.toList)).mergeSort (fun x y => decide (x ≤ y)) = st.map (fun f => f.f0.toList) := by
  have ht : ∀ a b : List UInt8, (decide (a ≤ b) || decide (b ≤ a)) = true := fun a b => by
    rcases List.le_total a b with h | h <;> simp [h]
  have tr : ∀ a b c : List UInt8, decide (a ≤ b) = true → decide (b ≤ c) = true → decide (a ≤ c) = true := fun a b c h1 h2 => by
    simp only [decide_eq_true_eq] at h1 h2 ⊢
    exact List.le_trans h1 h2
  have hinj : ∀ a b : ByteArray, a ≠ b → a.toList ≠ b.toList := fun a b h e => h (str_inj e)
  refine List.Perm.eq_of_pairwise (le := fun a b : List UInt8 => decide (a ≤ b) = true) (fun a b _ _ h1 h2 => ?_) (List.pairwise_mergeSort tr ht _) (List.pairwise_map.2 (hs.imp (fun {a b} h => ?_))) ((List.mergeSort_perm _ _).trans ((List.perm_ext_iff_of_nodup (hn.map _ hinj) (List.pairwise_map.2 (hs.imp (fun {a b} h => hinj a.f0 b.f0 h.ne)))).2 (fun l => ?_)))
  · simp only [decide_eq_true_eq] at h1 h2
    exact List.le_antisymm h1 h2
  · simp only [decide_eq_true_eq]
    exact List.le_of_lt h
  · simp only [List.mem_map]
    constructor
    · rintro ⟨s, hs', rfl⟩
      have h2 := (hm s).1 hs'
      cases hl : look st s with
      | none => exact absurd hl h2
      | some f => exact ⟨f, (look_mem hl).1, by rw [(look_mem hl).2]⟩
    · rintro ⟨f, hf, rfl⟩
      exact ⟨f.f0, (hm f.f0).2 (by rw [look_of_mem hs hf]; simp), rfl⟩
theorem names_len {st : St} (hs : Sorted st) {ds : List ByteArray} (hn : ds.Nodup) (hm : ∀ s, s ∈ ds ↔ look st s ≠ none) : ds.length = st.length := by
  have h := congrArg List.length (sorted_names hs hn hm)
  rw [List.length_mergeSort, List.length_map, List.length_map] at h
  exact h
theorem enc_str (s : ByteArray) : Go.Proofs.encStr s.toList = .string s := by
  unfold Go.Proofs.encStr
  rw [ByteArray.toList_eq]
theorem IterF.sub {w : World} {r M : Nat} {G : ByteArray → Option Value} {done : List ByteArray} {cnt : Nat} (h : IterF w r M G done cnt) {s : ByteArray} (hs : s ∈ done) : G s ≠ none := by
  obtain ⟨ma, clk, seen, c0, h1, h2, h3, h4, h5, h6, h7, h8, h9⟩ := h
  obtain ⟨x, hx, hk, _⟩ := (h8 s).1 hs
  obtain ⟨t, ht, hv⟩ := h3 x hx
  rw [hk] at ht
  injection ht with ht
  subst ht
  rw [hv]
  simp
theorem IterF.nodup {w : World} {r M : Nat} {G : ByteArray → Option Value} {done : List ByteArray} {cnt : Nat} (h : IterF w r M G done cnt) : done.Nodup := by
  obtain ⟨ma, clk, seen, c0, h1, h2, h3, h4, h5, h6, h7, h8, h9⟩ := h
  exact h7
set_option maxHeartbeats 1000000 in
set_option maxRecDepth 100000 in
theorem names_calls {w : World} {D M : Nat} {st : St} (h : TabG w D M st) : Calls Try.prog 21 #[.pointer (some ⟨D, 0, none⟩)] w fun e w' => ∃ v, e = .returned v ∧ Kd.string.R 9 w' w.heap.size (fun k => w.heap.size ≤ k) v (st.map (·.f0)) ∧ Below w.heap.size w w' := by
  have c0 := h.cells.2
  obtain ⟨G, hMF, hTR⟩ := h.ex
  have HTR := Aside0.mk hTR
  have HMF := Aside0.mk hMF
  obtain ⟨w1, hrg, ⟨cnt, hI⟩, hB1⟩ := MapF.range (P := Try.prog) Try.underlying58 hMF
  have HD := Aside0.mk h
  have HI1 := Aside0.mk hI
  have HB1 := Aside0.mk hB1
  clear h hI hB1 hTR hMF
  go_enter Try.func21, Try.ntmps21
  go_wp2_with (first
    | (go_at_call 38; (with_reducible refine (is_calls HD.out).mono ?_); rintro e w9 ⟨rfl, h9⟩; subst w9)
    | (at_range; refine wpList_range_run _ rfl (.tmp 11) 58 rfl _ _ rfl _ hrg ?_))
  simp only [Act.put, List.setIfInBounds_toArray, List.set_cons_zero, List.set_cons_succ]
  go_loopg [3] (cnt + 1) (fun kq v3 wr => ∃ ds : List ByteArray, Aside0 (kq + ds.length = cnt + 1) ∧ Aside0 (IterF wr w.heap.size M G ds cnt) ∧ Aside0 (Kd.string.R 9 wr w.heap.size (fun k => w.heap.size < k) v3 ds) ∧ Aside0 (Below w.heap.size w wr))
  case atStart => exact ⟨[], ⟨rfl⟩, HI1, ⟨Kd.R_nil _ _ _ _ _⟩, HB1⟩
  case round =>
    obtain ⟨ds, HK, HI, HR, HB⟩ := hrel
    cases gk with
    | zero => have h1 := HK.out; have h2 := HI.out.count; omega
    | succ k1 =>
    have hdl : ds.length ≤ 64 := by
      have h1 := len_le_of_sub (m := st.map (·.f0)) HI.out.nodup (fun s hs' => by
        have hh := HI.out.sub hs'
        cases hl : T.look st s with
        | none => exact absurd ((HTR.out.none_ s).2 hl) hh
        | some f => exact List.mem_map.2 ⟨f, look_mem hl⟩)
      rw [List.length_map] at h1
      have h2 := HTR.out.few
      omega
    have HL := Aside0.mk hdl
    clear hdl hrg c0
    rcases HI.out.next (P := Try.prog) 0 with ⟨hall, hnx⟩ | ⟨s, v, w2, hGs, hnd, hnx, hI2, hen, q1, q2, q3, q4, q5⟩
    · have hmem : ∀ s, s ∈ ds ↔ look st s ≠ none := fun s => by
        have h1 := HTR.out.none_ s
        constructor
        · intro hs e
          have := HI.out.sub hs
          rw [h1.2 e] at this
          exact this rfl
        · intro hs
          cases hq : G s with
          | none => exact absurd (h1.1 hq) hs
          | some v => exact hall s v hq
      have hsn := sorted_names HTR.out.sorted HI.out.nodup hmem
      have hln := names_len HTR.out.sorted HI.out.nodup hmem
      have hrow := Kd.own_of_R HR.out
      have HS := Aside0.mk (And.intro hsn hln)
      clear hsn hln hmem hall
      rcases hrow.2 with ⟨rfl, hnil⟩ | ⟨g, cap, cur, rfl, hbase, hb, b1, b2, b3, b4⟩
      · have HN := Aside0.mk hnil
        clear hrow hnil
        have hso : Calls Try.prog 42 #[.slice none 0 0] wr fun e w' => e = .returned (.tuple #[]) ∧ w' = wr := AnyM.slices_Sort_string_none Srt.sortL none 0 wr
        go_wp2_with (first
          | (at_next; refine wpList_next_run _ rfl (.tmp 12) rfl _ _ rfl _ hnx ?_)
          | (go_at_call 42; (with_reducible refine hso.mono ?_); rintro e w9 ⟨rfl, h9⟩; subst w9))
        go_ret
        refine ⟨_, rfl, ?_, HB.out⟩
        have h0 : st = [] := List.eq_nil_of_length_eq_zero (by have := HS.out.2; have := HN.out; omega)
        subst h0
        exact Kd.R_nil _ _ _ _ _
      · have hgl : g < wr.heap.size := heap_lt hb
        have henc : encs Value.string ds = (ds.map (·.toList)).map Go.Proofs.encStr := by
          unfold encs
          rw [List.map_map]
          exact List.map_congr_left (fun s _ => (enc_str s).symm)
        rw [Nat.mul_one, henc] at b4
        have hso : Calls Try.prog 42 #[.slice (some ⟨g, 0, none⟩) ds.length cap] wr fun e w' => e = .returned (.tuple #[]) ∧ ∃ n os, w' = Go.Sort.grow (Go.Sort.putRow Go.Proofs.encStr (Go.Sort.ahead wr n) g 0 ((ds.map (·.toList)).mergeSort fun x y => decide (x ≤ y)).toArray) os := by
          have := AnyM.slices_Sort_string Srt.sortL g 0 cap (ds.map (·.toList)) wr (Go.holds_of_block hb (by rw [List.length_map]; exact b4)) hgl (by rw [List.length_map]; have := HL.out; omega)
          rw [List.length_map] at this
          exact this
        have HO := Aside0.mk (And.intro hbase (And.intro hb (And.intro b1 (And.intro b2 (And.intro b3 hgl)))))
        clear hrow hbase hb b1 b2 b3 b4 henc hgl
        go_wp2_with (first
          | (at_next; refine wpList_next_run _ rfl (.tmp 12) rfl _ _ rfl _ hnx ?_)
          | (go_at_call 42; (with_reducible refine hso.mono ?_); rintro e w9 ⟨rfl, n9, os9, h9⟩; have H9 := Aside0.mk h9; clear h9))
        go_ret
        obtain ⟨hbase, hb, b1, b2, b3, hgl⟩ := HO.out
        obtain ⟨hsn, hln⟩ := HS.out
        have hb' := HB.out
        have h9 := H9.out
        rw [hsn] at h9
        have hgr : wr.grownBy w9 (some g) := by rw [h9]; exact Go.grownBy_sorted _
        have hown : w9.ownsRow w.heap.size 9 1 (.slice (some ⟨g, 0, none⟩) ds.length cap) ds.length ((st.map (fun f => f.f0.toList)).map Go.Proofs.encStr) := by
          rw [h9]
          have := Go.ownsRow_sorted (w := wr) (base := w.heap.size) (g := g) (cap := cap) (n := n9) (e := 9) (os := os9) (cur := cur) (ss := ds.map (·.toList)) (ts := st.map (fun f => f.f0.toList)) (by rw [List.length_map, List.length_map]; exact hln.symm) hbase hb (by rw [List.length_map]; exact b1) b2 b3
          rw [List.length_map] at this
          exact this
        refine ⟨_, rfl, Kd.R_of_own ?_ (fun k hk => ?_), Chg.onto hb' (Nat.le_refl _) (Chg.of_grown hgr) (fun k hk => ?_)⟩
        · have he : encs Value.string (st.map (·.f0)) = (st.map (fun f => f.f0.toList)).map Go.Proofs.encStr := by
            unfold encs
            rw [List.map_map, List.map_map]
            exact List.map_congr_left (fun f _ => (enc_str f.f0).symm)
          rw [he, List.length_map, ← hln]
          exact hown
        · have : g = k := by simpa [Value.ownBlock] using hk
          omega
        · injection hk with hk
          omega
    · have hr2 := Aside0.mk (Kd.R_move HR.out (fun k (hk : w.heap.size < k) => q5 k (by omega)))
      have hb2 : Aside0 (Below w.heap.size w w2) := ⟨by
        have hb := HB.out
        exact ⟨q1.trans hb.os, q2.trans hb.tape, q3.trans hb.output, by rw [q4]; exact hb.size, fun k hk => (q5 k (by omega)).trans (hb.block k hk)⟩⟩
      have HI2 := Aside0.mk hI2
      have HZ := Aside0.mk (show w.heap.size < w2.heap.size from hI2.lt)
      clear q1 q2 q3 q4 q5 hI2 hnd hGs
      go_wp2_with (first
        | (at_next; refine wpList_next_run _ rfl (.tmp 12) rfl _ _ rfl _ hnx ?_)
        | ((with_reducible refine gate_builtin (b := .append) (xs := #[.tmp 17, .tmp 19]) rfl ?_); at_builtin; refine Kd.R_append Kd.string (w0 := w) w.heap.size rfl (.tmp 17) (.tmp 19) 37 9 (.string ⟨#[]⟩) 16 rfl Try.underlying37 info9 rfl (by decide) (by omega) u3 ds s [.string s] (fun k => w.heap.size < k) (fun _ => False) rfl rfl ?aP (fun _ h => h.elim) ?aF ?aO ?aB ?aS ?aL ?_; (case aP => exact rfl); (case aB => exact hb2.out); (case aF => exact (fun k hk => Nat.lt_of_lt_of_le HZ.out hk)); (case aO => exact hr2.out); (case aS => exact hb2.out.size); (case aL => have := HL.out; omega); intro v5 w5 ho5 hb5 hg5 hat5))
      have hne : ∀ k, u3.ownBlock = some k → k ≠ w.heap.size := fun k hk e => by have := HR.out.1 k hk; omega
      have hI5 : IterF w5 w.heap.size M G (ds ++ [s]) cnt := HI2.out.move (hg5.block M HI2.out.map.lt (fun e => by have := HR.out.1 M e.symm; have := HMF.out.lt; omega)) (hg5.block _ HI2.out.lt (fun e => by have := HR.out.1 _ e.symm; omega))
      go_roundg k1
      case measure => omega
      case rel => exact ⟨ds ++ [s], ⟨by have := HK.out; rw [List.length_append]; simp; omega⟩, ⟨hI5⟩, ⟨ho5⟩, ⟨hb5⟩⟩
end Go.Proofs.Yticoaaddhhiglaa.T
/- The table of tenants by hand: Access, Keys. -/
namespace Go.Proofs.Yticoaaddhhiglaa.T
open Go.RowKit Go.Proofs.Yticoaaddhhiglaa.Q Go.Proofs.YticoaaddhhiglaaW.PrintWords Go.Proofs.YticoaaddhhiglaaW.PrintLast Go.Proofs.YticoaaddhhiglaaW.PrintMore
set_option linter.unusedVariables false
set_option linter.unusedSimpArgs false
def namesT (st : St) : List ByteArray := st.map (·.f0)
theorem names_reads {w : World} {D M : Nat} {st : St} (h : TabG w D M st) : Calls Try.prog 21 #[.pointer (some ⟨D, 0, none⟩)] w fun e w' => ∃ A c, e = .returned (.slice A (namesT st).length c) ∧ Kd.string.C w' A (namesT st).length (namesT st) ∧ (namesT st).length ≤ c ∧ Kd.string.R 9 w' w.heap.size (fun _ => True) (.slice A (namesT st).length c) (namesT st) ∧ Below w.heap.size w w' := by
  refine (names_calls h).mono ?_
  rintro e w' ⟨v, rfl, hv, hb⟩
  obtain ⟨A, c, rfl⟩ := Kd.R_slice hv
  have h2 := Kd.R_reads' hv
  exact ⟨A, c, rfl, h2.2.2, h2.2.1, Kd.R_mono hv (fun _ _ => trivial), hb⟩
theorem TabG.few {w : World} {D M : Nat} {st : St} (h : TabG w D M st) : (namesT st).length ≤ 16 := by
  obtain ⟨G, _, h2⟩ := h.ex
  unfold namesT
  rw [List.length_map]
  exact h2.few
theorem take_rd {l : List ByteArray} {i : Nat} (h : i < l.length) : l.take (i + 1) = l.take i ++ [rdOf ByteArray.empty l (i : Int)] := by
  unfold rdOf
  rw [List.take_add_one, List.getElem?_eq_getElem h, Int.toNat_natCast, List.getD_eq_getElem?_getD, List.getElem?_eq_getElem h]
  rfl
/-- All whose samples a tenant may read. -/
def accessT (st : St) (who : ByteArray) : List ByteArray := (namesT st).filter (fun o => readsT st who o)
set_option maxHeartbeats 4000000 in
set_option maxRecDepth 100000 in
theorem access_calls {w : World} {D M : Nat} {st : St} (h : TabG w D M st) (who : ByteArray) : Calls Try.prog 19 #[.pointer (some ⟨D, 0, none⟩), .string who] w fun e w' => ∃ A c, e = .returned (.slice A (accessT st who).length c) ∧ Kd.string.C w' A (accessT st who).length (accessT st who) ∧ (accessT st who).length ≤ c ∧ Below w.heap.size w w' := by
  have HT := Aside0.mk h
  have HFEW := Aside0.mk h.few
  clear h
  unfold accessT
  go_enter Try.func19, Try.ntmps19
  go_wp2_with (go_at_call 21; (with_reducible refine (names_reads HT.out).mono ?_); rintro e w1 ⟨A1, cc, rfl, hC, hc, hR, hb⟩; have HC := Aside0.mk hC; have HCC := Aside0.mk hc; have HB1 := Aside0.mk hb; have HT1 := Aside0.mk (HT.out.below hb); clear hC hc hR hb)
  obtain ⟨m, hm⟩ : ∃ m : Nat, m = (namesT st).length := ⟨_, rfl⟩
  rw [← hm] at HFEW HC HCC ⊢
  have HM := Aside0.mk hm
  clear hm
  go_loopg [5, 11] (m + 1) (fun kq v5 v11 wr => ∃ (i : Nat), v11 = .int .i64 i ∧ Aside0 (kq + i = m + 1 ∧ i ≤ m) ∧ Aside0 (Kd.string.R 9 wr w1.heap.size (fun _ => True) v5 (((namesT st).take i).filter (fun o => readsT st who o))) ∧ Aside0 (Below w1.heap.size w1 wr))
  case atStart => exact ⟨0, rfl, ⟨by omega⟩, ⟨Kd.R_nil _ _ _ _ _⟩, ⟨Below.refl _ _⟩⟩
  case round =>
    obtain ⟨i, rfl, HK, HO, HB⟩ := hrel
    cases gk with
    | zero => have := HK.out; omega
    | succ k1 =>
    by_cases hlt : i < m
    · have hi0 : (0 : Int) ≤ (i : Int) := by omega
      have hi1 : (i : Int) < (m : Int) := by omega
      obtain ⟨ad, hA, x0⟩ := Kd.at_string (Kd.C_below HC.out HB.out) (i : Int) hi0 hi1
      simp only [Int.toNat_natCast] at x0
      have HTK := Aside0.mk (take_rd (l := namesT st) (i := i) (by have := HM.out; omega))
      have HLN := Aside0.mk (show (((namesT st).take i).filter (fun o => readsT st who o)).length ≤ 16 from Nat.le_trans (List.length_filter_le _ _) (by rw [List.length_take]; have := HFEW.out; omega))
      have HRD := Aside0.mk (fun (W : World) (hw : Below w1.heap.size w1 W) => reads_calls (HT1.out.below hw) who (rdOf ByteArray.empty (namesT st) (i : Int)))
      subst hA
      clear hlt
      cases hb : readsT st who (rdOf ByteArray.empty (namesT st) (i : Int)) with
      | false =>
        have HST := Aside0.mk (show ((namesT st).take (i + 1)).filter (fun o => readsT st who o) = ((namesT st).take i).filter (fun o => readsT st who o) by rw [HTK.out, List.filter_append]; simp [hb])
        rw [hb] at HRD
        clear hb HTK
        generalize rdOf ByteArray.empty (namesT st) (i : Int) = s at *
        go_wp2_with (go_at_call 16; (with_reducible refine (HRD.out _ HB.out).mono ?_); rintro e w2 ⟨rfl, hb⟩; have HB2 := Aside0.mk (below_step HB.out hb); have HO2 := Aside0.mk (Kd.R_below HO.out hb); clear hb)
        go_roundg k1
        case measure => omega
        case rel => exact ⟨i + 1, by first | rfl | (simp; done) | (rw [wrap_id (n := (i : Int) + 1) (by omega) (by have := HFEW.out; omega)]; first | rfl | (simp; done)), ⟨by have := HK.out; omega⟩, ⟨by rw [HST.out]; exact HO2.out⟩, HB2⟩
      | true =>
        have HST := Aside0.mk (show ((namesT st).take (i + 1)).filter (fun o => readsT st who o) = ((namesT st).take i).filter (fun o => readsT st who o) ++ [rdOf ByteArray.empty (namesT st) (i : Int)] by rw [HTK.out, List.filter_append]; simp [hb])
        rw [hb] at HRD
        clear hb HTK
        generalize rdOf ByteArray.empty (namesT st) (i : Int) = s at *
        generalize ((namesT st).take i).filter (fun o => readsT st who o) = OUT at *
        go_wp2_with (first
          | (go_at_call 16; (with_reducible refine (HRD.out _ HB.out).mono ?_); rintro e w2 ⟨rfl, hb⟩; have HB2 := Aside0.mk (below_step HB.out hb); have HO2 := Aside0.mk (Kd.R_below HO.out hb); clear hb)
          | ((with_reducible refine gate_builtin (b := .append) (xs := #[.tmp 19, .tmp 21]) rfl ?_); at_builtin; refine Kd.R_append Kd.string (w0 := w1) w1.heap.size rfl (.tmp 19) (.tmp 21) 37 9 (.string ⟨#[]⟩) 16 rfl Try.underlying37 info9 rfl (by decide) (by omega) u5 OUT s [.string s] (fun _ => True) (fun _ => False) rfl rfl ?aP (fun _ hk => hk.elim) ?aF ?aO ?aB ?aS ?aL ?_; (case aP => exact rfl); (case aB => exact (by repeat (first | (with_reducible first | exact HB2.out | apply below_alloc | apply pw_below_drewN | apply below_drew1) | exact HB2.out))); (case aF => exact (fun _ _ => trivial)); (case aO => exact (by (with_reducible repeat (first | apply Kd.R_alloc | apply Kd.R_drewN | apply Kd.R_drew)); exact HO2.out)); (case aS => exact (below_size (by repeat (first | (with_reducible first | exact HB2.out | apply below_alloc | apply pw_below_drewN | apply below_drew1) | exact HB2.out)))); (case aL => have := HLN.out; omega); intro v6 w6 ho hb hg hat; have HO6 := Aside0.mk ho; have HB6 := Aside0.mk hb; clear ho hb hg hat))
        go_roundg k1
        case measure => omega
        case rel => exact ⟨i + 1, by first | rfl | (simp; done) | (rw [wrap_id (n := (i : Int) + 1) (by omega) (by have := HFEW.out; omega)]; first | rfl | (simp; done)), ⟨by have := HK.out; omega⟩, ⟨by rw [HST.out]; exact HO6.out⟩, HB6⟩
    · have hi : i = m := by have := HK.out; omega
      subst hi
      have htk : (namesT st).take i = namesT st := List.take_of_length_le (by have := HM.out; omega)
      rw [htk] at HO
      obtain ⟨A9, c9, hv9⟩ := Kd.R_slice HO.out
      subst hv9
      have HR9 := Aside0.mk (Kd.R_reads' HO.out)
      clear HO htk
      go_wp2_with (fail)
      go_ret
      exact ⟨A9, c9, rfl, HR9.out.2.2, HR9.out.2.1, below_step HB1.out HB.out⟩
end Go.Proofs.Yticoaaddhhiglaa.T
/- The table of tenants by hand: Keys. -/
namespace Go.Proofs.Yticoaaddhhiglaa.T
open Go.RowKit Go.Proofs.Yticoaaddhhiglaa.Q Go.Proofs.YticoaaddhhiglaaW.PrintWords Go.Proofs.YticoaaddhhiglaaW.PrintLast Go.Proofs.YticoaaddhhiglaaW.PrintMore
set_option linter.unusedVariables false
set_option linter.unusedSimpArgs false
theorem info82 : (Try.prog.info? 82).map (fun i => (i.zero, i.size, i.bytes)) = some (some (.agg #[.string ⟨#[]⟩, .int .i64 0, .string ⟨#[]⟩]), 3, 40) := by kernel_rfl
/-- The keys of a name, as all keys tell them. -/
def ownT (st : St) (s : ByteArray) : List S82 := (((look st s).map (·.f1)).getD []).map (fun k => ⟨s, k⟩)
def keysT (st : St) : List S82 := (namesT st).flatMap (ownT st)
theorem TabG.keys2 {w w' : World} {D M : Nat} {st : St} (h : TabG w D M st) (hb : Below w.heap.size w w') (s : ByteArray) : ∃ (x : S39) (A1 : Option Addr) (c1 : Nat) (v8 : Value), (Instr.lookup 58 (.map (some M)) (.string s) false).run Try.prog w' = .ok (.agg (ten x (.slice A1 x.f1.length c1) v8).toArray) w' ∧ k23.C w A1 x.f1.length x.f1 ∧ x.f1.length ≤ c1 ∧ x.f1.length ≤ 4 ∧ ((look st s).map (·.f1)).getD [] = x.f1 := by
  obtain ⟨G, h1, h2⟩ := h.ex
  have hl1 := MapF.look (P := Try.prog) Try.underlying58 Try.underlying9 (zero39 w') (h1.move (hb.block M h1.lt)) s
  rcases h2.at_ s with ⟨hG, hl⟩ | ⟨v, x, hG, hl, A1, c1, A8, c8, rfl, e1, e2, e3, e4⟩
  · rw [hG] at hl1
    exact ⟨z39, none, 0, .slice none 0 0, hl1, C23_nil w, Nat.le_refl _, by simp [z39], by rw [hl]; rfl⟩
  · rw [hG] at hl1
    exact ⟨x, A1, c1, _, hl1, e1, e2, (look_fine h hl).keys, by rw [hl]; rfl⟩
theorem take_rd23 {l : List S23} {i : Nat} (h : i < l.length) : l.take (i + 1) = l.take i ++ [rd_T23 l (i : Int)] := by
  unfold rd_T23
  rw [List.take_add_one, List.getElem?_eq_getElem h, Int.toNat_natCast, List.getD_eq_getElem?_getD, List.getElem?_eq_getElem h]
  rfl
theorem own_few {w : World} {D M : Nat} {st : St} (h : TabG w D M st) (s : ByteArray) : (ownT st s).length ≤ 4 := by
  obtain ⟨x, A1, c1, v8, _, _, _, h4, _, he⟩ := h.keys s
  unfold ownT
  rw [List.length_map, he]
  exact h4
theorem flat_few {w : World} {D M : Nat} {st : St} (h : TabG w D M st) : ∀ l : List ByteArray, (l.flatMap (ownT st)).length ≤ 4 * l.length
  | [] => by simp
  | s :: r => by
    rw [List.flatMap_cons, List.length_append, List.length_cons]
    have := own_few h s
    have := flat_few h r
    omega
set_option maxHeartbeats 4000000 in
set_option maxRecDepth 100000 in
theorem keys_calls {w : World} {D M : Nat} {st : St} (h : TabG w D M st) : Calls Try.prog 28 #[.pointer (some ⟨D, 0, none⟩)] w fun e w' => ∃ A c, e = .returned (.slice A (keysT st).length c) ∧ k82.C w' A (keysT st).length (keysT st) ∧ (keysT st).length ≤ c ∧ Below w.heap.size w w' := by
  have HT := Aside0.mk h
  have HFEW := Aside0.mk h.few
  clear h
  go_enter Try.func28, Try.ntmps28
  go_wp2_with (go_at_call 21; (with_reducible refine (names_reads HT.out).mono ?_); rintro e w1 ⟨A1, cc, rfl, hC, hc, hR, hb⟩; have HC := Aside0.mk hC; have HCC := Aside0.mk hc; have HB1 := Aside0.mk hb; have HT1 := Aside0.mk (HT.out.below hb); clear hC hc hR hb)
  obtain ⟨m, hm⟩ : ∃ m : Nat, m = (namesT st).length := ⟨_, rfl⟩
  rw [← hm] at HFEW HC HCC ⊢
  have HM := Aside0.mk hm
  clear hm
  go_loopg [3, 11] (m + 1) (fun kq v3 v11 wr => ∃ (i : Nat), v11 = .int .i64 i ∧ Aside0 (kq + i = m + 1 ∧ i ≤ m) ∧ Aside0 (k82.R 82 wr w1.heap.size (fun _ => True) v3 (((namesT st).take i).flatMap (ownT st))) ∧ Aside0 (Below w1.heap.size w1 wr))
  case atStart => exact ⟨0, rfl, ⟨by omega⟩, ⟨Kd.R_nil _ _ _ _ _⟩, ⟨Below.refl _ _⟩⟩
  case round =>
    obtain ⟨i, rfl, HK, HO, HB⟩ := hrel
    cases gk with
    | zero => have := HK.out; omega
    | succ k1 =>
    by_cases hlt : i < m
    · have hi0 : (0 : Int) ≤ (i : Int) := by omega
      have hi1 : (i : Int) < (m : Int) := by omega
      obtain ⟨ad, hA, x0⟩ := Kd.at_string (Kd.C_below HC.out HB.out) (i : Int) hi0 hi1
      simp only [Int.toNat_natCast] at x0
      have HTK := Aside0.mk (take_rd (l := namesT st) (i := i) (by have := HM.out; omega))
      have HST := Aside0.mk (show ((namesT st).take (i + 1)).flatMap (ownT st) = ((namesT st).take i).flatMap (ownT st) ++ ownT st (rdOf ByteArray.empty (namesT st) (i : Int)) by rw [HTK.out, List.flatMap_append]; simp)
      have HLN := Aside0.mk (show (((namesT st).take i).flatMap (ownT st)).length ≤ 64 from Nat.le_trans (flat_few HT.out _) (by rw [List.length_take]; have := HFEW.out; omega))
      subst hA
      clear hlt HTK
      generalize rdOf ByteArray.empty (namesT st) (i : Int) = s at *
      generalize ((namesT st).take i).flatMap (ownT st) = OUT at *
      have HTW := Aside0.mk (HT1.out.below HB.out)
      have c1 := HTW.out.cells.2
      obtain ⟨x, B1, bc, v8, hlk, hC, hc, h4, hfk⟩ := HT1.out.keys2 HB.out s
      have HOW := Aside0.mk (show ownT st s = x.f1.map (fun k => ⟨s, k⟩) by unfold ownT; rw [hfk])
      have HKC := Aside0.mk hC
      have HKL := Aside0.mk (And.intro hc h4)
      obtain ⟨q, hq⟩ : ∃ q : Nat, q = x.f1.length := ⟨_, rfl⟩
      rw [← hq] at HKC HKL hlk
      have HQ := Aside0.mk hq
      have hfl := fld39
      unfold ten at hlk
      clear hC hc h4 hfk hq
      go_wp2_with (fail)
      clear hlk hfl c1 x0
      rename World => wo
      go_loopg [3, 7, 23] (q + 1) (fun kq v3 v7 v23 wr => ∃ (j : Nat), v23 = .int .i64 j ∧ Aside0 (kq + j = q + 1 ∧ j ≤ q) ∧ Aside0 (k82.R 82 wr w1.heap.size (fun _ => True) v3 (OUT ++ (x.f1.take j).map (fun k => ⟨s, k⟩))) ∧ Aside0 (Below w1.heap.size w1 wr))
      case atStart => exact ⟨0, rfl, ⟨by omega⟩, ⟨by simpa using HO.out⟩, HB⟩
      case round =>
        obtain ⟨j, rfl, HJ, HOJ, HBJ⟩ := hrel
        cases gk with
        | zero => have := HJ.out; omega
        | succ k2 =>
        by_cases hj : j < q
        · have hj0 : (0 : Int) ≤ (j : Int) := by omega
          have hj1 : (j : Int) < (q : Int) := by omega
          obtain ⟨ae, hAe, x0, x1⟩ := at_T23 (Kd.C_below HKC.out HBJ.out) (j : Int) hj0 hj1
          simp only [Int.toNat_natCast] at x0 x1
          have HTJ := Aside0.mk (show OUT ++ (x.f1.take (j + 1)).map (fun k => (⟨s, k⟩ : S82)) = (OUT ++ (x.f1.take j).map (fun k => ⟨s, k⟩)) ++ [⟨s, rd_T23 x.f1 (j : Int)⟩] by rw [take_rd23 (by have := HQ.out; omega), List.map_append, List.append_assoc]; rfl)
          have HLJ := Aside0.mk (show (OUT ++ (x.f1.take j).map (fun k => (⟨s, k⟩ : S82))).length ≤ 100 by rw [List.length_append, List.length_map, List.length_take]; have := HLN.out; have := HKL.out.2; have := HQ.out; omega)
          subst hAe
          clear hj
          generalize OUT ++ (x.f1.take j).map (fun k => (⟨s, k⟩ : S82)) = OJ at *
          generalize rd_T23 x.f1 (j : Int) = kk at *
          go_wp2_with (first
            | ((with_reducible refine gate_dst (N := 7) rfl ?_); refine box_event ?hg (N := 7) ?hd (cs := [Value.int .i64 0, .string ⟨#[]⟩].toArray) (t := 23) ?hr ?_; (case hd => rfl); (case hg => rfl); (case hr => first | (go_simp; done) | (go_simp; rfl)); intro F hF w2 h2 hb2; have H2 := Aside0.mk h2; have HB2 := Aside0.mk (below_step HBJ.out hb2); have HO2 := Aside0.mk (Kd.R_below HOJ.out hb2); have HFG := Aside0.mk (show w1.heap.size ≤ F by have := HBJ.out.size; omega); clear h2 hb2 hF x0 x1)
            | ((with_reducible refine gate_ (.store 23 (.tmp 7) (.tmp 26)) rfl ?_); refine store_blk rfl 23 (.tmp 7) (.tmp 26) rfl F [Value.int .i64 0, .string ⟨#[]⟩] [.int .i64 kk.f0, .string kk.f1] rfl rfl H2.out rfl size23 (by simp; exact ⟨rfl, rfl⟩) ?_; intro w3 h3 hk3 hb3; have HB3 := Aside0.mk (hb3 w1 HFG.out HB2.out); have HO3 := Aside0.mk (Kd.R_drop (Kd.R_move (Kd.R_types HO2.out H2.out (by decide)) (fun k hk => hk3 k hk.2))); obtain ⟨z0, z1⟩ := cells2 h3; clear h3 hk3 hb3)
            | ((with_reducible refine gate_builtin (b := .append) (xs := #[.tmp 27, .tmp 31]) rfl ?_); at_builtin; refine Kd.R_append k82 (w0 := w1) w1.heap.size rfl (.tmp 27) (.tmp 31) 61 82 (.agg #[.string ⟨#[]⟩, .int .i64 0, .string ⟨#[]⟩]) 40 rfl Try.underlying61 info82 rfl (by decide) (by omega) u3 OJ ⟨s, kk⟩ [.string s, .int .i64 kk.f0, .string kk.f1] (fun _ => True) (fun _ => False) rfl rfl ?aP (fun _ hk => hk.elim) ?aF ?aO ?aB ?aS ?aL ?_; (case aP => exact k82_mkM _ _ _ _); (case aB => exact (by repeat (first | (with_reducible first | exact HB3.out | apply below_alloc | apply pw_below_drewN | apply below_drew1) | exact HB3.out))); (case aF => exact (fun _ _ => trivial)); (case aO => exact (by (with_reducible repeat (first | apply Kd.R_alloc | apply Kd.R_drewN | apply Kd.R_drew)); exact HO3.out)); (case aS => exact (below_size (by repeat (first | (with_reducible first | exact HB3.out | apply below_alloc | apply pw_below_drewN | apply below_drew1) | exact HB3.out)))); (case aL => have := HLJ.out; omega); intro v6 w6 ho hb hg hat; have HO6 := Aside0.mk ho; have HB6 := Aside0.mk hb; clear ho hb hg hat))
          go_roundg k2
          case measure => omega
          case rel => exact ⟨j + 1, by first | rfl | (simp; done) | (rw [wrap_id (n := (j : Int) + 1) (by omega) (by have := HKL.out.2; omega)]; first | rfl | (simp; done)), ⟨by have := HJ.out; omega⟩, ⟨by rw [HTJ.out]; exact HO6.out⟩, HB6⟩
        · have hjq : j = q := by have := HJ.out; omega
          subst hjq
          have htk : x.f1.take j = x.f1 := List.take_of_length_le (by have := HQ.out; omega)
          rw [htk, ← HOW.out] at HOJ
          clear htk
          go_wp2_with (fail)
          go_roundg k1
          case measure => omega
          case rel => exact ⟨i + 1, by first | rfl | (simp; done) | (rw [wrap_id (n := (i : Int) + 1) (by omega) (by have := HFEW.out; omega)]; first | rfl | (simp; done)), ⟨by have := HK.out; omega⟩, ⟨by rw [HST.out]; exact HOJ.out⟩, HBJ⟩
    · have hi : i = m := by have := HK.out; omega
      subst hi
      have htk : (namesT st).take i = namesT st := List.take_of_length_le (by have := HM.out; omega)
      rw [htk] at HO
      have HKE : (namesT st).flatMap (ownT st) = keysT st := rfl
      rw [HKE] at HO
      obtain ⟨A9, c9, hv9⟩ := Kd.R_slice HO.out
      subst hv9
      have HR9 := Aside0.mk (Kd.R_reads' HO.out)
      clear HO htk
      go_wp2_with (fail)
      go_ret
      exact ⟨A9, c9, rfl, HR9.out.2.2, HR9.out.2.1, below_step HB1.out HB.out⟩
end Go.Proofs.Yticoaaddhhiglaa.T
/- The table of tenants by hand: IndexFunc at keys. -/
namespace Go.Proofs.Yticoaaddhhiglaa.T
open Go.RowKit Go.Proofs.Yticoaaddhhiglaa.Q Go.Proofs.YticoaaddhhiglaaW.PrintWords Go.Proofs.YticoaaddhhiglaaW.PrintLast Go.Proofs.YticoaaddhhiglaaW.PrintMore
set_option linter.unusedVariables false
set_option linter.unusedSimpArgs false
def posI : Option Nat → Int
  | none => -1
  | some j => j
theorem Idx.pos {α : Type} {p : α → Prop} [DecidablePred p] {l : List α} {r : Int} (h : Idx p l r) : r = posI (l.findIdx? (fun y => decide (p y))) := by
  rcases h with ⟨j, x, rfl, hj, hx, hn⟩ | ⟨rfl, hn⟩
  · have hjl := (List.getElem?_eq_some_iff.1 hj).1
    have : l.findIdx? (fun y => decide (p y)) = some j := by
      rw [List.findIdx?_eq_some_iff_getElem]
      have he := (List.getElem?_eq_some_iff.1 hj).2
      refine ⟨hjl, by rw [he]; exact decide_eq_true hx, fun i hi => ?_⟩
      have := hn i l[i] hi (List.getElem?_eq_getElem (by omega))
      simpa using this
    rw [this]
    rfl
  · have : l.findIdx? (fun y => decide (p y)) = none := by
      rw [List.findIdx?_eq_none_iff]
      intro x hx
      simpa using hn x hx
    rw [this]
    rfl
/-- Where a key of a number is; where a reader. -/
def keyAt (l : List S23) (id : Int) : Option Nat := l.findIdx? (fun k => decide (k.f0 = id))
def wordAt (l : List ByteArray) (s : ByteArray) : Option Nat := l.findIdx? (fun y => decide (y = s))
theorem windex_calls {w : World} {A : Option Addr} {c : Nat} {l : List ByteArray} (s : ByteArray) (hC : Kd.string.C w A l.length l) (hc : l.length ≤ c) (hl : l.length ≤ 1000000) : Calls Try.prog 59 #[.slice A l.length c, .string s] w fun e w' => e = .returned (.int .i64 (posI (wordAt l s))) ∧ Drawn0 w w' :=
  (index_calls s hC hc hl).mono (fun e w' ⟨r, h1, h2, h3⟩ => ⟨by rw [h1, h2.pos]; rfl, h3⟩)
theorem closure58 {W : World} {X : Nat} {id : Int} (k : S23) (hX : W.cell? ⟨X, 2, none⟩ = some (.int .i64 id)) : Calls Try.prog 58 #[.agg #[.int .i64 k.f0, .string k.f1], .pointer (some ⟨X, 0, none⟩)] W fun e w' => e = .returned (.bool (k.f0 == id)) ∧ Below W.heap.size W w' := by
  have HX := Aside0.mk hX
  clear hX
  go_enter Try.func58, Try.ntmps58
  go_wp2_with (first
    | ((with_reducible refine gate_dst (N := 2) rfl ?_); refine box_event ?hg (N := 2) ?hd (cs := [Value.int .i64 k.f0, .string k.f1].toArray) (t := 23) ?hr ?_; (case hd => rfl); (case hg => rfl); (case hr => first | (go_simp; done) | (go_simp; rfl)); intro F hF w2 h2 hb2; have HB2 := Aside0.mk hb2; have hx := pw_cell_below hb2 HX.out; obtain ⟨z0, z1⟩ := cells2 h2; clear h2 hb2 hF))
  go_ret
  exact ⟨rfl, HB2.out⟩
set_option maxHeartbeats 4000000 in
set_option maxRecDepth 100000 in
theorem indexf_calls {w : World} {A : Option Addr} {c n X : Nat} {l : List S23} {id : Int} (hC : k23.C w A n l) (hn : n = l.length) (hl : n ≤ 1000) (hX : w.cell? ⟨X, 2, none⟩ = some (.int .i64 id)) : Calls Try.prog 57 #[.slice A n c, .func (.func 58) #[] #[.pointer (some ⟨X, 0, none⟩)]] w fun e w' => e = .returned (.int .i64 (posI (keyAt l id))) ∧ Below w.heap.size w w' := by
  have HC := Aside0.mk hC
  have HN := Aside0.mk (And.intro hn hl)
  have HX := Aside0.mk hX
  clear hC hn hl hX
  go_enter Try.func57, Try.ntmps57
  go_wp2
  go_loopg [8] (n + 1) (fun kq v8 wr => ∃ (i : Nat), v8 = .int .i64 i ∧ Aside0 (kq + i = n + 1 ∧ i ≤ n) ∧ Aside0 (∀ (j : Nat) (y : S23), j < i → l[j]? = some y → ¬ y.f0 = id) ∧ Aside0 (Below w.heap.size w wr))
  case atStart => exact ⟨0, rfl, ⟨by omega⟩, ⟨fun j y hj => absurd hj (Nat.not_lt_zero _)⟩, ⟨Below.refl _ _⟩⟩
  case round =>
    obtain ⟨i, rfl, HK, HN2, HB⟩ := hrel
    cases gk with
    | zero => have := HK.out; omega
    | succ k1 =>
    by_cases hlt : i < n
    · have hi0 : (0 : Int) ≤ (i : Int) := by omega
      have hi1 : (i : Int) < (n : Int) := by omega
      obtain ⟨ad, hA, x0, x1⟩ := at_T23 (Kd.C_below HC.out HB.out) (i : Int) hi0 hi1
      simp only [Int.toNat_natCast] at x0 x1
      have hil : i < l.length := by have := HN.out.1; omega
      have hget : l[i]? = some (rd_T23 l (i : Int)) := by
        unfold rd_T23
        rw [Int.toNat_natCast, List.getD_eq_getElem?_getD, List.getElem?_eq_getElem hil]
        rfl
      have HG := Aside0.mk hget
      have HXW := Aside0.mk (pw_cell_below HB.out HX.out)
      subst hA
      clear hlt hget hil
      by_cases e : (rd_T23 l (i : Int)).f0 = id
      · have HR := Aside0.mk (show (i : Int) = posI (keyAt l id) from Idx.pos (p := fun k : S23 => k.f0 = id) (.inl ⟨i, _, rfl, HG.out, e, HN2.out⟩))
        have HE := Aside0.mk (show ((rd_T23 l (i : Int)).f0 == id) = true by simp [e])
        clear e HG
        generalize rd_T23 l (i : Int) = kk at *
        go_wp2_with (go_at_call 58; (with_reducible refine (closure58 kk HXW.out).mono ?_); rintro e w2 ⟨rfl, hb⟩; rw [HE.out]; have HB2 := Aside0.mk (below_step HB.out hb); clear hb)
        go_ret
        exact ⟨by rw [← HR.out]; rfl, HB2.out⟩
      · have HNE := Aside0.mk (show ∀ (j : Nat) (y : S23), j < i + 1 → l[j]? = some y → ¬ y.f0 = id from fun j y hj hy => by
          rcases Nat.lt_or_ge j i with h | h
          · exact HN2.out j y h hy
          · have : j = i := by omega
            subst this
            rw [HG.out] at hy
            injection hy with hy
            rw [← hy]
            exact e)
        have HE := Aside0.mk (show ((rd_T23 l (i : Int)).f0 == id) = false from beq_false_of_ne e)
        clear e HG
        generalize rd_T23 l (i : Int) = kk at *
        go_wp2_with (go_at_call 58; (with_reducible refine (closure58 kk HXW.out).mono ?_); rintro e w2 ⟨rfl, hb⟩; rw [HE.out]; have HB2 := Aside0.mk (below_step HB.out hb); clear hb)
        go_roundg k1
        case measure => omega
        case rel => exact ⟨i + 1, by first | rfl | (simp; done) | (rw [wrap_id (n := (i : Int) + 1) (by omega) (by have := HN.out.2; omega)]; first | rfl | (simp; done)), ⟨by have := HK.out; omega⟩, HNE, HB2⟩
    · have hi : i = n := by have := HK.out; omega
      subst hi
      have HR := Aside0.mk (show (-1 : Int) = posI (keyAt l id) from Idx.pos (p := fun k : S23 => k.f0 = id) (.inr ⟨rfl, fun y hy => by
        obtain ⟨j, hj⟩ := List.getElem?_of_mem hy
        exact HN2.out j y (by have := (List.getElem?_eq_some_iff.1 hj).1; have := HN.out.1; omega) hj⟩))
      go_wp2_with (fail)
      go_ret
      exact ⟨by rw [← HR.out]; rfl, HB.out⟩
end Go.Proofs.Yticoaaddhhiglaa.T
