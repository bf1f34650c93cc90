import Derived.Test.YticoaaddhhiglaaT6
import Derived.Test.YticoaaddhhiglaaS1
import Derived.Sort.OwnSorted
/- The table of tenants by hand: Names (mkT7.py, out of dk's List). -/
namespace Go.Proofs.Yticoaaddhhiglaa.T
open Go.RowKit Go.Proofs.Yticoaaddhhiglaa.Q Go.Proofs.YticoaaddhhiglaaW.PrintWords Go.Proofs.YticoaaddhhiglaaW.PrintLast Go.Proofs.YticoaaddhhiglaaW.PrintMore
open Go.Proofs.Yticoaaddhhiglaa
set_option linter.unusedVariables false
set_option linter.unusedSimpArgs false
theorem wpList_range_run {P : Program} (w : World) {ops : Array Oper} {rest : List Oper} {o : Oper} {a : Act} {Q : Exit → Act → World → Prop}
    (hg : o.guard = none) (m : Operand) (t : TypeId) (hop : o.op = Op.range t m) (M V : Value) (hm : a.eval m = M) (w1 : World)
    (hrun : (Instr.range t M).run P w = .ok V w1) (hK : wpList P ops Q rest (a.put o.dst V) w1) : wpList P ops Q (o :: rest) a w := by
  refine wpList_plain hg fun K' hK' => ?_
  unfold Oper.wp
  simp [execOp, hop, hm, hrun, Result.andThen]
  exact hK' _ _ hK
theorem wpList_next_run {P : Program} (w : World) {ops : Array Oper} {rest : List Oper} {o : Oper} {a : Act} {Q : Exit → Act → World → Prop}
    (hg : o.guard = none) (it : Operand) (hop : o.op = Op.next it false) (M V : Value) (hm : a.eval it = M) (w1 : World)
    (hrun : (Instr.next M false o.type).run P w = .ok V w1) (hK : wpList P ops Q rest (a.put o.dst V) w1) : wpList P ops Q (o :: rest) a w := by
  refine wpList_plain hg fun K' hK' => ?_
  unfold Oper.wp
  simp [execOp, hop, hm, hrun, Result.andThen]
  exact hK' _ _ hK
/-- The names in order. -/
theorem sorted_names {st : St} (hs : Sorted st) {ds : List ByteArray} (hn : ds.Nodup) (hm : ∀ s, s ∈ ds ↔ look st s ≠ none) :
    (ds.map (·.toList)).mergeSort (fun x y => decide (x ≤ y)) = st.map (fun f => f.f0.toList) := by
  have ht : ∀ a b : List UInt8, (decide (a ≤ b) || decide (b ≤ a)) = true := fun a b => by
    rcases List.le_total a b with h | h <;> simp [h]
  have tr : ∀ a b c : List UInt8, decide (a ≤ b) = true → decide (b ≤ c) = true → decide (a ≤ c) = true := fun a b c h1 h2 => by
    simp only [decide_eq_true_eq] at h1 h2 ⊢
    exact List.le_trans h1 h2
  have hinj : ∀ a b : ByteArray, a ≠ b → a.toList ≠ b.toList := fun a b h e => h (str_inj e)
  refine List.Perm.eq_of_pairwise (le := fun a b : List UInt8 => decide (a ≤ b) = true) (fun a b _ _ h1 h2 => ?_) (List.pairwise_mergeSort tr ht _) (List.pairwise_map.2 (hs.imp (fun {a b} h => ?_))) ((List.mergeSort_perm _ _).trans ((List.perm_ext_iff_of_nodup (hn.map _ hinj) (List.pairwise_map.2 (hs.imp (fun {a b} h => hinj a.f0 b.f0 h.ne)))).2 (fun l => ?_)))
  · simp only [decide_eq_true_eq] at h1 h2
    exact List.le_antisymm h1 h2
  · simp only [decide_eq_true_eq]
    exact List.le_of_lt h
  · simp only [List.mem_map]
    constructor
    · rintro ⟨s, hs', rfl⟩
      have h2 := (hm s).1 hs'
      cases hl : look st s with
      | none => exact absurd hl h2
      | some f => exact ⟨f, (look_mem hl).1, by rw [(look_mem hl).2]⟩
    · rintro ⟨f, hf, rfl⟩
      exact ⟨f.f0, (hm f.f0).2 (by rw [look_of_mem hs hf]; simp), rfl⟩
theorem names_len {st : St} (hs : Sorted st) {ds : List ByteArray} (hn : ds.Nodup) (hm : ∀ s, s ∈ ds ↔ look st s ≠ none) : ds.length = st.length := by
  have h := congrArg List.length (sorted_names hs hn hm)
  rw [List.length_mergeSort, List.length_map, List.length_map] at h
  exact h
theorem enc_str (s : ByteArray) : Go.Proofs.encStr s.toList = .string s := by
  unfold Go.Proofs.encStr
  rw [ByteArray.toList_eq]
theorem IterF.sub {w : World} {r M : Nat} {G : ByteArray → Option Value} {done : List ByteArray} {cnt : Nat} (h : IterF w r M G done cnt) {s : ByteArray} (hs : s ∈ done) : G s ≠ none := by
  obtain ⟨ma, clk, seen, c0, h1, h2, h3, h4, h5, h6, h7, h8, h9⟩ := h
  obtain ⟨x, hx, hk, _⟩ := (h8 s).1 hs
  obtain ⟨t, ht, hv⟩ := h3 x hx
  rw [hk] at ht
  injection ht with ht
  subst ht
  rw [hv]
  simp
theorem IterF.nodup {w : World} {r M : Nat} {G : ByteArray → Option Value} {done : List ByteArray} {cnt : Nat} (h : IterF w r M G done cnt) : done.Nodup := by
  obtain ⟨ma, clk, seen, c0, h1, h2, h3, h4, h5, h6, h7, h8, h9⟩ := h
  exact h7
set_option maxHeartbeats 1000000 in
set_option maxRecDepth 100000 in
theorem names_calls {w : World} {D M : Nat} {st : St} (h : TabG w D M st) : Calls Try.prog 21 #[.pointer (some ⟨D, 0, none⟩)] w fun e w' => ∃ v, e = .returned v ∧ Kd.string.R 9 w' w.heap.size (fun k => w.heap.size ≤ k) v (st.map (·.f0)) ∧ Below w.heap.size w w' := by
  have c0 := h.cells.2
  obtain ⟨G, hMF, hTR⟩ := h.ex
  have HTR := Aside0.mk hTR
  have HMF := Aside0.mk hMF
  obtain ⟨w1, hrg, ⟨cnt, hI⟩, hB1⟩ := MapF.range (P := Try.prog) Try.underlying58 hMF
  have HD := Aside0.mk h
  have HI1 := Aside0.mk hI
  have HB1 := Aside0.mk hB1
  clear h hI hB1 hTR hMF
  go_enter Try.func21, Try.ntmps21
  go_wp2_with (first
    | (go_at_call 38; (with_reducible refine (is_calls HD.out).mono ?_); rintro e w9 ⟨rfl, h9⟩; subst w9)
    | (at_range; refine wpList_range_run _ rfl (.tmp 11) 58 rfl _ _ rfl _ hrg ?_))
  simp only [Act.put, List.setIfInBounds_toArray, List.set_cons_zero, List.set_cons_succ]
  go_loopg [3] (cnt + 1) (fun kq v3 wr => ∃ ds : List ByteArray, Aside0 (kq + ds.length = cnt + 1) ∧ Aside0 (IterF wr w.heap.size M G ds cnt) ∧ Aside0 (Kd.string.R 9 wr w.heap.size (fun k => w.heap.size < k) v3 ds) ∧ Aside0 (Below w.heap.size w wr))
  case atStart => exact ⟨[], ⟨rfl⟩, HI1, ⟨Kd.R_nil _ _ _ _ _⟩, HB1⟩
  case round =>
    obtain ⟨ds, HK, HI, HR, HB⟩ := hrel
    cases gk with
    | zero => have h1 := HK.out; have h2 := HI.out.count; omega
    | succ k1 =>
    have hdl : ds.length ≤ 64 := by
      have h1 := len_le_of_sub (m := st.map (·.f0)) HI.out.nodup (fun s hs' => by
        have hh := HI.out.sub hs'
        cases hl : T.look st s with
        | none => exact absurd ((HTR.out.none_ s).2 hl) hh
        | some f => exact List.mem_map.2 ⟨f, look_mem hl⟩)
      rw [List.length_map] at h1
      have h2 := HTR.out.few
      omega
    have HL := Aside0.mk hdl
    clear hdl hrg c0
    rcases HI.out.next (P := Try.prog) 0 with ⟨hall, hnx⟩ | ⟨s, v, w2, hGs, hnd, hnx, hI2, hen, q1, q2, q3, q4, q5⟩
    · have hmem : ∀ s, s ∈ ds ↔ look st s ≠ none := fun s => by
        have h1 := HTR.out.none_ s
        constructor
        · intro hs e
          have := HI.out.sub hs
          rw [h1.2 e] at this
          exact this rfl
        · intro hs
          cases hq : G s with
          | none => exact absurd (h1.1 hq) hs
          | some v => exact hall s v hq
      have hsn := sorted_names HTR.out.sorted HI.out.nodup hmem
      have hln := names_len HTR.out.sorted HI.out.nodup hmem
      have hrow := Kd.own_of_R HR.out
      have HS := Aside0.mk (And.intro hsn hln)
      clear hsn hln hmem hall
      rcases hrow.2 with ⟨rfl, hnil⟩ | ⟨g, cap, cur, rfl, hbase, hb, b1, b2, b3, b4⟩
      · have HN := Aside0.mk hnil
        clear hrow hnil
        have hso : Calls Try.prog 42 #[.slice none 0 0] wr fun e w' => e = .returned (.tuple #[]) ∧ w' = wr := AnyM.slices_Sort_string_none Srt.sortL none 0 wr
        go_wp2_with (first
          | (at_next; refine wpList_next_run _ rfl (.tmp 12) rfl _ _ rfl _ hnx ?_)
          | (go_at_call 42; (with_reducible refine hso.mono ?_); rintro e w9 ⟨rfl, h9⟩; subst w9))
        go_ret
        refine ⟨_, rfl, ?_, HB.out⟩
        have h0 : st = [] := List.eq_nil_of_length_eq_zero (by have := HS.out.2; have := HN.out; omega)
        subst h0
        exact Kd.R_nil _ _ _ _ _
      · have hgl : g < wr.heap.size := heap_lt hb
        have henc : encs Value.string ds = (ds.map (·.toList)).map Go.Proofs.encStr := by
          unfold encs
          rw [List.map_map]
          exact List.map_congr_left (fun s _ => (enc_str s).symm)
        rw [Nat.mul_one, henc] at b4
        have hso : Calls Try.prog 42 #[.slice (some ⟨g, 0, none⟩) ds.length cap] wr fun e w' => e = .returned (.tuple #[]) ∧ ∃ n os, w' = Go.Sort.grow (Go.Sort.putRow Go.Proofs.encStr (Go.Sort.ahead wr n) g 0 ((ds.map (·.toList)).mergeSort fun x y => decide (x ≤ y)).toArray) os := by
          have := AnyM.slices_Sort_string Srt.sortL g 0 cap (ds.map (·.toList)) wr (Go.holds_of_block hb (by rw [List.length_map]; exact b4)) hgl (by rw [List.length_map]; have := HL.out; omega)
          rw [List.length_map] at this
          exact this
        have HO := Aside0.mk (And.intro hbase (And.intro hb (And.intro b1 (And.intro b2 (And.intro b3 hgl)))))
        clear hrow hbase hb b1 b2 b3 b4 henc hgl
        go_wp2_with (first
          | (at_next; refine wpList_next_run _ rfl (.tmp 12) rfl _ _ rfl _ hnx ?_)
          | (go_at_call 42; (with_reducible refine hso.mono ?_); rintro e w9 ⟨rfl, n9, os9, h9⟩; have H9 := Aside0.mk h9; clear h9))
        go_ret
        obtain ⟨hbase, hb, b1, b2, b3, hgl⟩ := HO.out
        obtain ⟨hsn, hln⟩ := HS.out
        have hb' := HB.out
        have h9 := H9.out
        rw [hsn] at h9
        have hgr : wr.grownBy w9 (some g) := by rw [h9]; exact Go.grownBy_sorted _
        have hown : w9.ownsRow w.heap.size 9 1 (.slice (some ⟨g, 0, none⟩) ds.length cap) ds.length ((st.map (fun f => f.f0.toList)).map Go.Proofs.encStr) := by
          rw [h9]
          have := Go.ownsRow_sorted (w := wr) (base := w.heap.size) (g := g) (cap := cap) (n := n9) (e := 9) (os := os9) (cur := cur) (ss := ds.map (·.toList)) (ts := st.map (fun f => f.f0.toList)) (by rw [List.length_map, List.length_map]; exact hln.symm) hbase hb (by rw [List.length_map]; exact b1) b2 b3
          rw [List.length_map] at this
          exact this
        refine ⟨_, rfl, Kd.R_of_own ?_ (fun k hk => ?_), Chg.onto hb' (Nat.le_refl _) (Chg.of_grown hgr) (fun k hk => ?_)⟩
        · have he : encs Value.string (st.map (·.f0)) = (st.map (fun f => f.f0.toList)).map Go.Proofs.encStr := by
            unfold encs
            rw [List.map_map, List.map_map]
            exact List.map_congr_left (fun f _ => (enc_str f.f0).symm)
          rw [he, List.length_map, ← hln]
          exact hown
        · have : g = k := by simpa [Value.ownBlock] using hk
          omega
        · injection hk with hk
          omega
    · have hr2 := Aside0.mk (Kd.R_move HR.out (fun k (hk : w.heap.size < k) => q5 k (by omega)))
      have hb2 : Aside0 (Below w.heap.size w w2) := ⟨by
        have hb := HB.out
        exact ⟨q1.trans hb.os, q2.trans hb.tape, q3.trans hb.output, by rw [q4]; exact hb.size, fun k hk => (q5 k (by omega)).trans (hb.block k hk)⟩⟩
      have HI2 := Aside0.mk hI2
      have HZ := Aside0.mk (show w.heap.size < w2.heap.size from hI2.lt)
      clear q1 q2 q3 q4 q5 hI2 hnd hGs
      go_wp2_with (first
        | (at_next; refine wpList_next_run _ rfl (.tmp 12) rfl _ _ rfl _ hnx ?_)
        | ((with_reducible refine gate_builtin (b := .append) (xs := #[.tmp 17, .tmp 19]) rfl ?_); at_builtin; refine Kd.R_append Kd.string (w0 := w) w.heap.size rfl (.tmp 17) (.tmp 19) 37 9 (.string ⟨#[]⟩) 16 rfl Try.underlying37 info9 rfl (by decide) (by omega) u3 ds s [.string s] (fun k => w.heap.size < k) (fun _ => False) rfl rfl ?aP (fun _ h => h.elim) ?aF ?aO ?aB ?aS ?aL ?_; (case aP => exact rfl); (case aB => exact hb2.out); (case aF => exact (fun k hk => Nat.lt_of_lt_of_le HZ.out hk)); (case aO => exact hr2.out); (case aS => exact hb2.out.size); (case aL => have := HL.out; omega); intro v5 w5 ho5 hb5 hg5 hat5))
      have hne : ∀ k, u3.ownBlock = some k → k ≠ w.heap.size := fun k hk e => by have := HR.out.1 k hk; omega
      have hI5 : IterF w5 w.heap.size M G (ds ++ [s]) cnt := HI2.out.move (hg5.block M HI2.out.map.lt (fun e => by have := HR.out.1 M e.symm; have := HMF.out.lt; omega)) (hg5.block _ HI2.out.lt (fun e => by have := HR.out.1 _ e.symm; omega))
      go_roundg k1
      case measure => omega
      case rel => exact ⟨ds ++ [s], ⟨by have := HK.out; rw [List.length_append]; simp; omega⟩, ⟨hI5⟩, ⟨ho5⟩, ⟨hb5⟩⟩
end Go.Proofs.Yticoaaddhhiglaa.T
