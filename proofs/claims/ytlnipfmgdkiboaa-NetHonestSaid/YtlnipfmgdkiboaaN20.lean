/- The network by hand: what waits by names; Tenants (mkN20.py, out of the tenants' Names). -/
import Derived.Test.YtlnipfmgdkiboaaN19
import Derived.Test.YtlnipfmgdkiboaaS1
import Derived.Sort.OwnSorted
namespace Go.Proofs.Ytlnipfmgdkiboaa.N
open Go.RowKit Go.Proofs.Ytlnipfmgdkiboaa.Q Go.Proofs.YtlnipfmgdkiboaaW.PrintWords Go.Proofs.YtlnipfmgdkiboaaW.PrintLast Go.Proofs.YtlnipfmgdkiboaaW.PrintMore
open Go.Proofs.Ytlnipfmgdkiboaa
set_option linter.unusedVariables false
set_option linter.unusedSimpArgs false
/-- A tenant's letters. -/
def ofSt (st : St) (s : ByteArray) : List S34 := match N.look st s with
  | some q => q.f1
  | none => []
/-- The letters by names. -/
structure Rep (Q : ByteArray → List S34) (st : St) : Prop where
  sorted : Sorted st
  some_ : ∀ q ∈ st, q.f1 ≠ []
  of : ∀ s, Q s = ofSt st s
def setS (st : St) (s : ByteArray) (l : List S34) : St := if l = [] then N.drop st s else N.put st ⟨s, l⟩
theorem info9 : (Try.prog.info? 9).map (fun i => (i.zero, i.size, i.bytes)) = some (some (.string ⟨#[]⟩), 1, 16) := by kernel_rfl
theorem Rep.nil : Rep (fun _ => []) [] := ⟨List.Pairwise.nil, fun q h => (by cases h), fun s => rfl⟩
theorem Rep.set {Q : ByteArray → List S34} {st : St} (h : Rep Q st) (s : ByteArray) (l : List S34) : Rep (setQ Q s l) (setS st s l) := by
  unfold setS
  by_cases hl : l = []
  · subst hl
    rw [if_pos rfl]
    refine ⟨drop_sorted s h.sorted, fun q hq => h.some_ q (List.mem_filter.1 hq).1, fun t => ?_⟩
    unfold setQ ofSt
    rw [look_drop]
    by_cases e : t = s
    · rw [if_pos e, if_pos e]
    · rw [if_neg e, if_neg e, h.of t]; rfl
  · rw [if_neg hl]
    refine ⟨put_sorted _ h.sorted, fun q hq => ?_, fun t => ?_⟩
    · rcases put_mem hq with e | ⟨e, _⟩ | e
      · rw [e]; exact hl
      · exact h.some_ q e
      · exact h.some_ q e
    · unfold setQ ofSt
      rw [look_put _ _ h.sorted]
      by_cases e : t = s
      · rw [if_pos e, if_pos (show t = (⟨s, l⟩ : Qu).f0 from e)]
      · rw [if_neg e, if_neg (show ¬ t = (⟨s, l⟩ : Qu).f0 from e), h.of t]; rfl
theorem Rep.total {Q : ByteArray → List S34} {st : St} (h : Rep Q st) (s : ByteArray) (l : List S34) : N.total (setS st s l) + (Q s).length = N.total st + l.length ∧ (setS st s l).length ≤ st.length + 1 := by
  have ho : (Q s).length = (match N.look st s with | some f => f.f1.length | none => 0) := by
    rw [h.of s]
    unfold ofSt
    cases N.look st s <;> rfl
  unfold setS
  by_cases hl : l = []
  · subst hl
    rw [if_pos rfl, ho]
    have := total_drop s h.sorted
    refine ⟨this.1.trans (by simp), Nat.le_trans (List.length_filter_le _ _) (Nat.le_succ _)⟩
  · rw [if_neg hl, ho]
    have := total_put (⟨s, l⟩ : Qu) h.sorted
    refine ⟨this.1, ?_⟩
    have h2 := this.2
    rw [h2]
    split <;> omega
theorem Rep.look {Q : ByteArray → List S34} {st : St} (h : Rep Q st) (s : ByteArray) : Q s = [] ↔ N.look st s = none := by
  rw [h.of s]
  unfold ofSt
  cases hl : N.look st s with
  | none => simp
  | some q =>
    have := h.some_ q (look_mem hl).1
    simp [this]
theorem Rep.at_ {Q : ByteArray → List S34} {st : St} (h : Rep Q st) {q : Qu} (hq : q ∈ st) : Q q.f0 = q.f1 := by
  rw [h.of q.f0]
  unfold ofSt
  rw [look_of_mem h.sorted hq]
theorem wpList_range_run {P : Program} (w : World) {ops : Array Oper} {rest : List Oper} {o : Oper} {a : Act} {Q : Exit → Act → World → Prop}
    (hg : o.guard = none) (m : Operand) (t : TypeId) (hop : o.op = Op.range t m) (M V : Value) (hm : a.eval m = M) (w1 : World)
    (hrun : (Instr.range t M).run P w = .ok V w1) (hK : wpList P ops Q rest (a.put o.dst V) w1) : wpList P ops Q (o :: rest) a w := by
  refine wpList_plain hg fun K' hK' => ?_
  unfold Oper.wp
  simp [execOp, hop, hm, hrun, Result.andThen]
  exact hK' _ _ hK
theorem wpList_next_run {P : Program} (w : World) {ops : Array Oper} {rest : List Oper} {o : Oper} {a : Act} {Q : Exit → Act → World → Prop}
    (hg : o.guard = none) (it : Operand) (hop : o.op = Op.next it false) (M V : Value) (hm : a.eval it = M) (w1 : World)
    (hrun : (Instr.next M false o.type).run P w = .ok V w1) (hK : wpList P ops Q rest (a.put o.dst V) w1) : wpList P ops Q (o :: rest) a w := by
  refine wpList_plain hg fun K' hK' => ?_
  unfold Oper.wp
  simp [execOp, hop, hm, hrun, Result.andThen]
  exact hK' _ _ hK
/-- The names in order. -/
theorem sorted_names {st : St} (hs : Sorted st) {ds : List ByteArray} (hn : ds.Nodup) (hm : ∀ s, s ∈ ds ↔ look st s ≠ none) :
    (ds.map (·.toList)).mergeSort (fun x y => decide (x ≤ y)) = st.map (fun f => f.f0.toList) := by
  have ht : ∀ a b : List UInt8, (decide (a ≤ b) || decide (b ≤ a)) = true := fun a b => by
    rcases List.le_total a b with h | h <;> simp [h]
  have tr : ∀ a b c : List UInt8, decide (a ≤ b) = true → decide (b ≤ c) = true → decide (a ≤ c) = true := fun a b c h1 h2 => by
    simp only [decide_eq_true_eq] at h1 h2 ⊢
    exact List.le_trans h1 h2
  have hinj : ∀ a b : ByteArray, a ≠ b → a.toList ≠ b.toList := fun a b h e => h (str_inj e)
  refine List.Perm.eq_of_pairwise (le := fun a b : List UInt8 => decide (a ≤ b) = true) (fun a b _ _ h1 h2 => ?_) (List.pairwise_mergeSort tr ht _) (List.pairwise_map.2 (hs.imp (fun {a b} h => ?_))) ((List.mergeSort_perm _ _).trans ((List.perm_ext_iff_of_nodup (hn.map _ hinj) (List.pairwise_map.2 (hs.imp (fun {a b} h => hinj a.f0 b.f0 h.ne)))).2 (fun l => ?_)))
  · simp only [decide_eq_true_eq] at h1 h2
    exact List.le_antisymm h1 h2
  · simp only [decide_eq_true_eq]
    exact List.le_of_lt h
  · simp only [List.mem_map]
    constructor
    · rintro ⟨s, hs', rfl⟩
      have h2 := (hm s).1 hs'
      cases hl : look st s with
      | none => exact absurd hl h2
      | some f => exact ⟨f, (look_mem hl).1, by rw [(look_mem hl).2]⟩
    · rintro ⟨f, hf, rfl⟩
      exact ⟨f.f0, (hm f.f0).2 (by rw [look_of_mem hs hf]; simp), rfl⟩
theorem names_len {st : St} (hs : Sorted st) {ds : List ByteArray} (hn : ds.Nodup) (hm : ∀ s, s ∈ ds ↔ look st s ≠ none) : ds.length = st.length := by
  have h := congrArg List.length (sorted_names hs hn hm)
  rw [List.length_mergeSort, List.length_map, List.length_map] at h
  exact h
theorem enc_str (s : ByteArray) : Go.Proofs.encStr s.toList = .string s := by
  unfold Go.Proofs.encStr
  rw [ByteArray.toList_eq]
theorem IterF.sub {w : World} {r M : Nat} {G : ByteArray → Option Value} {done : List ByteArray} {cnt : Nat} (h : IterF w r M G done cnt) {s : ByteArray} (hs : s ∈ done) : G s ≠ none := by
  obtain ⟨ma, clk, seen, c0, h1, h2, h3, h4, h5, h6, h7, h8, h9⟩ := h
  obtain ⟨x, hx, hk, _⟩ := (h8 s).1 hs
  obtain ⟨t, ht, hv⟩ := h3 x hx
  rw [hk] at ht
  injection ht with ht
  subst ht
  rw [hv]
  simp
theorem IterF.nodup {w : World} {r M : Nat} {G : ByteArray → Option Value} {done : List ByteArray} {cnt : Nat} (h : IterF w r M G done cnt) : done.Nodup := by
  obtain ⟨ma, clk, seen, c0, h1, h2, h3, h4, h5, h6, h7, h8, h9⟩ := h
  exact h7
set_option maxHeartbeats 1000000 in
set_option maxRecDepth 100000 in
theorem tenants_calls {w : World} {N M : Nat} {room : Int} {B : Nat} {own : Nat → Option ByteArray} {G : ByteArray → Option Value} {Q : ByteArray → List S34} {st : St} (h : NetG w N M room B own G Q) (hr : Rep Q st) (hf : st.length ≤ 1000) : Calls Try.prog 19 #[.pointer (some ⟨N, 0, none⟩)] w fun e w' => ∃ v, e = .returned v ∧ Kd.string.R 9 w' w.heap.size (fun k => w.heap.size ≤ k) v (st.map (·.f0)) ∧ Below w.heap.size w w' := by
  have c0 := h.cell.2
  have hMF := h.map
  have HTR := Aside0.mk hr
  have HFW := Aside0.mk hf
  have HMF := Aside0.mk hMF
  obtain ⟨w1, hrg, ⟨cnt, hI⟩, hB1⟩ := MapF.range (P := Try.prog) Try.underlying60 hMF
  have HD := Aside0.mk h
  have HI1 := Aside0.mk hI
  have HB1 := Aside0.mk hB1
  clear h hI hB1 hr hMF hf
  go_enter Try.func19, Try.ntmps19
  go_wp2_with (first
    | (go_at_call 25; (with_reducible refine (ok_calls N M _ c0).mono ?_); rintro e w9 ⟨rfl, h9⟩; subst w9)
    | (at_range; refine wpList_range_run _ rfl (.tmp 12) 60 rfl _ _ rfl _ hrg ?_))
  simp only [Act.put, List.setIfInBounds_toArray, List.set_cons_zero, List.set_cons_succ]
  go_loopg [3] (cnt + 1) (fun kq v3 wr => ∃ ds : List ByteArray, Aside0 (kq + ds.length = cnt + 1) ∧ Aside0 (IterF wr w.heap.size M G ds cnt) ∧ Aside0 (Kd.string.R 9 wr w.heap.size (fun k => w.heap.size < k) v3 (ds.filter (fun s => decide (Q s ≠ [])))) ∧ Aside0 (Below w.heap.size w wr))
  case atStart => exact ⟨[], ⟨rfl⟩, HI1, ⟨Kd.R_nil _ _ _ _ _⟩, HB1⟩
  case round =>
    obtain ⟨ds, HK, HI, HR, HB⟩ := hrel
    cases gk with
    | zero => have h1 := HK.out; have h2 := HI.out.count; omega
    | succ k1 =>
    obtain ⟨es, hes⟩ : ∃ es, es = ds.filter (fun s => decide (Q s ≠ [])) := ⟨_, rfl⟩
    have hen0 : es.Nodup := by rw [hes]; exact List.Pairwise.filter _ HI.out.nodup
    have hsub : ∀ s ∈ es, Go.Proofs.Ytlnipfmgdkiboaa.N.look st s ≠ none := fun s hs' e => by
      rw [hes] at hs'
      have := (List.mem_filter.1 hs').2
      exact of_decide_eq_true this ((HTR.out.look s).2 e)
    have hdl : es.length ≤ 1000 := by
      have h1 := len_le_of_sub (m := st.map (·.f0)) hen0 (fun s hs' => by
        cases hl : Go.Proofs.Ytlnipfmgdkiboaa.N.look st s with
        | none => exact absurd hl (hsub s hs')
        | some f => exact List.mem_map.2 ⟨f, look_mem hl⟩)
      rw [List.length_map] at h1
      have h2 := HFW.out
      omega
    have HES := Aside0.mk (And.intro hes (And.intro hen0 hsub))
    rw [← hes] at HR
    clear hes hen0 hsub
    have HL := Aside0.mk hdl
    clear hdl hrg c0
    rcases HI.out.next (P := Try.prog) 0 with ⟨hall, hnx⟩ | ⟨s, v, w2, hGs, hnd, hnx, hI2, hen, q1, q2, q3, q4, q5⟩
    · have hmem : ∀ s, s ∈ es ↔ Go.Proofs.Ytlnipfmgdkiboaa.N.look st s ≠ none := fun s => by
        constructor
        · exact HES.out.2.2 s
        · intro hs
          rw [HES.out.1]
          have hq : Q s ≠ [] := fun e => hs ((HTR.out.look s).1 e)
          refine List.mem_filter.2 ⟨?_, decide_eq_true hq⟩
          cases hg : G s with
          | none =>
            have hro := HD.out.rows s
            rw [hg] at hro
            obtain ⟨A9, c9, he9, _⟩ := Kd.R_reads hro
            injection he9 with _ he9 _
            exact absurd (List.eq_nil_of_length_eq_zero he9.symm) hq
          | some v => exact hall s v hg
      have hsn := sorted_names HTR.out.sorted HES.out.2.1 hmem
      have hln := names_len HTR.out.sorted HES.out.2.1 hmem
      have hrow := Kd.own_of_R HR.out
      have HS := Aside0.mk (And.intro hsn hln)
      clear hsn hln hmem hall
      rcases hrow.2 with ⟨rfl, hnil⟩ | ⟨g, cap, cur, rfl, hbase, hb, b1, b2, b3, b4⟩
      · have HN := Aside0.mk hnil
        clear hrow hnil
        have hso : Calls Try.prog 32 #[.slice none 0 0] wr fun e w' => e = .returned (.tuple #[]) ∧ w' = wr := AnyM.slices_Sort_string_none Srt.sortL none 0 wr
        go_wp2_with (first
          | (at_next; refine wpList_next_run _ rfl (.tmp 13) rfl _ _ rfl _ hnx ?_)
          | (go_at_call 32; (with_reducible refine hso.mono ?_); rintro e w9 ⟨rfl, h9⟩; subst w9))
        go_ret
        refine ⟨_, rfl, ?_, HB.out⟩
        have h0 : st = [] := List.eq_nil_of_length_eq_zero (by have := HS.out.2; have := HN.out; omega)
        subst h0
        exact Kd.R_nil _ _ _ _ _
      · have hgl : g < wr.heap.size := heap_lt hb
        have henc : encs Value.string es = (es.map (·.toList)).map Go.Proofs.encStr := by
          unfold encs
          rw [List.map_map]
          exact List.map_congr_left (fun s _ => (enc_str s).symm)
        rw [Nat.mul_one, henc] at b4
        have hso : Calls Try.prog 32 #[.slice (some ⟨g, 0, none⟩) es.length cap] wr fun e w' => e = .returned (.tuple #[]) ∧ ∃ n os, w' = Go.Sort.grow (Go.Sort.putRow Go.Proofs.encStr (Go.Sort.ahead wr n) g 0 ((es.map (·.toList)).mergeSort fun x y => decide (x ≤ y)).toArray) os := by
          have := AnyM.slices_Sort_string Srt.sortL g 0 cap (es.map (·.toList)) wr (Go.holds_of_block hb (by rw [List.length_map]; exact b4)) hgl (by rw [List.length_map]; have := HL.out; omega)
          rw [List.length_map] at this
          exact this
        have HO := Aside0.mk (And.intro hbase (And.intro hb (And.intro b1 (And.intro b2 (And.intro b3 hgl)))))
        clear hrow hbase hb b1 b2 b3 b4 henc hgl
        go_wp2_with (first
          | (at_next; refine wpList_next_run _ rfl (.tmp 13) rfl _ _ rfl _ hnx ?_)
          | (go_at_call 32; (with_reducible refine hso.mono ?_); rintro e w9 ⟨rfl, n9, os9, h9⟩; have H9 := Aside0.mk h9; clear h9))
        go_ret
        obtain ⟨hbase, hb, b1, b2, b3, hgl⟩ := HO.out
        obtain ⟨hsn, hln⟩ := HS.out
        have hb' := HB.out
        have h9 := H9.out
        rw [hsn] at h9
        have hgr : wr.grownBy w9 (some g) := by rw [h9]; exact Go.grownBy_sorted _
        have hown : w9.ownsRow w.heap.size 9 1 (.slice (some ⟨g, 0, none⟩) es.length cap) es.length ((st.map (fun f => f.f0.toList)).map Go.Proofs.encStr) := by
          rw [h9]
          have := Go.ownsRow_sorted (w := wr) (base := w.heap.size) (g := g) (cap := cap) (n := n9) (e := 9) (os := os9) (cur := cur) (ss := es.map (·.toList)) (ts := st.map (fun f => f.f0.toList)) (by rw [List.length_map, List.length_map]; exact hln.symm) hbase hb (by rw [List.length_map]; exact b1) b2 b3
          rw [List.length_map] at this
          exact this
        refine ⟨_, rfl, Kd.R_of_own ?_ (fun k hk => ?_), below_trans_grown hb' hgr (fun k hk => ?_) hb'.size⟩
        · have he : encs Value.string (st.map (·.f0)) = (st.map (fun f => f.f0.toList)).map Go.Proofs.encStr := by
            unfold encs
            rw [List.map_map, List.map_map]
            exact List.map_congr_left (fun f _ => (enc_str f.f0).symm)
          rw [he, List.length_map, ← hln]
          exact hown
        · have : g = k := by simpa [Value.ownBlock] using hk
          omega
        · injection hk with hk
          omega
    · have hvv : ∃ Av cv, v = .slice Av (Q s).length cv := by
        have hro := HD.out.rows s
        rw [hGs] at hro
        obtain ⟨A9, c9, he9, _⟩ := Kd.R_reads hro
        exact ⟨A9, c9, he9⟩
      obtain ⟨Av, cv, hvv⟩ := hvv
      subst hvv
      obtain ⟨nq, hnq⟩ : ∃ n : Nat, n = (Q s).length := ⟨_, rfl⟩
      rw [← hnq] at hen hGs
      have hr2 := Aside0.mk (Kd.R_move HR.out (fun k (hk : w.heap.size < k) => q5 k (by omega)))
      have hb2 : Aside0 (Below w.heap.size w w2) := ⟨by
        have hb := HB.out
        exact ⟨q1.trans hb.os, q2.trans hb.tape, q3.trans hb.output, by rw [q4]; exact hb.size, fun k hk => (q5 k (by omega)).trans (hb.block k hk)⟩⟩
      have HI2 := Aside0.mk hI2
      have HZ := Aside0.mk (show w.heap.size < w2.heap.size from hI2.lt)
      have HNQ := Aside0.mk hnq
      clear q1 q2 q3 q4 q5 hI2 hnd hGs hnq
      by_cases hpos : (nq : Int) > 0
      · have HFI := Aside0.mk (show (ds ++ [s]).filter (fun s => decide (Q s ≠ [])) = es ++ [s] by
          rw [List.filter_append, ← HES.out.1, List.filter_cons_of_pos (by
            have := HNQ.out
            refine decide_eq_true (fun e => ?_)
            rw [e] at this
            simp only [List.length_nil] at this
            omega), List.filter_nil])
        go_wp2_with (first
          | (at_next; refine wpList_next_run _ rfl (.tmp 13) rfl _ _ rfl _ hnx ?_)
          | ((with_reducible refine gate_builtin (b := .append) (xs := #[.tmp 22, .tmp 24]) rfl ?_); at_builtin; refine Kd.R_append Kd.string (w0 := w) w.heap.size rfl (.tmp 22) (.tmp 24) 49 9 (.string ⟨#[]⟩) 16 rfl Try.underlying49 info9 rfl (by decide) (by omega) u3 es s [.string s] (fun k => w.heap.size < k) (fun _ => False) rfl rfl ?aP (fun _ h => h.elim) ?aF ?aO ?aB ?aS ?aL ?_; (case aP => exact rfl); (case aB => exact hb2.out); (case aF => exact (fun k hk => Nat.lt_of_lt_of_le HZ.out hk)); (case aO => exact hr2.out); (case aS => exact hb2.out.size); (case aL => have := HL.out; omega); intro v5 w5 ho5 hb5 hg5 hat5))
        have hI5 : IterF w5 w.heap.size M G (ds ++ [s]) cnt := HI2.out.move (hg5.block M HI2.out.map.lt (fun e => by have := HR.out.1 M e.symm; have := HMF.out.lt; omega)) (hg5.block _ HI2.out.lt (fun e => by have := HR.out.1 _ e.symm; omega))
        go_roundg k1
        case measure => omega
        case rel => exact ⟨ds ++ [s], ⟨by have := HK.out; rw [List.length_append]; simp; omega⟩, ⟨hI5⟩, ⟨by rw [HFI.out]; exact ho5⟩, ⟨hb5⟩⟩
      · have HFI := Aside0.mk (show (ds ++ [s]).filter (fun s => decide (Q s ≠ [])) = es by
          rw [List.filter_append, ← HES.out.1, List.filter_cons_of_neg (by
            have := HNQ.out
            rw [decide_eq_true_eq]
            exact fun e => e (List.eq_nil_of_length_eq_zero (by omega))), List.filter_nil, List.append_nil])
        go_wp2_with (first
          | (at_next; refine wpList_next_run _ rfl (.tmp 13) rfl _ _ rfl _ hnx ?_))
        go_roundg k1
        case measure => omega
        case rel => exact ⟨ds ++ [s], ⟨by have := HK.out; rw [List.length_append]; simp; omega⟩, HI2, ⟨by rw [HFI.out]; exact hr2.out⟩, hb2⟩
end Go.Proofs.Ytlnipfmgdkiboaa.N
