import Derived.Test.YtlnipfmgdkiboaaN19
import Derived.Test.YtlnipfmgdkiboaaS1
import Derived.Sort.OwnSorted
import Derived.Test.YtlnipfmgdkiboaaND
import Derived.Test.YtlnipfmgdkiboaaN18
import Derived.Deep.MidRow
import Derived.Test.YtlnipfmgdkiboaaNM
/- The network by hand: what waits by names; Tenants (mkN20.py, out of the tenants' Names). -/
namespace Go.Proofs.Ytlnipfmgdkiboaa.N
open Go.RowKit Go.Proofs.Ytlnipfmgdkiboaa.Q Go.Proofs.YtlnipfmgdkiboaaW.PrintWords Go.Proofs.YtlnipfmgdkiboaaW.PrintLast Go.Proofs.YtlnipfmgdkiboaaW.PrintMore
open Go.Proofs.Ytlnipfmgdkiboaa
set_option linter.unusedVariables false
set_option linter.unusedSimpArgs false
/-- A tenant's letters. -/
def ofSt (st : St) (s : ByteArray) : List S34 := match N.look st s with
  | some q => q.f1
  | none => []
/-- The letters by names. -/
structure Rep (Q : ByteArray → List S34) (st : St) : Prop where
  sorted : Sorted st
  some_ : ∀ q ∈ st, q.f1 ≠ []
  of : ∀ s, Q s = ofSt st s
def setS (st : St) (s : ByteArray) (l : List S34) : St := if l = [] then N.drop st s else N.put st ⟨s, l⟩
theorem info9 : (Try.prog.info? 9).map (fun i => (i.zero, i.size, i.bytes)) = some (some (.string ⟨#[]⟩), 1, 16) := by kernel_rfl
theorem Rep.nil : Rep (fun _ => []) [] := ⟨List.Pairwise.nil, fun q h => (by cases h), fun s => rfl⟩
theorem Rep.set {Q : ByteArray → List S34} {st : St} (h : Rep Q st) (s : ByteArray) (l : List S34) : Rep (setQ Q s l) (setS st s l) := by
  unfold setS
  by_cases hl : l = []
  · subst hl
    rw [if_pos rfl]
    refine ⟨drop_sorted s h.sorted, fun q hq => h.some_ q (List.mem_filter.1 hq).1, fun t => ?_⟩
    unfold setQ ofSt
    rw [look_drop]
    by_cases e : t = s
    · rw [if_pos e, if_pos e]
    · rw [if_neg e, if_neg e, h.of t]; rfl
  · rw [if_neg hl]
    refine ⟨put_sorted _ h.sorted, fun q hq => ?_, fun t => ?_⟩
    · rcases put_mem hq with e | ⟨e, _⟩ | e
      · rw [e]; exact hl
      · exact h.some_ q e
      · exact h.some_ q e
    · unfold setQ ofSt
      rw [look_put _ _ h.sorted]
      by_cases e : t = s
      · rw [if_pos e, if_pos (show t = (⟨s, l⟩ : Qu).f0 from e)]
      · rw [if_neg e, if_neg (show ¬ t = (⟨s, l⟩ : Qu).f0 from e), h.of t]; rfl
theorem Rep.total {Q : ByteArray → List S34} {st : St} (h : Rep Q st) (s : ByteArray) (l : List S34) : N.total (setS st s l) + (Q s).length = N.total st + l.length ∧ (setS st s l).length ≤ st.length + 1 := by
  have ho : (Q s).length = (match N.look st s with | some f => f.f1.length | none => 0) := by
    rw [h.of s]
    unfold ofSt
    cases N.look st s <;> rfl
  unfold setS
  by_cases hl : l = []
  · subst hl
    rw [if_pos rfl, ho]
    have := total_drop s h.sorted
    refine ⟨this.1.trans (by simp), Nat.le_trans (List.length_filter_le _ _) (Nat.le_succ _)⟩
  · rw [if_neg hl, ho]
    have := total_put (⟨s, l⟩ : Qu) h.sorted
    refine ⟨this.1, ?_⟩
    have h2 := this.2
    rw [h2]
    split <;> omega
theorem Rep.look {Q : ByteArray → List S34} {st : St} (h : Rep Q st) (s : ByteArray) : Q s = [] ↔ N.look st s = none := by
  rw [h.of s]
  unfold ofSt
  cases hl : N.look st s with
  | none => simp
  | some q =>
    have := h.some_ q (look_mem hl).1
    simp [this]
theorem Rep.at_ {Q : ByteArray → List S34} {st : St} (h : Rep Q st) {q : Qu} (hq : q ∈ st) : Q q.f0 = q.f1 := by
  rw [h.of q.f0]
  unfold ofSt
  rw [look_of_mem h.sorted hq]
theorem wpList_range_run {P : Program} (w : World) {ops : Array Oper} {rest : List Oper} {o : Oper} {a : Act} {Q : Exit → Act → World → Prop}
    (hg : o.guard = none) (m : Operand) (t : TypeId) (hop : o.op = Op.range t m) (M V : Value) (hm : a.eval m = M) (w1 : World)
    (hrun : (Instr.range t M).run P w = .ok V w1) (hK : wpList P ops Q rest (a.put o.dst V) w1) : wpList P ops Q (o :: rest) a w := by
  refine wpList_plain hg fun K' hK' => ?_
  unfold Oper.wp
  simp [execOp, hop, hm, hrun, Result.andThen]
  exact hK' _ _ hK
theorem wpList_next_run {P : Program} (w : World) {ops : Array Oper} {rest : List Oper} {o : Oper} {a : Act} {Q : Exit → Act → World → Prop}
    (hg : o.guard = none) (it : Operand) (hop : o.op = Op.next it false) (M V : Value) (hm : a.eval it = M) (w1 : World)
    (hrun : (Instr.next M false o.type).run P w = .ok V w1) (hK : wpList P ops Q rest (a.put o.dst V) w1) : wpList P ops Q (o :: rest) a w := by
  refine wpList_plain hg fun K' hK' => ?_
  unfold Oper.wp
  simp [execOp, hop, hm, hrun, Result.andThen]
  exact hK' _ _ hK
/-- The names in order. -/
theorem sorted_names {st : St} (hs : Sorted st) {ds : List ByteArray} (hn : ds.Nodup) (hm : ∀ s, s ∈ ds ↔ look st s ≠ none) :
    (ds.map (·.toList)).mergeSort (fun x y => decide (x ≤ y)) = st.map (fun f => f.f0.toList) := by
  have ht : ∀ a b : List UInt8, (decide (a ≤ b) || decide (b ≤ a)) = true := fun a b => by
    rcases List.le_total a b with h | h <;> simp [h]
  have tr : ∀ a b c : List UInt8, decide (a ≤ b) = true → decide (b ≤ c) = true → decide (a ≤ c) = true := fun a b c h1 h2 => by
    simp only [decide_eq_true_eq] at h1 h2 ⊢
    exact List.le_trans h1 h2
  have hinj : ∀ a b : ByteArray, a ≠ b → a.toList ≠ b.toList := fun a b h e => h (str_inj e)
  refine List.Perm.eq_of_pairwise (le := fun a b : List UInt8 => decide (a ≤ b) = true) (fun a b _ _ h1 h2 => ?_) (List.pairwise_mergeSort tr ht _) (List.pairwise_map.2 (hs.imp (fun {a b} h => ?_))) ((List.mergeSort_perm _ _).trans ((List.perm_ext_iff_of_nodup (hn.map _ hinj) (List.pairwise_map.2 (hs.imp (fun {a b} h => hinj a.f0 b.f0 h.ne)))).2 (fun l => ?_)))
  · simp only [decide_eq_true_eq] at h1 h2
    exact List.le_antisymm h1 h2
  · simp only [decide_eq_true_eq]
    exact List.le_of_lt h
  · simp only [List.mem_map]
    constructor
    · rintro ⟨s, hs', rfl⟩
      have h2 := (hm s).1 hs'
      cases hl : look st s with
      | none => exact absurd hl h2
      | some f => exact ⟨f, (look_mem hl).1, by rw [(look_mem hl).2]⟩
    · rintro ⟨f, hf, rfl⟩
      exact ⟨f.f0, (hm f.f0).2 (by rw [look_of_mem hs hf]; simp), rfl⟩
theorem names_len {st : St} (hs : Sorted st) {ds : List ByteArray} (hn : ds.Nodup) (hm : ∀ s, s ∈ ds ↔ look st s ≠ none) : ds.length = st.length := by
  have h := congrArg List.length (sorted_names hs hn hm)
  rw [List.length_mergeSort, List.length_map, List.length_map] at h
  exact h
theorem enc_str (s : ByteArray) : Go.Proofs.encStr s.toList = .string s := by
  unfold Go.Proofs.encStr
  rw [ByteArray.toList_eq]
theorem IterF.nodup {w : World} {r M : Nat} {G : ByteArray → Option Value} {done : List ByteArray} {cnt : Nat} (h : IterF w r M G done cnt) : done.Nodup := by
  obtain ⟨ma, clk, seen, c0, h1, h2, h3, h4, h5, h6, h7, h8, h9⟩ := h
  exact h7
set_option maxHeartbeats 1000000 in
set_option maxRecDepth 100000 in
theorem tenants_calls {w : World} {N M : Nat} {room : Int} {B : Nat} {own : Nat → Option ByteArray} {G : ByteArray → Option Value} {Q : ByteArray → List S34} {st : St} (h : NetG w N M room B own G Q) (hr : Rep Q st) (hf : st.length ≤ 1000) : Calls Try.prog 19 #[.pointer (some ⟨N, 0, none⟩)] w fun e w' => ∃ v, e = .returned v ∧ Kd.string.R 9 w' w.heap.size (fun k => w.heap.size ≤ k) v (st.map (·.f0)) ∧ Below w.heap.size w w' := by
  have c0 := h.cell.2
  have hMF := h.map
  have HTR := Aside0.mk hr
  have HFW := Aside0.mk hf
  have HMF := Aside0.mk hMF
  obtain ⟨w1, hrg, ⟨cnt, hI⟩, hB1⟩ := MapF.range (P := Try.prog) Try.underlying60 hMF
  have HD := Aside0.mk h
  have HI1 := Aside0.mk hI
  have HB1 := Aside0.mk hB1
  clear h hI hB1 hr hMF hf
  go_enter Try.func19, Try.ntmps19
  go_wp2_with (first
    | (go_at_call 25; (with_reducible refine (ok_calls N M _ c0).mono ?_); rintro e w9 ⟨rfl, h9⟩; subst w9)
    | (at_range; refine wpList_range_run _ rfl (.tmp 12) 60 rfl _ _ rfl _ hrg ?_))
  simp only [Act.put, List.setIfInBounds_toArray, List.set_cons_zero, List.set_cons_succ]
  go_loopg [3] (cnt + 1) (fun kq v3 wr => ∃ ds : List ByteArray, Aside0 (kq + ds.length = cnt + 1) ∧ Aside0 (IterF wr w.heap.size M G ds cnt) ∧ Aside0 (Kd.string.R 9 wr w.heap.size (fun k => w.heap.size < k) v3 (ds.filter (fun s => decide (Q s ≠ [])))) ∧ Aside0 (Below w.heap.size w wr))
  case atStart => exact ⟨[], ⟨rfl⟩, HI1, ⟨Kd.R_nil _ _ _ _ _⟩, HB1⟩
  case round =>
    obtain ⟨ds, HK, HI, HR, HB⟩ := hrel
    cases gk with
    | zero => have h1 := HK.out; have h2 := HI.out.count; omega
    | succ k1 =>
    obtain ⟨es, hes⟩ : ∃ es, es = ds.filter (fun s => decide (Q s ≠ [])) := ⟨_, rfl⟩
    have hen0 : es.Nodup := by rw [hes]; exact List.Pairwise.filter _ HI.out.nodup
    have hsub : ∀ s ∈ es, Go.Proofs.Ytlnipfmgdkiboaa.N.look st s ≠ none := fun s hs' e => by
      rw [hes] at hs'
      have := (List.mem_filter.1 hs').2
      exact of_decide_eq_true this ((HTR.out.look s).2 e)
    have hdl : es.length ≤ 1000 := by
      have h1 := len_le_of_sub (m := st.map (·.f0)) hen0 (fun s hs' => by
        cases hl : Go.Proofs.Ytlnipfmgdkiboaa.N.look st s with
        | none => exact absurd hl (hsub s hs')
        | some f => exact List.mem_map.2 ⟨f, look_mem hl⟩)
      rw [List.length_map] at h1
      have h2 := HFW.out
      omega
    have HES := Aside0.mk (And.intro hes (And.intro hen0 hsub))
    rw [← hes] at HR
    clear hes hen0 hsub
    have HL := Aside0.mk hdl
    clear hdl hrg c0
    rcases HI.out.next (P := Try.prog) 0 with ⟨hall, hnx⟩ | ⟨s, v, w2, hGs, hnd, hnx, hI2, hen, q1, q2, q3, q4, q5⟩
    · have hmem : ∀ s, s ∈ es ↔ Go.Proofs.Ytlnipfmgdkiboaa.N.look st s ≠ none := fun s => by
        constructor
        · exact HES.out.2.2 s
        · intro hs
          rw [HES.out.1]
          have hq : Q s ≠ [] := fun e => hs ((HTR.out.look s).1 e)
          refine List.mem_filter.2 ⟨?_, decide_eq_true hq⟩
          cases hg : G s with
          | none =>
            have hro := HD.out.rrows s
            rw [hg] at hro
            obtain ⟨A9, c9, he9, _⟩ := Kd.R_reads hro
            injection he9 with _ he9 _
            exact absurd (List.eq_nil_of_length_eq_zero he9.symm) hq
          | some v => exact hall s v hg
      have hsn := sorted_names HTR.out.sorted HES.out.2.1 hmem
      have hln := names_len HTR.out.sorted HES.out.2.1 hmem
      have hrow := Kd.own_of_R HR.out
      have HS := Aside0.mk (And.intro hsn hln)
      clear hsn hln hmem hall
      rcases hrow.2 with ⟨rfl, hnil⟩ | ⟨g, cap, cur, rfl, hbase, hb, b1, b2, b3, b4⟩
      · have HN := Aside0.mk hnil
        clear hrow hnil
        have hso : Calls Try.prog 32 #[.slice none 0 0] wr fun e w' => e = .returned (.tuple #[]) ∧ w' = wr := AnyM.slices_Sort_string_none Srt.sortL none 0 wr
        go_wp2_with (first
          | (at_next; refine wpList_next_run _ rfl (.tmp 13) rfl _ _ rfl _ hnx ?_)
          | (go_at_call 32; (with_reducible refine hso.mono ?_); rintro e w9 ⟨rfl, h9⟩; subst w9))
        go_ret
        refine ⟨_, rfl, ?_, HB.out⟩
        have h0 : st = [] := List.eq_nil_of_length_eq_zero (by have := HS.out.2; have := HN.out; omega)
        subst h0
        exact Kd.R_nil _ _ _ _ _
      · have hgl : g < wr.heap.size := heap_lt hb
        have henc : encs Value.string es = (es.map (·.toList)).map Go.Proofs.encStr := by
          unfold encs
          rw [List.map_map]
          exact List.map_congr_left (fun s _ => (enc_str s).symm)
        rw [Nat.mul_one, henc] at b4
        have hso : Calls Try.prog 32 #[.slice (some ⟨g, 0, none⟩) es.length cap] wr fun e w' => e = .returned (.tuple #[]) ∧ ∃ n os, w' = Go.Sort.grow (Go.Sort.putRow Go.Proofs.encStr (Go.Sort.ahead wr n) g 0 ((es.map (·.toList)).mergeSort fun x y => decide (x ≤ y)).toArray) os := by
          have := AnyM.slices_Sort_string Srt.sortL g 0 cap (es.map (·.toList)) wr (Go.holds_of_block hb (by rw [List.length_map]; exact b4)) hgl (by rw [List.length_map]; have := HL.out; omega)
          rw [List.length_map] at this
          exact this
        have HO := Aside0.mk (And.intro hbase (And.intro hb (And.intro b1 (And.intro b2 (And.intro b3 hgl)))))
        clear hrow hbase hb b1 b2 b3 b4 henc hgl
        go_wp2_with (first
          | (at_next; refine wpList_next_run _ rfl (.tmp 13) rfl _ _ rfl _ hnx ?_)
          | (go_at_call 32; (with_reducible refine hso.mono ?_); rintro e w9 ⟨rfl, n9, os9, h9⟩; have H9 := Aside0.mk h9; clear h9))
        go_ret
        obtain ⟨hbase, hb, b1, b2, b3, hgl⟩ := HO.out
        obtain ⟨hsn, hln⟩ := HS.out
        have hb' := HB.out
        have h9 := H9.out
        rw [hsn] at h9
        have hgr : wr.grownBy w9 (some g) := by rw [h9]; exact Go.grownBy_sorted _
        have hown : w9.ownsRow w.heap.size 9 1 (.slice (some ⟨g, 0, none⟩) es.length cap) es.length ((st.map (fun f => f.f0.toList)).map Go.Proofs.encStr) := by
          rw [h9]
          have := Go.ownsRow_sorted (w := wr) (base := w.heap.size) (g := g) (cap := cap) (n := n9) (e := 9) (os := os9) (cur := cur) (ss := es.map (·.toList)) (ts := st.map (fun f => f.f0.toList)) (by rw [List.length_map, List.length_map]; exact hln.symm) hbase hb (by rw [List.length_map]; exact b1) b2 b3
          rw [List.length_map] at this
          exact this
        refine ⟨_, rfl, Kd.R_of_own ?_ (fun k hk => ?_), below_trans_grown hb' hgr (fun k hk => ?_) hb'.size⟩
        · have he : encs Value.string (st.map (·.f0)) = (st.map (fun f => f.f0.toList)).map Go.Proofs.encStr := by
            unfold encs
            rw [List.map_map, List.map_map]
            exact List.map_congr_left (fun f _ => (enc_str f.f0).symm)
          rw [he, List.length_map, ← hln]
          exact hown
        · have : g = k := by simpa [Value.ownBlock] using hk
          omega
        · injection hk with hk
          omega
    · have hvv : ∃ Av cv, v = .slice Av (Q s).length cv := by
        have hro := HD.out.rrows s
        rw [hGs] at hro
        obtain ⟨A9, c9, he9, _⟩ := Kd.R_reads hro
        exact ⟨A9, c9, he9⟩
      obtain ⟨Av, cv, hvv⟩ := hvv
      subst hvv
      obtain ⟨nq, hnq⟩ : ∃ n : Nat, n = (Q s).length := ⟨_, rfl⟩
      rw [← hnq] at hen hGs
      have hr2 := Aside0.mk (Kd.R_move HR.out (fun k (hk : w.heap.size < k) => q5 k (by omega)))
      have hb2 : Aside0 (Below w.heap.size w w2) := ⟨by
        have hb := HB.out
        exact ⟨q1.trans hb.os, q2.trans hb.tape, q3.trans hb.output, by rw [q4]; exact hb.size, fun k hk => (q5 k (by omega)).trans (hb.block k hk)⟩⟩
      have HI2 := Aside0.mk hI2
      have HZ := Aside0.mk (show w.heap.size < w2.heap.size from hI2.lt)
      have HNQ := Aside0.mk hnq
      clear q1 q2 q3 q4 q5 hI2 hnd hGs hnq
      by_cases hpos : (nq : Int) > 0
      · have HFI := Aside0.mk (show (ds ++ [s]).filter (fun s => decide (Q s ≠ [])) = es ++ [s] by
          rw [List.filter_append, ← HES.out.1, List.filter_cons_of_pos (by
            have := HNQ.out
            refine decide_eq_true (fun e => ?_)
            rw [e] at this
            simp only [List.length_nil] at this
            omega), List.filter_nil])
        go_wp2_with (first
          | (at_next; refine wpList_next_run _ rfl (.tmp 13) rfl _ _ rfl _ hnx ?_)
          | ((with_reducible refine gate_builtin (b := .append) (xs := #[.tmp 22, .tmp 24]) rfl ?_); at_builtin; refine Kd.R_append Kd.string (w0 := w) w.heap.size rfl (.tmp 22) (.tmp 24) 49 9 (.string ⟨#[]⟩) 16 rfl Try.underlying49 info9 rfl (by decide) (by omega) u3 es s [.string s] (fun k => w.heap.size < k) (fun _ => False) rfl rfl ?aP (fun _ h => h.elim) ?aF ?aO ?aB ?aS ?aL ?_; (case aP => exact rfl); (case aB => exact hb2.out); (case aF => exact (fun k hk => Nat.lt_of_lt_of_le HZ.out hk)); (case aO => exact hr2.out); (case aS => exact hb2.out.size); (case aL => have := HL.out; omega); intro v5 w5 ho5 hb5 hg5 hat5))
        have hI5 : IterF w5 w.heap.size M G (ds ++ [s]) cnt := HI2.out.move (hg5.block M HI2.out.map.lt (fun e => by have := HR.out.1 M e.symm; have := HMF.out.lt; omega)) (hg5.block _ HI2.out.lt (fun e => by have := HR.out.1 _ e.symm; omega))
        go_roundg k1
        case measure => omega
        case rel => exact ⟨ds ++ [s], ⟨by have := HK.out; rw [List.length_append]; simp; omega⟩, ⟨hI5⟩, ⟨by rw [HFI.out]; exact ho5⟩, ⟨hb5⟩⟩
      · have HFI := Aside0.mk (show (ds ++ [s]).filter (fun s => decide (Q s ≠ [])) = es by
          rw [List.filter_append, ← HES.out.1, List.filter_cons_of_neg (by
            have := HNQ.out
            rw [decide_eq_true_eq]
            exact fun e => e (List.eq_nil_of_length_eq_zero (by omega))), List.filter_nil, List.append_nil])
        go_wp2_with (first
          | (at_next; refine wpList_next_run _ rfl (.tmp 13) rfl _ _ rfl _ hnx ?_))
        go_roundg k1
        case measure => omega
        case rel => exact ⟨ds ++ [s], ⟨by have := HK.out; rw [List.length_append]; simp; omega⟩, HI2, ⟨by rw [HFI.out]; exact hr2.out⟩, hb2⟩
end Go.Proofs.Ytlnipfmgdkiboaa.N
/- The network by hand: what NetHonest keeps, in memory and plainly. -/
namespace Go.Proofs.Ytlnipfmgdkiboaa.N
open Go.RowKit Go.Proofs.Ytlnipfmgdkiboaa.Q Go.Proofs.YtlnipfmgdkiboaaW.PrintWords Go.Proofs.YtlnipfmgdkiboaaW.PrintLast Go.Proofs.YtlnipfmgdkiboaaW.PrintMore
set_option linter.unusedVariables false
set_option linter.unusedSimpArgs false
/-- A block that no act turns: none of a tenant's, or one of bytes. -/
def Free (W : World) (M : Nat) (own : Nat → Option ByteArray) (k : Nat) : Prop := (own k = none ∧ k ≠ M) ∨ ∃ cells, W.heap[k]? = some (Obj.cells cells 5 (0, 0))
theorem Free.same {W W' : World} {M : Nat} {own : Nat → Option ByteArray} {k : Nat} (h : Free W M own k) (hk : W'.heap[k]? = W.heap[k]?) : Free W' M own k := h.imp id (fun ⟨c, hc⟩ => ⟨c, hk.trans hc⟩)
theorem Free.left {W W' : World} {N M : Nat} {room : Int} {B : Nat} {own own' : Nat → Option ByteArray} {s : ByteArray} {Q' : ByteArray → List S34} (hl : Left W N M room B own s Q' own' W') {k : Nat} (hk : Free W M own k) (hlt : k < W.heap.size) : W'.heap[k]? = W.heap[k]? ∧ Free W' M own' k := by
  obtain ⟨G', hN, hC, hO⟩ := hl
  rcases hk with ⟨h1, h2⟩ | ⟨c, hc⟩
  · exact ⟨hC.block k hlt (fun e => e.elim h2 (fun e => by rw [h1] at e; cases e)), .inl ⟨(hO k hlt).trans h1, h2⟩⟩
  · exact ⟨hC.five k c hc, .inr ⟨c, (hC.five k c hc).trans hc⟩⟩
/-- The network, and two lists of letters beside it. -/
structure HonM (w W : World) (N M : Nat) (room : Int) (own : Nat → Option ByteArray) (Q : ByteArray → List S34) (vs vt : Value) (sn tk : List S34) : Prop where
  net : ∃ G, NetG W N M room w.heap.size own G Q
  sent : Kd.N k34 34 W w.heap.size (fun k => Free W M own k ∧ some k ≠ vt.ownBlock) vs sn
  took : Kd.N k34 34 W w.heap.size (fun k => Free W M own k ∧ some k ≠ vs.ownBlock) vt tk
  below : Below w.heap.size w W
theorem N_free {W W' : World} {M b : Nat} {own own' : Nat → Option ByteArray} {P : Nat → Prop} {v : Value} {xs : List S34} (h : Kd.N k34 34 W b (fun k => Free W M own k ∧ P k) v xs) (hf : ∀ k, Free W M own k → k < W.heap.size → W'.heap[k]? = W.heap[k]? ∧ Free W' M own' k) : Kd.N k34 34 W' b (fun k => Free W' M own' k ∧ P k) v xs :=
  Kd.N_mono (Kd.N_step (Kd.N_bound h) (fun k hk hlt => (hf k hk.1.1 hlt).1)) (fun k hk => ⟨(hf k hk.1.1 hk.2).2, hk.1.2⟩)
theorem HonM.then_ {w W W' : World} {N M : Nat} {room : Int} {own : Nat → Option ByteArray} {Q : ByteArray → List S34} {vs vt : Value} {sn tk : List S34} (h : HonM w W N M room own Q vs vt sn tk) (hb : Below W.heap.size W W') : HonM w W' N M room own Q vs vt sn tk := by
  obtain ⟨G, hN⟩ := h.net
  exact ⟨⟨G, hN.below hb⟩, N_free h.sent (fun k hk hlt => ⟨hb.block k hlt, hk.same (hb.block k hlt)⟩), N_free h.took (fun k hk hlt => ⟨hb.block k hlt, hk.same (hb.block k hlt)⟩), h.below.trans (hb.mono h.below.size)⟩
theorem HonM.left {w W W' : World} {N M : Nat} {room : Int} {own own' : Nat → Option ByteArray} {Q Q' : ByteArray → List S34} {vs vt : Value} {sn tk : List S34} (h : HonM w W N M room own Q vs vt sn tk) {s : ByteArray} (hl : Left W N M room w.heap.size own s Q' own' W') : HonM w W' N M room own' Q' vs vt sn tk := by
  obtain ⟨G, hN⟩ := h.net
  have hb := hl.below hN h.below rfl
  have hf : ∀ k, Free W M own k → k < W.heap.size → W'.heap[k]? = W.heap[k]? ∧ Free W' M own' k := fun k hk hlt => Free.left hl hk hlt
  have h1 := N_free h.sent hf
  have h2 := N_free h.took hf
  obtain ⟨G', hN', _⟩ := hl
  exact ⟨⟨G', hN'⟩, h1, h2, hb⟩
theorem HonM.fresh {w W : World} {N M : Nat} {room : Int} {own : Nat → Option ByteArray} {Q : ByteArray → List S34} {vs vt : Value} {sn tk : List S34} (h : HonM w W N M room own Q vs vt sn tk) {k : Nat} (hk : W.heap.size ≤ k) : Free W M own k ∧ some k ≠ vs.ownBlock ∧ some k ≠ vt.ownBlock := by
  obtain ⟨G, hN⟩ := h.net
  refine ⟨.inl ⟨?_, fun e => by have := hN.map.lt; omega⟩, fun e => ?_, fun e => ?_⟩
  · cases ho : own k with
    | none => rfl
    | some t => have := (hN.lt k t ho).2; omega
  · have := Kd.N_lt h.sent k e.symm; omega
  · have := Kd.N_lt h.took k e.symm; omega
/-- What was there ahead of all is none of theirs. -/
theorem HonM.elder {w W : World} {N M : Nat} {room : Int} {own : Nat → Option ByteArray} {Q : ByteArray → List S34} {vs vt : Value} {sn tk : List S34} (h : HonM w W N M room own Q vs vt sn tk) {k : Nat} (hk : k < w.heap.size) : Free W M own k ∧ some k ≠ vs.ownBlock ∧ some k ≠ vt.ownBlock := by
  obtain ⟨G, hN⟩ := h.net
  refine ⟨.inl ⟨?_, fun e => by have := hN.baseM; omega⟩, fun e => ?_, fun e => ?_⟩
  · cases ho : own k with
    | none => rfl
    | some t => have := (hN.lt k t ho).1; omega
  · have := Kd.N_base h.sent k e.symm; omega
  · have := Kd.N_base h.took k e.symm; omega
/-- Bytes are none of a row of letters. -/
theorem HonM.bytes {w W : World} {N M : Nat} {room : Int} {own : Nat → Option ByteArray} {Q : ByteArray → List S34} {vs vt : Value} {sn tk : List S34} (h : HonM w W N M room own Q vs vt sn tk) {k : Nat} {cells : Array Value} (hk : W.heap[k]? = some (Obj.cells cells 5 (0, 0))) : Free W M own k ∧ some k ≠ vs.ownBlock ∧ some k ≠ vt.ownBlock :=
  ⟨.inr ⟨cells, hk⟩, Kd.N_ne h.sent hk (by decide), Kd.N_ne h.took hk (by decide)⟩
theorem HonM.made {w W : World} {N M : Nat} {room : Int} {own : Nat → Option ByteArray} {G : ByteArray → Option Value} {Q : ByteArray → List S34} (h : NetG W N M room w.heap.size own G Q) (hb : Below w.heap.size w W) : HonM w W N M room own Q (.slice none 0 0) (.slice none 0 0) [] [] := ⟨⟨G, h⟩, Kd.N_nil _ _ _ _ _, Kd.N_nil _ _ _ _ _, hb⟩
theorem F_take {w : World} {ok : Nat → Prop} {A : Option Addr} {n m : Nat} {xs : List S34} (h : Kd.F k34 w ok A n xs) (hm : m ≤ n) : Kd.F k34 w ok A m (xs.take m) := Kd.F_imp h (fun W' hC => by
  have hn : xs.length = n := hC.1
  subst hn
  exact rows_take hC hm)
/-- What NetHonest keeps, plainly. -/
structure HonP (Q : ByteArray → List S34) (st : St) (sn tk : List S34) (many more : Int) (j : Nat) : Prop where
  rep : Rep Q st
  qs : ∀ s x, x ∈ Q s → x ∈ sn
  ts : ∀ x, x ∈ tk → x ∈ sn
  sum : many + more = N.total st
  b1 : many ≤ 300 * j
  b2 : -(300 * j) ≤ many
  b3 : 0 ≤ more ∧ more ≤ j
  b4 : sn.length ≤ 300 * j
  b5 : tk.length ≤ j
  b6 : st.length ≤ j
theorem HonP.nil : HonP (fun _ => []) [] [] [] 0 0 0 := ⟨Rep.nil, fun s x h => (by cases h), fun x h => (by cases h), rfl, by omega, by omega, by omega, by simp, by simp, by simp⟩
theorem HonP.send {Q : ByteArray → List S34} {st : St} {sn tk : List S34} {many more : Int} {j : Nat} (h : HonP Q st sn tk many more j) (s : ByteArray) (ls : List S34) (k : Nat) (hk : k ≤ ls.length) (hk2 : k ≤ 256) : HonP (setQ Q s (Q s ++ ls.take k)) (setS st s (Q s ++ ls.take k)) (sn ++ ls.take k) tk (many + k) more (j + 1) := by
  have ht := h.rep.total s (Q s ++ ls.take k)
  have hl : (ls.take k).length = k := by rw [List.length_take]; omega
  rw [List.length_append, hl] at ht
  refine ⟨h.rep.set s _, fun t x hx => ?_, fun x hx => List.mem_append_left _ (h.ts x hx), ?_, by have := h.b1; omega, by have := h.b2; omega, by have := h.b3; omega, by have := h.b4; rw [List.length_append, hl]; omega, by have := h.b5; omega, by have := h.b6; omega⟩
  · unfold setQ at hx
    split at hx
    · rcases List.mem_append.1 hx with hx | hx
      · exact List.mem_append_left _ (h.qs s x hx)
      · exact List.mem_append_right _ hx
    · exact List.mem_append_left _ (h.qs t x hx)
  · have := h.sum; omega
theorem HonP.take {Q : ByteArray → List S34} {st : St} {sn tk : List S34} {many more : Int} {j : Nat} (h : HonP Q st sn tk many more j) (s : ByteArray) (i : Int) (hi : 0 ≤ i ∧ i < (Q s).length) : HonP (takeQ Q s i) (setS st s ((Q s).take i.toNat ++ (Q s).drop (i.toNat + 1))) sn tk (many - 1) more (j + 1) ∧ takeX Q s i ∈ sn := by
  have hin : i.toNat < (Q s).length := by omega
  have ht := h.rep.total s ((Q s).take i.toNat ++ (Q s).drop (i.toNat + 1))
  have hl : ((Q s).take i.toNat ++ (Q s).drop (i.toNat + 1)).length + 1 = (Q s).length := by rw [List.length_append, List.length_take, List.length_drop]; omega
  have hq : takeQ Q s i = setQ Q s ((Q s).take i.toNat ++ (Q s).drop (i.toNat + 1)) := by unfold takeQ; rw [if_pos hi]
  rw [hq]
  refine ⟨⟨h.rep.set s _, fun t x hx => ?_, h.ts, by have := h.sum; omega, by have := h.b1; omega, by have := h.b2; omega, by have := h.b3; omega, by have := h.b4; omega, by have := h.b5; omega, by have := h.b6; omega⟩, ?_⟩
  · unfold setQ at hx
    split at hx
    · rcases List.mem_append.1 hx with hx | hx
      · exact h.qs s x (List.mem_of_mem_take hx)
      · exact h.qs s x (List.mem_of_mem_drop hx)
    · exact h.qs t x hx
  · unfold takeX
    rw [if_pos hi, List.getD_eq_getElem?_getD, List.getElem?_eq_getElem hin]
    exact h.qs s _ (List.getElem_mem hin)
theorem HonP.took {Q : ByteArray → List S34} {st : St} {sn tk : List S34} {many more : Int} {j : Nat} (h : HonP Q st sn tk many more (j + 1)) {x : S34} (hx : x ∈ sn) (hb : tk.length ≤ j) : HonP Q st sn (tk ++ [x]) many more (j + 1) :=
  ⟨h.rep, h.qs, fun y hy => by
    rcases List.mem_append.1 hy with hy | hy
    · exact h.ts y hy
    · rw [List.mem_singleton.1 hy]; exact hx, h.sum, h.b1, h.b2, h.b3, h.b4, by rw [List.length_append]; simp; omega, h.b6⟩
theorem HonP.double {Q : ByteArray → List S34} {st : St} {sn tk : List S34} {many more : Int} {j : Nat} (h : HonP Q st sn tk many more j) (s : ByteArray) (i : Int) (hi : 0 ≤ i ∧ i < (Q s).length) : HonP (setQ Q s (Q s ++ [(Q s).getD i.toNat z34])) (setS st s (Q s ++ [(Q s).getD i.toNat z34])) sn tk many (more + 1) (j + 1) := by
  have hin : i.toNat < (Q s).length := by omega
  have ht := h.rep.total s (Q s ++ [(Q s).getD i.toNat z34])
  rw [List.length_append, List.length_singleton] at ht
  refine ⟨h.rep.set s _, fun t x hx => ?_, h.ts, by have := h.sum; omega, by have := h.b1; omega, by have := h.b2; omega, by have := h.b3; omega, by have := h.b4; omega, by have := h.b5; omega, by have := h.b6; omega⟩
  unfold setQ at hx
  split at hx
  · rcases List.mem_append.1 hx with hx | hx
    · exact h.qs s x hx
    · rw [List.mem_singleton.1 hx, List.getD_eq_getElem?_getD, List.getElem?_eq_getElem hin]
      exact h.qs s _ (List.getElem_mem hin)
  · exact h.qs t x hx
end Go.Proofs.Ytlnipfmgdkiboaa.N
/- The network by hand: the acts, as NetHonest takes them. -/
namespace Go.Proofs.Ytlnipfmgdkiboaa.N
open Go.RowKit Go.Proofs.Ytlnipfmgdkiboaa.Q Go.Proofs.YtlnipfmgdkiboaaW.PrintWords Go.Proofs.YtlnipfmgdkiboaaW.PrintLast Go.Proofs.YtlnipfmgdkiboaaW.PrintMore
set_option linter.unusedVariables false
set_option linter.unusedSimpArgs false
theorem size31 : (Try.prog.info? 31).map (·.size) = some 4 := by kernel_rfl
theorem size34 : (Try.prog.info? 34).map (·.size) = some 2 := by kernel_rfl
section
variable {ops : Array Oper} {rest : List Oper} {op : Oper} {a : Act} {w : World} {Q : Exit → Act → World → Prop}
theorem store_blk (hgd : op.guard = none) (t : TypeId) (x y : Operand) (ho : op.op = .store t x y) (B : Nat) (cs cs' : List Value) (hx : a.eval x = .pointer (some ⟨B, 0, none⟩)) (hy : a.eval y = .agg cs'.toArray) (h : w.heap[B]? = some (.cells cs.toArray t (0, 0))) (hl : cs'.length = cs.length) (hi : (Try.prog.info? t).map (·.size) = some cs'.length) (h1 : ∀ v ∈ cs', v.oneCell' = true)
    (hk : ∀ w1, w1.heap[B]? = some (.cells cs'.toArray t (0, 0)) → (∀ k, k ≠ B → w1.heap[k]? = w.heap[k]?) → (∀ W : World, W.heap.size ≤ B → Below W.heap.size W w → Below W.heap.size W w1) → wpList Try.prog ops Q rest (a.put op.dst undef) w1) : wpList Try.prog ops Q (op :: rest) a w := by
  have hsz : (cs'.toArray).size = cs'.length := by simp
  refine wpList_store_mid hgd t x y ho B 0 cs'.toArray hx hy (fun j hj => ?_) (by rw [hsz]; exact hi) (all_oneCell_toArray h1) ?_
  · rw [Nat.zero_add]
    refine ⟨?_, blk_frozen h j⟩
    rw [blk_cell h j]
    simp
    rw [hsz] at hj
    omega
  · obtain ⟨cur', h3, h4, h5⟩ := setCells_row cs' 0 w cs.toArray h (by simp; omega)
    obtain ⟨s1, s2, s3, s4⟩ := setCells_same B cs' 0 w
    have e : cur' = cs'.toArray := by
      have : cur'.toList = cs' := by rw [h5]; simp; omega
      rw [← this]
    rw [e] at h3
    refine hk _ h3 (fun k hne => setCells_far _ _ k hne) (fun W hW hb => ?_)
    exact ⟨s1.trans hb.os, s2.trans hb.tape, s3.trans hb.output, by rw [s4]; exact hb.size, fun k hk => (setCells_far _ _ k (by omega)).trans (hb.block k hk)⟩
end
/-- An act's cells; a letter's. -/
def opL (d : Int) (s : ByteArray) (A : Option Addr) (n c : Nat) (i : Int) : List Value := [.int .i64 d, .string s, .slice A n c, .int .i64 i]
theorem opL_one (d : Int) (s : ByteArray) (A : Option Addr) (n c : Nat) (i : Int) : ∀ v ∈ opL d s A n c i, v.oneCell' = true := by
  intro v hv
  simp only [opL, List.mem_cons, List.not_mem_nil, or_false] at hv
  rcases hv with rfl | rfl | rfl | rfl <;> rfl
def leL (t : Int) (A : Option Addr) (n c : Nat) : List Value := [.int .i64 t, .slice A n c]
theorem leL_one (t : Int) (A : Option Addr) (n c : Nat) : ∀ v ∈ leL t A n c, v.oneCell' = true := by
  intro v hv
  simp only [leL, List.mem_cons, List.not_mem_nil, or_false] at hv
  rcases hv with rfl | rfl <;> rfl
theorem cellsO {w : World} {X : Nat} {d : Int} {s : ByteArray} {A : Option Addr} {n c : Nat} {i : Int} (h : w.heap[X]? = some (.cells (opL d s A n c i).toArray 31 (0, 0))) : w.cell? ⟨X, 0, none⟩ = some (.int .i64 d) ∧ w.cell? ⟨X, 1, none⟩ = some (.string s) ∧ w.cell? ⟨X, 2, none⟩ = some (.slice A n c) ∧ w.cell? ⟨X, 3, none⟩ = some (.int .i64 i) :=
  ⟨(blk_cell h 0).trans rfl, (blk_cell h 1).trans rfl, (blk_cell h 2).trans rfl, (blk_cell h 3).trans rfl⟩
theorem cellsL {w : World} {X : Nat} {t : Int} {A : Option Addr} {n c : Nat} (h : w.heap[X]? = some (.cells (leL t A n c).toArray 34 (0, 0))) : w.cell? ⟨X, 0, none⟩ = some (.int .i64 t) ∧ w.cell? ⟨X, 1, none⟩ = some (.slice A n c) :=
  ⟨(blk_cell h 0).trans rfl, (blk_cell h 1).trans rfl⟩
section
variable {w W : World} {N M : Nat} {room : Int} {own : Nat → Option ByteArray} {Q : ByteArray → List S34} {vs vt : Value} {sn tk : List S34}
/-- What no act turns stays, and stays so. -/
def Keep (W : World) (M : Nat) (own : Nat → Option ByteArray) (W' : World) (own' : Nat → Option ByteArray) : Prop := ∀ k, Free W M own k → k < W.heap.size → W'.heap[k]? = W.heap[k]? ∧ Free W' M own' k
theorem HonM.kk (h : HonM w W N M room own Q vs vt sn tk) (s : ByteArray) (n : Nat) : ∃ kk : Nat, kk = min n (room - (Q s).length).toNat ∧ kk ≤ n ∧ kk ≤ 256 ∧ (kk = n ∨ ((Q s).length : Int) + kk = room) := by
  obtain ⟨G, hN⟩ := h.net
  have h1 := hN.room1
  have h2 := hN.room2
  have h3 := hN.few s
  exact ⟨_, rfl, by omega, by omega, by omega⟩
theorem HonM.send (h : HonM w W N M room own Q vs vt sn tk) (s : ByteArray) (ht : tenant s = true) {A : Option Addr} {n c : Nat} {ls : List S34} (hF : Kd.F k34 w (fun k => k < w.heap.size) A n ls) (hn : n = ls.length) (hc : n ≤ c) (hsh : ∀ x ∈ ls, x.f1.length < 140737488355328) {kk : Nat} (hkk : kk = min n (room - (Q s).length).toNat) :
    Calls Try.prog 10 #[.pointer (some ⟨N, 0, none⟩), .string s, .slice A n c] W fun e W' => e = .returned (.tuple #[.int .i64 kk, .int .i64 0]) ∧ ∃ own', HonM w W' N M room own' (setQ Q s (Q s ++ ls.take kk)) vs vt sn tk ∧ Keep W M own W' own' := by
  subst hn
  subst hkk
  obtain ⟨G, hN⟩ := h.net
  have hk : sendK room Q s ls = min ls.length (room - (Q s).length).toNat := by simp [sendK, ht]
  refine (send_any hN s A c ls (fun w' hc' => Kd.F_now (Kd.F_below hF (hc'.onto h.below (Nat.le_refl _) (fun k e => e.elim (fun e => e ▸ hN.baseM) (fun e => (hN.lt k _ e).1))))) hc hsh).mono fun e W' ⟨he, own', hL⟩ => ⟨?_, own', ?_⟩
  · rw [he, hk]; simp [sendE, ht]
  · have := h.left hL
    rw [sendQ, if_pos ht, hk] at this
    exact ⟨this, fun k hk hlt => Free.left hL hk hlt⟩
theorem HonM.len (h : HonM w W N M room own Q vs vt sn tk) (s : ByteArray) {m : Int} (hm : ((Q s).length : Int) = m) : Calls Try.prog 15 #[.pointer (some ⟨N, 0, none⟩), .string s] W fun e W' => e = .returned (.int .i64 m) ∧ W' = W := by
  obtain ⟨G, hN⟩ := h.net
  rw [← hm]
  exact len_calls hN s
theorem HonM.take (h : HonM w W N M room own Q vs vt sn tk) (s : ByteArray) (i : Int) {X : S34} {E : Int} {nn : Nat} (hX : takeX Q s i = X) (hE : takeE Q s i = E) (hn : X.f1.length = nn) :
    Calls Try.prog 11 #[.pointer (some ⟨N, 0, none⟩), .string s, .int .i64 i] W fun e W' => ∃ own' A1 c1, e = .returned (.tuple #[.agg #[.int .i64 X.f0, .slice A1 nn c1], .int .i64 E]) ∧ HonM w W' N M room own' (takeQ Q s i) vs vt sn tk ∧ Keep W M own W' own' ∧ Kd.FK k34 W' (fun k => ∃ cells, W'.heap[k]? = some (Obj.cells cells 5 (0, 0))) X [.int .i64 X.f0, .slice A1 nn c1] := by
  subst hX; subst hE; subst hn
  obtain ⟨G, hN⟩ := h.net
  refine (take_any hN s i).mono fun e W' ⟨own', A1, c1, he, hL, hM⟩ => ⟨own', A1, c1, he, h.left hL, fun k hk hlt => Free.left hL hk hlt, Kd.FK_of_M (k34.M_mono (fun k hk => ?_) (k34.M_bound hM))⟩
  obtain ⟨_, _, _, q, hq, cells, hc⟩ := hk
  rw [(by decide : ∀ q ∈ k34.E, q = 5) q hq] at hc
  exact ⟨cells, hc⟩
theorem HonM.drop (h : HonM w W N M room own Q vs vt sn tk) (s : ByteArray) (i : Int) {E : Int} (hE : takeE Q s i = E) :
    Calls Try.prog 12 #[.pointer (some ⟨N, 0, none⟩), .string s, .int .i64 i] W fun e W' => e = .returned (.int .i64 E) ∧ ∃ own', HonM w W' N M room own' (takeQ Q s i) vs vt sn tk ∧ Keep W M own W' own' := by
  subst hE
  obtain ⟨G, hN⟩ := h.net
  exact (drop_any hN s i).mono fun e W' ⟨he, own', hL⟩ => ⟨he, own', h.left hL, fun k hk hlt => Free.left hL hk hlt⟩
theorem HonM.double (h : HonM w W N M room own Q vs vt sn tk) (s : ByteArray) (i : Int) {E : Int} (hE : doubleE room Q s i = E) :
    Calls Try.prog 13 #[.pointer (some ⟨N, 0, none⟩), .string s, .int .i64 i] W fun e W' => e = .returned (.int .i64 E) ∧ ∃ own', HonM w W' N M room own' (doubleQ room Q s i) vs vt sn tk ∧ Keep W M own W' own' := by
  subst hE
  obtain ⟨G, hN⟩ := h.net
  exact (double_any hN s i).mono fun e W' ⟨he, own', hL⟩ => ⟨he, own', h.left hL, fun k hk hlt => Free.left hL hk hlt⟩
theorem HonM.tenants (h : HonM w W N M room own Q vs vt sn tk) {st : St} (hr : Rep Q st) (hf : st.length ≤ 1000) {m : Nat} (hm : m = st.length) : Calls Try.prog 19 #[.pointer (some ⟨N, 0, none⟩)] W fun e W' => ∃ A c, e = .returned (.slice A m c) ∧ Kd.F Kd.string W' (fun k => (Free W' M own k ∧ some k ≠ vs.ownBlock) ∧ some k ≠ vt.ownBlock) A m (st.map (·.f0)) ∧ HonM w W' N M room own Q vs vt sn tk ∧ Below W.heap.size W W' := by
  subst hm
  obtain ⟨G, hN⟩ := h.net
  refine (tenants_calls hN hr hf).mono fun e W' ⟨v, he, hR, hb⟩ => ?_
  obtain ⟨A, c, hv, _, _⟩ := Kd.R_reads hR
  rw [List.length_map] at hv
  rw [hv] at hR
  refine ⟨A, c, by rw [he, hv], Kd.F_mono (Kd.R_F hR) (fun k hk => ?_), h.then_ hb, hb⟩
  have := h.fresh hk
  refine ⟨⟨?_, this.2.1⟩, this.2.2⟩
  rcases this.1 with e | ⟨cells, e⟩
  · exact .inl e
  · have := heap_lt e; omega
/-- A tenant's letters, as All tells them. -/
theorem HonM.all (h : HonM w W N M room own Q vs vt sn tk) (s : ByteArray) : Calls Try.prog 17 #[.pointer (some ⟨N, 0, none⟩), .string s] W fun e W' => ∃ Bs v, e = .returned (.func (.func 30) #[] #[.pointer (some ⟨Bs, 0, none⟩)]) ∧ W'.heap[Bs]? = some (.cells #[v] 29 (0, 0)) ∧ k34.R 34 W' W.heap.size (fun k => W.heap.size ≤ k) v (Q s) ∧ HonM w W' N M room own Q vs vt sn tk ∧ Below W.heap.size W W' := by
  obtain ⟨G, hN⟩ := h.net
  exact (all_calls hN s).mono fun e W' ⟨Bs, v, he, hx, hge, hR, hb⟩ => ⟨Bs, v, he, hx, hR, h.then_ hb, hb⟩
theorem HonM.told (h : HonM w W N M room own Q vs vt sn tk) {W0 : World} (h0 : HonM w W0 N M room own Q vs vt sn tk) (hb0 : Below W0.heap.size W0 W) {Bs : Nat} {v : Value} {ls : List S34} {n : Nat} (hx : W.heap[Bs]? = some (.cells #[v] 29 (0, 0))) (hR : k34.R 34 W W0.heap.size (fun k => W0.heap.size ≤ k) v ls) (hl : ls.length ≤ 1000) (hn : n = ls.length) :
    Calls Try.prog 16 #[.func (.func 30) #[] #[.pointer (some ⟨Bs, 0, none⟩)], .int .i64 1048576] W fun e W' => ∃ A c, e = .returned (.tuple #[.slice A n c, .bool true]) ∧ n ≤ c ∧ Kd.F k34 W' (fun k => Free W' M own k ∧ some k ≠ vs.ownBlock ∧ some k ≠ vt.ownBlock) A n ls ∧ HonM w W' N M room own Q vs vt sn tk ∧ Below W.heap.size W W' := by
  subst hn
  refine (callsIn_wide.1 (told_in hx hR hl hb0.size 1048576 (by decide) (by decide))).mono fun e W' ⟨v', he, hR', hB⟩ => ?_
  rw [List.take_of_length_le (by omega)] at hR'
  obtain ⟨A, c, rfl, hc, _⟩ := Kd.R_reads hR'
  refine ⟨A, c, he, hc, Kd.F_mono (Kd.R_F hR') (fun k hk => ?_), h.then_ hB, hB⟩
  have hk0 : W0.heap.size ≤ k := hk.elim id (fun e => Nat.le_trans hb0.size e)
  have := h0.fresh hk0
  refine ⟨?_, this.2⟩
  rcases this.1 with e | ⟨cells, e⟩
  · exact .inl e
  · have := heap_lt e; omega
/-- .. with a block beside it. -/
structure HonX (w W : World) (N M : Nat) (room : Int) (own : Nat → Option ByteArray) (Q : ByteArray → List S34) (vs vt : Value) (sn tk : List S34) (X : Nat) (cs : List Value) (t : TypeId) : Prop where
  m : HonM w W N M room own Q vs vt sn tk
  fr : Free W M own X
  blk : W.heap[X]? = some (.cells cs.toArray t (0, 0))
theorem HonX.then_ {W' : World} {X : Nat} {cs : List Value} {t : TypeId} (h : HonX w W N M room own Q vs vt sn tk X cs t) (hb : Below W.heap.size W W') : HonX w W' N M room own Q vs vt sn tk X cs t :=
  ⟨h.m.then_ hb, h.fr.same (hb.block X (heap_lt h.blk)), (hb.block X (heap_lt h.blk)).trans h.blk⟩
theorem HonX.keep {W' : World} {own' : Nat → Option ByteArray} {Q' : ByteArray → List S34} {vs' vt' : Value} {sn' tk' : List S34} {X : Nat} {cs : List Value} {t : TypeId} (h : HonX w W N M room own Q vs vt sn tk X cs t) (hm : HonM w W' N M room own' Q' vs' vt' sn' tk') (hk : Keep W M own W' own') : HonX w W' N M room own' Q' vs' vt' sn' tk' X cs t :=
  ⟨hm, (hk X h.fr (heap_lt h.blk)).2, (hk X h.fr (heap_lt h.blk)).1.trans h.blk⟩
/-- A block that has just been made. -/
theorem HonX.made (h : HonM w W N M room own Q vs vt sn tk) {W' : World} {X : Nat} (hX : W.heap.size ≤ X) (hb : Below W.heap.size W W') {cs : List Value} {t : TypeId} (hc : W'.heap[X]? = some (.cells cs.toArray t (0, 0))) : HonX w W' N M room own Q vs vt sn tk X cs t := by
  refine ⟨h.then_ hb, ?_, hc⟩
  rcases (h.fresh hX).1 with e | ⟨cells, e⟩
  · exact .inl e
  · have := heap_lt e; omega
end
end Go.Proofs.Ytlnipfmgdkiboaa.N
