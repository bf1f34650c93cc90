/- The network by hand: letters by rising names; a map that is gone through (from the tenants' TA). -/
import Derived.WideShapes
import GoSem.Op.String
import Derived.Laws.Strings
import Derived.MapKept
import Derived.Maps.RangeRun
import Derived.Laws.IdiomRangeMap
import Derived.Maps.Own
import Derived.LoopN
import Derived.Test.YtlnipfmgdkiboaaND
namespace Go.Proofs.Ytlnipfmgdkiboaa.N
open Go.RowKit Go.Proofs.Ytlnipfmgdkiboaa.Q Go.Proofs.YtlnipfmgdkiboaaW.PrintWords Go.Proofs.YtlnipfmgdkiboaaW.PrintLast Go.Proofs.YtlnipfmgdkiboaaW.PrintMore
set_option linter.unusedVariables false
set_option linter.unusedSimpArgs false
theorem bytesLess_iff : ∀ x y : List UInt8, Op.bytesLess x y = true ↔ x < y
  | [], [] => by simp [Op.bytesLess]
  | [], b :: y => by simp [Op.bytesLess]
  | a :: x, [] => by simp [Op.bytesLess]
  | a :: x, b :: y => by
    rw [List.cons_lt_cons_iff]
    simp only [Op.bytesLess, Bool.or_eq_true, Bool.and_eq_true, decide_eq_true_eq, beq_iff_eq, bytesLess_iff x y]
theorem str_inj {s t : ByteArray} (h : s.toList = t.toList) : s = t := by
  rw [ByteArray.toList_eq, ByteArray.toList_eq] at h
  exact Go.WideShapes.bytes_inj h
/-- One name ahead of another. -/
def Lt (s t : ByteArray) : Prop := s.toList < t.toList
theorem Lt.irrefl (s : ByteArray) : ¬ Lt s s := List.lt_irrefl _
theorem Lt.trans {s t u : ByteArray} (h : Lt s t) (k : Lt t u) : Lt s u := List.lt_trans h k
theorem Lt.asymm {s t : ByteArray} (h : Lt s t) (k : Lt t s) : False := Lt.irrefl _ (h.trans k)
theorem Lt.ne {s t : ByteArray} (h : Lt s t) : s ≠ t := fun e => by subst e; exact Lt.irrefl _ h
theorem Lt.total (s t : ByteArray) : Lt s t ∨ s = t ∨ Lt t s := by
  by_cases h : Lt s t
  · exact .inl h
  · by_cases h2 : Lt t s
    · exact .inr (.inr h2)
    · exact .inr (.inl (str_inj (List.le_antisymm (List.not_lt.1 h2) (List.not_lt.1 h))))
instance (s t : ByteArray) : Decidable (Lt s t) := inferInstanceAs (Decidable (s.toList < t.toList))
/-- A tenant's letters. -/
structure Qu where
  f0 : ByteArray
  f1 : List S34
abbrev St := List Qu
def Sorted (st : St) : Prop := st.Pairwise (fun f g => Lt f.f0 g.f0)
def look : St → ByteArray → Option Qu
  | [], _ => none
  | f :: r, s => if f.f0 = s then some f else look r s
def put : St → Qu → St
  | [], x => [x]
  | f :: r, x => if x.f0 = f.f0 then x :: r else if Lt x.f0 f.f0 then x :: f :: r else f :: put r x
def drop (st : St) (s : ByteArray) : St := st.filter (fun f => f.f0 ≠ s)
def total : St → Nat
  | [] => 0
  | f :: r => f.f1.length + total r
theorem look_mem : ∀ {st : St} {s : ByteArray} {f : Qu}, look st s = some f → f ∈ st ∧ f.f0 = s
  | g :: r, s, f, h => by
    unfold look at h
    by_cases hg : g.f0 = s
    · rw [if_pos hg] at h
      injection h with h
      subst h
      exact ⟨List.mem_cons_self, hg⟩
    · rw [if_neg hg] at h
      obtain ⟨h1, h2⟩ := look_mem h
      exact ⟨List.mem_cons_of_mem _ h1, h2⟩
theorem look_none {st : St} {s : ByteArray} : look st s = none ↔ ∀ f ∈ st, f.f0 ≠ s := by
  induction st with
  | nil => simp [look]
  | cons g r ih =>
    unfold look
    by_cases hg : g.f0 = s
    · rw [if_pos hg]; simp [hg]
    · rw [if_neg hg, ih]; simp [hg]
theorem look_of_mem : ∀ {st : St}, Sorted st → ∀ {f : Qu}, f ∈ st → look st f.f0 = some f
  | g :: r, hs, f, hf => by
    unfold look
    rcases List.mem_cons.1 hf with rfl | hf
    · rw [if_pos rfl]
    · obtain ⟨h1, h2⟩ := List.pairwise_cons.1 hs
      rw [if_neg (fun e => (h1 f hf).ne e)]
      exact look_of_mem h2 hf
theorem put_mem : ∀ {st : St} {x g : Qu}, g ∈ put st x → g = x ∨ (g ∈ st ∧ g.f0 ≠ x.f0 ∨ g ∈ st)
  | [], x, g, h => by simp [put] at h; exact .inl h
  | f :: r, x, g, h => by
    unfold put at h
    split at h
    · rcases List.mem_cons.1 h with h | h
      · exact .inl h
      · exact .inr (.inr (List.mem_cons_of_mem _ h))
    · split at h
      · rcases List.mem_cons.1 h with h | h
        · exact .inl h
        · exact .inr (.inr h)
      · rcases List.mem_cons.1 h with h | h
        · exact .inr (.inr (by rw [h]; exact List.mem_cons_self))
        · rcases put_mem h with h | h
          · exact .inl h
          · exact .inr (.inr (List.mem_cons_of_mem _ (h.elim (fun h => h.1) id)))
theorem put_sorted : ∀ {st : St} (x : Qu), Sorted st → Sorted (put st x)
  | [], x, _ => by simp [put, Sorted]
  | f :: r, x, hs => by
    obtain ⟨h1, h2⟩ := List.pairwise_cons.1 hs
    unfold put
    split
    · rename_i h
      exact List.pairwise_cons.2 ⟨fun g hg => by rw [h]; exact h1 g hg, h2⟩
    · split
      · rename_i h
        refine List.pairwise_cons.2 ⟨fun g hg => ?_, hs⟩
        rcases List.mem_cons.1 hg with rfl | hg
        · exact h
        · exact h.trans (h1 g hg)
      · rename_i hne hlt
        refine List.pairwise_cons.2 ⟨fun g hg => ?_, put_sorted x h2⟩
        rcases put_mem hg with rfl | hg
        · rcases Lt.total f.f0 g.f0 with h | h | h
          · exact h
          · exact absurd h.symm hne
          · exact absurd h hlt
        · exact h1 g (hg.elim (fun h => h.1) id)
theorem look_put : ∀ {st : St} (x : Qu) (s : ByteArray), Sorted st → look (put st x) s = if s = x.f0 then some x else look st s
  | [], x, s, _ => by
    simp only [put, look]
    by_cases h : s = x.f0
    · rw [if_pos h.symm, if_pos h]
    · rw [if_neg (fun e => h e.symm), if_neg h]
  | f :: r, x, s, hs => by
    obtain ⟨h1, h2⟩ := List.pairwise_cons.1 hs
    have ih := look_put x s h2
    unfold put
    by_cases hx : x.f0 = f.f0
    · rw [if_pos hx]
      unfold look
      by_cases h : s = x.f0
      · rw [if_pos h.symm, if_pos h]
      · rw [if_neg (fun e => h e.symm), if_neg h, if_neg (fun e => h (by rw [hx, e]))]
    · rw [if_neg hx]
      by_cases hl : Lt x.f0 f.f0
      · rw [if_pos hl]
        conv => lhs; unfold look
        by_cases h : s = x.f0
        · rw [if_pos h.symm, if_pos h]
        · rw [if_neg (fun e => h e.symm), if_neg h]
      · rw [if_neg hl]
        unfold look
        by_cases hf : f.f0 = s
        · rw [if_pos hf, if_pos hf, if_neg (fun e => hx (by rw [← e, hf]))]
        · rw [if_neg hf, if_neg hf, ih]
theorem drop_sorted {st : St} (s : ByteArray) (h : Sorted st) : Sorted (drop st s) := List.Pairwise.filter _ h
theorem look_drop : ∀ (st : St) (s t : ByteArray), look (drop st s) t = if t = s then none else look st t
  | [], s, t => by simp [drop, look]
  | f :: r, s, t => by
    have ih := look_drop r s t
    unfold drop at ih ⊢
    by_cases hf : f.f0 = s
    · rw [List.filter_cons_of_neg (by simp [hf]), ih]
      by_cases h : t = s
      · rw [if_pos h, if_pos h]
      · rw [if_neg h, if_neg h]
        conv => rhs; unfold look
        rw [if_neg (fun e => h (by rw [← e, hf]))]
    · rw [List.filter_cons_of_pos (by simp [hf])]
      unfold look
      by_cases ht : f.f0 = t
      · rw [if_pos ht, if_pos ht, if_neg (fun e => hf (by rw [ht, e]))]
      · rw [if_neg ht, if_neg ht, ih]
theorem total_drop : ∀ {st : St} (s : ByteArray), Sorted st → total (drop st s) + (match look st s with | some f => f.f1.length | none => 0) = total st ∧ (drop st s).length + (if look st s = none then 0 else 1) = st.length
  | [], s, _ => by simp [drop, total, look]
  | f :: r, s, hs => by
    obtain ⟨h1, h2⟩ := List.pairwise_cons.1 hs
    have ih := total_drop s h2
    unfold drop at ih ⊢
    by_cases hf : f.f0 = s
    · have hn : look r s = none := look_none.2 (fun g hg e => (h1 g hg).ne (by rw [e, hf]))
      rw [hn] at ih
      rw [List.filter_cons_of_neg (by simp [hf])]
      unfold look
      rw [if_pos hf]
      simp only [total, List.length_cons] at ih ⊢
      simp only [if_true, reduceCtorEq, if_false] at ih ⊢
      omega
    · rw [List.filter_cons_of_pos (by simp [hf])]
      unfold look
      rw [if_neg hf]
      simp only [total, List.length_cons]
      omega
theorem total_put : ∀ {st : St} (x : Qu), Sorted st → total (put st x) + (match look st x.f0 with | some f => f.f1.length | none => 0) = total st + x.f1.length ∧ (put st x).length = st.length + (if look st x.f0 = none then 1 else 0)
  | [], x, _ => by simp [put, total, look]
  | f :: r, x, hs => by
    obtain ⟨h1, h2⟩ := List.pairwise_cons.1 hs
    have ih := total_put x h2
    unfold put
    by_cases hx : x.f0 = f.f0
    · rw [if_pos hx]
      unfold look
      rw [if_pos hx.symm]
      dsimp only
      simp only [total, List.length_cons, reduceCtorEq, if_false]
      first | omega | exact ⟨by omega, trivial⟩
    · rw [if_neg hx]
      by_cases hl : Lt x.f0 f.f0
      · rw [if_pos hl]
        have hn : look (f :: r) x.f0 = none := look_none.2 (fun g hg e => by
          rcases List.mem_cons.1 hg with rfl | hg
          · exact hx e.symm
          · exact (hl.trans (h1 g hg)).ne e.symm)
        rw [hn]
        dsimp only
        simp only [total, List.length_cons, if_true]
        first | omega | exact ⟨by omega, trivial⟩
      · rw [if_neg hl]
        unfold look
        rw [if_neg (fun e => hx e.symm)]
        simp only [total, List.length_cons]
        first | omega | exact ⟨by omega, trivial⟩
section
variable {P : Program}
/-- An iterator at block r goes over the map of block M; these names have come. -/
def IterF (w : World) (r M : Nat) (G : ByteArray → Option Value) (done : List ByteArray) (cnt : Nat) : Prop :=
  ∃ ma clk seen c0, w.heap[M]? = some (.map ma clk) ∧ MapKept.Stamped ma clk ∧ (∀ x ∈ ma.toList, ∃ s, x.key = .string s ∧ G s = some x.val) ∧ (∀ s v, G s = some v → ∃ x ∈ ma.toList, x.key = .string s) ∧
    w.heap[r]? = some (.mapIter (some M) clk seen c0) ∧ clk ≤ c0 ∧ done.Nodup ∧ (∀ s, s ∈ done ↔ ∃ x ∈ ma.toList, x.key = .string s ∧ seen.contains x.born = true) ∧ ma.size = cnt
theorem IterF.map {w : World} {r M : Nat} {G : ByteArray → Option Value} {done : List ByteArray} {cnt : Nat} (h : IterF w r M G done cnt) : MapF w M G := by
  obtain ⟨ma, clk, seen, c0, h1, h2, h3, h4, _⟩ := h
  exact ⟨ma, clk, h1, h2, h3, h4⟩
theorem IterF.ne {w : World} {r M : Nat} {G : ByteArray → Option Value} {done : List ByteArray} {cnt : Nat} (h : IterF w r M G done cnt) : r ≠ M := by
  obtain ⟨ma, clk, seen, c0, h1, _, _, _, h5, _⟩ := h
  intro e
  rw [e, h1] at h5
  cases h5
theorem IterF.lt {w : World} {r M : Nat} {G : ByteArray → Option Value} {done : List ByteArray} {cnt : Nat} (h : IterF w r M G done cnt) : r < w.heap.size := by
  obtain ⟨ma, clk, seen, c0, _, _, _, _, h5, _⟩ := h
  exact (Array.getElem?_eq_some_iff.1 h5).1
theorem IterF.move {w w' : World} {r M : Nat} {G : ByteArray → Option Value} {done : List ByteArray} {cnt : Nat} (h : IterF w r M G done cnt) (hm : w'.heap[M]? = w.heap[M]?) (hr : w'.heap[r]? = w.heap[r]?) : IterF w' r M G done cnt := by
  obtain ⟨ma, clk, seen, c0, h1, h2, h3, h4, h5, q⟩ := h
  exact ⟨ma, clk, seen, c0, hm.trans h1, h2, h3, h4, hr.trans h5, q⟩
theorem nodup_of_map {α β : Type} {l : List α} (f : α → β) (h : (l.map f).Nodup) {x y : α} (hx : x ∈ l) (hy : y ∈ l) (e : f x = f y) : x = y := by
  obtain ⟨i, hi⟩ := List.getElem?_of_mem hx
  obtain ⟨j, hj⟩ := List.getElem?_of_mem hy
  have h1 : (l.map f)[i]? = some (f x) := by simp [hi]
  have h2 : (l.map f)[j]? = some (f y) := by simp [hj]
  have hil : i < (l.map f).length := (List.getElem?_eq_some_iff.1 h1).1
  have : i = j := (List.getElem?_inj hil h).1 (by rw [h1, h2, e])
  subst this
  rw [hi] at hj
  exact Option.some.inj hj
theorem len_le_of_sub {α : Type} : ∀ {l m : List α}, l.Nodup → l ⊆ m → l.length ≤ m.length
  | [], _, _, _ => Nat.zero_le _
  | a :: l, m, hn, hs => by
    obtain ⟨h1, h2⟩ := List.nodup_cons.1 hn
    obtain ⟨m1, m2, rfl⟩ := List.append_of_mem (hs List.mem_cons_self)
    have := len_le_of_sub (m := m1 ++ m2) h2 (fun x hx => by
      have hm := hs (List.mem_cons_of_mem _ hx)
      rw [List.mem_append, List.mem_cons] at hm
      rw [List.mem_append]
      rcases hm with h | h | h
      · exact .inl h
      · subst h; exact absurd hx h1
      · exact .inr h)
    rw [List.length_append] at this
    rw [List.length_append, List.length_cons, List.length_cons]
    omega
theorem IterF.count {w : World} {r M : Nat} {G : ByteArray → Option Value} {done : List ByteArray} {cnt : Nat} (h : IterF w r M G done cnt) : done.length ≤ cnt := by
  obtain ⟨ma, clk, seen, c0, h1, h2, h3, h4, h5, h6, h7, h8, h9⟩ := h
  have hsub : (done.map Value.string) ⊆ ma.toList.map (·.key) := by
    intro v hv
    obtain ⟨s, hs, rfl⟩ := List.mem_map.1 hv
    obtain ⟨x, hx, hk, _⟩ := (h8 s).1 hs
    exact List.mem_map.2 ⟨x, hx, hk⟩
  have hn : (done.map Value.string).Nodup := h7.map _ (fun a b hab e => hab (by injection e))
  have := len_le_of_sub hn hsub
  simpa [h9] using this
/-- Which names a map has, and how many. -/
theorem MapF.entries {w : World} {M : Nat} {G : ByteArray → Option Value} (h : MapF w M G) : ∃ ma clk, w.heap[M]? = some (.map ma clk) ∧ ∀ l : List ByteArray, l.Nodup → (∀ s, s ∈ l ↔ G s ≠ none) → ma.size = l.length := by
  obtain ⟨ma, clk, h1, h2, h3, h4⟩ := h
  refine ⟨ma, clk, h1, fun l hl hm => ?_⟩
  have hn : (l.map Value.string).Nodup := hl.map _ (fun a b hab e => hab (by injection e))
  have p1 : (l.map Value.string) ⊆ ma.toList.map (·.key) := by
    intro v hv
    obtain ⟨s, hs, rfl⟩ := List.mem_map.1 hv
    have hg := (hm s).1 hs
    cases hq : G s with
    | none => exact absurd hq hg
    | some u =>
      obtain ⟨x, hx, hk⟩ := h4 s u hq
      exact List.mem_map.2 ⟨x, hx, hk⟩
  have p2 : ma.toList.map (·.key) ⊆ l.map Value.string := by
    intro v hv
    obtain ⟨x, hx, rfl⟩ := List.mem_map.1 hv
    obtain ⟨s, hs, hv⟩ := h3 x hx
    exact List.mem_map.2 ⟨s, (hm s).2 (by rw [hv]; simp), hs.symm⟩
  have a1 := len_le_of_sub hn p1
  have a2 := len_le_of_sub h2.2.2 p2
  simp at a1 a2
  omega
theorem MapF.range {w : World} {M : Nat} {G : ByteArray → Option Value} {mt kt et : TypeId} (ht : P.underlying mt = some (.map kt et)) (h : MapF w M G) :
    ∃ w1 : World, (Instr.range mt (.map (some M))).run P w = .ok (.pointer (some ⟨w.heap.size, 0, none⟩)) w1 ∧ (∃ cnt, IterF w1 w.heap.size M G [] cnt) ∧ Below w.heap.size w w1 := by
  obtain ⟨ma, clk, h1, h2, h3, h4⟩ := h
  refine ⟨_, run_range_map w mt kt et M _ clk ht h1, ⟨ma.size, ma, clk, #[], clk, (heap_alloc_old w _ M (Array.getElem?_eq_some_iff.1 h1).1).trans h1, h2, h3, h4, heap_alloc_new w _, Nat.le_refl _, List.nodup_nil, fun s => by simp, rfl⟩, ?_⟩
  exact (Below.refl _ _).alloc (Nat.le_refl _) _
theorem IterF.next {w : World} {r M : Nat} {G : ByteArray → Option Value} {done : List ByteArray} {cnt : Nat} (h : IterF w r M G done cnt) (ty : TypeId) :
    ((∀ s v, G s = some v → s ∈ done) ∧ (Instr.next (.pointer (some ⟨r, 0, none⟩)) false ty).run P w = .ok (.tuple #[.bool false]) w) ∨
    ∃ s v w', G s = some v ∧ s ∉ done ∧ (Instr.next (.pointer (some ⟨r, 0, none⟩)) false ty).run P w = .ok (.tuple #[.bool true, .string s, v]) w' ∧ IterF w' r M G (done ++ [s]) cnt ∧
      (Instr.entry (.pointer (some ⟨r, 0, none⟩))).run P w' = .ok (.tuple #[.string s, v]) w' ∧ w'.os = w.os ∧ w'.tape = w.tape ∧ w'.output = w.output ∧ w'.heap.size = w.heap.size ∧ ∀ k, k ≠ r → w'.heap[k]? = w.heap[k]? := by
  have hrM := h.ne
  obtain ⟨ma, clk, seen, c0, h1, h2, h3, h4, h5, h6, h7, h8, h9⟩ := h
  rcases run_next_at (P := P) w ty r M clk c0 seen ma clk h5 h1 h2.1 h6 with ⟨hz, hrun⟩ | ⟨e, he, w1, hw1, hrun⟩
  · refine .inl ⟨fun s v hs => ?_, hrun⟩
    obtain ⟨x, hx, hk⟩ := h4 s v hs
    refine (h8 s).2 ⟨x, hx, hk, ?_⟩
    have hem : leftOf ma seen = #[] := Array.eq_empty_of_size_eq_zero hz
    unfold leftOf at hem
    rw [Array.filter_eq_empty_iff] at hem
    have := hem x (Array.mem_toList_iff.1 hx)
    simpa using this
  · have hem : e ∈ ma.toList ∧ seen.contains e.born = false := by
      unfold leftOf at he
      simpa using he
    obtain ⟨s, hs, hv⟩ := h3 e hem.1
    have hh : w1.heap = w.heap := by rcases hw1 with rfl | rfl <;> rfl
    have hset := MapKept.heap_set (o' := .mapIter (some M) clk (seen.push e.born) clk) (show w1.heap[r]? = some (.mapIter (some M) clk seen c0) by rw [hh]; exact h5)
    have hM' : (Go.ChangeMaps.setBlock w1 r (.mapIter (some M) clk (seen.push e.born) clk)).heap[M]? = some (.map ma clk) := (hset.2 M (Ne.symm hrM)).trans (by rw [hh]; exact h1)
    rw [hs] at hrun
    have hnd : s ∉ done := fun hd => by
      obtain ⟨x, hx, hk, hc⟩ := (h8 s).1 hd
      have : x = e := nodup_of_map _ h2.2.2 hx hem.1 (by rw [hk, hs])
      subst this
      rw [hem.2] at hc
      cases hc
    refine .inr ⟨s, e.val, _, hv, hnd, hrun, ⟨ma, clk, seen.push e.born, clk, hM', h2, h3, h4, hset.1, Nat.le_refl _, ?_, fun t => ?_, h9⟩, ?_, ?_, ?_, ?_, ?_, fun k hk => (hset.2 k hk).trans (by rw [hh])⟩
    · exact List.nodup_append.2 ⟨h7, by simp, fun a ha b hb e => by simp at hb; subst hb; subst e; exact hnd ha⟩
    · rw [List.mem_append, h8 t]
      constructor
      · rintro (⟨x, hx, hk, hc⟩ | ht)
        · exact ⟨x, hx, hk, by simp at hc ⊢; exact .inl hc⟩
        · simp at ht
          subst ht
          exact ⟨e, hem.1, hs, by simp⟩
      · rintro ⟨x, hx, hk, hc⟩
        simp at hc
        rcases hc with hc | hc
        · exact .inl ⟨x, hx, hk, by simpa using hc⟩
        · have : x = e := nodup_of_map _ h2.2.1 hx hem.1 hc
          subst this
          rw [hs] at hk
          injection hk with hk
          exact .inr (by simp [hk])
    · have := run_entry_at (P := P) _ r M clk seen ma clk e hset.1 hM' hem.1 h2.2.1
      rw [hs] at this
      exact this
    · rcases hw1 with rfl | rfl <;> rfl
    · rcases hw1 with rfl | rfl <;> rfl
    · rcases hw1 with rfl | rfl <;> rfl
    · show (w1.heap.setIfInBounds _ _).size = _
      rw [Array.size_setIfInBounds, hh]
end
end Go.Proofs.Ytlnipfmgdkiboaa.N
