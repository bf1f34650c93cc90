import Derived.WideShapes
import GoSem.Op.String
import Derived.Laws.Strings
import Derived.MapKept
import Derived.Below
import Derived.Deep.Slices
import Derived.Maps.RangeRun
import Derived.Laws.IdiomRangeMap
import Derived.Test.YtkdbojaoaldmbaaQ7
import Derived.Maps.Own
import Derived.Lib.SliceRun
import Derived.LoopN
/- A disk's files as a list by rising names: plain laws. -/
namespace Go.Proofs.Ytkdbojaoaldmbaa.G
set_option linter.unusedVariables false
set_option linter.unusedSimpArgs false

/-! names in order -/
theorem bytesLess_iff : ∀ x y : List UInt8, Op.bytesLess x y = true ↔ x < y
  | [], [] => by simp [Op.bytesLess]
  | [], b :: y => by simp [Op.bytesLess]
  | a :: x, [] => by simp [Op.bytesLess]
  | a :: x, b :: y => by
    rw [List.cons_lt_cons_iff]
    simp only [Op.bytesLess, Bool.or_eq_true, Bool.and_eq_true, decide_eq_true_eq, beq_iff_eq, bytesLess_iff x y]
theorem str_inj {s t : ByteArray} (h : s.toList = t.toList) : s = t := by
  rw [ByteArray.toList_eq, ByteArray.toList_eq] at h
  exact Go.WideShapes.bytes_inj h
/-- One name ahead of another. -/
def Lt (s t : ByteArray) : Prop := s.toList < t.toList
theorem Lt.irrefl (s : ByteArray) : ¬ Lt s s := List.lt_irrefl _
theorem Lt.trans {s t u : ByteArray} (h : Lt s t) (k : Lt t u) : Lt s u := List.lt_trans h k
theorem Lt.asymm {s t : ByteArray} (h : Lt s t) (k : Lt t s) : False := Lt.irrefl _ (h.trans k)
theorem Lt.ne {s t : ByteArray} (h : Lt s t) : s ≠ t := fun e => by subst e; exact Lt.irrefl _ h
theorem Lt.total (s t : ByteArray) : Lt s t ∨ s = t ∨ Lt t s := by
  by_cases h : Lt s t
  · exact .inl h
  · by_cases h2 : Lt t s
    · exact .inr (.inr h2)
    · exact .inr (.inl (str_inj (List.le_antisymm (List.not_lt.1 h2) (List.not_lt.1 h))))
instance (s t : ByteArray) : Decidable (Lt s t) := inferInstanceAs (Decidable (s.toList < t.toList))

/-- A file. -/
structure FS where
  n : ByteArray
  b : List Int
  l : Int
abbrev St := List FS
def Sorted (st : St) : Prop := st.Pairwise (fun f g => Lt f.n g.n)
def look : St → ByteArray → Option FS
  | [], _ => none
  | f :: r, s => if f.n = s then some f else look r s
def put : St → FS → St
  | [], x => [x]
  | f :: r, x => if x.n = f.n then x :: r else if Lt x.n f.n then x :: f :: r else f :: put r x
def drop (st : St) (s : ByteArray) : St := st.filter (fun f => f.n ≠ s)
def total : St → Nat
  | [] => 0
  | f :: r => f.b.length + total r
theorem look_mem : ∀ {st : St} {s : ByteArray} {f : FS}, look st s = some f → f ∈ st ∧ f.n = s
  | g :: r, s, f, h => by
    unfold look at h
    by_cases hg : g.n = s
    · rw [if_pos hg] at h
      injection h with h
      subst h
      exact ⟨List.mem_cons_self, hg⟩
    · rw [if_neg hg] at h
      obtain ⟨h1, h2⟩ := look_mem h
      exact ⟨List.mem_cons_of_mem _ h1, h2⟩
theorem look_none {st : St} {s : ByteArray} : look st s = none ↔ ∀ f ∈ st, f.n ≠ s := by
  induction st with
  | nil => simp [look]
  | cons g r ih =>
    unfold look
    by_cases hg : g.n = s
    · rw [if_pos hg]; simp [hg]
    · rw [if_neg hg, ih]; simp [hg]
theorem look_of_mem : ∀ {st : St}, Sorted st → ∀ {f : FS}, f ∈ st → look st f.n = some f
  | g :: r, hs, f, hf => by
    unfold look
    rcases List.mem_cons.1 hf with rfl | hf
    · rw [if_pos rfl]
    · obtain ⟨h1, h2⟩ := List.pairwise_cons.1 hs
      rw [if_neg (fun e => (h1 f hf).ne e)]
      exact look_of_mem h2 hf
theorem put_mem : ∀ {st : St} {x g : FS}, g ∈ put st x → g = x ∨ (g ∈ st ∧ g.n ≠ x.n ∨ g ∈ st)
  | [], x, g, h => by simp [put] at h; exact .inl h
  | f :: r, x, g, h => by
    unfold put at h
    split at h
    · rcases List.mem_cons.1 h with h | h
      · exact .inl h
      · exact .inr (.inr (List.mem_cons_of_mem _ h))
    · split at h
      · rcases List.mem_cons.1 h with h | h
        · exact .inl h
        · exact .inr (.inr h)
      · rcases List.mem_cons.1 h with h | h
        · exact .inr (.inr (by rw [h]; exact List.mem_cons_self))
        · rcases put_mem h with h | h
          · exact .inl h
          · exact .inr (.inr (List.mem_cons_of_mem _ (h.elim (fun h => h.1) id)))
theorem put_sorted : ∀ {st : St} (x : FS), Sorted st → Sorted (put st x)
  | [], x, _ => by simp [put, Sorted]
  | f :: r, x, hs => by
    obtain ⟨h1, h2⟩ := List.pairwise_cons.1 hs
    unfold put
    split
    · rename_i h
      exact List.pairwise_cons.2 ⟨fun g hg => by rw [h]; exact h1 g hg, h2⟩
    · split
      · rename_i h
        refine List.pairwise_cons.2 ⟨fun g hg => ?_, hs⟩
        rcases List.mem_cons.1 hg with rfl | hg
        · exact h
        · exact h.trans (h1 g hg)
      · rename_i hne hlt
        refine List.pairwise_cons.2 ⟨fun g hg => ?_, put_sorted x h2⟩
        rcases put_mem hg with rfl | hg
        · rcases Lt.total f.n g.n with h | h | h
          · exact h
          · exact absurd h.symm hne
          · exact absurd h hlt
        · exact h1 g (hg.elim (fun h => h.1) id)
theorem look_put : ∀ {st : St} (x : FS) (s : ByteArray), Sorted st → look (put st x) s = if s = x.n then some x else look st s
  | [], x, s, _ => by
    simp only [put, look]
    by_cases h : s = x.n
    · rw [if_pos h.symm, if_pos h]
    · rw [if_neg (fun e => h e.symm), if_neg h]
  | f :: r, x, s, hs => by
    obtain ⟨h1, h2⟩ := List.pairwise_cons.1 hs
    have ih := look_put x s h2
    unfold put
    by_cases hx : x.n = f.n
    · rw [if_pos hx]
      unfold look
      by_cases h : s = x.n
      · rw [if_pos h.symm, if_pos h]
      · rw [if_neg (fun e => h e.symm), if_neg h, if_neg (fun e => h (by rw [hx, e]))]
    · rw [if_neg hx]
      by_cases hl : Lt x.n f.n
      · rw [if_pos hl]
        conv => lhs; unfold look
        by_cases h : s = x.n
        · rw [if_pos h.symm, if_pos h]
        · rw [if_neg (fun e => h e.symm), if_neg h]
      · rw [if_neg hl]
        unfold look
        by_cases hf : f.n = s
        · rw [if_pos hf, if_pos hf, if_neg (fun e => hx (by rw [← e, hf]))]
        · rw [if_neg hf, if_neg hf, ih]
theorem drop_sorted {st : St} (s : ByteArray) (h : Sorted st) : Sorted (drop st s) := List.Pairwise.filter _ h
theorem look_drop : ∀ (st : St) (s t : ByteArray), look (drop st s) t = if t = s then none else look st t
  | [], s, t => by simp [drop, look]
  | f :: r, s, t => by
    have ih := look_drop r s t
    unfold drop at ih ⊢
    by_cases hf : f.n = s
    · rw [List.filter_cons_of_neg (by simp [hf]), ih]
      by_cases h : t = s
      · rw [if_pos h, if_pos h]
      · rw [if_neg h, if_neg h]
        conv => rhs; unfold look
        rw [if_neg (fun e => h (by rw [← e, hf]))]
    · rw [List.filter_cons_of_pos (by simp [hf])]
      unfold look
      by_cases ht : f.n = t
      · rw [if_pos ht, if_pos ht, if_neg (fun e => hf (by rw [ht, e]))]
      · rw [if_neg ht, if_neg ht, ih]
/-- Of lists by rising names those that answer alike are the same. -/
theorem sorted_ext : ∀ {a b : St}, Sorted a → Sorted b → (∀ s, look a s = look b s) → a = b
  | [], [], _, _, _ => rfl
  | [], g :: r, _, _, h => by have := h g.n; simp [look] at this
  | f :: r, [], _, _, h => by have := h f.n; simp [look] at this
  | f :: r, g :: q, ha, hb, h => by
    obtain ⟨a1, a2⟩ := List.pairwise_cons.1 ha
    obtain ⟨b1, b2⟩ := List.pairwise_cons.1 hb
    have e : f = g := by
      have h1 := h f.n
      have h2 := h g.n
      unfold look at h1 h2
      rw [if_pos rfl] at h1
      rw [if_pos rfl] at h2
      by_cases hn : f.n = g.n
      · rw [if_pos hn.symm] at h1
        exact Option.some.inj h1
      · rw [if_neg (fun e => hn e.symm)] at h1
        rw [if_neg hn] at h2
        obtain ⟨m1, _⟩ := look_mem h1.symm
        obtain ⟨m2, _⟩ := look_mem h2
        exact ((b1 f m1).asymm (a1 g m2)).elim
    subst e
    rw [sorted_ext a2 b2 (fun s => ?_)]
    have h1 := h s
    unfold look at h1
    by_cases hs : f.n = s
    · have n1 : look r s = none := look_none.2 (fun g hg e => (a1 g hg).ne (by rw [e, hs]))
      have n2 : look q s = none := look_none.2 (fun g hg e => (b1 g hg).ne (by rw [e, hs]))
      rw [n1, n2]
    · rw [if_neg hs, if_neg hs] at h1
      exact h1
/-! sizes -/
theorem total_drop : ∀ {st : St} (s : ByteArray), Sorted st → total (drop st s) + (match look st s with | some f => f.b.length | none => 0) = total st ∧ (drop st s).length + (if look st s = none then 0 else 1) = st.length
  | [], s, _ => by simp [drop, total, look]
  | f :: r, s, hs => by
    obtain ⟨h1, h2⟩ := List.pairwise_cons.1 hs
    have ih := total_drop s h2
    unfold drop at ih ⊢
    by_cases hf : f.n = s
    · have hn : look r s = none := look_none.2 (fun g hg e => (h1 g hg).ne (by rw [e, hf]))
      rw [hn] at ih
      rw [List.filter_cons_of_neg (by simp [hf])]
      unfold look
      rw [if_pos hf]
      simp only [total, List.length_cons] at ih ⊢
      simp only [if_true, reduceCtorEq, if_false] at ih ⊢
      omega
    · rw [List.filter_cons_of_pos (by simp [hf])]
      unfold look
      rw [if_neg hf]
      simp only [total, List.length_cons]
      omega
theorem total_put : ∀ {st : St} (x : FS), Sorted st → total (put st x) + (match look st x.n with | some f => f.b.length | none => 0) = total st + x.b.length ∧ (put st x).length = st.length + (if look st x.n = none then 1 else 0)
  | [], x, _ => by simp [put, total, look]
  | f :: r, x, hs => by
    obtain ⟨h1, h2⟩ := List.pairwise_cons.1 hs
    have ih := total_put x h2
    unfold put
    by_cases hx : x.n = f.n
    · rw [if_pos hx]
      unfold look
      rw [if_pos hx.symm]
      dsimp only
      simp only [total, List.length_cons, reduceCtorEq, if_false]
      first | omega | exact ⟨by omega, trivial⟩
    · rw [if_neg hx]
      by_cases hl : Lt x.n f.n
      · rw [if_pos hl]
        have hn : look (f :: r) x.n = none := look_none.2 (fun g hg e => by
          rcases List.mem_cons.1 hg with rfl | hg
          · exact hx e.symm
          · exact (hl.trans (h1 g hg)).ne e.symm)
        rw [hn]
        dsimp only
        simp only [total, List.length_cons, if_true]
        first | omega | exact ⟨by omega, trivial⟩
      · rw [if_neg hl]
        unfold look
        rw [if_neg (fun e => hx e.symm)]
        simp only [total, List.length_cons]
        first | omega | exact ⟨by omega, trivial⟩
end Go.Proofs.Ytkdbojaoaldmbaa.G

/- Maps with names for keys, as functions: what is looked up, put and taken out. -/
namespace Go.Proofs.Ytkdbojaoaldmbaa.G
open Go.RowKit
set_option linter.unusedVariables false
set_option linter.unusedSimpArgs false
variable {P : Program}

/-- The map of block M holds what G says. -/
def MapF (w : World) (M : Nat) (G : ByteArray → Option Value) : Prop :=
  ∃ ma clk, w.heap[M]? = some (.map ma clk) ∧ MapKept.Stamped ma clk ∧ (∀ x ∈ ma.toList, ∃ s, x.key = .string s ∧ G s = some x.val) ∧ (∀ s v, G s = some v → ∃ x ∈ ma.toList, x.key = .string s)
theorem MapF.lt {w : World} {M : Nat} {G : ByteArray → Option Value} (h : MapF w M G) : M < w.heap.size := by
  obtain ⟨ma, clk, h, _⟩ := h
  exact (Array.getElem?_eq_some_iff.1 h).1
theorem MapF.move {w w' : World} {M : Nat} {G : ByteArray → Option Value} (h : MapF w M G) (hm : w'.heap[M]? = w.heap[M]?) : MapF w' M G := by
  obtain ⟨ma, clk, h, r⟩ := h
  exact ⟨ma, clk, hm.trans h, r⟩
theorem MapF.find {w : World} {M : Nat} {G : ByteArray → Option Value} {ma : Array MapEntry} (hk : ∀ x ∈ ma.toList, ∃ s, x.key = .string s ∧ G s = some x.val) (hg : ∀ s v, G s = some v → ∃ x ∈ ma.toList, x.key = .string s) (s : ByteArray) :
    (Instr.findNow .string (.string s) ma.toList 0 = some none ∧ G s = none ∧ ∀ x ∈ ma.toList, x.key ≠ .string s) ∨ ∃ j e, Instr.findNow .string (.string s) ma.toList 0 = some (some (j, e.val)) ∧ ma[j]? = some e ∧ e.key = .string s ∧ G s = some e.val := by
  have hks : ∀ x ∈ ma.toList, MapKept.IsKey .string x.key := fun x hx => by
    obtain ⟨t, ht, _⟩ := hk x hx
    rw [ht]
    simp [MapKept.IsKey]
  rcases MapKept.findNow_spec (d := .string) (k := .string s) (by simp [MapKept.IsKey]) ma.toList 0 hks with ⟨h1, h2⟩ | ⟨j, e, h1, h2, h3⟩
  · refine .inl ⟨h1, ?_, h2⟩
    cases hG : G s with
    | none => rfl
    | some v =>
      obtain ⟨x, hx, hxk⟩ := hg s v hG
      exact absurd hxk (h2 x hx)
  · have hj : ma[j]? = some e := by simpa using h2
    obtain ⟨t, ht, hv⟩ := hk e (List.mem_of_getElem? h2)
    rw [ht] at h3
    injection h3 with h3
    subst h3
    exact .inr ⟨j, e, by simpa using h1, hj, ht, hv⟩
theorem MapF.look {w : World} {M : Nat} {G : ByteArray → Option Value} {mt kt et : TypeId} (ht : P.underlying mt = some (.map kt et)) (hk : P.underlying kt = some .string) {z : Value} (hz : (zeroValue et).run P w = .ok z w) (h : MapF w M G) (s : ByteArray) :
    (Instr.lookup mt (.map (some M)) (.string s) false).run P w = .ok ((G s).getD z) w := by
  obtain ⟨ma, clk, hb, _, h1, h2⟩ := h
  have hc : ∀ b, (Instr.checkKey b 10000 kt (.string s)).run P w = .ok () w := fun b => MapKept.run_checkKey (k := .string s) hk (by simp [MapKept.IsKey]) b 9999
  rcases MapF.find (w := w) (M := M) h1 h2 s with ⟨hf, hG, _⟩ | ⟨j, e, hf, hj, _, hG⟩
  · simp [Instr.lookup, run_underlying ht, MapKept.run_getObj_map hb, hc, MapKept.run_findKey hk hf, Result.andThen, hz, hG]
  · simp [Instr.lookup, run_underlying ht, MapKept.run_getObj_map hb, hc, MapKept.run_findKey hk hf, Result.andThen, hG]
theorem mem_modify {ma : Array MapEntry} {j : Nat} {f : MapEntry → MapEntry} {x : MapEntry} (h : x ∈ (ma.modify j f).toList) : (∃ e, ma[j]? = some e ∧ x = f e) ∨ ∃ i, i ≠ j ∧ ma[i]? = some x := by
  obtain ⟨i, hi⟩ := List.getElem?_of_mem h
  have hi' : (ma.modify j f)[i]? = some x := by rw [← Array.getElem?_toList]; exact hi
  rw [Array.getElem?_modify] at hi'
  by_cases hij : j = i
  · subst hij
    rw [if_pos rfl] at hi'
    obtain ⟨e, he, hx⟩ := Option.map_eq_some_iff.1 hi'
    exact .inl ⟨e, he, hx.symm⟩
  · rw [if_neg hij] at hi'
    exact .inr ⟨i, fun e => hij e.symm, hi'⟩
theorem mem_of_modify {ma : Array MapEntry} {j : Nat} {f : MapEntry → MapEntry} {x : MapEntry} {i : Nat} (h : ma[i]? = some x) : (if i = j then f x else x) ∈ (ma.modify j f).toList := by
  have : (ma.modify j f)[i]? = some (if i = j then f x else x) := by
    rw [Array.getElem?_modify]
    by_cases hij : j = i
    · subst hij; simp [h]
    · rw [if_neg hij, h, if_neg (fun e => hij e.symm)]
  exact Array.mem_toList_iff.2 (Array.mem_of_getElem? this)
theorem keys_apart {ma : Array MapEntry} {clk : Nat} (hs : MapKept.Stamped ma clk) {i j : Nat} {x e : MapEntry} (hi : ma[i]? = some x) (hj : ma[j]? = some e) (hij : i ≠ j) : x.key ≠ e.key := by
  intro he
  have hn := hs.2.2
  have h1 : (ma.toList.map (·.key))[i]? = some x.key := by simp [hi]
  have h2 : (ma.toList.map (·.key))[j]? = some e.key := by simp [hj]
  have hil : i < (ma.toList.map (·.key)).length := (List.getElem?_eq_some_iff.1 h1).1
  exact hij ((List.getElem?_inj hil hn).1 (by rw [h1, h2, he]))
theorem MapF.put {w : World} {M : Nat} {G : ByteArray → Option Value} {mt kt et : TypeId} (ht : P.underlying mt = some (.map kt et)) (hk : P.underlying kt = some .string) (h : MapF w M G) (s : ByteArray) (v : Value) :
    ∃ w' : World, (Instr.mapUpdate mt (.map (some M)) (.string s) v).run P w = .ok () w' ∧ MapF w' M (fun t => if t = s then some v else G t) ∧ w'.os = w.os ∧ w'.tape = w.tape ∧ w'.output = w.output ∧ w'.heap.size = w.heap.size ∧ ∀ k, k ≠ M → w'.heap[k]? = w.heap[k]? := by
  obtain ⟨ma, clk, hb, hs, h1, h2⟩ := h
  have hc : ∀ b, (Instr.checkKey b 10000 kt (.string s)).run P w = .ok () w := fun b => MapKept.run_checkKey (k := .string s) hk (by simp [MapKept.IsKey]) b 9999
  rcases MapF.find (w := w) (M := M) h1 h2 s with ⟨hf, hG, hn⟩ | ⟨j, e, hf, hj, hek, hG⟩
  · refine ⟨{ w with heap := w.heap.setIfInBounds M (.map (ma.push { key := .string s, val := v, born := clk }) (clk + 1)) }, by simp [Instr.mapUpdate, run_underlying ht, MapKept.run_getObj_map hb, hc, MapKept.run_findKey hk hf, MapKept.run_setObj_map _ hb, Result.andThen], ⟨_, _, (MapKept.heap_set hb).1, MapKept.stamped_push hs hn, ?_, ?_⟩, rfl, rfl, rfl, by simp, fun k hkM => (MapKept.heap_set hb).2 k hkM⟩
    · intro x hx
      simp only [Array.toList_push, List.mem_append, List.mem_singleton] at hx
      rcases hx with hx | rfl
      · obtain ⟨t, htk, htv⟩ := h1 x hx
        refine ⟨t, htk, ?_⟩
        exact (if_neg (fun e => hn x hx (by rw [htk, e]))).trans htv
      · exact ⟨s, rfl, by simp⟩
    · intro t u hu
      dsimp only at hu
      by_cases hts : t = s
      · subst hts
        exact ⟨{ key := .string t, val := v, born := clk }, by simp, rfl⟩
      · rw [if_neg hts] at hu
        obtain ⟨x, hx, hxk⟩ := h2 t u hu
        exact ⟨x, by simp only [Array.toList_push, List.mem_append]; exact .inl hx, hxk⟩
  · have hkey : ∀ e', ma[j]? = some e' → ({ e' with key := .string s, val := v } : MapEntry).key = e'.key := fun e' he' => by rw [hj] at he'; cases he'; exact hek.symm
    refine ⟨{ w with heap := w.heap.setIfInBounds M (.map (ma.modify j fun e => { e with key := .string s, val := v }) clk) }, by simp [Instr.mapUpdate, run_underlying ht, MapKept.run_getObj_map hb, hc, MapKept.run_findKey hk hf, hj, hek, MapKept.run_keyThatStays (d := .string) (k := .string s) (by simp [MapKept.IsKey]), MapKept.run_setObj_map _ hb, Result.andThen], ⟨_, _, (MapKept.heap_set hb).1, MapKept.stamped_modify hs _ _ (fun _ _ => rfl) (fun e' _ he' => hkey e' he'), ?_, ?_⟩, rfl, rfl, rfl, by simp, fun k hkM => (MapKept.heap_set hb).2 k hkM⟩
    · intro x hx
      rcases mem_modify hx with ⟨e', he', rfl⟩ | ⟨i, hij, hi⟩
      · exact ⟨s, rfl, by simp⟩
      · obtain ⟨t, htk, htv⟩ := h1 x (Array.mem_toList_iff.2 (Array.mem_of_getElem? hi))
        refine ⟨t, htk, ?_⟩
        exact (if_neg (fun et => keys_apart hs hi hj hij (by rw [htk, hek, et]))).trans htv
    · intro t u hu
      dsimp only at hu
      by_cases hts : t = s
      · subst hts
        have := mem_of_modify (j := j) (f := fun e => { e with key := .string t, val := v }) hj
        rw [if_pos rfl] at this
        exact ⟨_, this, rfl⟩
      · rw [if_neg hts] at hu
        obtain ⟨x, hx, hxk⟩ := h2 t u hu
        obtain ⟨i, hi⟩ := List.getElem?_of_mem hx
        have hi' : ma[i]? = some x := by simpa using hi
        have hij : i ≠ j := fun e' => by subst e'; rw [hj] at hi'; cases hi'; rw [hek] at hxk; injection hxk with hxk; exact hts hxk.symm
        have := mem_of_modify (j := j) (f := fun e => { e with key := .string s, val := v }) hi'
        rw [if_neg hij] at this
        exact ⟨x, this, hxk⟩
theorem MapF.drop {w : World} {M : Nat} {G : ByteArray → Option Value} {mt kt et ty : TypeId} (ht : P.underlying mt = some (.map kt et)) (hk : P.underlying kt = some .string) (h : MapF w M G) (s : ByteArray) :
    ∃ w' : World, (Builtin.delete_ #[mt, kt] ty #[.map (some M), .string s]).run P w = .ok (.tuple #[]) w' ∧ MapF w' M (fun t => if t = s then none else G t) ∧ w'.os = w.os ∧ w'.tape = w.tape ∧ w'.output = w.output ∧ w'.heap.size = w.heap.size ∧ ∀ k, k ≠ M → w'.heap[k]? = w.heap[k]? := by
  obtain ⟨ma, clk, hb, hs, h1, h2⟩ := h
  have hc : ∀ b, (Instr.checkKey b 10000 kt (.string s)).run P w = .ok () w := fun b => MapKept.run_checkKey (k := .string s) hk (by simp [MapKept.IsKey]) b 9999
  rcases MapF.find (w := w) (M := M) h1 h2 s with ⟨hf, hG, hn⟩ | ⟨j, e, hf, hj, hek, hG⟩
  · refine ⟨{ w with heap := w.heap.setIfInBounds M (.map ma clk) }, by simp [Builtin.delete_, run_underlying ht, MapKept.run_getObj_map hb, hc, MapKept.run_findKey hk hf, MapKept.run_setObj_map _ hb, Result.andThen], ⟨_, _, (MapKept.heap_set hb).1, hs, ?_, ?_⟩, rfl, rfl, rfl, by simp, fun k hkM => (MapKept.heap_set hb).2 k hkM⟩
    · intro x hx
      obtain ⟨t, htk, htv⟩ := h1 x hx
      exact ⟨t, htk, (if_neg (fun e => hn x hx (by rw [htk, e]))).trans htv⟩
    · intro t u hu
      dsimp only at hu
      by_cases hts : t = s
      · rw [if_pos hts] at hu; cases hu
      · rw [if_neg hts] at hu
        exact h2 t u hu
  · have hjl : j < ma.size := (Array.getElem?_eq_some_iff.1 hj).1
    have her : (ma.eraseIdxIfInBounds j).toList = ma.toList.eraseIdx j := by
      unfold Array.eraseIdxIfInBounds
      rw [dif_pos hjl]
      simp
    refine ⟨{ w with heap := w.heap.setIfInBounds M (.map (ma.eraseIdxIfInBounds j) clk) }, by simp [Builtin.delete_, run_underlying ht, MapKept.run_getObj_map hb, hc, MapKept.run_findKey hk hf, MapKept.run_setObj_map _ hb, Result.andThen], ⟨_, _, (MapKept.heap_set hb).1, MapKept.stamped_erase hs _, ?_, ?_⟩, rfl, rfl, rfl, by simp, fun k hkM => (MapKept.heap_set hb).2 k hkM⟩
    · intro x hx
      rw [her] at hx
      obtain ⟨i, hij, hi⟩ := List.mem_eraseIdx_iff_getElem?.1 hx
      have hi' : ma[i]? = some x := by simpa using hi
      obtain ⟨t, htk, htv⟩ := h1 x (Array.mem_toList_iff.2 (Array.mem_of_getElem? hi'))
      refine ⟨t, htk, ?_⟩
      exact (if_neg (fun et => keys_apart hs hi' hj hij (by rw [htk, hek, et]))).trans htv
    · intro t u hu
      dsimp only at hu
      by_cases hts : t = s
      · rw [if_pos hts] at hu; cases hu
      · rw [if_neg hts] at hu
        obtain ⟨x, hx, hxk⟩ := h2 t u hu
        obtain ⟨i, hi⟩ := List.getElem?_of_mem hx
        have hi' : ma[i]? = some x := by simpa using hi
        have hij : i ≠ j := fun e' => by subst e'; rw [hj] at hi'; cases hi'; rw [hek] at hxk; injection hxk with hxk; exact hts hxk.symm
        exact ⟨x, by rw [her]; exact List.mem_eraseIdx_iff_getElem?.2 ⟨i, hij, hi⟩, hxk⟩
theorem MapF.made (w : World) : MapF (w.alloc (.map #[] 0)) w.heap.size (fun _ => none) :=
  ⟨#[], 0, (MapKept.heap_alloc w _).1, MapKept.stamped_empty 0, by simp, by simp⟩
/-! a map that is gone through -/
/-- An iterator at block r goes over the map of block M; these names have come. -/
def IterF (w : World) (r M : Nat) (G : ByteArray → Option Value) (done : List ByteArray) (cnt : Nat) : Prop :=
  ∃ ma clk seen c0, w.heap[M]? = some (.map ma clk) ∧ MapKept.Stamped ma clk ∧ (∀ x ∈ ma.toList, ∃ s, x.key = .string s ∧ G s = some x.val) ∧ (∀ s v, G s = some v → ∃ x ∈ ma.toList, x.key = .string s) ∧
    w.heap[r]? = some (.mapIter (some M) clk seen c0) ∧ clk ≤ c0 ∧ done.Nodup ∧ (∀ s, s ∈ done ↔ ∃ x ∈ ma.toList, x.key = .string s ∧ seen.contains x.born = true) ∧ ma.size = cnt
theorem IterF.map {w : World} {r M : Nat} {G : ByteArray → Option Value} {done : List ByteArray} {cnt : Nat} (h : IterF w r M G done cnt) : MapF w M G := by
  obtain ⟨ma, clk, seen, c0, h1, h2, h3, h4, _⟩ := h
  exact ⟨ma, clk, h1, h2, h3, h4⟩
theorem IterF.ne {w : World} {r M : Nat} {G : ByteArray → Option Value} {done : List ByteArray} {cnt : Nat} (h : IterF w r M G done cnt) : r ≠ M := by
  obtain ⟨ma, clk, seen, c0, h1, _, _, _, h5, _⟩ := h
  intro e
  rw [e, h1] at h5
  cases h5
theorem IterF.lt {w : World} {r M : Nat} {G : ByteArray → Option Value} {done : List ByteArray} {cnt : Nat} (h : IterF w r M G done cnt) : r < w.heap.size := by
  obtain ⟨ma, clk, seen, c0, _, _, _, _, h5, _⟩ := h
  exact (Array.getElem?_eq_some_iff.1 h5).1
theorem IterF.move {w w' : World} {r M : Nat} {G : ByteArray → Option Value} {done : List ByteArray} {cnt : Nat} (h : IterF w r M G done cnt) (hm : w'.heap[M]? = w.heap[M]?) (hr : w'.heap[r]? = w.heap[r]?) : IterF w' r M G done cnt := by
  obtain ⟨ma, clk, seen, c0, h1, h2, h3, h4, h5, q⟩ := h
  exact ⟨ma, clk, seen, c0, hm.trans h1, h2, h3, h4, hr.trans h5, q⟩
theorem nodup_of_map {α β : Type} {l : List α} (f : α → β) (h : (l.map f).Nodup) {x y : α} (hx : x ∈ l) (hy : y ∈ l) (e : f x = f y) : x = y := by
  obtain ⟨i, hi⟩ := List.getElem?_of_mem hx
  obtain ⟨j, hj⟩ := List.getElem?_of_mem hy
  have h1 : (l.map f)[i]? = some (f x) := by simp [hi]
  have h2 : (l.map f)[j]? = some (f y) := by simp [hj]
  have hil : i < (l.map f).length := (List.getElem?_eq_some_iff.1 h1).1
  have : i = j := (List.getElem?_inj hil h).1 (by rw [h1, h2, e])
  subst this
  rw [hi] at hj
  exact Option.some.inj hj
theorem len_le_of_sub {α : Type} : ∀ {l m : List α}, l.Nodup → l ⊆ m → l.length ≤ m.length
  | [], _, _, _ => Nat.zero_le _
  | a :: l, m, hn, hs => by
    obtain ⟨h1, h2⟩ := List.nodup_cons.1 hn
    obtain ⟨m1, m2, rfl⟩ := List.append_of_mem (hs List.mem_cons_self)
    have := len_le_of_sub (m := m1 ++ m2) h2 (fun x hx => by
      have hm := hs (List.mem_cons_of_mem _ hx)
      rw [List.mem_append, List.mem_cons] at hm
      rw [List.mem_append]
      rcases hm with h | h | h
      · exact .inl h
      · subst h; exact absurd hx h1
      · exact .inr h)
    rw [List.length_append] at this
    rw [List.length_append, List.length_cons, List.length_cons]
    omega
theorem IterF.count {w : World} {r M : Nat} {G : ByteArray → Option Value} {done : List ByteArray} {cnt : Nat} (h : IterF w r M G done cnt) : done.length ≤ cnt := by
  obtain ⟨ma, clk, seen, c0, h1, h2, h3, h4, h5, h6, h7, h8, h9⟩ := h
  have hsub : (done.map Value.string) ⊆ ma.toList.map (·.key) := by
    intro v hv
    obtain ⟨s, hs, rfl⟩ := List.mem_map.1 hv
    obtain ⟨x, hx, hk, _⟩ := (h8 s).1 hs
    exact List.mem_map.2 ⟨x, hx, hk⟩
  have hn : (done.map Value.string).Nodup := h7.map _ (fun a b hab e => hab (by injection e))
  have := len_le_of_sub hn hsub
  simpa [h9] using this
/-- Which names a map has, and how many. -/
theorem MapF.entries {w : World} {M : Nat} {G : ByteArray → Option Value} (h : MapF w M G) : ∃ ma clk, w.heap[M]? = some (.map ma clk) ∧ ∀ l : List ByteArray, l.Nodup → (∀ s, s ∈ l ↔ G s ≠ none) → ma.size = l.length := by
  obtain ⟨ma, clk, h1, h2, h3, h4⟩ := h
  refine ⟨ma, clk, h1, fun l hl hm => ?_⟩
  have hn : (l.map Value.string).Nodup := hl.map _ (fun a b hab e => hab (by injection e))
  have p1 : (l.map Value.string) ⊆ ma.toList.map (·.key) := by
    intro v hv
    obtain ⟨s, hs, rfl⟩ := List.mem_map.1 hv
    have hg := (hm s).1 hs
    cases hq : G s with
    | none => exact absurd hq hg
    | some u =>
      obtain ⟨x, hx, hk⟩ := h4 s u hq
      exact List.mem_map.2 ⟨x, hx, hk⟩
  have p2 : ma.toList.map (·.key) ⊆ l.map Value.string := by
    intro v hv
    obtain ⟨x, hx, rfl⟩ := List.mem_map.1 hv
    obtain ⟨s, hs, hv⟩ := h3 x hx
    exact List.mem_map.2 ⟨s, (hm s).2 (by rw [hv]; simp), hs.symm⟩
  have a1 := len_le_of_sub hn p1
  have a2 := len_le_of_sub h2.2.2 p2
  simp at a1 a2
  omega
theorem MapF.range {w : World} {M : Nat} {G : ByteArray → Option Value} {mt kt et : TypeId} (ht : P.underlying mt = some (.map kt et)) (h : MapF w M G) :
    ∃ w1 : World, (Instr.range mt (.map (some M))).run P w = .ok (.pointer (some ⟨w.heap.size, 0, none⟩)) w1 ∧ (∃ cnt, IterF w1 w.heap.size M G [] cnt) ∧ Below w.heap.size w w1 := by
  obtain ⟨ma, clk, h1, h2, h3, h4⟩ := h
  refine ⟨_, run_range_map w mt kt et M _ clk ht h1, ⟨ma.size, ma, clk, #[], clk, (heap_alloc_old w _ (Array.getElem?_eq_some_iff.1 h1).1).trans h1, h2, h3, h4, heap_alloc_new w _, Nat.le_refl _, List.nodup_nil, fun s => by simp, rfl⟩, ?_⟩
  exact (Below.refl _ _).alloc (Nat.le_refl _) _
theorem IterF.next {w : World} {r M : Nat} {G : ByteArray → Option Value} {done : List ByteArray} {cnt : Nat} (h : IterF w r M G done cnt) (ty : TypeId) :
    ((∀ s v, G s = some v → s ∈ done) ∧ (Instr.next (.pointer (some ⟨r, 0, none⟩)) false ty).run P w = .ok (.tuple #[.bool false]) w) ∨
    ∃ s v w', G s = some v ∧ s ∉ done ∧ (Instr.next (.pointer (some ⟨r, 0, none⟩)) false ty).run P w = .ok (.tuple #[.bool true, .string s, v]) w' ∧ IterF w' r M G (done ++ [s]) cnt ∧
      (Instr.entry (.pointer (some ⟨r, 0, none⟩))).run P w' = .ok (.tuple #[.string s, v]) w' ∧ w'.os = w.os ∧ w'.tape = w.tape ∧ w'.output = w.output ∧ w'.heap.size = w.heap.size ∧ ∀ k, k ≠ r → w'.heap[k]? = w.heap[k]? := by
  have hrM := h.ne
  obtain ⟨ma, clk, seen, c0, h1, h2, h3, h4, h5, h6, h7, h8, h9⟩ := h
  rcases run_next_at (P := P) w ty r M clk c0 seen ma clk h5 h1 h2.1 h6 with ⟨hz, hrun⟩ | ⟨e, he, w1, hw1, hrun⟩
  · refine .inl ⟨fun s v hs => ?_, hrun⟩
    obtain ⟨x, hx, hk⟩ := h4 s v hs
    refine (h8 s).2 ⟨x, hx, hk, ?_⟩
    have hem : leftOf ma seen = #[] := Array.eq_empty_of_size_eq_zero hz
    unfold leftOf at hem
    rw [Array.filter_eq_empty_iff] at hem
    have := hem x (Array.mem_toList_iff.1 hx)
    simpa using this
  · have hem : e ∈ ma.toList ∧ seen.contains e.born = false := by
      unfold leftOf at he
      simpa using he
    obtain ⟨s, hs, hv⟩ := h3 e hem.1
    have hh : w1.heap = w.heap := by rcases hw1 with rfl | rfl <;> rfl
    have hset := MapKept.heap_set (o' := .mapIter (some M) clk (seen.push e.born) clk) (show w1.heap[r]? = some (.mapIter (some M) clk seen c0) by rw [hh]; exact h5)
    have hM' : (Go.ChangeMaps.setBlock w1 r (.mapIter (some M) clk (seen.push e.born) clk)).heap[M]? = some (.map ma clk) := (hset.2 M (Ne.symm hrM)).trans (by rw [hh]; exact h1)
    rw [hs] at hrun
    have hnd : s ∉ done := fun hd => by
      obtain ⟨x, hx, hk, hc⟩ := (h8 s).1 hd
      have : x = e := nodup_of_map _ h2.2.2 hx hem.1 (by rw [hk, hs])
      subst this
      rw [hem.2] at hc
      cases hc
    refine .inr ⟨s, e.val, _, hv, hnd, hrun, ⟨ma, clk, seen.push e.born, clk, hM', h2, h3, h4, hset.1, Nat.le_refl _, ?_, fun t => ?_, h9⟩, ?_, ?_, ?_, ?_, ?_, fun k hk => (hset.2 k hk).trans (by rw [hh])⟩
    · exact List.nodup_append.2 ⟨h7, by simp, fun a ha b hb e => by simp at hb; subst hb; subst e; exact hnd ha⟩
    · rw [List.mem_append, h8 t]
      constructor
      · rintro (⟨x, hx, hk, hc⟩ | ht)
        · exact ⟨x, hx, hk, by simp at hc ⊢; exact .inl hc⟩
        · simp at ht
          subst ht
          exact ⟨e, hem.1, hs, by simp⟩
      · rintro ⟨x, hx, hk, hc⟩
        simp at hc
        rcases hc with hc | hc
        · exact .inl ⟨x, hx, hk, by simpa using hc⟩
        · have : x = e := nodup_of_map _ h2.2.1 hx hem.1 hc
          subst this
          rw [hs] at hk
          injection hk with hk
          exact .inr (by simp [hk])
    · have := run_entry_at (P := P) _ r M clk seen ma clk e hset.1 hM' hem.1 h2.2.1
      rw [hs] at this
      exact this
    · rcases hw1 with rfl | rfl <;> rfl
    · rcases hw1 with rfl | rfl <;> rfl
    · rcases hw1 with rfl | rfl <;> rfl
    · show (w1.heap.setIfInBounds _ _).size = _
      rw [Array.size_setIfInBounds, hh]
end Go.Proofs.Ytkdbojaoaldmbaa.G

/- Which texts are a file's name: what the printed functions come to. -/
namespace Go.Proofs.Ytkdbojaoaldmbaa.G
open Go.RowKit Go.Proofs.Ytkdbojaoaldmbaa.Q Go.Proofs.YtkdbojaoaldmbaaW.PrintWords Go.Proofs.YtkdbojaoaldmbaaW.PrintLast Go.Proofs.YtkdbojaoaldmbaaW.PrintMore
set_option linter.unusedVariables false
set_option linter.unusedSimpArgs false
/-- A byte of a file's name. -/
def okc (c : Int) : Bool := (decide (97 ≤ c) && decide (c ≤ 122)) || (decide (48 ≤ c) && decide (c ≤ 57)) || decide (c = 45) || decide (c = 46)
def okFrom (s : ByteArray) : Nat → Nat → Bool
  | 0, _ => true
  | d + 1, i => okc (bt s i) && okFrom s d (i + 1)
/-- A file's name. -/
def titleB (s : ByteArray) : Bool := okFrom s s.size 0 && (if s.toList = [] then false else decide ((s.size : Int) ≤ 32))
theorem title_j3 (s : ByteArray) (n i : Int) (b : Bool) (k : Nat) : disk_title.j3 (k + 1) s n i b = if b = true then disk_title.l0 k s n (wrap64 (i + 1)) else some false := by simp only [disk_title.j3]
theorem title_body (s : ByteArray) (n i c : Int) (hc : c = bt s i) (k : Nat) (R : Bool) (hR : ∀ k', k ≤ k' → disk_title.l0 k' s n (wrap64 (i + 1)) = some R) :
    ∀ k', k + 3 ≤ k' → (if c ≥ 97 then disk_title.j1 k' s c n i (decide (c ≤ 122)) else disk_title.j1 k' s c n i false) = some (okc c && R) := by
  intro k' hk
  obtain ⟨k1, rfl⟩ : ∃ m, k' = m + 3 := ⟨k' - 3, by omega⟩
  have h1 := hR k1 (by omega)
  have h2 := hR (k1 + 1) (by omega)
  have j2 : ∀ b, disk_title.j2 (k1 + 2) s c n i b = if b = true then some R else (if c = 45 then some R else if c = 46 then some R else some false) := by
    intro b
    simp only [disk_title.j2, title_j3]
    cases b
    · by_cases e : c = 45
      · simp [e, h1]
      · by_cases e2 : c = 46
        · simp [e2, h1]
        · simp [e, e2]
    · simp [h1]
  have j1 : ∀ b, disk_title.j1 (k1 + 3) s c n i b = if b = true then some R else (if 48 ≤ c ∧ c ≤ 57 then some R else if c = 45 then some R else if c = 46 then some R else some false) := by
    intro b
    simp only [disk_title.j1, title_j3, j2]
    cases b
    · by_cases e : c ≥ 48
      · by_cases e2 : c ≤ 57
        · simp [e, e2]
        · simp [e, e2]
      · simp [e]
    · simp [h2]
  rw [j1, j1]
  unfold okc
  by_cases e : c ≥ 97
  · by_cases e2 : c ≤ 122
    · simp [e, e2]
    · have a1 : ¬ (48 ≤ c ∧ c ≤ 57) := by omega
      have a2 : ¬ c = 45 := by omega
      have a3 : ¬ c = 46 := by omega
      have a4 : ¬ c ≤ 57 := by omega
      simp [e, e2, a1, a2, a3, a4]
  · by_cases a1 : 48 ≤ c ∧ c ≤ 57
    · simp [e, a1]
    · by_cases a2 : c = 45
      · simp [a2]
      · by_cases a3 : c = 46
        · simp [a3]
        · have a4 : ¬ (97 ≤ c) := by omega
          simp [e, a1, a2, a3]
theorem title_l0 (s : ByteArray) (hs : s.size ≤ 9223372036854775807) : ∀ d i : Nat, d + i = s.size → ∀ k, 4 * d + 1 ≤ k → disk_title.l0 k s (s.size : Int) (i : Int) = some (okFrom s d i && (if s.toList = [] then false else decide ((s.size : Int) ≤ 32))) := by
  intro d
  induction d with
  | zero =>
    intro i hi k hk
    obtain ⟨k, rfl⟩ : ∃ m, k = m + 1 := ⟨k - 1, by omega⟩
    simp only [disk_title.l0]
    rw [if_neg (by omega)]
    by_cases h : s.toList = []
    · simp [h, okFrom]
    · simp [h, okFrom]
  | succ d ih =>
    intro i hi k hk
    obtain ⟨k, rfl⟩ : ∃ m, k = m + 1 := ⟨k - 1, by omega⟩
    simp only [disk_title.l0]
    rw [if_pos (show (i : Int) < (s.size : Int) by omega), if_pos (show (0 : Int) ≤ (i : Int) by omega), if_pos (show (i : Int) < (s.size : Int) by omega)]
    rw [title_body s s.size i (bt s i) rfl (4 * d + 1) (okFrom s d (i + 1) && (if s.toList = [] then false else decide ((s.size : Int) ≤ 32))) (fun k' hk' => by
      rw [show wrap64 ((i : Int) + 1) = ((i + 1 : Nat) : Int) by unfold wrap64; omega]
      exact ih (i + 1) (by omega) k' hk') k (by omega)]
    simp only [okFrom, Bool.and_assoc]
theorem title_f (s : ByteArray) (hs : s.size ≤ 9223372036854775807) : disk_title.f (4 * s.size + 1) s = some (titleB s) := title_l0 s hs s.size 0 (by omega) _ (Nat.le_refl _)
theorem title_calls (s : ByteArray) (hs : s.size ≤ 9223372036854775807) (w : World) : Calls Try.prog 34 #[.string s] w fun e w' => e = .returned (.bool (titleB s)) ∧ Drawn0 w w' := disk_title.calls _ s _ w (title_f s hs)
theorem title_size {s : ByteArray} (h : titleB s = true) : s.size ≤ 32 := by
  unfold titleB at h
  simp only [Bool.and_eq_true] at h
  obtain ⟨_, h⟩ := h
  split at h
  · cases h
  · have := of_decide_eq_true h
    omega
end Go.Proofs.Ytkdbojaoaldmbaa.G

/- The disk by hand: what it is in memory, and the functions that only look. -/
namespace Go.Proofs.Ytkdbojaoaldmbaa.G
open Go.RowKit Go.Proofs.Ytkdbojaoaldmbaa.Q Go.Proofs.YtkdbojaoaldmbaaW.PrintWords Go.Proofs.YtkdbojaoaldmbaaW.PrintLast Go.Proofs.YtkdbojaoaldmbaaW.PrintMore
set_option linter.unusedVariables false
set_option linter.unusedSimpArgs false

/-- What may have changed. -/
structure Chg (S : Nat → Prop) (w w' : World) : Prop where
  os : w'.os = w.os
  tape : w'.tape = w.tape
  output : w'.output = w.output
  size : w.heap.size ≤ w'.heap.size
  block : ∀ k, k < w.heap.size → ¬ S k → w'.heap[k]? = w.heap[k]?
theorem Chg.refl (S : Nat → Prop) (w : World) : Chg S w w := ⟨rfl, rfl, rfl, Nat.le_refl _, fun _ _ _ => rfl⟩
theorem Chg.trans {S T U : Nat → Prop} {w w1 w2 : World} (h1 : Chg S w w1) (h2 : Chg T w1 w2) (hS : ∀ k, k < w.heap.size → S k → U k) (hT : ∀ k, k < w.heap.size → T k → U k) : Chg U w w2 :=
  ⟨h2.os.trans h1.os, h2.tape.trans h1.tape, h2.output.trans h1.output, Nat.le_trans h1.size h2.size, fun k hk hn => (h2.block k (Nat.lt_of_lt_of_le hk h1.size) (fun h => hn (hT k hk h))).trans (h1.block k hk (fun h => hn (hS k hk h)))⟩
theorem Chg.of_below {w w' : World} (S : Nat → Prop) (h : Below w.heap.size w w') : Chg S w w' := ⟨h.os, h.tape, h.output, h.size, fun k hk _ => h.block k hk⟩
theorem Chg.of_grown {w w' : World} {row : Option Nat} (h : w.grownBy w' row) : Chg (fun k => some k = row) w w' := ⟨h.os, h.tape, h.output, h.size, fun k hk hn => h.block k hk hn⟩
theorem Chg.onto {S : Nat → Prop} {w w' w'' : World} {B : Nat} (hb : Below B w w') (hB : B ≤ w.heap.size) (hc : Chg S w' w'') (hS : ∀ k, S k → B ≤ k) : Below B w w'' := by
  obtain ⟨h1, h2, h3, h4, h5⟩ := hb
  exact ⟨hc.os.trans h1, hc.tape.trans h2, hc.output.trans h3, Nat.le_trans h4 hc.size, fun k hk => (hc.block k (Nat.lt_of_lt_of_le hk (Nat.le_trans hB h4)) (fun hs => by have := hS k hs; omega)).trans (h5 k hk)⟩
theorem Chg.set {S : Nat → Prop} {w w' : World} (h : Chg S w w') (p : Addr) (v : Value) (hp : S p.block) : Chg S w (w'.setCell p v) :=
  ⟨h.os, h.tape, h.output, by simpa using h.size, fun k hk hn => (Below.heap_setCell w' p v k (fun e => hn (e ▸ hp))).trans (h.block k hk hn)⟩
theorem Chg.alloc {S : Nat → Prop} {w w' : World} (h : Chg S w w') (o : Obj) : Chg S w (w'.alloc o) :=
  h.trans (Chg.of_below S (below_alloc (Below.refl _ _) o)) (fun _ _ e => e) (fun _ _ e => e)
theorem Chg.drewN {S : Nat → Prop} {w w' : World} (h : Chg S w w') (n : Nat) : Chg S w (w'.drewN n) := ⟨h.os, h.tape, h.output, h.size, h.block⟩
theorem Chg.mono {S T : Nat → Prop} {w w' : World} (h : Chg S w w') (hS : ∀ k, k < w.heap.size → S k → T k) : Chg T w w' := ⟨h.os, h.tape, h.output, h.size, fun k hk hn => h.block k hk (fun e => hn (hS k hk e))⟩
theorem heap_lt {w : World} {k : Nat} {o : Obj} (h : w.heap[k]? = some o) : k < w.heap.size := (Array.getElem?_eq_some_iff.1 h).1

/-- Where a file lies. -/
structure Raw where
  F : Nat
  A : Option Addr
  c : Nat
/-- A file in memory: its cells, and a row of bytes that is written no more. -/
structure FileG (w : World) (B : Nat) (dat : Nat → Prop) (r : Raw) (f : FS) : Prop where
  cells : w.heap[r.F]? = some (.cells #[.slice r.A f.b.length r.c, .int .i64 f.l] 68 (0, 0))
  row : (Kd.int .u8).C w r.A f.b.length f.b
  cap : f.b.length ≤ r.c
  data : ∀ ad, r.A = some ad → dat ad.block ∧ B ≤ ad.block ∧ ∃ cs fz, w.heap[ad.block]? = some (.cells cs 5 fz)
  base : B ≤ r.F
  low : 0 ≤ f.l
  high : f.l ≤ (f.b.length : Int)
/-- The files, whatever map holds them. -/
structure FilesR (w : World) (B : Nat) (dat : Nat → Prop) (fs : ByteArray → Option Raw) (st : St) : Prop where
  none_ : ∀ s, fs s = none ↔ look st s = none
  some_ : ∀ s r f, fs s = some r → look st s = some f → FileG w B dat r f
  inj : ∀ s t r q, fs s = some r → fs t = some q → r.F = q.F → s = t
  sorted : Sorted st
  names : ∀ f ∈ st, f.n.size ≤ 32
  rows5 : ∀ k, dat k → ∃ cs fz, w.heap[k]? = some (.cells cs 5 fz)
/-- The files of the map of block M. -/
structure FilesG (w : World) (M : Nat) (B : Nat) (dat : Nat → Prop) (fs : ByteArray → Option Raw) (st : St) : Prop extends FilesR w B dat fs st where
  map : MapF w M (fun s => (fs s).map (fun r => .pointer (some ⟨r.F, 0, none⟩)))
  baseM : B ≤ M
/-- A disk. -/
structure DiskG (w : World) (D M : Nat) (room : Int) (B : Nat) (dat : Nat → Prop) (fs : ByteArray → Option Raw) (st : St) : Prop where
  cells : w.heap[D]? = some (.cells #[.map (some M), .int .i64 room, .int .i64 (total st)] 57 (0, 0))
  files : FilesG w M B dat fs st
  baseD : B ≤ D
  room0 : 0 ≤ room
  room1 : room ≤ 16777216
  fit : (total st : Int) ≤ room
  few : st.length ≤ 64
/-- The blocks that a disk writes. -/
def Mine (D M : Nat) (fs : ByteArray → Option Raw) (k : Nat) : Prop := k = D ∨ k = M ∨ ∃ s r, fs s = some r ∧ k = r.F
section
variable {w w' : World} {D M B : Nat} {room : Int} {dat : Nat → Prop} {fs : ByteArray → Option Raw} {st : St}
theorem FilesR.at_ (h : FilesR w B dat fs st) (s : ByteArray) : (fs s = none ∧ look st s = none) ∨ ∃ r f, fs s = some r ∧ look st s = some f ∧ FileG w B dat r f := by
  cases hf : fs s with
  | none => exact .inl ⟨rfl, (h.none_ s).1 hf⟩
  | some r =>
    cases hl : look st s with
    | none => have := (h.none_ s).2 hl; rw [hf] at this; cases this
    | some f => exact .inr ⟨r, f, rfl, rfl, h.some_ s r f hf hl⟩
theorem row_move {w w' : World} {A : Option Addr} {n : Nat} {b : List Int} (h : (Kd.int .u8).C w A n b) (hm : ∀ ad, A = some ad → w'.heap[ad.block]? = w.heap[ad.block]?) : (Kd.int .u8).C w' A n b := by
  refine ⟨h.1, h.2.1, fun hn => ?_⟩
  obtain ⟨ad, e, hc⟩ := h.2.2 hn
  refine ⟨ad, e, fun j p hj => ?_⟩
  obtain ⟨c, h1, h2, h3⟩ := hc j p hj
  refine ⟨c, h1, h2, fun i u hu => ?_⟩
  have hb : (ad.add (j * (Kd.int .u8).sz + i)).block = ad.block := by unfold Addr.add; split <;> simp_all
  have hq : w'.cell? (ad.add (j * (Kd.int .u8).sz + i)) = w.cell? (ad.add (j * (Kd.int .u8).sz + i)) := World.cell?_of_block (by rw [hb]; exact hm ad e)
  rw [hq]
  exact h3 i u hu
theorem FileG.move {r : Raw} {f : FS} (h : FileG w B dat r f) (hF : w'.heap[r.F]? = w.heap[r.F]?) (hd : ∀ k, dat k → k < w.heap.size → w'.heap[k]? = w.heap[k]?) : FileG w' B dat r f where
  cells := hF.trans h.cells
  row := row_move h.row (fun ad e => by obtain ⟨h1, _, cs, fz, h2⟩ := h.data ad e; exact hd _ h1 (heap_lt h2))
  cap := h.cap
  data := fun ad e => by obtain ⟨h1, hB, cs, fz, h2⟩ := h.data ad e; exact ⟨h1, hB, cs, fz, (hd _ h1 (heap_lt h2)).trans h2⟩
  base := h.base
  low := h.low
  high := h.high
theorem FilesR.lt (h : FilesR w B dat fs st) {s : ByteArray} {r : Raw} (hs : fs s = some r) : r.F < w.heap.size := by
  rcases h.at_ s with ⟨h1, _⟩ | ⟨q, f, h1, _, hf⟩
  · rw [h1] at hs; cases hs
  · rw [h1] at hs; cases hs; exact heap_lt hf.cells
theorem FilesR.datlt (h : FilesR w B dat fs st) (k : Nat) (hk : dat k) : k < w.heap.size := by
  obtain ⟨cs, fz, e⟩ := h.rows5 k hk
  exact heap_lt e
theorem FilesR.move (h : FilesR w B dat fs st) (hsz : w.heap.size ≤ w'.heap.size) (hF : ∀ s r, fs s = some r → w'.heap[r.F]? = w.heap[r.F]?) (hd : ∀ k, dat k → w'.heap[k]? = w.heap[k]?) : FilesR w' B dat fs st where
  none_ := h.none_
  some_ := fun s r f h1 h2 => (h.some_ s r f h1 h2).move (hF s r h1) (fun k hk _ => hd k hk)
  inj := h.inj
  sorted := h.sorted
  names := h.names
  rows5 := fun k hk => by obtain ⟨cs, fz, e⟩ := h.rows5 k hk; exact ⟨cs, fz, (hd k hk).trans e⟩
theorem FilesG.move (h : FilesG w M B dat fs st) (hsz : w.heap.size ≤ w'.heap.size) (hM : w'.heap[M]? = w.heap[M]?) (hF : ∀ s r, fs s = some r → w'.heap[r.F]? = w.heap[r.F]?) (hd : ∀ k, dat k → w'.heap[k]? = w.heap[k]?) : FilesG w' M B dat fs st :=
  ⟨h.toFilesR.move hsz hF hd, h.map.move hM, h.baseM⟩
/-- The files, and more blocks that may be data. -/
theorem FileG.more {dat' : Nat → Prop} {r : Raw} {f : FS} (h : FileG w B dat r f) (hd : ∀ k, dat k → dat' k) : FileG w B dat' r f :=
  ⟨h.cells, h.row, h.cap, fun ad e => ⟨hd _ (h.data ad e).1, (h.data ad e).2⟩, h.base, h.low, h.high⟩
theorem DiskG.move (h : DiskG w D M room B dat fs st) (hsz : w.heap.size ≤ w'.heap.size) (hm : ∀ k, k < w.heap.size → (Mine D M fs k ∨ dat k) → w'.heap[k]? = w.heap[k]?) : DiskG w' D M room B dat fs st where
  cells := (hm D (heap_lt h.cells) (.inl (.inl rfl))).trans h.cells
  files := h.files.move hsz (hm M h.files.map.lt (.inl (.inr (.inl rfl)))) (fun s r hs => hm r.F (h.files.lt hs) (.inl (.inr (.inr ⟨s, r, hs, rfl⟩)))) (fun k hk => hm k (h.files.datlt k hk) (.inr hk))
  baseD := h.baseD
  room0 := h.room0
  room1 := h.room1
  fit := h.fit
  few := h.few
theorem DiskG.below (h : DiskG w D M room B dat fs st) (hb : Below w.heap.size w w') : DiskG w' D M room B dat fs st := h.move hb.size (fun k hk _ => hb.block k hk)
theorem DiskG.cell (h : DiskG w D M room B dat fs st) : w.cell? ⟨D, 0, none⟩ = some (.map (some M)) ∧ w.cell? ⟨D, 1, none⟩ = some (.int .i64 room) ∧ w.cell? ⟨D, 2, none⟩ = some (.int .i64 (total st)) ∧ w.frozen? ⟨D, 2, none⟩ = false :=
  ⟨(blk_cell h.cells 0).trans rfl, (blk_cell h.cells 1).trans rfl, (blk_cell h.cells 2).trans rfl, blk_frozen h.cells 2⟩
theorem FileG.cell {r : Raw} {f : FS} (h : FileG w B dat r f) : w.cell? ⟨r.F, 0, none⟩ = some (.slice r.A f.b.length r.c) ∧ w.cell? ⟨r.F, 1, none⟩ = some (.int .i64 f.l) ∧ w.frozen? ⟨r.F, 0, none⟩ = false ∧ w.frozen? ⟨r.F, 1, none⟩ = false :=
  ⟨(blk_cell h.cells 0).trans rfl, (blk_cell h.cells 1).trans rfl, blk_frozen h.cells 0, blk_frozen h.cells 1⟩
theorem zero64 (w : World) : (zeroValue 64).run Try.prog w = .ok (.pointer none) w := by kernel_rfl
theorem FilesG.look (h : FilesG w M B dat fs st) (s : ByteArray) :
    (Instr.lookup 55 (.map (some M)) (.string s) false).run Try.prog w = .ok (match fs s with | some r => .pointer (some ⟨r.F, 0, none⟩) | none => .pointer none) w := by
  rw [h.map.look Try.underlying55 Try.underlying9 (zero64 w) s]
  cases fs s <;> rfl
theorem look_len {st : St} {s : ByteArray} {f : FS} (h : look st s = some f) : f.b.length ≤ total st := by
  induction st with
  | nil => cases h
  | cons g r ih =>
    unfold G.look at h
    by_cases hg : g.n = s
    · rw [if_pos hg] at h; injection h with h; subst h; unfold total; omega
    · rw [if_neg hg] at h; have := ih h; unfold total; omega
end
theorem map_ne (M : Nat) (W : World) : (binOp .neq 55 (.map (some M)) (.map none)).run Try.prog W = .ok (.bool true) W := by kernel_rfl
set_option maxHeartbeats 400000 in
set_option maxRecDepth 100000 in
theorem ok_calls (D M : Nat) (w : World) (h : w.cell? ⟨D, 0, none⟩ = some (.map (some M))) : Calls Try.prog 30 #[.pointer (some ⟨D, 0, none⟩)] w fun e w' => e = .returned (.bool true) ∧ w' = w := by
  have hne := map_ne M
  go_enter Try.func30, Try.ntmps30
  go_wp2
  go_ret
  exact ⟨rfl, rfl⟩
section
variable {w w' : World} {D M B : Nat} {room : Int} {dat : Nat → Prop} {fs : ByteArray → Option Raw} {st : St}
set_option maxHeartbeats 400000 in
set_option maxRecDepth 100000 in
theorem find_no (h : DiskG w D M room B dat fs st) (s : ByteArray) (hs : fs s = none) : Calls Try.prog 33 #[.pointer (some ⟨D, 0, none⟩), .string s] w fun e w' => e = .returned (.tuple #[.pointer none, .int .i64 4]) ∧ w' = w := by
  obtain ⟨c0, c1, c2, _⟩ := h.cell
  have hl := h.files.look s
  rw [hs] at hl
  dsimp only at hl
  go_enter Try.func33, Try.ntmps33
  go_wp2_with (go_at_call 30; (with_reducible refine (ok_calls D M _ c0).mono ?_); rintro e w' ⟨rfl, rfl⟩)
  go_ret2
  exact ⟨rfl, rfl⟩
set_option maxHeartbeats 400000 in
set_option maxRecDepth 100000 in
theorem find_yes (h : DiskG w D M room B dat fs st) (s : ByteArray) (r : Raw) (hs : fs s = some r) : Calls Try.prog 33 #[.pointer (some ⟨D, 0, none⟩), .string s] w fun e w' => e = .returned (.tuple #[.pointer (some ⟨r.F, 0, none⟩), .int .i64 0]) ∧ w' = w := by
  obtain ⟨c0, c1, c2, _⟩ := h.cell
  have hl := h.files.look s
  rw [hs] at hl
  dsimp only at hl
  go_enter Try.func33, Try.ntmps33
  go_wp2_with (go_at_call 30; (with_reducible refine (ok_calls D M _ c0).mono ?_); rintro e w' ⟨rfl, rfl⟩)
  go_ret2
  exact ⟨rfl, rfl⟩
set_option maxHeartbeats 400000 in
set_option maxRecDepth 100000 in
theorem size_calls (h : DiskG w D M room B dat fs st) : Calls Try.prog 19 #[.pointer (some ⟨D, 0, none⟩)] w fun e w' => e = .returned (.int .i64 (total st)) ∧ w' = w := by
  obtain ⟨c0, c1, c2, _⟩ := h.cell
  go_enter Try.func19, Try.ntmps19
  go_wp2_with (go_at_call 30; (with_reducible refine (ok_calls D M _ c0).mono ?_); rintro e w' ⟨rfl, rfl⟩)
  go_ret
  exact ⟨rfl, rfl⟩
set_option maxHeartbeats 400000 in
set_option maxRecDepth 100000 in
theorem room_calls (h : DiskG w D M room B dat fs st) : Calls Try.prog 29 #[.pointer (some ⟨D, 0, none⟩)] w fun e w' => e = .returned (.int .i64 room) ∧ w' = w := by
  obtain ⟨c0, c1, c2, _⟩ := h.cell
  go_enter Try.func29, Try.ntmps29
  go_wp2_with (go_at_call 30; (with_reducible refine (ok_calls D M _ c0).mono ?_); rintro e w' ⟨rfl, rfl⟩)
  go_ret
  exact ⟨rfl, rfl⟩
/-- What a file's name is answered: how much of it lasts. -/
def lastsR (st : St) (s : ByteArray) : Int × Int := match look st s with | some f => (f.l, 0) | none => (0, 4)
set_option maxHeartbeats 400000 in
set_option maxRecDepth 100000 in
theorem lasts_calls (h : DiskG w D M room B dat fs st) (s : ByteArray) : Calls Try.prog 14 #[.pointer (some ⟨D, 0, none⟩), .string s] w fun e w' => e = .returned (.tuple #[.int .i64 (lastsR st s).1, .int .i64 (lastsR st s).2]) ∧ w' = w := by
  rcases h.files.at_ s with ⟨h1, h2⟩ | ⟨r, f, h1, h2, hf⟩
  · have e : lastsR st s = (0, 4) := by unfold lastsR; rw [h2]
    rw [e]
    clear h2 e
    go_enter Try.func14, Try.ntmps14
    go_wp2_with (go_at_call 33; (with_reducible refine (find_no h s h1).mono ?_); rintro e w' ⟨rfl, rfl⟩)
    go_ret2
    exact ⟨rfl, rfl⟩
  · have e : lastsR st s = (f.l, 0) := by unfold lastsR; rw [h2]
    rw [e]
    clear h2 e
    obtain ⟨f0, f1, _, _⟩ := hf.cell
    have HS := Aside0.mk h1
    clear h1
    go_enter Try.func14, Try.ntmps14
    go_wp2_with (go_at_call 33; (with_reducible refine (find_yes h s r HS.out).mono ?_); rintro e w' ⟨rfl, rfl⟩)
    go_ret2
    exact ⟨rfl, rfl⟩
end
end Go.Proofs.Ytkdbojaoaldmbaa.G

/- The disk by hand: what an act leaves; New, Sync, Cut, Remove. -/
namespace Go.Proofs.Ytkdbojaoaldmbaa.G
open Go.RowKit Go.Proofs.Ytkdbojaoaldmbaa.Q Go.Proofs.YtkdbojaoaldmbaaW.PrintWords Go.Proofs.YtkdbojaoaldmbaaW.PrintLast Go.Proofs.YtkdbojaoaldmbaaW.PrintMore
set_option linter.unusedVariables false
set_option linter.unusedSimpArgs false
section
variable {w w' : World} {D M B : Nat} {room : Int} {dat dat' : Nat → Prop} {fs : ByteArray → Option Raw} {st : St}
/-- A file is another one, or is new. -/
theorem FilesR.upd (h : FilesR w B dat fs st) (r' : Raw) (f' : FS) (hn : f'.n.size ≤ 32) (hF : FileG w' B dat' r' f')
    (hrest : ∀ t q, t ≠ f'.n → fs t = some q → w'.heap[q.F]? = w.heap[q.F]? ∧ q.F ≠ r'.F) (hd : ∀ k, dat k → dat' k ∧ w'.heap[k]? = w.heap[k]?) (hlt : ∀ k, dat' k → ∃ cs fz, w'.heap[k]? = some (.cells cs 5 fz)) :
    FilesR w' B dat' (fun t => if t = f'.n then some r' else fs t) (put st f') where
  none_ := fun s => by
    rw [look_put f' s h.sorted]
    try dsimp only
    by_cases hs : s = f'.n
    · rw [if_pos hs, if_pos hs]; simp
    · rw [if_neg hs, if_neg hs]; exact h.none_ s
  some_ := fun s r f h1 h2 => by
    rw [look_put f' s h.sorted] at h2
    try dsimp only at h1
    by_cases hs : s = f'.n
    · rw [if_pos hs] at h1 h2
      injection h1 with h1
      injection h2 with h2
      subst h1 h2
      exact hF
    · rw [if_neg hs] at h1 h2
      exact ((h.some_ s r f h1 h2).move (hrest s r hs h1).1 (fun k hk _ => (hd k hk).2)).more (fun k hk => (hd k hk).1)
  inj := fun s t r q h1 h2 he => by
    try dsimp only at h1 h2
    by_cases hs : s = f'.n
    · by_cases ht : t = f'.n
      · rw [hs, ht]
      · rw [if_pos hs] at h1
        rw [if_neg ht] at h2
        injection h1 with h1
        subst h1
        exact absurd he.symm (hrest t q ht h2).2
    · by_cases ht : t = f'.n
      · rw [if_neg hs] at h1
        rw [if_pos ht] at h2
        injection h2 with h2
        subst h2
        exact absurd he (hrest s r hs h1).2
      · rw [if_neg hs] at h1
        rw [if_neg ht] at h2
        exact h.inj s t r q h1 h2 he
  sorted := put_sorted f' h.sorted
  names := fun g hg => by
    rcases put_mem hg with rfl | hg
    · exact hn
    · exact h.names g (hg.elim (fun h => h.1) id)
  rows5 := hlt
/-- A file is taken away. -/
theorem FilesR.del (h : FilesR w B dat fs st) (s : ByteArray) (hrest : ∀ t q, t ≠ s → fs t = some q → w'.heap[q.F]? = w.heap[q.F]?) (hd : ∀ k, dat k → w'.heap[k]? = w.heap[k]?) (hsz : w.heap.size ≤ w'.heap.size) :
    FilesR w' B dat (fun t => if t = s then none else fs t) (drop st s) where
  none_ := fun t => by
    rw [look_drop]
    try dsimp only
    by_cases ht : t = s
    · rw [if_pos ht, if_pos ht]; simp
    · rw [if_neg ht, if_neg ht]; exact h.none_ t
  some_ := fun t r f h1 h2 => by
    rw [look_drop] at h2
    try dsimp only at h1
    by_cases ht : t = s
    · rw [if_pos ht] at h1; cases h1
    · rw [if_neg ht] at h1 h2
      exact (h.some_ t r f h1 h2).move (hrest t r ht h1) (fun k hk _ => hd k hk)
  inj := fun t u r q h1 h2 he => by
    try dsimp only at h1 h2
    by_cases ht : t = s
    · rw [if_pos ht] at h1; cases h1
    · by_cases hu : u = s
      · rw [if_pos hu] at h2; cases h2
      · rw [if_neg ht] at h1
        rw [if_neg hu] at h2
        exact h.inj t u r q h1 h2 he
  sorted := drop_sorted s h.sorted
  names := fun g hg => h.names g (List.mem_filter.1 hg).1
  rows5 := fun k hk => by obtain ⟨cs, fz, e⟩ := h.rows5 k hk; exact ⟨cs, fz, (hd k hk).trans e⟩
/-- What an act leaves: a disk with these files; nothing has turned but what is the disk's own. -/
def Left (w : World) (D M : Nat) (room : Int) (B : Nat) (dat : Nat → Prop) (fs : ByteArray → Option Raw) (st' : St) (w' : World) : Prop :=
  ∃ (dat' : Nat → Prop) (fs' : ByteArray → Option Raw), DiskG w' D M room B dat' fs' st' ∧ Chg (Mine D M fs) w w' ∧ (∀ k, dat' k → dat k ∨ w.heap.size ≤ k) ∧ (∀ k, dat k → dat' k) ∧ ∀ s r, fs' s = some r → (∃ t q, fs t = some q ∧ q.F = r.F) ∨ w.heap.size ≤ r.F
theorem left_same (h : DiskG w D M room B dat fs st) (hb : Below w.heap.size w w') : Left w D M room B dat fs st w' :=
  ⟨dat, fs, h.below hb, Chg.of_below _ hb, fun _ h => .inl h, fun _ h => h, fun s r hs => .inl ⟨s, r, hs, rfl⟩⟩
/-- A file's own cells are others; all else stays. -/
theorem left_file (h : DiskG w D M room B dat fs st) {s : ByteArray} {r : Raw} {f : FS} (hs : fs s = some r) (hf : look st s = some f) (r' : Raw) (f' : FS) (hn : f'.n = s) (hrF : r'.F = r.F) (hw : w.heap.size ≤ w'.heap.size)
    (hD : w'.heap[D]? = some (.cells #[.map (some M), .int .i64 room, .int .i64 (total (put st f'))] 57 (0, 0))) (hfit : (total (put st f') : Int) ≤ room)
    (hF : FileG w' B dat r' f') (hc : Chg (fun k => k = D ∨ k = r.F) w w') : Left w D M room B dat fs (put st f') w' := by
  have hfg := h.files.some_ s r f hs hf
  have hnD : ∀ t q, fs t = some q → q.F ≠ D := fun t q hq e => by
    rcases h.files.at_ t with ⟨h1, _⟩ | ⟨q', g, h1, _, hg⟩
    · rw [h1] at hq; cases hq
    · rw [h1] at hq; cases hq
      have h2 := hg.cells
      rw [e, h.cells] at h2
      injection h2 with h2; injection h2 with _ h2; cases h2
  have hdat : ∀ k, dat k → w'.heap[k]? = w.heap[k]? := fun k hk => by
    obtain ⟨cs, fz, e⟩ := h.files.rows5 k hk
    refine hc.block k (heap_lt e) (fun e2 => ?_)
    rcases e2 with e2 | e2
    · rw [e2, h.cells] at e; injection e with e; injection e with _ e; cases e
    · rw [e2, hfg.cells] at e; injection e with e; injection e with _ e; cases e
  refine ⟨dat, fun t => if t = f'.n then some r' else fs t, ⟨hD, ?_, h.baseD, h.room0, h.room1, hfit, ?_⟩, hc.mono (fun k _ e => ?_), fun _ h => .inl h, fun _ h => h, fun t q hq => ?_⟩
  · have hM : w'.heap[M]? = w.heap[M]? := hc.block M h.files.map.lt (fun e => by
      rcases e with e | e
      · obtain ⟨ma, clk, hb, _⟩ := h.files.map; rw [e, h.cells] at hb; cases hb
      · obtain ⟨ma, clk, hb, _⟩ := h.files.map; rw [e, hfg.cells] at hb; cases hb)
    refine ⟨h.files.toFilesR.upd r' f' (by rw [hn]; obtain ⟨m, e⟩ := look_mem hf; rw [← e]; exact h.files.names f m) hF (fun t q ht hq => ?_) (fun k hk => ⟨hk, hdat k hk⟩) (fun k hk => by obtain ⟨cs, fz, e⟩ := h.files.rows5 k hk; exact ⟨cs, fz, (hdat k hk).trans e⟩), ?_, h.files.baseM⟩
    · rw [hn] at ht
      have hne : q.F ≠ r.F := fun e => ht (h.files.inj t s q r hq hs e)
      exact ⟨hc.block _ (h.files.lt hq) (fun e => by
        rcases e with e | e
        · exact hnD t q hq e
        · exact hne e), by rw [hrF]; exact hne⟩
    · have hG : (fun t => ((fun t => if t = f'.n then some r' else fs t) t).map (fun r => Value.pointer (some ⟨r.F, 0, none⟩))) = (fun t => (fs t).map (fun r => Value.pointer (some ⟨r.F, 0, none⟩))) := by
        funext t
        try dsimp only
        by_cases ht : t = f'.n
        · rw [if_pos ht, ht, hn, hs]; simp [hrF]
        · rw [if_neg ht]
      rw [hG]
      exact h.files.map.move hM
  · have := (total_put f' h.files.sorted).2
    rw [hn, hf] at this
    simp at this
    rw [this]; exact h.few
  · rcases e with e | e
    · exact .inl e
    · exact .inr (.inr ⟨s, r, hs, e⟩)
  · dsimp only at hq
    by_cases ht : t = f'.n
    · rw [if_pos ht] at hq; cases hq; exact .inl ⟨s, r, hs, hrF.symm⟩
    · rw [if_neg ht] at hq; exact .inl ⟨t, q, hq, rfl⟩
theorem DiskG.notD (h : DiskG w D M room B dat fs st) {t : ByteArray} {q : Raw} (hq : fs t = some q) : q.F ≠ D ∧ q.F ≠ M := by
  rcases h.files.at_ t with ⟨h1, _⟩ | ⟨q', g, h1, _, hg⟩
  · rw [h1] at hq; cases hq
  · rw [h1] at hq; cases hq
    have h2 := hg.cells
    refine ⟨fun e => ?_, fun e => ?_⟩
    · rw [e, h.cells] at h2
      injection h2 with h2; injection h2 with _ h2; cases h2
    · obtain ⟨ma, clk, hb, _⟩ := h.files.map
      rw [e, hb] at h2
      cases h2
theorem DiskG.DM (h : DiskG w D M room B dat fs st) : D ≠ M := fun e => by
  obtain ⟨ma, clk, hb, _⟩ := h.files.map
  have := h.cells
  rw [e, hb] at this
  cases this
theorem DiskG.datne (h : DiskG w D M room B dat fs st) {k : Nat} (hk : dat k) : k ≠ D ∧ k ≠ M ∧ ∀ t q, fs t = some q → k ≠ q.F := by
  obtain ⟨cs, fz, e⟩ := h.files.rows5 k hk
  refine ⟨fun e2 => ?_, fun e2 => ?_, fun t q hq e2 => ?_⟩
  · rw [e2, h.cells] at e; injection e with e; injection e with _ e; cases e
  · obtain ⟨ma, clk, hb, _⟩ := h.files.map
    rw [e2, hb] at e; cases e
  · rcases h.files.at_ t with ⟨h1, _⟩ | ⟨q', g, h1, _, hg⟩
    · rw [h1] at hq; cases hq
    · rw [h1] at hq; cases hq
      rw [e2, hg.cells] at e; injection e with e; injection e with _ e; cases e
/-- A file has been taken away. -/
theorem left_del (h : DiskG w D M room B dat fs st) (s : ByteArray) (hw : w.heap.size ≤ w'.heap.size)
    (hD : w'.heap[D]? = some (.cells #[.map (some M), .int .i64 room, .int .i64 (total (drop st s))] 57 (0, 0))) (hM : MapF w' M (fun t => if t = s then none else (fs t).map (fun r => .pointer (some ⟨r.F, 0, none⟩))))
    (hc : Chg (fun k => k = D ∨ k = M) w w') : Left w D M room B dat fs (drop st s) w' := by
  have ht := total_drop s h.files.sorted
  refine ⟨dat, fun t => if t = s then none else fs t, ⟨hD, ⟨h.files.toFilesR.del s (fun t q ht hq => hc.block _ (h.files.lt hq) (fun e => ?_)) (fun k hk => hc.block _ (h.files.datlt k hk) (fun e => ?_)) hw, ?_, h.files.baseM⟩, h.baseD, h.room0, h.room1, ?_, ?_⟩, hc.mono (fun k _ e => ?_), fun _ h => .inl h, fun _ h => h, fun t q hq => ?_⟩
  · have := h.notD hq
    rcases e with e | e
    · exact this.1 e
    · exact this.2 e
  · have := h.datne hk
    rcases e with e | e
    · exact this.1 e
    · exact this.2.1 e
  · have hG : (fun t => ((fun t => if t = s then none else fs t) t).map (fun r => Value.pointer (some ⟨r.F, 0, none⟩))) = (fun t => if t = s then none else (fs t).map (fun r => Value.pointer (some ⟨r.F, 0, none⟩))) := by
      funext t
      dsimp only
      by_cases ht : t = s
      · rw [if_pos ht, if_pos ht]; rfl
      · rw [if_neg ht, if_neg ht]
    rw [hG]
    exact hM
  · have := h.fit; omega
  · have := h.few; omega
  · rcases e with e | e
    · exact .inl e
    · exact .inr (.inl e)
  · dsimp only at hq
    by_cases ht : t = s
    · rw [if_pos ht] at hq; cases hq
    · rw [if_neg ht] at hq; exact .inl ⟨t, q, hq, rfl⟩
end
/-! Sync -/
def syncE (st : St) (s : ByteArray) : Int := match look st s with | some _ => 0 | none => 4
def syncS (st : St) (s : ByteArray) : St := match look st s with | some f => put st ⟨f.n, f.b, f.b.length⟩ | none => st
section
variable {w w' : World} {D M B : Nat} {room : Int} {dat dat' : Nat → Prop} {fs : ByteArray → Option Raw} {st : St}
theorem total_same {f : FS} (hs : Sorted st) {s : ByteArray} (hf : look st s = some f) (l : Int) : total (put st ⟨f.n, f.b, l⟩) = total st := by
  have h1 := (total_put ⟨f.n, f.b, l⟩ hs).1
  obtain ⟨_, hn⟩ := look_mem hf
  rw [hn, hf] at h1
  dsimp only at h1
  rw [hn]
  omega
set_option maxHeartbeats 400000 in
set_option maxRecDepth 100000 in
theorem sync_calls (h : DiskG w D M room B dat fs st) (s : ByteArray) : Calls Try.prog 21 #[.pointer (some ⟨D, 0, none⟩), .string s] w fun e w' => e = .returned (.int .i64 (syncE st s)) ∧ Left w D M room B dat fs (syncS st s) w' := by
  rcases h.files.at_ s with ⟨h1, h2⟩ | ⟨r, f, h1, h2, hf⟩
  · have e1 : syncE st s = 4 := by unfold syncE; rw [h2]
    have e2 : syncS st s = st := by unfold syncS; rw [h2]
    rw [e1, e2]
    clear h2 e1 e2
    go_enter Try.func21, Try.ntmps21
    go_wp2_with (go_at_call 33; (with_reducible refine (find_no h s h1).mono ?_); rintro e w9 ⟨rfl, hw9⟩; subst w9)
    go_ret
    exact ⟨rfl, left_same h (Below.refl _ _)⟩
  · have e1 : syncE st s = 0 := by unfold syncE; rw [h2]
    have e2 : syncS st s = put st ⟨f.n, f.b, f.b.length⟩ := by unfold syncS; rw [h2]
    rw [e1, e2]
    clear e1 e2
    obtain ⟨f0, f1, z0, z1⟩ := hf.cell
    have HS := Aside0.mk h1
    have HL := Aside0.mk h2
    have HF := Aside0.mk hf
    have HD := Aside0.mk h
    clear h1 h2 hf h
    go_enter Try.func21, Try.ntmps21
    go_wp2_with (go_at_call 33; (with_reducible refine (find_yes HD.out s r HS.out).mono ?_); rintro e w9 ⟨rfl, hw9⟩; subst w9)
    go_ret
    have hnn : f.n = s := (look_mem HL.out).2
    have hb := blk_put HF.out.cells 1 (.int .i64 f.b.length) rfl
    have hne := HD.out.notD HS.out
    have hc : Chg (fun k => k = D ∨ k = r.F) w (w.setCell ⟨r.F, 1, none⟩ (.int .i64 f.b.length)) := (Chg.refl _ w).set _ _ (.inr rfl)
    refine ⟨rfl, left_file HD.out HS.out HL.out r ⟨f.n, f.b, f.b.length⟩ hnn rfl (by simp) ?_ ?_ ⟨hb, ?_, HF.out.cap, fun ad e => ?_, HF.out.base, by simp, by simp⟩ hc⟩
    · rw [total_same HD.out.files.sorted HL.out, Below.heap_setCell _ _ _ D (fun e => hne.1 e.symm)]; exact HD.out.cells
    · rw [total_same HD.out.files.sorted HL.out]; exact HD.out.fit
    · exact row_move HF.out.row (fun ad e => Below.heap_setCell _ _ _ _ (fun e2 => (HD.out.datne (HF.out.data ad e).1).2.2 s r HS.out e2))
    · obtain ⟨g1, g2, cs, fz, g3⟩ := HF.out.data ad e
      exact ⟨g1, g2, cs, fz, (Below.heap_setCell _ _ _ _ (fun e2 => (HD.out.datne g1).2.2 s r HS.out e2)).trans g3⟩
end
end Go.Proofs.Ytkdbojaoaldmbaa.G
