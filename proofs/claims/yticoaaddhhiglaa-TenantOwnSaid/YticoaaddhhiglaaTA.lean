import Derived.WideShapes
import GoSem.Op.String
import Derived.Laws.Strings
import Derived.MapKept
import Derived.Below
import Derived.Deep.Slices
import Derived.Maps.RangeRun
import Derived.Laws.IdiomRangeMap
import Derived.Maps.Own
import Derived.Lib.SliceRun
import Derived.LoopN
import Derived.Test.YticoaaddhhiglaaQ0
import Derived.Test.YticoaaddhhiglaaQ1
import Derived.Deep.MidRow
/- Tenants as a list by rising names; maps with names for keys; what may have changed (mkT1.py, out of dk's text). -/
namespace Go.Proofs.Yticoaaddhhiglaa.T
open Go.RowKit Go.Proofs.Yticoaaddhhiglaa.Q Go.Proofs.YticoaaddhhiglaaW.PrintWords Go.Proofs.YticoaaddhhiglaaW.PrintLast Go.Proofs.YticoaaddhhiglaaW.PrintMore
set_option linter.unusedVariables false
set_option linter.unusedSimpArgs false
theorem bytesLess_iff : ∀ x y : List UInt8, Op.bytesLess x y = true ↔ x < y
  | [], [] => by simp [Op.bytesLess]
  | [], b :: y => by simp [Op.bytesLess]
  | a :: x, [] => by simp [Op.bytesLess]
  | a :: x, b :: y => by
    rw [List.cons_lt_cons_iff]
    simp only [Op.bytesLess, Bool.or_eq_true, Bool.and_eq_true, decide_eq_true_eq, beq_iff_eq, bytesLess_iff x y]
theorem str_inj {s t : ByteArray} (h : s.toList = t.toList) : s = t := by
  rw [ByteArray.toList_eq, ByteArray.toList_eq] at h
  exact Go.WideShapes.bytes_inj h
/-- One name ahead of another. -/
def Lt (s t : ByteArray) : Prop := s.toList < t.toList
theorem Lt.irrefl (s : ByteArray) : ¬ Lt s s := List.lt_irrefl _
theorem Lt.trans {s t u : ByteArray} (h : Lt s t) (k : Lt t u) : Lt s u := List.lt_trans h k
theorem Lt.asymm {s t : ByteArray} (h : Lt s t) (k : Lt t s) : False := Lt.irrefl _ (h.trans k)
theorem Lt.ne {s t : ByteArray} (h : Lt s t) : s ≠ t := fun e => by subst e; exact Lt.irrefl _ h
theorem Lt.total (s t : ByteArray) : Lt s t ∨ s = t ∨ Lt t s := by
  by_cases h : Lt s t
  · exact .inl h
  · by_cases h2 : Lt t s
    · exact .inr (.inr h2)
    · exact .inr (.inl (str_inj (List.le_antisymm (List.not_lt.1 h2) (List.not_lt.1 h))))
instance (s t : ByteArray) : Decidable (Lt s t) := inferInstanceAs (Decidable (s.toList < t.toList))
abbrev St := List S39
def Sorted (st : St) : Prop := st.Pairwise (fun f g => Lt f.f0 g.f0)
def look : St → ByteArray → Option S39
  | [], _ => none
  | f :: r, s => if f.f0 = s then some f else look r s
def put : St → S39 → St
  | [], x => [x]
  | f :: r, x => if x.f0 = f.f0 then x :: r else if Lt x.f0 f.f0 then x :: f :: r else f :: put r x
def drop (st : St) (s : ByteArray) : St := st.filter (fun f => f.f0 ≠ s)
def total : St → Nat
  | [] => 0
  | f :: r => f.f1.length + total r
theorem look_mem : ∀ {st : St} {s : ByteArray} {f : S39}, look st s = some f → f ∈ st ∧ f.f0 = s
  | g :: r, s, f, h => by
    unfold look at h
    by_cases hg : g.f0 = s
    · rw [if_pos hg] at h
      injection h with h
      subst h
      exact ⟨List.mem_cons_self, hg⟩
    · rw [if_neg hg] at h
      obtain ⟨h1, h2⟩ := look_mem h
      exact ⟨List.mem_cons_of_mem _ h1, h2⟩
theorem look_none {st : St} {s : ByteArray} : look st s = none ↔ ∀ f ∈ st, f.f0 ≠ s := by
  induction st with
  | nil => simp [look]
  | cons g r ih =>
    unfold look
    by_cases hg : g.f0 = s
    · rw [if_pos hg]; simp [hg]
    · rw [if_neg hg, ih]; simp [hg]
theorem look_of_mem : ∀ {st : St}, Sorted st → ∀ {f : S39}, f ∈ st → look st f.f0 = some f
  | g :: r, hs, f, hf => by
    unfold look
    rcases List.mem_cons.1 hf with rfl | hf
    · rw [if_pos rfl]
    · obtain ⟨h1, h2⟩ := List.pairwise_cons.1 hs
      rw [if_neg (fun e => (h1 f hf).ne e)]
      exact look_of_mem h2 hf
theorem put_mem : ∀ {st : St} {x g : S39}, g ∈ put st x → g = x ∨ (g ∈ st ∧ g.f0 ≠ x.f0 ∨ g ∈ st)
  | [], x, g, h => by simp [put] at h; exact .inl h
  | f :: r, x, g, h => by
    unfold put at h
    split at h
    · rcases List.mem_cons.1 h with h | h
      · exact .inl h
      · exact .inr (.inr (List.mem_cons_of_mem _ h))
    · split at h
      · rcases List.mem_cons.1 h with h | h
        · exact .inl h
        · exact .inr (.inr h)
      · rcases List.mem_cons.1 h with h | h
        · exact .inr (.inr (by rw [h]; exact List.mem_cons_self))
        · rcases put_mem h with h | h
          · exact .inl h
          · exact .inr (.inr (List.mem_cons_of_mem _ (h.elim (fun h => h.1) id)))
theorem put_sorted : ∀ {st : St} (x : S39), Sorted st → Sorted (put st x)
  | [], x, _ => by simp [put, Sorted]
  | f :: r, x, hs => by
    obtain ⟨h1, h2⟩ := List.pairwise_cons.1 hs
    unfold put
    split
    · rename_i h
      exact List.pairwise_cons.2 ⟨fun g hg => by rw [h]; exact h1 g hg, h2⟩
    · split
      · rename_i h
        refine List.pairwise_cons.2 ⟨fun g hg => ?_, hs⟩
        rcases List.mem_cons.1 hg with rfl | hg
        · exact h
        · exact h.trans (h1 g hg)
      · rename_i hne hlt
        refine List.pairwise_cons.2 ⟨fun g hg => ?_, put_sorted x h2⟩
        rcases put_mem hg with rfl | hg
        · rcases Lt.total f.f0 g.f0 with h | h | h
          · exact h
          · exact absurd h.symm hne
          · exact absurd h hlt
        · exact h1 g (hg.elim (fun h => h.1) id)
theorem look_put : ∀ {st : St} (x : S39) (s : ByteArray), Sorted st → look (put st x) s = if s = x.f0 then some x else look st s
  | [], x, s, _ => by
    simp only [put, look]
    by_cases h : s = x.f0
    · rw [if_pos h.symm, if_pos h]
    · rw [if_neg (fun e => h e.symm), if_neg h]
  | f :: r, x, s, hs => by
    obtain ⟨h1, h2⟩ := List.pairwise_cons.1 hs
    have ih := look_put x s h2
    unfold put
    by_cases hx : x.f0 = f.f0
    · rw [if_pos hx]
      unfold look
      by_cases h : s = x.f0
      · rw [if_pos h.symm, if_pos h]
      · rw [if_neg (fun e => h e.symm), if_neg h, if_neg (fun e => h (by rw [hx, e]))]
    · rw [if_neg hx]
      by_cases hl : Lt x.f0 f.f0
      · rw [if_pos hl]
        conv => lhs; unfold look
        by_cases h : s = x.f0
        · rw [if_pos h.symm, if_pos h]
        · rw [if_neg (fun e => h e.symm), if_neg h]
      · rw [if_neg hl]
        unfold look
        by_cases hf : f.f0 = s
        · rw [if_pos hf, if_pos hf, if_neg (fun e => hx (by rw [← e, hf]))]
        · rw [if_neg hf, if_neg hf, ih]
/-- Of lists by rising names those that answer alike are the same. -/
theorem sorted_ext : ∀ {a b : St}, Sorted a → Sorted b → (∀ s, look a s = look b s) → a = b
  | [], [], _, _, _ => rfl
  | [], g :: r, _, _, h => by have := h g.f0; simp [look] at this
  | f :: r, [], _, _, h => by have := h f.f0; simp [look] at this
  | f :: r, g :: q, ha, hb, h => by
    obtain ⟨a1, a2⟩ := List.pairwise_cons.1 ha
    obtain ⟨b1, b2⟩ := List.pairwise_cons.1 hb
    have e : f = g := by
      have h1 := h f.f0
      have h2 := h g.f0
      unfold look at h1 h2
      rw [if_pos rfl] at h1
      rw [if_pos rfl] at h2
      by_cases hn : f.f0 = g.f0
      · rw [if_pos hn.symm] at h1
        exact Option.some.inj h1
      · rw [if_neg (fun e => hn e.symm)] at h1
        rw [if_neg hn] at h2
        obtain ⟨m1, _⟩ := look_mem h1.symm
        obtain ⟨m2, _⟩ := look_mem h2
        exact ((b1 f m1).asymm (a1 g m2)).elim
    subst e
    rw [sorted_ext a2 b2 (fun s => ?_)]
    have h1 := h s
    unfold look at h1
    by_cases hs : f.f0 = s
    · have n1 : look r s = none := look_none.2 (fun g hg e => (a1 g hg).ne (by rw [e, hs]))
      have n2 : look q s = none := look_none.2 (fun g hg e => (b1 g hg).ne (by rw [e, hs]))
      rw [n1, n2]
    · rw [if_neg hs, if_neg hs] at h1
      exact h1
theorem total_put : ∀ {st : St} (x : S39), Sorted st → total (put st x) + (match look st x.f0 with | some f => f.f1.length | none => 0) = total st + x.f1.length ∧ (put st x).length = st.length + (if look st x.f0 = none then 1 else 0)
  | [], x, _ => by simp [put, total, look]
  | f :: r, x, hs => by
    obtain ⟨h1, h2⟩ := List.pairwise_cons.1 hs
    have ih := total_put x h2
    unfold put
    by_cases hx : x.f0 = f.f0
    · rw [if_pos hx]
      unfold look
      rw [if_pos hx.symm]
      dsimp only
      simp only [total, List.length_cons, reduceCtorEq, if_false]
      first | omega | exact ⟨by omega, trivial⟩
    · rw [if_neg hx]
      by_cases hl : Lt x.f0 f.f0
      · rw [if_pos hl]
        have hn : look (f :: r) x.f0 = none := look_none.2 (fun g hg e => by
          rcases List.mem_cons.1 hg with rfl | hg
          · exact hx e.symm
          · exact (hl.trans (h1 g hg)).ne e.symm)
        rw [hn]
        dsimp only
        simp only [total, List.length_cons, if_true]
        first | omega | exact ⟨by omega, trivial⟩
      · rw [if_neg hl]
        unfold look
        rw [if_neg (fun e => hx e.symm)]
        simp only [total, List.length_cons]
        first | omega | exact ⟨by omega, trivial⟩
section
variable {P : Program}
/-- The map of block M holds what G says. -/
def MapF (w : World) (M : Nat) (G : ByteArray → Option Value) : Prop :=
  ∃ ma clk, w.heap[M]? = some (.map ma clk) ∧ MapKept.Stamped ma clk ∧ (∀ x ∈ ma.toList, ∃ s, x.key = .string s ∧ G s = some x.val) ∧ (∀ s v, G s = some v → ∃ x ∈ ma.toList, x.key = .string s)
theorem MapF.lt {w : World} {M : Nat} {G : ByteArray → Option Value} (h : MapF w M G) : M < w.heap.size := by
  obtain ⟨ma, clk, h, _⟩ := h
  exact (Array.getElem?_eq_some_iff.1 h).1
theorem MapF.move {w w' : World} {M : Nat} {G : ByteArray → Option Value} (h : MapF w M G) (hm : w'.heap[M]? = w.heap[M]?) : MapF w' M G := by
  obtain ⟨ma, clk, h, r⟩ := h
  exact ⟨ma, clk, hm.trans h, r⟩
theorem MapF.find {w : World} {M : Nat} {G : ByteArray → Option Value} {ma : Array MapEntry} (hk : ∀ x ∈ ma.toList, ∃ s, x.key = .string s ∧ G s = some x.val) (hg : ∀ s v, G s = some v → ∃ x ∈ ma.toList, x.key = .string s) (s : ByteArray) :
    (Instr.findNow .string (.string s) ma.toList 0 = some none ∧ G s = none ∧ ∀ x ∈ ma.toList, x.key ≠ .string s) ∨ ∃ j e, Instr.findNow .string (.string s) ma.toList 0 = some (some (j, e.val)) ∧ ma[j]? = some e ∧ e.key = .string s ∧ G s = some e.val := by
  have hks : ∀ x ∈ ma.toList, MapKept.IsKey .string x.key := fun x hx => by
    obtain ⟨t, ht, _⟩ := hk x hx
    rw [ht]
    simp [MapKept.IsKey]
  rcases MapKept.findNow_spec (d := .string) (k := .string s) (by simp [MapKept.IsKey]) ma.toList 0 hks with ⟨h1, h2⟩ | ⟨j, e, h1, h2, h3⟩
  · refine .inl ⟨h1, ?_, h2⟩
    cases hG : G s with
    | none => rfl
    | some v =>
      obtain ⟨x, hx, hxk⟩ := hg s v hG
      exact absurd hxk (h2 x hx)
  · have hj : ma[j]? = some e := by simpa using h2
    obtain ⟨t, ht, hv⟩ := hk e (List.mem_of_getElem? h2)
    rw [ht] at h3
    injection h3 with h3
    subst h3
    exact .inr ⟨j, e, by simpa using h1, hj, ht, hv⟩
theorem MapF.look {w : World} {M : Nat} {G : ByteArray → Option Value} {mt kt et : TypeId} (ht : P.underlying mt = some (.map kt et)) (hk : P.underlying kt = some .string) {z : Value} (hz : (zeroValue et).run P w = .ok z w) (h : MapF w M G) (s : ByteArray) :
    (Instr.lookup mt (.map (some M)) (.string s) false).run P w = .ok ((G s).getD z) w := by
  obtain ⟨ma, clk, hb, _, h1, h2⟩ := h
  have hc : ∀ b, (Instr.checkKey b 10000 kt (.string s)).run P w = .ok () w := fun b => MapKept.run_checkKey (k := .string s) hk (by simp [MapKept.IsKey]) b 9999
  rcases MapF.find (w := w) (M := M) h1 h2 s with ⟨hf, hG, _⟩ | ⟨j, e, hf, hj, _, hG⟩
  · simp [Instr.lookup, run_underlying ht, MapKept.run_getObj_map hb, hc, MapKept.run_findKey hk hf, Result.andThen, hz, hG]
  · simp [Instr.lookup, run_underlying ht, MapKept.run_getObj_map hb, hc, MapKept.run_findKey hk hf, Result.andThen, hG]
theorem mem_modify {ma : Array MapEntry} {j : Nat} {f : MapEntry → MapEntry} {x : MapEntry} (h : x ∈ (ma.modify j f).toList) : (∃ e, ma[j]? = some e ∧ x = f e) ∨ ∃ i, i ≠ j ∧ ma[i]? = some x := by
  obtain ⟨i, hi⟩ := List.getElem?_of_mem h
  have hi' : (ma.modify j f)[i]? = some x := by rw [← Array.getElem?_toList]; exact hi
  rw [Array.getElem?_modify] at hi'
  by_cases hij : j = i
  · subst hij
    rw [if_pos rfl] at hi'
    obtain ⟨e, he, hx⟩ := Option.map_eq_some_iff.1 hi'
    exact .inl ⟨e, he, hx.symm⟩
  · rw [if_neg hij] at hi'
    exact .inr ⟨i, fun e => hij e.symm, hi'⟩
theorem mem_of_modify {ma : Array MapEntry} {j : Nat} {f : MapEntry → MapEntry} {x : MapEntry} {i : Nat} (h : ma[i]? = some x) : (if i = j then f x else x) ∈ (ma.modify j f).toList := by
  have : (ma.modify j f)[i]? = some (if i = j then f x else x) := by
    rw [Array.getElem?_modify]
    by_cases hij : j = i
    · subst hij; simp [h]
    · rw [if_neg hij, h, if_neg (fun e => hij e.symm)]
  exact Array.mem_toList_iff.2 (Array.mem_of_getElem? this)
theorem keys_apart {ma : Array MapEntry} {clk : Nat} (hs : MapKept.Stamped ma clk) {i j : Nat} {x e : MapEntry} (hi : ma[i]? = some x) (hj : ma[j]? = some e) (hij : i ≠ j) : x.key ≠ e.key := by
  intro he
  have hn := hs.2.2
  have h1 : (ma.toList.map (·.key))[i]? = some x.key := by simp [hi]
  have h2 : (ma.toList.map (·.key))[j]? = some e.key := by simp [hj]
  have hil : i < (ma.toList.map (·.key)).length := (List.getElem?_eq_some_iff.1 h1).1
  exact hij ((List.getElem?_inj hil hn).1 (by rw [h1, h2, he]))
theorem MapF.put {w : World} {M : Nat} {G : ByteArray → Option Value} {mt kt et : TypeId} (ht : P.underlying mt = some (.map kt et)) (hk : P.underlying kt = some .string) (h : MapF w M G) (s : ByteArray) (v : Value) :
    ∃ w' : World, (Instr.mapUpdate mt (.map (some M)) (.string s) v).run P w = .ok () w' ∧ MapF w' M (fun t => if t = s then some v else G t) ∧ w'.os = w.os ∧ w'.tape = w.tape ∧ w'.output = w.output ∧ w'.heap.size = w.heap.size ∧ ∀ k, k ≠ M → w'.heap[k]? = w.heap[k]? := by
  obtain ⟨ma, clk, hb, hs, h1, h2⟩ := h
  have hc : ∀ b, (Instr.checkKey b 10000 kt (.string s)).run P w = .ok () w := fun b => MapKept.run_checkKey (k := .string s) hk (by simp [MapKept.IsKey]) b 9999
  rcases MapF.find (w := w) (M := M) h1 h2 s with ⟨hf, hG, hn⟩ | ⟨j, e, hf, hj, hek, hG⟩
  · refine ⟨{ w with heap := w.heap.setIfInBounds M (.map (ma.push { key := .string s, val := v, born := clk }) (clk + 1)) }, by simp [Instr.mapUpdate, run_underlying ht, MapKept.run_getObj_map hb, hc, MapKept.run_findKey hk hf, MapKept.run_setObj_map _ hb, Result.andThen], ⟨_, _, (MapKept.heap_set hb).1, MapKept.stamped_push hs hn, ?_, ?_⟩, rfl, rfl, rfl, by simp, fun k hkM => (MapKept.heap_set hb).2 k hkM⟩
    · intro x hx
      simp only [Array.toList_push, List.mem_append, List.mem_singleton] at hx
      rcases hx with hx | rfl
      · obtain ⟨t, htk, htv⟩ := h1 x hx
        refine ⟨t, htk, ?_⟩
        exact (if_neg (fun e => hn x hx (by rw [htk, e]))).trans htv
      · exact ⟨s, rfl, by simp⟩
    · intro t u hu
      dsimp only at hu
      by_cases hts : t = s
      · subst hts
        exact ⟨{ key := .string t, val := v, born := clk }, by simp, rfl⟩
      · rw [if_neg hts] at hu
        obtain ⟨x, hx, hxk⟩ := h2 t u hu
        exact ⟨x, by simp only [Array.toList_push, List.mem_append]; exact .inl hx, hxk⟩
  · have hkey : ∀ e', ma[j]? = some e' → ({ e' with key := .string s, val := v } : MapEntry).key = e'.key := fun e' he' => by rw [hj] at he'; cases he'; exact hek.symm
    refine ⟨{ w with heap := w.heap.setIfInBounds M (.map (ma.modify j fun e => { e with key := .string s, val := v }) clk) }, by simp [Instr.mapUpdate, run_underlying ht, MapKept.run_getObj_map hb, hc, MapKept.run_findKey hk hf, hj, hek, MapKept.run_keyThatStays (d := .string) (k := .string s) (by simp [MapKept.IsKey]), MapKept.run_setObj_map _ hb, Result.andThen], ⟨_, _, (MapKept.heap_set hb).1, MapKept.stamped_modify hs _ _ (fun _ _ => rfl) (fun e' _ he' => hkey e' he'), ?_, ?_⟩, rfl, rfl, rfl, by simp, fun k hkM => (MapKept.heap_set hb).2 k hkM⟩
    · intro x hx
      rcases mem_modify hx with ⟨e', he', rfl⟩ | ⟨i, hij, hi⟩
      · exact ⟨s, rfl, by simp⟩
      · obtain ⟨t, htk, htv⟩ := h1 x (Array.mem_toList_iff.2 (Array.mem_of_getElem? hi))
        refine ⟨t, htk, ?_⟩
        exact (if_neg (fun et => keys_apart hs hi hj hij (by rw [htk, hek, et]))).trans htv
    · intro t u hu
      dsimp only at hu
      by_cases hts : t = s
      · subst hts
        have := mem_of_modify (j := j) (f := fun e => { e with key := .string t, val := v }) hj
        rw [if_pos rfl] at this
        exact ⟨_, this, rfl⟩
      · rw [if_neg hts] at hu
        obtain ⟨x, hx, hxk⟩ := h2 t u hu
        obtain ⟨i, hi⟩ := List.getElem?_of_mem hx
        have hi' : ma[i]? = some x := by simpa using hi
        have hij : i ≠ j := fun e' => by subst e'; rw [hj] at hi'; cases hi'; rw [hek] at hxk; injection hxk with hxk; exact hts hxk.symm
        have := mem_of_modify (j := j) (f := fun e => { e with key := .string s, val := v }) hi'
        rw [if_neg hij] at this
        exact ⟨x, this, hxk⟩
theorem MapF.drop {w : World} {M : Nat} {G : ByteArray → Option Value} {mt kt et ty : TypeId} (ht : P.underlying mt = some (.map kt et)) (hk : P.underlying kt = some .string) (h : MapF w M G) (s : ByteArray) :
    ∃ w' : World, (Builtin.delete_ #[mt, kt] ty #[.map (some M), .string s]).run P w = .ok (.tuple #[]) w' ∧ MapF w' M (fun t => if t = s then none else G t) ∧ w'.os = w.os ∧ w'.tape = w.tape ∧ w'.output = w.output ∧ w'.heap.size = w.heap.size ∧ ∀ k, k ≠ M → w'.heap[k]? = w.heap[k]? := by
  obtain ⟨ma, clk, hb, hs, h1, h2⟩ := h
  have hc : ∀ b, (Instr.checkKey b 10000 kt (.string s)).run P w = .ok () w := fun b => MapKept.run_checkKey (k := .string s) hk (by simp [MapKept.IsKey]) b 9999
  rcases MapF.find (w := w) (M := M) h1 h2 s with ⟨hf, hG, hn⟩ | ⟨j, e, hf, hj, hek, hG⟩
  · refine ⟨{ w with heap := w.heap.setIfInBounds M (.map ma clk) }, by simp [Builtin.delete_, run_underlying ht, MapKept.run_getObj_map hb, hc, MapKept.run_findKey hk hf, MapKept.run_setObj_map _ hb, Result.andThen], ⟨_, _, (MapKept.heap_set hb).1, hs, ?_, ?_⟩, rfl, rfl, rfl, by simp, fun k hkM => (MapKept.heap_set hb).2 k hkM⟩
    · intro x hx
      obtain ⟨t, htk, htv⟩ := h1 x hx
      exact ⟨t, htk, (if_neg (fun e => hn x hx (by rw [htk, e]))).trans htv⟩
    · intro t u hu
      dsimp only at hu
      by_cases hts : t = s
      · rw [if_pos hts] at hu; cases hu
      · rw [if_neg hts] at hu
        exact h2 t u hu
  · have hjl : j < ma.size := (Array.getElem?_eq_some_iff.1 hj).1
    have her : (ma.eraseIdxIfInBounds j).toList = ma.toList.eraseIdx j := by
      unfold Array.eraseIdxIfInBounds
      rw [dif_pos hjl]
      simp
    refine ⟨{ w with heap := w.heap.setIfInBounds M (.map (ma.eraseIdxIfInBounds j) clk) }, by simp [Builtin.delete_, run_underlying ht, MapKept.run_getObj_map hb, hc, MapKept.run_findKey hk hf, MapKept.run_setObj_map _ hb, Result.andThen], ⟨_, _, (MapKept.heap_set hb).1, MapKept.stamped_erase hs _, ?_, ?_⟩, rfl, rfl, rfl, by simp, fun k hkM => (MapKept.heap_set hb).2 k hkM⟩
    · intro x hx
      rw [her] at hx
      obtain ⟨i, hij, hi⟩ := List.mem_eraseIdx_iff_getElem?.1 hx
      have hi' : ma[i]? = some x := by simpa using hi
      obtain ⟨t, htk, htv⟩ := h1 x (Array.mem_toList_iff.2 (Array.mem_of_getElem? hi'))
      refine ⟨t, htk, ?_⟩
      exact (if_neg (fun et => keys_apart hs hi' hj hij (by rw [htk, hek, et]))).trans htv
    · intro t u hu
      dsimp only at hu
      by_cases hts : t = s
      · rw [if_pos hts] at hu; cases hu
      · rw [if_neg hts] at hu
        obtain ⟨x, hx, hxk⟩ := h2 t u hu
        obtain ⟨i, hi⟩ := List.getElem?_of_mem hx
        have hi' : ma[i]? = some x := by simpa using hi
        have hij : i ≠ j := fun e' => by subst e'; rw [hj] at hi'; cases hi'; rw [hek] at hxk; injection hxk with hxk; exact hts hxk.symm
        exact ⟨x, by rw [her]; exact List.mem_eraseIdx_iff_getElem?.2 ⟨i, hij, hi⟩, hxk⟩
theorem MapF.made (w : World) : MapF (w.alloc (.map #[] 0)) w.heap.size (fun _ => none) :=
  ⟨#[], 0, (MapKept.heap_alloc w _).1, MapKept.stamped_empty 0, by simp, by simp⟩
/-- An iterator at block r goes over the map of block M; these names have come. -/
def IterF (w : World) (r M : Nat) (G : ByteArray → Option Value) (done : List ByteArray) (cnt : Nat) : Prop :=
  ∃ ma clk seen c0, w.heap[M]? = some (.map ma clk) ∧ MapKept.Stamped ma clk ∧ (∀ x ∈ ma.toList, ∃ s, x.key = .string s ∧ G s = some x.val) ∧ (∀ s v, G s = some v → ∃ x ∈ ma.toList, x.key = .string s) ∧
    w.heap[r]? = some (.mapIter (some M) clk seen c0) ∧ clk ≤ c0 ∧ done.Nodup ∧ (∀ s, s ∈ done ↔ ∃ x ∈ ma.toList, x.key = .string s ∧ seen.contains x.born = true) ∧ ma.size = cnt
theorem IterF.map {w : World} {r M : Nat} {G : ByteArray → Option Value} {done : List ByteArray} {cnt : Nat} (h : IterF w r M G done cnt) : MapF w M G := by
  obtain ⟨ma, clk, seen, c0, h1, h2, h3, h4, _⟩ := h
  exact ⟨ma, clk, h1, h2, h3, h4⟩
theorem IterF.ne {w : World} {r M : Nat} {G : ByteArray → Option Value} {done : List ByteArray} {cnt : Nat} (h : IterF w r M G done cnt) : r ≠ M := by
  obtain ⟨ma, clk, seen, c0, h1, _, _, _, h5, _⟩ := h
  intro e
  rw [e, h1] at h5
  cases h5
theorem IterF.lt {w : World} {r M : Nat} {G : ByteArray → Option Value} {done : List ByteArray} {cnt : Nat} (h : IterF w r M G done cnt) : r < w.heap.size := by
  obtain ⟨ma, clk, seen, c0, _, _, _, _, h5, _⟩ := h
  exact (Array.getElem?_eq_some_iff.1 h5).1
theorem IterF.move {w w' : World} {r M : Nat} {G : ByteArray → Option Value} {done : List ByteArray} {cnt : Nat} (h : IterF w r M G done cnt) (hm : w'.heap[M]? = w.heap[M]?) (hr : w'.heap[r]? = w.heap[r]?) : IterF w' r M G done cnt := by
  obtain ⟨ma, clk, seen, c0, h1, h2, h3, h4, h5, q⟩ := h
  exact ⟨ma, clk, seen, c0, hm.trans h1, h2, h3, h4, hr.trans h5, q⟩
theorem nodup_of_map {α β : Type} {l : List α} (f : α → β) (h : (l.map f).Nodup) {x y : α} (hx : x ∈ l) (hy : y ∈ l) (e : f x = f y) : x = y := by
  obtain ⟨i, hi⟩ := List.getElem?_of_mem hx
  obtain ⟨j, hj⟩ := List.getElem?_of_mem hy
  have h1 : (l.map f)[i]? = some (f x) := by simp [hi]
  have h2 : (l.map f)[j]? = some (f y) := by simp [hj]
  have hil : i < (l.map f).length := (List.getElem?_eq_some_iff.1 h1).1
  have : i = j := (List.getElem?_inj hil h).1 (by rw [h1, h2, e])
  subst this
  rw [hi] at hj
  exact Option.some.inj hj
theorem len_le_of_sub {α : Type} : ∀ {l m : List α}, l.Nodup → l ⊆ m → l.length ≤ m.length
  | [], _, _, _ => Nat.zero_le _
  | a :: l, m, hn, hs => by
    obtain ⟨h1, h2⟩ := List.nodup_cons.1 hn
    obtain ⟨m1, m2, rfl⟩ := List.append_of_mem (hs List.mem_cons_self)
    have := len_le_of_sub (m := m1 ++ m2) h2 (fun x hx => by
      have hm := hs (List.mem_cons_of_mem _ hx)
      rw [List.mem_append, List.mem_cons] at hm
      rw [List.mem_append]
      rcases hm with h | h | h
      · exact .inl h
      · subst h; exact absurd hx h1
      · exact .inr h)
    rw [List.length_append] at this
    rw [List.length_append, List.length_cons, List.length_cons]
    omega
theorem IterF.count {w : World} {r M : Nat} {G : ByteArray → Option Value} {done : List ByteArray} {cnt : Nat} (h : IterF w r M G done cnt) : done.length ≤ cnt := by
  obtain ⟨ma, clk, seen, c0, h1, h2, h3, h4, h5, h6, h7, h8, h9⟩ := h
  have hsub : (done.map Value.string) ⊆ ma.toList.map (·.key) := by
    intro v hv
    obtain ⟨s, hs, rfl⟩ := List.mem_map.1 hv
    obtain ⟨x, hx, hk, _⟩ := (h8 s).1 hs
    exact List.mem_map.2 ⟨x, hx, hk⟩
  have hn : (done.map Value.string).Nodup := h7.map _ (fun a b hab e => hab (by injection e))
  have := len_le_of_sub hn hsub
  simpa [h9] using this
/-- Which names a map has, and how many. -/
theorem MapF.entries {w : World} {M : Nat} {G : ByteArray → Option Value} (h : MapF w M G) : ∃ ma clk, w.heap[M]? = some (.map ma clk) ∧ ∀ l : List ByteArray, l.Nodup → (∀ s, s ∈ l ↔ G s ≠ none) → ma.size = l.length := by
  obtain ⟨ma, clk, h1, h2, h3, h4⟩ := h
  refine ⟨ma, clk, h1, fun l hl hm => ?_⟩
  have hn : (l.map Value.string).Nodup := hl.map _ (fun a b hab e => hab (by injection e))
  have p1 : (l.map Value.string) ⊆ ma.toList.map (·.key) := by
    intro v hv
    obtain ⟨s, hs, rfl⟩ := List.mem_map.1 hv
    have hg := (hm s).1 hs
    cases hq : G s with
    | none => exact absurd hq hg
    | some u =>
      obtain ⟨x, hx, hk⟩ := h4 s u hq
      exact List.mem_map.2 ⟨x, hx, hk⟩
  have p2 : ma.toList.map (·.key) ⊆ l.map Value.string := by
    intro v hv
    obtain ⟨x, hx, rfl⟩ := List.mem_map.1 hv
    obtain ⟨s, hs, hv⟩ := h3 x hx
    exact List.mem_map.2 ⟨s, (hm s).2 (by rw [hv]; simp), hs.symm⟩
  have a1 := len_le_of_sub hn p1
  have a2 := len_le_of_sub h2.2.2 p2
  simp at a1 a2
  omega
theorem MapF.range {w : World} {M : Nat} {G : ByteArray → Option Value} {mt kt et : TypeId} (ht : P.underlying mt = some (.map kt et)) (h : MapF w M G) :
    ∃ w1 : World, (Instr.range mt (.map (some M))).run P w = .ok (.pointer (some ⟨w.heap.size, 0, none⟩)) w1 ∧ (∃ cnt, IterF w1 w.heap.size M G [] cnt) ∧ Below w.heap.size w w1 := by
  obtain ⟨ma, clk, h1, h2, h3, h4⟩ := h
  refine ⟨_, run_range_map w mt kt et M _ clk ht h1, ⟨ma.size, ma, clk, #[], clk, (heap_alloc_old w _ (Array.getElem?_eq_some_iff.1 h1).1).trans h1, h2, h3, h4, heap_alloc_new w _, Nat.le_refl _, List.nodup_nil, fun s => by simp, rfl⟩, ?_⟩
  exact (Below.refl _ _).alloc (Nat.le_refl _) _
theorem IterF.next {w : World} {r M : Nat} {G : ByteArray → Option Value} {done : List ByteArray} {cnt : Nat} (h : IterF w r M G done cnt) (ty : TypeId) :
    ((∀ s v, G s = some v → s ∈ done) ∧ (Instr.next (.pointer (some ⟨r, 0, none⟩)) false ty).run P w = .ok (.tuple #[.bool false]) w) ∨
    ∃ s v w', G s = some v ∧ s ∉ done ∧ (Instr.next (.pointer (some ⟨r, 0, none⟩)) false ty).run P w = .ok (.tuple #[.bool true, .string s, v]) w' ∧ IterF w' r M G (done ++ [s]) cnt ∧
      (Instr.entry (.pointer (some ⟨r, 0, none⟩))).run P w' = .ok (.tuple #[.string s, v]) w' ∧ w'.os = w.os ∧ w'.tape = w.tape ∧ w'.output = w.output ∧ w'.heap.size = w.heap.size ∧ ∀ k, k ≠ r → w'.heap[k]? = w.heap[k]? := by
  have hrM := h.ne
  obtain ⟨ma, clk, seen, c0, h1, h2, h3, h4, h5, h6, h7, h8, h9⟩ := h
  rcases run_next_at (P := P) w ty r M clk c0 seen ma clk h5 h1 h2.1 h6 with ⟨hz, hrun⟩ | ⟨e, he, w1, hw1, hrun⟩
  · refine .inl ⟨fun s v hs => ?_, hrun⟩
    obtain ⟨x, hx, hk⟩ := h4 s v hs
    refine (h8 s).2 ⟨x, hx, hk, ?_⟩
    have hem : leftOf ma seen = #[] := Array.eq_empty_of_size_eq_zero hz
    unfold leftOf at hem
    rw [Array.filter_eq_empty_iff] at hem
    have := hem x (Array.mem_toList_iff.1 hx)
    simpa using this
  · have hem : e ∈ ma.toList ∧ seen.contains e.born = false := by
      unfold leftOf at he
      simpa using he
    obtain ⟨s, hs, hv⟩ := h3 e hem.1
    have hh : w1.heap = w.heap := by rcases hw1 with rfl | rfl <;> rfl
    have hset := MapKept.heap_set (o' := .mapIter (some M) clk (seen.push e.born) clk) (show w1.heap[r]? = some (.mapIter (some M) clk seen c0) by rw [hh]; exact h5)
    have hM' : (Go.ChangeMaps.setBlock w1 r (.mapIter (some M) clk (seen.push e.born) clk)).heap[M]? = some (.map ma clk) := (hset.2 M (Ne.symm hrM)).trans (by rw [hh]; exact h1)
    rw [hs] at hrun
    have hnd : s ∉ done := fun hd => by
      obtain ⟨x, hx, hk, hc⟩ := (h8 s).1 hd
      have : x = e := nodup_of_map _ h2.2.2 hx hem.1 (by rw [hk, hs])
      subst this
      rw [hem.2] at hc
      cases hc
    refine .inr ⟨s, e.val, _, hv, hnd, hrun, ⟨ma, clk, seen.push e.born, clk, hM', h2, h3, h4, hset.1, Nat.le_refl _, ?_, fun t => ?_, h9⟩, ?_, ?_, ?_, ?_, ?_, fun k hk => (hset.2 k hk).trans (by rw [hh])⟩
    · exact List.nodup_append.2 ⟨h7, by simp, fun a ha b hb e => by simp at hb; subst hb; subst e; exact hnd ha⟩
    · rw [List.mem_append, h8 t]
      constructor
      · rintro (⟨x, hx, hk, hc⟩ | ht)
        · exact ⟨x, hx, hk, by simp at hc ⊢; exact .inl hc⟩
        · simp at ht
          subst ht
          exact ⟨e, hem.1, hs, by simp⟩
      · rintro ⟨x, hx, hk, hc⟩
        simp at hc
        rcases hc with hc | hc
        · exact .inl ⟨x, hx, hk, by simpa using hc⟩
        · have : x = e := nodup_of_map _ h2.2.1 hx hem.1 hc
          subst this
          rw [hs] at hk
          injection hk with hk
          exact .inr (by simp [hk])
    · have := run_entry_at (P := P) _ r M clk seen ma clk e hset.1 hM' hem.1 h2.2.1
      rw [hs] at this
      exact this
    · rcases hw1 with rfl | rfl <;> rfl
    · rcases hw1 with rfl | rfl <;> rfl
    · rcases hw1 with rfl | rfl <;> rfl
    · show (w1.heap.setIfInBounds _ _).size = _
      rw [Array.size_setIfInBounds, hh]
/-- What is looked up, and whether it is there. -/
theorem MapF.look2 {w : World} {M : Nat} {G : ByteArray → Option Value} {mt kt et : TypeId} (ht : P.underlying mt = some (.map kt et)) (hk : P.underlying kt = some .string) {z : Value} (hz : (zeroValue et).run P w = .ok z w) (h : MapF w M G) (s : ByteArray) :
    (Instr.lookup mt (.map (some M)) (.string s) true).run P w = .ok (.tuple #[(G s).getD z, .bool (G s).isSome]) w := by
  obtain ⟨ma, clk, hb, _, h1, h2⟩ := h
  have hc : ∀ b, (Instr.checkKey b 10000 kt (.string s)).run P w = .ok () w := fun b => MapKept.run_checkKey (k := .string s) hk (by simp [MapKept.IsKey]) b 9999
  rcases MapF.find (w := w) (M := M) h1 h2 s with ⟨hf, hG, _⟩ | ⟨j, e, hf, hj, _, hG⟩
  · simp [Instr.lookup, run_underlying ht, MapKept.run_getObj_map hb, hc, MapKept.run_findKey hk hf, Result.andThen, hz, hG]
  · simp [Instr.lookup, run_underlying ht, MapKept.run_getObj_map hb, hc, MapKept.run_findKey hk hf, Result.andThen, hG]
end
/-- What may have changed. -/
structure Chg (S : Nat → Prop) (w w' : World) : Prop where
  os : w'.os = w.os
  tape : w'.tape = w.tape
  output : w'.output = w.output
  size : w.heap.size ≤ w'.heap.size
  block : ∀ k, k < w.heap.size → ¬ S k → w'.heap[k]? = w.heap[k]?
theorem Chg.refl (S : Nat → Prop) (w : World) : Chg S w w := ⟨rfl, rfl, rfl, Nat.le_refl _, fun _ _ _ => rfl⟩
theorem Chg.trans {S T U : Nat → Prop} {w w1 w2 : World} (h1 : Chg S w w1) (h2 : Chg T w1 w2) (hS : ∀ k, k < w.heap.size → S k → U k) (hT : ∀ k, k < w.heap.size → T k → U k) : Chg U w w2 :=
  ⟨h2.os.trans h1.os, h2.tape.trans h1.tape, h2.output.trans h1.output, Nat.le_trans h1.size h2.size, fun k hk hn => (h2.block k (Nat.lt_of_lt_of_le hk h1.size) (fun h => hn (hT k hk h))).trans (h1.block k hk (fun h => hn (hS k hk h)))⟩
theorem Chg.of_below {w w' : World} (S : Nat → Prop) (h : Below w.heap.size w w') : Chg S w w' := ⟨h.os, h.tape, h.output, h.size, fun k hk _ => h.block k hk⟩
theorem Chg.of_grown {w w' : World} {row : Option Nat} (h : w.grownBy w' row) : Chg (fun k => some k = row) w w' := ⟨h.os, h.tape, h.output, h.size, fun k hk hn => h.block k hk hn⟩
theorem Chg.onto {S : Nat → Prop} {w w' w'' : World} {B : Nat} (hb : Below B w w') (hB : B ≤ w.heap.size) (hc : Chg S w' w'') (hS : ∀ k, S k → B ≤ k) : Below B w w'' := by
  obtain ⟨h1, h2, h3, h4, h5⟩ := hb
  exact ⟨hc.os.trans h1, hc.tape.trans h2, hc.output.trans h3, Nat.le_trans h4 hc.size, fun k hk => (hc.block k (Nat.lt_of_lt_of_le hk (Nat.le_trans hB h4)) (fun hs => by have := hS k hs; omega)).trans (h5 k hk)⟩
theorem Chg.set {S : Nat → Prop} {w w' : World} (h : Chg S w w') (p : Addr) (v : Value) (hp : S p.block) : Chg S w (w'.setCell p v) :=
  ⟨h.os, h.tape, h.output, by simpa using h.size, fun k hk hn => (Below.heap_setCell w' p v k (fun e => hn (e ▸ hp))).trans (h.block k hk hn)⟩
theorem Chg.alloc {S : Nat → Prop} {w w' : World} (h : Chg S w w') (o : Obj) : Chg S w (w'.alloc o) :=
  h.trans (Chg.of_below S (below_alloc (Below.refl _ _) o)) (fun _ _ e => e) (fun _ _ e => e)
theorem Chg.drewN {S : Nat → Prop} {w w' : World} (h : Chg S w w') (n : Nat) : Chg S w (w'.drewN n) := ⟨h.os, h.tape, h.output, h.size, h.block⟩
theorem Chg.mono {S T : Nat → Prop} {w w' : World} (h : Chg S w w') (hS : ∀ k, k < w.heap.size → S k → T k) : Chg T w w' := ⟨h.os, h.tape, h.output, h.size, fun k hk hn => h.block k hk (fun e => hn (hS k hk e))⟩
theorem heap_lt {w : World} {k : Nat} {o : Obj} (h : w.heap[k]? = some o) : k < w.heap.size := (Array.getElem?_eq_some_iff.1 h).1
end Go.Proofs.Yticoaaddhhiglaa.T
/- The table of tenants by hand: copies of rows; what the table is in memory. -/
namespace Go.Proofs.Yticoaaddhhiglaa.T
open Go.RowKit Go.Proofs.Yticoaaddhhiglaa.Q Go.Proofs.YticoaaddhhiglaaW.PrintWords Go.Proofs.YticoaaddhhiglaaW.PrintLast Go.Proofs.YticoaaddhhiglaaW.PrintMore
set_option linter.unusedVariables false
set_option linter.unusedSimpArgs false
/-- A copy into a row of cells. -/
theorem run_copy_wide {P : Program} (w : World) (dT sT ty elem : TypeId) (g n dCap : Nat) (a : Addr) (sCap sz : Nat) (cur : Array Value) (t : TypeId) (cs : List Value)
    (hu : P.underlying dT = some (.slice elem)) (hs : (P.info? elem).map (·.size) = some sz)
    (hg : w.heap[g]? = some (.cells cur t (0, 0))) (hn : cs.length = n * sz)
    (hsrc : ∀ j v, cs[j]? = some v → w.cell? (a.add j) = some v) (hfit : cs.length ≤ cur.size) (h1 : ∀ v ∈ cs, v.oneCell' = true) :
    (Builtin.copy_ #[dT, sT] ty #[.slice (some ⟨g, 0, none⟩) n dCap, .slice (some a) n sCap]).run P w = .ok (goInt n) (w.setCells g 0 cs) := by
  have hl := run_loadCells_list (P := P) w a cs hsrc
  have hst := run_storeCells_cells (P := P) g 0 cs 0 w (fun j hj => by rw [cell_of_row w g _ cur t (0, 0) hg]; simp; omega) (fun j _ => blk_frozen hg _) h1
  simp only [Nat.add_zero] at hst
  cases hq : P.info? elem with
  | none => simp [hq] at hs
  | some i =>
    have hi : i.size = sz := by simpa [hq] using hs
    have hmin : Nat.min n n = n := Nat.min_self n
    simp [Builtin.copy_, run_underlying hu, Builtin.lenOf, Builtin.firstCells, sizeOf, typeInfo, hq, hi, hmin, Nat.mul_comm sz n, ← hn, hl, hst]
/-- copy(v, ys), v a row of one's own that is as long: it is ys then. -/
theorem copy_event0 {P : Program} (w : World) (dT sT ty elem : TypeId) (d s : Option Addr) (dCap sCap sz : Nat) (hu : P.underlying dT = some (.slice elem)) (hs : (P.info? elem).map (·.size) = some sz) :
    (Builtin.copy_ #[dT, sT] ty #[.slice d 0 dCap, .slice s 0 sCap]).run P w = .ok (goInt 0) w := by
  cases hq : P.info? elem with
  | none => simp [hq] at hs
  | some i =>
    cases d <;> cases s <;> simp [Builtin.copy_, run_underlying hu, Builtin.lenOf, Builtin.firstCells, sizeOf, typeInfo, hq, storeCells, loadCells, loadCellsFrom]
theorem reps_one {α : Type} {R : α → List Value → Prop} {size : Nat} {ps : List α} {cs : List Value} (h : Reps R size ps cs) (hs : 0 < size) (h1 : ∀ p c, R p c → ∀ u ∈ c, u.oneCell' = true) : ∀ u ∈ cs, u.oneCell' = true := fun u hu => by
  obtain ⟨i, hi⟩ := List.getElem?_of_mem hu
  have hil := (List.getElem?_eq_some_iff.1 hi).1
  have hj : i / size < ps.length := (Nat.div_lt_iff_lt_mul hs).2 (by rw [← h.1]; exact hil)
  have h2 := h1 _ _ (h.2 (i / size) _ (List.getElem?_eq_getElem hj))
  refine h2 u ?_
  have e : (i / size) * size + i % size = i := by rw [Nat.mul_comm]; exact Nat.div_add_mod i size
  refine List.mem_of_getElem? (i := i % size) ?_
  rw [List.getElem?_take_of_lt (Nat.mod_lt _ hs), List.getElem?_drop, e, hi]
theorem copy_event {P : Program} {ops : Array Oper} {rest : List Oper} {o : Oper} {a : Act} {Q : Exit → Act → World → Prop} {W : World} {α : Type} (d : Kd α) {w0 : World} (base : Nat) (hgd : o.guard = none) (s x : Operand) (t t' e : TypeId)
    (ho : o.op = .call { callee := .builtin .copy, args := #[s, x], argTypes := #[t, t'] }) (ht : P.underlying t = some (.slice e)) (hinfo : (P.info? e).map (·.size) = some d.sz) (hsz : 0 < d.sz)
    (hflat : ∀ (W1 : World) ok x cs, d.K W x cs → d.M W1 base ok x cs)
    (v : Value) (zs ys : List α) (A : Option Addr) (c : Nat) (ok : Nat → Prop) {n : Nat} (hn : n = ys.length) (hs : a.eval s = v) (hx : a.eval x = .slice A n c)
    (HO : d.R e W base ok v zs) (hz : zs.length = ys.length) (HR : d.C W A ys.length ys) (HB : Below base w0 W) (hbase : base ≤ W.heap.size)
    (h : ∀ w1, d.R e w1 base ok v ys → Below base w0 w1 → W.grownBy w1 v.ownBlock → wpList P ops Q rest (a.put o.dst (.int .i64 (n : Int))) w1) :
    wpList P ops Q (o :: rest) a W := by
  subst hn
  obtain ⟨hok, inner, hown, hreps⟩ := HO
  have fin : ∀ w1, (Builtin.copy_ #[t, t'] o.type #[v, .slice A ys.length c]).run P W = .ok (goInt ((ys.length : Nat) : Int)) w1 → d.R e w1 base ok v ys → W.grownBy w1 v.ownBlock → wpList P ops Q (o :: rest) a W := by
    intro w1 hr hrow hg
    refine wpList_plain hgd fun K hK => ?_
    unfold Oper.wp execOp
    simp only [ho, resolve, invoke, builtin, Sem.run_bind, Sem.run_pure, Result.andThen_ok, List.map_toArray, List.map_cons, List.map_nil, hs, hx, hr]
    exact hK _ _ (h w1 hrow (HB.grown hg hbase (own_base hown)) hg)
  rcases Nat.eq_zero_or_pos ys.length with h0 | hp
  · have hy : ys = [] := List.eq_nil_of_length_eq_zero h0
    have hzn : zs = [] := List.eq_nil_of_length_eq_zero (by omega)
    subst hy; subst hzn
    obtain ⟨A', c', hv⟩ := own_slice hown
    refine fin W ?_ ⟨hok, inner, hown, hreps⟩ (World.grownBy.refl W _)
    rw [hv]
    exact copy_event0 W t t' o.type e A' A c' c d.sz ht hinfo
  · obtain ⟨ad, hA, hc⟩ := HR.2.2 hp
    subst hA
    obtain ⟨cs, hrp, hcell⟩ := ReadsRow.inner_ HR
    rcases hown.2 with ⟨_, hx0⟩ | ⟨g, cap, cur, hv, hb, hh, hnc, hcm, hcs, htake⟩
    · omega
    have hcl : cs.length = ys.length * d.sz := hrp.1
    have hfit : cs.length ≤ cur.size := by rw [hcl, hcs]; exact Nat.mul_le_mul_right _ (by omega)
    have hone : ∀ u ∈ cs, u.oneCell' = true := reps_one hrp hsz (fun p c hp => d.K_one hp)
    have hr := run_copy_wide (P := P) W t t' o.type e g ys.length cap ad c d.sz cur e cs ht hinfo hh hcl hcell hfit hone
    obtain ⟨cur', h3, h4, h5⟩ := setCells_row cs 0 W cur hh (by omega)
    obtain ⟨s1, s2, s3, s4⟩ := setCells_same g cs 0 W
    refine fin _ (by rw [hv, hz]; exact hr) ⟨hok, cs, ⟨hcl, .inr ⟨g, cap, cur', by rw [hv, hz], hb, h3, by omega, hcm, by rw [h4, hcs], ?_⟩⟩, hrp.imp_ (fun p c hp => hflat _ _ _ _ hp)⟩ ⟨s1, s2, s3, by rw [s4]; exact Nat.le_refl _, fun k _ hk => setCells_far _ _ k (fun he => hk (by rw [hv, he]; simp [Value.ownBlock]))⟩
    rw [h5, List.take_zero, List.nil_append, ← hcl]
    exact List.take_left
end Go.Proofs.Yticoaaddhhiglaa.T
/- The table of tenants by hand: structs in memory of their own; copied. -/
namespace Go.Proofs.Yticoaaddhhiglaa.T
open Go.RowKit Go.Proofs.Yticoaaddhhiglaa.Q Go.Proofs.YticoaaddhhiglaaW.PrintWords Go.Proofs.YticoaaddhhiglaaW.PrintLast Go.Proofs.YticoaaddhhiglaaW.PrintMore
set_option linter.unusedVariables false
set_option linter.unusedSimpArgs false
theorem size39 : (Try.prog.info? 39).map (·.size) = some 9 := by kernel_rfl
theorem size27 : (Try.prog.info? 27).map (·.size) = some 11 := by kernel_rfl
theorem size23 : (Try.prog.info? 23).map (·.size) = some 2 := by kernel_rfl
theorem size25 : (Try.prog.info? 25).map (·.size) = some 4 := by kernel_rfl
theorem size9 : (Try.prog.info? 9).map (·.size) = some 1 := by kernel_rfl
theorem range_blk {w : World} {B : Nat} {t : TypeId} {cs : List Value} (h : w.heap[B]? = some (.cells cs.toArray t (0, 0))) : w.rangeAt B 0 cs := fun j v hv => by
  rw [Nat.zero_add, blk_cell h j]
  simpa using hv
section
variable {ops : Array Oper} {rest : List Oper} {op : Oper} {a : Act} {w : World} {Q : Exit → Act → World → Prop}
theorem load_blk (hgd : op.guard = none) (t : TypeId) (x : Operand) (ho : op.op = .load t x) (B : Nat) (hx : a.eval x = .pointer (some ⟨B, 0, none⟩)) (cs : List Value) (h : w.heap[B]? = some (.cells cs.toArray t (0, 0))) (d : TypeDesc) (hu : Try.prog.underlying t = some d) (hd : d.isRow = true) (hi : (Try.prog.info? t).map (·.size) = some cs.length)
    (hk : wpList Try.prog ops Q rest (a.put op.dst (.agg cs.toArray)) w) : wpList Try.prog ops Q (op :: rest) a w :=
  wpList_load_mid hgd t x ho B 0 hx cs d (range_blk h) hu hd hi hk
theorem store_blk (hgd : op.guard = none) (t : TypeId) (x y : Operand) (ho : op.op = .store t x y) (B : Nat) (cs cs' : List Value) (hx : a.eval x = .pointer (some ⟨B, 0, none⟩)) (hy : a.eval y = .agg cs'.toArray) (h : w.heap[B]? = some (.cells cs.toArray t (0, 0))) (hl : cs'.length = cs.length) (hi : (Try.prog.info? t).map (·.size) = some cs'.length) (h1 : ∀ v ∈ cs', v.oneCell' = true)
    (hk : ∀ w1, w1.heap[B]? = some (.cells cs'.toArray t (0, 0)) → (∀ k, k ≠ B → w1.heap[k]? = w.heap[k]?) → (∀ W : World, W.heap.size ≤ B → Below W.heap.size W w → Below W.heap.size W w1) → wpList Try.prog ops Q rest (a.put op.dst undef) w1) : wpList Try.prog ops Q (op :: rest) a w := by
  have hsz : (cs'.toArray).size = cs'.length := by simp
  refine wpList_store_mid hgd t x y ho B 0 cs'.toArray hx hy (fun j hj => ?_) (by rw [hsz]; exact hi) (all_oneCell_toArray h1) ?_
  · rw [Nat.zero_add]
    refine ⟨?_, blk_frozen h j⟩
    rw [blk_cell h j]
    simp
    rw [hsz] at hj
    omega
  · obtain ⟨cur', h3, h4, h5⟩ := setCells_row cs' 0 w cs.toArray h (by simp; omega)
    obtain ⟨s1, s2, s3, s4⟩ := setCells_same B cs' 0 w
    have e : cur' = cs'.toArray := by
      have : cur'.toList = cs' := by rw [h5]; simp; omega
      rw [← this]
    rw [e] at h3
    refine hk _ h3 (fun k hne => setCells_far _ _ k hne) (fun W hW hb => ?_)
    exact ⟨s1.trans hb.os, s2.trans hb.tape, s3.trans hb.output, by rw [s4]; exact hb.size, fun k hk => (setCells_far _ _ k (by omega)).trans (hb.block k hk)⟩
end
/-- A tenant's cells, with its rows. -/
def ten (x : S39) (v1 v8 : Value) : List Value := [.string x.f0, v1, .int .i64 x.f2.f0, .int .i64 x.f2.f1, .int .i64 x.f2.f2, .int .i64 x.f2.f3, .int .i64 x.f3, .int .i64 x.f4, v8]
theorem ten_one (x : S39) {v1 v8 : Value} (h1 : v1.oneCell' = true) (h8 : v8.oneCell' = true) : ∀ v ∈ ten x v1 v8, v.oneCell' = true := fun v hv => by
  simp only [ten, List.mem_cons, List.not_mem_nil, or_false] at hv
  rcases hv with rfl | rfl | rfl | rfl | rfl | rfl | rfl | rfl | rfl <;> first | rfl | assumption
theorem cells9 {w : World} {B : Nat} {x : S39} {v1 v8 : Value} (h : w.heap[B]? = some (.cells (ten x v1 v8).toArray 39 (0, 0))) : w.cell? ⟨B, 1, none⟩ = some v1 ∧ w.cell? ⟨B, 8, none⟩ = some v8 ∧ w.frozen? ⟨B, 1, none⟩ = false ∧ w.frozen? ⟨B, 8, none⟩ = false :=
  ⟨(blk_cell h 1).trans rfl, (blk_cell h 8).trans rfl, blk_frozen h 1, blk_frozen h 8⟩
theorem flat23 {W : World} {base : Nat} (W1 : World) (ok : Nat → Prop) (x : S23) (cs : List Value) (h : k23.K W x cs) : k23.M W1 base ok x cs := by
  obtain rfl := k23_open h
  exact k23_mkM W1 base ok x
theorem flatS {W : World} {base : Nat} (W1 : World) (ok : Nat → Prop) (x : ByteArray) (cs : List Value) (h : Kd.string.K W x cs) : Kd.string.M W1 base ok x cs := h
theorem results_c1 {fn : Func} {p : Tmp} {ty : TypeId} (h : fn.results = #[.cell p ty]) (tmps : Array Value) (w : World) (b : Nat) (v : Value) (hp : tmps.getD p undef = .pointer (some ⟨b, 0, none⟩)) (hl : (loadVar ty ⟨b, 0, none⟩).run Try.prog w = .ok v w) : (results fn tmps).run Try.prog w = .ok v w := by
  have hp' : tmps[p]?.getD undef = .pointer (some ⟨b, 0, none⟩) := by rw [← hp]; simp [Array.getD_eq_getD_getElem?]
  simp [results, h, hp', asAddr, hl]
theorem one_of_R {α : Type} {d : Kd α} {e base : Nat} {ok : Nat → Prop} {w : World} {v : Value} {xs : List α} (h : d.R e w base ok v xs) : v.oneCell' = true := by
  obtain ⟨A, c, rfl⟩ := Kd.R_slice h
  rfl
/-- What copied hands out. -/
def Copy (w : World) (x : S39) (e : Ending) (w' : World) : Prop := ∃ v1 v8, e = .returned (.agg (ten x v1 v8).toArray) ∧ k23.R 23 w' w.heap.size (fun _ => True) v1 x.f1 ∧ Kd.string.R 9 w' w.heap.size (fun _ => True) v8 x.f5 ∧ Below w.heap.size w w'
set_option maxHeartbeats 4000000 in
set_option maxRecDepth 100000 in
theorem copied_calls {w : World} (x : S39) {A1 : Option Addr} {c1 : Nat} {A8 : Option Addr} {c8 : Nat} (l1 : x.f1.length ≤ c1) (g1 : k23.C w A1 x.f1.length x.f1) (l8 : x.f5.length ≤ c8) (g8 : Kd.string.C w A8 x.f5.length x.f5) (hf : x.f1.length ≤ 1000 ∧ x.f5.length ≤ 1000) : Calls Try.prog 39 #[.agg (ten x (.slice A1 x.f1.length c1) (.slice A8 x.f5.length c8)).toArray] w (Copy w x) := by
  have G1 := Aside0.mk g1
  have G8 := Aside0.mk g8
  have HF := Aside0.mk hf
  clear l1 l8 g1 g8 hf
  unfold ten
  obtain ⟨m, hm⟩ : ∃ m : Nat, m = x.f1.length := ⟨_, rfl⟩
  obtain ⟨q, hq⟩ : ∃ q : Nat, q = x.f5.length := ⟨_, rfl⟩
  rw [← hm, ← hq]
  have HMQ := Aside0.mk (And.intro hm hq)
  clear hm hq
  go_enter Try.func39, Try.ntmps39
  go_wp2_with (first
    | ((with_reducible refine gate_dst (N := 1) rfl ?_); refine box_event ?hg (N := 1) ?hd (cs := (ten x (.slice A1 m c1) (.slice A8 q c8)).toArray) (t := 39) ?hr ?_; (case hd => rfl); (case hg => rfl); (case hr => first | (go_simp; done) | (go_simp; rfl)); intro B hB w1 h1 hb1; obtain ⟨z1, z2, z3, z4⟩ := cells9 h1; have H1 := Aside0.mk h1; have HB1 := Aside0.mk hb1; have HBE := Aside0.mk hB; clear h1 hb1 hB)
    | ((with_reducible refine gate_dst (N := 2) rfl ?_); refine box_event ?hg (N := 2) ?hd (cs := (ten z39 (.slice none 0 0) (.slice none 0 0)).toArray) (t := 39) ?hr ?_; (case hd => rfl); (case hg => rfl); (case hr => first | (go_simp; done) | (go_simp; rfl)); intro E hE w2 h2 hb2; have H2 := Aside0.mk h2; have HB2 := Aside0.mk (below_step HB1.out hb2); have H12 := Aside0.mk ((hb2.block B (heap_lt H1.out)).trans H1.out); have hEB := Aside0.mk (show E ≠ B from by rw [hE]; have := heap_lt H1.out; omega); have HEG := Aside0.mk (show w.heap.size ≤ E from by rw [hE]; exact HB1.out.size); clear h2 hb2 hE z1 z2 z3 z4; obtain ⟨z1, z2, z3, z4⟩ := cells9 H12.out)
    | ((with_reducible refine gate_dst (N := 8) rfl ?_); refine Kd.R_make k23 (w0 := w) w.heap.size 23 rfl rfl 36 (.tmp 7) (.tmp 7) rfl (m : Int) rfl rfl Try.underlying36 (.agg #[.int .i64 0, .string ⟨#[]⟩]) 24 info23 rfl (by decide) (by decide) z23 (ok := fun _ => True) (okp := fun _ => False) (k23_mkM _ _ _ _) (fun _ h => h.elim) trivial (by omega) (by have := HF.out; have := HMQ.out; simp only [Int.toNat_natCast]; omega) HB2.out HB2.out.size ?_; intro v3 w3 hr3 hb3 hg3 ho3; simp only [Int.toNat_natCast] at hr3; obtain ⟨A3, c3, hv3⟩ := Kd.R_slice hr3; rw [List.length_replicate] at hv3; subst hv3; have HR3 := Aside0.mk hr3; have HB3 := Aside0.mk hb3; have H3B := Aside0.mk ((hg3.block B (heap_lt H12.out) (fun e => by cases e)).trans H12.out); have H3E := Aside0.mk ((hg3.block E (heap_lt H2.out) (fun e => by cases e)).trans H2.out); have HO3 := Aside0.mk ho3; clear hr3 hb3 hg3 ho3 z1 z2 z3 z4; obtain ⟨z1, z2, z3, z4⟩ := cells9 H3B.out)
    | ((with_reducible refine gate_builtin (b := .copy) (xs := #[.tmp 9, .tmp 11]) rfl ?_); refine copy_event k23 (w0 := w) w.heap.size rfl (.tmp 9) (.tmp 11) 36 36 23 rfl Try.underlying36 size23 (by decide) flat23 (.slice A3 m c3) _ x.f1 A1 c1 (fun _ => True) HMQ.out.1 rfl rfl HR3.out (by rw [List.length_replicate]; exact HMQ.out.1) (Kd.C_below G1.out HB3.out) HB3.out HB3.out.size ?_; intro w4 hr4 hb4 hg4; have HR4 := Aside0.mk hr4; have HB4 := Aside0.mk hb4; have hne : ∀ k, w3.heap[k]? = some (.cells (ten x (.slice A1 m c1) (.slice A8 q c8)).toArray 39 (0, 0)) ∨ w3.heap[k]? = some (.cells (ten z39 (.slice none 0 0) (.slice none 0 0)).toArray 39 (0, 0)) → some k ≠ (Value.slice A3 m c3).ownBlock := (fun k hk e => by obtain ⟨cs, hcs⟩ := own_typed (HR3.out.2.choose_spec.1) k e.symm; rcases hk with hk | hk <;> (rw [hcs] at hk; injection hk with hk; injection hk with _ hk; exact absurd hk (by decide))); have H4B := Aside0.mk ((hg4.block B (heap_lt H3B.out) (hne B (.inl H3B.out))).trans H3B.out); have H4E := Aside0.mk ((hg4.block E (heap_lt H3E.out) (hne E (.inr H3E.out))).trans H3E.out); clear hr4 hb4 hg4 hne z1 z2 z3 z4; obtain ⟨z1, z2, z3, z4⟩ := cells9 H4B.out)
    | ((with_reducible refine gate_dst (N := 16) rfl ?_); refine Kd.R_make Kd.string (w0 := w) w.heap.size 9 rfl rfl 37 (.tmp 15) (.tmp 15) rfl (q : Int) rfl rfl Try.underlying37 (.string ⟨#[]⟩) 16 info9 rfl (by decide) (by decide) (⟨#[]⟩ : ByteArray) (ok := fun _ => True) (okp := fun _ => False) rfl (fun _ h => h.elim) trivial (by omega) (by have := HF.out; have := HMQ.out; simp only [Int.toNat_natCast]; omega) HB4.out HB4.out.size ?_; intro v5 w5 hr5 hb5 hg5 ho5; simp only [Int.toNat_natCast] at hr5; obtain ⟨A5, c5, hv5⟩ := Kd.R_slice hr5; rw [List.length_replicate] at hv5; subst hv5; have HR5 := Aside0.mk hr5; have HB5 := Aside0.mk hb5; have H5B := Aside0.mk ((hg5.block B (heap_lt H4B.out) (fun e => by cases e)).trans H4B.out); have H5E := Aside0.mk ((hg5.block E (heap_lt H4E.out) (fun e => by cases e)).trans H4E.out); have HK5 := Aside0.mk (Kd.R_grown HR4.out hg5 (fun k _ e => by cases e)); clear hr5 hb5 hg5 ho5 z1 z2 z3 z4; obtain ⟨z1, z2, z3, z4⟩ := cells9 H5B.out)
    | ((with_reducible refine gate_builtin (b := .copy) (xs := #[.tmp 17, .tmp 19]) rfl ?_); refine copy_event Kd.string (w0 := w) w.heap.size rfl (.tmp 17) (.tmp 19) 37 37 9 rfl Try.underlying37 size9 (by decide) flatS (.slice A5 q c5) _ x.f5 A8 c8 (fun _ => True) HMQ.out.2 rfl rfl HR5.out (by rw [List.length_replicate]; exact HMQ.out.2) (Kd.C_below G8.out HB5.out) HB5.out HB5.out.size ?_; intro w6 hr6 hb6 hg6; have HR6 := Aside0.mk hr6; have HB6 := Aside0.mk hb6; have hne : ∀ k, w5.heap[k]? = some (.cells (ten x (.slice A1 m c1) (.slice A8 q c8)).toArray 39 (0, 0)) ∨ w5.heap[k]? = some (.cells (ten z39 (.slice none 0 0) (.slice none 0 0)).toArray 39 (0, 0)) → some k ≠ (Value.slice A5 q c5).ownBlock := (fun k hk e => by obtain ⟨cs, hcs⟩ := own_typed (HR5.out.2.choose_spec.1) k e.symm; rcases hk with hk | hk <;> (rw [hcs] at hk; injection hk with hk; injection hk with _ hk; exact absurd hk (by decide))); have H6B := Aside0.mk ((hg6.block B (heap_lt H5B.out) (hne B (.inl H5B.out))).trans H5B.out); have H6E := Aside0.mk ((hg6.block E (heap_lt H5E.out) (hne E (.inr H5E.out))).trans H5E.out); have HK6 := Aside0.mk (Kd.R_drop (Kd.R_grown (Kd.R_apartR HK5.out HR5.out (by decide)) hg6 (fun k hk => hk.2))); clear hr6 hb6 hg6 hne z1 z2 z3 z4; obtain ⟨z1, z2, z3, z4⟩ := cells9 H6B.out)
    | ((with_reducible refine gate_ (.load 39 (.tmp 1)) rfl ?_); refine load_blk rfl 39 (.tmp 1) rfl B rfl (ten x (.slice A3 m c3) (.slice A5 q c5)) (blk_put (blk_put H6B.out 1 (.slice A3 m c3) rfl) 8 (.slice A5 q c5) rfl) _ Try.underlying39 rfl size39 ?_)
    | ((with_reducible refine gate_ (.store 39 (.tmp 2) (.tmp 25)) rfl ?_); refine store_blk rfl 39 (.tmp 2) (.tmp 25) rfl E (ten z39 (.slice none 0 0) (.slice none 0 0)) (ten x (.slice A3 m c3) (.slice A5 q c5)) rfl rfl ((Below.heap_setCell _ _ _ E (fun e => hEB.out e)).trans ((Below.heap_setCell _ _ _ E (fun e => hEB.out e)).trans H6E.out)) rfl size39 (ten_one x (one_of_R HK6.out) (one_of_R HR6.out)) ?_; intro w7 h7 hk7 hb7; have H7 := Aside0.mk h7; have HB7 := Aside0.mk hb7; have HK7 := Aside0.mk hk7; clear h7 hb7 hk7))
  ((try simp only [Exit.inBlock, Exit.then]); refine bodyPost_ret (results_c1 rfl _ _ E _ rfl (run_loadVar_mid _ _ _ 39 _ _ (range_blk H7.out) Try.underlying39 rfl size39)) rfl ?_)
  have hEQ : ∀ {cs : Array Value} {w6' : World}, w6'.heap[E]? = some (.cells cs 39 (0, 0)) → True := fun _ => trivial
  have e6 := (Below.heap_setCell (w6.setCell ⟨B, 1, none⟩ (.slice A3 m c3)) ⟨B, 8, none⟩ (.slice A5 q c5) E (fun e => hEB.out e)).trans ((Below.heap_setCell w6 ⟨B, 1, none⟩ (.slice A3 m c3) E (fun e => hEB.out e)).trans H6E.out)
  have r1 := Kd.R_set (Kd.R_set HK6.out H6B.out (by decide) 1 (.slice A3 m c3)) (blk_put H6B.out 1 (.slice A3 m c3) rfl) (by decide) 8 (.slice A5 q c5)
  have r2 := Kd.R_set (Kd.R_set HR6.out H6B.out (by decide) 1 (.slice A3 m c3)) (blk_put H6B.out 1 (.slice A3 m c3) rfl) (by decide) 8 (.slice A5 q c5)
  refine ⟨.slice A3 m c3, .slice A5 q c5, rfl, Kd.R_mono (Kd.R_move (Kd.R_types r1 e6 (by decide)) (fun k hk => HK7.out k hk.2)) (fun _ _ => trivial), Kd.R_mono (Kd.R_move (Kd.R_types r2 e6 (by decide)) (fun k hk => HK7.out k hk.2)) (fun _ _ => trivial), ?_⟩
  exact HB7.out w HEG.out (below_set (below_set HB6.out (by rw [HBE.out]; exact Nat.le_refl _)) (by rw [HBE.out]; exact Nat.le_refl _))
end Go.Proofs.Yticoaaddhhiglaa.T
/- The table of tenants by hand: what it is in memory; New, is, Get. -/
namespace Go.Proofs.Yticoaaddhhiglaa.T
open Go.RowKit Go.Proofs.Yticoaaddhhiglaa.Q Go.Proofs.YticoaaddhhiglaaW.PrintWords Go.Proofs.YticoaaddhhiglaaW.PrintLast Go.Proofs.YticoaaddhhiglaaW.PrintMore
set_option linter.unusedVariables false
set_option linter.unusedSimpArgs false
/-- Cells stand as they were, wherever cells stood. -/
def Sane (w w' : World) : Prop := ∀ (k : Nat) (cs : Array Value) (t : TypeId) (fz : Nat × Nat), w.heap[k]? = some (Obj.cells cs t fz) → w'.heap[k]? = w.heap[k]?
theorem sane_cell {w w' : World} (h : Sane w w') {p : Addr} {u : Value} (hc : w.cell? p = some u) : w'.cell? p = some u := by
  obtain ⟨b, o, fz⟩ := p
  have : ∃ cs t f, w.heap[b]? = some (.cells cs t f) := by
    unfold World.cell? at hc
    split at hc
    · exact ⟨_, _, _, by assumption⟩
    · cases hc
  obtain ⟨cs, t, f, hb⟩ := this
  rw [← hc]
  exact World.cell?_of_block (h b cs t f hb)
theorem sane_below {w w' : World} (h : Below w.heap.size w w') : Sane w w' := fun k cs t fz hk => h.block k (heap_lt hk)
theorem sane_C23 {w w' : World} (h : Sane w w') {A : Option Addr} {n : Nat} {xs : List S23} (hC : k23.C w A n xs) : k23.C w' A n xs := by
  obtain ⟨h1, h2, h3⟩ := hC
  refine ⟨h1, h2, fun hn => ?_⟩
  obtain ⟨ad, hA, hc⟩ := h3 hn
  refine ⟨ad, hA, fun j p hj => ?_⟩
  obtain ⟨c, hl, hk, hcell⟩ := hc j p hj
  refine ⟨c, hl, ?_, fun i u hu => sane_cell h (hcell i u hu)⟩
  obtain rfl := k23_open hk
  exact k23_mk w' p
theorem sane_CS {w w' : World} (h : Sane w w') {A : Option Addr} {n : Nat} {xs : List ByteArray} (hC : Kd.string.C w A n xs) : Kd.string.C w' A n xs := by
  obtain ⟨h1, h2, h3⟩ := hC
  refine ⟨h1, h2, fun hn => ?_⟩
  obtain ⟨ad, hA, hc⟩ := h3 hn
  refine ⟨ad, hA, fun j p hj => ?_⟩
  obtain ⟨c, hl, hk, hcell⟩ := hc j p hj
  exact ⟨c, hl, hk, fun i u hu => sane_cell h (hcell i u hu)⟩
theorem R_off {α : Type} {d : Kd α} {e base : Nat} {ok : Nat → Prop} {w w' : World} {v : Value} {xs : List α} (h : d.R e w base ok v xs) (hs : ∀ (k : Nat) (q : TypeId) (cells : Array Value), q ∈ e :: d.E → w.heap[k]? = some (Obj.cells cells q (0, 0)) → w'.heap[k]? = w.heap[k]?) : d.R e w' base ok v xs :=
  Kd.R_mono (Kd.R_move (Kd.R_bound h) (fun k hk => by obtain ⟨_, _, _, q, hq, cells, hc⟩ := hk; exact hs _ q cells hq hc)) (fun k hk => hk.1)
theorem R_sane {α : Type} {d : Kd α} {e base : Nat} {ok : Nat → Prop} {w w' : World} {v : Value} {xs : List α} (h : d.R e w base ok v xs) (hs : Sane w w') : d.R e w' base ok v xs := R_off h (fun _ _ _ _ hc => hs _ _ _ _ hc)
/-- A value that is a tenant. -/
def Ten (w : World) (v : Value) (x : S39) : Prop := ∃ A1 c1 A8 c8, v = .agg (ten x (.slice A1 x.f1.length c1) (.slice A8 x.f5.length c8)).toArray ∧ k23.C w A1 x.f1.length x.f1 ∧ x.f1.length ≤ c1 ∧ Kd.string.C w A8 x.f5.length x.f5 ∧ x.f5.length ≤ c8 ∧ k23.R 23 w 0 (fun _ => True) (.slice A1 x.f1.length c1) x.f1 ∧ Kd.string.R 9 w 0 (fun _ => True) (.slice A8 x.f5.length c8) x.f5
theorem Ten.off {w w' : World} {v : Value} {x : S39} (h : Ten w v x) (hs : ∀ (k : Nat) (q : TypeId) (cells : Array Value), q = 23 ∨ q = 9 → w.heap[k]? = some (Obj.cells cells q (0, 0)) → w'.heap[k]? = w.heap[k]?) : Ten w' v x := by
  obtain ⟨A1, c1, A8, c8, h1, h2, h3, h4, h5, h6, h7⟩ := h
  have r6 := R_off h6 (fun k q cells hq hc => hs k q cells ((by decide : ∀ q ∈ 23 :: k23.E, q = 23 ∨ q = 9) q hq) hc)
  have r7 := R_off h7 (fun k q cells hq hc => hs k q cells ((by decide : ∀ q ∈ 9 :: Kd.string.E, q = 23 ∨ q = 9) q hq) hc)
  exact ⟨A1, c1, A8, c8, h1, (Kd.R_reads' r6).2.2, h3, (Kd.R_reads' r7).2.2, h5, r6, r7⟩
theorem Ten.sane {w w' : World} {v : Value} {x : S39} (h : Ten w v x) (hs : Sane w w') : Ten w' v x := h.off (fun _ _ _ _ hc => hs _ _ _ _ hc)
/-- A tenant within its limits. -/
structure Fine (x : S39) : Prop where
  keys : x.f1.length ≤ 4
  readers : x.f5.length ≤ 8
  queue : 1 ≤ x.f3 ∧ x.f3 ≤ 64
  ring : 3 ≤ x.f4 ∧ x.f4 ≤ 16
  series : x.f2.f2 ≤ 4096
  rate : 0 ≤ x.f2.f0
/-- What the map holds is a list of tenants by rising names. -/
structure TabR (w : World) (G : ByteArray → Option Value) (st : St) : Prop where
  none_ : ∀ s, G s = none ↔ look st s = none
  some_ : ∀ s v, G s = some v → ∃ x, look st s = some x ∧ Ten w v x
  sorted : Sorted st
  fine : ∀ x ∈ st, Fine x
  few : st.length ≤ 16
theorem TabR.at_ {w : World} {G : ByteArray → Option Value} {st : St} (h : TabR w G st) (s : ByteArray) : (G s = none ∧ look st s = none) ∨ ∃ v x, G s = some v ∧ look st s = some x ∧ Ten w v x := by
  cases hG : G s with
  | none => exact .inl ⟨rfl, (h.none_ s).1 hG⟩
  | some v =>
    obtain ⟨x, h1, h2⟩ := h.some_ s v hG
    exact .inr ⟨v, x, rfl, h1, h2⟩
theorem TabR.sane {w w' : World} {G : ByteArray → Option Value} {st : St} (h : TabR w G st) (hs : Sane w w') : TabR w' G st :=
  ⟨h.none_, fun s v hG => by
    obtain ⟨x, h1, h2⟩ := h.some_ s v hG
    exact ⟨x, h1, h2.sane hs⟩, h.sorted, h.fine, h.few⟩
/-- The table of block D, its map block M. -/
structure TabG (w : World) (D M : Nat) (st : St) : Prop where
  blk : w.heap[D]? = some (.cells #[.bool true, .map (some M)] 60 (0, 0))
  ex : ∃ G, MapF w M G ∧ TabR w G st
theorem TabG.below {w w' : World} {D M : Nat} {st : St} (h : TabG w D M st) (hb : Below w.heap.size w w') : TabG w' D M st := by
  obtain ⟨G, h1, h2⟩ := h.ex
  exact ⟨(hb.block D (heap_lt h.blk)).trans h.blk, G, h1.move (hb.block M h1.lt), h2.sane (sane_below hb)⟩
/-- The table stands where neither its block, nor its map, nor rows of keys or of readers turned. -/
theorem TabG.off {w w' : World} {D M : Nat} {st : St} (h : TabG w D M st) (hM : ∀ (k : Nat) ma clk, w.heap[k]? = some (Obj.map ma clk) → w'.heap[k]? = w.heap[k]?) (hs : ∀ (k : Nat) (q : TypeId) (cells : Array Value), q = 23 ∨ q = 9 ∨ q = 60 → w.heap[k]? = some (Obj.cells cells q (0, 0)) → w'.heap[k]? = w.heap[k]?) : TabG w' D M st := by
  obtain ⟨G, h1, h2⟩ := h.ex
  refine ⟨(hs _ _ _ (.inr (.inr rfl)) h.blk).trans h.blk, G, h1.move (by obtain ⟨ma, clk, h, _⟩ := h1; exact hM _ _ _ h), h2.none_, fun s v hG => ?_, h2.sorted, h2.fine, h2.few⟩
  obtain ⟨x, e1, e2⟩ := h2.some_ s v hG
  exact ⟨x, e1, e2.off (fun k q cells hq hc => hs k q cells (hq.elim .inl (fun e => .inr (.inl e))) hc)⟩
theorem TabG.cells {w : World} {D M : Nat} {st : St} (h : TabG w D M st) : w.cell? ⟨D, 0, none⟩ = some (.bool true) ∧ w.cell? ⟨D, 1, none⟩ = some (.map (some M)) := ⟨(blk_cell h.blk 0).trans rfl, (blk_cell h.blk 1).trans rfl⟩
theorem zero39 (w : World) : (zeroValue 39).run Try.prog w = .ok (.agg (ten z39 (.slice none 0 0) (.slice none 0 0)).toArray) w := by kernel_rfl
/-- What is looked up. -/
theorem TabG.look2 {w : World} {D M : Nat} {st : St} (h : TabG w D M st) (s : ByteArray) :
    (look st s = none ∧ (Instr.lookup 58 (.map (some M)) (.string s) true).run Try.prog w = .ok (.tuple #[.agg (ten z39 (.slice none 0 0) (.slice none 0 0)).toArray, .bool false]) w ∧ (Instr.lookup 58 (.map (some M)) (.string s) false).run Try.prog w = .ok (.agg (ten z39 (.slice none 0 0) (.slice none 0 0)).toArray) w) ∨
    ∃ x A1 c1 A8 c8, look st s = some x ∧ (Instr.lookup 58 (.map (some M)) (.string s) true).run Try.prog w = .ok (.tuple #[.agg (ten x (.slice A1 x.f1.length c1) (.slice A8 x.f5.length c8)).toArray, .bool true]) w ∧ (Instr.lookup 58 (.map (some M)) (.string s) false).run Try.prog w = .ok (.agg (ten x (.slice A1 x.f1.length c1) (.slice A8 x.f5.length c8)).toArray) w ∧ k23.C w A1 x.f1.length x.f1 ∧ x.f1.length ≤ c1 ∧ Kd.string.C w A8 x.f5.length x.f5 ∧ x.f5.length ≤ c8 := by
  obtain ⟨G, h1, h2⟩ := h.ex
  have hl2 := MapF.look2 (P := Try.prog) Try.underlying58 Try.underlying9 (zero39 w) h1 s
  have hl1 := MapF.look (P := Try.prog) Try.underlying58 Try.underlying9 (zero39 w) h1 s
  rcases h2.at_ s with ⟨hG, hl⟩ | ⟨v, x, hG, hl, A1, c1, A8, c8, rfl, e1, e2, e3, e4, _⟩
  · rw [hG] at hl1 hl2
    exact .inl ⟨hl, hl2, hl1⟩
  · rw [hG] at hl1 hl2
    exact .inr ⟨x, A1, c1, A8, c8, hl, hl2, hl1, e1, e2, e3, e4⟩
theorem look_fine {w : World} {D M : Nat} {st : St} (h : TabG w D M st) {s : ByteArray} {x : S39} (hl : look st s = some x) : Fine x := by
  obtain ⟨G, h1, h2⟩ := h.ex
  exact h2.fine x (look_mem hl).1
theorem is_calls {w : World} {D M : Nat} {st : St} (h : TabG w D M st) : Calls Try.prog 38 #[.pointer (some ⟨D, 0, none⟩)] w fun e w' => e = .returned (.bool true) ∧ w' = w := by
  obtain ⟨c0, _⟩ := h.cells
  clear h
  go_enter Try.func38, Try.ntmps38
  go_wp2
  go_ret
  exact ⟨rfl, rfl⟩
theorem blk2 (w : World) (a b : Obj) : ((w.alloc a).alloc b).heap[w.heap.size + 1]? = some b ∧ ((w.alloc a).alloc b).heap[w.heap.size]? = some a := by
  have hz : (w.alloc a).heap.size = w.heap.size + 1 := by simp
  refine ⟨?_, (heap_alloc_old _ _ (by rw [hz]; omega)).trans (heap_alloc_new w a)⟩
  rw [← hz]
  exact heap_alloc_new _ _
theorem new_calls (w : World) : Calls Try.prog 13 #[] w fun e w' => ∃ D M, e = .returned (.pointer (some ⟨D, 0, none⟩)) ∧ TabG w' D M [] ∧ w.heap.size ≤ D ∧ w.heap.size ≤ M ∧ Below w.heap.size w w' := by
  have hmm := @run_makeMap Try.prog
  go_enter Try.func13, Try.ntmps13
  go_wp2
  go_ret
  refine ⟨w.heap.size + 1, w.heap.size, rfl, ⟨(blk2 w _ _).1, _, (MapF.made w).move (heap_alloc_old _ _ (MapF.made w).lt), ⟨fun s => by simp [look], fun s v h => by (cases h), List.Pairwise.nil, fun x h => (by cases h), by simp⟩⟩, by omega, Nat.le_refl _, below_alloc (below_alloc (Below.refl _ _) _) _⟩
theorem results_ct {fn : Func} {p q : Tmp} {ty : TypeId} (h : fn.results = #[.cell p ty, .tmp q]) (tmps : Array Value) (w : World) (b : Nat) (v : Value) (hp : tmps.getD p undef = .pointer (some ⟨b, 0, none⟩)) (hl : (loadVar ty ⟨b, 0, none⟩).run Try.prog w = .ok v w) : (results fn tmps).run Try.prog w = .ok (.tuple #[v, tmps.getD q undef]) w := by
  have hp' : tmps[p]?.getD undef = .pointer (some ⟨b, 0, none⟩) := by rw [← hp]; simp [Array.getD_eq_getD_getElem?]
  simp [results, h, hp', asAddr, hl]
/-- What Get answers. -/
def GetP (w : World) (st : St) (s : ByteArray) (e : Ending) (w' : World) : Prop :=
  ((look st s = none ∧ e = .returned (.tuple #[.agg (ten z39 (.slice none 0 0) (.slice none 0 0)).toArray, .bool false])) ∨ ∃ x v1 v8, look st s = some x ∧ e = .returned (.tuple #[.agg (ten x v1 v8).toArray, .bool true]) ∧ k23.R 23 w' w.heap.size (fun _ => True) v1 x.f1 ∧ Kd.string.R 9 w' w.heap.size (fun _ => True) v8 x.f5) ∧ Below w.heap.size w w'
theorem nil_one : ∀ v ∈ ten z39 (.slice none 0 0) (.slice none 0 0), v.oneCell' = true := ten_one _ rfl rfl
set_option maxHeartbeats 4000000 in
set_option maxRecDepth 100000 in
theorem get_calls {w : World} {D M : Nat} {st : St} (h : TabG w D M st) (s : ByteArray) : Calls Try.prog 15 #[.pointer (some ⟨D, 0, none⟩), .string s] w (GetP w st s) := by
  have HT := Aside0.mk h
  clear h
  cases hl : look st s with
  | none =>
    have HL := Aside0.mk hl
    clear hl
    go_enter Try.func15, Try.ntmps15
    go_wp2_with (first
      | ((with_reducible refine gate_dst (N := 4) rfl ?_); refine box_event ?hg (N := 4) ?hd (cs := (ten z39 (.slice none 0 0) (.slice none 0 0)).toArray) (t := 39) ?hr ?_; (case hd => rfl); (case hg => rfl); (case hr => first | (go_simp; done) | (go_simp; rfl)); intro E hE w1 h1 hb1; have H1 := Aside0.mk h1; have HB1 := Aside0.mk hb1; have HEG := Aside0.mk (show w.heap.size ≤ E by omega); have HT1 := Aside0.mk (HT.out.below hb1); clear h1 hb1 hE)
      | (go_at_call 38; (with_reducible refine (is_calls HT1.out).mono ?_); rintro e w9 ⟨rfl, h9⟩; subst w9; have c1 := HT1.out.cells.2; have hlk := ((HT1.out.look2 s).resolve_right (fun ⟨x, _, _, _, _, h, _⟩ => by rw [HL.out] at h; cases h)).2.1)
      | ((with_reducible refine gate_dst (N := 6) rfl ?_); refine box_event ?hg (N := 6) ?hd (cs := (ten z39 (.slice none 0 0) (.slice none 0 0)).toArray) (t := 39) ?hr ?_; (case hd => rfl); (case hg => rfl); (case hr => first | (go_simp; done) | (go_simp; rfl)); intro F hF w2 h2 hb2; have H2 := Aside0.mk h2; have HB2 := Aside0.mk (below_step HB1.out hb2); have HFG := Aside0.mk (show w.heap.size ≤ F by have := HB1.out.size; omega); have HEF := Aside0.mk (show E ≠ F from by have := heap_lt H1.out; omega); have H1' := Aside0.mk ((hb2.block E (heap_lt H1.out)).trans H1.out); clear h2 hb2 hF hlk c1)
      | ((with_reducible refine gate_ (.store 39 (.tmp 6) (.tmp 19)) rfl ?_); refine store_blk rfl 39 (.tmp 6) (.tmp 19) rfl F (ten z39 (.slice none 0 0) (.slice none 0 0)) (ten z39 (.slice none 0 0) (.slice none 0 0)) rfl rfl H2.out rfl size39 nil_one ?_; intro w3 h3 hk3 hb3; have HB3 := Aside0.mk (hb3 w HFG.out HB2.out); have H3 := Aside0.mk ((hk3 E HEF.out).trans H1'.out); clear h3 hk3 hb3)
      | ((with_reducible refine gate_ (.store 39 (.tmp 4) (.tmp 23)) rfl ?_); refine store_blk rfl 39 (.tmp 4) (.tmp 23) rfl E (ten z39 (.slice none 0 0) (.slice none 0 0)) (ten z39 (.slice none 0 0) (.slice none 0 0)) rfl rfl H3.out rfl size39 nil_one ?_; intro w4 h4 hk4 hb4; have HB4 := Aside0.mk (hb4 w HEG.out HB3.out); have H4 := Aside0.mk h4; clear h4 hk4 hb4))
    ((try simp only [Exit.inBlock, Exit.then]); refine bodyPost_ret (results_ct rfl _ _ E _ rfl (run_loadVar_mid _ _ _ 39 _ _ (range_blk H4.out) Try.underlying39 rfl size39)) rfl ?_)
    exact ⟨.inl ⟨HL.out, rfl⟩, HB4.out⟩
  | some x =>
    have HL := Aside0.mk hl
    have HFN := Aside0.mk (look_fine HT.out hl)
    clear hl
    go_enter Try.func15, Try.ntmps15
    go_wp2_with (first
      | ((with_reducible refine gate_dst (N := 4) rfl ?_); refine box_event ?hg (N := 4) ?hd (cs := (ten z39 (.slice none 0 0) (.slice none 0 0)).toArray) (t := 39) ?hr ?_; (case hd => rfl); (case hg => rfl); (case hr => first | (go_simp; done) | (go_simp; rfl)); intro E hE w1 h1 hb1; have H1 := Aside0.mk h1; have HB1 := Aside0.mk hb1; have HEG := Aside0.mk (show w.heap.size ≤ E by omega); have HT1 := Aside0.mk (HT.out.below hb1); clear h1 hb1 hE)
      | (go_at_call 38; (with_reducible refine (is_calls HT1.out).mono ?_); rintro e w9 ⟨rfl, h9⟩; subst w9; have c1 := HT1.out.cells.2; obtain ⟨x', A1, c1', A8, c8, hlx, hlk, _, e1, e2, e3, e4⟩ := (HT1.out.look2 s).resolve_left (fun h => by have h := h.1; rw [HL.out] at h; cases h); rw [HL.out] at hlx; injection hlx with hlx; subst hlx; have HC := Aside0.mk (And.intro e1 (And.intro e2 (And.intro e3 e4))); clear e1 e2 e3 e4)
      | ((with_reducible refine gate_dst (N := 6) rfl ?_); refine box_event ?hg (N := 6) ?hd (cs := (ten z39 (.slice none 0 0) (.slice none 0 0)).toArray) (t := 39) ?hr ?_; (case hd => rfl); (case hg => rfl); (case hr => first | (go_simp; done) | (go_simp; rfl)); intro F hF w2 h2 hb2; have H2 := Aside0.mk h2; have HB2 := Aside0.mk (below_step HB1.out hb2); have HFG := Aside0.mk (show w.heap.size ≤ F by have := HB1.out.size; omega); have HFN2 := Aside0.mk (show w1.heap.size ≤ F by omega); have HB12 := Aside0.mk hb2; have HEF := Aside0.mk (show E ≠ F from by have := heap_lt H1.out; omega); have H1' := Aside0.mk ((hb2.block E (heap_lt H1.out)).trans H1.out); clear h2 hb2 hF hlk c1)
      | ((with_reducible refine gate_ (.store 39 (.tmp 6) (.tmp 19)) rfl ?_); refine store_blk rfl 39 (.tmp 6) (.tmp 19) rfl F (ten z39 (.slice none 0 0) (.slice none 0 0)) (ten x (.slice A1 x.f1.length c1') (.slice A8 x.f5.length c8)) rfl rfl H2.out rfl size39 (ten_one _ rfl rfl) ?_; intro w3 h3 hk3 hb3; have HB3 := Aside0.mk (hb3 w HFG.out HB2.out); have HB13 := Aside0.mk (hb3 w1 HFN2.out HB12.out); have H3 := Aside0.mk ((hk3 E HEF.out).trans H1'.out); have H3F := Aside0.mk h3; clear h3 hk3 hb3)
      | ((with_reducible refine gate_ (.load 39 (.tmp 6)) rfl ?_); refine load_blk rfl 39 (.tmp 6) rfl F rfl (ten x (.slice A1 x.f1.length c1') (.slice A8 x.f5.length c8)) H3F.out _ Try.underlying39 rfl size39 ?_)
      | (go_at_call 39; (with_reducible refine (copied_calls x HC.out.2.1 (Kd.C_below HC.out.1 HB13.out) HC.out.2.2.2 (Kd.C_below HC.out.2.2.1 HB13.out) (by have := HFN.out.keys; have := HFN.out.readers; omega)).mono ?_); rintro e w5 ⟨v1, v8, rfl, hr1, hr8, hb⟩; have HR5 := Aside0.mk (And.intro hr1 hr8); have HB5 := Aside0.mk (below_step HB3.out hb); have H5 := Aside0.mk ((hb.block E (heap_lt H3.out)).trans H3.out); have HG5 := Aside0.mk hb.size; clear hr1 hr8 hb)
      | ((with_reducible refine gate_ (.store 39 (.tmp 4) (.tmp 25)) rfl ?_); refine store_blk rfl 39 (.tmp 4) (.tmp 25) rfl E (ten z39 (.slice none 0 0) (.slice none 0 0)) (ten x v1 v8) rfl rfl H5.out rfl size39 (ten_one _ (one_of_R HR5.out.1) (one_of_R HR5.out.2)) ?_; intro w6 h6 hk6 hb6; have HB6 := Aside0.mk (hb6 w HEG.out HB5.out); have H6 := Aside0.mk h6; have HK6 := Aside0.mk hk6; clear h6 hk6 hb6))
    ((try simp only [Exit.inBlock, Exit.then]); refine bodyPost_ret (results_ct rfl _ _ E _ rfl (run_loadVar_mid _ _ _ 39 _ _ (range_blk H6.out) Try.underlying39 rfl size39)) rfl ?_)
    exact ⟨.inr ⟨x, v1, v8, HL.out, rfl, Kd.R_lower (Kd.R_mono (Kd.R_move (Kd.R_types HR5.out.1 H5.out (by decide)) (fun k hk => HK6.out k hk.2)) (fun _ _ => trivial)) HB3.out.size, Kd.R_lower (Kd.R_mono (Kd.R_move (Kd.R_types HR5.out.2 H5.out (by decide)) (fun k hk => HK6.out k hk.2)) (fun _ _ => trivial)) HB3.out.size⟩, HB6.out⟩
end Go.Proofs.Yticoaaddhhiglaa.T
