/- Maps with names for keys, as functions: what is looked up, put and taken out. -/
import Derived.MapKept
import Derived.Below
import Derived.Deep.Slices
namespace Go.Proofs.Ytlnipfmgdkiboaa.N
open Go.RowKit
set_option linter.unusedVariables false
set_option linter.unusedSimpArgs false
variable {P : Program}

/-- The map of block M holds what G says. -/
def MapF (w : World) (M : Nat) (G : ByteArray → Option Value) : Prop :=
  ∃ ma clk, w.heap[M]? = some (.map ma clk) ∧ MapKept.Stamped ma clk ∧ (∀ x ∈ ma.toList, ∃ s, x.key = .string s ∧ G s = some x.val) ∧ (∀ s v, G s = some v → ∃ x ∈ ma.toList, x.key = .string s)
theorem MapF.lt {w : World} {M : Nat} {G : ByteArray → Option Value} (h : MapF w M G) : M < w.heap.size := by
  obtain ⟨ma, clk, h, _⟩ := h
  exact (Array.getElem?_eq_some_iff.1 h).1
theorem MapF.move {w w' : World} {M : Nat} {G : ByteArray → Option Value} (h : MapF w M G) (hm : w'.heap[M]? = w.heap[M]?) : MapF w' M G := by
  obtain ⟨ma, clk, h, r⟩ := h
  exact ⟨ma, clk, hm.trans h, r⟩
theorem MapF.find {w : World} {M : Nat} {G : ByteArray → Option Value} {ma : Array MapEntry} (hk : ∀ x ∈ ma.toList, ∃ s, x.key = .string s ∧ G s = some x.val) (hg : ∀ s v, G s = some v → ∃ x ∈ ma.toList, x.key = .string s) (s : ByteArray) :
    (Instr.findNow .string (.string s) ma.toList 0 = some none ∧ G s = none ∧ ∀ x ∈ ma.toList, x.key ≠ .string s) ∨ ∃ j e, Instr.findNow .string (.string s) ma.toList 0 = some (some (j, e.val)) ∧ ma[j]? = some e ∧ e.key = .string s ∧ G s = some e.val := by
  have hks : ∀ x ∈ ma.toList, MapKept.IsKey .string x.key := fun x hx => by
    obtain ⟨t, ht, _⟩ := hk x hx
    rw [ht]
    simp [MapKept.IsKey]
  rcases MapKept.findNow_spec (d := .string) (k := .string s) (by simp [MapKept.IsKey]) ma.toList 0 hks with ⟨h1, h2⟩ | ⟨j, e, h1, h2, h3⟩
  · refine .inl ⟨h1, ?_, h2⟩
    cases hG : G s with
    | none => rfl
    | some v =>
      obtain ⟨x, hx, hxk⟩ := hg s v hG
      exact absurd hxk (h2 x hx)
  · have hj : ma[j]? = some e := by simpa using h2
    obtain ⟨t, ht, hv⟩ := hk e (List.mem_of_getElem? h2)
    rw [ht] at h3
    injection h3 with h3
    subst h3
    exact .inr ⟨j, e, by simpa using h1, hj, ht, hv⟩
theorem MapF.look {w : World} {M : Nat} {G : ByteArray → Option Value} {mt kt et : TypeId} (ht : P.underlying mt = some (.map kt et)) (hk : P.underlying kt = some .string) {z : Value} (hz : (zeroValue et).run P w = .ok z w) (h : MapF w M G) (s : ByteArray) :
    (Instr.lookup mt (.map (some M)) (.string s) false).run P w = .ok ((G s).getD z) w := by
  obtain ⟨ma, clk, hb, _, h1, h2⟩ := h
  have hc : ∀ b, (Instr.checkKey b 10000 kt (.string s)).run P w = .ok () w := fun b => MapKept.run_checkKey (k := .string s) hk (by simp [MapKept.IsKey]) b 9999
  rcases MapF.find (w := w) (M := M) h1 h2 s with ⟨hf, hG, _⟩ | ⟨j, e, hf, hj, _, hG⟩
  · simp [Instr.lookup, run_underlying ht, MapKept.run_getObj_map hb, hc, MapKept.run_findKey hk hf, Result.andThen, hz, hG]
  · simp [Instr.lookup, run_underlying ht, MapKept.run_getObj_map hb, hc, MapKept.run_findKey hk hf, Result.andThen, hG]
theorem mem_modify {ma : Array MapEntry} {j : Nat} {f : MapEntry → MapEntry} {x : MapEntry} (h : x ∈ (ma.modify j f).toList) : (∃ e, ma[j]? = some e ∧ x = f e) ∨ ∃ i, i ≠ j ∧ ma[i]? = some x := by
  obtain ⟨i, hi⟩ := List.getElem?_of_mem h
  have hi' : (ma.modify j f)[i]? = some x := by rw [← Array.getElem?_toList]; exact hi
  rw [Array.getElem?_modify] at hi'
  by_cases hij : j = i
  · subst hij
    rw [if_pos rfl] at hi'
    obtain ⟨e, he, hx⟩ := Option.map_eq_some_iff.1 hi'
    exact .inl ⟨e, he, hx.symm⟩
  · rw [if_neg hij] at hi'
    exact .inr ⟨i, fun e => hij e.symm, hi'⟩
theorem mem_of_modify {ma : Array MapEntry} {j : Nat} {f : MapEntry → MapEntry} {x : MapEntry} {i : Nat} (h : ma[i]? = some x) : (if i = j then f x else x) ∈ (ma.modify j f).toList := by
  have : (ma.modify j f)[i]? = some (if i = j then f x else x) := by
    rw [Array.getElem?_modify]
    by_cases hij : j = i
    · subst hij; simp [h]
    · rw [if_neg hij, h, if_neg (fun e => hij e.symm)]
  exact Array.mem_toList_iff.2 (Array.mem_of_getElem? this)
theorem keys_apart {ma : Array MapEntry} {clk : Nat} (hs : MapKept.Stamped ma clk) {i j : Nat} {x e : MapEntry} (hi : ma[i]? = some x) (hj : ma[j]? = some e) (hij : i ≠ j) : x.key ≠ e.key := by
  intro he
  have hn := hs.2.2
  have h1 : (ma.toList.map (·.key))[i]? = some x.key := by simp [hi]
  have h2 : (ma.toList.map (·.key))[j]? = some e.key := by simp [hj]
  have hil : i < (ma.toList.map (·.key)).length := (List.getElem?_eq_some_iff.1 h1).1
  exact hij ((List.getElem?_inj hil hn).1 (by rw [h1, h2, he]))
theorem MapF.put {w : World} {M : Nat} {G : ByteArray → Option Value} {mt kt et : TypeId} (ht : P.underlying mt = some (.map kt et)) (hk : P.underlying kt = some .string) (h : MapF w M G) (s : ByteArray) (v : Value) :
    ∃ w' : World, (Instr.mapUpdate mt (.map (some M)) (.string s) v).run P w = .ok () w' ∧ MapF w' M (fun t => if t = s then some v else G t) ∧ w'.os = w.os ∧ w'.tape = w.tape ∧ w'.output = w.output ∧ w'.heap.size = w.heap.size ∧ ∀ k, k ≠ M → w'.heap[k]? = w.heap[k]? := by
  obtain ⟨ma, clk, hb, hs, h1, h2⟩ := h
  have hc : ∀ b, (Instr.checkKey b 10000 kt (.string s)).run P w = .ok () w := fun b => MapKept.run_checkKey (k := .string s) hk (by simp [MapKept.IsKey]) b 9999
  rcases MapF.find (w := w) (M := M) h1 h2 s with ⟨hf, hG, hn⟩ | ⟨j, e, hf, hj, hek, hG⟩
  · refine ⟨{ w with heap := w.heap.setIfInBounds M (.map (ma.push { key := .string s, val := v, born := clk }) (clk + 1)) }, by simp [Instr.mapUpdate, run_underlying ht, MapKept.run_getObj_map hb, hc, MapKept.run_findKey hk hf, MapKept.run_setObj_map _ hb, Result.andThen], ⟨_, _, (MapKept.heap_set hb).1, MapKept.stamped_push hs hn, ?_, ?_⟩, rfl, rfl, rfl, by simp, fun k hkM => (MapKept.heap_set hb).2 k hkM⟩
    · intro x hx
      simp only [Array.toList_push, List.mem_append, List.mem_singleton] at hx
      rcases hx with hx | rfl
      · obtain ⟨t, htk, htv⟩ := h1 x hx
        refine ⟨t, htk, ?_⟩
        exact (if_neg (fun e => hn x hx (by rw [htk, e]))).trans htv
      · exact ⟨s, rfl, by simp⟩
    · intro t u hu
      dsimp only at hu
      by_cases hts : t = s
      · subst hts
        exact ⟨{ key := .string t, val := v, born := clk }, by simp, rfl⟩
      · rw [if_neg hts] at hu
        obtain ⟨x, hx, hxk⟩ := h2 t u hu
        exact ⟨x, by simp only [Array.toList_push, List.mem_append]; exact .inl hx, hxk⟩
  · have hkey : ∀ e', ma[j]? = some e' → ({ e' with key := .string s, val := v } : MapEntry).key = e'.key := fun e' he' => by rw [hj] at he'; cases he'; exact hek.symm
    refine ⟨{ w with heap := w.heap.setIfInBounds M (.map (ma.modify j fun e => { e with key := .string s, val := v }) clk) }, by simp [Instr.mapUpdate, run_underlying ht, MapKept.run_getObj_map hb, hc, MapKept.run_findKey hk hf, hj, hek, MapKept.run_keyThatStays (d := .string) (k := .string s) (by simp [MapKept.IsKey]), MapKept.run_setObj_map _ hb, Result.andThen], ⟨_, _, (MapKept.heap_set hb).1, MapKept.stamped_modify hs _ _ (fun _ _ => rfl) (fun e' _ he' => hkey e' he'), ?_, ?_⟩, rfl, rfl, rfl, by simp, fun k hkM => (MapKept.heap_set hb).2 k hkM⟩
    · intro x hx
      rcases mem_modify hx with ⟨e', he', rfl⟩ | ⟨i, hij, hi⟩
      · exact ⟨s, rfl, by simp⟩
      · obtain ⟨t, htk, htv⟩ := h1 x (Array.mem_toList_iff.2 (Array.mem_of_getElem? hi))
        refine ⟨t, htk, ?_⟩
        exact (if_neg (fun et => keys_apart hs hi hj hij (by rw [htk, hek, et]))).trans htv
    · intro t u hu
      dsimp only at hu
      by_cases hts : t = s
      · subst hts
        have := mem_of_modify (j := j) (f := fun e => { e with key := .string t, val := v }) hj
        rw [if_pos rfl] at this
        exact ⟨_, this, rfl⟩
      · rw [if_neg hts] at hu
        obtain ⟨x, hx, hxk⟩ := h2 t u hu
        obtain ⟨i, hi⟩ := List.getElem?_of_mem hx
        have hi' : ma[i]? = some x := by simpa using hi
        have hij : i ≠ j := fun e' => by subst e'; rw [hj] at hi'; cases hi'; rw [hek] at hxk; injection hxk with hxk; exact hts hxk.symm
        have := mem_of_modify (j := j) (f := fun e => { e with key := .string s, val := v }) hi'
        rw [if_neg hij] at this
        exact ⟨x, this, hxk⟩
theorem MapF.drop {w : World} {M : Nat} {G : ByteArray → Option Value} {mt kt et ty : TypeId} (ht : P.underlying mt = some (.map kt et)) (hk : P.underlying kt = some .string) (h : MapF w M G) (s : ByteArray) :
    ∃ w' : World, (Builtin.delete_ #[mt, kt] ty #[.map (some M), .string s]).run P w = .ok (.tuple #[]) w' ∧ MapF w' M (fun t => if t = s then none else G t) ∧ w'.os = w.os ∧ w'.tape = w.tape ∧ w'.output = w.output ∧ w'.heap.size = w.heap.size ∧ ∀ k, k ≠ M → w'.heap[k]? = w.heap[k]? := by
  obtain ⟨ma, clk, hb, hs, h1, h2⟩ := h
  have hc : ∀ b, (Instr.checkKey b 10000 kt (.string s)).run P w = .ok () w := fun b => MapKept.run_checkKey (k := .string s) hk (by simp [MapKept.IsKey]) b 9999
  rcases MapF.find (w := w) (M := M) h1 h2 s with ⟨hf, hG, hn⟩ | ⟨j, e, hf, hj, hek, hG⟩
  · refine ⟨{ w with heap := w.heap.setIfInBounds M (.map ma clk) }, by simp [Builtin.delete_, run_underlying ht, MapKept.run_getObj_map hb, hc, MapKept.run_findKey hk hf, MapKept.run_setObj_map _ hb, Result.andThen], ⟨_, _, (MapKept.heap_set hb).1, hs, ?_, ?_⟩, rfl, rfl, rfl, by simp, fun k hkM => (MapKept.heap_set hb).2 k hkM⟩
    · intro x hx
      obtain ⟨t, htk, htv⟩ := h1 x hx
      exact ⟨t, htk, (if_neg (fun e => hn x hx (by rw [htk, e]))).trans htv⟩
    · intro t u hu
      dsimp only at hu
      by_cases hts : t = s
      · rw [if_pos hts] at hu; cases hu
      · rw [if_neg hts] at hu
        exact h2 t u hu
  · have hjl : j < ma.size := (Array.getElem?_eq_some_iff.1 hj).1
    have her : (ma.eraseIdxIfInBounds j).toList = ma.toList.eraseIdx j := by
      unfold Array.eraseIdxIfInBounds
      rw [dif_pos hjl]
      simp
    refine ⟨{ w with heap := w.heap.setIfInBounds M (.map (ma.eraseIdxIfInBounds j) clk) }, by simp [Builtin.delete_, run_underlying ht, MapKept.run_getObj_map hb, hc, MapKept.run_findKey hk hf, MapKept.run_setObj_map _ hb, Result.andThen], ⟨_, _, (MapKept.heap_set hb).1, MapKept.stamped_erase hs _, ?_, ?_⟩, rfl, rfl, rfl, by simp, fun k hkM => (MapKept.heap_set hb).2 k hkM⟩
    · intro x hx
      rw [her] at hx
      obtain ⟨i, hij, hi⟩ := List.mem_eraseIdx_iff_getElem?.1 hx
      have hi' : ma[i]? = some x := by simpa using hi
      obtain ⟨t, htk, htv⟩ := h1 x (Array.mem_toList_iff.2 (Array.mem_of_getElem? hi'))
      refine ⟨t, htk, ?_⟩
      exact (if_neg (fun et => keys_apart hs hi' hj hij (by rw [htk, hek, et]))).trans htv
    · intro t u hu
      dsimp only at hu
      by_cases hts : t = s
      · rw [if_pos hts] at hu; cases hu
      · rw [if_neg hts] at hu
        obtain ⟨x, hx, hxk⟩ := h2 t u hu
        obtain ⟨i, hi⟩ := List.getElem?_of_mem hx
        have hi' : ma[i]? = some x := by simpa using hi
        have hij : i ≠ j := fun e' => by subst e'; rw [hj] at hi'; cases hi'; rw [hek] at hxk; injection hxk with hxk; exact hts hxk.symm
        exact ⟨x, by rw [her]; exact List.mem_eraseIdx_iff_getElem?.2 ⟨i, hij, hi⟩, hxk⟩
theorem MapF.made (w : World) : MapF (w.alloc (.map #[] 0)) w.heap.size (fun _ => none) :=
  ⟨#[], 0, (MapKept.heap_alloc w _).1, MapKept.stamped_empty 0, by simp, by simp⟩
end Go.Proofs.Ytlnipfmgdkiboaa.N
