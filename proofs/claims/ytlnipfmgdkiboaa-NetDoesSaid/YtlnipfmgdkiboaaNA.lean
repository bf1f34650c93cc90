import Derived.MapKept
import Derived.Below
import Derived.Deep.Slices
import Derived.Test.YtlnipfmgdkiboaaQ1
import Derived.Maps.Own
import Derived.Lib.SliceRun
import Derived.LoopN
/- Maps with names for keys, as functions: what is looked up, put and taken out. -/
namespace Go.Proofs.Ytlnipfmgdkiboaa.N
open Go.RowKit
set_option linter.unusedVariables false
set_option linter.unusedSimpArgs false
variable {P : Program}
/-- The map of block M holds what G says. -/
def MapF (w : World) (M : Nat) (G : ByteArray → Option Value) : Prop :=
  ∃ ma clk, w.heap[M]? = some (.map ma clk) ∧ MapKept.Stamped ma clk ∧ (∀ x ∈ ma.toList, ∃ s, x.key = .string s ∧ G s = some x.val) ∧ (∀ s v, G s = some v → ∃ x ∈ ma.toList, x.key = .string s)
theorem MapF.lt {w : World} {M : Nat} {G : ByteArray → Option Value} (h : MapF w M G) : M < w.heap.size := by
  obtain ⟨ma, clk, h, _⟩ := h
  exact (Array.getElem?_eq_some_iff.1 h).1
theorem MapF.move {w w' : World} {M : Nat} {G : ByteArray → Option Value} (h : MapF w M G) (hm : w'.heap[M]? = w.heap[M]?) : MapF w' M G := by
  obtain ⟨ma, clk, h, r⟩ := h
  exact ⟨ma, clk, hm.trans h, r⟩
theorem MapF.find {w : World} {M : Nat} {G : ByteArray → Option Value} {ma : Array MapEntry} (hk : ∀ x ∈ ma.toList, ∃ s, x.key = .string s ∧ G s = some x.val) (hg : ∀ s v, G s = some v → ∃ x ∈ ma.toList, x.key = .string s) (s : ByteArray) :
    (Instr.findNow .string (.string s) ma.toList 0 = some none ∧ G s = none ∧ ∀ x ∈ ma.toList, x.key ≠ .string s) ∨ ∃ j e, Instr.findNow .string (.string s) ma.toList 0 = some (some (j, e.val)) ∧ ma[j]? = some e ∧ e.key = .string s ∧ G s = some e.val := by
  have hks : ∀ x ∈ ma.toList, MapKept.IsKey .string x.key := fun x hx => by
    obtain ⟨t, ht, _⟩ := hk x hx
    rw [ht]
    simp [MapKept.IsKey]
  rcases MapKept.findNow_spec (d := .string) (k := .string s) (by simp [MapKept.IsKey]) ma.toList 0 hks with ⟨h1, h2⟩ | ⟨j, e, h1, h2, h3⟩
  · refine .inl ⟨h1, ?_, h2⟩
    cases hG : G s with
    | none => rfl
    | some v =>
      obtain ⟨x, hx, hxk⟩ := hg s v hG
      exact absurd hxk (h2 x hx)
  · have hj : ma[j]? = some e := by simpa using h2
    obtain ⟨t, ht, hv⟩ := hk e (List.mem_of_getElem? h2)
    rw [ht] at h3
    injection h3 with h3
    subst h3
    exact .inr ⟨j, e, by simpa using h1, hj, ht, hv⟩
theorem MapF.look {w : World} {M : Nat} {G : ByteArray → Option Value} {mt kt et : TypeId} (ht : P.underlying mt = some (.map kt et)) (hk : P.underlying kt = some .string) {z : Value} (hz : (zeroValue et).run P w = .ok z w) (h : MapF w M G) (s : ByteArray) :
    (Instr.lookup mt (.map (some M)) (.string s) false).run P w = .ok ((G s).getD z) w := by
  obtain ⟨ma, clk, hb, _, h1, h2⟩ := h
  have hc : ∀ b, (Instr.checkKey b 10000 kt (.string s)).run P w = .ok () w := fun b => MapKept.run_checkKey (k := .string s) hk (by simp [MapKept.IsKey]) b 9999
  rcases MapF.find (w := w) (M := M) h1 h2 s with ⟨hf, hG, _⟩ | ⟨j, e, hf, hj, _, hG⟩
  · simp [Instr.lookup, run_underlying ht, MapKept.run_getObj_map hb, hc, MapKept.run_findKey hk hf, Result.andThen, hz, hG]
  · simp [Instr.lookup, run_underlying ht, MapKept.run_getObj_map hb, hc, MapKept.run_findKey hk hf, Result.andThen, hG]
theorem mem_modify {ma : Array MapEntry} {j : Nat} {f : MapEntry → MapEntry} {x : MapEntry} (h : x ∈ (ma.modify j f).toList) : (∃ e, ma[j]? = some e ∧ x = f e) ∨ ∃ i, i ≠ j ∧ ma[i]? = some x := by
  obtain ⟨i, hi⟩ := List.getElem?_of_mem h
  have hi' : (ma.modify j f)[i]? = some x := by rw [← Array.getElem?_toList]; exact hi
  rw [Array.getElem?_modify] at hi'
  by_cases hij : j = i
  · subst hij
    rw [if_pos rfl] at hi'
    obtain ⟨e, he, hx⟩ := Option.map_eq_some_iff.1 hi'
    exact .inl ⟨e, he, hx.symm⟩
  · rw [if_neg hij] at hi'
    exact .inr ⟨i, fun e => hij e.symm, hi'⟩
theorem mem_of_modify {ma : Array MapEntry} {j : Nat} {f : MapEntry → MapEntry} {x : MapEntry} {i : Nat} (h : ma[i]? = some x) : (if i = j then f x else x) ∈ (ma.modify j f).toList := by
  have : (ma.modify j f)[i]? = some (if i = j then f x else x) := by
    rw [Array.getElem?_modify]
    by_cases hij : j = i
    · subst hij; simp [h]
    · rw [if_neg hij, h, if_neg (fun e => hij e.symm)]
  exact Array.mem_toList_iff.2 (Array.mem_of_getElem? this)
theorem keys_apart {ma : Array MapEntry} {clk : Nat} (hs : MapKept.Stamped ma clk) {i j : Nat} {x e : MapEntry} (hi : ma[i]? = some x) (hj : ma[j]? = some e) (hij : i ≠ j) : x.key ≠ e.key := by
  intro he
  have hn := hs.2.2
  have h1 : (ma.toList.map (·.key))[i]? = some x.key := by simp [hi]
  have h2 : (ma.toList.map (·.key))[j]? = some e.key := by simp [hj]
  have hil : i < (ma.toList.map (·.key)).length := (List.getElem?_eq_some_iff.1 h1).1
  exact hij ((List.getElem?_inj hil hn).1 (by rw [h1, h2, he]))
theorem MapF.put {w : World} {M : Nat} {G : ByteArray → Option Value} {mt kt et : TypeId} (ht : P.underlying mt = some (.map kt et)) (hk : P.underlying kt = some .string) (h : MapF w M G) (s : ByteArray) (v : Value) :
    ∃ w' : World, (Instr.mapUpdate mt (.map (some M)) (.string s) v).run P w = .ok () w' ∧ MapF w' M (fun t => if t = s then some v else G t) ∧ w'.os = w.os ∧ w'.tape = w.tape ∧ w'.output = w.output ∧ w'.heap.size = w.heap.size ∧ ∀ k, k ≠ M → w'.heap[k]? = w.heap[k]? := by
  obtain ⟨ma, clk, hb, hs, h1, h2⟩ := h
  have hc : ∀ b, (Instr.checkKey b 10000 kt (.string s)).run P w = .ok () w := fun b => MapKept.run_checkKey (k := .string s) hk (by simp [MapKept.IsKey]) b 9999
  rcases MapF.find (w := w) (M := M) h1 h2 s with ⟨hf, hG, hn⟩ | ⟨j, e, hf, hj, hek, hG⟩
  · refine ⟨{ w with heap := w.heap.setIfInBounds M (.map (ma.push { key := .string s, val := v, born := clk }) (clk + 1)) }, by simp [Instr.mapUpdate, run_underlying ht, MapKept.run_getObj_map hb, hc, MapKept.run_findKey hk hf, MapKept.run_setObj_map _ hb, Result.andThen], ⟨_, _, (MapKept.heap_set hb).1, MapKept.stamped_push hs hn, ?_, ?_⟩, rfl, rfl, rfl, by simp, fun k hkM => (MapKept.heap_set hb).2 k hkM⟩
    · intro x hx
      simp only [Array.toList_push, List.mem_append, List.mem_singleton] at hx
      rcases hx with hx | rfl
      · obtain ⟨t, htk, htv⟩ := h1 x hx
        refine ⟨t, htk, ?_⟩
        exact (if_neg (fun e => hn x hx (by rw [htk, e]))).trans htv
      · exact ⟨s, rfl, by simp⟩
    · intro t u hu
      dsimp only at hu
      by_cases hts : t = s
      · subst hts
        exact ⟨{ key := .string t, val := v, born := clk }, by simp, rfl⟩
      · rw [if_neg hts] at hu
        obtain ⟨x, hx, hxk⟩ := h2 t u hu
        exact ⟨x, by simp only [Array.toList_push, List.mem_append]; exact .inl hx, hxk⟩
  · have hkey : ∀ e', ma[j]? = some e' → ({ e' with key := .string s, val := v } : MapEntry).key = e'.key := fun e' he' => by rw [hj] at he'; cases he'; exact hek.symm
    refine ⟨{ w with heap := w.heap.setIfInBounds M (.map (ma.modify j fun e => { e with key := .string s, val := v }) clk) }, by simp [Instr.mapUpdate, run_underlying ht, MapKept.run_getObj_map hb, hc, MapKept.run_findKey hk hf, hj, hek, MapKept.run_keyThatStays (d := .string) (k := .string s) (by simp [MapKept.IsKey]), MapKept.run_setObj_map _ hb, Result.andThen], ⟨_, _, (MapKept.heap_set hb).1, MapKept.stamped_modify hs _ _ (fun _ _ => rfl) (fun e' _ he' => hkey e' he'), ?_, ?_⟩, rfl, rfl, rfl, by simp, fun k hkM => (MapKept.heap_set hb).2 k hkM⟩
    · intro x hx
      rcases mem_modify hx with ⟨e', he', rfl⟩ | ⟨i, hij, hi⟩
      · exact ⟨s, rfl, by simp⟩
      · obtain ⟨t, htk, htv⟩ := h1 x (Array.mem_toList_iff.2 (Array.mem_of_getElem? hi))
        refine ⟨t, htk, ?_⟩
        exact (if_neg (fun et => keys_apart hs hi hj hij (by rw [htk, hek, et]))).trans htv
    · intro t u hu
      dsimp only at hu
      by_cases hts : t = s
      · subst hts
        have := mem_of_modify (j := j) (f := fun e => { e with key := .string t, val := v }) hj
        rw [if_pos rfl] at this
        exact ⟨_, this, rfl⟩
      · rw [if_neg hts] at hu
        obtain ⟨x, hx, hxk⟩ := h2 t u hu
        obtain ⟨i, hi⟩ := List.getElem?_of_mem hx
        have hi' : ma[i]? = some x := by simpa using hi
        have hij : i ≠ j := fun e' => by subst e'; rw [hj] at hi'; cases hi'; rw [hek] at hxk; injection hxk with hxk; exact hts hxk.symm
        have := mem_of_modify (j := j) (f := fun e => { e with key := .string s, val := v }) hi'
        rw [if_neg hij] at this
        exact ⟨x, this, hxk⟩
theorem MapF.drop {w : World} {M : Nat} {G : ByteArray → Option Value} {mt kt et ty : TypeId} (ht : P.underlying mt = some (.map kt et)) (hk : P.underlying kt = some .string) (h : MapF w M G) (s : ByteArray) :
    ∃ w' : World, (Builtin.delete_ #[mt, kt] ty #[.map (some M), .string s]).run P w = .ok (.tuple #[]) w' ∧ MapF w' M (fun t => if t = s then none else G t) ∧ w'.os = w.os ∧ w'.tape = w.tape ∧ w'.output = w.output ∧ w'.heap.size = w.heap.size ∧ ∀ k, k ≠ M → w'.heap[k]? = w.heap[k]? := by
  obtain ⟨ma, clk, hb, hs, h1, h2⟩ := h
  have hc : ∀ b, (Instr.checkKey b 10000 kt (.string s)).run P w = .ok () w := fun b => MapKept.run_checkKey (k := .string s) hk (by simp [MapKept.IsKey]) b 9999
  rcases MapF.find (w := w) (M := M) h1 h2 s with ⟨hf, hG, hn⟩ | ⟨j, e, hf, hj, hek, hG⟩
  · refine ⟨{ w with heap := w.heap.setIfInBounds M (.map ma clk) }, by simp [Builtin.delete_, run_underlying ht, MapKept.run_getObj_map hb, hc, MapKept.run_findKey hk hf, MapKept.run_setObj_map _ hb, Result.andThen], ⟨_, _, (MapKept.heap_set hb).1, hs, ?_, ?_⟩, rfl, rfl, rfl, by simp, fun k hkM => (MapKept.heap_set hb).2 k hkM⟩
    · intro x hx
      obtain ⟨t, htk, htv⟩ := h1 x hx
      exact ⟨t, htk, (if_neg (fun e => hn x hx (by rw [htk, e]))).trans htv⟩
    · intro t u hu
      dsimp only at hu
      by_cases hts : t = s
      · rw [if_pos hts] at hu; cases hu
      · rw [if_neg hts] at hu
        exact h2 t u hu
  · have hjl : j < ma.size := (Array.getElem?_eq_some_iff.1 hj).1
    have her : (ma.eraseIdxIfInBounds j).toList = ma.toList.eraseIdx j := by
      unfold Array.eraseIdxIfInBounds
      rw [dif_pos hjl]
      simp
    refine ⟨{ w with heap := w.heap.setIfInBounds M (.map (ma.eraseIdxIfInBounds j) clk) }, by simp [Builtin.delete_, run_underlying ht, MapKept.run_getObj_map hb, hc, MapKept.run_findKey hk hf, MapKept.run_setObj_map _ hb, Result.andThen], ⟨_, _, (MapKept.heap_set hb).1, MapKept.stamped_erase hs _, ?_, ?_⟩, rfl, rfl, rfl, by simp, fun k hkM => (MapKept.heap_set hb).2 k hkM⟩
    · intro x hx
      rw [her] at hx
      obtain ⟨i, hij, hi⟩ := List.mem_eraseIdx_iff_getElem?.1 hx
      have hi' : ma[i]? = some x := by simpa using hi
      obtain ⟨t, htk, htv⟩ := h1 x (Array.mem_toList_iff.2 (Array.mem_of_getElem? hi'))
      refine ⟨t, htk, ?_⟩
      exact (if_neg (fun et => keys_apart hs hi' hj hij (by rw [htk, hek, et]))).trans htv
    · intro t u hu
      dsimp only at hu
      by_cases hts : t = s
      · rw [if_pos hts] at hu; cases hu
      · rw [if_neg hts] at hu
        obtain ⟨x, hx, hxk⟩ := h2 t u hu
        obtain ⟨i, hi⟩ := List.getElem?_of_mem hx
        have hi' : ma[i]? = some x := by simpa using hi
        have hij : i ≠ j := fun e' => by subst e'; rw [hj] at hi'; cases hi'; rw [hek] at hxk; injection hxk with hxk; exact hts hxk.symm
        exact ⟨x, by rw [her]; exact List.mem_eraseIdx_iff_getElem?.2 ⟨i, hij, hi⟩, hxk⟩
theorem MapF.made (w : World) : MapF (w.alloc (.map #[] 0)) w.heap.size (fun _ => none) :=
  ⟨#[], 0, (MapKept.heap_alloc w _).1, MapKept.stamped_empty 0, by simp, by simp⟩
end Go.Proofs.Ytlnipfmgdkiboaa.N
/- The network by hand: what it is, and the functions that only look. -/
namespace Go.Proofs.Ytlnipfmgdkiboaa.N
open Go.RowKit Go.Proofs.Ytlnipfmgdkiboaa.Q Go.Proofs.YtlnipfmgdkiboaaW.PrintWords Go.Proofs.YtlnipfmgdkiboaaW.PrintLast Go.Proofs.YtlnipfmgdkiboaaW.PrintMore
set_option linter.unusedVariables false
set_option linter.unusedSimpArgs false
/-- What may have changed. -/
structure Chg (S : Nat → Prop) (w w' : World) : Prop where
  os : w'.os = w.os
  tape : w'.tape = w.tape
  output : w'.output = w.output
  size : w.heap.size ≤ w'.heap.size
  block : ∀ k, k < w.heap.size → ¬ S k → w'.heap[k]? = w.heap[k]?
  five : ∀ (k : Nat) (cells : Array Value), w.heap[k]? = some (.cells cells 5 (0, 0)) → w'.heap[k]? = w.heap[k]?
theorem Chg.refl (S : Nat → Prop) (w : World) : Chg S w w := ⟨rfl, rfl, rfl, Nat.le_refl _, fun _ _ _ => rfl, fun _ _ _ => rfl⟩
theorem Chg.trans {S T U : Nat → Prop} {w w1 w2 : World} (h1 : Chg S w w1) (h2 : Chg T w1 w2) (hS : ∀ k, k < w.heap.size → S k → U k) (hT : ∀ k, k < w.heap.size → T k → U k) : Chg U w w2 :=
  ⟨h2.os.trans h1.os, h2.tape.trans h1.tape, h2.output.trans h1.output, Nat.le_trans h1.size h2.size, fun k hk hn => (h2.block k (Nat.lt_of_lt_of_le hk h1.size) (fun h => hn (hT k hk h))).trans (h1.block k hk (fun h => hn (hS k hk h))), fun k cells hk => (h2.five k cells ((h1.five k cells hk).trans hk)).trans (h1.five k cells hk)⟩
theorem Chg.of_below {w w' : World} (S : Nat → Prop) (h : Below w.heap.size w w') : Chg S w w' := ⟨h.os, h.tape, h.output, h.size, fun k hk _ => h.block k hk, fun k cells hk => h.block k (Array.getElem?_eq_some_iff.1 hk).1⟩
theorem Chg.of_grown {w w' : World} {row : Option Nat} (h : w.grownBy w' row) (hty : ∀ (k : Nat) (cells : Array Value), some k = row → w.heap[k]? = some (.cells cells 5 (0, 0)) → False) : Chg (fun k => some k = row) w w' := ⟨h.os, h.tape, h.output, h.size, fun k hk hn => h.block k hk hn, fun k cells hk => h.block k (Array.getElem?_eq_some_iff.1 hk).1 (fun e => hty k cells e hk)⟩
theorem Chg.onto {S : Nat → Prop} {w w' w'' : World} {B : Nat} (hb : Below B w w') (hB : B ≤ w.heap.size) (hc : Chg S w' w'') (hS : ∀ k, S k → B ≤ k) : Below B w w'' := by
  obtain ⟨h1, h2, h3, h4, h5⟩ := hb
  exact ⟨hc.os.trans h1, hc.tape.trans h2, hc.output.trans h3, Nat.le_trans h4 hc.size, fun k hk => (hc.block k (Nat.lt_of_lt_of_le hk (Nat.le_trans hB h4)) (fun hs => by have := hS k hs; omega)).trans (h5 k hk)⟩
theorem heap_lt {w : World} {k : Nat} {o : Obj} (h : w.heap[k]? = some o) : k < w.heap.size := (Array.getElem?_eq_some_iff.1 h).1
/-- A network: its room, its letters by tenants, and whose its blocks are. -/
structure NetG (w : World) (N M : Nat) (room : Int) (B : Nat) (own : Nat → Option ByteArray) (G : ByteArray → Option Value) (Q : ByteArray → List S34) : Prop where
  cells : w.heap[N]? = some (.cells #[.int .i64 room, .map (some M)] 62 (0, 0))
  map : MapF w M G
  rows : ∀ s, Kd.S k34 34 w B (fun k => own k = some s) ((G s).getD (.slice none 0 0)) (Q s)
  room1 : 1 ≤ room
  room2 : room ≤ 256
  few : ∀ s, ((Q s).length : Int) ≤ room
  baseN : B ≤ N
  baseM : B ≤ M
  lt : ∀ k s, own k = some s → B ≤ k ∧ k < w.heap.size
  notN : own N = none
  notM : own M = none
  short : ∀ s x, x ∈ Q s → x.f1.length < 140737488355328
theorem NetG.ne {w : World} {N M : Nat} {room : Int} {B : Nat} {own : Nat → Option ByteArray} {G : ByteArray → Option Value} {Q : ByteArray → List S34} (h : NetG w N M room B own G Q) : N ≠ M := fun e => by
  obtain ⟨ma, clk, hb, _⟩ := h.map
  have := h.cells
  rw [e, hb] at this
  cases this
theorem NetG.move {w w' : World} {N M : Nat} {room : Int} {B : Nat} {own : Nat → Option ByteArray} {G : ByteArray → Option Value} {Q : ByteArray → List S34} (h : NetG w N M room B own G Q) (hs : w.heap.size ≤ w'.heap.size)
    (hm : ∀ k, k < w.heap.size → (k = N ∨ k = M ∨ own k ≠ none) → w'.heap[k]? = w.heap[k]?) : NetG w' N M room B own G Q where
  cells := (hm N (heap_lt h.cells) (.inl rfl)).trans h.cells
  map := h.map.move (hm M h.map.lt (.inr (.inl rfl)))
  rows := fun s => Kd.S_step (h.rows s) (fun k hk hlt => hm k hlt (.inr (.inr (by rw [hk]; simp))))
  room1 := h.room1
  room2 := h.room2
  few := h.few
  baseN := h.baseN
  baseM := h.baseM
  lt := fun k s hk => ⟨(h.lt k s hk).1, Nat.lt_of_lt_of_le (h.lt k s hk).2 hs⟩
  notN := h.notN
  notM := h.notM
  short := h.short
theorem NetG.below {w w' : World} {N M : Nat} {room : Int} {B : Nat} {own : Nat → Option ByteArray} {G : ByteArray → Option Value} {Q : ByteArray → List S34} (h : NetG w N M room B own G Q) (hb : Below w.heap.size w w') : NetG w' N M room B own G Q :=
  h.move hb.size (fun k hk _ => hb.block k hk)
/-- The rows as rows of their own. -/
theorem NetG.rrows {w : World} {N M : Nat} {room : Int} {B : Nat} {own : Nat → Option ByteArray} {G : ByteArray → Option Value} {Q : ByteArray → List S34} (h : NetG w N M room B own G Q) (s : ByteArray) : k34.R 34 w B (fun k => own k = some s) ((G s).getD (.slice none 0 0)) (Q s) := Kd.S_R (h.rows s)
theorem NetG.cell {w : World} {N M : Nat} {room : Int} {B : Nat} {own : Nat → Option ByteArray} {G : ByteArray → Option Value} {Q : ByteArray → List S34} (h : NetG w N M room B own G Q) : w.cell? ⟨N, 0, none⟩ = some (.int .i64 room) ∧ w.cell? ⟨N, 1, none⟩ = some (.map (some M)) := by
  have hc := h.cells
  refine ⟨?_, ?_⟩ <;> simp [World.cell?, hc]
theorem zero29 (w : World) : (zeroValue 29).run Try.prog w = .ok (.slice none 0 0) w := by kernel_rfl
theorem NetG.look {w : World} {N M : Nat} {room : Int} {B : Nat} {own : Nat → Option ByteArray} {G : ByteArray → Option Value} {Q : ByteArray → List S34} (h : NetG w N M room B own G Q) (s : ByteArray) :
    (Instr.lookup 60 (.map (some M)) (.string s) false).run Try.prog w = .ok ((G s).getD (.slice none 0 0)) w := h.map.look Try.underlying60 Try.underlying9 (zero29 w) s
theorem map_ne (M : Nat) (W : World) : (binOp .neq 60 (.map (some M)) (.map none)).run Try.prog W = .ok (.bool true) W := by kernel_rfl
set_option maxHeartbeats 400000 in
set_option maxRecDepth 100000 in
theorem ok_calls (N M : Nat) (w : World) (h : w.cell? ⟨N, 1, none⟩ = some (.map (some M))) : Calls Try.prog 25 #[.pointer (some ⟨N, 0, none⟩)] w fun e w' => e = .returned (.bool true) ∧ w' = w := by
  have hne := map_ne M
  go_enter Try.func25, Try.ntmps25
  go_wp2
  go_ret
  exact ⟨rfl, rfl⟩
section
variable {w : World} {N M : Nat} {room : Int} {B : Nat} {own : Nat → Option ByteArray} {G : ByteArray → Option Value} {Q : ByteArray → List S34}
set_option maxHeartbeats 400000 in
set_option maxRecDepth 100000 in
theorem len_calls (h : NetG w N M room B own G Q) (s : ByteArray) : Calls Try.prog 15 #[.pointer (some ⟨N, 0, none⟩), .string s] w fun e w' => e = .returned (.int .i64 (Q s).length) ∧ w' = w := by
  obtain ⟨c0, c1⟩ := h.cell
  have hl := h.look s
  obtain ⟨A, c, hv, hc, _⟩ := Kd.R_reads (h.rrows s)
  rw [hv] at hl
  go_enter Try.func15, Try.ntmps15
  go_wp2_with (go_at_call 25; (with_reducible refine (ok_calls N M _ c1).mono ?_); rintro e w' ⟨rfl, rfl⟩)
  go_ret
  exact ⟨rfl, rfl⟩
set_option maxHeartbeats 400000 in
set_option maxRecDepth 100000 in
theorem room_calls (h : NetG w N M room B own G Q) : Calls Try.prog 24 #[.pointer (some ⟨N, 0, none⟩)] w fun e w' => e = .returned (.int .i64 room) ∧ w' = w := by
  obtain ⟨c0, c1⟩ := h.cell
  go_enter Try.func24, Try.ntmps24
  go_wp2_with (go_at_call 25; (with_reducible refine (ok_calls N M _ c1).mono ?_); rintro e w' ⟨rfl, rfl⟩)
  go_ret
  exact ⟨rfl, rfl⟩
end
set_option maxHeartbeats 400000 in
set_option maxRecDepth 100000 in
theorem new_bad (room : Int) (w : World) (h : ¬(1 ≤ room ∧ room ≤ 256)) : Calls Try.prog 7 #[.int .i64 room] w fun e w' => e = .returned (.tuple #[.pointer none, .int .i64 1]) ∧ w' = w := by
  by_cases h1 : room < 1
  · clear h
    go_enter Try.func7, Try.ntmps7
    go_wp2
    go_ret2
    exact ⟨rfl, rfl⟩
  · have h2 : room > 256 := by omega
    clear h
    go_enter Try.func7, Try.ntmps7
    go_wp2
    go_ret2
    exact ⟨rfl, rfl⟩
set_option maxHeartbeats 400000 in
set_option maxRecDepth 100000 in
theorem new_calls (room : Int) (w : World) (h1 : 1 ≤ room) (h2 : room ≤ 256) : Calls Try.prog 7 #[.int .i64 room] w fun e w' => ∃ N M, e = .returned (.tuple #[.pointer (some ⟨N, 0, none⟩), .int .i64 0]) ∧ NetG w' N M room w.heap.size (fun _ => none) (fun _ => none) (fun _ => []) ∧ Below w.heap.size w w' ∧ N < w'.heap.size ∧ M < w'.heap.size := by
  have hmm := @run_makeMap Try.prog
  have a1 : ¬ room < 1 := by omega
  have a2 : ¬ room > 256 := by omega
  go_enter Try.func7, Try.ntmps7
  go_wp2
  go_ret2
  have hb : ((w.alloc (.map #[] 0)).alloc (.cells #[.int .i64 room, .map (some w.heap.size)] 62)).heap[w.heap.size + 1]? = some (.cells #[.int .i64 room, .map (some w.heap.size)] 62 (0, 0)) := by
    show ((w.heap.push _).push _)[w.heap.size + 1]? = _
    rw [Array.getElem?_push, if_pos (by simp)]
  have hm : MapF ((w.alloc (.map #[] 0)).alloc (.cells #[.int .i64 room, .map (some w.heap.size)] 62)) w.heap.size (fun _ => none) := (MapF.made w).move ((MapKept.heap_alloc _ _).2 _ (by show _ < (w.heap.push _).size; simp))
  have hn : NetG ((w.alloc (.map #[] 0)).alloc (.cells #[.int .i64 room, .map (some w.heap.size)] 62)) (w.heap.size + 1) w.heap.size room w.heap.size (fun _ => none) (fun _ => none) (fun _ => []) :=
    ⟨hb, hm, fun s => Kd.S_nil _ _ _ _ _, h1, h2, fun s => by simp; omega, by omega, Nat.le_refl _, (fun k s e => by cases e), rfl, rfl, fun s x hx => by cases hx⟩
  exact ⟨_, rfl, _, hn, below_alloc (below_alloc (Below.refl _ _) _) _, heap_lt hb, hm.lt⟩
end Go.Proofs.Ytlnipfmgdkiboaa.N
/- The network by hand: find. -/
namespace Go.Proofs.Ytlnipfmgdkiboaa.N
open Go.RowKit Go.Proofs.Ytlnipfmgdkiboaa.Q Go.Proofs.YtlnipfmgdkiboaaW.PrintWords Go.Proofs.YtlnipfmgdkiboaaW.PrintLast Go.Proofs.YtlnipfmgdkiboaaW.PrintMore
set_option linter.unusedVariables false
set_option linter.unusedSimpArgs false
section
variable {w : World} {N M : Nat} {room : Int} {B : Nat} {own : Nat → Option ByteArray} {G : ByteArray → Option Value} {Q : ByteArray → List S34}
set_option maxHeartbeats 1000000 in
set_option maxRecDepth 100000 in
theorem find_out (h : NetG w N M room B own G Q) (s : ByteArray) (i : Int) (hi : ¬(0 ≤ i ∧ i < (Q s).length)) :
    Calls Try.prog 28 #[.pointer (some ⟨N, 0, none⟩), .string s, .int .i64 i] w fun e w' => e = .returned (.tuple #[.agg #[.int .i64 0, .slice none 0 0], .int .i64 4]) ∧ Below w.heap.size w w' := by
  obtain ⟨c0, c1⟩ := h.cell
  have c1a := fun o => Go.Lib.cell?_alloc_some (W := w) o c1
  have hal : ∀ o, (Instr.lookup 60 (.map (some M)) (.string s) false).run Try.prog (w.alloc o) = .ok ((G s).getD (.slice none 0 0)) (w.alloc o) := fun o => (h.below (below_alloc (Below.refl _ _) o)).look s
  obtain ⟨A, c, hv, hc, _⟩ := Kd.R_reads (h.rrows s)
  rw [hv] at hal
  have hcond : i < 0 ∨ (¬ i < 0 ∧ i ≥ ((Q s).length : Int)) := by omega
  clear hi
  generalize (Q s).length = n at *
  rcases hcond with hi | ⟨hi, hi2⟩
  · go_enter Try.func28, Try.ntmps28
    go_wp2_with (go_at_call 25; (with_reducible refine (ok_calls N M _ (c1a _)).mono ?_); rintro e w' ⟨rfl, rfl⟩)
    refine bodyPost_ret (results_ct rfl _ _ w.heap.size 34 #[.int .i64 0, .slice none 0 0] (0, 0) _ rfl (blk_new w _) Try.underlying34 rfl (by kernel_rfl)) rfl ?_
    exact ⟨rfl, below_alloc (Below.refl _ _) _⟩
  · go_enter Try.func28, Try.ntmps28
    go_wp2_with (go_at_call 25; (with_reducible refine (ok_calls N M _ (c1a _)).mono ?_); rintro e w' ⟨rfl, rfl⟩)
    refine bodyPost_ret (results_ct rfl _ _ w.heap.size 34 #[.int .i64 0, .slice none 0 0] (0, 0) _ rfl (blk_new w _) Try.underlying34 rfl (by kernel_rfl)) rfl ?_
    exact ⟨rfl, below_alloc (Below.refl _ _) _⟩
theorem elem_at (h : NetG w N M room B own G Q) (s : ByteArray) (i : Int) (h0 : 0 ≤ i) (h1 : i < (Q s).length) {f : Nat → Nat} (hf : (Kd.tag f k34).R 34 w B (fun k => own k = some s) ((G s).getD (.slice none 0 0)) (Q s).zipIdx) : ∃ g c A1 c1, (G s).getD (.slice none 0 0) = .slice (some ⟨g, 0, none⟩) (Q s).length c ∧
    w.cell? ⟨g, i.toNat * 2, none⟩ = some (.int .i64 ((Q s).getD i.toNat z34).f0) ∧ w.cell? ⟨g, i.toNat * 2 + 1, none⟩ = some (.slice A1 ((Q s).getD i.toNat z34).f1.length c1) ∧ k34.M w B (fun k => own k = some s ∧ f k = i.toNat) ((Q s).getD i.toNat z34) [.int .i64 ((Q s).getD i.toNat z34).f0, .slice A1 ((Q s).getD i.toNat z34).f1.length c1] ∧ g < w.heap.size ∧ own g = some s := by
  have hl0 : (Q s).zipIdx.length = (Q s).length := List.length_zipIdx
  have hr := hf
  obtain ⟨g, c, hv, _, hg, _⟩ := Kd.R_form hr (by omega)
  rw [hl0] at hv
  rw [hv] at hr
  obtain ⟨cs, hl, hM0, hcell, _⟩ := Kd.R_elem hr (z34, 0) i h0 h1
  have hz : (Q s).zipIdx.getD i.toNat (z34, 0) = ((Q s).getD i.toNat z34, i.toNat) := by
    rw [List.getD_eq_getElem?_getD, List.getElem?_zipIdx, List.getElem?_eq_getElem (by omega), List.getD_eq_getElem?_getD, List.getElem?_eq_getElem (by omega), Nat.zero_add]
    rfl
  rw [hz] at hM0
  have hM : k34.M w B (fun k => (own k = some s ∧ k ≠ g) ∧ f k = i.toNat) ((Q s).getD i.toNat z34) cs := hM0
  obtain ⟨v1, rfl, hv1⟩ := k34_openM hM
  obtain ⟨A1, c1, rfl⟩ := Kd.R_slice hv1
  refine ⟨g, c, A1, c1, hv, ?_, ?_, k34.M_mono (fun _ hk => ⟨hk.1.1, hk.2⟩) hM, hg, hr.1 g (by simp [Value.ownBlock])⟩
  · exact hcell 0 _ rfl
  · exact hcell 1 _ rfl
set_option maxHeartbeats 1000000 in
set_option maxRecDepth 100000 in
theorem find_sep (h : NetG w N M room B own G Q) (s : ByteArray) (i : Int) (h0 : 0 ≤ i) (h1 : i < (Q s).length) {f : Nat → Nat} (hf : (Kd.tag f k34).R 34 w B (fun k => own k = some s) ((G s).getD (.slice none 0 0)) (Q s).zipIdx) :
    Calls Try.prog 28 #[.pointer (some ⟨N, 0, none⟩), .string s, .int .i64 i] w fun e w' => ∃ A1 c1, e = .returned (.tuple #[.agg #[.int .i64 ((Q s).getD i.toNat z34).f0, .slice A1 ((Q s).getD i.toNat z34).f1.length c1], .int .i64 0]) ∧ k34.M w B (fun k => own k = some s ∧ f k = i.toNat) ((Q s).getD i.toNat z34) [.int .i64 ((Q s).getD i.toNat z34).f0, .slice A1 ((Q s).getD i.toNat z34).f1.length c1] ∧ Below w.heap.size w w' := by
  obtain ⟨c0, c1⟩ := h.cell
  have c1a := fun o => Go.Lib.cell?_alloc_some (W := w) o c1
  have hal : ∀ o, (Instr.lookup 60 (.map (some M)) (.string s) false).run Try.prog (w.alloc o) = .ok ((G s).getD (.slice none 0 0)) (w.alloc o) := fun o => (h.below (below_alloc (Below.refl _ _) o)).look s
  obtain ⟨g, c, A1, c1', hv, x0, x1, hM, hg, _⟩ := elem_at h s i h0 h1 hf
  rw [hv] at hal
  have x0a := fun o => Go.Lib.cell?_alloc_some (W := w) o x0
  have x1a := fun o => Go.Lib.cell?_alloc_some (W := w) o x1
  have HM := Aside0.mk hM
  clear hM hf
  generalize (Q s).getD i.toNat z34 = x at *
  have hi0 : ¬ i < 0 := by omega
  have hi1 : ¬ i ≥ ((Q s).length : Int) := by omega
  clear h1
  generalize (Q s).length = n at *
  go_enter Try.func28, Try.ntmps28
  go_wp2_with (go_at_call 25; (with_reducible refine (ok_calls N M _ (c1a _)).mono ?_); rintro e w' ⟨rfl, rfl⟩)
  refine bodyPost_ret (results_ct rfl _ _ w.heap.size 34 #[.int .i64 x.f0, .slice A1 x.f1.length c1'] (0, 0) _ rfl (blk_new w _) Try.underlying34 rfl (by kernel_rfl)) rfl ?_
  exact ⟨_, _, rfl, HM.out, below_alloc (Below.refl _ _) _⟩
theorem find_in (h : NetG w N M room B own G Q) (s : ByteArray) (i : Int) (h0 : 0 ≤ i) (h1 : i < (Q s).length) :
    Calls Try.prog 28 #[.pointer (some ⟨N, 0, none⟩), .string s, .int .i64 i] w fun e w' => ∃ A1 c1, e = .returned (.tuple #[.agg #[.int .i64 ((Q s).getD i.toNat z34).f0, .slice A1 ((Q s).getD i.toNat z34).f1.length c1], .int .i64 0]) ∧ k34.M w B (fun k => own k = some s) ((Q s).getD i.toNat z34) [.int .i64 ((Q s).getD i.toNat z34).f0, .slice A1 ((Q s).getD i.toNat z34).f1.length c1] ∧ Below w.heap.size w w' := by
  obtain ⟨f, hf⟩ := h.rows s
  exact (find_sep h s i h0 h1 hf).mono fun e w' ⟨A1, c1, he, hM, hb⟩ => ⟨A1, c1, he, k34.M_mono (fun _ hk => hk.1) hM, hb⟩
end
end Go.Proofs.Ytlnipfmgdkiboaa.N
/- The network by hand: what a letter that is put behind a tenant's leaves. -/
namespace Go.Proofs.Ytlnipfmgdkiboaa.N
open Go.RowKit Go.Proofs.Ytlnipfmgdkiboaa.Q Go.Proofs.YtlnipfmgdkiboaaW.PrintWords Go.Proofs.YtlnipfmgdkiboaaW.PrintLast Go.Proofs.YtlnipfmgdkiboaaW.PrintMore
set_option linter.unusedVariables false
set_option linter.unusedSimpArgs false
/-- A row's block is of its type. -/
theorem typed_ne {α : Type} {d : Kd α} {e t : Nat} {w : World} {base : Nat} {ok : Nat → Prop} {v : Value} {xs : List α} (h : d.R e w base ok v xs) {k : Nat} (hk : some k = v.ownBlock) (hne : e ≠ t) {cells : Array Value} (hc : w.heap[k]? = some (.cells cells t (0, 0))) : False := by
  obtain ⟨cs, h1⟩ := Kd.R_typed h k hk.symm
  rw [h1] at hc
  injection hc with hc
  injection hc with _ hc
  exact hne hc
/-- Whose the blocks are when a tenant's have been made between two worlds. -/
def ownNew (own : Nat → Option ByteArray) (s : ByteArray) (a b : Nat) : Nat → Option ByteArray := fun k => if a ≤ k ∧ k < b then some s else own k
/-- A tenant's letters are others. -/
def setQ (Q : ByteArray → List S34) (s : ByteArray) (l : List S34) : ByteArray → List S34 := fun t => if t = s then l else Q t
section
variable {w : World} {N M : Nat} {room : Int} {B : Nat} {own : Nat → Option ByteArray} {G : ByteArray → Option Value} {Q : ByteArray → List S34}
/-- A tenant's row is another one: whatever has been made of new blocks and of the tenant's own. -/
theorem turned (h : NetG w N M room B own G Q) (s : ByteArray) {w3 w4 : World} (v2 : Value) (l : List S34) (G' : ByteArray → Option Value)
    (hc : Chg (fun k => own k = some s) w w3) (hR : Kd.S k34 34 w3 B (fun k => own k = some s ∨ w.heap.size ≤ k) v2 l) (hl : (l.length : Int) ≤ room) (hsh : ∀ x ∈ l, x.f1.length < 140737488355328)
    (hm : MapF w4 M G') (hG : ∀ t, (G' t).getD (.slice none 0 0) = if t = s then v2 else (G t).getD (.slice none 0 0)) (e1 : w4.os = w3.os) (e2 : w4.tape = w3.tape) (e3 : w4.output = w3.output) (e4 : w4.heap.size = w3.heap.size) (e5 : ∀ k, k ≠ M → w4.heap[k]? = w3.heap[k]?) :
    NetG w4 N M room B (ownNew own s w.heap.size w4.heap.size) G' (setQ Q s l) ∧ Chg (fun k => k = M ∨ own k = some s) w w4 := by
  have hMl := h.map.lt
  have hC4 : Chg (fun k => k = M ∨ own k = some s) w w4 := ⟨e1.trans hc.os, e2.trans hc.tape, e3.trans hc.output, by rw [e4]; exact hc.size, fun k hk hn => (e5 k (fun e => hn (.inl e))).trans (hc.block k hk (fun e => hn (.inr e))), fun k cells hk => (e5 k (fun e => by
    obtain ⟨ma, clk, hb, _⟩ := h.map
    rw [e, hb] at hk
    cases hk)).trans (hc.five k cells hk)⟩
  have hold : ∀ k, k < w.heap.size → ownNew own s w.heap.size w4.heap.size k = own k := fun k hk => by
    unfold ownNew
    rw [if_neg (by omega)]
  refine ⟨⟨?_, hm, fun t => ?_, h.room1, h.room2, fun t => ?_, h.baseN, h.baseM, fun k t hk => ?_, ?_, ?_, fun t x hx => ?_⟩, hC4⟩
  · exact (hC4.block N (heap_lt h.cells) (fun e => by
      rcases e with e | e
      · exact h.ne e
      · rw [h.notN] at e; cases e)).trans h.cells
  · rw [hG t]
    unfold setQ
    by_cases hts : t = s
    · subst hts
      rw [if_pos rfl, if_pos rfl]
      have h1 : Kd.S k34 34 w4 B (fun k => own k = some t ∨ w.heap.size ≤ k) v2 l := Kd.S_step hR (fun k hk hlt => e5 k (fun e => by
        subst e
        rcases hk with hk | hk
        · rw [h.notM] at hk; cases hk
        · omega))
      refine Kd.S_mono (Kd.S_bound h1) (fun k hk => ?_)
      unfold ownNew
      by_cases hkl : w.heap.size ≤ k
      · rw [if_pos ⟨hkl, hk.2.2.1⟩]
      · rw [if_neg (by omega)]
        rcases hk.1 with h2 | h2
        · exact h2
        · exact absurd h2 hkl
    · rw [if_neg hts, if_neg hts]
      have h1 : Kd.S k34 34 w4 B (fun k => own k = some t ∧ k < w.heap.size) ((G t).getD (.slice none 0 0)) (Q t) := Kd.S_step (Kd.S_mono (Kd.S_bound (h.rows t)) (fun k hk => ⟨hk.1, hk.2.2.1⟩)) (fun k hk hlt => hC4.block k hlt (fun e => by
        rcases e with e | e
        · subst e; have := hk.1; rw [h.notM] at this; cases this
        · have := hk.1; rw [e] at this; exact hts (Option.some.inj this).symm))
      exact Kd.S_mono h1 (fun k hk => (hold k hk.2).trans hk.1)
  · unfold setQ
    by_cases hts : t = s
    · rw [if_pos hts]; exact hl
    · rw [if_neg hts]; exact h.few t
  · unfold ownNew at hk
    by_cases hkl : w.heap.size ≤ k ∧ k < w4.heap.size
    · have := h.baseM
      exact ⟨by omega, hkl.2⟩
    · rw [if_neg hkl] at hk
      exact ⟨(h.lt k t hk).1, Nat.lt_of_lt_of_le (h.lt k t hk).2 hC4.size⟩
  · exact (hold N (heap_lt h.cells)).trans h.notN
  · exact (hold M hMl).trans h.notM
  · unfold setQ at hx
    by_cases hts : t = s
    · rw [if_pos hts] at hx; exact hsh x hx
    · rw [if_neg hts] at hx; exact h.short t x hx
/-- A tenant may own less. -/
theorem NetG.thin (h : NetG w N M room B own G Q) (s : ByteArray) (T : Nat → Prop) [DecidablePred T] (hT : ∀ k, T k → own k = some s) (hS : Kd.S k34 34 w B (fun k => own k = some s ∧ ¬ T k) ((G s).getD (.slice none 0 0)) (Q s)) : NetG w N M room B (fun k => if T k then none else own k) G Q where
  cells := h.cells
  map := h.map
  rows := fun t => by
    by_cases hts : t = s
    · subst hts
      exact Kd.S_mono hS (fun k hk => by rw [if_neg hk.2]; exact hk.1)
    · refine Kd.S_mono (h.rows t) (fun k hk => ?_)
      have hk' : own k = some t := hk
      rw [if_neg (fun e => by have := hT k e; rw [hk'] at this; exact hts (Option.some.inj this))]
      exact hk'
  room1 := h.room1
  room2 := h.room2
  few := h.few
  baseN := h.baseN
  baseM := h.baseM
  lt := fun k t hk => by
    by_cases hk2 : T k
    · rw [if_pos hk2] at hk; cases hk
    · rw [if_neg hk2] at hk; exact h.lt k t hk
  notN := by
    by_cases hk2 : T N
    · rw [if_pos hk2]
    · rw [if_neg hk2]; exact h.notN
  notM := by
    by_cases hk2 : T M
    · rw [if_pos hk2]
    · rw [if_neg hk2]; exact h.notM
  short := h.short
end
end Go.Proofs.Ytlnipfmgdkiboaa.N
