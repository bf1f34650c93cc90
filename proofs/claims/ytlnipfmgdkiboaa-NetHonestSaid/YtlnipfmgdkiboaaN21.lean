/- The network by hand: what NetHonest keeps, in memory and plainly. -/
import Derived.Test.YtlnipfmgdkiboaaN15
import Derived.Test.YtlnipfmgdkiboaaN18
import Derived.Test.YtlnipfmgdkiboaaN20
import Derived.Deep.MidRow
namespace Go.Proofs.Ytlnipfmgdkiboaa.N
open Go.RowKit Go.Proofs.Ytlnipfmgdkiboaa.Q Go.Proofs.YtlnipfmgdkiboaaW.PrintWords Go.Proofs.YtlnipfmgdkiboaaW.PrintLast Go.Proofs.YtlnipfmgdkiboaaW.PrintMore
set_option linter.unusedVariables false
set_option linter.unusedSimpArgs false
/-- A block that no act turns: none of a tenant's, or one of bytes. -/
def Free (W : World) (M : Nat) (own : Nat → Option ByteArray) (k : Nat) : Prop := (own k = none ∧ k ≠ M) ∨ ∃ cells, W.heap[k]? = some (Obj.cells cells 5 (0, 0))
theorem Free.same {W W' : World} {M : Nat} {own : Nat → Option ByteArray} {k : Nat} (h : Free W M own k) (hk : W'.heap[k]? = W.heap[k]?) : Free W' M own k := h.imp id (fun ⟨c, hc⟩ => ⟨c, hk.trans hc⟩)
theorem Free.left {W W' : World} {N M : Nat} {room : Int} {B : Nat} {own own' : Nat → Option ByteArray} {s : ByteArray} {Q' : ByteArray → List S34} (hl : Left W N M room B own s Q' own' W') {k : Nat} (hk : Free W M own k) (hlt : k < W.heap.size) : W'.heap[k]? = W.heap[k]? ∧ Free W' M own' k := by
  obtain ⟨G', hN, hC, hO⟩ := hl
  rcases hk with ⟨h1, h2⟩ | ⟨c, hc⟩
  · exact ⟨hC.block k hlt (fun e => e.elim h2 (fun e => by rw [h1] at e; cases e)), .inl ⟨(hO k hlt).trans h1, h2⟩⟩
  · exact ⟨hC.five k c hc, .inr ⟨c, (hC.five k c hc).trans hc⟩⟩
/-- The network, and two lists of letters beside it. -/
structure HonM (w W : World) (N M : Nat) (room : Int) (own : Nat → Option ByteArray) (Q : ByteArray → List S34) (vs vt : Value) (sn tk : List S34) : Prop where
  net : ∃ G, NetG W N M room w.heap.size own G Q
  sent : Kd.N k34 34 W w.heap.size (fun k => Free W M own k ∧ some k ≠ vt.ownBlock) vs sn
  took : Kd.N k34 34 W w.heap.size (fun k => Free W M own k ∧ some k ≠ vs.ownBlock) vt tk
  below : Below w.heap.size w W
theorem N_free {W W' : World} {M b : Nat} {own own' : Nat → Option ByteArray} {P : Nat → Prop} {v : Value} {xs : List S34} (h : Kd.N k34 34 W b (fun k => Free W M own k ∧ P k) v xs) (hf : ∀ k, Free W M own k → k < W.heap.size → W'.heap[k]? = W.heap[k]? ∧ Free W' M own' k) : Kd.N k34 34 W' b (fun k => Free W' M own' k ∧ P k) v xs :=
  Kd.N_mono (Kd.N_step (Kd.N_bound h) (fun k hk hlt => (hf k hk.1.1 hlt).1)) (fun k hk => ⟨(hf k hk.1.1 hk.2).2, hk.1.2⟩)
theorem HonM.then_ {w W W' : World} {N M : Nat} {room : Int} {own : Nat → Option ByteArray} {Q : ByteArray → List S34} {vs vt : Value} {sn tk : List S34} (h : HonM w W N M room own Q vs vt sn tk) (hb : Below W.heap.size W W') : HonM w W' N M room own Q vs vt sn tk := by
  obtain ⟨G, hN⟩ := h.net
  exact ⟨⟨G, hN.below hb⟩, N_free h.sent (fun k hk hlt => ⟨hb.block k hlt, hk.same (hb.block k hlt)⟩), N_free h.took (fun k hk hlt => ⟨hb.block k hlt, hk.same (hb.block k hlt)⟩), h.below.trans (hb.mono h.below.size)⟩
theorem HonM.left {w W W' : World} {N M : Nat} {room : Int} {own own' : Nat → Option ByteArray} {Q Q' : ByteArray → List S34} {vs vt : Value} {sn tk : List S34} (h : HonM w W N M room own Q vs vt sn tk) {s : ByteArray} (hl : Left W N M room w.heap.size own s Q' own' W') : HonM w W' N M room own' Q' vs vt sn tk := by
  obtain ⟨G, hN⟩ := h.net
  have hb := hl.below hN h.below rfl
  have hf : ∀ k, Free W M own k → k < W.heap.size → W'.heap[k]? = W.heap[k]? ∧ Free W' M own' k := fun k hk hlt => Free.left hl hk hlt
  have h1 := N_free h.sent hf
  have h2 := N_free h.took hf
  obtain ⟨G', hN', _⟩ := hl
  exact ⟨⟨G', hN'⟩, h1, h2, hb⟩
theorem HonM.fresh {w W : World} {N M : Nat} {room : Int} {own : Nat → Option ByteArray} {Q : ByteArray → List S34} {vs vt : Value} {sn tk : List S34} (h : HonM w W N M room own Q vs vt sn tk) {k : Nat} (hk : W.heap.size ≤ k) : Free W M own k ∧ some k ≠ vs.ownBlock ∧ some k ≠ vt.ownBlock := by
  obtain ⟨G, hN⟩ := h.net
  refine ⟨.inl ⟨?_, fun e => by have := hN.map.lt; omega⟩, fun e => ?_, fun e => ?_⟩
  · cases ho : own k with
    | none => rfl
    | some t => have := (hN.lt k t ho).2; omega
  · have := Kd.N_lt h.sent k e.symm; omega
  · have := Kd.N_lt h.took k e.symm; omega
/-- What was there ahead of all is none of theirs. -/
theorem HonM.elder {w W : World} {N M : Nat} {room : Int} {own : Nat → Option ByteArray} {Q : ByteArray → List S34} {vs vt : Value} {sn tk : List S34} (h : HonM w W N M room own Q vs vt sn tk) {k : Nat} (hk : k < w.heap.size) : Free W M own k ∧ some k ≠ vs.ownBlock ∧ some k ≠ vt.ownBlock := by
  obtain ⟨G, hN⟩ := h.net
  refine ⟨.inl ⟨?_, fun e => by have := hN.baseM; omega⟩, fun e => ?_, fun e => ?_⟩
  · cases ho : own k with
    | none => rfl
    | some t => have := (hN.lt k t ho).1; omega
  · have := Kd.N_base h.sent k e.symm; omega
  · have := Kd.N_base h.took k e.symm; omega
/-- Bytes are none of a row of letters. -/
theorem HonM.bytes {w W : World} {N M : Nat} {room : Int} {own : Nat → Option ByteArray} {Q : ByteArray → List S34} {vs vt : Value} {sn tk : List S34} (h : HonM w W N M room own Q vs vt sn tk) {k : Nat} {cells : Array Value} (hk : W.heap[k]? = some (Obj.cells cells 5 (0, 0))) : Free W M own k ∧ some k ≠ vs.ownBlock ∧ some k ≠ vt.ownBlock :=
  ⟨.inr ⟨cells, hk⟩, Kd.N_ne h.sent hk (by decide), Kd.N_ne h.took hk (by decide)⟩
theorem net_grown {W w1 : World} {N M B : Nat} {room : Int} {own : Nat → Option ByteArray} {G : ByteArray → Option Value} {Q : ByteArray → List S34} (hN : NetG W N M room B own G Q) {v : Value} (hg : W.grownBy w1 v.ownBlock) (hf : ∀ k, v.ownBlock = some k → Free W M own k ∧ ∃ cells, W.heap[k]? = some (Obj.cells cells 34 (0, 0))) : NetG w1 N M room B own G Q :=
  hN.move hg.size (fun k hk hw => hg.block k hk (fun e => by
    obtain ⟨h1, cells, h2⟩ := hf k e.symm
    rcases hw with hw | hw | hw
    · rw [hw, hN.cells] at h2
      injection h2 with h2
      injection h2 with _ h2
      exact absurd h2 (by decide)
    · obtain ⟨ma, clk, h3, _⟩ := hN.map
      rw [hw, h3] at h2
      cases h2
    · rcases h1 with h1 | ⟨c, h1⟩
      · exact hw h1.1
      · rw [h1] at h2
        injection h2 with h2
        injection h2 with _ h2
        exact absurd h2 (by decide)))
theorem below_grown {w W w1 : World} {v : Value} (h : Below w.heap.size w W) (hg : W.grownBy w1 v.ownBlock) (hb : ∀ k, v.ownBlock = some k → w.heap.size ≤ k) : Below w.heap.size w w1 :=
  below_trans_grown h hg (fun k e => hb k e.symm) h.size
/-- The first list has grown. -/
theorem HonM.sent_ {w W w1 : World} {N M : Nat} {room : Int} {own : Nat → Option ByteArray} {Q : ByteArray → List S34} {vs vt v1 : Value} {sn tk sn1 : List S34} (h : HonM w W N M room own Q vs vt sn tk) (hn : Kd.N k34 34 w1 w.heap.size (fun k => Free W M own k ∧ some k ≠ vt.ownBlock) v1 sn1) (hg : W.grownBy w1 vs.ownBlock) (hat : v1.ownBlock = vs.ownBlock ∨ ∃ b, v1.ownBlock = some b ∧ W.heap.size ≤ b) : HonM w w1 N M room own Q v1 vt sn1 tk := by
  obtain ⟨G, hN⟩ := h.net
  have hty : ∀ k, (∃ cells, W.heap[k]? = some (Obj.cells cells 5 (0, 0))) → w1.heap[k]? = W.heap[k]? := fun k ⟨c, hc⟩ => hg.block k (heap_lt hc) (h.bytes hc).2.1
  have hfr : ∀ k, Free W M own k → Free w1 M own k := fun k hk => hk.imp id (fun ⟨c, hc⟩ => ⟨c, (hty k ⟨c, hc⟩).trans hc⟩)
  refine ⟨⟨G, net_grown hN hg (fun k hk => ⟨(h.sent.1 k hk).1, Kd.N_typed h.sent k hk⟩)⟩, Kd.N_mono hn (fun k hk => ⟨hfr k hk.1, hk.2⟩), Kd.N_mono (Kd.N_after h.took hg hat) (fun k hk => ⟨hfr k hk.1, hk.2⟩), below_grown h.below hg (fun k hk => Kd.N_base h.sent k hk)⟩
/-- The second list has grown. -/
theorem HonM.took_ {w W w1 : World} {N M : Nat} {room : Int} {own : Nat → Option ByteArray} {Q : ByteArray → List S34} {vs vt v1 : Value} {sn tk tk1 : List S34} (h : HonM w W N M room own Q vs vt sn tk) (hn : Kd.N k34 34 w1 w.heap.size (fun k => Free W M own k ∧ some k ≠ vs.ownBlock) v1 tk1) (hg : W.grownBy w1 vt.ownBlock) (hat : v1.ownBlock = vt.ownBlock ∨ ∃ b, v1.ownBlock = some b ∧ W.heap.size ≤ b) : HonM w w1 N M room own Q vs v1 sn tk1 := by
  obtain ⟨G, hN⟩ := h.net
  have hty : ∀ k, (∃ cells, W.heap[k]? = some (Obj.cells cells 5 (0, 0))) → w1.heap[k]? = W.heap[k]? := fun k ⟨c, hc⟩ => hg.block k (heap_lt hc) (h.bytes hc).2.2
  have hfr : ∀ k, Free W M own k → Free w1 M own k := fun k hk => hk.imp id (fun ⟨c, hc⟩ => ⟨c, (hty k ⟨c, hc⟩).trans hc⟩)
  refine ⟨⟨G, net_grown hN hg (fun k hk => ⟨(h.took.1 k hk).1, Kd.N_typed h.took k hk⟩)⟩, Kd.N_mono (Kd.N_after h.sent hg hat) (fun k hk => ⟨hfr k hk.1, hk.2⟩), Kd.N_mono hn (fun k hk => ⟨hfr k hk.1, hk.2⟩), below_grown h.below hg (fun k hk => Kd.N_base h.took k hk)⟩
theorem HonM.made {w W : World} {N M : Nat} {room : Int} {own : Nat → Option ByteArray} {G : ByteArray → Option Value} {Q : ByteArray → List S34} (h : NetG W N M room w.heap.size own G Q) (hb : Below w.heap.size w W) : HonM w W N M room own Q (.slice none 0 0) (.slice none 0 0) [] [] := ⟨⟨G, h⟩, Kd.N_nil _ _ _ _ _, Kd.N_nil _ _ _ _ _, hb⟩
theorem F_take {w : World} {ok : Nat → Prop} {A : Option Addr} {n m : Nat} {xs : List S34} (h : Kd.F k34 w ok A n xs) (hm : m ≤ n) : Kd.F k34 w ok A m (xs.take m) := Kd.F_imp h (fun W' hC => by
  have hn : xs.length = n := hC.1
  subst hn
  exact rows_take hC hm)
theorem heap34 : Kd.Heap k34 := Kd.heap_iso _ (Kd.heap_pair (Kd.heap_int _) (Kd.heap_slice 5 (Kd.heap_int _)))
theorem heap31 : Kd.Heap k31 := Kd.heap_iso _ (Kd.heap_pair (Kd.heap_int _) (Kd.heap_pair Kd.heap_string (Kd.heap_pair (Kd.heap_slice 34 heap34) (Kd.heap_int _))))
/-- What NetHonest keeps, plainly. -/
structure HonP (Q : ByteArray → List S34) (st : St) (sn tk : List S34) (many more : Int) (j : Nat) : Prop where
  rep : Rep Q st
  qs : ∀ s x, x ∈ Q s → x ∈ sn
  ts : ∀ x, x ∈ tk → x ∈ sn
  sum : many + more = N.total st
  b1 : many ≤ 300 * j
  b2 : -(300 * j) ≤ many
  b3 : 0 ≤ more ∧ more ≤ j
  b4 : sn.length ≤ 300 * j
  b5 : tk.length ≤ j
  b6 : st.length ≤ j
theorem HonP.nil : HonP (fun _ => []) [] [] [] 0 0 0 := ⟨Rep.nil, fun s x h => (by cases h), fun x h => (by cases h), rfl, by omega, by omega, by omega, by simp, by simp, by simp⟩
theorem HonP.idle {Q : ByteArray → List S34} {st : St} {sn tk : List S34} {many more : Int} {j : Nat} (h : HonP Q st sn tk many more j) : HonP Q st sn tk many more (j + 1) :=
  ⟨h.rep, h.qs, h.ts, h.sum, by have := h.b1; omega, by have := h.b2; omega, by have := h.b3; omega, by have := h.b4; omega, by have := h.b5; omega, by have := h.b6; omega⟩
theorem HonP.send {Q : ByteArray → List S34} {st : St} {sn tk : List S34} {many more : Int} {j : Nat} (h : HonP Q st sn tk many more j) (s : ByteArray) (ls : List S34) (k : Nat) (hk : k ≤ ls.length) (hk2 : k ≤ 256) : HonP (setQ Q s (Q s ++ ls.take k)) (setS st s (Q s ++ ls.take k)) (sn ++ ls.take k) tk (many + k) more (j + 1) := by
  have ht := h.rep.total s (Q s ++ ls.take k)
  have hl : (ls.take k).length = k := by rw [List.length_take]; omega
  rw [List.length_append, hl] at ht
  refine ⟨h.rep.set s _, fun t x hx => ?_, fun x hx => List.mem_append_left _ (h.ts x hx), ?_, by have := h.b1; omega, by have := h.b2; omega, by have := h.b3; omega, by have := h.b4; rw [List.length_append, hl]; omega, by have := h.b5; omega, by have := h.b6; omega⟩
  · unfold setQ at hx
    split at hx
    · rcases List.mem_append.1 hx with hx | hx
      · exact List.mem_append_left _ (h.qs s x hx)
      · exact List.mem_append_right _ hx
    · exact List.mem_append_left _ (h.qs t x hx)
  · have := h.sum; omega
theorem HonP.take {Q : ByteArray → List S34} {st : St} {sn tk : List S34} {many more : Int} {j : Nat} (h : HonP Q st sn tk many more j) (s : ByteArray) (i : Int) (hi : 0 ≤ i ∧ i < (Q s).length) : HonP (takeQ Q s i) (setS st s ((Q s).take i.toNat ++ (Q s).drop (i.toNat + 1))) sn tk (many - 1) more (j + 1) ∧ takeX Q s i ∈ sn := by
  have hin : i.toNat < (Q s).length := by omega
  have ht := h.rep.total s ((Q s).take i.toNat ++ (Q s).drop (i.toNat + 1))
  have hl : ((Q s).take i.toNat ++ (Q s).drop (i.toNat + 1)).length + 1 = (Q s).length := by rw [List.length_append, List.length_take, List.length_drop]; omega
  have hq : takeQ Q s i = setQ Q s ((Q s).take i.toNat ++ (Q s).drop (i.toNat + 1)) := by unfold takeQ; rw [if_pos hi]
  rw [hq]
  refine ⟨⟨h.rep.set s _, fun t x hx => ?_, h.ts, by have := h.sum; omega, by have := h.b1; omega, by have := h.b2; omega, by have := h.b3; omega, by have := h.b4; omega, by have := h.b5; omega, by have := h.b6; omega⟩, ?_⟩
  · unfold setQ at hx
    split at hx
    · rcases List.mem_append.1 hx with hx | hx
      · exact h.qs s x (List.mem_of_mem_take hx)
      · exact h.qs s x (List.mem_of_mem_drop hx)
    · exact h.qs t x hx
  · unfold takeX
    rw [if_pos hi, List.getD_eq_getElem?_getD, List.getElem?_eq_getElem hin]
    exact h.qs s _ (List.getElem_mem hin)
theorem HonP.took {Q : ByteArray → List S34} {st : St} {sn tk : List S34} {many more : Int} {j : Nat} (h : HonP Q st sn tk many more (j + 1)) {x : S34} (hx : x ∈ sn) (hb : tk.length ≤ j) : HonP Q st sn (tk ++ [x]) many more (j + 1) :=
  ⟨h.rep, h.qs, fun y hy => by
    rcases List.mem_append.1 hy with hy | hy
    · exact h.ts y hy
    · rw [List.mem_singleton.1 hy]; exact hx, h.sum, h.b1, h.b2, h.b3, h.b4, by rw [List.length_append]; simp; omega, h.b6⟩
theorem HonP.double {Q : ByteArray → List S34} {st : St} {sn tk : List S34} {many more : Int} {j : Nat} (h : HonP Q st sn tk many more j) (s : ByteArray) (i : Int) (hi : 0 ≤ i ∧ i < (Q s).length) : HonP (setQ Q s (Q s ++ [(Q s).getD i.toNat z34])) (setS st s (Q s ++ [(Q s).getD i.toNat z34])) sn tk many (more + 1) (j + 1) := by
  have hin : i.toNat < (Q s).length := by omega
  have ht := h.rep.total s (Q s ++ [(Q s).getD i.toNat z34])
  rw [List.length_append, List.length_singleton] at ht
  refine ⟨h.rep.set s _, fun t x hx => ?_, h.ts, by have := h.sum; omega, by have := h.b1; omega, by have := h.b2; omega, by have := h.b3; omega, by have := h.b4; omega, by have := h.b5; omega, by have := h.b6; omega⟩
  unfold setQ at hx
  split at hx
  · rcases List.mem_append.1 hx with hx | hx
    · exact h.qs s x hx
    · rw [List.mem_singleton.1 hx, List.getD_eq_getElem?_getD, List.getElem?_eq_getElem hin]
      exact h.qs s _ (List.getElem_mem hin)
  · exact h.qs t x hx
end Go.Proofs.Ytlnipfmgdkiboaa.N
