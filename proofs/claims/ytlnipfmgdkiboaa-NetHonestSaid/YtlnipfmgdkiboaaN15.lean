/- The network by hand: two networks beside each other. -/
import Derived.Test.YtlnipfmgdkiboaaN14
namespace Go.Proofs.Ytlnipfmgdkiboaa.N
open Go.RowKit Go.Proofs.Ytlnipfmgdkiboaa.Q Go.Proofs.YtlnipfmgdkiboaaW.PrintWords Go.Proofs.YtlnipfmgdkiboaaW.PrintLast Go.Proofs.YtlnipfmgdkiboaaW.PrintMore
set_option linter.unusedVariables false
set_option linter.unusedSimpArgs false
theorem NetG.lower {w : World} {N M : Nat} {room : Int} {B B' : Nat} {own : Nat → Option ByteArray} {G : ByteArray → Option Value} {Q : ByteArray → List S34} (h : NetG w N M room B own G Q) (hB : B' ≤ B) : NetG w N M room B' own G Q where
  cells := h.cells
  map := h.map
  rows := fun s => Kd.R_lower (h.rows s) hB
  room1 := h.room1
  room2 := h.room2
  few := h.few
  baseN := Nat.le_trans hB h.baseN
  baseM := Nat.le_trans hB h.baseM
  lt := fun k s hk => ⟨Nat.le_trans hB (h.lt k s hk).1, (h.lt k s hk).2⟩
  notN := h.notN
  notM := h.notM
  short := h.short
/-- Two networks that share nothing. -/
structure Two (w : World) (Na Ma Nb Mb : Nat) (room : Int) (B : Nat) (owna ownb : Nat → Option ByteArray) (Qa Qb : ByteArray → List S34) : Prop where
  a : ∃ G, NetG w Na Ma room B owna G Qa
  b : ∃ G, NetG w Nb Mb room B ownb G Qb
  apart : ∀ k, owna k ≠ none → ownb k = none
  aNb : owna Nb = none
  aMb : owna Mb = none
  bNa : ownb Na = none
  bMa : ownb Ma = none
  n1 : Na ≠ Nb
  n2 : Na ≠ Mb
  n3 : Ma ≠ Nb
  n4 : Ma ≠ Mb
section
variable {w w' : World} {Na Ma Nb Mb : Nat} {room : Int} {B : Nat} {owna ownb : Nat → Option ByteArray} {Qa Qb : ByteArray → List S34}
theorem Two.swap (h : Two w Na Ma Nb Mb room B owna ownb Qa Qb) : Two w Nb Mb Na Ma room B ownb owna Qb Qa :=
  ⟨h.b, h.a, fun k hk => by
    cases ha : owna k with
    | none => rfl
    | some s => exact absurd (h.apart k (by rw [ha]; simp)) hk, h.bNa, h.bMa, h.aNb, h.aMb, h.n1.symm, h.n3.symm, h.n2.symm, h.n4.symm⟩
theorem Two.below (h : Two w Na Ma Nb Mb room B owna ownb Qa Qb) (hb : Below w.heap.size w w') : Two w' Na Ma Nb Mb room B owna ownb Qa Qb := by
  obtain ⟨Ga, ha⟩ := h.a
  obtain ⟨Gb, hb'⟩ := h.b
  exact ⟨⟨Ga, ha.below hb⟩, ⟨Gb, hb'.below hb⟩, h.apart, h.aNb, h.aMb, h.bNa, h.bMa, h.n1, h.n2, h.n3, h.n4⟩
/-- An act of the first leaves the second. -/
theorem Two.left (h : Two w Na Ma Nb Mb room B owna ownb Qa Qb) {s : ByteArray} {Q' : ByteArray → List S34} {own' : Nat → Option ByteArray} (hl : Left w Na Ma room B owna s Q' own' w') : Two w' Na Ma Nb Mb room B own' ownb Q' Qb := by
  obtain ⟨Gb, hb⟩ := h.b
  obtain ⟨G', hN, hC, hO⟩ := hl
  have hNb := heap_lt hb.cells
  have hMb := hb.map.lt
  obtain ⟨Ga, ha⟩ := h.a
  have hNa := heap_lt ha.cells
  have hMa := ha.map.lt
  refine ⟨⟨G', hN⟩, ⟨Gb, hb.move hC.size (fun k hk hw => hC.block k hk (fun e => ?_))⟩, fun k hk => ?_, (hO _ hNb).trans h.aNb, (hO _ hMb).trans h.aMb, h.bNa, h.bMa, h.n1, h.n2, h.n3, h.n4⟩
  · rcases e with e | e
    · subst e
      rcases hw with hw | hw | hw
      · exact h.n3 hw
      · exact h.n4 hw
      · exact hw h.bMa
    · have h1 := h.apart k (by rw [e]; simp)
      rcases hw with hw | hw | hw
      · subst hw; rw [h.aNb] at e; cases e
      · subst hw; rw [h.aMb] at e; cases e
      · exact hw h1
  · by_cases hlt : k < w.heap.size
    · exact h.apart k (by rw [← hO k hlt]; exact hk)
    · cases hbk : ownb k with
      | none => rfl
      | some s => exact absurd (hb.lt k s hbk).2 hlt
theorem Two.leftB (h : Two w Na Ma Nb Mb room B owna ownb Qa Qb) {s : ByteArray} {Q' : ByteArray → List S34} {own' : Nat → Option ByteArray} (hl : Left w Nb Mb room B ownb s Q' own' w') : Two w' Na Ma Nb Mb room B owna own' Qa Q' :=
  (h.swap.left hl).swap
/-- Nothing below their base has turned. -/
theorem Left.below {own' : Nat → Option ByteArray} {s : ByteArray} {G : ByteArray → Option Value} {Q' Q : ByteArray → List S34} (hl : Left w Na Ma room B owna s Q' own' w') (hN : NetG w Na Ma room B owna G Q) {w0 : World} (hb : Below w0.heap.size w0 w) (hB : B = w0.heap.size) : Below w0.heap.size w0 w' := by
  obtain ⟨_, _, hC, _⟩ := hl
  refine hC.onto hb (Nat.le_refl _) (fun k e => ?_)
  rcases e with e | e
  · rw [e, ← hB]; exact hN.baseM
  · rw [← hB]; exact (hN.lt k _ e).1
end
/-- A block that is none of theirs. -/
structure Fr (Na Ma Nb Mb : Nat) (owna ownb : Nat → Option ByteArray) (k : Nat) : Prop where
  a : owna k = none
  b : ownb k = none
  na : k ≠ Na
  ma : k ≠ Ma
  nb : k ≠ Nb
  mb : k ≠ Mb
theorem Fr.swap {Na Ma Nb Mb : Nat} {owna ownb : Nat → Option ByteArray} {k : Nat} (h : Fr Na Ma Nb Mb owna ownb k) : Fr Nb Mb Na Ma ownb owna k := ⟨h.b, h.a, h.nb, h.mb, h.na, h.ma⟩
section
variable {w w' : World} {Na Ma Nb Mb : Nat} {room : Int} {B : Nat} {owna ownb own' : Nat → Option ByteArray} {Qa Qb Q' : ByteArray → List S34} {k : Nat} {s : ByteArray}
theorem Fr.of_ge (h : Two w Na Ma Nb Mb room B owna ownb Qa Qb) (hk : w.heap.size ≤ k) : Fr Na Ma Nb Mb owna ownb k := by
  obtain ⟨Ga, ha⟩ := h.a
  obtain ⟨Gb, hb⟩ := h.b
  have h1 := heap_lt ha.cells
  have h2 := ha.map.lt
  have h3 := heap_lt hb.cells
  have h4 := hb.map.lt
  refine ⟨?_, ?_, by omega, by omega, by omega, by omega⟩
  · cases e : owna k with
    | none => rfl
    | some s => have := (ha.lt k s e).2; omega
  · cases e : ownb k with
    | none => rfl
    | some s => have := (hb.lt k s e).2; omega
theorem Fr.left (f : Fr Na Ma Nb Mb owna ownb k) (hl : Left w Na Ma room B owna s Q' own' w') (hk : k < w.heap.size) : Fr Na Ma Nb Mb own' ownb k ∧ w'.heap[k]? = w.heap[k]? := by
  obtain ⟨G', hN, hC, hO⟩ := hl
  exact ⟨⟨(hO k hk).trans f.a, f.b, f.na, f.ma, f.nb, f.mb⟩, hC.block k hk (fun e => by
    rcases e with e | e
    · exact f.ma e
    · rw [f.a] at e; cases e)⟩
theorem Two.set (h : Two w Na Ma Nb Mb room B owna ownb Qa Qb) (f : Fr Na Ma Nb Mb owna ownb k) (i : Nat) (v : Value) : Two (w.setCell ⟨k, i, none⟩ v) Na Ma Nb Mb room B owna ownb Qa Qb := by
  obtain ⟨Ga, ha⟩ := h.a
  obtain ⟨Gb, hb⟩ := h.b
  refine ⟨⟨Ga, ha.move (by simp) (fun j hj hw => Below.heap_setCell w _ _ j (fun e => ?_))⟩, ⟨Gb, hb.move (by simp) (fun j hj hw => Below.heap_setCell w _ _ j (fun e => ?_))⟩, h.apart, h.aNb, h.aMb, h.bNa, h.bMa, h.n1, h.n2, h.n3, h.n4⟩
  · have e' : j = k := e
    subst e'
    rcases hw with hw | hw | hw
    · exact f.na hw
    · exact f.ma hw
    · exact hw f.a
  · have e' : j = k := e
    subst e'
    rcases hw with hw | hw | hw
    · exact f.nb hw
    · exact f.mb hw
    · exact hw f.b
/-- Within a round: the two, and three boxes. -/
structure Mid (w : World) (room : Int) (Na Ma Nb Mb : Nat) (b1 b2 b3 : Nat) (c1 c2 c3 : Array Value) (owna ownb : Nat → Option ByteArray) (Qa Qb : ByteArray → List S34) (wc : World) : Prop where
  two : Two wc Na Ma Nb Mb room w.heap.size owna ownb Qa Qb
  below : Below w.heap.size w wc
  f1 : Fr Na Ma Nb Mb owna ownb b1
  f2 : Fr Na Ma Nb Mb owna ownb b2
  f3 : Fr Na Ma Nb Mb owna ownb b3
  x1 : wc.heap[b1]? = some (.cells c1 31 (0, 0))
  x2 : wc.heap[b2]? = some (.cells c2 34 (0, 0))
  x3 : wc.heap[b3]? = some (.cells c3 34 (0, 0))
  g1 : w.heap.size ≤ b1
  g2 : w.heap.size ≤ b2
  g3 : w.heap.size ≤ b3
  n12 : b1 ≠ b2
  n13 : b1 ≠ b3
  n23 : b2 ≠ b3
end
section
variable {w wc w' : World} {room : Int} {Na Ma Nb Mb b1 b2 b3 : Nat} {c1 c2 c3 : Array Value} {owna ownb own' : Nat → Option ByteArray} {Qa Qb Q' : ByteArray → List S34} {s : ByteArray}
theorem Mid.of_two (h : Two wc Na Ma Nb Mb room w.heap.size owna ownb Qa Qb) (hb : Below w.heap.size w wc) (c1 c2 c3 : Array Value) :
    Mid w room Na Ma Nb Mb wc.heap.size (wc.heap.size + 1) (wc.heap.size + 1 + 1) c1 c2 c3 owna ownb Qa Qb (((wc.alloc (.cells c1 31)).alloc (.cells c2 34)).alloc (.cells c3 34)) := by
  have hp : (((wc.alloc (.cells c1 31)).alloc (.cells c2 34)).alloc (.cells c3 34)).heap = ((wc.heap.push (.cells c1 31)).push (.cells c2 34)).push (.cells c3 34) := rfl
  have hs := hb.size
  have hbb := below_alloc (below_alloc (below_alloc (Below.refl wc.heap.size wc) (.cells c1 31)) (.cells c2 34)) (.cells c3 34)
  exact ⟨h.below hbb, hb.trans (hbb.mono hs), Fr.of_ge h (Nat.le_refl _), Fr.of_ge h (by omega), Fr.of_ge h (by omega),
    by rw [hp, Array.getElem?_push, if_neg (by simp; omega), Array.getElem?_push, if_neg (by simp), Array.getElem?_push, if_pos rfl],
    by rw [hp, Array.getElem?_push, if_neg (by simp), Array.getElem?_push, if_pos (by simp)],
    by rw [hp, Array.getElem?_push, if_pos (by simp)], hs, by omega, by omega, by omega, by omega, by omega⟩
theorem Mid.left_a (h : Mid w room Na Ma Nb Mb b1 b2 b3 c1 c2 c3 owna ownb Qa Qb wc) (hl : Left wc Na Ma room w.heap.size owna s Q' own' w') : Mid w room Na Ma Nb Mb b1 b2 b3 c1 c2 c3 own' ownb Q' Qb w' := by
  obtain ⟨Ga, ha⟩ := h.two.a
  obtain ⟨f1, e1⟩ := h.f1.left hl (heap_lt h.x1)
  obtain ⟨f2, e2⟩ := h.f2.left hl (heap_lt h.x2)
  obtain ⟨f3, e3⟩ := h.f3.left hl (heap_lt h.x3)
  exact ⟨h.two.left hl, hl.below (Q := Qa) ha h.below rfl, f1, f2, f3, e1.trans h.x1, e2.trans h.x2, e3.trans h.x3, h.g1, h.g2, h.g3, h.n12, h.n13, h.n23⟩
theorem Mid.left_b (h : Mid w room Na Ma Nb Mb b1 b2 b3 c1 c2 c3 owna ownb Qa Qb wc) (hl : Left wc Nb Mb room w.heap.size ownb s Q' own' w') : Mid w room Na Ma Nb Mb b1 b2 b3 c1 c2 c3 owna own' Qa Q' w' := by
  obtain ⟨Gb, hb⟩ := h.two.b
  obtain ⟨f1, e1⟩ := h.f1.swap.left hl (heap_lt h.x1)
  obtain ⟨f2, e2⟩ := h.f2.swap.left hl (heap_lt h.x2)
  obtain ⟨f3, e3⟩ := h.f3.swap.left hl (heap_lt h.x3)
  exact ⟨h.two.leftB hl, hl.below (Q := Qb) hb h.below rfl, f1.swap, f2.swap, f3.swap, e1.trans h.x1, e2.trans h.x2, e3.trans h.x3, h.g1, h.g2, h.g3, h.n12, h.n13, h.n23⟩
theorem Mid.move (h : Mid w room Na Ma Nb Mb b1 b2 b3 c1 c2 c3 owna ownb Qa Qb wc) (hb : Below wc.heap.size wc w') : Mid w room Na Ma Nb Mb b1 b2 b3 c1 c2 c3 owna ownb Qa Qb w' :=
  ⟨h.two.below hb, h.below.trans (hb.mono h.below.size), h.f1, h.f2, h.f3, (hb.block _ (heap_lt h.x1)).trans h.x1, (hb.block _ (heap_lt h.x2)).trans h.x2, (hb.block _ (heap_lt h.x3)).trans h.x3, h.g1, h.g2, h.g3, h.n12, h.n13, h.n23⟩
theorem Mid.set2 (h : Mid w room Na Ma Nb Mb b1 b2 b3 c1 c2 c3 owna ownb Qa Qb wc) (u v : Value) (hc : c2.size = 2) : Mid w room Na Ma Nb Mb b1 b2 b3 c1 #[u, v] c3 owna ownb Qa Qb ((wc.setCell ⟨b2, 0, none⟩ u).setCell ⟨b2, 1, none⟩ v) := by
  have hx := blk_set (blk_set h.x2 0 u) 1 v
  have hcc : (c2.setIfInBounds 0 u).setIfInBounds 1 v = #[u, v] := by
    obtain ⟨l⟩ := c2
    match l, hc with
    | [p, q], _ => rfl
  rw [hcc] at hx
  refine ⟨(h.two.set h.f2 0 u).set h.f2 1 v, (h.below.setCell h.g2 u).setCell h.g2 v, h.f1, h.f2, h.f3, ?_, hx, ?_, h.g1, h.g2, h.g3, h.n12, h.n13, h.n23⟩
  · rw [Below.heap_setCell _ _ _ b1 h.n12, Below.heap_setCell _ _ _ b1 h.n12]; exact h.x1
  · rw [Below.heap_setCell _ _ _ b3 (fun e => h.n23 e.symm), Below.heap_setCell _ _ _ b3 (fun e => h.n23 e.symm)]; exact h.x3
theorem Mid.set3 (h : Mid w room Na Ma Nb Mb b1 b2 b3 c1 c2 c3 owna ownb Qa Qb wc) (u v : Value) (hc : c3.size = 2) : Mid w room Na Ma Nb Mb b1 b2 b3 c1 c2 #[u, v] owna ownb Qa Qb ((wc.setCell ⟨b3, 0, none⟩ u).setCell ⟨b3, 1, none⟩ v) := by
  have hx := blk_set (blk_set h.x3 0 u) 1 v
  have hcc : (c3.setIfInBounds 0 u).setIfInBounds 1 v = #[u, v] := by
    obtain ⟨l⟩ := c3
    match l, hc with
    | [p, q], _ => rfl
  rw [hcc] at hx
  refine ⟨(h.two.set h.f3 0 u).set h.f3 1 v, (h.below.setCell h.g3 u).setCell h.g3 v, h.f1, h.f2, h.f3, ?_, ?_, hx, h.g1, h.g2, h.g3, h.n12, h.n13, h.n23⟩
  · rw [Below.heap_setCell _ _ _ b1 h.n13, Below.heap_setCell _ _ _ b1 h.n13]; exact h.x1
  · rw [Below.heap_setCell _ _ _ b2 h.n23, Below.heap_setCell _ _ _ b2 h.n23]; exact h.x2
end
/-- Two new ones. -/
theorem two_new {w w1 w2 : World} {Na Ma Nb Mb : Nat} {room : Int} {Qa Qb : ByteArray → List S34} (ha : NetG w1 Na Ma room w.heap.size (fun _ => none) (fun _ => none) Qa) (hb : Below w.heap.size w w1) (hc : NetG w2 Nb Mb room w1.heap.size (fun _ => none) (fun _ => none) Qb) (hd : Below w1.heap.size w1 w2) :
    Two w2 Na Ma Nb Mb room w.heap.size (fun _ => none) (fun _ => none) Qa Qb := by
  have h1 := heap_lt ha.cells
  have h2 := ha.map.lt
  have h3 := hc.baseN
  have h4 := hc.baseM
  exact ⟨⟨_, ha.below hd⟩, ⟨_, hc.lower hb.size⟩, fun k h => absurd rfl h, rfl, rfl, rfl, rfl, by omega, by omega, by omega, by omega⟩
end Go.Proofs.Ytlnipfmgdkiboaa.N
