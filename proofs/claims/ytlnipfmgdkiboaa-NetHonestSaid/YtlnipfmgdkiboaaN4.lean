/- The network by hand: what a letter that is put behind a tenant's leaves. -/
import Derived.Test.YtlnipfmgdkiboaaN3
namespace Go.Proofs.Ytlnipfmgdkiboaa.N
open Go.RowKit Go.Proofs.Ytlnipfmgdkiboaa.Q Go.Proofs.YtlnipfmgdkiboaaW.PrintWords Go.Proofs.YtlnipfmgdkiboaaW.PrintLast Go.Proofs.YtlnipfmgdkiboaaW.PrintMore
set_option linter.unusedVariables false
set_option linter.unusedSimpArgs false
/-- A row's block is of its type. -/
theorem typed_ne {α : Type} {d : Kd α} {e t : Nat} {w : World} {base : Nat} {ok : Nat → Prop} {v : Value} {xs : List α} (h : d.R e w base ok v xs) {k : Nat} (hk : some k = v.ownBlock) (hne : e ≠ t) {cells : Array Value} (hc : w.heap[k]? = some (.cells cells t (0, 0))) : False := by
  obtain ⟨cs, h1⟩ := Kd.R_typed h k hk.symm
  rw [h1] at hc
  injection hc with hc
  injection hc with _ hc
  exact hne hc
/-- Whose the blocks are when a tenant's have been made between two worlds. -/
def ownNew (own : Nat → Option ByteArray) (s : ByteArray) (a b : Nat) : Nat → Option ByteArray := fun k => if a ≤ k ∧ k < b then some s else own k
/-- A tenant's letters are others. -/
def setQ (Q : ByteArray → List S34) (s : ByteArray) (l : List S34) : ByteArray → List S34 := fun t => if t = s then l else Q t
section
variable {w : World} {N M : Nat} {room : Int} {B : Nat} {own : Nat → Option ByteArray} {G : ByteArray → Option Value} {Q : ByteArray → List S34}
/-- A tenant's row is another one: whatever has been made of new blocks and of the tenant's own. -/
theorem turned (h : NetG w N M room B own G Q) (s : ByteArray) {w3 w4 : World} (v2 : Value) (l : List S34) (G' : ByteArray → Option Value)
    (hc : Chg (fun k => own k = some s) w w3) (hR : k34.R 34 w3 B (fun k => own k = some s ∨ w.heap.size ≤ k) v2 l) (hl : (l.length : Int) ≤ room) (hsh : ∀ x ∈ l, x.f1.length < 140737488355328)
    (hm : MapF w4 M G') (hG : ∀ t, (G' t).getD (.slice none 0 0) = if t = s then v2 else (G t).getD (.slice none 0 0)) (e1 : w4.os = w3.os) (e2 : w4.tape = w3.tape) (e3 : w4.output = w3.output) (e4 : w4.heap.size = w3.heap.size) (e5 : ∀ k, k ≠ M → w4.heap[k]? = w3.heap[k]?) :
    NetG w4 N M room B (ownNew own s w.heap.size w4.heap.size) G' (setQ Q s l) ∧ Chg (fun k => k = M ∨ own k = some s) w w4 := by
  have hMl := h.map.lt
  have hC4 : Chg (fun k => k = M ∨ own k = some s) w w4 := ⟨e1.trans hc.os, e2.trans hc.tape, e3.trans hc.output, by rw [e4]; exact hc.size, fun k hk hn => (e5 k (fun e => hn (.inl e))).trans (hc.block k hk (fun e => hn (.inr e))), fun k cells hk => (e5 k (fun e => by
    obtain ⟨ma, clk, hb, _⟩ := h.map
    rw [e, hb] at hk
    cases hk)).trans (hc.five k cells hk)⟩
  have hold : ∀ k, k < w.heap.size → ownNew own s w.heap.size w4.heap.size k = own k := fun k hk => by
    unfold ownNew
    rw [if_neg (by omega)]
  refine ⟨⟨?_, hm, fun t => ?_, h.room1, h.room2, fun t => ?_, h.baseN, h.baseM, fun k t hk => ?_, ?_, ?_, fun t x hx => ?_⟩, hC4⟩
  · exact (hC4.block N (heap_lt h.cells) (fun e => by
      rcases e with e | e
      · exact h.ne e
      · rw [h.notN] at e; cases e)).trans h.cells
  · rw [hG t]
    unfold setQ
    by_cases hts : t = s
    · subst hts
      rw [if_pos rfl, if_pos rfl]
      have h1 : k34.R 34 w4 B (fun k => own k = some t ∨ w.heap.size ≤ k) v2 l := Kd.R_step hR (fun k hk hlt => e5 k (fun e => by
        subst e
        rcases hk with hk | hk
        · rw [h.notM] at hk; cases hk
        · omega))
      refine Kd.R_mono (Kd.R_bound h1) (fun k hk => ?_)
      unfold ownNew
      by_cases hkl : w.heap.size ≤ k
      · rw [if_pos ⟨hkl, hk.2.2.1⟩]
      · rw [if_neg (by omega)]
        rcases hk.1 with h2 | h2
        · exact h2
        · exact absurd h2 hkl
    · rw [if_neg hts, if_neg hts]
      have h1 : k34.R 34 w4 B (fun k => own k = some t ∧ k < w.heap.size) ((G t).getD (.slice none 0 0)) (Q t) := Kd.R_step (Kd.R_mono (Kd.R_bound (h.rows t)) (fun k hk => ⟨hk.1, hk.2.2.1⟩)) (fun k hk hlt => hC4.block k hlt (fun e => by
        rcases e with e | e
        · subst e; have := hk.1; rw [h.notM] at this; cases this
        · have := hk.1; rw [e] at this; exact hts (Option.some.inj this).symm))
      exact Kd.R_mono h1 (fun k hk => (hold k hk.2).trans hk.1)
  · unfold setQ
    by_cases hts : t = s
    · rw [if_pos hts]; exact hl
    · rw [if_neg hts]; exact h.few t
  · unfold ownNew at hk
    by_cases hkl : w.heap.size ≤ k ∧ k < w4.heap.size
    · have := h.baseM
      exact ⟨by omega, hkl.2⟩
    · rw [if_neg hkl] at hk
      exact ⟨(h.lt k t hk).1, Nat.lt_of_lt_of_le (h.lt k t hk).2 hC4.size⟩
  · exact (hold N (heap_lt h.cells)).trans h.notN
  · exact (hold M hMl).trans h.notM
  · unfold setQ at hx
    by_cases hts : t = s
    · rw [if_pos hts] at hx; exact hsh x hx
    · rw [if_neg hts] at hx; exact h.short t x hx
end
end Go.Proofs.Ytlnipfmgdkiboaa.N
