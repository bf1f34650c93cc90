import Derived.Test.YtkdbojaoaldmbaaG14
/- The disk by hand: two disks beside each other; acts within the reach. -/
namespace Go.Proofs.Ytkdbojaoaldmbaa.G
open Go.RowKit Go.Proofs.Ytkdbojaoaldmbaa.Q Go.Proofs.YtkdbojaoaldmbaaW.PrintWords Go.Proofs.YtkdbojaoaldmbaaW.PrintLast Go.Proofs.YtkdbojaoaldmbaaW.PrintMore
set_option linter.unusedVariables false
set_option linter.unusedSimpArgs false
/-- Calls within the reach. -/
def OkOp (n t : ByteArray) (x : List Int) : Prop := n.size ≤ 9223372036854775807 ∧ t.size ≤ 9223372036854775807 ∧ x.length < 140737488355328
def OkOps (l : List S31) : Prop := l.length ≤ 140737488355328 ∧ ∀ x ∈ l, OkOp x.f1 x.f2 x.f3
theorem OkOps.len {l : List S31} (h : OkOps l) : l.length ≤ 140737488355328 := And.left h
theorem OkOp.nm {n t : ByteArray} {x : List Int} (h : OkOp n t x) : n.size ≤ 9223372036854775807 := And.left h
theorem OkOp.tt {n t : ByteArray} {x : List Int} (h : OkOp n t x) : t.size ≤ 9223372036854775807 := And.left (And.right h)
theorem OkOp.bl {n t : ByteArray} {x : List Int} (h : OkOp n t x) : x.length < 140737488355328 := And.right (And.right h)
theorem OkOps.at_ {l : List S31} (h : OkOps l) {i : Nat} (hi : i < l.length) : OkOp (rd_T31 l (i : Int)).f1 (rd_T31 l (i : Int)).f2 (rd_T31 l (i : Int)).f3 := by
  refine h.2 _ ?_
  unfold rd_T31
  rw [Int.toNat_natCast, List.getD_eq_getElem?_getD, List.getElem?_eq_getElem hi]
  exact List.getElem_mem hi
section
variable {w w' w1 w2 : World} {D M B D2 M2 B2 : Nat} {room r2 : Int} {dat dat' dat1 dat2 : Nat → Prop} {fs fs1 fs2 : ByteArray → Option Raw} {st st' st1 st2 : St}
theorem DiskG.tight (h : DiskG w D M room B dat fs st) : DiskG w D M room B (fun k => dat k ∧ B ≤ k) fs st where
  cells := h.cells
  files := ⟨⟨h.files.none_, fun s r f h1 h2 => by
    have := h.files.some_ s r f h1 h2
    exact ⟨this.cells, this.row, this.cap, fun ad e => by obtain ⟨g1, g2, g3⟩ := this.data ad e; exact ⟨⟨g1, g2⟩, g2, g3⟩, this.base, this.low, this.high⟩, h.files.inj, h.files.sorted, h.files.names, fun k hk => h.files.rows5 k hk.1⟩, h.files.map, h.files.baseM⟩
  baseD := h.baseD
  room0 := h.room0
  room1 := h.room1
  fit := h.fit
  few := h.few
theorem DiskG.mine_ge (h : DiskG w D M room B dat fs st) {k : Nat} (hk : Mine D M fs k) : B ≤ k ∧ k < w.heap.size := by
  rcases hk with e | e | ⟨s, r, hs, e⟩
  · subst e; exact ⟨h.baseD, heap_lt h.cells⟩
  · subst e; exact ⟨h.files.baseM, h.files.map.lt⟩
  · subst e
    refine ⟨?_, h.files.lt hs⟩
    rcases h.files.at_ s with ⟨h1, _⟩ | ⟨r', f, h1, _, hf⟩
    · rw [h1] at hs; cases hs
    · rw [h1] at hs; cases hs; exact hf.base
theorem DiskG.base_lt (h : DiskG w D M room B dat fs st) : B < w.heap.size := Nat.lt_of_le_of_lt h.baseD (heap_lt h.cells)
theorem Chg.below_mine (h : DiskG w D M room B dat fs st) (hc : Chg (Mine D M fs) w w') : Below B w w' :=
  ⟨hc.os, hc.tape, hc.output, hc.size, fun k hk => hc.block k (Nat.lt_trans hk h.base_lt) (fun hm => by have := (h.mine_ge hm).1; omega)⟩
theorem DiskG.beside (h2 : DiskG w D2 M2 r2 B2 dat2 fs2 st2) {S : Nat → Prop} (hc : Chg S w w') (hS : ∀ k, S k → k < B2) : DiskG w' D2 M2 r2 B2 (fun k => dat2 k ∧ B2 ≤ k) fs2 st2 :=
  h2.tight.move hc.size (fun k hk hm => hc.block k hk (fun hs => by
    have h1 := hS k hs
    rcases hm with hm | hm
    · have := (h2.mine_ge hm).1; omega
    · have := hm.2; omega))
theorem refused {d : Int} {n t : ByteArray} {x : List Int} {k : Int} (h : opE room st d n t x k ≠ 0) : opS room st d n t x k = st := by
  unfold opE at h
  unfold opS
  by_cases d0 : d = 0
  · rw [if_pos d0] at h ⊢
    unfold appendE at h
    unfold appendS
    split
    · rename_i h1
      rw [if_pos h1] at h
      split
      · rfl
      · rename_i h2
        rw [if_neg h2] at h
        split
        · rfl
        · rename_i h3
          rw [if_neg h3] at h; exact absurd rfl h
    · rfl
  rw [if_neg d0] at h ⊢
  by_cases d1 : d = 1
  · rw [if_pos d1] at h ⊢
    unfold syncE at h; unfold syncS
    cases hl : look st n with
    | none => rfl
    | some f => rw [hl] at h; exact absurd rfl h
  rw [if_neg d1] at h ⊢
  by_cases d2 : d = 2
  · rw [if_pos d2] at h ⊢
    unfold cutE at h; unfold cutS
    cases hl : look st n with
    | none => rfl
    | some f =>
      rw [hl] at h
      dsimp only at h ⊢
      split
      · rename_i h1; rw [if_pos h1] at h; exact absurd rfl h
      · rfl
  rw [if_neg d2] at h ⊢
  by_cases d3 : d = 3
  · rw [if_pos d3] at h ⊢
    unfold removeE at h; unfold removeS
    cases hl : look st n with
    | none => rfl
    | some f => rw [hl] at h; exact absurd rfl h
  rw [if_neg d3] at h ⊢
  by_cases d4 : d = 4
  · rw [if_pos d4] at h ⊢
    unfold swapE at h; unfold swapSt
    cases hl : look st n with
    | none => rfl
    | some f =>
      rw [hl] at h
      dsimp only at h ⊢
      split
      · rename_i h1
        rw [if_pos h1] at h
        split
        · rfl
        · rename_i h2; rw [if_neg h2] at h; exact absurd rfl h
      · rfl
  rw [if_neg d4] at h
  exact absurd rfl h
theorem names_at {st : St} (hs : Sorted st) {i : Nat} (hi : i < st.length) : ∃ f, rdOf ByteArray.empty (st.map (·.n)) (i : Int) = f.n ∧ look st f.n = some f ∧ st[i]? = some f := by
  refine ⟨st[i], ?_, look_of_mem hs (List.getElem_mem hi), List.getElem?_eq_getElem hi⟩
  unfold rdOf
  rw [Int.toNat_natCast, List.getD_eq_getElem?_getD, List.getElem?_map, List.getElem?_eq_getElem hi]
  rfl
end
end Go.Proofs.Ytkdbojaoaldmbaa.G
