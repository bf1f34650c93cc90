/- The ring by hand: the library's sort of its spots. -/
import Derived.Test.YtibilnohnildcaaR9
namespace Go.Proofs.Ytibilnohnildcaa.R
open Go.Shelf Go.Sort Go.RowKit Go.Proofs.Ytibilnohnildcaa.Q Go.Proofs.YtibilnohnildcaaW.PrintWords Go.Proofs.YtibilnohnildcaaW.PrintLast Go.Proofs.YtibilnohnildcaaW.PrintMore
set_option linter.unusedVariables false
set_option linter.unusedSimpArgs false
open Go.Proofs in
theorem sort_world {w : World} {blk n : Nat} {os : Array Obj} (d : Array N52) : w.grownBy (sortWorldK encN 2 w blk 0 n d os) (some blk) := by
  unfold sortWorldK putRowK
  refine ⟨rfl, rfl, rfl, by simp [Go.Sort.grow, Go.Sort.putRow, Go.Sort.mapBlock, Go.Sort.ahead], fun k hk hne => ?_⟩
  rw [Go.Sort.heap_grow_old _ _ (by simpa [Go.Sort.putRow, Go.Sort.mapBlock, Go.Sort.ahead] using hk)]
  have : blk ≠ k := fun e => hne (by rw [e])
  simp [Go.Sort.putRow, Go.Sort.mapBlock, Go.Sort.ahead, Array.getElem?_modify, this]
theorem holds_row {w : World} {blk : Nat} {SP : List S52} {D : List N52} (hD : D.map (·.1) = SP) (h : k52.C w (some ⟨blk, 0, none⟩) SP.length SP) (hz : ∀ i, w.frozen? ⟨blk, i, none⟩ = false) : HoldsK encN 2 w blk 0 D.toArray := by
  intro j hj
  rw [size_flatK] at hj
  refine ⟨?_, hz _⟩
  rw [get_flatK _ _ _ _ hj]
  have hl : D.length = SP.length := by rw [← hD, List.length_map]
  have hjl : j / 2 < D.length := by simp at hj; omega
  obtain ⟨ad, e, hc⟩ := h.2.2 (by omega)
  cases e
  have hsp : SP[j / 2]? = some (D[j / 2]).1 := by rw [← hD, List.getElem?_map, List.getElem?_eq_getElem hjl]; rfl
  obtain ⟨c, h1, h2, h3⟩ := hc (j / 2) _ hsp
  obtain rfl := k52_open h2
  have hd : (D.toArray)[j / 2]! = D[j / 2] := by
    rw [getElem!_pos _ _ (by simpa using hjl)]; rfl
  rw [hd]
  have hs2 : k52.sz = 2 := rfl
  have hm : j % 2 = 0 ∨ j % 2 = 1 := by omega
  have ea : (⟨blk, 0, none⟩ : Addr).add (j / 2 * k52.sz + j % 2) = ⟨blk, 0 + j, none⟩ := by
    rw [Addr.add_mid, hs2, show j / 2 * 2 + j % 2 = j by omega]
  rcases hm with e | e
  · have := h3 0 _ rfl
    rw [e] at ea
    rw [ea] at this
    rw [e]
    exact this
  · have := h3 1 _ rfl
    rw [e] at ea
    rw [ea] at this
    rw [e]
    exact this
theorem row_holds {w : World} {blk : Nat} {d : Array N52} (h : HoldsK encN 2 w blk 0 d) (hl : d.size ≤ 1000) : k52.C w (some ⟨blk, 0, none⟩) (d.toList.map (·.1)).length (d.toList.map (·.1)) := by
  refine ⟨rfl, by rw [List.length_map, Array.length_toList]; omega, fun _ => ⟨_, rfl, fun j p hj => ⟨[.int .u64 p.f0, .int .i64 p.f1], rfl, k52_mk _ p, fun i u hu => ?_⟩⟩⟩
  have hs2 : k52.sz = 2 := rfl
  rw [Addr.add_mid, hs2]
  rw [List.getElem?_map] at hj
  cases hq : d.toList[j]? with
  | none => rw [hq] at hj; cases hj
  | some x =>
    rw [hq] at hj
    have hx : x.1 = p := by simpa using hj
    subst hx
    have hjl : j < d.size := by have := (List.getElem?_eq_some_iff.1 hq).1; simpa using this
    have hd : d[j]! = x := by
      rw [getElem!_pos d j hjl]
      have := (List.getElem?_eq_some_iff.1 hq).2
      simpa using this
    match i, hu with
    | 0, hu =>
      have := (h.cell hjl (c := 0) (by omega)).1
      rw [hd] at this
      have hu' : Value.int .u64 x.1.f0 = u := by simpa using hu
      rw [← hu', show 0 + (j * 2 + 0) = 0 + j * 2 + 0 by omega]
      exact this
    | 1, hu =>
      have := (h.cell hjl (c := 1) (by omega)).1
      rw [hd] at this
      have hu' : Value.int .i64 x.1.f1 = u := by simpa using hu
      rw [← hu', show 0 + (j * 2 + 1) = 0 + j * 2 + 1 by omega]
      exact this
    | i + 2, hu => simp at hu
/-- The library sorts the spots. -/
theorem sort_calls {w : World} {blk cap : Nat} {SP : List S52} (hin : ∀ s ∈ SP, 0 ≤ s.f1 ∧ s.f1 < 16) (hlen : SP.length ≤ 1000) (h : k52.C w (some ⟨blk, 0, none⟩) SP.length SP) (hz : ∀ i, w.frozen? ⟨blk, i, none⟩ = false) (hb : blk < w.heap.size) :
    Calls Try.prog 25 #[.slice (some ⟨blk, 0, none⟩) SP.length cap, .func (.func 26) #[] #[]] w fun e w' => e = .returned (.tuple #[]) ∧ ∃ sp : List S52, sp.Perm SP ∧ sp.Pairwise leP ∧ k52.C w' (some ⟨blk, 0, none⟩) sp.length sp ∧ w.grownBy w' (some blk) := by
  obtain ⟨D, hD⟩ : ∃ D : List N52, D.map (·.1) = SP := ⟨SP.attach.map (fun s => ⟨s.1, hin s.1 s.2⟩), by rw [List.map_map]; exact List.attach_map_subtype_val SP⟩
  have hl : D.length = SP.length := by rw [← hD, List.length_map]
  have eg : ∀ args w, (callFunc 26 args).run Try.prog w = .ok (.enter 26 args) w := enters_of Try.func26 (by kernel_rfl) rfl
  have hH := holds_row hD h hz
  have hcon := AnyQ.slices_SortFunc Srt.sortF 2 Try.isAgg52 Try.sizeOf52 encN (fun _ => rfl) (fun x v hv => by simp [encN] at hv; rcases hv with rfl | rfl <;> rfl) cmpN swoN 26 #[] blk 0 cap D.toArray w eg (cmpLays26 blk 0 D.toArray.size w) hH hb (by simp; omega)
  have hsz : D.toArray.size = SP.length := by simpa using hl
  rw [hsz] at hcon
  change Calls Try.prog 25 _ _ _ at hcon
  refine hcon.mono ?_
  rintro e w' ⟨rfl, d', n, os, hp, hs, rfl⟩
  have hds : d'.size = SP.length := by rw [hp.1, hsz]
  have hsk : SWK encN 2 w blk 0 d' (sortWorldK encN 2 w blk 0 n d' os) := ⟨n, os, rfl⟩
  refine ⟨rfl, d'.toList.map (·.1), ?_, ?_, row_holds (hsk.holds hb hH (by rw [hds, hsz])) (by omega), sort_world d'⟩
  · have hpp := hp.2.2
    have e1 : (d'.extract 0 SP.length).toList = d'.toList := by
      have : d'.extract 0 SP.length = d' := by rw [← hds]; simp
      rw [this]
    have e2 : (D.toArray.extract 0 SP.length).toList = D := by
      have : D.toArray.extract 0 SP.length = D.toArray := by rw [← hsz]; simp
      rw [this]
    rw [e1, e2] at hpp
    rw [← hD]
    exact hpp.map _
  · rw [List.pairwise_iff_getElem]
    intro i j hi hj hij
    rw [List.length_map, Array.length_toList] at hi hj
    have := hs i j (Nat.zero_le _) hij (by omega)
    rw [ltN, decide_eq_false_iff_not, getElem!_pos d' i (show i < d'.size from hi), getElem!_pos d' j (show j < d'.size from hj)] at this
    simp only [List.getElem_map, Array.getElem_toList]
    unfold leP
    omega
end Go.Proofs.Ytibilnohnildcaa.R
