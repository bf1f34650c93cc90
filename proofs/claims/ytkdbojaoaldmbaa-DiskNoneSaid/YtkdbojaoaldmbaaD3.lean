/- Walks of the disk by hand: rows of bytes, and what is put behind them. -/
import Derived.Test.YtkdbojaoaldmbaaD2
import Derived.Test.YtkdbojaoaldmbaaQ0
import Derived.ArgAppend
namespace Go.Proofs.Ytkdbojaoaldmbaa.D
open Go.RowKit Go.Proofs.Ytkdbojaoaldmbaa.Q Go.Proofs.YtkdbojaoaldmbaaW.PrintWords Go.Proofs.YtkdbojaoaldmbaaW.PrintLast Go.Proofs.YtkdbojaoaldmbaaW.PrintMore
set_option linter.unusedVariables false
set_option linter.unusedSimpArgs false

def u8s (xs : List Int) : List Value := xs.map fun x => Value.int .u8 x
theorem u8s_len (xs : List Int) : (u8s xs).length = xs.length := by simp [u8s]
/-- A row of bytes, as it lies. -/
def RowAt (w : World) (A : Option Addr) (c : Nat) (xs : List Int) : Prop :=
  xs.length ≤ c ∧ xs.length ≤ 100000 ∧ ((A = none ∧ xs = [] ∧ c = 0) ∨ ∃ (g : Nat) (cur : Array Value) (fz : Nat × Nat), A = some ⟨g, 0, none⟩ ∧ w.heap[g]? = some (Obj.cells cur 5 fz) ∧ cur.toList.take xs.length = u8s xs)
theorem RowAt.move {w w' : World} {A : Option Addr} {c : Nat} {xs : List Int} (h : RowAt w A c xs) (hm : ∀ (g : Nat) (cur : Array Value) (fz : Nat × Nat), w.heap[g]? = some (Obj.cells cur 5 fz) → w'.heap[g]? = some (Obj.cells cur 5 fz)) : RowAt w' A c xs := by
  refine ⟨h.1, h.2.1, h.2.2.imp id ?_⟩
  rintro ⟨g, cur, fz, e, hb, ht⟩
  exact ⟨g, cur, fz, e, hm g cur fz hb, ht⟩
theorem RowAt.chg {w w' : World} {A : Option Addr} {c : Nat} {xs : List Int} {S : Nat → Prop} (h : RowAt w A c xs) (hc : Chg S w w') (hS : ∀ k, S k → ∀ (cur : Array Value) (fz : Nat × Nat), w.heap[k]? ≠ some (Obj.cells cur 5 fz)) : RowAt w' A c xs :=
  h.move fun g cur fz hb => (hc.block g (by
    rcases Nat.lt_or_ge g w.heap.size with h | h
    · exact h
    · rw [Array.getElem?_eq_none h] at hb; cases hb) (fun hs => hS g hs cur fz hb)).trans hb
theorem RowAt.cells {w : World} {A : Option Addr} {c : Nat} {xs : List Int} (h : RowAt w A c xs) : Kd.C (Kd.int .u8) w A xs.length xs := by
  refine ⟨rfl, Nat.le_trans h.2.1 (by decide), fun h0 => ?_⟩
  rcases h.2.2 with ⟨_, e, _⟩ | ⟨g, cur, fz, rfl, hb, ht⟩
  · rw [e] at h0; simp at h0
  · refine ⟨_, rfl, fun j p hj => ⟨[.int .u8 p], rfl, rfl, fun i u hi => ?_⟩⟩
    have hi0 : i = 0 := by
      cases i with
      | zero => rfl
      | succ i => simp at hi
    subst hi0
    have hu : Value.int .u8 p = u := by simpa using hi
    subst hu
    have hjl : j < xs.length := by
      rcases Nat.lt_or_ge j xs.length with h | h
      · exact h
      · rw [List.getElem?_eq_none h] at hj; cases hj
    have hc : cur.toList[j]? = some (.int .u8 p) := by
      have : (cur.toList.take xs.length)[j]? = some (.int .u8 p) := by rw [ht]; simp [u8s, hj]
      rwa [List.getElem?_take, if_pos hjl] at this
    have hcell : w.cell? ⟨g, j, none⟩ = some (.int .u8 p) := by
      simp only [World.cell?, hb]
      simpa using hc
    rw [show j * (Kd.int IntKind.u8).sz + 0 = j from Nat.mul_one j]
    cases j with
    | zero => simpa [Addr.add] using hcell
    | succ j => simpa [Addr.add] using hcell
theorem inner_u8 {w : World} {A : Option Addr} {m : Nat} {xs : List Int} (h : Kd.C (Kd.int .u8) w A m xs) (hm : 0 < m) : ∃ ad, A = some ad ∧ ∀ j u, (u8s xs)[j]? = some u → w.cell? (ad.add j) = some u := by
  obtain ⟨hl, _, h2⟩ := h
  obtain ⟨ad, rfl, h3⟩ := h2 hm
  refine ⟨ad, rfl, fun j u hj => ?_⟩
  simp only [u8s, List.getElem?_map, Option.map_eq_some_iff] at hj
  obtain ⟨p, hp, rfl⟩ := hj
  obtain ⟨c, hc1, hc2, hc3⟩ := h3 j p hp
  have e : c = [.int .u8 p] := hc2
  subst e
  have := hc3 0 _ rfl
  rwa [show j * (Kd.int IntKind.u8).sz + 0 = j from Nat.mul_one j] at this
theorem app (W : World) (A : Option Addr) (c : Nat) (ys : List Int) (hy : RowAt W A c ys) (A' : Option Addr) (m c' : Nat) (xs : List Int) (hx : Kd.C (Kd.int .u8) W A' m xs) (hm : 0 < m) (hs : ys.length + m ≤ 100000) (ty : TypeId) :
    ∃ A1 c1 w1, (Builtin.append_ #[29, 29] ty #[.slice A ys.length ys.length, .slice A' m c']).run Try.prog W = .ok (.slice A1 (ys ++ xs).length c1) w1 ∧ RowAt w1 A1 c1 (ys ++ xs) ∧ Chg (fun _ => False) W w1 := by
  obtain ⟨i0, hi, hzz⟩ := Option.map_eq_some_iff.1 info5
  simp only [Prod.mk.injEq] at hzz
  obtain ⟨hz0, hz1, hz2⟩ := hzz
  obtain ⟨ad, rfl, hc⟩ := inner_u8 hx hm
  have hxl : xs.length = m := hx.1
  have fin : ∀ v1 w1, w1.ownsRow W.heap.size 5 1 v1 (ys.length + m) (u8s ys ++ u8s xs) → W.grownBy w1 none → ∃ A1 c1, v1 = .slice A1 (ys ++ xs).length c1 ∧ RowAt w1 A1 c1 (ys ++ xs) ∧ Chg (fun _ => False) W w1 := by
    intro v1 w1 ho hg
    rcases ho.2 with ⟨_, h0⟩ | ⟨g, cap, cur, rfl, hgb, hb, hnc, hcm, hsz, ht⟩
    · omega
    · refine ⟨_, cap, by rw [List.length_append, hxl], ⟨by rw [List.length_append, hxl]; exact hnc, by rw [List.length_append, hxl]; exact hs, .inr ⟨g, cur, _, rfl, hb, ?_⟩⟩, ⟨hg.os, hg.tape, hg.output, hg.size, fun k hk _ => hg.block k hk (by simp)⟩⟩
      rw [Nat.mul_one] at ht
      rw [List.length_append, hxl, ht]
      simp [u8s]
  rcases hy.2.2 with ⟨rfl, rfl, _⟩ | ⟨g, cur, fz, rfl, hb, ht⟩
  · obtain ⟨v1, w1, hrun, h2, hg, _, _⟩ := run_append_own_at (P := Try.prog) W W.heap.size 29 ty 5 i0 (.int .u8 0) 1 1 Try.underlying29 hi hz0 hz1 hz2 rfl (by decide) (.slice none 0 0) 0 [] ⟨rfl, .inl ⟨rfl, rfl⟩⟩ ad m c' (u8s xs) (by rw [u8s_len, hxl, Nat.mul_one]) hc (by intro u hu; simp only [u8s, List.mem_map] at hu; obtain ⟨_, _, rfl⟩ := hu; rfl) (by simp only [maxLen]; omega) (by omega) (Nat.le_refl _)
    obtain ⟨A1, c1, rfl, h3, h4⟩ := fin v1 w1 (by simpa [u8s] using h2) hg
    exact ⟨A1, c1, w1, hrun, h3, h4⟩
  · have hcy : ∀ j u, (u8s ys)[j]? = some u → W.cell? ((⟨g, 0, none⟩ : Addr).add j) = some u := fun j u hj => by
      rcases Nat.eq_zero_or_pos ys.length with h0 | h0
      · rw [List.getElem?_eq_none (by rw [u8s_len]; omega)] at hj; cases hj
      · obtain ⟨ad2, e2, h2⟩ := inner_u8 hy.cells h0
        cases e2
        exact h2 j u hj
    obtain ⟨v1, w1, hrun, h2, hg⟩ := run_append_arg_grows (P := Try.prog) W 29 ty 5 i0 (.int .u8 0) 1 1 Try.underlying29 hi hz0 hz1 hz2 rfl (by decide) ⟨g, 0, none⟩ ys.length ys.length (u8s ys) (by rw [u8s_len, Nat.mul_one]) hcy ad m c' (u8s xs) (by rw [u8s_len, hxl, Nat.mul_one]) hc (by omega) (by simp only [maxLen]; omega) (by omega)
    obtain ⟨A1, c1, rfl, h3, h4⟩ := fin v1 w1 h2 hg
    exact ⟨A1, c1, w1, hrun, h3, h4⟩
/-- The same for any world that is drawn on. -/
theorem appAll (W : World) (A : Option Addr) (c : Nat) (ys : List Int) (hy : RowAt W A c ys) (A' : Option Addr) (m c' : Nat) (xs : List Int) (hx : Kd.C (Kd.int .u8) W A' m xs) (hm : 0 < m) (hs : ys.length + m ≤ 100000) (ty : TypeId) :
    ∃ (A1 : Nat → Option Addr) (c1 : Nat → Nat) (w1 : Nat → World), ∀ nd, (Builtin.append_ #[29, 29] ty #[.slice A ys.length ys.length, .slice A' m c']).run Try.prog (W.drewN nd) = .ok (.slice (A1 nd) (ys ++ xs).length (c1 nd)) (w1 nd) ∧ RowAt (w1 nd) (A1 nd) (c1 nd) (ys ++ xs) ∧ Chg (fun _ => False) W (w1 nd) := by
  have h : ∀ nd : Nat, ∃ t : Option Addr × Nat × World, (Builtin.append_ #[29, 29] ty #[.slice A ys.length ys.length, .slice A' m c']).run Try.prog (W.drewN nd) = .ok (.slice t.1 (ys ++ xs).length t.2.1) t.2.2 ∧ RowAt t.2.2 t.1 t.2.1 (ys ++ xs) ∧ Chg (fun _ => False) W t.2.2 := fun nd => by
    obtain ⟨A1, c1, w1, e, r, g⟩ := app (W.drewN nd) A c ys hy A' m c' xs hx hm hs ty
    exact ⟨(A1, c1, w1), e, r, ⟨g.os, g.tape, g.output, g.size, g.block⟩⟩
  obtain ⟨f, hf⟩ := Classical.axiomOfChoice h
  exact ⟨fun nd => (f nd).1, fun nd => (f nd).2.1, fun nd => (f nd).2.2, hf⟩
end Go.Proofs.Ytkdbojaoaldmbaa.D
