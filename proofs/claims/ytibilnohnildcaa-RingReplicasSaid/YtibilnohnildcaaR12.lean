/- The ring by hand: what is picked; Owner, Replicas. -/
import Derived.Test.YtibilnohnildcaaR11
namespace Go.Proofs.Ytibilnohnildcaa.R
open Go.RowKit Go.Proofs.Ytibilnohnildcaa.Q Go.Proofs.YtibilnohnildcaaW.PrintWords Go.Proofs.YtibilnohnildcaaW.PrintLast Go.Proofs.YtibilnohnildcaaW.PrintMore
set_option linter.unusedVariables false
set_option linter.unusedSimpArgs false
theorem mem_round {sp : List S52} {p : Int} {s : S52} : s ∈ roundT sp p ↔ s ∈ sp := by
  unfold roundT
  rw [List.mem_append, Or.comm, ← List.mem_append, List.take_append_drop]
/-- Where some node is wanted, a spot of a wanted node is found. -/
theorem found {n : Nat} {sp : List S52} {p : Int} {L : List Bool} {i : Nat} (h : IsRing n sp) (hi : i < n) (hL : L.getD i false = true) : firstT sp p L ∈ sp ∧ L.getD (firstT sp p L).f1.toNat false = true := by
  have hm : (⟨placeT (i : Int) ((0 : Nat) : Int), (i : Int)⟩ : S52) ∈ roundT sp p := mem_round.2 (h.mem.2 ⟨i, 0, hi, by omega, rfl⟩)
  unfold firstT
  cases hf : (roundT sp p).find? (fun s => L.getD s.f1.toNat false) with
  | none =>
    have := List.find?_eq_none.1 hf _ hm
    simp only [Int.toNat_natCast] at this
    exact absurd hL this
  | some s => exact ⟨mem_round.1 (List.mem_of_find?_eq_some hf), List.find?_some (p := fun s : S52 => L.getD s.f1.toNat false) hf⟩
/-- Of the nodes S those of out were picked; L are the others. -/
structure Inv (n : Nat) (S out : List Int) (L : List Bool) : Prop where
  len : L.length = 16
  is : ∀ j : Nat, j < 16 → (L.getD j false = true ↔ ((j : Int) ∈ S ∧ (j : Int) ∉ out))
  nodup : out.Nodup
  sub : ∀ x ∈ out, x ∈ S
  dist : S.Nodup
  rng : ∀ x ∈ S, 0 ≤ x ∧ x < n
  top : n ≤ 16
theorem nodup_le : ∀ {S out : List Int}, S.Nodup → (∀ x ∈ S, x ∈ out) → S.length ≤ out.length
  | [], out, _, _ => Nat.zero_le _
  | x :: r, out, hS, hsub => by
    have hx := hsub x List.mem_cons_self
    have hn := List.nodup_cons.1 hS
    have := nodup_le (S := r) (out := out.erase x) hn.2 (fun y hy => (List.mem_erase_of_ne (fun e => hn.1 (by rw [← e]; exact hy))).2 (hsub y (List.mem_cons_of_mem _ hy)))
    rw [List.length_erase_of_mem hx] at this
    have hl := List.length_pos_of_mem hx
    rw [List.length_cons]
    omega
theorem exists_left : ∀ {S out : List Int}, S.Nodup → out.length < S.length → ∃ x ∈ S, x ∉ out := fun {S out} hS hl => by
  refine Classical.byContradiction (fun hn => ?_)
  have hsub : ∀ x ∈ S, x ∈ out := fun x hx => Classical.byContradiction (fun h => hn ⟨x, hx, h⟩)
  have := nodup_le hS hsub
  omega
theorem Inv.pick {n : Nat} {S out : List Int} {L : List Bool} {sp : List S52} (h : Inv n S out L) (hr : IsRing n sp) (hl : out.length < S.length) (p : Int) :
    firstT sp p L ∈ sp ∧ 0 ≤ (firstT sp p L).f1 ∧ (firstT sp p L).f1 < n ∧ (firstT sp p L).f1 ∈ S ∧ (firstT sp p L).f1 ∉ out ∧ Inv n S (out ++ [(firstT sp p L).f1]) (L.set (firstT sp p L).f1.toNat false) := by
  obtain ⟨x, hx, hxo⟩ := exists_left h.dist hl
  have hxr := h.rng x hx
  have htop := h.top
  obtain ⟨h1, h2⟩ := found (p := p) (L := L) (i := x.toNat) hr (by omega) ((h.is x.toNat (by omega)).2 (by rw [Int.toNat_of_nonneg hxr.1]; exact ⟨hx, hxo⟩))
  have hb := hr.bound htop _ h1
  generalize firstT sp p L = s at *
  have h3 := (h.is s.f1.toNat (by omega)).1 h2
  rw [Int.toNat_of_nonneg hb.1] at h3
  have hsr := h.rng _ h3.1
  refine ⟨h1, hb.1, hsr.2, h3.1, h3.2, ⟨by rw [List.length_set]; exact h.len, fun j hj => ?_, ?_, ?_, h.dist, h.rng, htop⟩⟩
  · rw [List.getD_eq_getElem?_getD, List.getElem?_set]
    by_cases e : s.f1.toNat = j
    · rw [if_pos e, if_pos (by rw [h.len]; omega)]
      have : (j : Int) = s.f1 := by omega
      simp [this]
    · rw [if_neg e, ← List.getD_eq_getElem?_getD, h.is j hj]
      have : ¬ (j : Int) = s.f1 := by omega
      simp [this]
  · rw [List.nodup_append]
    refine ⟨h.nodup, List.nodup_cons.2 ⟨by simp, List.nodup_nil⟩, fun a ha b hb e => ?_⟩
    have : b = s.f1 := by simpa using hb
    subst this
    exact h3.2 (e ▸ ha)
  · intro y hy
    rcases List.mem_append.1 hy with hy | hy
    · exact h.sub y hy
    · have : y = s.f1 := by simpa using hy
      rw [this]; exact h3.1
theorem upto_getD (n j : Nat) (hj : j < 16) : (upto n).getD j false = decide (j < n) := by
  unfold upto
  rw [List.getD_eq_getElem?_getD, List.getElem?_map, List.getElem?_range hj]
  rfl
/-- The nodes of a ring. -/
def allT (n : Nat) : List Int := (List.range n).map (fun i : Nat => (i : Int))
theorem allT_len (n : Nat) : (allT n).length = n := by simp [allT]
theorem mem_allT {n : Nat} {x : Int} : x ∈ allT n ↔ 0 ≤ x ∧ x < n := by
  unfold allT
  rw [List.mem_map]
  constructor
  · rintro ⟨a, ha, rfl⟩
    have := List.mem_range.1 ha
    omega
  · rintro ⟨h1, h2⟩
    exact ⟨x.toNat, List.mem_range.2 (by omega), by omega⟩
theorem allT_nodup (n : Nat) : (allT n).Nodup := by
  unfold allT
  rw [List.nodup_iff_pairwise_ne, List.pairwise_map]
  exact List.nodup_range.imp (fun h e => h (by omega))
theorem inv_all {n : Nat} (hn : n ≤ 16) : Inv n (allT n) [] (upto n) where
  len := upto_len n
  is j hj := by rw [upto_getD n j hj, mem_allT]; simp
  nodup := List.nodup_nil
  sub := fun x hx => by cases hx
  dist := allT_nodup n
  rng := fun x hx => mem_allT.1 hx
  top := hn
theorem fld52 (a b : Value) (W : World) : (Instr.field 52 (.agg #[a, b]) 1).run Try.prog W = .ok b W := by kernel_rfl
/-- The owner of a place. -/
def ownerT (sp : List S52) (n : Nat) (p : Int) : Int := (firstT sp p (upto n)).f1
set_option maxHeartbeats 400000 in
set_option maxRecDepth 100000 in
theorem owner_calls {w : World} {g n : Nat} {sp : List S52} (h : RingG w g n sp) (hr : IsRing n sp) (p : Int) : Calls Try.prog 23 #[.pointer (some ⟨g, 0, none⟩), .int .u64 p] w fun e w' => e = .returned (.int .i64 (ownerT sp n p)) ∧ Below w.heap.size w w' := by
  have HR := Aside0.mk h
  have HI := Aside0.mk (hr.bound h.top)
  unfold ownerT
  have hfd := fun (a b : Value) (W : World) => fld52 a b W
  clear h hr
  go_enter Try.func23, Try.ntmps23
  go_wp2_with (first
    | (go_at_call 27; (with_reducible refine (is_calls HR.out).mono ?_); rintro e w9 ⟨rfl, h9⟩; subst w9)
    | (go_at_call 28; (with_reducible refine (all_calls HR.out).mono ?_); rintro e w2 ⟨rfl, hb⟩; have HB2 := Aside0.mk hb; clear hb)
    | (go_at_call 29; (with_reducible refine (first_calls (HR.out.below HB2.out) p (upto n) (upto_len n) HI.out).mono ?_); rintro e w3 ⟨rfl, hb⟩; have HB3 := Aside0.mk hb; clear hb))
  go_ret
  exact ⟨rfl, below_step HB2.out HB3.out⟩
end Go.Proofs.Ytibilnohnildcaa.R
