/- The ring by hand: its spots, sorted; the comparing closure. -/
import Derived.Test.YtibilnohnildcaaR8
import Derived.Test.YtibilnohnildcaaS1
namespace Go.Proofs.Ytibilnohnildcaa.R
open Go.Shelf Go.RowKit Go.Proofs.Ytibilnohnildcaa.Q Go.Proofs.YtibilnohnildcaaW.PrintWords Go.Proofs.YtibilnohnildcaaW.PrintLast Go.Proofs.YtibilnohnildcaaW.PrintMore
set_option linter.unusedVariables false
set_option linter.unusedSimpArgs false
/-- A node's spots, and those of all nodes. -/
def nodeSpots (i : Nat) : List S52 := (List.range 8).map (fun k : Nat => ⟨placeT (i : Int) (k : Int), (i : Int)⟩)
def spotsU (n : Nat) : List S52 := (List.range n).flatMap nodeSpots
def leP (a b : S52) : Prop := a.f0 < b.f0 ∨ (a.f0 = b.f0 ∧ a.f1 ≤ b.f1)
/-- The spots of a ring of so many nodes, in order. -/
structure IsRing (n : Nat) (sp : List S52) : Prop where
  perm : sp.Perm (spotsU n)
  sorted : sp.Pairwise leP
theorem nodeSpots_len (i : Nat) : (nodeSpots i).length = 8 := by simp [nodeSpots]
theorem spotsU_succ (n : Nat) : spotsU (n + 1) = spotsU n ++ nodeSpots n := by unfold spotsU; rw [List.range_succ, List.flatMap_append]; simp
theorem spotsU_len (n : Nat) : (spotsU n).length = 8 * n := by
  induction n with
  | zero => rfl
  | succ n ih => rw [spotsU_succ, List.length_append, nodeSpots_len, ih]; omega
theorem mem_spotsU {n : Nat} {s : S52} : s ∈ spotsU n ↔ ∃ i k : Nat, i < n ∧ k < 8 ∧ s = ⟨placeT (i : Int) (k : Int), (i : Int)⟩ := by
  unfold spotsU nodeSpots
  rw [List.mem_flatMap]
  constructor
  · rintro ⟨i, hi, hs⟩
    obtain ⟨k, hk, rfl⟩ := List.mem_map.1 hs
    exact ⟨i, k, List.mem_range.1 hi, List.mem_range.1 hk, rfl⟩
  · rintro ⟨i, k, hi, hk, rfl⟩
    exact ⟨i, List.mem_range.2 hi, List.mem_map.2 ⟨k, List.mem_range.2 hk, rfl⟩⟩
theorem IsRing.mem {n : Nat} {sp : List S52} (h : IsRing n sp) {s : S52} : s ∈ sp ↔ ∃ i k : Nat, i < n ∧ k < 8 ∧ s = ⟨placeT (i : Int) (k : Int), (i : Int)⟩ := h.perm.mem_iff.trans mem_spotsU
theorem IsRing.bound {n : Nat} {sp : List S52} (h : IsRing n sp) (hn : n ≤ 16) : ∀ s ∈ sp, 0 ≤ s.f1 ∧ s.f1 < 16 := fun s hs => by
  obtain ⟨i, k, hi, hk, rfl⟩ := h.mem.1 hs
  exact ⟨by show (0 : Int) ≤ (i : Int); omega, by show (i : Int) < 16; omega⟩
theorem IsRing.len {n : Nat} {sp : List S52} (h : IsRing n sp) : sp.length = 8 * n := by rw [h.perm.length_eq, spotsU_len]
/-- A spot of a node of a ring. -/
abbrev N52 := { s : S52 // 0 ≤ s.f1 ∧ s.f1 < 16 }
instance : Inhabited N52 := ⟨⟨⟨0, 0⟩, by decide, by decide⟩⟩
def encN (s : N52) : List Value := [.int .u64 s.1.f0, .int .i64 s.1.f1]
def cmpN (a b : N52) : Int := if a.1.f0 < b.1.f0 then -1 else if a.1.f0 > b.1.f0 then 1 else a.1.f1 - b.1.f1
theorem ltN (a b : N52) : ltOf cmpN a b = decide (a.1.f0 < b.1.f0 ∨ (a.1.f0 = b.1.f0 ∧ a.1.f1 < b.1.f1)) := by
  unfold ltOf cmpN
  have ha := a.2
  have hb := b.2
  by_cases h1 : a.1.f0 < b.1.f0
  · simp [h1]
  · by_cases h2 : a.1.f0 > b.1.f0
    · rw [if_neg h1, if_pos h2]
      simp only [decide_eq_decide]
      omega
    · rw [if_neg h1, if_neg h2]
      simp only [decide_eq_decide]
      omega
theorem swoN : Go.Sort.SWO (ltOf cmpN) where
  irrefl x := by rw [ltN]; simp
  trans x y z h1 h2 := by rw [ltN] at *; simp only [decide_eq_true_eq] at *; omega
  ntrans x y z h1 h2 := by rw [ltN] at *; simp only [decide_eq_false_iff_not] at *; omega
set_option maxHeartbeats 1000000 in
theorem closure26 (x y : N52) (W : World) : Calls Try.prog 26 #[.agg #[.int .u64 x.1.f0, .int .i64 x.1.f1], .agg #[.int .u64 y.1.f0, .int .i64 y.1.f1]] W fun e w' => e = .returned (.int .i64 (cmpN x y)) ∧ ∃ q os', w' = Go.Sort.grow (W.drewN q) os' := by
  unfold cmpN
  by_cases h1 : x.1.f0 < y.1.f0
  · rw [if_pos h1]
    go_enter Try.func26, Try.ntmps26
    go_wp2
    go_ret
    exact ⟨rfl, 0, _, by rw [Go.Sort.alloc_eq_grow, Go.Sort.alloc_eq_grow, Go.Sort.grow_grow]; rfl⟩
  · rw [if_neg h1]
    by_cases h2 : x.1.f0 > y.1.f0
    · rw [if_pos h2]
      go_enter Try.func26, Try.ntmps26
      go_wp2
      go_ret
      exact ⟨rfl, 0, _, by rw [Go.Sort.alloc_eq_grow, Go.Sort.alloc_eq_grow, Go.Sort.grow_grow]; rfl⟩
    · rw [if_neg h2]
      have hx := x.2
      have hy := y.2
      go_enter Try.func26, Try.ntmps26
      go_wp2
      go_ret
      exact ⟨rfl, 0, _, by rw [Go.Sort.alloc_eq_grow, Go.Sort.alloc_eq_grow, Go.Sort.grow_grow]; rfl⟩
theorem cmpLays26 (blk off size : Nat) (w : World) : CmpLays Try.prog 26 #[] encN 2 cmpN blk off size w := fun _ _ _ _ x y => closure26 x y _
end Go.Proofs.Ytibilnohnildcaa.R
