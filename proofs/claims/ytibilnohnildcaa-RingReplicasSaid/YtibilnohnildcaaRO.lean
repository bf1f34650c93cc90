import Derived.Test.YtibilnohnildcaaRN
/- The ring as plain order: the first spot from a place on is the least by the way to it. -/
namespace Go.Proofs.Ytibilnohnildcaa.R
open Go.RowKit Go.Proofs.Ytibilnohnildcaa.Q Go.Proofs.YtibilnohnildcaaW.PrintWords Go.Proofs.YtibilnohnildcaaW.PrintLast Go.Proofs.YtibilnohnildcaaW.PrintMore
set_option linter.unusedVariables false
set_option linter.unusedSimpArgs false
theorem u64_mod (n : Int) : IntKind.u64.wrap n = n % 18446744073709551616 := by simp [IntKind.wrap, IntKind.bits, IntKind.signed]
/-- Within 64 bits. -/
def U64 (x : Int) : Prop := 0 ≤ x ∧ x < 18446744073709551616
theorem u64_wrap (n : Int) : U64 (IntKind.u64.wrap n) := by rw [u64_mod]; unfold U64; omega
theorem xx_rng (l : List Int) : U64 (xx l) := by
  have h : ∀ h l, U64 (tailT h l) := fun h l => by
    rw [tail_eq]
    exact u64_wrap _
  by_cases h32 : 32 ≤ l.length
  · rw [xx_great_eq h32]; exact h _ _
  · rw [xx_small_eq h32]; exact h _ _
theorem place_rng (n k : Int) : U64 (placeT n k) := by
  unfold placeT
  split
  · unfold U64; omega
  · exact xx_rng _
/-- The way from a place to a spot. -/
def dist (p : Int) (s : S52) : Int := IntKind.u64.wrap (s.f0 - p)
theorem dist_up {p : Int} {s : S52} (hp : U64 p) (hs : U64 s.f0) (h : p ≤ s.f0) : dist p s = s.f0 - p := by
  unfold dist; rw [u64_mod]; unfold U64 at hp hs; omega
theorem dist_down {p : Int} {s : S52} (hp : U64 p) (hs : U64 s.f0) (h : s.f0 < p) : dist p s = s.f0 - p + 18446744073709551616 := by
  unfold dist; rw [u64_mod]; unfold U64 at hp hs; omega
theorem dist_back {p : Int} {s : S52} (hs : U64 s.f0) : IntKind.u64.wrap (p + dist p s) = s.f0 := by
  unfold dist; rw [u64_mod, u64_mod]; unfold U64 at hs; omega
/-- Nearer, or as near and of a lesser node, or the same. -/
def keyLe (p : Int) (s t : S52) : Prop := dist p s < dist p t ∨ (dist p s = dist p t ∧ s.f1 ≤ t.f1)
theorem keyLe_refl (p : Int) (s : S52) : keyLe p s s := .inr ⟨rfl, Int.le_refl _⟩
theorem keyLe_trans {p : Int} {s t u : S52} (h1 : keyLe p s t) (h2 : keyLe p t u) : keyLe p s u := by
  unfold keyLe at *; omega
/-- The least spot of the nodes that are wanted. -/
structure MinAt (sp : List S52) (p : Int) (W : Int → Prop) (s : S52) : Prop where
  mem : s ∈ sp
  want : W s.f1
  least : ∀ t ∈ sp, W t.f1 → keyLe p s t
theorem MinAt.unique {sp : List S52} {p : Int} {W : Int → Prop} {s t : S52} (hr : ∀ s ∈ sp, U64 s.f0) (h1 : MinAt sp p W s) (h2 : MinAt sp p W t) : s = t := by
  have a := h1.least t h2.mem h2.want
  have b := h2.least s h1.mem h1.want
  have hs := hr s h1.mem
  have ht := hr t h2.mem
  have e0 : s.f0 = t.f0 := by
    have : dist p s = dist p t := by unfold keyLe at a b; omega
    rw [← dist_back (p := p) hs, ← dist_back (p := p) ht, this]
  have e1 : s.f1 = t.f1 := by unfold keyLe at a b; omega
  cases s; cases t
  simp only at e0 e1
  rw [e0, e1]
theorem MinAt.sub {sp : List S52} {p : Int} {W V : Int → Prop} {s : S52} (h : MinAt sp p W s) (hVW : ∀ x, V x → W x) (hv : V s.f1) : MinAt sp p V s := ⟨h.mem, hv, fun t ht hw => h.least t ht (hVW _ hw)⟩
theorem MinAt.congr {sp : List S52} {p : Int} {W V : Int → Prop} {s : S52} (h : MinAt sp p W s) (hVW : ∀ x, V x ↔ W x) : MinAt sp p V s := h.sub (fun x => (hVW x).1) ((hVW _).2 h.want)
/-- From the place of a spot that was the least, the least of fewer nodes is the least from the old place too. -/
theorem MinAt.shift {sp : List S52} {p : Int} {V W : Int → Prop} {s t : S52} (hr : ∀ s ∈ sp, U64 s.f0) (h1 : MinAt sp p V s) (hVW : ∀ x, W x → V x) (h2 : MinAt sp s.f0 W t) : MinAt sp p W t := by
  refine ⟨h2.mem, h2.want, fun u hu hw => ?_⟩
  have hs := hr s h1.mem
  have key : ∀ v ∈ sp, W v.f1 → dist s.f0 v = dist p v - dist p s := fun v hv hwv => by
    have h := h1.least v hv (hVW _ hwv)
    have hv0 := hr v hv
    unfold keyLe dist at h
    unfold dist
    rw [u64_mod, u64_mod] at h ⊢
    rw [u64_mod]
    unfold U64 at hs hv0
    omega
  have a := key t h2.mem h2.want
  have b := key u hu hw
  have c := h2.least u hu hw
  unfold keyLe at *
  omega
theorem ring_rng {n : Nat} {sp : List S52} (hr : IsRing n sp) : ∀ s ∈ sp, U64 s.f0 := fun s hs => by
  obtain ⟨i, k, _, _, rfl⟩ := hr.mem.1 hs
  exact place_rng _ _
theorem from_split {sp : List S52} {p : Int} (hp : sp.Pairwise leP) : (∀ s ∈ sp.take (fromT sp p), s.f0 < p) ∧ (∀ s ∈ sp.drop (fromT sp p), p ≤ s.f0) := by
  unfold fromT
  induction sp with
  | nil => simp
  | cons x r ih =>
    have h2 := List.pairwise_cons.1 hp
    rw [List.takeWhile_cons]
    by_cases hx : x.f0 < p
    · rw [if_pos (by simpa using hx), List.length_cons, List.take_succ_cons, List.drop_succ_cons]
      have h3 := ih h2.2
      exact ⟨fun s hs => by
        rcases List.mem_cons.1 hs with e | e
        · exact e ▸ hx
        · exact h3.1 s e, h3.2⟩
    · rw [if_neg (by simpa using hx)]
      refine ⟨by simp, fun s hs => ?_⟩
      simp only [List.length_nil, List.drop_zero] at hs
      rcases List.mem_cons.1 hs with e | e
      · rw [e]; omega
      · have := h2.1 s e
        unfold leP at this
        omega
theorem round_sorted {n : Nat} {sp : List S52} (hr : IsRing n sp) {p : Int} (hp : U64 p) : (roundT sp p).Pairwise (keyLe p) := by
  obtain ⟨ha, hb⟩ := from_split (p := p) hr.sorted
  unfold roundT
  have hrng := ring_rng hr
  have hd : ∀ s ∈ sp.drop (fromT sp p), s ∈ sp := fun s hs => List.mem_of_mem_drop hs
  have ht : ∀ s ∈ sp.take (fromT sp p), s ∈ sp := fun s hs => List.mem_of_mem_take hs
  rw [List.pairwise_append]
  refine ⟨?_, ?_, ?_⟩
  · refine List.Pairwise.imp_of_mem ?_ (hr.sorted.sublist (List.drop_sublist _ _))
    intro s t hs hst h
    have e1 := dist_up hp (hrng s (hd s hs)) (hb s hs)
    have e2 := dist_up hp (hrng t (hd t hst)) (hb t hst)
    unfold leP at h
    unfold keyLe
    omega
  · refine List.Pairwise.imp_of_mem ?_ (hr.sorted.sublist (List.take_sublist _ _))
    intro s t hs hst h
    have e1 := dist_down hp (hrng s (ht s hs)) (ha s hs)
    have e2 := dist_down hp (hrng t (ht t hst)) (ha t hst)
    unfold leP at h
    unfold keyLe
    omega
  · intro s hs t hst
    have e1 := dist_up hp (hrng s (hd s hs)) (hb s hs)
    have e2 := dist_down hp (hrng t (ht t hst)) (ha t hst)
    have h1 := hrng s (hd s hs)
    have h2 := hrng t (ht t hst)
    unfold U64 at h1 h2 hp
    unfold keyLe
    omega
theorem find_least : ∀ {l : List S52} {q : S52 → Bool} {p : Int} {s : S52}, l.Pairwise (keyLe p) → l.find? q = some s → ∀ t ∈ l, q t = true → keyLe p s t
  | [], q, p, s, _, h => by simp at h
  | x :: r, q, p, s, hp, h => fun t ht hq => by
    have h2 := List.pairwise_cons.1 hp
    by_cases hx : q x = true
    · rw [List.find?_cons_of_pos hx] at h
      injection h with h
      subst h
      rcases List.mem_cons.1 ht with e | e
      · rw [e]; exact keyLe_refl _ _
      · exact h2.1 t e
    · rw [List.find?_cons_of_neg hx] at h
      rcases List.mem_cons.1 ht with e | e
      · exact absurd (e ▸ hq) hx
      · exact find_least h2.2 h t e hq
/-- The first one from a place on is the least. -/
theorem Inv.min {n : Nat} {S out : List Int} {L : List Bool} {sp : List S52} (h : Inv n S out L) (hr : IsRing n sp) (hl : out.length < S.length) {p : Int} (hp : U64 p) : MinAt sp p (fun x => x ∈ S ∧ x ∉ out) (firstT sp p L) := by
  obtain ⟨h1, h2, h3, h4, h5, _⟩ := h.pick hr hl p
  refine ⟨h1, ⟨h4, h5⟩, fun t ht hw => ?_⟩
  obtain ⟨b0, b1⟩ := hr.bound h.top t ht
  have hLt : L.getD t.f1.toNat false = true := (h.is t.f1.toNat (by omega)).2 (by rw [show ((t.f1.toNat : Nat) : Int) = t.f1 by omega]; exact hw)
  have hin : t ∈ roundT sp p := mem_round.2 ht
  have hf : (roundT sp p).find? (fun s => L.getD s.f1.toNat false) = some (firstT sp p L) := by
    have hne : (roundT sp p).find? (fun s => L.getD s.f1.toNat false) ≠ none := fun hno => by
      have := List.find?_eq_none.1 hno t hin
      exact this hLt
    obtain ⟨s, hs⟩ := Option.ne_none_iff_exists'.1 hne
    unfold firstT
    rw [hs]
    rfl
  exact find_least (round_sorted hr hp) hf t hin hLt
/-- What the three replicas are, in order. -/
def Trio (sp : List S52) (p : Int) (S : List Int) (y0 y1 y2 : Int) : Prop :=
  ∃ s0 s1 s2 : S52, MinAt sp p (fun x => x ∈ S) s0 ∧ s0.f1 = y0 ∧ MinAt sp p (fun x => x ∈ S ∧ x ≠ y0) s1 ∧ s1.f1 = y1 ∧ MinAt sp p (fun x => x ∈ S ∧ x ≠ y0 ∧ x ≠ y1) s2 ∧ s2.f1 = y2
theorem reps_trio {n : Nat} {sp : List S52} {sub : List Int} (hr : IsRing n sp) (hn : n ≤ 16) (h : rightT n sub) {p : Int} (hp : U64 p) {y0 y1 y2 : Int} (e : (repsT sp sub p 3).1 = [y0, y1, y2]) : Trio sp p sub y0 y1 y2 := by
  have hrng := ring_rng hr
  have e2 : (repsT sp sub p 3).1 = [(firstT sp p (marksT sub)).f1, (firstT sp (repsT sp sub p 1).2.2 (repsT sp sub p 1).2.1).f1, (firstT sp (repsT sp sub p 2).2.2 (repsT sp sub p 2).2.1).f1] := rfl
  rw [e2] at e
  injection e with e0 e
  injection e with e1 e
  injection e with e2 _
  have h3 := h.1
  have m0 : MinAt sp p (fun x => x ∈ sub ∧ x ∉ ([] : List Int)) (firstT sp p (marksT sub)) := ((inv_reps h hr hn p 0 (by omega)).1).min hr (by show 0 < sub.length; omega) hp
  have i1 := inv_reps h hr hn p 1 (by omega)
  have i2 := inv_reps h hr hn p 2 (by omega)
  have p1 : (repsT sp sub p 1).2.2 = (firstT sp p (marksT sub)).f0 := rfl
  have p2 : (repsT sp sub p 2).2.2 = (firstT sp (repsT sp sub p 1).2.2 (repsT sp sub p 1).2.1).f0 := rfl
  have o1 : (repsT sp sub p 1).1 = [y0] := by rw [← e0]; rfl
  have o2 : (repsT sp sub p 2).1 = [y0, y1] := by rw [← e0, ← e1]; rfl
  have m1 := i1.1.min hr (by rw [i1.2]; omega) (p := (repsT sp sub p 1).2.2) (by rw [p1]; exact hrng _ m0.mem)
  rw [o1] at m1
  have m1' : MinAt sp p (fun x => x ∈ sub ∧ x ∉ [y0]) (firstT sp (repsT sp sub p 1).2.2 (repsT sp sub p 1).2.1) := by
    refine MinAt.shift hrng m0 (fun x hx => ⟨hx.1, by simp⟩) ?_
    rw [← p1]
    exact m1
  have m2 := i2.1.min hr (by rw [i2.2]; omega) (p := (repsT sp sub p 2).2.2) (by rw [p2]; exact hrng _ m1'.mem)
  rw [o2] at m2
  have m2' : MinAt sp p (fun x => x ∈ sub ∧ x ∉ [y0, y1]) (firstT sp (repsT sp sub p 2).2.2 (repsT sp sub p 2).2.1) := by
    refine MinAt.shift hrng m1' (fun x hx => ⟨hx.1, fun hm => hx.2 (by simp at hm; simp [hm])⟩) ?_
    rw [← p2]
    exact m2
  exact ⟨_, _, _, m0.congr (fun x => by simp), e0, m1'.congr (fun x => by simp), e1, m2'.congr (fun x => by simp), e2⟩
end Go.Proofs.Ytibilnohnildcaa.R

/- The law RingMoves. -/
namespace Go.Proofs.Ytibilnohnildcaa.R
open Go.RowKit Go.Proofs.Ytibilnohnildcaa.Q Go.Proofs.YtibilnohnildcaaW.PrintWords Go.Proofs.YtibilnohnildcaaW.PrintLast Go.Proofs.YtibilnohnildcaaW.PrintMore
set_option linter.unusedVariables false
set_option linter.unusedSimpArgs false
theorem Trio.mem {sp : List S52} {p : Int} {S : List Int} {y0 y1 y2 : Int} (h : Trio sp p S y0 y1 y2) : ∀ x ∈ [y0, y1, y2], x ∈ S := fun x hx => by
  obtain ⟨s0, s1, s2, m0, e0, m1, e1, m2, e2⟩ := h
  simp only [List.mem_cons, List.not_mem_nil, or_false] at hx
  rcases hx with rfl | rfl | rfl
  · rw [← e0]; exact m0.want
  · rw [← e1]; exact m1.want.1
  · rw [← e2]; exact m2.want.1
/-- A node leaves a tenant's ring. -/
theorem trio_gone {sp : List S52} {p : Int} {S T : List Int} {x y0 y1 y2 z0 z1 z2 : Int} (hr : ∀ s ∈ sp, U64 s.f0) (hS : ∀ y, y ∈ T ↔ y ∈ S ∧ y ≠ x) (h : Trio sp p S y0 y1 y2) (g : Trio sp p T z0 z1 z2) :
    (x ∉ [y0, y1, y2] → [z0, z1, z2] = [y0, y1, y2]) ∧ (∀ y ∈ [y0, y1, y2], y ≠ x → y ∈ [z0, z1, z2]) := by
  obtain ⟨s0, s1, s2, m0, e0, m1, e1, m2, e2⟩ := h
  obtain ⟨t0, t1, t2, n0, f0, n1, f1, n2, f2⟩ := g
  have d1 : y1 ≠ y0 := e1 ▸ m1.want.2
  have d2 : y2 ≠ y0 := e2 ▸ m2.want.2.1
  have d3 : y2 ≠ y1 := e2 ▸ m2.want.2.2
  have z0y : x ≠ y0 → z0 = y0 := fun hx => by
    have : t0 = s0 := n0.unique hr (m0.sub (fun y hy => ((hS y).1 hy).1) ((hS _).2 ⟨m0.want, by rw [e0]; exact fun e => hx e.symm⟩))
    rw [← f0, this, e0]
  have z1y : x ≠ y0 → x ≠ y1 → z1 = y1 := fun hx hx1 => by
    have hz := z0y hx
    have : t1 = s1 := n1.unique hr (m1.sub (fun y hy => ⟨((hS y).1 hy.1).1, by rw [← hz]; exact hy.2⟩) ⟨(hS _).2 ⟨m1.want.1, by rw [e1]; exact fun e => hx1 e.symm⟩, by rw [hz]; exact m1.want.2⟩)
    rw [← f1, this, e1]
  have z2y : x ≠ y0 → x ≠ y1 → x ≠ y2 → z2 = y2 := fun hx hx1 hx2 => by
    have hz := z0y hx
    have hz1 := z1y hx hx1
    have : t2 = s2 := n2.unique hr (m2.sub (fun y hy => ⟨((hS y).1 hy.1).1, by rw [← hz]; exact hy.2.1, by rw [← hz1]; exact hy.2.2⟩) ⟨(hS _).2 ⟨m2.want.1, by rw [e2]; exact fun e => hx2 e.symm⟩, by rw [hz]; exact m2.want.2.1, by rw [hz1]; exact m2.want.2.2⟩)
    rw [← f2, this, e2]
  have g0 : x = y0 → z0 = y1 ∧ z1 = y2 := fun hx => by
    have a : t0 = s1 := n0.unique hr (m1.congr (fun y => by rw [hS, hx]))
    have hz : z0 = y1 := by rw [← f0, a, e1]
    have b : t1 = s2 := n1.unique hr (m2.congr (fun y => by rw [hS, hx, hz]; constructor <;> (intro h; first | exact ⟨h.1.1, h.1.2, h.2⟩ | exact ⟨⟨h.1, h.2.1⟩, h.2.2⟩)))
    exact ⟨hz, by rw [← f1, b, e2]⟩
  have g1 : x = y1 → z1 = y2 := fun hx => by
    have hz := z0y (by rw [hx]; exact d1)
    have b : t1 = s2 := n1.unique hr (m2.congr (fun y => by rw [hS, hx, hz]; constructor <;> (intro h; first | exact ⟨h.1.1, h.2, h.1.2⟩ | exact ⟨⟨h.1, h.2.2⟩, h.2.1⟩)))
    rw [← f1, b, e2]
  constructor
  · intro hx
    simp only [List.mem_cons, List.not_mem_nil, or_false, not_or] at hx
    rw [z0y hx.1, z1y hx.1 hx.2.1, z2y hx.1 hx.2.1 hx.2.2]
  · intro y hy hyx
    simp only [List.mem_cons, List.not_mem_nil, or_false] at hy ⊢
    rcases hy with rfl | rfl | rfl
    · exact .inl (z0y (fun e => hyx e.symm)).symm
    · by_cases hx : x = y0
      · exact .inl (g0 hx).1.symm
      · exact .inr (.inl (z1y hx (fun e => hyx e.symm)).symm)
    · by_cases hx : x = y0
      · exact .inr (.inl (g0 hx).2.symm)
      · by_cases hx1 : x = y1
        · exact .inr (.inl (g1 hx1).symm)
        · exact .inr (.inr (z2y hx hx1 (fun e => hyx e.symm)).symm)
/-- A list without the one at a place. -/
def leftT (l : List Int) (a : Nat) : Nat → List Int
  | 0 => []
  | i + 1 => if i = a then leftT l a i else leftT l a i ++ [rd l (i : Int)]
theorem mem_leftT {l : List Int} {a : Nat} {x : Int} : ∀ i : Nat, x ∈ leftT l a i ↔ ∃ j, j < i ∧ j ≠ a ∧ rd l (j : Int) = x := by
  intro i
  induction i with
  | zero => simp [leftT]
  | succ i ih =>
    unfold leftT
    by_cases e : i = a
    · rw [if_pos e, ih]
      constructor
      · rintro ⟨j, h1, h2, h3⟩; exact ⟨j, by omega, h2, h3⟩
      · rintro ⟨j, h1, h2, h3⟩; exact ⟨j, by omega, h2, h3⟩
    · rw [if_neg e, List.mem_append, ih, List.mem_singleton]
      constructor
      · rintro (⟨j, h1, h2, h3⟩ | h)
        · exact ⟨j, by omega, h2, h3⟩
        · exact ⟨i, by omega, e, h.symm⟩
      · rintro ⟨j, h1, h2, h3⟩
        rcases Nat.lt_or_ge j i with h | h
        · exact .inl ⟨j, h, h2, h3⟩
        · have : j = i := by omega
          subst this
          exact .inr h3.symm
theorem len_leftT (l : List Int) (a : Nat) : ∀ i : Nat, (leftT l a i).length = if a < i then i - 1 else i := by
  intro i
  induction i with
  | zero => simp [leftT]
  | succ i ih =>
    unfold leftT
    by_cases e : i = a
    · rw [if_pos e, ih, if_neg (by omega), if_pos (by omega)]; omega
    · rw [if_neg e, List.length_append, ih, List.length_singleton]
      split <;> split <;> omega
theorem rd_lt {n : Nat} {l : List Int} (h : rightT n l) {i j : Nat} (hij : i < j) (hj : j < l.length) : rd l (i : Int) < rd l (j : Int) := by
  have := right_rising h (j - i - 1) i (by omega)
  rwa [show i + (j - i - 1) + 1 = j by omega] at this
theorem leftT_rising {n : Nat} {l : List Int} (h : rightT n l) (a : Nat) : ∀ i : Nat, i ≤ l.length → (leftT l a i).Pairwise (· < ·) := by
  intro i
  induction i with
  | zero => intro _; simp [leftT]
  | succ i ih =>
    intro hi
    unfold leftT
    by_cases e : i = a
    · rw [if_pos e]; exact ih (by omega)
    · rw [if_neg e, List.pairwise_append]
      refine ⟨ih (by omega), by simp, fun x hx y hy => ?_⟩
      rw [List.mem_singleton] at hy
      obtain ⟨j, h1, _, h3⟩ := (mem_leftT i).1 hx
      rw [← h3, hy]
      exact rd_lt h h1 (by omega)
theorem right_len {n : Nat} {l : List Int} (h : rightT n l) : l.length ≤ n := by
  have := nodup_le (S := l) (out := allT n) ((right_pairwise h).imp (fun h => by omega)) (fun x hx => mem_allT.2 (right_rng h x hx))
  rwa [allT_len] at this
theorem left_mem {n : Nat} {l : List Int} (h : rightT n l) {a : Nat} (ha : a < l.length) (y : Int) : y ∈ leftT l a l.length ↔ y ∈ l ∧ y ≠ rd l (a : Int) := by
  rw [mem_leftT]
  constructor
  · rintro ⟨j, h1, h2, rfl⟩
    refine ⟨rd_mem h1, fun e => ?_⟩
    rcases Nat.lt_or_ge j a with h3 | h3
    · have := rd_lt h h3 ha; omega
    · have := rd_lt h (show a < j by omega) h1; omega
  · rintro ⟨h1, h2⟩
    obtain ⟨j, hj⟩ := List.getElem?_of_mem h1
    have hjl := (List.getElem?_eq_some_iff.1 hj).1
    have e : rd l (j : Int) = y := by rw [rd_get hjl]; exact (List.getElem?_eq_some_iff.1 hj).2
    exact ⟨j, hjl, fun ea => h2 (by rw [← e, ea]), e⟩
theorem left_right {n : Nat} {l : List Int} (h : rightT n l) (h4 : 4 ≤ l.length) (a : Nat) : rightT n (leftT l a l.length) :=
  right_of (by rw [len_leftT]; split <;> omega) (leftT_rising h a l.length (Nat.le_refl _)) (fun x hx => by
    obtain ⟨j, h1, _, rfl⟩ := (mem_leftT _).1 hx
    exact ⟨(h.2 j h1).1, (h.2 j h1).2.1⟩)
open Classical in
theorem right_yes {w : World} {A : Option Addr} {c : Nat} {l : List Int} {n : Nat} (hC : (Kd.int .i64).C w A l.length l) (hc : l.length ≤ c) (hl : l.length ≤ 140737488355328) (h : rightT n l) : Calls Try.prog 19 #[.int .i64 n, .slice A l.length c] w fun e w' => e = .returned (.bool true) ∧ Drawn0 w w' := (right_calls n hC hc hl).mono (fun e w' h2 => by rw [decide_eq_true h] at h2; exact h2)
open Classical in
theorem right_no {w : World} {A : Option Addr} {c : Nat} {l : List Int} {n : Nat} (hC : (Kd.int .i64).C w A l.length l) (hc : l.length ≤ c) (hl : l.length ≤ 140737488355328) (h : ¬ rightT n l) : Calls Try.prog 19 #[.int .i64 n, .slice A l.length c] w fun e w' => e = .returned (.bool false) ∧ Drawn0 w w' := (right_calls n hC hc hl).mono (fun e w' h2 => by rw [decide_eq_false h] at h2; exact h2)
theorem lin_no {w : World} {A : Option Addr} {c : Nat} {l : List Int} (x : Int) (hC : (Kd.int .i64).C w A l.length l) (hc : l.length ≤ c) (hl : l.length ≤ 140737488355328) (h : x ∉ l) : Calls Try.prog 18 #[.slice A l.length c, .int .i64 x] w fun e w' => e = .returned (.bool false) ∧ Drawn0 w w' := (lin_calls x hC hc hl).mono (fun e w' h2 => by rw [decide_eq_false h] at h2; exact h2)
theorem reps_t {w : World} {g n : Nat} {sp : List S52} (h : RingG w g n sp) (hr : IsRing n sp) (A : Option Addr) (c : Nat) (sub : List Int) {p : Int} (hp : U64 p) (hs : (Kd.int .i64).C w A sub.length sub) (hc : sub.length ≤ c) (hl : sub.length ≤ 140737488355328) (hrt : rightT n sub) : Calls Try.prog 16 #[.pointer (some ⟨g, 0, none⟩), .slice A sub.length c, .int .u64 p] w fun e w' => ∃ A3 c3 y0 y1 y2, e = .returned (.tuple #[.slice A3 3 c3, .int .i64 0]) ∧ (Kd.int .i64).C w' A3 3 [y0, y1, y2] ∧ 3 ≤ c3 ∧ Trio sp p sub y0 y1 y2 ∧ Below w.heap.size w w' := by
  refine (reps_reads h hr A c sub p hs hc hl hrt).mono ?_
  rintro e w' ⟨A3, c3, h1, h2, h3, h4⟩
  obtain ⟨y0, y1, y2, hy⟩ := reps_are hr h.top hrt p
  rw [hy.eq] at h2
  exact ⟨A3, c3, y0, y1, y2, h1, h2, h3, reps_trio hr h.top hrt hp hy.eq, h4⟩
theorem same_yes {w : World} {A : Option Addr} {c : Nat} {A2 : Option Addr} {c2 : Nat} {l m : List Int} (h3 : l.length = 3) (h3' : m.length = 3) (hC : (Kd.int .i64).C w A 3 l) (hc : 3 ≤ c) (hC2 : (Kd.int .i64).C w A2 3 m) (hc2 : 3 ≤ c2) (h : l = m) : Calls Try.prog 15 #[.slice A 3 c, .slice A2 3 c2] w fun e w' => e = .returned (.bool true) ∧ Drawn0 w w' := by
  have := same_calls (l := l) (m := m) (by rw [h3]; exact hC) (by omega) (by rw [h3']; exact hC2) (by omega) (by omega) (c := c) (c2 := c2)
  rw [h3, h3'] at this
  exact this.mono (fun e w' h2 => by rw [decide_eq_true h] at h2; exact h2)
theorem in3 {w : World} {A : Option Addr} {c : Nat} {y0 y1 y2 : Int} {x : Int} (hC : (Kd.int .i64).C w A 3 [y0, y1, y2]) (hc : 3 ≤ c) (h : x ∈ [y0, y1, y2]) : Calls Try.prog 18 #[.slice A 3 c, .int .i64 x] w fun e w' => e = .returned (.bool true) ∧ Drawn0 w w' := lin_yes (l := [y0, y1, y2]) x hC hc (by simp) h
theorem out3 {w : World} {A : Option Addr} {c : Nat} {y0 y1 y2 : Int} {x : Int} (hC : (Kd.int .i64).C w A 3 [y0, y1, y2]) (hc : 3 ≤ c) (h : x ∉ [y0, y1, y2]) : Calls Try.prog 18 #[.slice A 3 c, .int .i64 x] w fun e w' => e = .returned (.bool false) ∧ Drawn0 w w' := lin_no (l := [y0, y1, y2]) x hC hc (by simp) h
set_option maxHeartbeats 8000000 in
set_option maxRecDepth 100000 in
theorem moves_law (a0 : Int) (A1 : Option Addr) (c1 : Nat) (l : List Int) (a2 a3 : Int) (w : World) (hr : (Kd.int .i64).C w A1 l.length l) (hc : l.length ≤ c1) (hl : l.length ≤ 140737488355328) (hp : U64 a2) : Calls Try.prog 6 #[.int .i64 a0, .slice A1 l.length c1, .int .u64 a2, .int .i64 a3] w fun e w' => e = .returned (.bool true) ∧ Below w.heap.size w w' := by
  by_cases hm : ¬ (3 ≤ a0 ∧ a0 ≤ 16)
  · have HM := Aside0.mk hm
    clear hm hr hc hl hp
    go_enter Try.func6, Try.ntmps6
    go_wp2_with (first
      | (go_at_call 10; (with_reducible refine (live_calls _).mono ?_); rintro e w2 ⟨rfl, hb⟩; have HB2 := Aside0.mk (below_step HB3.out hb); clear hb)
      | (go_at_call 10; (with_reducible refine (live_calls _).mono ?_); rintro e w1 ⟨rfl, hb⟩; have HB1 := Aside0.mk hb; clear hb)
      | (go_at_call 11; (with_reducible refine (may_no _ HM.out).mono ?_); rintro e w3 ⟨rfl, hd⟩; have HB3 := Aside0.mk (below_step HB1.out hd.below); clear hd))
    go_ret
    exact ⟨rfl, HB2.out⟩
  have hm1 : 3 ≤ a0 ∧ a0 ≤ 16 := Classical.byContradiction hm
  clear hm
  obtain ⟨n, rfl⟩ : ∃ n : Nat, a0 = (n : Int) := ⟨a0.toNat, by omega⟩
  have HM := Aside0.mk hm1
  have HN := Aside0.mk (show 3 ≤ n ∧ n ≤ 16 by omega)
  have HC := Aside0.mk hr
  have HCC := Aside0.mk (And.intro hc hl)
  have HP := Aside0.mk hp
  clear hm1 hr hc hl hp
  by_cases hrt : ¬ rightT n l
  · have HNR := Aside0.mk (fun (W : World) (hw : Below w.heap.size w W) => right_no (Kd.C_below HC.out hw) HCC.out.1 HCC.out.2 hrt)
    clear hrt
    generalize l.length = m at *
    go_enter Try.func6, Try.ntmps6
    go_wp2_with (first
      | (go_at_call 10; (with_reducible refine (live_calls _).mono ?_); rintro e w2 ⟨rfl, hb⟩; have HB2 := Aside0.mk (below_step HB5.out hb); clear hb)
      | (go_at_call 10; (with_reducible refine (live_calls _).mono ?_); rintro e w1 ⟨rfl, hb⟩; have HB1 := Aside0.mk hb; clear hb)
      | (go_at_call 11; (with_reducible refine (may_yes _ HM.out).mono ?_); rintro e w3 ⟨rfl, hd⟩; have HB3 := Aside0.mk (below_step HB1.out hd.below); clear hd)
      | (go_at_call 19; (with_reducible refine (HNR.out _ HB3.out).mono ?_); rintro e w5 ⟨rfl, hd⟩; have HB5 := Aside0.mk (below_step HB3.out hd.below); clear hd))
    go_ret
    exact ⟨rfl, HB2.out⟩
  have hrt2 : rightT n l := Classical.byContradiction hrt
  have HRT := Aside0.mk hrt2
  have HYR := Aside0.mk (fun (W : World) (hw : Below w.heap.size w W) => right_yes (Kd.C_below HC.out hw) HCC.out.1 HCC.out.2 hrt2)
  clear hrt hrt2
  obtain ⟨m, hm⟩ : ∃ m : Nat, m = l.length := ⟨_, rfl⟩
  rw [← hm] at HC HCC HYR ⊢
  have HML := Aside0.mk hm
  clear hm
  by_cases h4 : (m : Int) < 4
  · go_enter Try.func6, Try.ntmps6
    go_wp2_with (first
      | (go_at_call 10; (with_reducible refine (live_calls _).mono ?_); rintro e w2 ⟨rfl, hb⟩; have HB2 := Aside0.mk (below_step HB5.out hb); clear hb)
      | (go_at_call 10; (with_reducible refine (live_calls _).mono ?_); rintro e w1 ⟨rfl, hb⟩; have HB1 := Aside0.mk hb; clear hb)
      | (go_at_call 11; (with_reducible refine (may_yes _ HM.out).mono ?_); rintro e w3 ⟨rfl, hd⟩; have HB3 := Aside0.mk (below_step HB1.out hd.below); clear hd)
      | (go_at_call 19; (with_reducible refine (HYR.out _ HB3.out).mono ?_); rintro e w5 ⟨rfl, hd⟩; have HB5 := Aside0.mk (below_step HB3.out hd.below); clear hd))
    go_ret
    exact ⟨rfl, HB2.out⟩
  by_cases h3 : a3 < 0
  · go_enter Try.func6, Try.ntmps6
    go_wp2_with (first
      | (go_at_call 10; (with_reducible refine (live_calls _).mono ?_); rintro e w2 ⟨rfl, hb⟩; have HB2 := Aside0.mk (below_step HB5.out hb); clear hb)
      | (go_at_call 10; (with_reducible refine (live_calls _).mono ?_); rintro e w1 ⟨rfl, hb⟩; have HB1 := Aside0.mk hb; clear hb)
      | (go_at_call 11; (with_reducible refine (may_yes _ HM.out).mono ?_); rintro e w3 ⟨rfl, hd⟩; have HB3 := Aside0.mk (below_step HB1.out hd.below); clear hd)
      | (go_at_call 19; (with_reducible refine (HYR.out _ HB3.out).mono ?_); rintro e w5 ⟨rfl, hd⟩; have HB5 := Aside0.mk (below_step HB3.out hd.below); clear hd))
    go_ret
    exact ⟨rfl, HB2.out⟩
  have H4 := Aside0.mk (show 4 ≤ m by omega)
  go_enter Try.func6, Try.ntmps6
  go_wp2_with (first
    | (go_at_call 10; (with_reducible refine (live_calls _).mono ?_); rintro e w1 ⟨rfl, hb⟩; have HB1 := Aside0.mk hb; clear hb)
    | (go_at_call 11; (with_reducible refine (may_yes _ HM.out).mono ?_); rintro e w3 ⟨rfl, hd⟩; have HB3 := Aside0.mk (below_step HB1.out hd.below); clear hd)
    | (go_at_call 19; (with_reducible refine (HYR.out _ HB3.out).mono ?_); rintro e w5 ⟨rfl, hd⟩; have HB5 := Aside0.mk (below_step HB3.out hd.below); clear hd)
    | (go_at_call 12; (with_reducible refine (new_calls n _ HN.out.1 HN.out.2).mono ?_); rintro e w4 ⟨g, sp, rfl, hG, hI, hb⟩; have HG4 := Aside0.mk hG; have HI := Aside0.mk hI; have HB4 := Aside0.mk (below_step HB5.out hb); clear hG hI hb))
  obtain ⟨a, ha⟩ : ∃ a : Nat, a3 % (m : Int) = (a : Int) := ⟨(a3 % (m : Int)).toNat, by have := Int.emod_nonneg a3 (show (m : Int) ≠ 0 by omega); omega⟩
  have ham : a < m := by have := Int.emod_lt_of_pos a3 (show (0 : Int) < (m : Int) by omega); omega
  rw [ha]
  have HA := Aside0.mk ham
  clear ha h3
  have HRL := Aside0.mk (show rightT n (leftT l a l.length) from left_right HRT.out (by have := HML.out; omega) a)
  have HLM := Aside0.mk (show ∀ y, y ∈ leftT l a l.length ↔ y ∈ l ∧ y ≠ rd l (a : Int) from left_mem HRT.out (by have := HML.out; omega))
  have HM16 := Aside0.mk (show m ≤ 16 by have := right_len HRT.out; have := HML.out; have := HN.out.2; omega)
  have HLL := Aside0.mk (show (leftT l a l.length).length ≤ 140737488355328 by rw [len_leftT]; have := HCC.out.2; have := HML.out; split <;> omega)
  rw [← HML.out] at HRL HLM HLL
  go_loopg [11, 60] (m + 1) (fun kq v11 v60 wr => ∃ (i : Nat), v60 = .int .i64 i ∧ Aside0 (kq + i = m + 1 ∧ i ≤ m) ∧ Aside0 ((Kd.int .i64).R 3 wr w4.heap.size (fun _ => True) v11 (leftT l a i)) ∧ Aside0 (Below w4.heap.size w4 wr))
  case atStart => exact ⟨0, rfl, ⟨by omega⟩, ⟨Kd.R_nil _ _ _ _ _⟩, ⟨Below.refl _ _⟩⟩
  case round =>
    obtain ⟨i, rfl, HK, HO, HB⟩ := hrel
    cases gk with
    | zero => have := HK.out; omega
    | succ k1 =>
    by_cases hlt : i < m
    · have hi0 : (0 : Int) ≤ (i : Int) := by omega
      have hi1 : (i : Int) < (m : Int) := by omega
      obtain ⟨ad, hAe, x0⟩ := Kd.at_int (Kd.C_below HC.out (below_step HB4.out HB.out)) (i : Int) hi0 hi1
      simp only [Int.toNat_natCast] at x0
      by_cases e : i = a
      · have HLS := Aside0.mk (show leftT l a (i + 1) = leftT l a i from if_pos e)
        subst e
        subst hAe
        generalize rd l (i : Int) = x at *
        go_wp2_with (fail)
        go_roundg k1
        case measure => omega
        case rel => exact ⟨i + 1, by first | rfl | (simp; done) | (rw [wrap_id (n := (i : Int) + 1) (by omega) (by have := HCC.out; have := HK.out; omega)]; first | rfl | (simp; done)), ⟨by have := HK.out; omega⟩, ⟨by rw [HLS.out]; exact HO.out⟩, HB⟩
      · have hne : ¬ (i : Int) = (a : Int) := by omega
        have HLS := Aside0.mk (show leftT l a (i + 1) = leftT l a i ++ [rd l (i : Int)] from if_neg e)
        have hol := len_leftT l a i
        have HOL := Aside0.mk (show (leftT l a i).length ≤ 16 by rw [hol]; have := HM16.out; split <;> omega)
        clear e hol
        subst hAe
        generalize rd l (i : Int) = x at *
        generalize leftT l a i = OUT at *
        go_wp2_with (first
          | ((with_reducible refine gate_builtin (b := .append) (xs := #[.tmp 68, .tmp 70]) rfl ?_); at_builtin; refine Kd.R_append (Kd.int .i64) (w0 := w4) w4.heap.size rfl (.tmp 68) (.tmp 70) 28 3 (.int .i64 0) 8 rfl Try.underlying28 info3 rfl (by decide) (by omega) u11 OUT x [.int .i64 x] (fun _ => True) (fun _ => False) rfl rfl ?aP (fun _ hk => hk.elim) ?aF ?aO ?aB ?aS ?aL ?_; (case aP => exact rfl); (case aB => exact (by repeat (first | (with_reducible first | exact HB.out | apply below_alloc | apply pw_below_drewN | apply below_drew1) | exact HB.out))); (case aF => exact (fun _ _ => trivial)); (case aO => exact (by (with_reducible repeat (first | apply Kd.R_alloc | apply Kd.R_drewN | apply Kd.R_drew)); exact HO.out)); (case aS => exact (below_size (by repeat (first | (with_reducible first | exact HB.out | apply below_alloc | apply pw_below_drewN | apply below_drew1) | exact HB.out)))); (case aL => have := HOL.out; omega); intro v6 w6 ho hb hg hat; have HO6 := Aside0.mk ho; have HB6 := Aside0.mk hb; clear ho hb hg hat))
        go_roundg k1
        case measure => omega
        case rel => exact ⟨i + 1, by first | rfl | (simp; done) | (rw [wrap_id (n := (i : Int) + 1) (by omega) (by have := HCC.out; have := HK.out; omega)]; first | rfl | (simp; done)), ⟨by have := HK.out; omega⟩, ⟨by rw [HLS.out]; exact HO6.out⟩, HB6⟩
    · have hi : i = m := by have := HK.out; omega
      subst hi
      generalize leftT l a i = LF at *
      obtain ⟨AL, cl, hvl⟩ := Kd.R_slice HO.out
      subst hvl
      have hrd := Kd.R_reads' HO.out
      have HCL := Aside0.mk hrd.2.2
      have HcL := Aside0.mk hrd.2.1
      obtain ⟨q, hq⟩ : ∃ q : Nat, q = LF.length := ⟨_, rfl⟩
      have HCV := Aside0.mk (Kd.C_below HC.out (below_step HB4.out HB.out))
      have HG5 := Aside0.mk (HG4.out.below HB.out)
      have HB5 := Aside0.mk (below_step HB4.out HB.out)
      have HW1 := Aside0.mk (fun (W : World) (hw : Below wr.heap.size wr W) => reps_t (HG5.out.below hw) HI.out A1 c1 l HP.out (HML.out ▸ Kd.C_below HCV.out hw) (HML.out ▸ HCC.out.1) (HML.out ▸ HCC.out.2) HRT.out)
      have HW2 := Aside0.mk (fun (W : World) (hw : Below wr.heap.size wr W) => reps_t (HG5.out.below hw) HI.out AL cl LF HP.out (Kd.C_below HCL.out hw) HcL.out HLL.out HRL.out)
      rw [← HML.out] at HW1
      rw [← hq] at HW2 ⊢
      clear hlt hrd hq
      go_wp2_with (first
        | (go_at_call 16; (with_reducible refine (HW2.out _ HB6.out).mono ?_); rintro e w7 ⟨A7, c7, z0, z1, z2, rfl, hC, hc, hT, hb⟩; have HC7 := Aside0.mk hC; have HC67 := Aside0.mk (Kd.C_below HC6.out hb); have Hc7 := Aside0.mk hc; have HT7 := Aside0.mk hT; have HB7 := Aside0.mk (below_step HB6.out hb); obtain ⟨ad, hAe, xa⟩ := Kd.at_int (Kd.C_below HCV.out (below_step HB6.out hb)) (a : Int) (by omega) (by have := HA.out; omega); simp only [Int.toNat_natCast] at xa; have ha0 : (0 : Int) ≤ (a : Int) := (by omega); have ha1 : (a : Int) < (i : Int) := (by have := HA.out; omega); subst hAe; clear hC hc hT hb)
        | (go_at_call 16; (with_reducible refine (HW1.out _ (Below.refl _ _)).mono ?_); rintro e w6 ⟨A6, c6, y0, y1, y2, rfl, hC, hc, hT, hb⟩; have HC6 := Aside0.mk hC; have Hc6 := Aside0.mk hc; have HT6 := Aside0.mk hT; have HB6 := Aside0.mk hb; clear hC hc hT hb))
      obtain ⟨hg1, hg2⟩ := trio_gone (ring_rng HI.out) HLM.out HT6.out HT7.out
      have hxz : rd l (a : Int) ∉ [z0, z1, z2] := fun hm => ((HLM.out _).1 (HT7.out.mem _ hm)).2 rfl
      have HXZ := Aside0.mk hxz
      have HG2 := Aside0.mk hg2
      clear hxz hg2
      generalize rd l (a : Int) = x at *
      by_cases hx : x ∈ [y0, y1, y2]
      · have HX := Aside0.mk hx
        clear hx hg1
        with_reducible refine (in3 HC67.out Hc6.out HX.out).mono ?_
        rintro e w8 ⟨rfl, hd⟩
        have HB8 := Aside0.mk (below_step HB7.out hd.below)
        have HC8 := Aside0.mk (Kd.C_below HC67.out hd.below)
        have HZ8 := Aside0.mk (Kd.C_below HC7.out hd.below)
        have xb := pw_cell_below hd.below xa
        clear hd xa
        have HXB := Aside0.mk xb
        go_wp2_with (fail)
        clear xb
        go_loopg [115] 4 (fun kq v115 wq => ∃ (j : Nat), v115 = .int .i64 j ∧ Aside0 (kq + j = 4 ∧ j ≤ 3) ∧ Aside0 (Below w8.heap.size w8 wq))
        case atStart => exact ⟨0, rfl, ⟨by omega⟩, ⟨Below.refl _ _⟩⟩
        case round =>
          obtain ⟨j, rfl, HJ, HBJ⟩ := hrel
          have xc := pw_cell_below HBJ.out HXB.out
          cases gk with
          | zero => have := HJ.out; omega
          | succ k2 =>
          by_cases hj : j < 3
          · have hj0 : (0 : Int) ≤ (j : Int) := by omega
            have hj1 : (j : Int) < 3 := by omega
            obtain ⟨ae, hAe, x1⟩ := Kd.at_int (Kd.C_below HC8.out HBJ.out) (j : Int) hj0 hj1
            simp only [Int.toNat_natCast] at x1
            have HY := Aside0.mk (show rd [y0, y1, y2] (j : Int) ∈ [y0, y1, y2] from rd_mem (l := [y0, y1, y2]) hj)
            have HZJ := Aside0.mk (Kd.C_below HZ8.out HBJ.out)
            subst hAe
            generalize rd [y0, y1, y2] (j : Int) = y at *
            by_cases e : y = x
            · subst e
              go_wp2_with (fail)
              go_roundg k2
              case measure => omega
              case rel => exact ⟨j + 1, by first | rfl | (simp; done), ⟨by have := HJ.out; omega⟩, HBJ⟩
            · have hne : (y != x) = true := by simp [e]
              have HE := Aside0.mk e
              clear e
              go_wp2_with (go_at_call 18; (with_reducible refine (in3 HZJ.out Hc7.out (HG2.out _ HY.out HE.out)).mono ?_); rintro e w9 ⟨rfl, hd⟩; have HB9 := Aside0.mk (below_step HBJ.out hd.below); clear hd)
              go_roundg k2
              case measure => omega
              case rel => exact ⟨j + 1, by first | rfl | (simp; done), ⟨by have := HJ.out; omega⟩, HB9⟩
          · have hj3 : j = 3 := by have := HJ.out; omega
            subst hj3
            have HZJ := Aside0.mk (Kd.C_below HZ8.out HBJ.out)
            go_wp2_with (go_at_call 18; (with_reducible refine (out3 HZJ.out Hc7.out HXZ.out).mono ?_); rintro e w9 ⟨rfl, hd⟩; have HB9 := Aside0.mk (below_step HBJ.out hd.below); clear hd)
            go_ret
            exact ⟨rfl, below_step HB5.out (below_step HB8.out HB9.out)⟩
      · have HEQ := Aside0.mk (hg1 hx)
        have HX := Aside0.mk hx
        clear hx hg1
        with_reducible refine (out3 HC67.out Hc6.out HX.out).mono ?_
        rintro e w8 ⟨rfl, hd⟩
        have HB8 := Aside0.mk (below_step HB7.out hd.below)
        have HC8 := Aside0.mk (Kd.C_below HC67.out hd.below)
        have HZ8 := Aside0.mk (Kd.C_below HC7.out hd.below)
        clear hd xa
        go_wp2_with (go_at_call 15; (with_reducible refine (same_yes rfl rfl HC8.out Hc6.out HZ8.out Hc7.out HEQ.out.symm).mono ?_); rintro e w9 ⟨rfl, hd⟩; have HB9 := Aside0.mk (below_step HB8.out hd.below); clear hd)
        go_ret
        exact ⟨rfl, below_step HB5.out HB9.out⟩
end Go.Proofs.Ytibilnohnildcaa.R
