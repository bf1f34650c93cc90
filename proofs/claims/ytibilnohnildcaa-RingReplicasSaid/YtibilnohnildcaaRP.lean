import Derived.Test.YtibilnohnildcaaRO
/- The document's ring: its first spot is the ring's. -/
namespace Go.Proofs.Ytibilnohnildcaa.R
open Go.RowKit Go.Proofs.Ytibilnohnildcaa.Q Go.Proofs.YtibilnohnildcaaW.PrintWords Go.Proofs.YtibilnohnildcaaW.PrintLast Go.Proofs.YtibilnohnildcaaW.PrintMore
set_option linter.unusedVariables false
set_option linter.unusedSimpArgs false
/-- The best so far, of some spots. -/
def Best (P : S52 → Prop) (but : List Int) (p : Int) (st : Int × Int) : Prop :=
  (st = (-1, 0) ∧ ∀ s, P s → s.f1 ∈ but) ∨ (∃ s, P s ∧ s.f1 ∉ but ∧ st = (s.f1, dist p s) ∧ ∀ t, P t → t.f1 ∉ but → keyLe p s t)
theorem Best.congr {P Q : S52 → Prop} {but : List Int} {p : Int} {st : Int × Int} (h : Best P but p st) (hPQ : ∀ s, Q s ↔ P s) : Best Q but p st := by
  rcases h with ⟨h1, h2⟩ | ⟨s, h1, h2, h3, h4⟩
  · exact .inl ⟨h1, fun s hs => h2 s ((hPQ s).1 hs)⟩
  · exact .inr ⟨s, (hPQ s).2 h1, h2, h3, fun t ht => h4 t ((hPQ t).1 ht)⟩
theorem best_step {P : S52 → Prop} {but : List Int} {p : Int} {st : Int × Int} (n : Int) (k : Nat) (h : Best P but p st) (hP : ∀ s, P s → 0 ≤ s.f1 ∧ s.f1 ≤ n) (hn : 0 ≤ n) : Best (fun s => P s ∨ s = ⟨placeT n (k : Int), n⟩) but p (rstep but p n st k) := by
  have hd : IntKind.u64.wrap (placeT n (k : Int) - p) = dist p ⟨placeT n (k : Int), n⟩ := rfl
  unfold rstep
  rw [hd]
  by_cases hb : n ∈ but
  · rw [if_neg (fun hh => hh.1 hb)]
    rcases h with ⟨h1, h2⟩ | ⟨s, h1, h2, h3, h4⟩
    · exact .inl ⟨h1, fun s hs => by
        rcases hs with hs | rfl
        · exact h2 s hs
        · exact hb⟩
    · exact .inr ⟨s, .inl h1, h2, h3, fun t ht hw => by
        rcases ht with ht | rfl
        · exact h4 t ht hw
        · exact absurd hb hw⟩
  · rcases h with ⟨h1, h2⟩ | ⟨s, h1, h2, h3, h4⟩
    · rw [if_pos ⟨hb, .inl (by rw [h1]; decide)⟩]
      exact .inr ⟨⟨placeT n (k : Int), n⟩, .inr rfl, hb, rfl, fun t ht hw => by
        rcases ht with ht | rfl
        · exact absurd (h2 t ht) hw
        · exact keyLe_refl _ _⟩
    · have hs0 := hP s h1
      by_cases hlt : dist p ⟨placeT n (k : Int), n⟩ < dist p s
      · rw [if_pos ⟨hb, .inr (by rw [h3]; exact hlt)⟩]
        exact .inr ⟨⟨placeT n (k : Int), n⟩, .inr rfl, hb, rfl, fun t ht hw => by
          rcases ht with ht | rfl
          · exact keyLe_trans (.inl hlt) (h4 t ht hw)
          · exact keyLe_refl _ _⟩
      · rw [if_neg (fun hh => hh.2.elim (fun h => by rw [h3] at h; have h : s.f1 < 0 := h; omega) (fun h => by rw [h3] at h; exact hlt h))]
        exact .inr ⟨s, .inl h1, h2, h3, fun t ht hw => by
          rcases ht with ht | rfl
          · exact h4 t ht hw
          · have := hs0.2
            unfold keyLe
            show dist p s < dist p ⟨placeT n (k : Int), n⟩ ∨ (dist p s = dist p ⟨placeT n (k : Int), n⟩ ∧ s.f1 ≤ n)
            omega⟩
theorem best_node {P : S52 → Prop} {but : List Int} {p : Int} {st : Int × Int} (n : Int) (h : Best P but p st) (hP : ∀ s, P s → 0 ≤ s.f1 ∧ s.f1 ≤ n) (hn : 0 ≤ n) : ∀ k : Nat, Best (fun s => P s ∨ ∃ j : Nat, j < k ∧ s = ⟨placeT n (j : Int), n⟩) but p (rnode but p st n k) := by
  intro k
  induction k with
  | zero => exact h.congr (fun s => by simp)
  | succ k ih =>
    have := best_step n k ih (fun s hs => by
      rcases hs with hs | ⟨j, _, rfl⟩
      · exact hP s hs
      · exact ⟨hn, Int.le_refl _⟩) hn
    refine Best.congr this (fun s => ?_)
    constructor
    · rintro (hs | ⟨j, hj, rfl⟩)
      · exact .inl (.inl hs)
      · rcases Nat.lt_or_ge j k with h2 | h2
        · exact .inl (.inr ⟨j, h2, rfl⟩)
        · have : j = k := by omega
          subst this
          exact .inr rfl
    · rintro ((hs | ⟨j, hj, rfl⟩) | rfl)
      · exact .inl hs
      · exact .inr ⟨j, by omega, rfl⟩
      · exact .inr ⟨k, by omega, rfl⟩
theorem best_fold {l but : List Int} {p : Int} {n : Nat} (hp : l.Pairwise (· < ·)) (hr : ∀ x ∈ l, 0 ≤ x ∧ x < n) : ∀ i : Nat, i ≤ l.length → Best (fun s => ∃ j k : Nat, j < i ∧ k < 8 ∧ s = ⟨placeT (rd l (j : Int)) (k : Int), rd l (j : Int)⟩) but p (rfold l but p i) := by
  intro i
  induction i with
  | zero => intro _; exact .inl ⟨rfl, fun s ⟨j, k, hj, _⟩ => absurd hj (Nat.not_lt_zero _)⟩
  | succ i ih =>
    intro hi
    have hx := hr _ (rd_mem (l := l) (i := i) (by omega))
    have := best_node (rd l (i : Int)) (ih (by omega)) (fun s ⟨j, k, hj, hk, e⟩ => by
      have h1 := hr _ (rd_mem (l := l) (i := j) (by omega))
      have h2 : rd l (j : Int) < rd l (i : Int) := by
        rw [rd_get (by omega), rd_get (by omega)]
        exact List.pairwise_iff_getElem.1 hp j i (by omega) (by omega) hj
      rw [e]
      exact ⟨h1.1, by show rd l (j : Int) ≤ rd l (i : Int); omega⟩) hx.1 8
    refine Best.congr this (fun s => ?_)
    constructor
    · rintro ⟨j, k, hj, hk, rfl⟩
      rcases Nat.lt_or_ge j i with h2 | h2
      · exact .inl ⟨j, k, h2, hk, rfl⟩
      · have : j = i := by omega
        subst this
        exact .inr ⟨k, hk, rfl⟩
    · rintro (⟨j, k, hj, hk, rfl⟩ | ⟨k, hk, rfl⟩)
      · exact ⟨j, k, by omega, hk, rfl⟩
      · exact ⟨i, k, by omega, hk, rfl⟩
/-- The document's first one is the least. -/
theorem rfirst_min {n : Nat} {sp : List S52} {l but : List Int} {p : Int} (h : IsRing n sp) (hp : l.Pairwise (· < ·)) (hr : ∀ x ∈ l, 0 ≤ x ∧ x < n) (hex : ∃ x ∈ l, x ∉ but) : ∃ s, MinAt sp p (fun x => x ∈ l ∧ x ∉ but) s ∧ rfirstT l but p = (s.f1, s.f0) := by
  have hlm : ∀ x ∈ l, ∃ j : Nat, j < l.length ∧ rd l (j : Int) = x := fun x hx => by
    obtain ⟨j, hj⟩ := List.getElem?_of_mem hx
    have hjl := (List.getElem?_eq_some_iff.1 hj).1
    exact ⟨j, hjl, by rw [rd_get hjl]; exact (List.getElem?_eq_some_iff.1 hj).2⟩
  rcases best_fold (but := but) (p := p) hp hr l.length (Nat.le_refl _) with ⟨_, h2⟩ | ⟨s, ⟨j, k, hj, hk, e⟩, h2, h3, h4⟩
  · obtain ⟨x, hx, hxb⟩ := hex
    obtain ⟨j, hj, rfl⟩ := hlm x hx
    exact absurd (h2 ⟨placeT (rd l (j : Int)) ((0 : Nat) : Int), rd l (j : Int)⟩ ⟨j, 0, hj, by omega, rfl⟩) hxb
  · have hx := hr _ (rd_mem (l := l) hj)
    have e1 : s.f1 = rd l (j : Int) := by rw [e]
    have hmem : s ∈ sp := by
      refine h.mem.2 ⟨(rd l (j : Int)).toNat, k, by omega, hk, ?_⟩
      rw [e, show (((rd l (j : Int)).toNat : Nat) : Int) = rd l (j : Int) by omega]
    refine ⟨s, ⟨hmem, ⟨by rw [e1]; exact rd_mem hj, h2⟩, fun t ht hw => ?_⟩, ?_⟩
    · obtain ⟨i, k2, hi, hk2, rfl⟩ := h.mem.1 ht
      obtain ⟨j2, hj2, e2⟩ := hlm _ hw.1
      exact h4 _ ⟨j2, k2, hj2, hk2, by rw [e2]⟩ hw.2
    · unfold rfirstT
      rw [h3]
      show (s.f1, IntKind.u64.wrap (p + dist p s)) = _
      rw [dist_back (ring_rng h s hmem)]
/-- With the marks of those that are left, the ring's first one is the document's. -/
theorem first_rfirst {n : Nat} {S out : List Int} {L : List Bool} {sp : List S52} (h : Inv n S out L) (hs : S.Pairwise (· < ·)) (hr : IsRing n sp) (hl : out.length < S.length) {p : Int} (hp : U64 p) : rfirstT S out p = ((firstT sp p L).f1, (firstT sp p L).f0) := by
  obtain ⟨s, h1, h2⟩ := rfirst_min (p := p) (but := out) hr hs h.rng (exists_left h.dist hl)
  rw [h2, h1.unique (ring_rng hr) (h.min hr hl hp)]
theorem owner_eq {n : Nat} {sp : List S52} (hr : IsRing n sp) (hn : n ≤ 16) (h0 : 0 < n) {p : Int} (hp : U64 p) : (rfirstT (allT n) [] p).1 = ownerT sp n p := by
  rw [first_rfirst (inv_all hn) (allT_rising n) hr (by rw [allT_len]; exact h0) hp]
  rfl
/-- The document's replicas. -/
def rrepsT (sub : List Int) (p : Int) : Nat → List Int × Int
  | 0 => ([], p)
  | k + 1 => ((rrepsT sub p k).1 ++ [(rfirstT sub (rrepsT sub p k).1 (rrepsT sub p k).2).1], (rfirstT sub (rrepsT sub p k).1 (rrepsT sub p k).2).2)
theorem rreps_eq {n : Nat} {sp : List S52} {sub : List Int} (h : rightT n sub) (hr : IsRing n sp) (hn : n ≤ 16) {p : Int} (hp : U64 p) : ∀ k, k ≤ sub.length → rrepsT sub p k = ((repsT sp sub p k).1, (repsT sp sub p k).2.2) ∧ U64 (repsT sp sub p k).2.2 := by
  intro k
  induction k with
  | zero => intro _; exact ⟨rfl, hp⟩
  | succ k ih =>
    intro hk
    obtain ⟨h1, h2⟩ := ih (by omega)
    obtain ⟨i1, i2⟩ := inv_reps h hr hn p k (by omega)
    have hf := first_rfirst i1 (right_pairwise h) hr (by omega) h2
    have hm := i1.min hr (by omega) h2
    unfold rrepsT
    rw [h1]
    dsimp only
    rw [hf]
    exact ⟨rfl, ring_rng hr _ hm.mem⟩
/-- The document's nodes of a tenant, as they are got. -/
def gotT (n : Nat) (t : ByteArray) : Nat → List Int
  | 0 => []
  | k + 1 => gotT n t k ++ [(rfirstT (allT n) (gotT n t k) (xx (strB t ++ [(k : Int)]))).1]
theorem got_eq {n : Nat} {sp : List S52} (hr : IsRing n sp) (hn : n ≤ 16) (t : ByteArray) : ∀ k, k ≤ n → gotT n t k = (subT sp n t k).1 := by
  intro k
  induction k with
  | zero => intro _; rfl
  | succ k ih =>
    intro hk
    obtain ⟨i1, i2⟩ := inv_subT hr hn t k (by omega)
    unfold gotT
    rw [ih (by omega), first_rfirst i1 (allT_rising n) hr (by rw [allT_len]; omega) (xx_rng _)]
    rfl
/-- The nodes of a ring that are in a list. -/
def pickT (got : List Int) : Nat → List Int
  | 0 => []
  | i + 1 => if (i : Int) ∈ got then pickT got i ++ [(i : Int)] else pickT got i
theorem mem_pickT {got : List Int} {x : Int} : ∀ i : Nat, x ∈ pickT got i ↔ 0 ≤ x ∧ x < i ∧ x ∈ got := by
  intro i
  induction i with
  | zero => simp [pickT]; omega
  | succ i ih =>
    unfold pickT
    split
    · rename_i hg
      rw [List.mem_append, ih, List.mem_singleton]
      constructor
      · rintro (h | rfl)
        · exact ⟨h.1, by omega, h.2.2⟩
        · exact ⟨by omega, by omega, hg⟩
      · rintro ⟨h1, h2, h3⟩
        by_cases e : x = i
        · exact .inr e
        · exact .inl ⟨h1, by omega, h3⟩
    · rename_i hg
      rw [ih]
      constructor
      · rintro h; exact ⟨h.1, by omega, h.2.2⟩
      · rintro ⟨h1, h2, h3⟩
        by_cases e : x = i
        · rw [e] at h3; exact absurd h3 hg
        · exact ⟨h1, by omega, h3⟩
theorem pickT_rising (got : List Int) : ∀ i : Nat, (pickT got i).Pairwise (· < ·) := by
  intro i
  induction i with
  | zero => simp [pickT]
  | succ i ih =>
    unfold pickT
    split
    · rw [List.pairwise_append]
      refine ⟨ih, by simp, fun x hx y hy => ?_⟩
      rw [List.mem_singleton] at hy
      have := (mem_pickT i).1 hx
      omega
    · exact ih
theorem pickT_len (got : List Int) : ∀ i : Nat, (pickT got i).length ≤ i := by
  intro i
  induction i with
  | zero => simp [pickT]
  | succ i ih =>
    unfold pickT
    split
    · rw [List.length_append, List.length_singleton]; omega
    · omega
/-- The document's ring of a tenant is the ring's. -/
theorem sub_eq {n : Nat} {sp : List S52} (hr : IsRing n sp) (hn : n ≤ 16) (hn3 : 3 ≤ n) (t : ByteArray) {size : Nat} (h3 : 3 ≤ size) (hs : size ≤ n) : pickT (gotT n t size) n = subF sp n t (size : Int) := by
  refine rising_eq (pickT_rising _ _) (subF_rising hr hn (by omega) hn3) (fun x => ?_)
  have hmn : (mn (size : Int) (n : Int)).toNat = size := by unfold mn; split <;> omega
  rw [mem_pickT, mem_subF, hmn, got_eq hr hn t size hs]
  constructor
  · exact fun h => h.2.2
  · intro h
    have hi := (inv_subT hr hn t size hs).1
    have := hi.rng x (hi.sub x h)
    exact ⟨this.1, this.2, h⟩
end Go.Proofs.Ytibilnohnildcaa.R

/- The document's ring by hand: Owner, Replicas, Sub. -/
namespace Go.Proofs.Ytibilnohnildcaa.R
open Go.RowKit Go.Proofs.Ytibilnohnildcaa.Q Go.Proofs.YtibilnohnildcaaW.PrintWords Go.Proofs.YtibilnohnildcaaW.PrintLast Go.Proofs.YtibilnohnildcaaW.PrintMore
set_option linter.unusedVariables false
set_option linter.unusedSimpArgs false
theorem C_nil0 (w : World) : (Kd.int .i64).C w none 0 [] := ⟨rfl, by simp, fun h => absurd h (by simp)⟩
theorem rall_reads {w : World} (n : Nat) (hn : n ≤ 16) : Calls Try.prog 32 #[.int .i64 n] w fun e w' => ∃ A c, e = .returned (.slice A n c) ∧ (Kd.int .i64).C w' A n (allT n) ∧ n ≤ c ∧ Below w.heap.size w w' := by
  refine (rall_calls n hn).mono ?_
  rintro e w' ⟨v, rfl, hv, hb⟩
  obtain ⟨A, c, rfl⟩ := Kd.R_slice hv
  have h2 := Kd.R_reads' hv
  rw [allT_len] at h2 ⊢
  exact ⟨A, c, rfl, h2.2.2, h2.2.1, hb⟩
theorem rfirst_all {w : World} {n : Nat} (hn : n ≤ 16) (A : Option Addr) (c : Nat) (A2 : Option Addr) (c2 q : Nat) (but : List Int) (p : Int) (hl : (Kd.int .i64).C w A n (allT n)) (hc : n ≤ c) (hb : (Kd.int .i64).C w A2 q but) (hq : q = but.length) (hc2 : q ≤ c2) (hbl : q ≤ 1000) :
    Calls Try.prog 33 #[.slice A n c, .slice A2 q c2, .int .u64 p] w fun e w' => e = .returned (.tuple #[.int .i64 (rfirstT (allT n) but p).1, .int .u64 (rfirstT (allT n) but p).2]) ∧ Below w.heap.size w w' := by
  subst hq
  have := rfirst_calls A c (allT n) A2 c2 but p (by rw [allT_len]; exact hl) (by rw [allT_len]; exact hc) hb hc2 (by rw [allT_len]; omega) (by omega)
  rw [allT_len] at this
  exact this
theorem rowner_calls {w : World} (n : Nat) (hn : n ≤ 16) (p : Int) : Calls Try.prog 24 #[.int .i64 n, .int .u64 p] w fun e w' => e = .returned (.int .i64 (rfirstT (allT n) [] p).1) ∧ Below w.heap.size w w' := by
  have HN := Aside0.mk hn
  clear hn
  go_enter Try.func24, Try.ntmps24
  go_wp2_with (first
    | (go_at_call 32; (with_reducible refine (rall_reads n HN.out).mono ?_); rintro e w1 ⟨A1, c1, rfl, hC, hc, hb⟩; have HC1 := Aside0.mk hC; have Hc1 := Aside0.mk hc; have HB1 := Aside0.mk hb; clear hC hc hb)
    | (go_at_call 33; (with_reducible refine (rfirst_all HN.out A1 c1 none 0 0 [] p HC1.out Hc1.out (C_nil0 w1) rfl (Nat.le_refl _) (by omega)).mono ?_); rintro e w2 ⟨rfl, hb⟩; have HB2 := Aside0.mk (below_step HB1.out hb); clear hb))
  go_ret
  exact ⟨rfl, HB2.out⟩
set_option maxHeartbeats 4000000 in
set_option maxRecDepth 100000 in
theorem rreps_calls {w : World} {n : Nat} {A : Option Addr} {c : Nat} (sub : List Int) (p : Int) (hs : (Kd.int .i64).C w A sub.length sub) (hc : sub.length ≤ c) (hl : sub.length ≤ 140737488355328) (hrt : rightT n sub) : Calls Try.prog 17 #[.int .i64 n, .slice A sub.length c, .int .u64 p] w fun e w' => ∃ A3 c3, e = .returned (.tuple #[.slice A3 3 c3, .int .i64 0]) ∧ (Kd.int .i64).C w' A3 3 (rrepsT sub p 3).1 ∧ 3 ≤ c3 ∧ Below w.heap.size w w' := by
  have HS := Aside0.mk hs
  have HL := Aside0.mk (And.intro hc hl)
  have HRT := Aside0.mk hrt
  have HYR := Aside0.mk (right_yes hs hc hl hrt)
  obtain ⟨m, hm⟩ : ∃ m : Nat, m = sub.length := ⟨_, rfl⟩
  have hlen : ∀ k, (rrepsT sub p k).1.length = k := fun k => by
    induction k with
    | zero => rfl
    | succ k ih => unfold rrepsT; rw [List.length_append, ih]; rfl
  have HLEN := Aside0.mk hlen
  rw [← hm] at HYR ⊢
  have HM := Aside0.mk hm
  clear hs hc hl hrt hm hlen
  go_enter Try.func17, Try.ntmps17
  go_wp2_with (go_at_call 19; (with_reducible refine HYR.out.mono ?_); rintro e w1 ⟨rfl, hd⟩; have HB1 := Aside0.mk hd.below; clear hd)
  go_loopg [2, 8, 15] 4 (fun kq v2 v8 v15 wr => ∃ (k : Nat), v2 = .int .u64 (rrepsT sub p k).2 ∧ v15 = .int .i64 k ∧ Aside0 (kq + k = 4 ∧ k ≤ 3) ∧ Aside0 ((Kd.int .i64).R 3 wr w.heap.size (fun _ => True) v8 (rrepsT sub p k).1) ∧ Aside0 (Below w.heap.size w wr))
  case atStart => exact ⟨0, rfl, rfl, ⟨by omega⟩, ⟨Kd.R_nil _ _ _ _ _⟩, HB1⟩
  case round =>
    obtain ⟨k, rfl, rfl, HK, HO, HB⟩ := hrel
    cases gk with
    | zero => have := HK.out; omega
    | succ k1 =>
    by_cases hk3 : k < 3
    · have hk1 : (k : Int) < 3 := by omega
      have HST := Aside0.mk (show rrepsT sub p (k + 1) = ((rrepsT sub p k).1 ++ [(rfirstT sub (rrepsT sub p k).1 (rrepsT sub p k).2).1], (rfirstT sub (rrepsT sub p k).1 (rrepsT sub p k).2).2) from rfl)
      have HOL := Aside0.mk (HLEN.out k)
      generalize (rrepsT sub p k).1 = OUT at *
      generalize (rrepsT sub p k).2 = PP at *
      obtain ⟨A8, c8, hv8⟩ := Kd.R_slice HO.out
      subst hv8
      have hrd := Kd.R_reads' HO.out
      have HF := Aside0.mk (rfirst_calls A c sub A8 c8 OUT PP (Kd.C_below HS.out HB.out) HL.out.1 hrd.2.2 hrd.2.1 HL.out.2 (by have := HOL.out; omega))
      obtain ⟨q, hq⟩ : ∃ q : Nat, q = OUT.length := ⟨_, rfl⟩
      rw [← HM.out, ← hq] at HF
      obtain ⟨v8, hv8⟩ : ∃ v8 : Value, v8 = .slice A8 q c8 := ⟨_, rfl⟩
      rw [← hq, ← hv8] at HO ⊢
      rw [← hv8] at HF
      clear hrd hk3 hq hv8
      generalize rfirstT sub OUT PP = z at *
      go_wp2_with (first
        | (go_at_call 33; (with_reducible refine HF.out.mono ?_); rintro e w3 ⟨rfl, hb⟩; have HB3 := Aside0.mk (below_step HB.out hb); have HO3 := Aside0.mk (Kd.R_below HO.out hb); clear hb)
        | ((with_reducible refine gate_builtin (b := .append) (xs := #[.tmp 24, .tmp 26]) rfl ?_); at_builtin; refine Kd.R_append (Kd.int .i64) (w0 := w) w.heap.size rfl (.tmp 24) (.tmp 26) 28 3 (.int .i64 0) 8 rfl Try.underlying28 info3 rfl (by decide) (by omega) v8 OUT z.1 [.int .i64 z.1] (fun _ => True) (fun _ => False) rfl rfl ?aP (fun _ hk => hk.elim) ?aF ?aO ?aB ?aS ?aL ?_; (case aP => exact rfl); (case aB => exact (by repeat (first | (with_reducible first | exact HB3.out | apply below_alloc | apply pw_below_drewN | apply below_drew1) | exact HB3.out))); (case aF => exact (fun _ _ => trivial)); (case aO => exact (by (with_reducible repeat (first | apply Kd.R_alloc | apply Kd.R_drewN | apply Kd.R_drew)); exact HO3.out)); (case aS => exact (below_size (by repeat (first | (with_reducible first | exact HB3.out | apply below_alloc | apply pw_below_drewN | apply below_drew1) | exact HB3.out)))); (case aL => have := HOL.out; have := HK.out; omega); intro v6 w6 ho hb hg hat; have HO6 := Aside0.mk ho; have HB6 := Aside0.mk hb; clear ho hb hg hat))
      go_roundg k1
      case measure => omega
      case rel => exact ⟨k + 1, by rw [HST.out], by first | rfl | (simp; done) | (rw [wrap_id (n := (k : Int) + 1) (by omega) (by omega)]; first | rfl | (simp; done)), ⟨by have := HK.out; omega⟩, ⟨by rw [HST.out]; exact HO6.out⟩, HB6⟩
    · have hk : k = 3 := by have := HK.out; omega
      subst hk
      go_wp2_with (fail)
      have hlen := HLEN.out 3
      obtain ⟨A8, c8, hv8⟩ := Kd.R_slice HO.out
      subst hv8
      have hrd := Kd.R_reads' HO.out
      rw [hlen] at hrd ⊢
      go_ret2
      exact ⟨A8, c8, rfl, hrd.2.2, hrd.2.1, HB.out⟩
end Go.Proofs.Ytibilnohnildcaa.R

/- The document's ring by hand: Sub. -/
namespace Go.Proofs.Ytibilnohnildcaa.R
open Go.RowKit Go.Proofs.Ytibilnohnildcaa.Q Go.Proofs.YtibilnohnildcaaW.PrintWords Go.Proofs.YtibilnohnildcaaW.PrintLast Go.Proofs.YtibilnohnildcaaW.PrintMore
set_option linter.unusedVariables false
set_option linter.unusedSimpArgs false
theorem conv_C {w : World} {b cap : Nat} {l : List Int} (h : Conv w b cap l) (hm : l.length ≤ maxLen) : (Kd.int .u8).C w (some ⟨b, 0, none⟩) l.length l := by
  obtain ⟨cs, fz, h1, _, _, h4, _⟩ := h.blk
  exact rowC h1 h4 hm
theorem join_t {wc : World} {b cap : Nat} {t : ByteArray} {k : Int} (hcv : Conv wc b cap (strB t)) (hts : t.size ≤ 1073741824) : Calls Try.prog 35 #[.slice (some ⟨wc.heap.size + 1, 0, none⟩) 2 2] ((wc.alloc (.cells #[.int .u8 k] 5)).alloc (.cells #[.slice (some ⟨b, 0, none⟩) t.size cap, .slice (some ⟨wc.heap.size, 0, none⟩) 1 1] 59)) fun e w' => ∃ A c, e = .returned (.slice A (t.size + 1) c) ∧ (Kd.int .u8).C w' A (strB t ++ [k]).length (strB t ++ [k]) ∧ (strB t ++ [k]).length ≤ c ∧ Below wc.heap.size wc w' := by
  have hz : (wc.alloc (.cells #[.int .u8 k] 5)).heap.size = wc.heap.size + 1 := by simp
  have hcap : (strB t).length ≤ cap := by obtain ⟨cs, fz, h1, h2, _⟩ := hcv.blk; exact h2
  have h1 : (Kd.int .u8).C (wc.alloc (.cells #[.int .u8 k] 5)) (some ⟨b, 0, none⟩) (strB t).length (strB t) := Kd.C_alloc (conv_C hcv (by rw [strB_len]; unfold maxLen; omega)) _
  have h2 := lit_row wc [k] #[.int .u8 k] rfl (by simp [maxLen])
  have := join2_calls (wc.alloc (.cells #[.int .u8 k] 5)) (some ⟨b, 0, none⟩) (strB t) cap hcap h1 (some ⟨wc.heap.size, 0, none⟩) [k] 1 (by simp) h2 (by rw [strB_len, List.length_singleton]; omega)
  rw [hz, strB_len] at this
  refine this.mono ?_
  rintro e w' ⟨v, rfl, hR, hb⟩
  obtain ⟨A, c, rfl⟩ := Kd.R_slice hR
  have hrd := Kd.R_reads' hR
  have hl : (strB t ++ [k]).length = t.size + 1 := by rw [List.length_append, strB_len]; rfl
  refine ⟨A, c, by rw [hl], hrd.2.2, hrd.2.1, ?_⟩
  refine below_step (below_alloc (Below.refl _ _) (.cells #[.int .u8 k] 5)) ?_
  rw [hz]
  exact hb
theorem yy_t {w : World} {A : Option Addr} {c : Nat} {t : ByteArray} {k : Int} (hC : (Kd.int .u8).C w A (strB t ++ [k]).length (strB t ++ [k])) (hc : (strB t ++ [k]).length ≤ c) (hs : t.size ≤ 1073741824) (hk : 0 ≤ k ∧ k < 256) : Calls Try.prog 34 #[.slice A (t.size + 1) c] w fun e w' => e = .returned (.int .u64 (xx (strB t ++ [k]))) ∧ Below w.heap.size w w' := by
  have hl : (strB t ++ [k]).length = t.size + 1 := by rw [List.length_append, strB_len]; rfl
  have := yy_calls A c (strB t ++ [k]) w hC hc (by rw [hl]; omega) (fun x hx => by
    rcases List.mem_append.1 hx with h | h
    · exact strB_bytes t x h
    · rw [List.mem_singleton] at h; rw [h]; exact hk)
  rw [hl] at this
  exact this
theorem rin_yes {w : World} {A : Option Addr} {c q : Nat} {l : List Int} (x : Int) (hC : (Kd.int .i64).C w A q l) (hq : q = l.length) (hc : q ≤ c) (hl : q ≤ 1000) (h : x ∈ l) : Calls Try.prog 36 #[.slice A q c, .int .i64 x] w fun e w' => e = .returned (.bool true) ∧ Drawn0 w w' := by
  subst hq
  exact (rin_calls x hC hc (by omega)).mono (fun e w' h2 => by rw [decide_eq_true h] at h2; exact h2)
theorem rin_no {w : World} {A : Option Addr} {c q : Nat} {l : List Int} (x : Int) (hC : (Kd.int .i64).C w A q l) (hq : q = l.length) (hc : q ≤ c) (hl : q ≤ 1000) (h : x ∉ l) : Calls Try.prog 36 #[.slice A q c, .int .i64 x] w fun e w' => e = .returned (.bool false) ∧ Drawn0 w w' := by
  subst hq
  exact (rin_calls x hC hc (by omega)).mono (fun e w' h2 => by rw [decide_eq_false h] at h2; exact h2)
theorem gotT_len (n : Nat) (t : ByteArray) : ∀ k, (gotT n t k).length = k := by
  intro k
  induction k with
  | zero => rfl
  | succ k ih => unfold gotT; rw [List.length_append, ih]; rfl
theorem rsub_small (n : Int) (t : ByteArray) (size : Int) (w : World) (h3 : size < 3) : Calls Try.prog 14 #[.int .i64 n, .string t, .int .i64 size] w fun e w' => e = .returned (.tuple #[.slice none 0 0, .int .i64 1]) ∧ w' = w := by
  go_enter Try.func14, Try.ntmps14
  go_wp2
  go_ret2
  exact ⟨rfl, rfl⟩
theorem rsub_all {w : World} {n : Nat} (hn : n ≤ 16) (t : ByteArray) (size : Int) (h3 : ¬ size < 3) (hs : size ≥ (n : Int)) : Calls Try.prog 14 #[.int .i64 n, .string t, .int .i64 size] w fun e w' => ∃ A c, e = .returned (.tuple #[.slice A n c, .int .i64 0]) ∧ (Kd.int .i64).C w' A n (allT n) ∧ n ≤ c ∧ Below w.heap.size w w' := by
  have HN := Aside0.mk hn
  clear hn
  go_enter Try.func14, Try.ntmps14
  go_wp2_with (go_at_call 32; (with_reducible refine (rall_reads n HN.out).mono ?_); rintro e w1 ⟨A1, c1, rfl, hC, hc, hb⟩; have HC1 := Aside0.mk hC; have Hc1 := Aside0.mk hc; have HB1 := Aside0.mk hb; clear hC hc hb)
  go_ret2
  exact ⟨A1, c1, rfl, HC1.out, Hc1.out, HB1.out⟩
set_option maxHeartbeats 8000000 in
set_option maxRecDepth 100000 in
theorem rsub_calls {w : World} {n : Nat} (hn : n ≤ 16) (t : ByteArray) (hts : t.size ≤ 1073741824) (size : Nat) (h3 : 3 ≤ size) (hs : size < n) : Calls Try.prog 14 #[.int .i64 n, .string t, .int .i64 size] w fun e w' => ∃ A c, e = .returned (.tuple #[.slice A (pickT (gotT n t size) n).length c, .int .i64 0]) ∧ (Kd.int .i64).C w' A (pickT (gotT n t size) n).length (pickT (gotT n t size) n) ∧ (pickT (gotT n t size) n).length ≤ c ∧ Below w.heap.size w w' := by
  have HN := Aside0.mk (And.intro hn hs)
  have HT := Aside0.mk hts
  have b1 : ¬ (size : Int) < 3 := by omega
  have b2 : ¬ (size : Int) ≥ (n : Int) := by omega
  clear hn hs hts h3
  go_enter Try.func14, Try.ntmps14
  go_wp2
  clear b1 b2
  go_loopg [8, 22] (size + 1) (fun kq v8 v22 wr => ∃ (k : Nat), v22 = .int .i64 k ∧ Aside0 (kq + k = size + 1 ∧ k ≤ size) ∧ Aside0 ((Kd.int .i64).R 3 wr w.heap.size (fun _ => True) v8 (gotT n t k)) ∧ Aside0 (Below w.heap.size w wr))
  case atStart => exact ⟨0, rfl, ⟨by omega⟩, ⟨Kd.R_nil _ _ _ _ _⟩, ⟨Below.refl _ _⟩⟩
  case round =>
    obtain ⟨k, rfl, HK, HO, HB⟩ := hrel
    cases gk with
    | zero => have := HK.out; omega
    | succ k1 =>
    by_cases hk3 : k < size
    · have hk1 : (k : Int) < (size : Int) := by omega
      have HST := Aside0.mk (show gotT n t (k + 1) = gotT n t k ++ [(rfirstT (allT n) (gotT n t k) (xx (strB t ++ [(k : Int)]))).1] from rfl)
      have HOL := Aside0.mk (gotT_len n t k)
      generalize gotT n t k = OUT at *
      have hw8 := wrap8 (x := (k : Int)) (by omega) (by have := HN.out; omega)
      have HKR := Aside0.mk (show (0 : Int) ≤ (k : Int) ∧ (k : Int) < 256 by have := HN.out; omega)
      obtain ⟨A8, c8, hv8⟩ := Kd.R_slice HO.out
      subst hv8
      have HRD := Aside0.mk (Kd.R_reads' HO.out)
      rw [HOL.out] at HO HRD ⊢
      obtain ⟨v8, hv8⟩ : ∃ v8 : Value, v8 = .slice A8 k c8 := ⟨_, rfl⟩
      rw [← hv8] at HO ⊢
      have HV8 := Aside0.mk hv8
      clear hk3 hv8
      go_wp2_with (first
        | (go_at_call 32; (with_reducible refine (rall_reads n HN.out.1).mono ?_); rintro e w1 ⟨A1, c1, rfl, hC, hc, hb⟩; obtain ⟨cap, wc, hcv, hcn, hbc⟩ := conv_str w1 t; have HB1 := Aside0.mk (below_step HB.out (below_step hb hbc)); have HC1 := Aside0.mk (Kd.C_below hC hbc); have Hc1 := Aside0.mk hc; have HCV := Aside0.mk hcn; have HO1 := Aside0.mk (Kd.R_below HO.out (below_step hb hbc)); clear hC hc hb hcn hbc)
        | (go_at_call 35; (with_reducible refine (join_t HCV.out HT.out).mono ?_); rintro e w3 ⟨A3, c3, rfl, hC, hc, hb⟩; have HB3 := Aside0.mk (below_step HB1.out hb); have HC3 := Aside0.mk (Kd.C_below HC1.out hb); have HO3 := Aside0.mk (Kd.R_below HO1.out hb); have HJ3 := Aside0.mk (And.intro hC hc); clear hC hc hb)
        | (go_at_call 34; (with_reducible refine (yy_t HJ3.out.1 HJ3.out.2 HT.out HKR.out).mono ?_); rintro e w4 ⟨rfl, hb⟩; have HB4 := Aside0.mk (below_step HB3.out hb); have HC4 := Aside0.mk (Kd.C_below HC3.out hb); have HO4 := Aside0.mk (Kd.R_below HO3.out hb); clear hb; have hrd4 := Kd.R_reads' (HV8.out ▸ HO4.out); rw [HOL.out] at hrd4; have HRD4 := Aside0.mk hrd4; clear hrd4; rw [HV8.out])
        | (go_at_call 33; (with_reducible refine (rfirst_all HN.out.1 A1 c1 A8 c8 k OUT _ HC4.out Hc1.out HRD4.out.2.2 HOL.out.symm HRD4.out.2.1 (by have := HN.out; have := HK.out; omega)).mono ?_); rintro e w5 ⟨rfl, hb⟩; have HB5 := Aside0.mk (below_step HB4.out hb); have HO5 := Aside0.mk (Kd.R_below HO4.out hb); clear hb)
        | ((with_reducible refine gate_builtin (b := .append) (xs := #[.tmp 40, .tmp 42]) rfl ?_); at_builtin; refine Kd.R_append (Kd.int .i64) (w0 := w) w.heap.size rfl (.tmp 40) (.tmp 42) 28 3 (.int .i64 0) 8 rfl Try.underlying28 info3 rfl (by decide) (by omega) (.slice A8 k c8) OUT ((rfirstT (allT n) OUT (xx (strB t ++ [(k : Int)]))).1) [.int .i64 ((rfirstT (allT n) OUT (xx (strB t ++ [(k : Int)]))).1)] (fun _ => True) (fun _ => False) rfl rfl ?aP (fun _ hk => hk.elim) ?aF ?aO ?aB ?aS ?aL ?_; (case aP => exact rfl); (case aB => exact (by repeat (first | (with_reducible first | exact HB5.out | apply below_alloc | apply pw_below_drewN | apply below_drew1) | exact HB5.out))); (case aF => exact (fun _ _ => trivial)); (case aO => exact (by (with_reducible repeat (first | apply Kd.R_alloc | apply Kd.R_drewN | apply Kd.R_drew)); exact (HV8.out ▸ HO5.out))); (case aS => exact (below_size (by repeat (first | (with_reducible first | exact HB5.out | apply below_alloc | apply pw_below_drewN | apply below_drew1) | exact HB5.out)))); (case aL => have := HOL.out; have := HK.out; have := HN.out; omega); intro v6 w6 ho hb hg hat; have HO6 := Aside0.mk ho; have HB6 := Aside0.mk hb; clear ho hb hg hat))
      go_roundg k1
      case measure => omega
      case rel => exact ⟨k + 1, by first | rfl | (simp; done) | (rw [wrap_id (n := (k : Int) + 1) (by omega) (by have := HN.out; omega)]; first | rfl | (simp; done)), ⟨by have := HK.out; omega⟩, ⟨by rw [HST.out]; exact HO6.out⟩, HB6⟩
    · have hk : k = size := by have := HK.out; omega
      subst hk
      have HGL := Aside0.mk (gotT_len n t k)
      obtain ⟨G, hGG⟩ : ∃ G : List Int, G = gotT n t k := ⟨_, rfl⟩
      rw [← hGG] at HGL HO
      have HGG := Aside0.mk hGG
      clear hGG
      obtain ⟨A8, c8, hv8⟩ := Kd.R_slice HO.out
      subst hv8
      have hrd := Kd.R_reads' HO.out
      rw [HGL.out] at hrd ⊢
      have HRD := Aside0.mk hrd
      clear hrd HO hk3
      go_wp2_with (fail)
      rename World => wo
      go_loopg [12, 46] (n + 1) (fun kq v12 v46 wq => ∃ (i : Nat), v46 = .int .i64 i ∧ Aside0 (kq + i = n + 1 ∧ i ≤ n) ∧ Aside0 ((Kd.int .i64).R 3 wq wo.heap.size (fun _ => True) v12 (pickT G i)) ∧ Aside0 (Below wo.heap.size wo wq))
      case atStart => exact ⟨0, rfl, ⟨by omega⟩, ⟨Kd.R_nil _ _ _ _ _⟩, ⟨Below.refl _ _⟩⟩
      case round =>
        obtain ⟨i, rfl, HI, HO, HBI⟩ := hrel
        cases gk with
        | zero => have := HI.out; omega
        | succ k2 =>
        by_cases hin : i < n
        · have hi1 : (i : Int) < (n : Int) := by omega
          have HPL := Aside0.mk (pickT_len G i)
          have HCI := Aside0.mk (Kd.C_below HRD.out.2.2 HBI.out)
          by_cases hg : (i : Int) ∈ G
          · have HST := Aside0.mk (show pickT G (i + 1) = pickT G i ++ [(i : Int)] from if_pos hg)
            have HG := Aside0.mk hg
            clear hg hin
            generalize pickT G i = OUT at *
            go_wp2_with (first
              | (go_at_call 36; (with_reducible refine (rin_yes (i : Int) HCI.out HGL.out.symm HRD.out.2.1 (by have := HN.out; omega) HG.out).mono ?_); rintro e w5 ⟨rfl, hd⟩; have HB5 := Aside0.mk (below_step HBI.out hd.below); have HO5 := Aside0.mk (Kd.R_below HO.out hd.below); clear hd)
              | ((with_reducible refine gate_builtin (b := .append) (xs := #[.tmp 52, .tmp 54]) rfl ?_); at_builtin; refine Kd.R_append (Kd.int .i64) (w0 := wo) wo.heap.size rfl (.tmp 52) (.tmp 54) 28 3 (.int .i64 0) 8 rfl Try.underlying28 info3 rfl (by decide) (by omega) u12 OUT (i : Int) [.int .i64 (i : Int)] (fun _ => True) (fun _ => False) rfl rfl ?aP (fun _ hk => hk.elim) ?aF ?aO ?aB ?aS ?aL ?_; (case aP => exact rfl); (case aB => exact (by repeat (first | (with_reducible first | exact HB5.out | apply below_alloc | apply pw_below_drewN | apply below_drew1) | exact HB5.out))); (case aF => exact (fun _ _ => trivial)); (case aO => exact (by (with_reducible repeat (first | apply Kd.R_alloc | apply Kd.R_drewN | apply Kd.R_drew)); exact HO5.out)); (case aS => exact (below_size (by repeat (first | (with_reducible first | exact HB5.out | apply below_alloc | apply pw_below_drewN | apply below_drew1) | exact HB5.out)))); (case aL => have := HPL.out; have := HI.out; have := HN.out; omega); intro v6 w6 ho hb hg hat; have HO6 := Aside0.mk ho; have HB6 := Aside0.mk hb; clear ho hb hg hat))
            go_roundg k2
            case measure => omega
            case rel => exact ⟨i + 1, by first | rfl | (simp; done) | (rw [wrap_id (n := (i : Int) + 1) (by omega) (by have := HN.out; have := HI.out; omega)]; first | rfl | (simp; done)), ⟨by have := HI.out; omega⟩, ⟨by rw [HST.out]; exact HO6.out⟩, HB6⟩
          · have HST := Aside0.mk (show pickT G (i + 1) = pickT G i from if_neg hg)
            have HG := Aside0.mk hg
            clear hg hin
            generalize pickT G i = OUT at *
            go_wp2_with (go_at_call 36; (with_reducible refine (rin_no (i : Int) HCI.out HGL.out.symm HRD.out.2.1 (by have := HN.out; omega) HG.out).mono ?_); rintro e w5 ⟨rfl, hd⟩; have HB5 := Aside0.mk (below_step HBI.out hd.below); have HO5 := Aside0.mk (Kd.R_below HO.out hd.below); clear hd)
            go_roundg k2
            case measure => omega
            case rel => exact ⟨i + 1, by first | rfl | (simp; done) | (rw [wrap_id (n := (i : Int) + 1) (by omega) (by have := HN.out; have := HI.out; omega)]; first | rfl | (simp; done)), ⟨by have := HI.out; omega⟩, ⟨by rw [HST.out]; exact HO5.out⟩, HB5⟩
        · have hi : i = n := by have := HI.out; omega
          subst hi
          obtain ⟨A9, c9, hv9⟩ := Kd.R_slice HO.out
          subst hv9
          have hrd9 := Kd.R_reads' HO.out
          have HR9 := Aside0.mk hrd9
          have HPQ := Aside0.mk (show pickT (gotT i t k) i = pickT G i by rw [HGG.out])
          generalize hp : pickT G i = OUT at *
          obtain ⟨q, hq⟩ : ∃ q : Nat, q = OUT.length := ⟨_, rfl⟩
          rw [← hq] at HR9 ⊢
          have HQ := Aside0.mk hq
          clear hrd9 hq HO hp
          go_wp2_with (fail)
          go_ret2
          rw [HPQ.out, ← HQ.out]
          exact ⟨A9, c9, rfl, HR9.out.2.2, HR9.out.2.1, below_step HB.out HBI.out⟩
end Go.Proofs.Ytibilnohnildcaa.R

/- The laws RingOwns, RingSubs, RingReplicas. -/
namespace Go.Proofs.Ytibilnohnildcaa.R
open Go.RowKit Go.Proofs.Ytibilnohnildcaa.Q Go.Proofs.YtibilnohnildcaaW.PrintWords Go.Proofs.YtibilnohnildcaaW.PrintLast Go.Proofs.YtibilnohnildcaaW.PrintMore
set_option linter.unusedVariables false
set_option linter.unusedSimpArgs false
theorem rowner_is {w : World} {n : Nat} {sp : List S52} (hr : IsRing n sp) (hn : n ≤ 16) (h0 : 0 < n) {p : Int} (hp : U64 p) : Calls Try.prog 24 #[.int .i64 n, .int .u64 p] w fun e w' => e = .returned (.int .i64 (ownerT sp n p)) ∧ Below w.heap.size w w' := by
  have := rowner_calls (w := w) n hn p
  rwa [owner_eq hr hn h0 hp] at this
theorem rsub_any {w : World} {n : Nat} {sp : List S52} (hr : IsRing n sp) (hn : n ≤ 16) (hn3 : 3 ≤ n) (t : ByteArray) (hts : t.size ≤ 1073741824) (size : Int) (h3 : 3 ≤ size) : Calls Try.prog 14 #[.int .i64 n, .string t, .int .i64 size] w fun e w' => ∃ A c, e = .returned (.tuple #[.slice A (subF sp n t size).length c, .int .i64 0]) ∧ (Kd.int .i64).C w' A (subF sp n t size).length (subF sp n t size) ∧ (subF sp n t size).length ≤ c ∧ Below w.heap.size w w' := by
  by_cases hs : (n : Int) ≤ size
  · have := rsub_all (w := w) hn t size (by omega) (by omega)
    rw [subF_full hr hn hn3 hs, allT_len]
    exact this
  · obtain ⟨s, rfl⟩ := Int.eq_ofNat_of_zero_le (show 0 ≤ size by omega)
    have := rsub_calls (w := w) hn t hts s (by omega) (by omega)
    rw [sub_eq hr hn hn3 t (by omega) (by omega)] at this
    exact this
theorem same_rows {w : World} {A A2 : Option Addr} {c c2 q : Nat} {l : List Int} (hC : (Kd.int .i64).C w A q l) (hq : q = l.length) (hc : q ≤ c) (hC2 : (Kd.int .i64).C w A2 q l) (hc2 : q ≤ c2) (hl : q ≤ 1000) : Calls Try.prog 15 #[.slice A q c, .slice A2 q c2] w fun e w' => e = .returned (.bool true) ∧ Drawn0 w w' := by
  subst hq
  exact (same_calls hC hc hC2 hc2 (by omega)).mono (fun e w' h2 => by rw [decide_eq_true rfl] at h2; exact h2)
theorem rreps_is {w : World} {n : Nat} {sp : List S52} {A : Option Addr} {c : Nat} (hr : IsRing n sp) (hn : n ≤ 16) (sub : List Int) {p : Int} (hp : U64 p) (hs : (Kd.int .i64).C w A sub.length sub) (hc : sub.length ≤ c) (hl : sub.length ≤ 140737488355328) (hrt : rightT n sub) : Calls Try.prog 17 #[.int .i64 n, .slice A sub.length c, .int .u64 p] w fun e w' => ∃ A3 c3, e = .returned (.tuple #[.slice A3 3 c3, .int .i64 0]) ∧ (Kd.int .i64).C w' A3 3 (repsT sp sub p 3).1 ∧ 3 ≤ c3 ∧ Below w.heap.size w w' := by
  have := rreps_calls (w := w) (n := n) (A := A) (c := c) sub p hs hc hl hrt
  rw [(rreps_eq hrt hr hn hp 3 hrt.1).1] at this
  exact this
theorem rreps_no {w : World} {n : Nat} {A : Option Addr} {c : Nat} (sub : List Int) (p : Int) (hs : (Kd.int .i64).C w A sub.length sub) (hc : sub.length ≤ c) (hl : sub.length ≤ 140737488355328) (hrt : ¬ rightT n sub) : Calls Try.prog 17 #[.int .i64 n, .slice A sub.length c, .int .u64 p] w fun e w' => e = .returned (.tuple #[.slice none 0 0, .int .i64 1]) ∧ Below w.heap.size w w' := by
  have HNR := Aside0.mk (right_no hs hc hl hrt)
  clear hs hc hl hrt
  generalize sub.length = m at *
  go_enter Try.func17, Try.ntmps17
  go_wp2_with (go_at_call 19; (with_reducible refine HNR.out.mono ?_); rintro e w1 ⟨rfl, hd⟩; have HB1 := Aside0.mk hd.below; clear hd)
  go_ret2
  exact ⟨rfl, HB1.out⟩
theorem reps_no {w : World} {g n : Nat} {sp : List S52} (h : RingG w g n sp) (hr : IsRing n sp) (A : Option Addr) (c : Nat) (sub : List Int) (p : Int) (hs : (Kd.int .i64).C w A sub.length sub) (hc : sub.length ≤ c) (hl : sub.length ≤ 140737488355328) (hrt : ¬ rightT n sub) : Calls Try.prog 16 #[.pointer (some ⟨g, 0, none⟩), .slice A sub.length c, .int .u64 p] w fun e w' => e = .returned (.tuple #[.slice none 0 0, .int .i64 1]) ∧ Below w.heap.size w w' :=
  (replicas_calls h hr A c sub p hs hc hl).mono (fun e w' h2 => by
    rcases h2.1 with ⟨h3, _⟩ | ⟨_, h3⟩
    · exact absurd h3 hrt
    · exact ⟨h3, h2.2⟩)
set_option maxHeartbeats 4000000 in
set_option maxRecDepth 100000 in
theorem owns_law (a0 : Int) (a1 : Int) (a2 a3 : Int) (w : World) (hp : U64 a1) : Calls Try.prog 7 #[.int .i64 a0, .int .u64 a1, .int .i64 a2, .int .i64 a3] w fun e w' => e = .returned (.bool true) ∧ Below w.heap.size w w' := by
  have HP := Aside0.mk hp
  clear hp
  by_cases hm : ¬ (3 ≤ a0 ∧ a0 ≤ 16)
  · have HM := Aside0.mk hm
    clear hm
    go_enter Try.func7, Try.ntmps7
    go_wp2_with (first
      | (go_at_call 12; (with_reducible refine (new_bad a0 _ (by have := HM.out; omega)).mono ?_); rintro e w9 ⟨rfl, h9⟩; subst w9)
      | (go_at_call 10; (with_reducible refine (live_calls _).mono ?_); rintro e w1 ⟨rfl, hb⟩; have HB1 := Aside0.mk hb; clear hb)
      | (go_at_call 20; (with_reducible refine (place_calls _ _ _).mono ?_); rintro e w2 ⟨rfl, hb⟩; have HB2 := Aside0.mk (below_step HB1.out hb); clear hb)
      | (go_at_call 21; (with_reducible refine (rplace_calls _ _ _).mono ?_); rintro e w3 ⟨rfl, hb⟩; have HB3 := Aside0.mk (below_step HB2.out hb); clear hb)
      | (go_at_call 11; (with_reducible refine (may_no _ HM.out).mono ?_); rintro e w4 ⟨rfl, hd⟩; have HB4 := Aside0.mk (below_step HB3.out hd.below); clear hd))
    go_ret
    exact ⟨rfl, HB4.out⟩
  have hm1 : 3 ≤ a0 ∧ a0 ≤ 16 := Classical.byContradiction hm
  clear hm
  obtain ⟨n, rfl⟩ : ∃ n : Nat, a0 = (n : Int) := ⟨a0.toNat, by omega⟩
  have HM := Aside0.mk hm1
  have HN := Aside0.mk (show 3 ≤ n ∧ n ≤ 16 by omega)
  clear hm1
  go_enter Try.func7, Try.ntmps7
  go_wp2_with (first
    | (go_at_call 12; (with_reducible refine (new_calls n _ HN.out.1 HN.out.2).mono ?_); rintro e w0 ⟨g, sp, rfl, hG, hI, hb⟩; have HG0 := Aside0.mk hG; have HI := Aside0.mk hI; have HB0 := Aside0.mk hb; clear hG hI hb)
    | (go_at_call 10; (with_reducible refine (live_calls _).mono ?_); rintro e w1 ⟨rfl, hb⟩; have HB1 := Aside0.mk (below_step HB0.out hb); have HG1 := Aside0.mk (HG0.out.below hb); clear hb)
    | (go_at_call 20; (with_reducible refine (place_calls _ _ _).mono ?_); rintro e w2 ⟨rfl, hb⟩; have HB2 := Aside0.mk (below_step HB1.out hb); have HG2 := Aside0.mk (HG1.out.below hb); clear hb)
    | (go_at_call 21; (with_reducible refine (rplace_calls _ _ _).mono ?_); rintro e w3 ⟨rfl, hb⟩; have HB3 := Aside0.mk (below_step HB2.out hb); have HG3 := Aside0.mk (HG2.out.below hb); clear hb)
    | (go_at_call 11; (with_reducible refine (may_yes _ HM.out).mono ?_); rintro e w4 ⟨rfl, hd⟩; have HB4 := Aside0.mk (below_step HB3.out hd.below); have HG4 := Aside0.mk (HG3.out.below hd.below); clear hd)
    | (go_at_call 22; (with_reducible refine (nodes_calls HG4.out).mono ?_); rintro e w9 ⟨rfl, h9⟩; subst w9)
    | (go_at_call 23; (with_reducible refine (owner_calls HG4.out HI.out _).mono ?_); rintro e w5 ⟨rfl, hb⟩; have HB5 := Aside0.mk (below_step HB4.out hb); clear hb)
    | (go_at_call 24; (with_reducible refine (rowner_is HI.out HN.out.2 (by have := HN.out; omega) HP.out).mono ?_); rintro e w6 ⟨rfl, hb⟩; have HB6 := Aside0.mk (below_step HB5.out hb); clear hb))
  go_ret
  exact ⟨rfl, HB6.out⟩
theorem same_nil (w : World) : Calls Try.prog 15 #[.slice none 0 0, .slice none 0 0] w fun e w' => e = .returned (.bool true) ∧ Drawn0 w w' := same_rows (l := []) (C_nil0 w) rfl (Nat.le_refl _) (C_nil0 w) (Nat.le_refl _) (by omega)
set_option maxHeartbeats 4000000 in
set_option maxRecDepth 100000 in
theorem subs_law (a0 : Int) (a1 : ByteArray) (a2 : Int) (w : World) : Calls Try.prog 3 #[.int .i64 a0, .string a1, .int .i64 a2] w fun e w' => e = .returned (.bool true) ∧ Below w.heap.size w w' := by
  by_cases hs : (a1.size : Int) > 300
  · go_enter Try.func3, Try.ntmps3
    go_wp2_with (first
      | (go_at_call 10; (with_reducible refine (live_calls _).mono ?_); rintro e w2 ⟨rfl, hb⟩; have HB2 := Aside0.mk (below_step HB1.out hb); clear hb)
      | (go_at_call 10; (with_reducible refine (live_calls _).mono ?_); rintro e w1 ⟨rfl, hb⟩; have HB1 := Aside0.mk hb; clear hb))
    go_ret
    exact ⟨rfl, HB2.out⟩
  by_cases hm : ¬ (3 ≤ a0 ∧ a0 ≤ 16)
  · have HM := Aside0.mk hm
    clear hm
    go_enter Try.func3, Try.ntmps3
    go_wp2_with (first
      | (go_at_call 10; (with_reducible refine (live_calls _).mono ?_); rintro e w2 ⟨rfl, hb⟩; have HB2 := Aside0.mk (below_step HB3.out hb); clear hb)
      | (go_at_call 10; (with_reducible refine (live_calls _).mono ?_); rintro e w1 ⟨rfl, hb⟩; have HB1 := Aside0.mk hb; clear hb)
      | (go_at_call 11; (with_reducible refine (may_no _ HM.out).mono ?_); rintro e w3 ⟨rfl, hd⟩; have HB3 := Aside0.mk (below_step HB1.out hd.below); clear hd))
    go_ret
    exact ⟨rfl, HB2.out⟩
  have hm1 : 3 ≤ a0 ∧ a0 ≤ 16 := Classical.byContradiction hm
  clear hm
  obtain ⟨n, rfl⟩ : ∃ n : Nat, a0 = (n : Int) := ⟨a0.toNat, by omega⟩
  have HM := Aside0.mk hm1
  have HN := Aside0.mk (show 3 ≤ n ∧ n ≤ 16 by omega)
  have HS := Aside0.mk hs
  clear hm1
  by_cases h2 : a2 < 3
  · have H2 := Aside0.mk h2
    go_enter Try.func3, Try.ntmps3
    go_wp2_with (first
      | (go_at_call 10; (with_reducible refine (live_calls _).mono ?_); rintro e w1 ⟨rfl, hb⟩; have HB1 := Aside0.mk hb; clear hb)
      | (go_at_call 11; (with_reducible refine (may_yes _ HM.out).mono ?_); rintro e w3 ⟨rfl, hd⟩; have HB3 := Aside0.mk (below_step HB1.out hd.below); clear hd)
      | (go_at_call 12; (with_reducible refine (new_calls n _ HN.out.1 HN.out.2).mono ?_); rintro e w4 ⟨g, sp, rfl, hG, hI, hb⟩; have HG4 := Aside0.mk hG; have HI := Aside0.mk hI; have HB4 := Aside0.mk (below_step HB3.out hb); clear hG hI hb)
      | (go_at_call 13; (with_reducible refine (sub_small HG4.out _ _ H2.out).mono ?_); rintro e w9 ⟨rfl, h9⟩; subst w9)
      | (go_at_call 14; (with_reducible refine (rsub_small _ _ _ _ H2.out).mono ?_); rintro e w9 ⟨rfl, h9⟩; subst w9)
      | (go_at_call 15; (with_reducible refine (same_nil _).mono ?_); rintro e w5 ⟨rfl, hd⟩; have HB5 := Aside0.mk (below_step HB4.out hd.below); clear hd))
    go_ret
    exact ⟨rfl, HB5.out⟩
  have H2 := Aside0.mk (show 3 ≤ a2 by omega)
  clear h2
  go_enter Try.func3, Try.ntmps3
  go_wp2_with (first
    | (go_at_call 10; (with_reducible refine (live_calls _).mono ?_); rintro e w1 ⟨rfl, hb⟩; have HB1 := Aside0.mk hb; clear hb)
    | (go_at_call 11; (with_reducible refine (may_yes _ HM.out).mono ?_); rintro e w3 ⟨rfl, hd⟩; have HB3 := Aside0.mk (below_step HB1.out hd.below); clear hd)
    | (go_at_call 12; (with_reducible refine (new_calls n _ HN.out.1 HN.out.2).mono ?_); rintro e w4 ⟨g, sp, rfl, hG, hI, hb⟩; have HG4 := Aside0.mk hG; have HI := Aside0.mk hI; have HB4 := Aside0.mk (below_step HB3.out hb); clear hG hI hb)
    | (go_at_call 13; (with_reducible refine (sub_reads HG4.out HI.out a1 (by have := HS.out; omega) a2 H2.out HN.out.1).mono ?_); rintro e w5 ⟨A5, c5, rfl, hC, hc, hb⟩; have hln := subF_len (t := a1) HI.out HN.out.2 H2.out HN.out.1; have HLN := Aside0.mk (show (subF sp n a1 a2).length ≤ 1000 by rw [hln]; have := (mn_le H2.out HN.out.1).1; have := HN.out.2; omega); clear hln; have HRS := Aside0.mk (fun (W : World) => rsub_any (w := W) HI.out HN.out.2 HN.out.1 a1 (by have := HS.out; omega) a2 H2.out); generalize subF sp n a1 a2 = LL at *; have HC5 := Aside0.mk hC; have Hc5 := Aside0.mk hc; have HB5 := Aside0.mk (below_step HB4.out hb); clear hC hc hb)
    | (go_at_call 14; (with_reducible refine (HRS.out _).mono ?_); rintro e w6 ⟨A6, c6, rfl, hC, hc, hb⟩; have HC6 := Aside0.mk (And.intro hC hc); have HC56 := Aside0.mk (Kd.C_below HC5.out hb); have HB6 := Aside0.mk (below_step HB5.out hb); clear hC hc hb)
    | (go_at_call 15; (with_reducible refine (same_rows HC56.out rfl Hc5.out HC6.out.1 HC6.out.2 HLN.out).mono ?_); rintro e w7 ⟨rfl, hd⟩; have HB7 := Aside0.mk (below_step HB6.out hd.below); clear hd))
  go_ret
  exact ⟨rfl, HB7.out⟩
set_option maxHeartbeats 4000000 in
set_option maxRecDepth 100000 in
theorem replicas_law (a0 : Int) (A1 : Option Addr) (c1 : Nat) (l : List Int) (a2 : Int) (w : World) (hr : (Kd.int .i64).C w A1 l.length l) (hc : l.length ≤ c1) (hp : U64 a2) : Calls Try.prog 4 #[.int .i64 a0, .slice A1 l.length c1, .int .u64 a2] w fun e w' => e = .returned (.bool true) ∧ Below w.heap.size w w' := by
  obtain ⟨m, hm⟩ : ∃ m : Nat, m = l.length := ⟨_, rfl⟩
  rw [← hm]
  by_cases hs : (m : Int) > 100
  · clear hr hc hp hm
    go_enter Try.func4, Try.ntmps4
    go_wp2_with (first
      | (go_at_call 10; (with_reducible refine (live_calls _).mono ?_); rintro e w2 ⟨rfl, hb⟩; have HB2 := Aside0.mk (below_step HB1.out hb); clear hb)
      | (go_at_call 10; (with_reducible refine (live_calls _).mono ?_); rintro e w1 ⟨rfl, hb⟩; have HB1 := Aside0.mk hb; clear hb))
    go_ret
    exact ⟨rfl, HB2.out⟩
  by_cases hma : ¬ (3 ≤ a0 ∧ a0 ≤ 16)
  · have HM := Aside0.mk hma
    clear hma hr hc hp hm
    go_enter Try.func4, Try.ntmps4
    go_wp2_with (first
      | (go_at_call 10; (with_reducible refine (live_calls _).mono ?_); rintro e w2 ⟨rfl, hb⟩; have HB2 := Aside0.mk (below_step HB3.out hb); clear hb)
      | (go_at_call 10; (with_reducible refine (live_calls _).mono ?_); rintro e w1 ⟨rfl, hb⟩; have HB1 := Aside0.mk hb; clear hb)
      | (go_at_call 11; (with_reducible refine (may_no _ HM.out).mono ?_); rintro e w3 ⟨rfl, hd⟩; have HB3 := Aside0.mk (below_step HB1.out hd.below); clear hd))
    go_ret
    exact ⟨rfl, HB2.out⟩
  have hm1 : 3 ≤ a0 ∧ a0 ≤ 16 := Classical.byContradiction hma
  clear hma
  obtain ⟨n, rfl⟩ : ∃ n : Nat, a0 = (n : Int) := ⟨a0.toNat, by omega⟩
  have HM := Aside0.mk hm1
  have HN := Aside0.mk (show 3 ≤ n ∧ n ≤ 16 by omega)
  clear hm1
  by_cases hrt : rightT n l
  · have HR1 := Aside0.mk (fun (W : World) (hw : Below w.heap.size w W) (g : Nat) (sp : List S52) (hG : RingG W g n sp) (hI : IsRing n sp) => reps_reads hG hI A1 c1 l a2 (Kd.C_below hr hw) hc (by omega) hrt)
    have HR2 := Aside0.mk (fun (W : World) (hw : Below w.heap.size w W) (sp : List S52) (hI : IsRing n sp) => rreps_is hI HN.out.2 l hp (Kd.C_below hr hw) hc (by omega) hrt)
    rw [← hm] at HR1 HR2
    have HRT := Aside0.mk hrt
    have hlen : ∀ sp, IsRing n sp → 3 = (repsT sp l a2 3).1.length := fun sp hI => (inv_reps hrt hI HN.out.2 a2 3 hrt.1).2.symm
    have HLN := Aside0.mk hlen
    clear hr hc hp hm hrt hlen
    go_enter Try.func4, Try.ntmps4
    go_wp2_with (first
      | (go_at_call 10; (with_reducible refine (live_calls _).mono ?_); rintro e w1 ⟨rfl, hb⟩; have HB1 := Aside0.mk hb; clear hb)
      | (go_at_call 11; (with_reducible refine (may_yes _ HM.out).mono ?_); rintro e w3 ⟨rfl, hd⟩; have HB3 := Aside0.mk (below_step HB1.out hd.below); clear hd)
      | (go_at_call 12; (with_reducible refine (new_calls n _ HN.out.1 HN.out.2).mono ?_); rintro e w4 ⟨g, sp, rfl, hG, hI, hb⟩; have HG4 := Aside0.mk hG; have HI := Aside0.mk hI; have HB4 := Aside0.mk (below_step HB3.out hb); clear hG hI hb)
      | (go_at_call 16; (with_reducible refine (HR1.out _ HB4.out g sp HG4.out HI.out).mono ?_); rintro e w5 ⟨A5, c5, rfl, hC, hc, hb⟩; have HC5 := Aside0.mk hC; have Hc5 := Aside0.mk hc; have HB5 := Aside0.mk (below_step HB4.out hb); clear hC hc hb)
      | (go_at_call 17; (with_reducible refine (HR2.out _ HB5.out sp HI.out).mono ?_); rintro e w6 ⟨A6, c6, rfl, hC, hc, hb⟩; have HC6 := Aside0.mk (And.intro hC hc); have HC56 := Aside0.mk (Kd.C_below HC5.out hb); have HB6 := Aside0.mk (below_step HB5.out hb); clear hC hc hb)
      | (go_at_call 15; (with_reducible refine (same_rows HC56.out (HLN.out sp HI.out) Hc5.out HC6.out.1 HC6.out.2 (by omega)).mono ?_); rintro e w7 ⟨rfl, hd⟩; have HB7 := Aside0.mk (below_step HB6.out hd.below); clear hd))
    go_ret
    exact ⟨rfl, HB7.out⟩
  · have HR1 := Aside0.mk (fun (W : World) (hw : Below w.heap.size w W) (g : Nat) (sp : List S52) (hG : RingG W g n sp) (hI : IsRing n sp) => reps_no hG hI A1 c1 l a2 (Kd.C_below hr hw) hc (by omega) hrt)
    have HR2 := Aside0.mk (fun (W : World) (hw : Below w.heap.size w W) => rreps_no (n := n) l a2 (Kd.C_below hr hw) hc (by omega) hrt)
    rw [← hm] at HR1 HR2
    clear hr hc hp hm hrt
    go_enter Try.func4, Try.ntmps4
    go_wp2_with (first
      | (go_at_call 10; (with_reducible refine (live_calls _).mono ?_); rintro e w1 ⟨rfl, hb⟩; have HB1 := Aside0.mk hb; clear hb)
      | (go_at_call 11; (with_reducible refine (may_yes _ HM.out).mono ?_); rintro e w3 ⟨rfl, hd⟩; have HB3 := Aside0.mk (below_step HB1.out hd.below); clear hd)
      | (go_at_call 12; (with_reducible refine (new_calls n _ HN.out.1 HN.out.2).mono ?_); rintro e w4 ⟨g, sp, rfl, hG, hI, hb⟩; have HG4 := Aside0.mk hG; have HI := Aside0.mk hI; have HB4 := Aside0.mk (below_step HB3.out hb); clear hG hI hb)
      | (go_at_call 16; (with_reducible refine (HR1.out _ HB4.out g sp HG4.out HI.out).mono ?_); rintro e w5 ⟨rfl, hb⟩; have HB5 := Aside0.mk (below_step HB4.out hb); clear hb)
      | (go_at_call 17; (with_reducible refine (HR2.out _ HB5.out).mono ?_); rintro e w6 ⟨rfl, hb⟩; have HB6 := Aside0.mk (below_step HB5.out hb); clear hb)
      | (go_at_call 15; (with_reducible refine (same_nil _).mono ?_); rintro e w7 ⟨rfl, hd⟩; have HB7 := Aside0.mk (below_step HB6.out hd.below); clear hd))
    go_ret
    exact ⟨rfl, HB7.out⟩
end Go.Proofs.Ytibilnohnildcaa.R
