/- The ring: what Sub answers, as plain lists; May, same, Right; live. -/
import Derived.Test.YtibilnohnildcaaR16
namespace Go.Proofs.Ytibilnohnildcaa.R
open Go.RowKit Go.Proofs.Ytibilnohnildcaa.Q Go.Proofs.YtibilnohnildcaaW.PrintWords Go.Proofs.YtibilnohnildcaaW.PrintLast Go.Proofs.YtibilnohnildcaaW.PrintMore
set_option linter.unusedVariables false
set_option linter.unusedSimpArgs false
/-- Two rising lists of the same members are one. -/
theorem rising_eq : ∀ {a b : List Int}, a.Pairwise (· < ·) → b.Pairwise (· < ·) → (∀ x, x ∈ a ↔ x ∈ b) → a = b
  | [], [], _, _, _ => rfl
  | [], y :: b, _, _, h => absurd ((h y).2 List.mem_cons_self) (by simp)
  | x :: a, [], _, _, h => absurd ((h x).1 List.mem_cons_self) (by simp)
  | x :: a, y :: b, ha, hb, h => by
    have ha2 := List.pairwise_cons.1 ha
    have hb2 := List.pairwise_cons.1 hb
    have hxy : x = y := by
      have h1 := List.mem_cons.1 ((h x).1 List.mem_cons_self)
      have h2 := List.mem_cons.1 ((h y).2 List.mem_cons_self)
      rcases h1 with h1 | h1
      · exact h1
      · rcases h2 with h2 | h2
        · exact h2.symm
        · have := hb2.1 x h1; have := ha2.1 y h2; omega
    subst hxy
    have := rising_eq ha2.2 hb2.2 (fun z => by
      have hz := h z
      rw [List.mem_cons, List.mem_cons] at hz
      constructor
      · intro hm
        rcases hz.1 (.inr hm) with e | e
        · have := ha2.1 z hm; omega
        · exact e
      · intro hm
        rcases hz.2 (.inr hm) with e | e
        · have := hb2.1 z hm; omega
        · exact e)
    rw [this]
theorem allT_rising (n : Nat) : (allT n).Pairwise (· < ·) := by
  unfold allT
  rw [List.pairwise_map]
  exact (List.pairwise_lt_range (n := n)).imp (fun h => by omega)
theorem mem_subF {sp : List S52} {n : Nat} {t : ByteArray} {size : Int} {x : Int} : x ∈ subF sp n t size ↔ x ∈ (subT sp n t (mn size (n : Int)).toNat).1 := (List.mergeSort_perm _ _).mem_iff
theorem mn_le {size : Int} {n : Nat} (h : 3 ≤ size) (hn : 3 ≤ n) : (mn size (n : Int)).toNat ≤ n ∧ 3 ≤ (mn size (n : Int)).toNat := by unfold mn; split <;> omega
theorem subF_len {sp : List S52} {n : Nat} {t : ByteArray} {size : Int} (hr : IsRing n sp) (hn : n ≤ 16) (h3 : 3 ≤ size) (hn3 : 3 ≤ n) : (subF sp n t size).length = (mn size (n : Int)).toNat := by
  unfold subF
  rw [List.length_mergeSort]
  exact (inv_subT hr hn t _ (mn_le h3 hn3).1).2
theorem subF_rising {sp : List S52} {n : Nat} {t : ByteArray} {size : Int} (hr : IsRing n sp) (hn : n ≤ 16) (h3 : 3 ≤ size) (hn3 : 3 ≤ n) : (subF sp n t size).Pairwise (· < ·) := by
  have hi := (inv_subT hr hn t _ (mn_le h3 hn3).1).1
  have h1 : (subF sp n t size).Pairwise (fun x y => decide (x ≤ y) = true) := List.pairwise_mergeSort (le := fun x y : Int => decide (x ≤ y)) (fun a b c h1 h2 => by simp at h1 h2 ⊢; omega) (fun a b => by simp; omega) _
  have h2 : (subF sp n t size).Nodup := (List.mergeSort_perm _ _).nodup_iff.2 hi.nodup
  exact (h1.and h2).imp (fun h => by have h1 := h.1; have h2 := h.2; simp at h1; omega)
theorem subF_rng {sp : List S52} {n : Nat} {t : ByteArray} {size : Int} (hr : IsRing n sp) (hn : n ≤ 16) (h3 : 3 ≤ size) (hn3 : 3 ≤ n) : ∀ x ∈ subF sp n t size, 0 ≤ x ∧ x < n := fun x hx => by
  have hi := (inv_subT hr hn t _ (mn_le h3 hn3).1).1
  exact hi.rng x (hi.sub x (mem_subF.1 hx))
theorem subF_full {sp : List S52} {n : Nat} {t : ByteArray} {size : Int} (hr : IsRing n sp) (hn : n ≤ 16) (hn3 : 3 ≤ n) (h : (n : Int) ≤ size) : subF sp n t size = allT n := by
  have h3 : 3 ≤ size := by omega
  refine rising_eq (subF_rising hr hn h3 hn3) (allT_rising n) (fun x => ⟨fun hx => mem_allT.2 (subF_rng hr hn h3 hn3 x hx), fun hx => ?_⟩)
  refine Classical.byContradiction (fun hno => ?_)
  have hlen := subF_len (t := t) hr hn h3 hn3
  have hmn : (mn size (n : Int)).toNat = n := by unfold mn; split <;> omega
  rw [hmn] at hlen
  have h2 : (subF sp n t size).Nodup := (subF_rising hr hn h3 hn3).imp (fun h => by omega)
  have := nodup_le (S := x :: subF sp n t size) (out := allT n) (List.nodup_cons.2 ⟨hno, h2⟩) (fun y hy => by
    rcases List.mem_cons.1 hy with e | e
    · exact e ▸ hx
    · exact mem_allT.2 (subF_rng hr hn h3 hn3 y e))
  rw [List.length_cons, allT_len, hlen] at this
  omega
theorem right_of {n : Nat} {l : List Int} (h3 : 3 ≤ l.length) (hp : l.Pairwise (· < ·)) (hr : ∀ x ∈ l, 0 ≤ x ∧ x < n) : rightT n l := by
  refine ⟨h3, fun i hi => ?_⟩
  have := hr _ (rd_mem hi)
  refine ⟨this.1, this.2, fun h0 => ?_⟩
  have e1 : rd l ((i : Int) - 1) = l[i - 1] := by rw [show ((i : Int) - 1) = ((i - 1 : Nat) : Int) by omega]; exact rd_get (by omega)
  rw [e1, rd_get hi]
  exact List.pairwise_iff_getElem.1 hp (i - 1) i (by omega) hi (by omega)
theorem subF_right {sp : List S52} {n : Nat} {t : ByteArray} {size : Int} (hr : IsRing n sp) (hn : n ≤ 16) (h3 : 3 ≤ size) (hn3 : 3 ≤ n) : rightT n (subF sp n t size) :=
  right_of (by rw [subF_len hr hn h3 hn3]; exact (mn_le h3 hn3).2) (subF_rising hr hn h3 hn3) (subF_rng hr hn h3 hn3)
theorem same_l0 (l m : List Int) (hl : l.length ≤ 140737488355328) (he : l.length = m.length) : ∀ d i : Nat, i + d = l.length → (∀ j, j < i → rd l (j : Int) = rd m (j : Int)) → manometerlaw20_same.l0 (d + 1) l m (l.length : Int) (i : Int) = some (decide (l = m)) := by
  intro d
  induction d with
  | zero =>
    intro i hi h
    rw [manometerlaw20_same.l0, if_neg (by omega)]
    have : l = m := List.ext_getElem he (fun j h1 h2 => by have := h j (by omega); rwa [rd_get h1, rd_get h2] at this)
    simp [this]
  | succ d ih =>
    intro i hi h
    rw [manometerlaw20_same.l0, if_pos (by omega), if_pos (by omega), if_pos (by omega), if_pos (by omega)]
    by_cases e : rd l (i : Int) = rd m (i : Int)
    · rw [if_pos e, wrap_id (by omega) (by omega)]
      have := ih (i + 1) (by omega) (fun j hj => by
        rcases Nat.lt_or_ge j i with h2 | h2
        · exact h j h2
        · have : j = i := by omega
          rw [this]; exact e)
      rw [show ((i : Int) + 1) = ((i + 1 : Nat) : Int) by omega]
      exact this
    · rw [if_neg e]
      have : l ≠ m := fun h => e (by rw [h])
      simp [this]
theorem same_calls {w : World} {A A2 : Option Addr} {c c2 : Nat} {l m : List Int} (hC : (Kd.int .i64).C w A l.length l) (hc : l.length ≤ c) (hC2 : (Kd.int .i64).C w A2 m.length m) (hc2 : m.length ≤ c2) (hl : l.length ≤ 140737488355328) : Calls Try.prog 15 #[.slice A l.length c, .slice A2 m.length c2] w fun e w' => e = .returned (.bool (decide (l = m))) ∧ Drawn0 w w' :=
  manometerlaw20_same.calls (l.length + 1) A c l A2 c2 m _ w hC hc hC2 hc2 (by
    unfold manometerlaw20_same.f
    by_cases e : l.length = m.length
    · rw [if_pos (by omega)]
      exact same_l0 l m hl e l.length 0 (by omega) (fun j hj => absurd hj (Nat.not_lt_zero _))
    · rw [if_neg (by omega)]
      have : l ≠ m := fun h => e (by rw [h])
      simp [this])
theorem may_calls (a0 : Int) (w : World) : Calls Try.prog 11 #[.int .i64 a0] w fun e w' => e = .returned (.bool (decide (3 ≤ a0 ∧ a0 ≤ 16))) ∧ Drawn0 w w' :=
  manometerref20_May.calls a0 _ w (by
    unfold manometerref20_May.f
    by_cases h : a0 ≥ 3
    · rw [if_pos h]; simp [h]
    · rw [if_neg h]; simp [h])
open Classical in
theorem right_calls {w : World} {A : Option Addr} {c : Nat} {l : List Int} (n : Nat) (hC : (Kd.int .i64).C w A l.length l) (hc : l.length ≤ c) (hl : l.length ≤ 140737488355328) : Calls Try.prog 19 #[.int .i64 n, .slice A l.length c] w fun e w' => e = .returned (.bool (decide (rightT n l))) ∧ Drawn0 w w' := by
  obtain ⟨r, h1, h2⟩ := right_l0 n l hl l.length 0 (by omega) (fun j hj => absurd hj (Nat.not_lt_zero _))
  have := manometerref20_Right.calls (2 * l.length + 1) n A c l r w hC hc h1
  have hr : r = decide (rightT n l) := by
    cases r
    · exact (decide_eq_false (fun h => by cases h2.2 h)).symm
    · exact (decide_eq_true (h2.1 rfl)).symm
  rwa [hr] at this
theorem new3 (w : World) : Calls Try.prog 12 #[.int .i64 3] w fun e w' => ∃ g sp, e = .returned (.tuple #[.pointer (some ⟨g, 0, none⟩), .int .i64 0]) ∧ RingG w' g 3 sp ∧ IsRing 3 sp ∧ Below w.heap.size w w' := new_calls 3 w (by omega) (by omega)
theorem new2 (w : World) : Calls Try.prog 12 #[.int .i64 2] w fun e w' => e = .returned (.tuple #[.pointer none, .int .i64 1]) ∧ w' = w := new_bad 2 w (by omega)
theorem sub_reads {w : World} {g n : Nat} {sp : List S52} (h : RingG w g n sp) (hr : IsRing n sp) (t : ByteArray) (hts : t.size ≤ 1073741824) (size : Int) (h3 : 3 ≤ size) (hn3 : 3 ≤ n) : Calls Try.prog 13 #[.pointer (some ⟨g, 0, none⟩), .string t, .int .i64 size] w fun e w' => ∃ A c, e = .returned (.tuple #[.slice A (subF sp n t size).length c, .int .i64 0]) ∧ (Kd.int .i64).C w' A (subF sp n t size).length (subF sp n t size) ∧ (subF sp n t size).length ≤ c ∧ Below w.heap.size w w' := by
  refine (sub_calls h hr t hts size h3 hn3).mono ?_
  rintro e w' ⟨v, rfl, hv, hb⟩
  obtain ⟨A, c, rfl⟩ := Kd.R_slice hv
  have h2 := Kd.R_reads' hv
  exact ⟨A, c, rfl, h2.2.2, h2.2.1, hb⟩
theorem reps_reads {w : World} {g n : Nat} {sp : List S52} (h : RingG w g n sp) (hr : IsRing n sp) (A : Option Addr) (c : Nat) (sub : List Int) (p : Int) (hs : (Kd.int .i64).C w A sub.length sub) (hc : sub.length ≤ c) (hl : sub.length ≤ 140737488355328) (hrt : rightT n sub) : Calls Try.prog 16 #[.pointer (some ⟨g, 0, none⟩), .slice A sub.length c, .int .u64 p] w fun e w' => ∃ A3 c3, e = .returned (.tuple #[.slice A3 3 c3, .int .i64 0]) ∧ (Kd.int .i64).C w' A3 3 (repsT sp sub p 3).1 ∧ 3 ≤ c3 ∧ Below w.heap.size w w' := by
  refine (replicas_calls h hr A c sub p hs hc hl).mono ?_
  rintro e w' ⟨hcase, hb⟩
  rcases hcase with ⟨_, v, rfl, hv⟩ | ⟨hno, _⟩
  · have hlen := (inv_reps hrt hr h.top p 3 hrt.1).2
    obtain ⟨A3, c3, rfl⟩ := Kd.R_slice hv
    have h2 := Kd.R_reads' hv
    rw [hlen] at h2 ⊢
    exact ⟨A3, c3, rfl, h2.2.2, h2.2.1, hb⟩
  · exact absurd hrt hno
theorem sub_a {w : World} {g : Nat} {sp : List S52} (h : RingG w g 3 sp) (hr : IsRing 3 sp) : Calls Try.prog 13 #[.pointer (some ⟨g, 0, none⟩), .string ⟨#[97]⟩, .int .i64 3] w fun e w' => ∃ A c, e = .returned (.tuple #[.slice A 3 c, .int .i64 0]) ∧ (Kd.int .i64).C w' A 3 [0, 1, 2] ∧ 3 ≤ c ∧ Below w.heap.size w w' := by
  have := sub_reads h hr ⟨#[97]⟩ (by decide) 3 (by omega) (by omega)
  rwa [subF_full hr (by omega) (by omega) (by omega)] at this
theorem reps_a {w : World} {g : Nat} {sp : List S52} (h : RingG w g 3 sp) (hr : IsRing 3 sp) (A : Option Addr) (c : Nat) (hs : (Kd.int .i64).C w A 3 [0, 1, 2]) (hc : 3 ≤ c) : Calls Try.prog 16 #[.pointer (some ⟨g, 0, none⟩), .slice A 3 c, .int .u64 5] w fun e w' => ∃ A3 c3, e = .returned (.tuple #[.slice A3 3 c3, .int .i64 0]) ∧ Below w.heap.size w w' :=
  (reps_reads h hr A c [0, 1, 2] 5 hs hc (by decide) (right_of (by decide) (by decide) (by decide))).mono (fun e w' ⟨A3, c3, h1, _, _, h4⟩ => ⟨A3, c3, h1, h4⟩)
theorem lit_ints (w : World) (l : List Int) (cs : Array Value) (e : cs = (l.map (Value.int .i64)).toArray) (hm : l.length ≤ maxLen) (fz : Nat × Nat := (0, 0)) : (Kd.int .i64).C (w.alloc (.cells cs 3 fz)) (some ⟨w.heap.size, 0, none⟩) l.length l := by
  subst e
  refine ⟨rfl, hm, fun _ => ⟨_, rfl, fun j p hj => ⟨[.int .i64 p], rfl, rfl, fun i u hu => ?_⟩⟩⟩
  cases i with
  | succ i => simp at hu
  | zero =>
    have : Value.int .i64 p = u := by simpa using hu
    subst this
    have h0 := heap_alloc_new w (.cells (l.map (Value.int .i64)).toArray 3 fz)
    have h := cell_of_row _ _ j _ _ _ h0
    have e1 : (⟨w.heap.size, 0, none⟩ : Addr).add (j * (Kd.int .i64).sz + 0) = ⟨w.heap.size, j, none⟩ := by
      have : (Kd.int .i64).sz = 1 := rfl
      rw [this]
      unfold Addr.add
      by_cases hj0 : j = 0
      · simp [hj0]
      · simp [hj0]
    rw [e1]
    refine h.trans ?_
    rw [List.getElem?_toArray, List.getElem?_map, hj]
    rfl
theorem same_a {w : World} {A : Option Addr} {c : Nat} (hC : (Kd.int .i64).C w A 3 [0, 1, 2]) (hc : 3 ≤ c) {A2 : Option Addr} (hC2 : (Kd.int .i64).C w A2 3 [0, 1, 2]) : Calls Try.prog 15 #[.slice A 3 c, .slice A2 3 3] w fun e w' => e = .returned (.bool true) ∧ Drawn0 w w' :=
  (same_calls (l := [0, 1, 2]) (m := [0, 1, 2]) hC hc hC2 (Nat.le_refl _) (by decide)).mono (fun e w' h => by simpa using h)
set_option maxHeartbeats 2000000 in
set_option maxRecDepth 100000 in
theorem live_calls (w : World) : Calls Try.prog 10 #[] w fun e w' => e = .returned (.bool true) ∧ Below w.heap.size w w' := by
  go_enter Try.func10, Try.ntmps10
  go_wp2_with (first
    | (go_at_call 12; (with_reducible refine (new3 _).mono ?_); rintro e w1 ⟨g, sp, rfl, hG, hI, hb⟩; have HG1 := Aside0.mk hG; have HI := Aside0.mk hI; have HB1 := Aside0.mk hb; clear hG hI hb)
    | (go_at_call 12; (with_reducible refine (new2 _).mono ?_); rintro e w2 ⟨rfl, h9⟩; subst h9)
    | (go_at_call 13; (with_reducible refine (sub_a HG1.out HI.out).mono ?_); rintro e w3 ⟨A3, c3, rfl, hC, hc, hb⟩; have HC3 := Aside0.mk hC; have Hc3 := Aside0.mk hc; have HB3 := Aside0.mk (below_step HB1.out hb); have HG3 := Aside0.mk (HG1.out.below hb); clear hC hc hb)
    | (go_at_call 16; (with_reducible refine (reps_a HG3.out HI.out _ _ HC3.out Hc3.out).mono ?_); rintro e w4 ⟨A4, c4, rfl, hb⟩; have HC4 := Aside0.mk (Kd.C_below HC3.out hb); have HB4 := Aside0.mk (below_step HB3.out hb); have HG4 := Aside0.mk (HG3.out.below hb); clear hb)
    | (go_at_call 15; (with_reducible refine (same_a (Kd.C_below HC4.out (below_alloc (Below.refl _ _) _)) Hc3.out (lit_ints _ [0, 1, 2] _ rfl (by decide) _)).mono ?_); rintro e w5 ⟨rfl, hd⟩; have HB5 := Aside0.mk (below_step (below_alloc HB4.out _) hd.below); have HG5 := Aside0.mk ((HG4.out.below (below_alloc (Below.refl _ _) _)).below hd.below); clear hd)
    | (go_at_call 22; (with_reducible refine (nodes_calls HG5.out).mono ?_); rintro e w6 ⟨rfl, h9⟩; subst h9)
    | (go_at_call 20; (with_reducible refine (place_calls _ _ _).mono ?_); rintro e w7 ⟨rfl, hb⟩; have HB7 := Aside0.mk (below_step HB5.out hb); clear hb)
    | (go_at_call 21; (with_reducible refine (rplace_calls _ _ _).mono ?_); rintro e w8 ⟨rfl, hb⟩; have HB8 := Aside0.mk (below_step HB7.out hb); clear hb))
  go_ret
  exact ⟨rfl, HB8.out⟩
end Go.Proofs.Ytibilnohnildcaa.R
