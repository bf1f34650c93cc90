/- Plain laws of points, on: points put one by one, in any order. -/
import Derived.Test.YtfjhommpgbppjaaR5
import Derived.Test.YtfjhommpgbppjaaPR4
import Derived.Test.YtfjhommpgbppjaaPR6
namespace Go.Proofs.Ytfjhommpgbppjaa.PR
open Go.RowKit Go.Proofs.Ytfjhommpgbppjaa.R Go.Proofs.YtfjhommpgbppjaaW.PrintWords Go.Proofs.YtfjhommpgbppjaaW.PrintLast Go.Proofs.YtfjhommpgbppjaaW.PrintMore
set_option linter.unusedVariables false

/-- Points put one by one. -/
def G (l : List S25) : List S25 := l.foldl (fun acc p => mg acc [p]) []
theorem G_snoc (l : List S25) (p : S25) : G (l ++ [p]) = mg (G l) [p] := by simp [G, List.foldl_append]
theorem fold_srt (l : List S25) : ∀ acc, Srt acc → Srt (l.foldl (fun acc p => mg acc [p]) acc) := by
  induction l with
  | nil => intro acc h; exact h
  | cons p l ih => intro acc h; exact ih _ (srt_mg _ acc [p] (Nat.le_refl _) h (srt_one p))
theorem G_srt (l : List S25) : Srt (G l) := fold_srt l [] srt_nil
/-- What a point says of a time. -/
def says (t : Int) (p : S25) : Option S25 := if p.f0 = t then some p else none
theorem says_f0 {t : Int} {p q : S25} (h : says t p = some q) : q.f0 = t := by
  unfold says at h
  split at h
  · rename_i e; cases h; exact e
  · cases h
theorem fold_look (t : Int) (l : List S25) : ∀ acc, Srt acc → look (l.foldl (fun acc p => mg acc [p]) acc) t = l.foldl (fun o p => cmb o (says t p)) (look acc t) := by
  induction l with
  | nil => intro acc h; rfl
  | cons p l ih =>
    intro acc h
    rw [List.foldl_cons, List.foldl_cons, ih _ (srt_mg _ acc [p] (Nat.le_refl _) h (srt_one p)), look_put h]
    rfl
theorem G_perm {l l' : List S25} (h : l.Perm l') : G l = G l' :=
  look_ext _ _ (G_srt l) (G_srt l') fun t => by
    unfold G
    rw [fold_look t l _ srt_nil, fold_look t l' _ srt_nil]
    refine List.Perm.foldl_eq' h (fun x _ y _ z => ?_) _
    rw [cmb_assoc, cmb_assoc, cmb_comm (t := t) (fun _ h => says_f0 h) (fun _ h => says_f0 h)]
theorem rt_nil : Rt [] := (rt_iff _).2 ⟨fun x hx => (by cases hx), srt_nil, by simp⟩
theorem fold_rt (l : List S25) : ∀ acc, Rt acc → acc.length + l.length ≤ 1000 → (∀ p ∈ l, p.f2 ≠ 0) → Rt (l.foldl (fun acc p => mg acc [p]) acc) ∧ (l.foldl (fun acc p => mg acc [p]) acc).length ≤ acc.length + l.length := by
  induction l with
  | nil => intro acc h _ _; exact ⟨h, Nat.le_refl _⟩
  | cons p l ih =>
    intro acc h hl hp
    rw [List.length_cons] at hl
    have hm := mg_len _ acc [p] (Nat.le_refl _)
    simp only [List.length_cons, List.length_nil] at hm
    have := ih (mg acc [p]) (rt_put (by omega) (hp p (by simp)) h) (by omega) (fun q hq => hp q (List.mem_cons_of_mem _ hq))
    rw [List.foldl_cons, List.length_cons]
    exact ⟨this.1, by omega⟩
theorem G_rt {l : List S25} (hl : l.length ≤ 1000) (hp : ∀ p ∈ l, p.f2 ≠ 0) : Rt (G l) ∧ (G l).length ≤ l.length := by
  have := fold_rt l [] rt_nil (by simpa using hl) hp
  simpa [G] using this
theorem take_snoc {l : List S25} {i : Nat} (h : i < l.length) : l.take (i + 1) = l.take i ++ [l.getD i z25] := by
  rw [List.take_succ_eq_append_getElem h, getD_lt h]

/-- Which place is taken at a round. -/
def At (l : List S25) (turn : Int) (i m : Nat) : Prop :=
  m < l.length ∧ (turn > 0 → Int.tmod (wrap64 ((i : Int) + (Int.tmod turn (l.length : Int)))) (l.length : Int) = (m : Int)) ∧ (¬ turn > 0 → wrap64 ((wrap64 ((l.length : Int) - 1)) - (i : Int)) = (m : Int))

theorem folds_l1 (l ks : List S25) (turn : Int) (hn : l.length ≤ 60) (hks : ks.length = l.length) (hl : ∀ p ∈ l, p.f2 ≠ 0) (hk : ∀ p ∈ ks, p.f2 ≠ 0) (hG : G l = G ks)
    (hat : ∀ i, i < l.length → ∃ m, At l turn i m ∧ l.getD m z25 = ks.getD i z25) (d : Nat) :
    ∀ (k i : Nat), i ≤ l.length → l.length - i = d → 3 * d + 400 ≤ k → manometerlaw09_PointsFolds.l1 k l turn (G (l.take i)) (G (ks.take i)) (G (l.take i)) l (l.length : Int) (i : Int) = some true := by
  induction d with
  | zero =>
    intro k i hi hd hkk
    obtain ⟨k, rfl⟩ : ∃ m, k = m + 1 := ⟨k - 1, by omega⟩
    obtain rfl : i = l.length := by omega
    have hlen := (G_rt (l := l) (by omega) hl).2
    rw [manometerlaw09_PointsFolds.l1, if_neg (by omega), List.take_length, ← hks, List.take_length, ← hG, same (G l) (by omega) k (by omega), Option.bind_some, if_pos rfl, Option.bind_some]
  | succ d ih =>
    intro k i hi hd hkk
    obtain ⟨k, rfl⟩ : ∃ m, k = m + 3 := ⟨k - 3, by omega⟩
    have hil : i < l.length := by omega
    obtain ⟨m, ⟨hm, ht1, ht2⟩, hg⟩ := hat i hil
    have hw : wrap64 ((i : Int) + 1) = ((i + 1 : Nat) : Int) := by rw [wrap_in (by omega) (by omega)]; omega
    have mem1 : l.getD i z25 ∈ l := by rw [getD_lt hil]; exact List.getElem_mem _
    have mem2 : ks.getD i z25 ∈ ks := by rw [getD_lt (by omega)]; exact List.getElem_mem _
    have r1 := G_rt (l := l.take i) (by rw [List.length_take]; omega) (fun p hp => hl p (List.mem_of_mem_take hp))
    have r2 := G_rt (l := ks.take i) (by rw [List.length_take]; omega) (fun p hp => hk p (List.mem_of_mem_take hp))
    rw [List.length_take] at r1 r2
    have bl1 : (G (l.take i)).length ≤ 60 := by omega
    have bl2 : (G (ks.take i)).length ≤ 60 := by omega
    obtain ⟨n1, e1, j1⟩ := put (l := G (l.take i)) (p := l.getD i z25) (by omega) (hl _ mem1) r1.1 (k + 1) (by omega)
    clear j1
    obtain ⟨n2, e2, j2⟩ := put (l := G (ks.take i)) (p := ks.getD i z25) (by omega) (hk _ mem2) r2.1 (k + 1) (by omega)
    clear j2
    have rone : Rt [l.getD i z25] := (rt_iff _).2 ⟨by intro x hx; rw [List.mem_singleton] at hx; rw [hx]; exact hl _ mem1, srt_one _, by simp⟩
    have e3 := merge (a := G (l.take i)) (b := [l.getD i z25]) r1.1 rone (by simp only [List.length_cons, List.length_nil]; omega) (k + 1) (by simp only [List.length_cons, List.length_nil]; omega)
    have rr := rt_put (l := G (l.take i)) (p := l.getD i z25) (by omega) (hl _ mem1) r1.1
    have lr := mg_len _ (G (l.take i)) [l.getD i z25] (Nat.le_refl _)
    simp only [List.length_cons, List.length_nil] at lr
    obtain ⟨b, e4, e5⟩ := right (mg (G (l.take i)) [l.getD i z25]) (by omega) (k + 1) (by omega)
    obtain rfl := e5.2 rr
    have hrd : rd_T25 l (i : Int) = l.getD i z25 := rfl
    have hrm : rd_T25 l (m : Int) = ks.getD i z25 := hg
    have hj3 : manometerlaw09_PointsFolds.j3 (k + 2) l turn (G (l.take i)) (G (ks.take i)) (G (l.take i)) (m : Int) l (l.length : Int) (i : Int) (l.getD i z25).f0 (l.getD i z25).f1 (l.getD i z25).f2 = some true := by
      rw [manometerlaw09_PointsFolds.j3, e1, Option.bind_some, if_pos (by omega), if_pos (by omega), hrm, e2, Option.bind_some,
        show ([(⟨(l.getD i z25).f0, (l.getD i z25).f1, (l.getD i z25).f2⟩ : S25)] : List S25) = [l.getD i z25] from rfl, e3, Option.bind_some, if_pos rfl, if_pos rfl, if_pos rfl, e4, Option.bind_some]
      rw [Bool.not_true, manometerlaw09_PointsFolds.j4, if_neg Bool.false_ne_true, hw]
      rw [← G_snoc, ← G_snoc, ← take_snoc hil, ← take_snoc (by omega : i < ks.length)]
      exact ih k (i + 1) (by omega) (by omega) (by omega)
    rw [manometerlaw09_PointsFolds.l1, if_pos (by omega), if_pos (by omega), if_pos (by omega), hrd]
    by_cases ht : turn > 0
    · rw [if_pos ht, if_neg (by omega), ht1 ht]; exact hj3
    · rw [if_neg ht, ht2 ht]; exact hj3
theorem folds_l0 (l : List S25) (turn : Int) (hn : l.length ≤ 60) (h : (∀ p ∈ l, p.f2 ≠ 0) → ∀ k, 1000 ≤ k → manometerlaw09_PointsFolds.l1 k l turn [] [] [] l (l.length : Int) 0 = some true) (d : Nat) :
    ∀ (k i : Nat), i ≤ l.length → l.length - i = d → d + 1001 ≤ k → (∀ p ∈ l.take i, p.f2 ≠ 0) → manometerlaw09_PointsFolds.l0 k l turn l (l.length : Int) (i : Int) = some true := by
  induction d with
  | zero =>
    intro k i hi hd hk hp
    obtain ⟨k, rfl⟩ : ∃ m, k = m + 1 := ⟨k - 1, by omega⟩
    obtain rfl : i = l.length := by omega
    rw [manometerlaw09_PointsFolds.l0, if_neg (by omega)]
    exact h (fun p hm => hp p (by rw [List.take_length]; exact hm)) k (by omega)
  | succ d ih =>
    intro k i hi hd hk hp
    obtain ⟨k, rfl⟩ : ∃ m, k = m + 1 := ⟨k - 1, by omega⟩
    have hil : i < l.length := by omega
    have hw : wrap64 ((i : Int) + 1) = ((i + 1 : Nat) : Int) := by rw [wrap_in (by omega) (by omega)]; omega
    have hrd : rd_T25 l (i : Int) = l.getD i z25 := rfl
    rw [manometerlaw09_PointsFolds.l0, if_pos (by omega), if_pos (by omega), if_pos (by omega), hrd]
    by_cases e : (l.getD i z25).f2 = 0
    · rw [if_pos e]
    · rw [if_neg e, hw]
      refine ih k (i + 1) (by omega) (by omega) (by omega) fun p hm => ?_
      rw [take_snoc hil] at hm
      rcases List.mem_append.1 hm with hm | hm
      · exact hp p hm
      · rw [List.mem_singleton] at hm; rw [hm]; exact e

/-- The turned list. -/
def turned (l : List S25) (turn : Int) : List S25 := if turn > 0 then l.drop (turn.toNat % l.length) ++ l.take (turn.toNat % l.length) else l.reverse
theorem turned_perm (l : List S25) (turn : Int) : (turned l turn).Perm l := by
  unfold turned
  split
  · exact (List.perm_append_comm).trans (by rw [List.take_append_drop])
  · exact List.reverse_perm l
theorem turned_at (l : List S25) (turn : Int) (hn : l.length ≤ 60) (i : Nat) (hi : i < l.length) : ∃ m, At l turn i m ∧ l.getD m z25 = (turned l turn).getD i z25 := by
  have hlen : (turned l turn).length = l.length := (turned_perm l turn).length_eq
  by_cases ht : turn > 0
  · have hs : turn.toNat % l.length < l.length := Nat.mod_lt _ (by omega)
    have e1 : Int.tmod turn (l.length : Int) = ((turn.toNat % l.length : Nat) : Int) := by
      obtain ⟨t, rfl⟩ : ∃ t : Nat, turn = (t : Int) := ⟨turn.toNat, by omega⟩
      rw [Int.toNat_natCast, ← Int.ofNat_tmod]
    have hT : turned l turn = l.drop (turn.toNat % l.length) ++ l.take (turn.toNat % l.length) := if_pos ht
    generalize turn.toNat % l.length = s at *
    have e2 : wrap64 ((i : Int) + (s : Int)) = ((i + s : Nat) : Int) := by rw [wrap_in (by omega) (by omega)]; omega
    refine ⟨(i + s) % l.length, ⟨Nat.mod_lt _ (by omega), fun _ => ?_, fun h => absurd ht h⟩, ?_⟩
    · rw [e1, e2, ← Int.ofNat_tmod]
    · rw [getD_lt (Nat.mod_lt _ (by omega)), getD_lt (by omega)]
      simp only [hT, List.getElem_append, List.length_drop]
      by_cases hc : i + s < l.length
      · rw [dif_pos (by omega), List.getElem_drop]
        simp only [Nat.mod_eq_of_lt hc, Nat.add_comm]
      · rw [dif_neg (by omega), List.getElem_take]
        have : (i + s) % l.length = i - (l.length - s) := by
          rw [show i + s = (i - (l.length - s)) + l.length by omega, Nat.add_mod_right, Nat.mod_eq_of_lt (by omega)]
        simp only [this]
  · refine ⟨l.length - 1 - i, ⟨by omega, fun h => absurd h ht, fun _ => ?_⟩, ?_⟩
    · rw [show wrap64 ((l.length : Int) - 1) = ((l.length - 1 : Nat) : Int) by rw [wrap_in (by omega) (by omega)]; omega, wrap_in (by omega) (by omega)]; omega
    · rw [getD_lt (by omega), getD_lt (by omega)]
      have : turned l turn = l.reverse := if_neg ht
      simp only [this, List.getElem_reverse]
end Go.Proofs.Ytfjhommpgbppjaa.PR
