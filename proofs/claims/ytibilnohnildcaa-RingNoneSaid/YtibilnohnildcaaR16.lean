/- The document's ring by hand: in, all, Right, first. -/
import Derived.Test.YtibilnohnildcaaR15
namespace Go.Proofs.Ytibilnohnildcaa.R
open Go.RowKit Go.Proofs.Ytibilnohnildcaa.Q Go.Proofs.YtibilnohnildcaaW.PrintWords Go.Proofs.YtibilnohnildcaaW.PrintLast Go.Proofs.YtibilnohnildcaaW.PrintMore
set_option linter.unusedVariables false
set_option linter.unusedSimpArgs false
theorem not_mem_of {l : List Int} {x : Int} (h : ∀ j, j < l.length → rd l (j : Int) ≠ x) : x ∉ l := fun hx => by
  obtain ⟨j, hj⟩ := List.getElem?_of_mem hx
  have hjl := (List.getElem?_eq_some_iff.1 hj).1
  exact h j hjl (by rw [rd_get hjl]; exact (List.getElem?_eq_some_iff.1 hj).2)
theorem rd_mem {l : List Int} {i : Nat} (h : i < l.length) : rd l (i : Int) ∈ l := by rw [rd_get h]; exact List.getElem_mem h
theorem rin_l0 (l : List Int) (x : Int) (hl : l.length ≤ 140737488355328) : ∀ d i : Nat, i + d = l.length → (∀ j, j < i → rd l (j : Int) ≠ x) → manometerref20_in.l0 (d + 1) x l (l.length : Int) (i : Int) = some (decide (x ∈ l)) := by
  intro d
  induction d with
  | zero =>
    intro i hi h
    rw [manometerref20_in.l0, if_neg (by omega)]
    have : x ∉ l := not_mem_of (fun j hj => h j (by omega))
    simp [this]
  | succ d ih =>
    intro i hi h
    rw [manometerref20_in.l0, if_pos (by omega), if_pos (by omega), if_pos (by omega)]
    by_cases e : rd l (i : Int) = x
    · rw [if_pos e]
      have : x ∈ l := e ▸ rd_mem (by omega)
      simp [this]
    · rw [if_neg e, wrap_id (by omega) (by omega)]
      have := ih (i + 1) (by omega) (fun j hj => by
        rcases Nat.lt_or_ge j i with h2 | h2
        · exact h j h2
        · have : j = i := by omega
          rw [this]; exact e)
      rw [show ((i : Int) + 1) = ((i + 1 : Nat) : Int) by omega]
      exact this
theorem lin_l0 (l : List Int) (x : Int) (hl : l.length ≤ 140737488355328) : ∀ d i : Nat, i + d = l.length → (∀ j, j < i → rd l (j : Int) ≠ x) → manometerlaw20_in.l0 (d + 1) x l (l.length : Int) (i : Int) = some (decide (x ∈ l)) := by
  intro d
  induction d with
  | zero =>
    intro i hi h
    rw [manometerlaw20_in.l0, if_neg (by omega)]
    have : x ∉ l := not_mem_of (fun j hj => h j (by omega))
    simp [this]
  | succ d ih =>
    intro i hi h
    rw [manometerlaw20_in.l0, if_pos (by omega), if_pos (by omega), if_pos (by omega)]
    by_cases e : rd l (i : Int) = x
    · rw [if_pos e]
      have : x ∈ l := e ▸ rd_mem (by omega)
      simp [this]
    · rw [if_neg e, wrap_id (by omega) (by omega)]
      have := ih (i + 1) (by omega) (fun j hj => by
        rcases Nat.lt_or_ge j i with h2 | h2
        · exact h j h2
        · have : j = i := by omega
          rw [this]; exact e)
      rw [show ((i : Int) + 1) = ((i + 1 : Nat) : Int) by omega]
      exact this
theorem rin_calls {w : World} {A : Option Addr} {c : Nat} {l : List Int} (x : Int) (hC : (Kd.int .i64).C w A l.length l) (hc : l.length ≤ c) (hl : l.length ≤ 140737488355328) : Calls Try.prog 36 #[.slice A l.length c, .int .i64 x] w fun e w' => e = .returned (.bool (decide (x ∈ l))) ∧ Drawn0 w w' :=
  manometerref20_in.calls (l.length + 1) A c l x _ w hC hc (rin_l0 l x hl l.length 0 (by omega) (fun j hj => absurd hj (Nat.not_lt_zero _)))
theorem lin_calls {w : World} {A : Option Addr} {c : Nat} {l : List Int} (x : Int) (hC : (Kd.int .i64).C w A l.length l) (hc : l.length ≤ c) (hl : l.length ≤ 140737488355328) : Calls Try.prog 18 #[.slice A l.length c, .int .i64 x] w fun e w' => e = .returned (.bool (decide (x ∈ l))) ∧ Drawn0 w w' :=
  manometerlaw20_in.calls (l.length + 1) A c l x _ w hC hc (lin_l0 l x hl l.length 0 (by omega) (fun j hj => absurd hj (Nat.not_lt_zero _)))
theorem allT_succ (n : Nat) : allT (n + 1) = allT n ++ [(n : Int)] := by unfold allT; rw [List.range_succ, List.map_append]; rfl
theorem rall_l0 (n : Nat) (hn : n ≤ 16) : ∀ d i : Nat, i + d = n → manometerref20_all.l0 (d + 1) (allT i) (n : Int) (i : Int) = some (allT n) := by
  intro d
  induction d with
  | zero =>
    intro i hi
    have : i = n := by omega
    subst this
    rw [manometerref20_all.l0, if_neg (by omega)]
  | succ d ih =>
    intro i hi
    rw [manometerref20_all.l0, if_pos (by omega), if_pos (by rw [allT_len]; omega), wrap_id (by omega) (by omega)]
    have := ih (i + 1) (by omega)
    rw [allT_succ] at this
    rw [show ((i : Int) + 1) = ((i + 1 : Nat) : Int) by omega]
    exact this
theorem rall_calls {w : World} (n : Nat) (hn : n ≤ 16) : Calls Try.prog 32 #[.int .i64 n] w fun e w' => ∃ v : Value, e = .returned v ∧ (Kd.int .i64).R 3 w' w.heap.size (fun _ => True) v (allT n) ∧ Below w.heap.size w w' :=
  manometerref20_all.calls (n + 1) (n : Int) (allT n) w (rall_l0 n hn n 0 (by omega))
theorem right_l0 (n : Nat) (l : List Int) (hl : l.length ≤ 140737488355328) : ∀ d i : Nat, i + d = l.length → (∀ j, j < i → okAt n l j) → ∃ r : Bool, manometerref20_Right.l0 (2 * d + 1) (n : Int) l l (l.length : Int) (i : Int) = some r ∧ (r = true ↔ rightT n l) := by
  intro d
  induction d with
  | zero =>
    intro i hi h
    refine ⟨decide ((l.length : Int) ≥ 3), by rw [manometerref20_Right.l0, if_neg (by omega)], ?_⟩
    rw [decide_eq_true_iff]
    constructor
    · intro h3; exact ⟨by omega, fun j hj => h j (by omega)⟩
    · intro h3; have := h3.1; omega
  | succ d ih =>
    intro i hi h
    have hno : ¬ okAt n l i → ¬ rightT n l := fun h1 h2 => h1 (h2.2 i (by omega))
    rw [show 2 * (d + 1) + 1 = (2 * d + 1 + 1) + 1 by omega, manometerref20_Right.l0, if_pos (by omega), if_pos (by omega), if_pos (by omega)]
    have bad : ¬ okAt n l i → ∃ r : Bool, manometerref20_Right.j1 (2 * d + 1 + 1) (n : Int) l l (l.length : Int) (i : Int) true = some r ∧ (r = true ↔ rightT n l) := fun hb => ⟨false, by rw [manometerref20_Right.j1, if_pos rfl], by simp [hno hb]⟩
    have good : okAt n l i → ∃ r : Bool, manometerref20_Right.j1 (2 * d + 1 + 1) (n : Int) l l (l.length : Int) (i : Int) false = some r ∧ (r = true ↔ rightT n l) := fun hg => by
      obtain ⟨r, h1, h2⟩ := ih (i + 1) (by omega) (fun j hj => by
        rcases Nat.lt_or_ge j i with h3 | h3
        · exact h j h3
        · have : j = i := by omega
          rw [this]; exact hg)
      refine ⟨r, ?_, h2⟩
      rw [manometerref20_Right.j1, if_neg (by decide), wrap_id (by omega) (by omega), show ((i : Int) + 1) = ((i + 1 : Nat) : Int) by omega]
      exact h1
    by_cases b1 : rd l (i : Int) < 0
    · rw [if_pos b1]; exact bad (fun h => by have := h.1; omega)
    rw [if_neg b1]
    by_cases b2 : rd l (i : Int) ≥ (n : Int)
    · rw [if_pos b2]; exact bad (fun h => by have := h.2.1; omega)
    rw [if_neg b2]
    by_cases b3 : (i : Int) > 0
    · rw [if_pos b3, wrap_id (by omega) (by omega), if_pos (by omega), if_pos (by omega)]
      by_cases b4 : rd l ((i : Int) - 1) ≥ rd l (i : Int)
      · rw [decide_eq_true b4]; exact bad (fun h => by have := h.2.2 (by omega); omega)
      · rw [decide_eq_false b4]; exact good ⟨by omega, by omega, fun _ => by omega⟩
    · rw [if_neg b3]; exact good ⟨by omega, by omega, fun h => by omega⟩
/-- A choice of the document's: is it nearer? -/
def rstep (but : List Int) (p : Int) (n : Int) (st : Int × Int) (k : Nat) : Int × Int := if n ∉ but ∧ (st.1 < 0 ∨ IntKind.u64.wrap (placeT n (k : Int) - p) < st.2) then (n, IntKind.u64.wrap (placeT n (k : Int) - p)) else st
def rnode (but : List Int) (p : Int) (st : Int × Int) (n : Int) : Nat → Int × Int
  | 0 => st
  | k + 1 => rstep but p n (rnode but p st n k) k
def rfold (l but : List Int) (p : Int) : Nat → Int × Int
  | 0 => (-1, 0)
  | i + 1 => rnode but p (rfold l but p i) (rd l (i : Int)) 8
/-- The first node of a list from a place on, that is not in another one; and its place. -/
def rfirstT (l but : List Int) (p : Int) : Int × Int := ((rfold l but p l.length).1, IntKind.u64.wrap (p + (rfold l but p l.length).2))
set_option maxHeartbeats 2000000 in
set_option maxRecDepth 100000 in
theorem rfirst_calls {w : World} (A : Option Addr) (c : Nat) (l : List Int) (A2 : Option Addr) (c2 : Nat) (but : List Int) (p : Int) (hl : (Kd.int .i64).C w A l.length l) (hc : l.length ≤ c) (hb : (Kd.int .i64).C w A2 but.length but) (hc2 : but.length ≤ c2) (hll : l.length ≤ 140737488355328) (hbl : but.length ≤ 140737488355328) :
    Calls Try.prog 33 #[.slice A l.length c, .slice A2 but.length c2, .int .u64 p] w fun e w' => e = .returned (.tuple #[.int .i64 (rfirstT l but p).1, .int .u64 (rfirstT l but p).2]) ∧ Below w.heap.size w w' := by
  have HL := Aside0.mk hl
  have HB2 := Aside0.mk hb
  have HC := Aside0.mk (And.intro hc (And.intro hc2 (And.intro hll hbl)))
  obtain ⟨m, hm⟩ : ∃ m : Nat, m = l.length := ⟨_, rfl⟩
  obtain ⟨q, hq⟩ : ∃ q : Nat, q = but.length := ⟨_, rfl⟩
  rw [← hm, ← hq]
  have HM := Aside0.mk (And.intro hm hq)
  have HIN := Aside0.mk (fun (W : World) (hw : Below w.heap.size w W) (x : Int) => show Calls Try.prog 36 #[.slice A2 q c2, .int .i64 x] W fun e w' => e = .returned (.bool (decide (x ∈ but))) ∧ Drawn0 W w' from hq ▸ rin_calls x (Kd.C_below hb hw) hc2 hbl)
  clear hl hb hc hc2 hll hbl hm hq
  go_enter Try.func33, Try.ntmps33
  go_wp2
  go_loopg [8, 9, 16] (m + 1) (fun kq v8 v9 v16 wr => ∃ (i : Nat), v8 = .int .i64 (rfold l but p i).1 ∧ v9 = .int .u64 (rfold l but p i).2 ∧ v16 = .int .i64 i ∧ Aside0 (kq + i = m + 1 ∧ i ≤ m) ∧ Aside0 (Below w.heap.size w wr))
  case atStart => exact ⟨0, rfl, rfl, rfl, ⟨by omega⟩, ⟨Below.refl _ _⟩⟩
  case round =>
    obtain ⟨i, rfl, rfl, rfl, HI, HB⟩ := hrel
    cases gk with
    | zero => have := HI.out; omega
    | succ k1 =>
    by_cases hlt : i < m
    · have hi0 : (0 : Int) ≤ (i : Int) := by omega
      have hi1 : (i : Int) < (m : Int) := by omega
      obtain ⟨ad, hA, x0⟩ := Kd.at_int (Kd.C_below HL.out HB.out) (i : Int) hi0 (by have := HM.out; omega)
      simp only [Int.toNat_natCast] at x0
      have HST := Aside0.mk (show rfold l but p (i + 1) = rnode but p (rfold l but p i) (rd l (i : Int)) 8 from rfl)
      subst hA
      generalize rd l (i : Int) = x at *
      obtain ⟨S0, hS0⟩ : ∃ S0 : Int × Int, S0 = rfold l but p i := ⟨_, rfl⟩
      rw [← hS0] at HST ⊢
      clear hS0
      go_wp2_with (fail)
      go_loopg [8, 9, 20] 9 (fun kq v8 v9 v20 wr => ∃ (k : Nat), v8 = .int .i64 (rnode but p S0 x k).1 ∧ v9 = .int .u64 (rnode but p S0 x k).2 ∧ v20 = .int .i64 k ∧ Aside0 (kq + k = 9 ∧ k ≤ 8) ∧ Aside0 (Below w.heap.size w wr))
      case atStart => exact ⟨0, rfl, rfl, rfl, ⟨by omega⟩, HB⟩
      case round =>
        obtain ⟨k, rfl, rfl, rfl, HK, HB3⟩ := hrel
        clear x0
        cases gk with
        | zero => have := HK.out; omega
        | succ k2 =>
        by_cases hk : k < 8
        · have hk1 : (k : Int) < 8 := by omega
          have HSK := Aside0.mk (show rnode but p S0 x (k + 1) = rstep but p x (rnode but p S0 x k) k from rfl)
          generalize rnode but p S0 x k = S1 at *
          obtain ⟨D, hD⟩ : ∃ D : Int, D = IntKind.u64.wrap (placeT x (k : Int) - p) := ⟨_, rfl⟩
          have HD := Aside0.mk hD
          obtain ⟨b, hb⟩ : ∃ b : Bool, b = decide (x ∈ but) := ⟨_, rfl⟩
          have HBB := Aside0.mk hb
          clear hb hD hk
          cases b
          · have hni : x ∉ but := by have := HBB.out; simpa using this
            by_cases hneg : S1.1 < 0
            · have HE := Aside0.mk (show rstep but p x S1 k = (x, IntKind.u64.wrap (placeT x (k : Int) - p)) from by unfold rstep; rw [if_pos ⟨hni, .inl hneg⟩])
              clear hni HD
              go_wp2_with (first
                | (go_at_call 21; (with_reducible refine (rplace_calls _ _ _).mono ?_); rintro e w5 ⟨rfl, hb⟩; have HB5 := Aside0.mk (below_step HB3.out hb); clear hb)
                | (go_at_call 36; (with_reducible refine (HIN.out _ HB5.out _).mono ?_); rintro e w6 ⟨rfl, hd⟩; rw [← HBB.out]; have HB6 := Aside0.mk (below_step HB5.out hd.below); clear hd))
              go_roundg k2
              case measure => omega
              case rel => exact ⟨k + 1, by rw [HSK.out, HE.out], by rw [HSK.out, HE.out], by first | rfl | (simp; done), ⟨by have := HK.out; omega⟩, HB6⟩
            · by_cases hd : IntKind.u64.wrap (placeT x (k : Int) - p) < S1.2
              · have HE := Aside0.mk (show rstep but p x S1 k = (x, IntKind.u64.wrap (placeT x (k : Int) - p)) from by unfold rstep; rw [if_pos ⟨hni, .inr hd⟩])
                clear hni HD
                go_wp2_with (first
                  | (go_at_call 21; (with_reducible refine (rplace_calls _ _ _).mono ?_); rintro e w5 ⟨rfl, hb⟩; have HB5 := Aside0.mk (below_step HB3.out hb); clear hb)
                  | (go_at_call 36; (with_reducible refine (HIN.out _ HB5.out _).mono ?_); rintro e w6 ⟨rfl, hd⟩; rw [← HBB.out]; have HB6 := Aside0.mk (below_step HB5.out hd.below); clear hd))
                go_roundg k2
                case measure => omega
                case rel => exact ⟨k + 1, by rw [HSK.out, HE.out], by rw [HSK.out, HE.out], by first | rfl | (simp; done), ⟨by have := HK.out; omega⟩, HB6⟩
              · have HE := Aside0.mk (show rstep but p x S1 k = S1 from by unfold rstep; rw [if_neg (fun h => h.2.elim hneg hd)])
                clear hni HD
                go_wp2_with (first
                  | (go_at_call 21; (with_reducible refine (rplace_calls _ _ _).mono ?_); rintro e w5 ⟨rfl, hb⟩; have HB5 := Aside0.mk (below_step HB3.out hb); clear hb)
                  | (go_at_call 36; (with_reducible refine (HIN.out _ HB5.out _).mono ?_); rintro e w6 ⟨rfl, hd⟩; rw [← HBB.out]; have HB6 := Aside0.mk (below_step HB5.out hd.below); clear hd))
                go_roundg k2
                case measure => omega
                case rel => exact ⟨k + 1, by rw [HSK.out, HE.out], by rw [HSK.out, HE.out], by first | rfl | (simp; done), ⟨by have := HK.out; omega⟩, HB6⟩
          · have hin : x ∈ but := by have := HBB.out; simpa using this
            have HE := Aside0.mk (show rstep but p x S1 k = S1 from by unfold rstep; rw [if_neg (fun h => h.1 hin)])
            clear hin HD
            go_wp2_with (first
              | (go_at_call 21; (with_reducible refine (rplace_calls _ _ _).mono ?_); rintro e w5 ⟨rfl, hb⟩; have HB5 := Aside0.mk (below_step HB3.out hb); clear hb)
              | (go_at_call 36; (with_reducible refine (HIN.out _ HB5.out _).mono ?_); rintro e w6 ⟨rfl, hd⟩; rw [← HBB.out]; have HB6 := Aside0.mk (below_step HB5.out hd.below); clear hd))
            go_roundg k2
            case measure => omega
            case rel => exact ⟨k + 1, by rw [HSK.out, HE.out], by rw [HSK.out, HE.out], by first | rfl | (simp; done), ⟨by have := HK.out; omega⟩, HB6⟩
        · have hk8 : k = 8 := by have := HK.out; omega
          subst hk8
          go_wp2_with (fail)
          go_roundg k1
          case measure => omega
          case rel => exact ⟨i + 1, by rw [HST.out], by rw [HST.out], by first | rfl | (simp; done) | (rw [wrap_id (n := (i : Int) + 1) (by omega) (by have := HC.out; have := HM.out; omega)]; first | rfl | (simp; done)), ⟨by have := HI.out; omega⟩, HB3⟩
    · have hi : i = m := by have := HI.out; omega
      subst hi
      go_wp2_with (fail)
      go_ret2
      exact ⟨by unfold rfirstT; rw [← HM.out.1]; rfl, HB.out⟩
end Go.Proofs.Ytibilnohnildcaa.R
