import Derived.Test.YtibilnohnildcaaR15
/- The document's ring by hand: in, all, Right, first. -/
namespace Go.Proofs.Ytibilnohnildcaa.R
open Go.RowKit Go.Proofs.Ytibilnohnildcaa.Q Go.Proofs.YtibilnohnildcaaW.PrintWords Go.Proofs.YtibilnohnildcaaW.PrintLast Go.Proofs.YtibilnohnildcaaW.PrintMore
set_option linter.unusedVariables false
set_option linter.unusedSimpArgs false
theorem not_mem_of {l : List Int} {x : Int} (h : ∀ j, j < l.length → rd l (j : Int) ≠ x) : x ∉ l := fun hx => by
  obtain ⟨j, hj⟩ := List.getElem?_of_mem hx
  have hjl := (List.getElem?_eq_some_iff.1 hj).1
  exact h j hjl (by rw [rd_get hjl]; exact (List.getElem?_eq_some_iff.1 hj).2)
theorem rd_mem {l : List Int} {i : Nat} (h : i < l.length) : rd l (i : Int) ∈ l := by rw [rd_get h]; exact List.getElem_mem h
theorem rin_l0 (l : List Int) (x : Int) (hl : l.length ≤ 140737488355328) : ∀ d i : Nat, i + d = l.length → (∀ j, j < i → rd l (j : Int) ≠ x) → manometerref20_in.l0 (d + 1) x l (l.length : Int) (i : Int) = some (decide (x ∈ l)) := by
  intro d
  induction d with
  | zero =>
    intro i hi h
    rw [manometerref20_in.l0, if_neg (by omega)]
    have : x ∉ l := not_mem_of (fun j hj => h j (by omega))
    simp [this]
  | succ d ih =>
    intro i hi h
    rw [manometerref20_in.l0, if_pos (by omega), if_pos (by omega), if_pos (by omega)]
    by_cases e : rd l (i : Int) = x
    · rw [if_pos e]
      have : x ∈ l := e ▸ rd_mem (by omega)
      simp [this]
    · rw [if_neg e, wrap_id (by omega) (by omega)]
      have := ih (i + 1) (by omega) (fun j hj => by
        rcases Nat.lt_or_ge j i with h2 | h2
        · exact h j h2
        · have : j = i := by omega
          rw [this]; exact e)
      rw [show ((i : Int) + 1) = ((i + 1 : Nat) : Int) by omega]
      exact this
theorem lin_l0 (l : List Int) (x : Int) (hl : l.length ≤ 140737488355328) : ∀ d i : Nat, i + d = l.length → (∀ j, j < i → rd l (j : Int) ≠ x) → manometerlaw20_in.l0 (d + 1) x l (l.length : Int) (i : Int) = some (decide (x ∈ l)) := by
  intro d
  induction d with
  | zero =>
    intro i hi h
    rw [manometerlaw20_in.l0, if_neg (by omega)]
    have : x ∉ l := not_mem_of (fun j hj => h j (by omega))
    simp [this]
  | succ d ih =>
    intro i hi h
    rw [manometerlaw20_in.l0, if_pos (by omega), if_pos (by omega), if_pos (by omega)]
    by_cases e : rd l (i : Int) = x
    · rw [if_pos e]
      have : x ∈ l := e ▸ rd_mem (by omega)
      simp [this]
    · rw [if_neg e, wrap_id (by omega) (by omega)]
      have := ih (i + 1) (by omega) (fun j hj => by
        rcases Nat.lt_or_ge j i with h2 | h2
        · exact h j h2
        · have : j = i := by omega
          rw [this]; exact e)
      rw [show ((i : Int) + 1) = ((i + 1 : Nat) : Int) by omega]
      exact this
theorem rin_calls {w : World} {A : Option Addr} {c : Nat} {l : List Int} (x : Int) (hC : (Kd.int .i64).C w A l.length l) (hc : l.length ≤ c) (hl : l.length ≤ 140737488355328) : Calls Try.prog 36 #[.slice A l.length c, .int .i64 x] w fun e w' => e = .returned (.bool (decide (x ∈ l))) ∧ Drawn0 w w' :=
  manometerref20_in.calls (l.length + 1) A c l x _ w hC hc (rin_l0 l x hl l.length 0 (by omega) (fun j hj => absurd hj (Nat.not_lt_zero _)))
theorem lin_calls {w : World} {A : Option Addr} {c : Nat} {l : List Int} (x : Int) (hC : (Kd.int .i64).C w A l.length l) (hc : l.length ≤ c) (hl : l.length ≤ 140737488355328) : Calls Try.prog 18 #[.slice A l.length c, .int .i64 x] w fun e w' => e = .returned (.bool (decide (x ∈ l))) ∧ Drawn0 w w' :=
  manometerlaw20_in.calls (l.length + 1) A c l x _ w hC hc (lin_l0 l x hl l.length 0 (by omega) (fun j hj => absurd hj (Nat.not_lt_zero _)))
theorem allT_succ (n : Nat) : allT (n + 1) = allT n ++ [(n : Int)] := by unfold allT; rw [List.range_succ, List.map_append]; rfl
theorem rall_l0 (n : Nat) (hn : n ≤ 16) : ∀ d i : Nat, i + d = n → manometerref20_all.l0 (d + 1) (allT i) (n : Int) (i : Int) = some (allT n) := by
  intro d
  induction d with
  | zero =>
    intro i hi
    have : i = n := by omega
    subst this
    rw [manometerref20_all.l0, if_neg (by omega)]
  | succ d ih =>
    intro i hi
    rw [manometerref20_all.l0, if_pos (by omega), if_pos (by rw [allT_len]; omega), wrap_id (by omega) (by omega)]
    have := ih (i + 1) (by omega)
    rw [allT_succ] at this
    rw [show ((i : Int) + 1) = ((i + 1 : Nat) : Int) by omega]
    exact this
theorem rall_calls {w : World} (n : Nat) (hn : n ≤ 16) : Calls Try.prog 32 #[.int .i64 n] w fun e w' => ∃ v : Value, e = .returned v ∧ (Kd.int .i64).R 3 w' w.heap.size (fun _ => True) v (allT n) ∧ Below w.heap.size w w' :=
  manometerref20_all.calls (n + 1) (n : Int) (allT n) w (rall_l0 n hn n 0 (by omega))
theorem right_l0 (n : Nat) (l : List Int) (hl : l.length ≤ 140737488355328) : ∀ d i : Nat, i + d = l.length → (∀ j, j < i → okAt n l j) → ∃ r : Bool, manometerref20_Right.l0 (2 * d + 1) (n : Int) l l (l.length : Int) (i : Int) = some r ∧ (r = true ↔ rightT n l) := by
  intro d
  induction d with
  | zero =>
    intro i hi h
    refine ⟨decide ((l.length : Int) ≥ 3), by rw [manometerref20_Right.l0, if_neg (by omega)], ?_⟩
    rw [decide_eq_true_iff]
    constructor
    · intro h3; exact ⟨by omega, fun j hj => h j (by omega)⟩
    · intro h3; have := h3.1; omega
  | succ d ih =>
    intro i hi h
    have hno : ¬ okAt n l i → ¬ rightT n l := fun h1 h2 => h1 (h2.2 i (by omega))
    rw [show 2 * (d + 1) + 1 = (2 * d + 1 + 1) + 1 by omega, manometerref20_Right.l0, if_pos (by omega), if_pos (by omega), if_pos (by omega)]
    have bad : ¬ okAt n l i → ∃ r : Bool, manometerref20_Right.j1 (2 * d + 1 + 1) (n : Int) l l (l.length : Int) (i : Int) true = some r ∧ (r = true ↔ rightT n l) := fun hb => ⟨false, by rw [manometerref20_Right.j1, if_pos rfl], by simp [hno hb]⟩
    have good : okAt n l i → ∃ r : Bool, manometerref20_Right.j1 (2 * d + 1 + 1) (n : Int) l l (l.length : Int) (i : Int) false = some r ∧ (r = true ↔ rightT n l) := fun hg => by
      obtain ⟨r, h1, h2⟩ := ih (i + 1) (by omega) (fun j hj => by
        rcases Nat.lt_or_ge j i with h3 | h3
        · exact h j h3
        · have : j = i := by omega
          rw [this]; exact hg)
      refine ⟨r, ?_, h2⟩
      rw [manometerref20_Right.j1, if_neg (by decide), wrap_id (by omega) (by omega), show ((i : Int) + 1) = ((i + 1 : Nat) : Int) by omega]
      exact h1
    by_cases b1 : rd l (i : Int) < 0
    · rw [if_pos b1]; exact bad (fun h => by have := h.1; omega)
    rw [if_neg b1]
    by_cases b2 : rd l (i : Int) ≥ (n : Int)
    · rw [if_pos b2]; exact bad (fun h => by have := h.2.1; omega)
    rw [if_neg b2]
    by_cases b3 : (i : Int) > 0
    · rw [if_pos b3, wrap_id (by omega) (by omega), if_pos (by omega), if_pos (by omega)]
      by_cases b4 : rd l ((i : Int) - 1) ≥ rd l (i : Int)
      · rw [decide_eq_true b4]; exact bad (fun h => by have := h.2.2 (by omega); omega)
      · rw [decide_eq_false b4]; exact good ⟨by omega, by omega, fun _ => by omega⟩
    · rw [if_neg b3]; exact good ⟨by omega, by omega, fun h => by omega⟩
/-- A choice of the document's: is it nearer? -/
def rstep (but : List Int) (p : Int) (n : Int) (st : Int × Int) (k : Nat) : Int × Int := if n ∉ but ∧ (st.1 < 0 ∨ IntKind.u64.wrap (placeT n (k : Int) - p) < st.2) then (n, IntKind.u64.wrap (placeT n (k : Int) - p)) else st
def rnode (but : List Int) (p : Int) (st : Int × Int) (n : Int) : Nat → Int × Int
  | 0 => st
  | k + 1 => rstep but p n (rnode but p st n k) k
def rfold (l but : List Int) (p : Int) : Nat → Int × Int
  | 0 => (-1, 0)
  | i + 1 => rnode but p (rfold l but p i) (rd l (i : Int)) 8
/-- The first node of a list from a place on, that is not in another one; and its place. -/
def rfirstT (l but : List Int) (p : Int) : Int × Int := ((rfold l but p l.length).1, IntKind.u64.wrap (p + (rfold l but p l.length).2))
set_option maxHeartbeats 2000000 in
set_option maxRecDepth 100000 in
theorem rfirst_calls {w : World} (A : Option Addr) (c : Nat) (l : List Int) (A2 : Option Addr) (c2 : Nat) (but : List Int) (p : Int) (hl : (Kd.int .i64).C w A l.length l) (hc : l.length ≤ c) (hb : (Kd.int .i64).C w A2 but.length but) (hc2 : but.length ≤ c2) (hll : l.length ≤ 140737488355328) (hbl : but.length ≤ 140737488355328) :
    Calls Try.prog 33 #[.slice A l.length c, .slice A2 but.length c2, .int .u64 p] w fun e w' => e = .returned (.tuple #[.int .i64 (rfirstT l but p).1, .int .u64 (rfirstT l but p).2]) ∧ Below w.heap.size w w' := by
  have HL := Aside0.mk hl
  have HB2 := Aside0.mk hb
  have HC := Aside0.mk (And.intro hc (And.intro hc2 (And.intro hll hbl)))
  obtain ⟨m, hm⟩ : ∃ m : Nat, m = l.length := ⟨_, rfl⟩
  obtain ⟨q, hq⟩ : ∃ q : Nat, q = but.length := ⟨_, rfl⟩
  rw [← hm, ← hq]
  have HM := Aside0.mk (And.intro hm hq)
  have HIN := Aside0.mk (fun (W : World) (hw : Below w.heap.size w W) (x : Int) => show Calls Try.prog 36 #[.slice A2 q c2, .int .i64 x] W fun e w' => e = .returned (.bool (decide (x ∈ but))) ∧ Drawn0 W w' from hq ▸ rin_calls x (Kd.C_below hb hw) hc2 hbl)
  clear hl hb hc hc2 hll hbl hm hq
  go_enter Try.func33, Try.ntmps33
  go_wp2
  go_loopg [8, 9, 16] (m + 1) (fun kq v8 v9 v16 wr => ∃ (i : Nat), v8 = .int .i64 (rfold l but p i).1 ∧ v9 = .int .u64 (rfold l but p i).2 ∧ v16 = .int .i64 i ∧ Aside0 (kq + i = m + 1 ∧ i ≤ m) ∧ Aside0 (Below w.heap.size w wr))
  case atStart => exact ⟨0, rfl, rfl, rfl, ⟨by omega⟩, ⟨Below.refl _ _⟩⟩
  case round =>
    obtain ⟨i, rfl, rfl, rfl, HI, HB⟩ := hrel
    cases gk with
    | zero => have := HI.out; omega
    | succ k1 =>
    by_cases hlt : i < m
    · have hi0 : (0 : Int) ≤ (i : Int) := by omega
      have hi1 : (i : Int) < (m : Int) := by omega
      obtain ⟨ad, hA, x0⟩ := Kd.at_int (Kd.C_below HL.out HB.out) (i : Int) hi0 (by have := HM.out; omega)
      simp only [Int.toNat_natCast] at x0
      have HST := Aside0.mk (show rfold l but p (i + 1) = rnode but p (rfold l but p i) (rd l (i : Int)) 8 from rfl)
      subst hA
      generalize rd l (i : Int) = x at *
      obtain ⟨S0, hS0⟩ : ∃ S0 : Int × Int, S0 = rfold l but p i := ⟨_, rfl⟩
      rw [← hS0] at HST ⊢
      clear hS0
      go_wp2_with (fail)
      go_loopg [8, 9, 20] 9 (fun kq v8 v9 v20 wr => ∃ (k : Nat), v8 = .int .i64 (rnode but p S0 x k).1 ∧ v9 = .int .u64 (rnode but p S0 x k).2 ∧ v20 = .int .i64 k ∧ Aside0 (kq + k = 9 ∧ k ≤ 8) ∧ Aside0 (Below w.heap.size w wr))
      case atStart => exact ⟨0, rfl, rfl, rfl, ⟨by omega⟩, HB⟩
      case round =>
        obtain ⟨k, rfl, rfl, rfl, HK, HB3⟩ := hrel
        clear x0
        cases gk with
        | zero => have := HK.out; omega
        | succ k2 =>
        by_cases hk : k < 8
        · have hk1 : (k : Int) < 8 := by omega
          have HSK := Aside0.mk (show rnode but p S0 x (k + 1) = rstep but p x (rnode but p S0 x k) k from rfl)
          generalize rnode but p S0 x k = S1 at *
          obtain ⟨D, hD⟩ : ∃ D : Int, D = IntKind.u64.wrap (placeT x (k : Int) - p) := ⟨_, rfl⟩
          have HD := Aside0.mk hD
          obtain ⟨b, hb⟩ : ∃ b : Bool, b = decide (x ∈ but) := ⟨_, rfl⟩
          have HBB := Aside0.mk hb
          clear hb hD hk
          cases b
          · have hni : x ∉ but := by have := HBB.out; simpa using this
            by_cases hneg : S1.1 < 0
            · have HE := Aside0.mk (show rstep but p x S1 k = (x, IntKind.u64.wrap (placeT x (k : Int) - p)) from by unfold rstep; rw [if_pos ⟨hni, .inl hneg⟩])
              clear hni HD
              go_wp2_with (first
                | (go_at_call 21; (with_reducible refine (rplace_calls _ _ _).mono ?_); rintro e w5 ⟨rfl, hb⟩; have HB5 := Aside0.mk (below_step HB3.out hb); clear hb)
                | (go_at_call 36; (with_reducible refine (HIN.out _ HB5.out _).mono ?_); rintro e w6 ⟨rfl, hd⟩; rw [← HBB.out]; have HB6 := Aside0.mk (below_step HB5.out hd.below); clear hd))
              go_roundg k2
              case measure => omega
              case rel => exact ⟨k + 1, by rw [HSK.out, HE.out], by rw [HSK.out, HE.out], by first | rfl | (simp; done), ⟨by have := HK.out; omega⟩, HB6⟩
            · by_cases hd : IntKind.u64.wrap (placeT x (k : Int) - p) < S1.2
              · have HE := Aside0.mk (show rstep but p x S1 k = (x, IntKind.u64.wrap (placeT x (k : Int) - p)) from by unfold rstep; rw [if_pos ⟨hni, .inr hd⟩])
                clear hni HD
                go_wp2_with (first
                  | (go_at_call 21; (with_reducible refine (rplace_calls _ _ _).mono ?_); rintro e w5 ⟨rfl, hb⟩; have HB5 := Aside0.mk (below_step HB3.out hb); clear hb)
                  | (go_at_call 36; (with_reducible refine (HIN.out _ HB5.out _).mono ?_); rintro e w6 ⟨rfl, hd⟩; rw [← HBB.out]; have HB6 := Aside0.mk (below_step HB5.out hd.below); clear hd))
                go_roundg k2
                case measure => omega
                case rel => exact ⟨k + 1, by rw [HSK.out, HE.out], by rw [HSK.out, HE.out], by first | rfl | (simp; done), ⟨by have := HK.out; omega⟩, HB6⟩
              · have HE := Aside0.mk (show rstep but p x S1 k = S1 from by unfold rstep; rw [if_neg (fun h => h.2.elim hneg hd)])
                clear hni HD
                go_wp2_with (first
                  | (go_at_call 21; (with_reducible refine (rplace_calls _ _ _).mono ?_); rintro e w5 ⟨rfl, hb⟩; have HB5 := Aside0.mk (below_step HB3.out hb); clear hb)
                  | (go_at_call 36; (with_reducible refine (HIN.out _ HB5.out _).mono ?_); rintro e w6 ⟨rfl, hd⟩; rw [← HBB.out]; have HB6 := Aside0.mk (below_step HB5.out hd.below); clear hd))
                go_roundg k2
                case measure => omega
                case rel => exact ⟨k + 1, by rw [HSK.out, HE.out], by rw [HSK.out, HE.out], by first | rfl | (simp; done), ⟨by have := HK.out; omega⟩, HB6⟩
          · have hin : x ∈ but := by have := HBB.out; simpa using this
            have HE := Aside0.mk (show rstep but p x S1 k = S1 from by unfold rstep; rw [if_neg (fun h => h.1 hin)])
            clear hin HD
            go_wp2_with (first
              | (go_at_call 21; (with_reducible refine (rplace_calls _ _ _).mono ?_); rintro e w5 ⟨rfl, hb⟩; have HB5 := Aside0.mk (below_step HB3.out hb); clear hb)
              | (go_at_call 36; (with_reducible refine (HIN.out _ HB5.out _).mono ?_); rintro e w6 ⟨rfl, hd⟩; rw [← HBB.out]; have HB6 := Aside0.mk (below_step HB5.out hd.below); clear hd))
            go_roundg k2
            case measure => omega
            case rel => exact ⟨k + 1, by rw [HSK.out, HE.out], by rw [HSK.out, HE.out], by first | rfl | (simp; done), ⟨by have := HK.out; omega⟩, HB6⟩
        · have hk8 : k = 8 := by have := HK.out; omega
          subst hk8
          go_wp2_with (fail)
          go_roundg k1
          case measure => omega
          case rel => exact ⟨i + 1, by rw [HST.out], by rw [HST.out], by first | rfl | (simp; done) | (rw [wrap_id (n := (i : Int) + 1) (by omega) (by have := HC.out; have := HM.out; omega)]; first | rfl | (simp; done)), ⟨by have := HI.out; omega⟩, HB3⟩
    · have hi : i = m := by have := HI.out; omega
      subst hi
      go_wp2_with (fail)
      go_ret2
      exact ⟨by unfold rfirstT; rw [← HM.out.1]; rfl, HB.out⟩
end Go.Proofs.Ytibilnohnildcaa.R

/- The ring: what Sub answers, as plain lists; May, same, Right; live. -/
namespace Go.Proofs.Ytibilnohnildcaa.R
open Go.RowKit Go.Proofs.Ytibilnohnildcaa.Q Go.Proofs.YtibilnohnildcaaW.PrintWords Go.Proofs.YtibilnohnildcaaW.PrintLast Go.Proofs.YtibilnohnildcaaW.PrintMore
set_option linter.unusedVariables false
set_option linter.unusedSimpArgs false
/-- Two rising lists of the same members are one. -/
theorem rising_eq : ∀ {a b : List Int}, a.Pairwise (· < ·) → b.Pairwise (· < ·) → (∀ x, x ∈ a ↔ x ∈ b) → a = b
  | [], [], _, _, _ => rfl
  | [], y :: b, _, _, h => absurd ((h y).2 List.mem_cons_self) (by simp)
  | x :: a, [], _, _, h => absurd ((h x).1 List.mem_cons_self) (by simp)
  | x :: a, y :: b, ha, hb, h => by
    have ha2 := List.pairwise_cons.1 ha
    have hb2 := List.pairwise_cons.1 hb
    have hxy : x = y := by
      have h1 := List.mem_cons.1 ((h x).1 List.mem_cons_self)
      have h2 := List.mem_cons.1 ((h y).2 List.mem_cons_self)
      rcases h1 with h1 | h1
      · exact h1
      · rcases h2 with h2 | h2
        · exact h2.symm
        · have := hb2.1 x h1; have := ha2.1 y h2; omega
    subst hxy
    have := rising_eq ha2.2 hb2.2 (fun z => by
      have hz := h z
      rw [List.mem_cons, List.mem_cons] at hz
      constructor
      · intro hm
        rcases hz.1 (.inr hm) with e | e
        · have := ha2.1 z hm; omega
        · exact e
      · intro hm
        rcases hz.2 (.inr hm) with e | e
        · have := hb2.1 z hm; omega
        · exact e)
    rw [this]
theorem allT_rising (n : Nat) : (allT n).Pairwise (· < ·) := by
  unfold allT
  rw [List.pairwise_map]
  exact (List.pairwise_lt_range (n := n)).imp (fun h => by omega)
theorem mem_subF {sp : List S52} {n : Nat} {t : ByteArray} {size : Int} {x : Int} : x ∈ subF sp n t size ↔ x ∈ (subT sp n t (mn size (n : Int)).toNat).1 := (List.mergeSort_perm _ _).mem_iff
theorem mn_le {size : Int} {n : Nat} (h : 3 ≤ size) (hn : 3 ≤ n) : (mn size (n : Int)).toNat ≤ n ∧ 3 ≤ (mn size (n : Int)).toNat := by unfold mn; split <;> omega
theorem subF_len {sp : List S52} {n : Nat} {t : ByteArray} {size : Int} (hr : IsRing n sp) (hn : n ≤ 16) (h3 : 3 ≤ size) (hn3 : 3 ≤ n) : (subF sp n t size).length = (mn size (n : Int)).toNat := by
  unfold subF
  rw [List.length_mergeSort]
  exact (inv_subT hr hn t _ (mn_le h3 hn3).1).2
theorem subF_rising {sp : List S52} {n : Nat} {t : ByteArray} {size : Int} (hr : IsRing n sp) (hn : n ≤ 16) (h3 : 3 ≤ size) (hn3 : 3 ≤ n) : (subF sp n t size).Pairwise (· < ·) := by
  have hi := (inv_subT hr hn t _ (mn_le h3 hn3).1).1
  have h1 : (subF sp n t size).Pairwise (fun x y => decide (x ≤ y) = true) := List.pairwise_mergeSort (le := fun x y : Int => decide (x ≤ y)) (fun a b c h1 h2 => by simp at h1 h2 ⊢; omega) (fun a b => by simp; omega) _
  have h2 : (subF sp n t size).Nodup := (List.mergeSort_perm _ _).nodup_iff.2 hi.nodup
  exact (h1.and h2).imp (fun h => by have h1 := h.1; have h2 := h.2; simp at h1; omega)
theorem subF_rng {sp : List S52} {n : Nat} {t : ByteArray} {size : Int} (hr : IsRing n sp) (hn : n ≤ 16) (h3 : 3 ≤ size) (hn3 : 3 ≤ n) : ∀ x ∈ subF sp n t size, 0 ≤ x ∧ x < n := fun x hx => by
  have hi := (inv_subT hr hn t _ (mn_le h3 hn3).1).1
  exact hi.rng x (hi.sub x (mem_subF.1 hx))
theorem subF_full {sp : List S52} {n : Nat} {t : ByteArray} {size : Int} (hr : IsRing n sp) (hn : n ≤ 16) (hn3 : 3 ≤ n) (h : (n : Int) ≤ size) : subF sp n t size = allT n := by
  have h3 : 3 ≤ size := by omega
  refine rising_eq (subF_rising hr hn h3 hn3) (allT_rising n) (fun x => ⟨fun hx => mem_allT.2 (subF_rng hr hn h3 hn3 x hx), fun hx => ?_⟩)
  refine Classical.byContradiction (fun hno => ?_)
  have hlen := subF_len (t := t) hr hn h3 hn3
  have hmn : (mn size (n : Int)).toNat = n := by unfold mn; split <;> omega
  rw [hmn] at hlen
  have h2 : (subF sp n t size).Nodup := (subF_rising hr hn h3 hn3).imp (fun h => by omega)
  have := nodup_le (S := x :: subF sp n t size) (out := allT n) (List.nodup_cons.2 ⟨hno, h2⟩) (fun y hy => by
    rcases List.mem_cons.1 hy with e | e
    · exact e ▸ hx
    · exact mem_allT.2 (subF_rng hr hn h3 hn3 y e))
  rw [List.length_cons, allT_len, hlen] at this
  omega
theorem right_of {n : Nat} {l : List Int} (h3 : 3 ≤ l.length) (hp : l.Pairwise (· < ·)) (hr : ∀ x ∈ l, 0 ≤ x ∧ x < n) : rightT n l := by
  refine ⟨h3, fun i hi => ?_⟩
  have := hr _ (rd_mem hi)
  refine ⟨this.1, this.2, fun h0 => ?_⟩
  have e1 : rd l ((i : Int) - 1) = l[i - 1] := by rw [show ((i : Int) - 1) = ((i - 1 : Nat) : Int) by omega]; exact rd_get (by omega)
  rw [e1, rd_get hi]
  exact List.pairwise_iff_getElem.1 hp (i - 1) i (by omega) hi (by omega)
theorem subF_right {sp : List S52} {n : Nat} {t : ByteArray} {size : Int} (hr : IsRing n sp) (hn : n ≤ 16) (h3 : 3 ≤ size) (hn3 : 3 ≤ n) : rightT n (subF sp n t size) :=
  right_of (by rw [subF_len hr hn h3 hn3]; exact (mn_le h3 hn3).2) (subF_rising hr hn h3 hn3) (subF_rng hr hn h3 hn3)
theorem same_l0 (l m : List Int) (hl : l.length ≤ 140737488355328) (he : l.length = m.length) : ∀ d i : Nat, i + d = l.length → (∀ j, j < i → rd l (j : Int) = rd m (j : Int)) → manometerlaw20_same.l0 (d + 1) l m (l.length : Int) (i : Int) = some (decide (l = m)) := by
  intro d
  induction d with
  | zero =>
    intro i hi h
    rw [manometerlaw20_same.l0, if_neg (by omega)]
    have : l = m := List.ext_getElem he (fun j h1 h2 => by have := h j (by omega); rwa [rd_get h1, rd_get h2] at this)
    simp [this]
  | succ d ih =>
    intro i hi h
    rw [manometerlaw20_same.l0, if_pos (by omega), if_pos (by omega), if_pos (by omega), if_pos (by omega)]
    by_cases e : rd l (i : Int) = rd m (i : Int)
    · rw [if_pos e, wrap_id (by omega) (by omega)]
      have := ih (i + 1) (by omega) (fun j hj => by
        rcases Nat.lt_or_ge j i with h2 | h2
        · exact h j h2
        · have : j = i := by omega
          rw [this]; exact e)
      rw [show ((i : Int) + 1) = ((i + 1 : Nat) : Int) by omega]
      exact this
    · rw [if_neg e]
      have : l ≠ m := fun h => e (by rw [h])
      simp [this]
theorem same_calls {w : World} {A A2 : Option Addr} {c c2 : Nat} {l m : List Int} (hC : (Kd.int .i64).C w A l.length l) (hc : l.length ≤ c) (hC2 : (Kd.int .i64).C w A2 m.length m) (hc2 : m.length ≤ c2) (hl : l.length ≤ 140737488355328) : Calls Try.prog 15 #[.slice A l.length c, .slice A2 m.length c2] w fun e w' => e = .returned (.bool (decide (l = m))) ∧ Drawn0 w w' :=
  manometerlaw20_same.calls (l.length + 1) A c l A2 c2 m _ w hC hc hC2 hc2 (by
    unfold manometerlaw20_same.f
    by_cases e : l.length = m.length
    · rw [if_pos (by omega)]
      exact same_l0 l m hl e l.length 0 (by omega) (fun j hj => absurd hj (Nat.not_lt_zero _))
    · rw [if_neg (by omega)]
      have : l ≠ m := fun h => e (by rw [h])
      simp [this])
theorem may_calls (a0 : Int) (w : World) : Calls Try.prog 11 #[.int .i64 a0] w fun e w' => e = .returned (.bool (decide (3 ≤ a0 ∧ a0 ≤ 16))) ∧ Drawn0 w w' :=
  manometerref20_May.calls a0 _ w (by
    unfold manometerref20_May.f
    by_cases h : a0 ≥ 3
    · rw [if_pos h]; simp [h]
    · rw [if_neg h]; simp [h])
open Classical in
theorem right_calls {w : World} {A : Option Addr} {c : Nat} {l : List Int} (n : Nat) (hC : (Kd.int .i64).C w A l.length l) (hc : l.length ≤ c) (hl : l.length ≤ 140737488355328) : Calls Try.prog 19 #[.int .i64 n, .slice A l.length c] w fun e w' => e = .returned (.bool (decide (rightT n l))) ∧ Drawn0 w w' := by
  obtain ⟨r, h1, h2⟩ := right_l0 n l hl l.length 0 (by omega) (fun j hj => absurd hj (Nat.not_lt_zero _))
  have := manometerref20_Right.calls (2 * l.length + 1) n A c l r w hC hc h1
  have hr : r = decide (rightT n l) := by
    cases r
    · exact (decide_eq_false (fun h => by cases h2.2 h)).symm
    · exact (decide_eq_true (h2.1 rfl)).symm
  rwa [hr] at this
theorem new3 (w : World) : Calls Try.prog 12 #[.int .i64 3] w fun e w' => ∃ g sp, e = .returned (.tuple #[.pointer (some ⟨g, 0, none⟩), .int .i64 0]) ∧ RingG w' g 3 sp ∧ IsRing 3 sp ∧ Below w.heap.size w w' := new_calls 3 w (by omega) (by omega)
theorem new2 (w : World) : Calls Try.prog 12 #[.int .i64 2] w fun e w' => e = .returned (.tuple #[.pointer none, .int .i64 1]) ∧ w' = w := new_bad 2 w (by omega)
theorem sub_reads {w : World} {g n : Nat} {sp : List S52} (h : RingG w g n sp) (hr : IsRing n sp) (t : ByteArray) (hts : t.size ≤ 1073741824) (size : Int) (h3 : 3 ≤ size) (hn3 : 3 ≤ n) : Calls Try.prog 13 #[.pointer (some ⟨g, 0, none⟩), .string t, .int .i64 size] w fun e w' => ∃ A c, e = .returned (.tuple #[.slice A (subF sp n t size).length c, .int .i64 0]) ∧ (Kd.int .i64).C w' A (subF sp n t size).length (subF sp n t size) ∧ (subF sp n t size).length ≤ c ∧ Below w.heap.size w w' := by
  refine (sub_calls h hr t hts size h3 hn3).mono ?_
  rintro e w' ⟨v, rfl, hv, hb⟩
  obtain ⟨A, c, rfl⟩ := Kd.R_slice hv
  have h2 := Kd.R_reads' hv
  exact ⟨A, c, rfl, h2.2.2, h2.2.1, hb⟩
theorem reps_reads {w : World} {g n : Nat} {sp : List S52} (h : RingG w g n sp) (hr : IsRing n sp) (A : Option Addr) (c : Nat) (sub : List Int) (p : Int) (hs : (Kd.int .i64).C w A sub.length sub) (hc : sub.length ≤ c) (hl : sub.length ≤ 140737488355328) (hrt : rightT n sub) : Calls Try.prog 16 #[.pointer (some ⟨g, 0, none⟩), .slice A sub.length c, .int .u64 p] w fun e w' => ∃ A3 c3, e = .returned (.tuple #[.slice A3 3 c3, .int .i64 0]) ∧ (Kd.int .i64).C w' A3 3 (repsT sp sub p 3).1 ∧ 3 ≤ c3 ∧ Below w.heap.size w w' := by
  refine (replicas_calls h hr A c sub p hs hc hl).mono ?_
  rintro e w' ⟨hcase, hb⟩
  rcases hcase with ⟨_, v, rfl, hv⟩ | ⟨hno, _⟩
  · have hlen := (inv_reps hrt hr h.top p 3 hrt.1).2
    obtain ⟨A3, c3, rfl⟩ := Kd.R_slice hv
    have h2 := Kd.R_reads' hv
    rw [hlen] at h2 ⊢
    exact ⟨A3, c3, rfl, h2.2.2, h2.2.1, hb⟩
  · exact absurd hrt hno
theorem sub_a {w : World} {g : Nat} {sp : List S52} (h : RingG w g 3 sp) (hr : IsRing 3 sp) : Calls Try.prog 13 #[.pointer (some ⟨g, 0, none⟩), .string ⟨#[97]⟩, .int .i64 3] w fun e w' => ∃ A c, e = .returned (.tuple #[.slice A 3 c, .int .i64 0]) ∧ (Kd.int .i64).C w' A 3 [0, 1, 2] ∧ 3 ≤ c ∧ Below w.heap.size w w' := by
  have := sub_reads h hr ⟨#[97]⟩ (by decide) 3 (by omega) (by omega)
  rwa [subF_full hr (by omega) (by omega) (by omega)] at this
theorem reps_a {w : World} {g : Nat} {sp : List S52} (h : RingG w g 3 sp) (hr : IsRing 3 sp) (A : Option Addr) (c : Nat) (hs : (Kd.int .i64).C w A 3 [0, 1, 2]) (hc : 3 ≤ c) : Calls Try.prog 16 #[.pointer (some ⟨g, 0, none⟩), .slice A 3 c, .int .u64 5] w fun e w' => ∃ A3 c3, e = .returned (.tuple #[.slice A3 3 c3, .int .i64 0]) ∧ Below w.heap.size w w' :=
  (reps_reads h hr A c [0, 1, 2] 5 hs hc (by decide) (right_of (by decide) (by decide) (by decide))).mono (fun e w' ⟨A3, c3, h1, _, _, h4⟩ => ⟨A3, c3, h1, h4⟩)
theorem lit_ints (w : World) (l : List Int) (cs : Array Value) (e : cs = (l.map (Value.int .i64)).toArray) (hm : l.length ≤ maxLen) (fz : Nat × Nat := (0, 0)) : (Kd.int .i64).C (w.alloc (.cells cs 3 fz)) (some ⟨w.heap.size, 0, none⟩) l.length l := by
  subst e
  refine ⟨rfl, hm, fun _ => ⟨_, rfl, fun j p hj => ⟨[.int .i64 p], rfl, rfl, fun i u hu => ?_⟩⟩⟩
  cases i with
  | succ i => simp at hu
  | zero =>
    have : Value.int .i64 p = u := by simpa using hu
    subst this
    have h0 := heap_alloc_new w (.cells (l.map (Value.int .i64)).toArray 3 fz)
    have h := cell_of_row _ _ j _ _ _ h0
    have e1 : (⟨w.heap.size, 0, none⟩ : Addr).add (j * (Kd.int .i64).sz + 0) = ⟨w.heap.size, j, none⟩ := by
      have : (Kd.int .i64).sz = 1 := rfl
      rw [this]
      unfold Addr.add
      by_cases hj0 : j = 0
      · simp [hj0]
      · simp [hj0]
    rw [e1]
    refine h.trans ?_
    rw [List.getElem?_toArray, List.getElem?_map, hj]
    rfl
theorem same_a {w : World} {A : Option Addr} {c : Nat} (hC : (Kd.int .i64).C w A 3 [0, 1, 2]) (hc : 3 ≤ c) {A2 : Option Addr} (hC2 : (Kd.int .i64).C w A2 3 [0, 1, 2]) : Calls Try.prog 15 #[.slice A 3 c, .slice A2 3 3] w fun e w' => e = .returned (.bool true) ∧ Drawn0 w w' :=
  (same_calls (l := [0, 1, 2]) (m := [0, 1, 2]) hC hc hC2 (Nat.le_refl _) (by decide)).mono (fun e w' h => by simpa using h)
set_option maxHeartbeats 2000000 in
set_option maxRecDepth 100000 in
theorem live_calls (w : World) : Calls Try.prog 10 #[] w fun e w' => e = .returned (.bool true) ∧ Below w.heap.size w w' := by
  go_enter Try.func10, Try.ntmps10
  go_wp2_with (first
    | (go_at_call 12; (with_reducible refine (new3 _).mono ?_); rintro e w1 ⟨g, sp, rfl, hG, hI, hb⟩; have HG1 := Aside0.mk hG; have HI := Aside0.mk hI; have HB1 := Aside0.mk hb; clear hG hI hb)
    | (go_at_call 12; (with_reducible refine (new2 _).mono ?_); rintro e w2 ⟨rfl, h9⟩; subst h9)
    | (go_at_call 13; (with_reducible refine (sub_a HG1.out HI.out).mono ?_); rintro e w3 ⟨A3, c3, rfl, hC, hc, hb⟩; have HC3 := Aside0.mk hC; have Hc3 := Aside0.mk hc; have HB3 := Aside0.mk (below_step HB1.out hb); have HG3 := Aside0.mk (HG1.out.below hb); clear hC hc hb)
    | (go_at_call 16; (with_reducible refine (reps_a HG3.out HI.out _ _ HC3.out Hc3.out).mono ?_); rintro e w4 ⟨A4, c4, rfl, hb⟩; have HC4 := Aside0.mk (Kd.C_below HC3.out hb); have HB4 := Aside0.mk (below_step HB3.out hb); have HG4 := Aside0.mk (HG3.out.below hb); clear hb)
    | (go_at_call 15; (with_reducible refine (same_a (Kd.C_below HC4.out (below_alloc (Below.refl _ _) _)) Hc3.out (lit_ints _ [0, 1, 2] _ rfl (by decide) _)).mono ?_); rintro e w5 ⟨rfl, hd⟩; have HB5 := Aside0.mk (below_step (below_alloc HB4.out _) hd.below); have HG5 := Aside0.mk ((HG4.out.below (below_alloc (Below.refl _ _) _)).below hd.below); clear hd)
    | (go_at_call 22; (with_reducible refine (nodes_calls HG5.out).mono ?_); rintro e w6 ⟨rfl, h9⟩; subst h9)
    | (go_at_call 20; (with_reducible refine (place_calls _ _ _).mono ?_); rintro e w7 ⟨rfl, hb⟩; have HB7 := Aside0.mk (below_step HB5.out hb); clear hb)
    | (go_at_call 21; (with_reducible refine (rplace_calls _ _ _).mono ?_); rintro e w8 ⟨rfl, hb⟩; have HB8 := Aside0.mk (below_step HB7.out hb); clear hb))
  go_ret
  exact ⟨rfl, HB8.out⟩
end Go.Proofs.Ytibilnohnildcaa.R

/- A ring that no call made; the law RingNone. -/
namespace Go.Proofs.Ytibilnohnildcaa.R
open Go.RowKit Go.Proofs.Ytibilnohnildcaa.Q Go.Proofs.YtibilnohnildcaaW.PrintWords Go.Proofs.YtibilnohnildcaaW.PrintLast Go.Proofs.YtibilnohnildcaaW.PrintMore
set_option linter.unusedVariables false
set_option linter.unusedSimpArgs false
/-- No ring: no pointer, or one to a ring of no nodes. -/
def NoRing (w : World) (p : Option Addr) : Prop := p = none ∨ ∃ g, p = some ⟨g, 0, none⟩ ∧ w.heap[g]? = some (.cells #[.int .i64 0, .slice none 0 0] 49 (0, 0))
theorem no_is {w : World} {p : Option Addr} (h : NoRing w p) : Calls Try.prog 27 #[.pointer p] w fun e w' => e = .returned (.bool false) ∧ w' = w := by
  rcases h with rfl | ⟨g, rfl, h⟩
  · go_enter Try.func27, Try.ntmps27
    go_wp2
    go_ret
    exact ⟨rfl, rfl⟩
  · have c0 : w.cell? ⟨g, 0, none⟩ = some (.int .i64 0) := (blk_cell h 0).trans rfl
    clear h
    go_enter Try.func27, Try.ntmps27
    go_wp2
    go_ret
    exact ⟨rfl, rfl⟩
theorem no_nodes {w : World} {p : Option Addr} (h : NoRing w p) : Calls Try.prog 22 #[.pointer p] w fun e w' => e = .returned (.int .i64 0) ∧ w' = w := by
  have HR := Aside0.mk h
  clear h
  go_enter Try.func22, Try.ntmps22
  go_wp2_with (go_at_call 27; (with_reducible refine (no_is HR.out).mono ?_); rintro e w9 ⟨rfl, h9⟩; subst w9)
  go_ret
  exact ⟨rfl, rfl⟩
theorem no_owner {w : World} {p : Option Addr} (h : NoRing w p) (q : Int) : Calls Try.prog 23 #[.pointer p, .int .u64 q] w fun e w' => e = .returned (.int .i64 (-1)) ∧ w' = w := by
  have HR := Aside0.mk h
  clear h
  go_enter Try.func23, Try.ntmps23
  go_wp2_with (go_at_call 27; (with_reducible refine (no_is HR.out).mono ?_); rintro e w9 ⟨rfl, h9⟩; subst w9)
  go_ret
  exact ⟨rfl, rfl⟩
theorem no_sub {w : World} {p : Option Addr} (h : NoRing w p) (t : ByteArray) (q : Int) : Calls Try.prog 13 #[.pointer p, .string t, .int .i64 q] w fun e w' => e = .returned (.tuple #[.slice none 0 0, .int .i64 2]) ∧ w' = w := by
  have HR := Aside0.mk h
  clear h
  go_enter Try.func13, Try.ntmps13
  go_wp2_with (go_at_call 27; (with_reducible refine (no_is HR.out).mono ?_); rintro e w9 ⟨rfl, h9⟩; subst w9)
  go_ret2
  exact ⟨rfl, rfl⟩
theorem no_replicas {w : World} {p : Option Addr} (h : NoRing w p) (A : Option Addr) (n c : Nat) (q : Int) : Calls Try.prog 16 #[.pointer p, .slice A n c, .int .u64 q] w fun e w' => e = .returned (.tuple #[.slice none 0 0, .int .i64 2]) ∧ w' = w := by
  have HR := Aside0.mk h
  clear h
  go_enter Try.func16, Try.ntmps16
  go_wp2_with (go_at_call 27; (with_reducible refine (no_is HR.out).mono ?_); rintro e w9 ⟨rfl, h9⟩; subst w9)
  go_ret2
  exact ⟨rfl, rfl⟩
theorem no_nil (w : World) : NoRing w none := .inl rfl
theorem no_new (w : World) : NoRing (w.alloc (.cells #[.int .i64 0, .slice none 0 0] 49)) (some ⟨w.heap.size, 0, none⟩) := .inr ⟨_, rfl, heap_alloc_new _ _⟩
set_option maxHeartbeats 4000000 in
set_option maxRecDepth 100000 in
theorem none_law (a0 : ByteArray) (A1 : Option Addr) (n1 c1 : Nat) (a2 : Int) (w : World) : Calls Try.prog 9 #[.string a0, .slice A1 n1 c1, .int .u64 a2] w fun e w' => e = .returned (.bool true) ∧ Below w.heap.size w w' := by
  by_cases hs : (a0.size : Int) > 300
  · go_enter Try.func9, Try.ntmps9
    go_wp2_with (first
      | (go_at_call 10; (with_reducible refine (live_calls _).mono ?_); rintro e w2 ⟨rfl, hb⟩; have HB2 := Aside0.mk (below_step HB1.out hb); clear hb)
      | (go_at_call 10; (with_reducible refine (live_calls _).mono ?_); rintro e w1 ⟨rfl, hb⟩; have HB1 := Aside0.mk hb; clear hb))
    go_ret
    exact ⟨rfl, HB2.out⟩
  by_cases hl : (n1 : Int) > 100
  · go_enter Try.func9, Try.ntmps9
    go_wp2_with (first
      | (go_at_call 10; (with_reducible refine (live_calls _).mono ?_); rintro e w2 ⟨rfl, hb⟩; have HB2 := Aside0.mk (below_step HB1.out hb); clear hb)
      | (go_at_call 10; (with_reducible refine (live_calls _).mono ?_); rintro e w1 ⟨rfl, hb⟩; have HB1 := Aside0.mk hb; clear hb))
    go_ret
    exact ⟨rfl, HB2.out⟩
  go_enter Try.func9, Try.ntmps9
  go_wp2_with (first
      | (go_at_call 10; (with_reducible refine (live_calls _).mono ?_); rintro e w2 ⟨rfl, hb⟩; have HB2 := Aside0.mk (below_step HB1.out hb); clear hb)
      | (go_at_call 10; (with_reducible refine (live_calls _).mono ?_); rintro e w1 ⟨rfl, hb⟩; have HB1 := Aside0.mk hb; clear hb)
      | (go_at_call 13; (with_reducible refine (no_sub (no_nil _) _ _).mono ?_); rintro e w3 ⟨rfl, h9⟩; subst h9)
      | (go_at_call 16; (with_reducible refine (no_replicas (no_new _) _ _ _ _).mono ?_); rintro e w4 ⟨rfl, h9⟩; subst h9)
      | (go_at_call 22; (with_reducible refine (no_nodes (no_nil _)).mono ?_); rintro e w5 ⟨rfl, h9⟩; subst h9)
      | (go_at_call 22; (with_reducible refine (no_nodes (no_new _)).mono ?_); rintro e w6 ⟨rfl, h9⟩; subst h9)
      | (go_at_call 23; (with_reducible refine (no_owner (no_nil _) _).mono ?_); rintro e w7 ⟨rfl, h9⟩; subst h9)
      | (go_at_call 23; (with_reducible refine (no_owner (no_new _) _).mono ?_); rintro e w8 ⟨rfl, h9⟩; subst h9))
  go_ret
  exact ⟨rfl, below_alloc HB1.out _⟩
end Go.Proofs.Ytibilnohnildcaa.R
