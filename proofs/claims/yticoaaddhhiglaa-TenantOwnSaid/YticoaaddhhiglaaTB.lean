import Derived.Test.YticoaaddhhiglaaTA
import Derived.Test.YticoaaddhhiglaaQ3
/- The table of tenants by hand: Index, Contains, Reads, Key. -/
namespace Go.Proofs.Yticoaaddhhiglaa.T
open Go.RowKit Go.Proofs.Yticoaaddhhiglaa.Q Go.Proofs.YticoaaddhhiglaaW.PrintWords Go.Proofs.YticoaaddhhiglaaW.PrintLast Go.Proofs.YticoaaddhhiglaaW.PrintMore
set_option linter.unusedVariables false
set_option linter.unusedSimpArgs false
theorem wrap_id {n : Int} (h0 : -9223372036854775808 ≤ n) (h1 : n ≤ 9223372036854775807) : wrap64 n = n := by unfold wrap64; omega
/-- Where something is in a list first; -1: nowhere. -/
def Idx {α : Type} (p : α → Prop) (l : List α) (r : Int) : Prop := (∃ (j : Nat) (x : α), r = j ∧ l[j]? = some x ∧ p x ∧ ∀ (i : Nat) (y : α), i < j → l[i]? = some y → ¬ p y) ∨ (r = -1 ∧ ∀ y ∈ l, ¬ p y)
theorem index_l0 (l : List ByteArray) (s : ByteArray) (hl : l.length ≤ 1000000) : ∀ d i : Nat, i + d = l.length → (∀ (j : Nat) (y : ByteArray), j < i → l[j]? = some y → ¬ y = s) → ∃ r, slices_Index_string_string.l0 (d + 1) l s (l.length : Int) (i : Int) = some r ∧ Idx (fun y => y = s) l r := by
  intro d
  induction d with
  | zero =>
    intro i hi h
    refine ⟨-1, by rw [slices_Index_string_string.l0, if_neg (by omega)], .inr ⟨rfl, fun y hy => ?_⟩⟩
    obtain ⟨j, hj⟩ := List.getElem?_of_mem hy
    exact h j y (by have := (List.getElem?_eq_some_iff.1 hj).1; omega) hj
  | succ d ih =>
    intro i hi h
    have hil : i < l.length := by omega
    have hrd : rdOf ByteArray.empty l (i : Int) = l[i] := by
      unfold rdOf
      rw [Int.toNat_natCast, List.getD_eq_getElem?_getD, List.getElem?_eq_getElem hil]
      rfl
    rw [slices_Index_string_string.l0, if_pos (by omega), if_pos (by omega), if_pos (by omega), hrd]
    by_cases e : s.toList = l[i].toList
    · rw [if_pos e]
      exact ⟨i, rfl, .inl ⟨i, l[i], rfl, List.getElem?_eq_getElem hil, (str_inj e).symm, h⟩⟩
    · rw [if_neg e, wrap_id (by omega) (by omega)]
      have := ih (i + 1) (by omega) (fun j y hj hy => by
        rcases Nat.lt_or_ge j i with h2 | h2
        · exact h j y h2 hy
        · have : j = i := by omega
          subst this
          rw [List.getElem?_eq_getElem hil] at hy
          injection hy with hy
          intro h3
          exact e (by rw [hy, h3]))
      rw [show ((i : Int) + 1) = ((i + 1 : Nat) : Int) by omega]
      exact this
theorem index_calls {w : World} {A : Option Addr} {c : Nat} {l : List ByteArray} (s : ByteArray) (hC : Kd.string.C w A l.length l) (hc : l.length ≤ c) (hl : l.length ≤ 1000000) : Calls Try.prog 59 #[.slice A l.length c, .string s] w fun e w' => ∃ r, e = .returned (.int .i64 r) ∧ Idx (fun y => y = s) l r ∧ Drawn0 w w' := by
  obtain ⟨r, h1, h2⟩ := index_l0 l s hl l.length 0 (by omega) (fun j y hj => absurd hj (Nat.not_lt_zero _))
  exact (slices_Index_string_string.calls (l.length + 1) A c l s r w hC hc h1).mono (fun e w' h => ⟨r, h.1, h2, h.2⟩)
instance memDec (s : ByteArray) (l : List ByteArray) : Decidable (s ∈ l) := decidable_of_iff (l.any (fun y => decide (y = s)) = true) (by simp)
theorem contains_calls {w : World} {A : Option Addr} {c : Nat} {l : List ByteArray} (s : ByteArray) (hC : Kd.string.C w A l.length l) (hc : l.length ≤ c) (hl : l.length ≤ 1000000) : Calls Try.prog 41 #[.slice A l.length c, .string s] w fun e w' => e = .returned (.bool (decide (s ∈ l))) ∧ Drawn0 w w' := by
  obtain ⟨r, h1, h2⟩ := index_l0 l s hl l.length 0 (by omega) (fun j y hj => absurd hj (Nat.not_lt_zero _))
  refine slices_Contains_string_string.calls (l.length + 1) A c l s _ w hC hc ?_
  have h1' : slices_Index_string_string.f (l.length + 1) l s = some r := h1
  unfold slices_Contains_string_string.f
  rw [h1', Option.bind_some]
  congr 1
  rcases h2 with ⟨j, x, e, hj, hx, _⟩ | ⟨e, hn⟩
  · rw [decide_eq_true (by omega), decide_eq_true (hx ▸ List.mem_of_getElem? hj)]
  · rw [decide_eq_false (by omega), decide_eq_false (fun hm => hn s hm rfl)]
/-- May a tenant read what another one has? -/
def readsT (st : St) (who owner : ByteArray) : Bool := match look st owner with
  | none => false
  | some x => decide (who = owner) || decide (who ∈ x.f5)
theorem str_beq {s t : ByteArray} (h : s ≠ t) : s.toList ≠ t.toList := fun e => h (str_inj e)
set_option maxHeartbeats 4000000 in
set_option maxRecDepth 100000 in
theorem reads_calls {w : World} {D M : Nat} {st : St} (h : TabG w D M st) (who owner : ByteArray) : Calls Try.prog 16 #[.pointer (some ⟨D, 0, none⟩), .string who, .string owner] w fun e w' => e = .returned (.bool (readsT st who owner)) ∧ Below w.heap.size w w' := by
  have HT := Aside0.mk h
  have c1 := h.cells.2
  rcases h.look2 owner with ⟨hl, hlk, _⟩ | ⟨x, A1, c1', A8, c8, hl, hlk, _, e1, e2, e3, e4⟩
  · have HR := Aside0.mk (show readsT st who owner = false by unfold readsT; rw [hl])
    rw [HR.out]
    clear h hl
    go_enter Try.func16, Try.ntmps16
    go_wp2_with (first
      | (go_at_call 38; (with_reducible refine (is_calls HT.out).mono ?_); rintro e w9 ⟨rfl, h9⟩; subst w9)
      | ((with_reducible refine gate_dst (N := 7) rfl ?_); refine box_event ?hg (N := 7) ?hd (cs := (ten z39 (.slice none 0 0) (.slice none 0 0)).toArray) (t := 39) ?hr ?_; (case hd => rfl); (case hg => rfl); (case hr => first | (go_simp; done) | (go_simp; rfl)); intro F hF w2 h2 hb2; have H2 := Aside0.mk h2; have HB2 := Aside0.mk hb2; have HFG := Aside0.mk (show w.heap.size ≤ F by omega); clear h2 hb2 hF hlk c1)
      | ((with_reducible refine gate_ (.store 39 (.tmp 7) (.tmp 19)) rfl ?_); refine store_blk rfl 39 (.tmp 7) (.tmp 19) rfl F (ten z39 (.slice none 0 0) (.slice none 0 0)) (ten z39 (.slice none 0 0) (.slice none 0 0)) rfl rfl H2.out rfl size39 nil_one ?_; intro w3 h3 hk3 hb3; have HB3 := Aside0.mk (hb3 w HFG.out HB2.out); clear h3 hk3 hb3))
    go_ret
    exact ⟨rfl, HB3.out⟩
  · have HR := Aside0.mk (show readsT st who owner = (decide (who = owner) || decide (who ∈ x.f5)) by unfold readsT; rw [hl])
    have HFN := Aside0.mk (look_fine h hl)
    rw [HR.out]
    have HC := Aside0.mk (And.intro e3 e4)
    clear h hl HR e1 e2 e3 e4
    obtain ⟨q, hq⟩ : ∃ q : Nat, q = x.f5.length := ⟨_, rfl⟩
    by_cases hw : who = owner
    · subst hw
      go_enter Try.func16, Try.ntmps16
      go_wp2_with (first
        | (go_at_call 38; (with_reducible refine (is_calls HT.out).mono ?_); rintro e w9 ⟨rfl, h9⟩; subst w9)
        | ((with_reducible refine gate_dst (N := 7) rfl ?_); refine box_event ?hg (N := 7) ?hd (cs := (ten z39 (.slice none 0 0) (.slice none 0 0)).toArray) (t := 39) ?hr ?_; (case hd => rfl); (case hg => rfl); (case hr => first | (go_simp; done) | (go_simp; rfl)); intro F hF w2 h2 hb2; have H2 := Aside0.mk h2; have HB2 := Aside0.mk hb2; have HFG := Aside0.mk (show w.heap.size ≤ F by omega); clear h2 hb2 hF hlk c1)
        | ((with_reducible refine gate_ (.store 39 (.tmp 7) (.tmp 19)) rfl ?_); refine store_blk rfl 39 (.tmp 7) (.tmp 19) rfl F (ten z39 (.slice none 0 0) (.slice none 0 0)) (ten x (.slice A1 x.f1.length c1') (.slice A8 x.f5.length c8)) rfl rfl H2.out rfl size39 (ten_one _ rfl rfl) ?_; intro w3 h3 hk3 hb3; have HB3 := Aside0.mk (hb3 w HFG.out HB2.out); clear h3 hk3 hb3))
      go_ret
      exact ⟨by simp, HB3.out⟩
    · have hne := str_beq hw
      have hbe : (who.toList == owner.toList) = false := beq_false_of_ne hne
      have hw2 : decide (who = owner) = false := decide_eq_false hw
      rw [hw2, Bool.false_or]
      have HBW := Aside0.mk hbe
      clear hw hw2
      go_enter Try.func16, Try.ntmps16
      go_wp2_with (first
        | (go_at_call 38; (with_reducible refine (is_calls HT.out).mono ?_); rintro e w9 ⟨rfl, h9⟩; subst w9)
        | ((with_reducible refine gate_dst (N := 7) rfl ?_); refine box_event ?hg (N := 7) ?hd (cs := (ten z39 (.slice none 0 0) (.slice none 0 0)).toArray) (t := 39) ?hr ?_; (case hd => rfl); (case hg => rfl); (case hr => first | (go_simp; done) | (go_simp; rfl)); intro F hF w2 h2 hb2; have H2 := Aside0.mk h2; have HB2 := Aside0.mk hb2; have HFG := Aside0.mk (show w.heap.size ≤ F by omega); clear h2 hb2 hF hlk c1)
        | ((with_reducible refine gate_ (.store 39 (.tmp 7) (.tmp 19)) rfl ?_); refine store_blk rfl 39 (.tmp 7) (.tmp 19) rfl F (ten z39 (.slice none 0 0) (.slice none 0 0)) (ten x (.slice A1 x.f1.length c1') (.slice A8 x.f5.length c8)) rfl rfl H2.out rfl size39 (ten_one _ rfl rfl) ?_; intro w3 h3 hk3 hb3; have HB3 := Aside0.mk (hb3 w HFG.out HB2.out); obtain ⟨z1, z8, _, _⟩ := cells9 h3; clear h3 hk3 hb3)
        | (go_at_call 41; (with_reducible refine (contains_calls who (Kd.C_below HC.out.1 HB3.out) HC.out.2 (by have := HFN.out.readers; omega)).mono ?_); rintro e w4 ⟨rfl, hd⟩; have HB4 := Aside0.mk (below_step HB3.out hd.below); clear hd))
      go_ret
      exact ⟨rfl, HB4.out⟩
end Go.Proofs.Yticoaaddhhiglaa.T
/- The table of tenants by hand: Key. -/
namespace Go.Proofs.Yticoaaddhhiglaa.T
open Go.RowKit Go.Proofs.Yticoaaddhhiglaa.Q Go.Proofs.YticoaaddhhiglaaW.PrintWords Go.Proofs.YticoaaddhhiglaaW.PrintLast Go.Proofs.YticoaaddhhiglaaW.PrintMore
set_option linter.unusedVariables false
set_option linter.unusedSimpArgs false
theorem fld39 (a b c d e f g h i : Value) (W : World) : (Instr.field 39 (.agg #[a, b, c, d, e, f, g, h, i]) 1).run Try.prog W = .ok b W := by kernel_rfl
/-- The secret of a tenant's key. -/
def findK (l : List S23) (id : Int) : ByteArray × Bool := match l.find? (fun k => decide (k.f0 = id)) with
  | some k => (k.f1, true)
  | none => (⟨#[]⟩, false)
def keyT (st : St) (name : ByteArray) (id : Int) : ByteArray × Bool := match look st name with
  | none => (⟨#[]⟩, false)
  | some x => findK x.f1 id
theorem C23_nil (w : World) : k23.C w none 0 [] := ⟨rfl, by simp, fun h => absurd h (by simp)⟩
/-- The keys of what is looked up. -/
theorem TabG.keys {w : World} {D M : Nat} {st : St} (h : TabG w D M st) (s : ByteArray) : ∃ (x : S39) (A1 : Option Addr) (c1 : Nat) (v8 : Value), (Instr.lookup 58 (.map (some M)) (.string s) false).run Try.prog w = .ok (.agg (ten x (.slice A1 x.f1.length c1) v8).toArray) w ∧ k23.C w A1 x.f1.length x.f1 ∧ x.f1.length ≤ c1 ∧ x.f1.length ≤ 4 ∧ (∀ id, keyT st s id = findK x.f1 id) ∧ ((look st s).map (·.f1)).getD [] = x.f1 := by
  rcases h.look2 s with ⟨hl, _, hlk⟩ | ⟨x, A1, c1', A8, c8, hl, _, hlk, e1, e2, e3, e4⟩
  · exact ⟨z39, none, 0, .slice none 0 0, hlk, C23_nil w, Nat.le_refl _, by simp [z39], fun id => by unfold keyT; rw [hl]; rfl, by rw [hl]; rfl⟩
  · exact ⟨x, A1, c1', _, hlk, e1, e2, (look_fine h hl).keys, fun id => by unfold keyT; rw [hl], by rw [hl]; rfl⟩
theorem cells2 {w : World} {B : Nat} {a b : Value} (h : w.heap[B]? = some (.cells [a, b].toArray 23 (0, 0))) : w.cell? ⟨B, 0, none⟩ = some a ∧ w.cell? ⟨B, 1, none⟩ = some b := ⟨(blk_cell h 0).trans rfl, (blk_cell h 1).trans rfl⟩
end Go.Proofs.Yticoaaddhhiglaa.T
