import Derived.Test.YticoaaddhhiglaaT9
/- The table of tenants by hand: IndexFunc at keys. -/
namespace Go.Proofs.Yticoaaddhhiglaa.T
open Go.RowKit Go.Proofs.Yticoaaddhhiglaa.Q Go.Proofs.YticoaaddhhiglaaW.PrintWords Go.Proofs.YticoaaddhhiglaaW.PrintLast Go.Proofs.YticoaaddhhiglaaW.PrintMore
set_option linter.unusedVariables false
set_option linter.unusedSimpArgs false
def posI : Option Nat → Int
  | none => -1
  | some j => j
theorem Idx.pos {α : Type} {p : α → Prop} [DecidablePred p] {l : List α} {r : Int} (h : Idx p l r) : r = posI (l.findIdx? (fun y => decide (p y))) := by
  rcases h with ⟨j, x, rfl, hj, hx, hn⟩ | ⟨rfl, hn⟩
  · have hjl := (List.getElem?_eq_some_iff.1 hj).1
    have : l.findIdx? (fun y => decide (p y)) = some j := by
      rw [List.findIdx?_eq_some_iff_getElem]
      have he := (List.getElem?_eq_some_iff.1 hj).2
      refine ⟨hjl, by rw [he]; exact decide_eq_true hx, fun i hi => ?_⟩
      have := hn i l[i] hi (List.getElem?_eq_getElem (by omega))
      simpa using this
    rw [this]
    rfl
  · have : l.findIdx? (fun y => decide (p y)) = none := by
      rw [List.findIdx?_eq_none_iff]
      intro x hx
      simpa using hn x hx
    rw [this]
    rfl
/-- Where a key of a number is; where a reader. -/
def keyAt (l : List S23) (id : Int) : Option Nat := l.findIdx? (fun k => decide (k.f0 = id))
def wordAt (l : List ByteArray) (s : ByteArray) : Option Nat := l.findIdx? (fun y => decide (y = s))
theorem windex_calls {w : World} {A : Option Addr} {c : Nat} {l : List ByteArray} (s : ByteArray) (hC : Kd.string.C w A l.length l) (hc : l.length ≤ c) (hl : l.length ≤ 1000000) : Calls Try.prog 59 #[.slice A l.length c, .string s] w fun e w' => e = .returned (.int .i64 (posI (wordAt l s))) ∧ Drawn0 w w' :=
  (index_calls s hC hc hl).mono (fun e w' ⟨r, h1, h2, h3⟩ => ⟨by rw [h1, h2.pos]; rfl, h3⟩)
theorem closure58 {W : World} {X : Nat} {id : Int} (k : S23) (hX : W.cell? ⟨X, 2, none⟩ = some (.int .i64 id)) : Calls Try.prog 58 #[.agg #[.int .i64 k.f0, .string k.f1], .pointer (some ⟨X, 0, none⟩)] W fun e w' => e = .returned (.bool (k.f0 == id)) ∧ Below W.heap.size W w' := by
  have HX := Aside0.mk hX
  clear hX
  go_enter Try.func58, Try.ntmps58
  go_wp2_with (first
    | ((with_reducible refine gate_dst (N := 2) rfl ?_); refine box_event ?hg (N := 2) ?hd (cs := [Value.int .i64 k.f0, .string k.f1].toArray) (t := 23) ?hr ?_; (case hd => rfl); (case hg => rfl); (case hr => first | (go_simp; done) | (go_simp; rfl)); intro F hF w2 h2 hb2; have HB2 := Aside0.mk hb2; have hx := pw_cell_below hb2 HX.out; obtain ⟨z0, z1⟩ := cells2 h2; clear h2 hb2 hF))
  go_ret
  exact ⟨rfl, HB2.out⟩
set_option maxHeartbeats 4000000 in
set_option maxRecDepth 100000 in
theorem indexf_calls {w : World} {A : Option Addr} {c n X : Nat} {l : List S23} {id : Int} (hC : k23.C w A n l) (hn : n = l.length) (hl : n ≤ 1000) (hX : w.cell? ⟨X, 2, none⟩ = some (.int .i64 id)) : Calls Try.prog 57 #[.slice A n c, .func (.func 58) #[] #[.pointer (some ⟨X, 0, none⟩)]] w fun e w' => e = .returned (.int .i64 (posI (keyAt l id))) ∧ Below w.heap.size w w' := by
  have HC := Aside0.mk hC
  have HN := Aside0.mk (And.intro hn hl)
  have HX := Aside0.mk hX
  clear hC hn hl hX
  go_enter Try.func57, Try.ntmps57
  go_wp2
  go_loopg [8] (n + 1) (fun kq v8 wr => ∃ (i : Nat), v8 = .int .i64 i ∧ Aside0 (kq + i = n + 1 ∧ i ≤ n) ∧ Aside0 (∀ (j : Nat) (y : S23), j < i → l[j]? = some y → ¬ y.f0 = id) ∧ Aside0 (Below w.heap.size w wr))
  case atStart => exact ⟨0, rfl, ⟨by omega⟩, ⟨fun j y hj => absurd hj (Nat.not_lt_zero _)⟩, ⟨Below.refl _ _⟩⟩
  case round =>
    obtain ⟨i, rfl, HK, HN2, HB⟩ := hrel
    cases gk with
    | zero => have := HK.out; omega
    | succ k1 =>
    by_cases hlt : i < n
    · have hi0 : (0 : Int) ≤ (i : Int) := by omega
      have hi1 : (i : Int) < (n : Int) := by omega
      obtain ⟨ad, hA, x0, x1⟩ := at_T23 (Kd.C_below HC.out HB.out) (i : Int) hi0 hi1
      simp only [Int.toNat_natCast] at x0 x1
      have hil : i < l.length := by have := HN.out.1; omega
      have hget : l[i]? = some (rd_T23 l (i : Int)) := by
        unfold rd_T23
        rw [Int.toNat_natCast, List.getD_eq_getElem?_getD, List.getElem?_eq_getElem hil]
        rfl
      have HG := Aside0.mk hget
      have HXW := Aside0.mk (pw_cell_below HB.out HX.out)
      subst hA
      clear hlt hget hil
      by_cases e : (rd_T23 l (i : Int)).f0 = id
      · have HR := Aside0.mk (show (i : Int) = posI (keyAt l id) from Idx.pos (p := fun k : S23 => k.f0 = id) (.inl ⟨i, _, rfl, HG.out, e, HN2.out⟩))
        have HE := Aside0.mk (show ((rd_T23 l (i : Int)).f0 == id) = true by simp [e])
        clear e HG
        generalize rd_T23 l (i : Int) = kk at *
        go_wp2_with (go_at_call 58; (with_reducible refine (closure58 kk HXW.out).mono ?_); rintro e w2 ⟨rfl, hb⟩; rw [HE.out]; have HB2 := Aside0.mk (below_step HB.out hb); clear hb)
        go_ret
        exact ⟨by rw [← HR.out]; rfl, HB2.out⟩
      · have HNE := Aside0.mk (show ∀ (j : Nat) (y : S23), j < i + 1 → l[j]? = some y → ¬ y.f0 = id from fun j y hj hy => by
          rcases Nat.lt_or_ge j i with h | h
          · exact HN2.out j y h hy
          · have : j = i := by omega
            subst this
            rw [HG.out] at hy
            injection hy with hy
            rw [← hy]
            exact e)
        have HE := Aside0.mk (show ((rd_T23 l (i : Int)).f0 == id) = false from beq_false_of_ne e)
        clear e HG
        generalize rd_T23 l (i : Int) = kk at *
        go_wp2_with (go_at_call 58; (with_reducible refine (closure58 kk HXW.out).mono ?_); rintro e w2 ⟨rfl, hb⟩; rw [HE.out]; have HB2 := Aside0.mk (below_step HB.out hb); clear hb)
        go_roundg k1
        case measure => omega
        case rel => exact ⟨i + 1, by first | rfl | (simp; done) | (rw [wrap_id (n := (i : Int) + 1) (by omega) (by have := HN.out.2; omega)]; first | rfl | (simp; done)), ⟨by have := HK.out; omega⟩, HNE, HB2⟩
    · have hi : i = n := by have := HK.out; omega
      subst hi
      have HR := Aside0.mk (show (-1 : Int) = posI (keyAt l id) from Idx.pos (p := fun k : S23 => k.f0 = id) (.inr ⟨rfl, fun y hy => by
        obtain ⟨j, hj⟩ := List.getElem?_of_mem hy
        exact HN2.out j y (by have := (List.getElem?_eq_some_iff.1 hj).1; have := HN.out.1; omega) hj⟩))
      go_wp2_with (fail)
      go_ret
      exact ⟨by rw [← HR.out]; rfl, HB.out⟩
end Go.Proofs.Yticoaaddhhiglaa.T
