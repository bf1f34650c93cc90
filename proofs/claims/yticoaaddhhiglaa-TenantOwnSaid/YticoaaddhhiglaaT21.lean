import Derived.Test.YticoaaddhhiglaaTF
import Derived.Test.YticoaaddhhiglaaT20
/- The laws by hand: TenantTurns (mkT21.py). -/
namespace Go.Proofs.Yticoaaddhhiglaa.T
open Go.RowKit Go.Proofs.Yticoaaddhhiglaa.Q Go.Proofs.YticoaaddhhiglaaW.PrintWords Go.Proofs.YticoaaddhhiglaaW.PrintLast Go.Proofs.YticoaaddhhiglaaW.PrintMore
set_option linter.unusedVariables false
set_option linter.unusedSimpArgs false
/-- What Get hands out. -/
def getX (st : St) (s : ByteArray) : S39 := (look st s).getD z39
def getB (st : St) (s : ByteArray) : Bool := (look st s).isSome
theorem getX_small {w : World} {D M : Nat} {st : St} (h : TabG w D M st) (s : ByteArray) : (getX st s).f1.length ≤ 4 ∧ (getX st s).f5.length ≤ 8 := by
  unfold getX
  cases hl : look st s with
  | none => exact ⟨by decide, by decide⟩
  | some x =>
    have := look_fine h hl
    exact ⟨this.keys, this.readers⟩
theorem get2_calls {w : World} {D M : Nat} {st : St} (h : TabG w D M st) (s : ByteArray) : Calls Try.prog 15 #[.pointer (some ⟨D, 0, none⟩), .string s] w fun e w' => ∃ A1 c1 A8 c8, e = .returned (.tuple #[.agg (ten (getX st s) (.slice A1 (getX st s).f1.length c1) (.slice A8 (getX st s).f5.length c8)).toArray, .bool (getB st s)]) ∧
    (k23.R 23 w' w.heap.size (fun _ => True) (.slice A1 (getX st s).f1.length c1) (getX st s).f1 ∧ Kd.string.R 9 w' w.heap.size (fun _ => True) (.slice A8 (getX st s).f5.length c8) (getX st s).f5) ∧ Below w.heap.size w w' := by
  refine (get_calls h s).mono (fun e w' ⟨h1, h2⟩ => ?_)
  unfold getX getB
  rcases h1 with ⟨hl, he⟩ | ⟨x, v1, v8, hl, he, r1, r8⟩
  · rw [hl]
    exact ⟨none, 0, none, 0, he, ⟨Kd.R_nil _ _ _ _ _, Kd.R_nil _ _ _ _ _⟩, h2⟩
  · rw [hl]
    obtain ⟨A1, c1, e1⟩ := Kd.R_slice r1
    obtain ⟨A8, c8, e8⟩ := Kd.R_slice r8
    subst e1; subst e8
    exact ⟨A1, c1, A8, c8, he, ⟨r1, r8⟩, h2⟩
/-- A tenant that was handed out, in a block. -/
def Wz (w : World) (E : Nat) (x : S39) (A1 : Option Addr) (n c1 : Nat) (A8 : Option Addr) (n8 c8 : Nat) : Prop := w.heap[E]? = some (.cells (ten x (.slice A1 n c1) (.slice A8 n8 c8)).toArray 39 (0, 0)) ∧ k23.C w A1 n x.f1 ∧ n ≤ c1 ∧ Kd.string.C w A8 n8 x.f5 ∧ n8 ≤ c8
theorem Wz.sane {w w' : World} {E : Nat} {x : S39} {A1 : Option Addr} {n c1 : Nat} {A8 : Option Addr} {n8 c8 : Nat} (h : Wz w E x A1 n c1 A8 n8 c8) (hs : Sane w w') : Wz w' E x A1 n c1 A8 n8 c8 :=
  ⟨(hs _ _ _ _ h.1).trans h.1, sane_C23 hs h.2.1, h.2.2.1, sane_CS hs h.2.2.2.1, h.2.2.2.2⟩
theorem same_calls {w : World} {x : S39} {n n8 : Nat} (hn : n = x.f1.length) (hn8 : n8 = x.f5.length) (h1 : x.f1.length ≤ 100) (h5 : x.f5.length ≤ 100) {E A1 c1 A8 c8 F B1 d1 B8 d8} (h : Wz w E x A1 n c1 A8 n8 c8) (h' : Wz w F x B1 n d1 B8 n8 d8) :
    Calls Try.prog 17 #[.agg (ten x (.slice A1 n c1) (.slice A8 n8 c8)).toArray, .agg (ten x (.slice B1 n d1) (.slice B8 n8 d8)).toArray] w fun e w' => e = .returned (.bool true) ∧ Below w.heap.size w w' := by
  subst hn; subst hn8
  exact manometerref18_Same.calls 400 x.f0 A1 c1 x.f1 _ _ _ _ _ _ A8 c8 x.f5 x.f0 B1 d1 x.f1 _ _ _ _ _ _ B8 d8 x.f5 true w h.2.1 h.2.2.1 h.2.2.2.1 h.2.2.2.2 h'.2.1 h'.2.2.1 h'.2.2.2.1 h'.2.2.2.2 (same_self x h1 h5)
theorem In_calls {w : World} {A : Option Addr} {n c : Nat} {l : List ByteArray} (s : ByteArray) (hC : Kd.string.C w A n l) (hn : n = l.length) (hc : n ≤ c) (hl : l.length ≤ 1000) : Calls Try.prog 18 #[.slice A n c, .string s] w fun e w' => e = .returned (.bool (decide (s ∈ l))) ∧ Below w.heap.size w w' := by
  subst hn
  exact (manometerref18_In.calls (l.length + 1) A c l s _ w hC hc (in_f l s hl (by omega))).mono (fun e w' h => ⟨h.1, h.2.below⟩)
theorem access_few {w : World} {D M : Nat} {st : St} (h : TabG w D M st) (who : ByteArray) : (accessT st who).length ≤ 16 := Nat.le_trans (List.length_filter_le _ _) h.few
/-- Do, and cells that stay. -/
theorem LvW.doS {w0 : World} {D M : Nat} {st st' : St} {w : World} (h : LvW w0 D M st w) {c : S27} {r : Int} (hr : doT st c = (r, st')) : Calls Try.prog 14 #[.pointer (some ⟨D, 0, none⟩), .agg (chg c).toArray] w fun e w' => e = .returned (.int .i64 r) ∧ LvW w0 D M st' w' ∧ Sane w w' :=
  (do_calls h.tab c).mono (fun e w' ⟨h1, h2, h3⟩ => by
    rw [hr] at h1 h2
    refine ⟨h1, ⟨h2, Chg.onto h.below (Nat.le_refl _) h3 (fun k e => by rw [e]; exact h.hM), h.hD, h.hM⟩, fun k cs t fz hk => h3.block k (heap_lt hk) (fun e => ?_)⟩
    obtain ⟨G, h4, _⟩ := h.tab.ex
    obtain ⟨ma, clk, h5, _⟩ := h4
    rw [e, h5] at hk
    cases hk)
theorem wz_of {w : World} {E : Nat} {x : S39} {A1 : Option Addr} {n c1 : Nat} {A8 : Option Addr} {n8 c8 : Nat} {base : Nat} (h : w.heap[E]? = some (.cells (ten x (.slice A1 n c1) (.slice A8 n8 c8)).toArray 39 (0, 0))) (h1 : k23.R 23 w base (fun _ => True) (.slice A1 n c1) x.f1) (h8 : Kd.string.R 9 w base (fun _ => True) (.slice A8 n8 c8) x.f5) : Wz w E x A1 n c1 A8 n8 c8 := by
  obtain ⟨rfl, l1, g1⟩ := Kd.R_reads' h1
  obtain ⟨rfl, l8, g8⟩ := Kd.R_reads' h8
  exact ⟨h, g1, l1, g8, l8⟩
end Go.Proofs.Yticoaaddhhiglaa.T
