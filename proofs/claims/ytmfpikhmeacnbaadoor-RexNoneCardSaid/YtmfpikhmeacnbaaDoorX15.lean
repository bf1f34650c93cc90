/- Patterns by hand: ends, often (mkX15.py). -/
import Derived.Test.YtmfpikhmeacnbaaDoorX14
namespace Go.Proofs.YtmfpikhmeacnbaaDoor.X
open Go.RowKit Go.Proofs.YtmfpikhmeacnbaaDoor.Q Go.Proofs.YtmfpikhmeacnbaaDoorW.PrintWords Go.Proofs.YtmfpikhmeacnbaaDoorW.PrintLast Go.Proofs.YtmfpikhmeacnbaaDoorW.PrintMore
set_option linter.unusedVariables false
set_option linter.unusedSimpArgs false
/-- Runes in memory, wherever they lie. -/
def RI (w : World) (A : Option Addr) (n c : Nat) (l : List Int) : Prop := (Kd.int .i32).R 21 w 0 (fun _ => True) (.slice A n c) l
theorem RI.len {w : World} {A : Option Addr} {n c : Nat} {l : List Int} (h : RI w A n c l) : n = l.length := (Kd.R_reads' h).1
theorem RI.below {w w1 : World} {A : Option Addr} {n c : Nat} {l : List Int} (h : RI w A n c l) (hb : Below w.heap.size w w1) : RI w1 A n c l := Kd.R_below h hb
theorem RI.cell {w : World} {A : Option Addr} {n c : Nat} {l : List Int} (h : RI w A n c l) (i : Nat) (hi : i < n) : ∃ g, A = some ⟨g, 0, none⟩ ∧ w.cell? ⟨g, i, none⟩ = some (.int .i32 (l.getD i 0)) := by
  have hn := h.len
  obtain ⟨g, cap, hv, _⟩ := Kd.R_form h (by omega)
  injection hv with hA hn' hc
  subst hA
  refine ⟨g, rfl, ?_⟩
  have := (Kd.R_celln (0 : Int) h (i : Int) (by omega) (by omega)).1
  rw [Int.toNat_natCast] at this
  exact this
theorem kP_cell {w : World} {B : Nat} {ok : Nat → Prop} {A : Option Addr} {n c : Nat} {cs : List Nat} (h : kP.R 41 w B ok (.slice A n c) cs) (i : Nat) (hi : i < cs.length) : ∃ g, A = some ⟨g, 0, none⟩ ∧ w.cell? ⟨g, i, none⟩ = some (.pointer (some ⟨cs[i], 0, none⟩)) := by
  have hn := (Kd.R_reads' h).1
  obtain ⟨g, cap, hv, _⟩ := Kd.R_form h (by omega)
  injection hv with hA hn' hc
  subst hA
  refine ⟨g, rfl, ?_⟩
  have := (Kd.R_celln (0 : Nat) h (i : Int) (by omega) (by omega)).1
  rw [Int.toNat_natCast] at this
  rw [this]
  show some (Value.pointer (some ⟨cs.getD i 0, 0, none⟩)) = _
  rw [List.getD_eq_getElem?_getD, List.getElem?_eq_getElem hi]
  rfl
theorem Nd.below {w w1 : World} {B q : Nat} {ok : Nat → Prop} {p : Pt} {cs : List Nat} (h : Nd w B ok q p cs) (hb : Below w.heap.size w w1) : Nd w1 B ok q p cs := h.turn (Nat.le_refl _) (fun k _ hl ho => ⟨ho, hb.block k hl⟩)
theorem Tr.below {w w1 : World} {B q : Nat} {ok : Nat → Prop} {p : Pt} (h : Tr w B ok q p) (hb : Below w.heap.size w w1) : Tr w1 B ok q p := h.turn (Nat.le_refl _) (fun k _ hl ho => ⟨ho, hb.block k hl⟩)
/-- What ends leaves. -/
def EndsP (w : World) (g n : Nat) (F O : List Bool) : Ending → World → Prop := fun x w' => ∃ g' c', x = .returned (.slice (some ⟨g', 0, none⟩) n c') ∧ BL w' g' n c' O ∧ (w.heap.size ≤ g' ∨ (g' = g ∧ O = F)) ∧ Below w.heap.size w w'
/-- What a part of one rune has done of the first i runes. -/
structure OneI (s : List S86) (but : Bool) (l : List Int) (F O : List Bool) (i : Nat) : Prop where
  len : O.length = l.length + 1
  at_ : ∀ j, j ≤ l.length → O.getD j false = if 1 ≤ j ∧ j ≤ i then (F.getD (j - 1) false && hasF s but (l.getD (j - 1) 0)) else false
theorem OneI.put {s : List S86} {but : Bool} {l : List Int} {F O : List Bool} {i : Nat} (h : OneI s but l F O i) (hi : i < l.length) {y : Bool} (hy : (F.getD i false && hasF s but (l.getD i 0)) = y) : OneI s but l F (O.set (i + 1) y) (i + 1) := by
  refine ⟨by rw [List.length_set]; exact h.len, fun j hj => ?_⟩
  by_cases e : j = i + 1
  · subst e
    rw [if_pos ⟨by omega, by omega⟩, List.getD_eq_getElem?_getD, List.getElem?_set_self (by rw [h.len]; omega)]
    exact hy.symm
  · have : (O.set (i + 1) y).getD j false = O.getD j false := by rw [List.getD_eq_getElem?_getD, List.getD_eq_getElem?_getD, List.getElem?_set_ne (fun h => e h.symm)]
    rw [this, h.at_ j hj]
    by_cases e' : 1 ≤ j ∧ j ≤ i
    · rw [if_pos e', if_pos ⟨e'.1, by omega⟩]
    · rw [if_neg e', if_neg (fun h => e' ⟨h.1, by omega⟩)]
theorem OneI.fin {s : List S86} {but : Bool} {l : List Int} {F O : List Bool} (h : OneI s but l F O l.length) (hF : F.length = l.length + 1) : O = oneF s but l F := by
  have h1 : (oneF s but l F).length = l.length + 1 := by rw [oneF, List.length_cons, List.length_zipWith]; omega
  refine bl_ext (h.len.trans h1.symm) (fun j hj => ?_)
  rw [h.len] at hj
  rw [h.at_ j (by omega)]
  cases j with
  | zero => rw [if_neg (by omega)]; rfl
  | succ j =>
    rw [if_pos ⟨by omega, by omega⟩]
    unfold oneF
    rw [show (false :: List.zipWith (fun c f => f && hasF s but c) l F).getD (j + 1) false = (List.zipWith (fun c f => f && hasF s but c) l F).getD j false from rfl, List.getD_eq_getElem?_getD (l := List.zipWith _ _ _), List.getElem?_zipWith]
    have e1 : j < l.length := by omega
    have e2 : j < F.length := by omega
    simp only [Nat.add_sub_cancel, List.getD_eq_getElem?_getD, List.getElem?_eq_getElem e1, List.getElem?_eq_getElem e2, Option.getD_some]
set_option maxHeartbeats 2000000 in
set_option maxRecDepth 100000 in
theorem ends_one {w : World} {B q : Nat} {ok : Nat → Prop} {s : List S86} {but pl : Bool} (h : Tr w B ok q (.one s but pl)) {A : Option Addr} {m cl : Nat} {l : List Int} (hl : RI w A m cl l) {g n c : Nat} {F : List Bool} (hF : BL w g n c F) (hn : n = l.length + 1) (hs : n ≤ 1000000) :
    Calls Tryd.prog 28 #[.pointer (some ⟨q, 0, none⟩), .slice A m cl, .slice (some ⟨g, 0, none⟩) n c] w (EndsP w g n F (oneF s but l F)) := by
  obtain ⟨cs, _, hnd⟩ := h
  have HND := Aside0.mk hnd
  obtain ⟨_, _, vs, vp, hq, _⟩ := hnd
  obtain ⟨x0, x1, x2, x3, x4, x5⟩ := nd_cell hq
  have x0' : w.cell? ⟨q, 0, none⟩ = some (.int .i64 0) := x0
  clear hq x0 x1 x2 x3 x4 x5
  have HL := Aside0.mk hl
  have HF := Aside0.mk hF
  have HN := Aside0.mk hn
  have HM := Aside0.mk hl.len
  have HFL := Aside0.mk hF.len
  clear hl hF hn
  go_enter Tryd.func28, Tryd.ntmps28
  go_wp2_with ((with_reducible refine gate_dst (N := 23) rfl ?_); refine Kd.R_make Kd.bool (w0 := w) w.heap.size 4 rfl rfl 65 (.tmp 22) (.tmp 22) rfl (n : Int) rfl rfl Tryd.underlying65 (.bool false) 1 info4 rfl (by decide) (by decide) false (ok := fun k => w.heap.size ≤ k) (okp := fun _ => False) rfl (fun _ h => h.elim) (Nat.le_refl _) (by omega) (by simp only [Int.toNat_natCast]; omega) (Below.refl _ _) (Nat.le_refl _) ?_; intro v3 w3 hr3 hb3 hg3 ho3; simp only [Int.toNat_natCast] at hr3; obtain ⟨g3, c3, hv3, hg3l, _⟩ := Kd.R_form hr3 (by rw [List.length_replicate]; have := HN.out; omega); rw [List.length_replicate] at hv3; subst hv3; have HG3 := Aside0.mk hg3l; have HR3 := Aside0.mk (show BL w3 g3 n c3 (List.replicate n false) from Kd.R_lower (Kd.R_mono hr3 (fun _ _ => trivial)) (Nat.zero_le _)); have HB3 := Aside0.mk hb3; clear hr3 hb3 hg3 ho3 hg3l)
  try go_frame
  clear x0'
  go_loopg [26] (m + 1) (fun kq v26 wr => ∃ (i : Nat) (O : List Bool), v26 = .int .i64 i ∧ Aside0 (kq + i = m + 1 ∧ i ≤ m) ∧ Aside0 (BL wr g3 n c3 O) ∧ Aside0 (OneI s but l F O i) ∧ Aside0 (Below w.heap.size w wr))
  case atStart => exact ⟨0, _, rfl, ⟨by omega, by omega⟩, HR3, ⟨⟨by rw [List.length_replicate]; exact HN.out, fun j hj => by rw [if_neg (by omega), List.getD_eq_getElem?_getD, List.getElem?_replicate]; split <;> rfl⟩⟩, HB3⟩
  case round =>
    clear HR3 HB3
    obtain ⟨i, O, rfl, HK, HO, HI, HB⟩ := hrel
    cases gk with
    | zero => have := HK.out; omega
    | succ k1 =>
    by_cases hi : i < m
    · have hi' : (i : Int) < (m : Int) := by omega
      have HIM := Aside0.mk hi
      have hin : i + 1 < n := by have h1 := HN.out; have h2 := HM.out; omega
      obtain ⟨gl, hA, c1⟩ := (HL.out.below HB.out).cell i hi
      subst hA
      obtain ⟨c2, _⟩ := (HF.out.below HB.out).cell i (by omega)
      obtain ⟨ch, hch⟩ : ∃ ch, l.getD i 0 = ch := ⟨_, rfl⟩
      rw [hch] at c1
      have HCH := Aside0.mk hch
      clear hch
      obtain ⟨a, ha⟩ : ∃ a, F.getD i false = a := ⟨_, rfl⟩
      rw [ha] at c2
      have HA := Aside0.mk ha
      clear ha hi
      cases a with
      | false =>
        obtain ⟨c3', f3⟩ := HO.out.cell (i + 1) hin
        go_wp2_with (fail)
        go_roundg k1
        case measure => omega
        case rel => exact ⟨i + 1, O.set (i + 1) false, by first | rfl | (simp; done) | (rw [wrap64_self (n := (i : Int) + 1) (by omega) (by omega)]; first | rfl | (simp; done)), ⟨by have := HK.out; omega, by have := HIM.out; omega⟩, ⟨HO.out.put (i + 1) false⟩, ⟨HI.out.put (by have h1 := HIM.out; have h2 := HM.out; omega) (by rw [HA.out]; rfl)⟩, ⟨Below.far_ HB.out HG3.out _ _⟩⟩
      | true =>
        go_wp2_with (go_at_call 41; (with_reducible refine (has_calls (HND.out.below HB.out) _).mono ?_); rintro e w2 ⟨rfl, hb⟩; have HB2 := Aside0.mk (HB.out.trans (hb.mono HB.out.size)); have HO2 := Aside0.mk (HO.out.below hb); clear hb c1 c2; obtain ⟨c3', f3⟩ := HO2.out.cell (i + 1) hin)
        go_roundg k1
        case measure => omega
        case rel => exact ⟨i + 1, O.set (i + 1) (hasF s but ch), by first | rfl | (simp; done) | (rw [wrap64_self (n := (i : Int) + 1) (by omega) (by omega)]; first | rfl | (simp; done)), ⟨by have := HK.out; omega, by have := HIM.out; omega⟩, ⟨HO2.out.put (i + 1) _⟩, ⟨HI.out.put (by have h1 := HIM.out; have h2 := HM.out; omega) (by rw [HA.out, Bool.true_and, HCH.out])⟩, ⟨Below.far_ HB2.out HG3.out _ _⟩⟩
    · have hi' : ¬ (i : Int) < (m : Int) := by omega
      have HE := Aside0.mk (show i = l.length by have h1 := HK.out; have h2 := HM.out; omega)
      clear hi
      go_wp2_with (fail)
      go_ret
      have hI := HI.out
      rw [HE.out] at hI
      exact ⟨g3, c3, rfl, by rw [← hI.fin (by have h1 := HFL.out; have h2 := HN.out; omega)]; exact HO.out, .inl HG3.out, HB.out⟩
end Go.Proofs.YtmfpikhmeacnbaaDoor.X
