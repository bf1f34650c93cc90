/- Patterns by hand: lists of places: Clone, join (mkX13.py). -/
import Derived.Test.YtmfpikhmeacnbaaDoorX12
namespace Go.Proofs.YtmfpikhmeacnbaaDoor.X
open Go.RowKit Go.Proofs.YtmfpikhmeacnbaaDoor.Q Go.Proofs.YtmfpikhmeacnbaaDoorW.PrintWords Go.Proofs.YtmfpikhmeacnbaaDoorW.PrintLast Go.Proofs.YtmfpikhmeacnbaaDoorW.PrintMore
set_option linter.unusedVariables false
set_option linter.unusedSimpArgs false
theorem info4 : (Tryd.prog.info? 4).map (fun i => (i.zero, i.size, i.bytes)) = some (some (.bool false), 1, 1) := by kernel_rfl
/-- Places in memory, wherever they lie. -/
def BL (w : World) (g n c : Nat) (L : List Bool) : Prop := Kd.bool.R 4 w 0 (fun _ => True) (.slice (some ⟨g, 0, none⟩) n c) L
theorem BL.len {w : World} {g n c : Nat} {L : List Bool} (h : BL w g n c L) : n = L.length ∧ n ≤ c := ⟨(Kd.R_reads' h).1, (Kd.R_reads' h).2.1⟩
theorem BL.lt {w : World} {g n c : Nat} {L : List Bool} (h : BL w g n c L) : g < w.heap.size := Kd.R_lt h g rfl
theorem BL.step {w w1 : World} {g n c : Nat} {L : List Bool} (h : BL w g n c L) (hm : w1.heap[g]? = w.heap[g]?) : BL w1 g n c L := by
  obtain ⟨h1, inner, ho, hr⟩ := h
  refine ⟨fun _ _ => trivial, inner, ?_, hr⟩
  refine ⟨ho.1, ?_⟩
  rcases ho.2 with ⟨e, _⟩ | ⟨g', cap, cur, e, h2, h3, h4, h5, h6⟩
  · cases e
  · injection e with e1 e2 e3
    injection e1 with e1
    injection e1 with e1
    subst e1
    exact .inr ⟨g, cap, cur, by rw [e2, e3], h2, hm.trans h3, h4, h5, h6⟩
theorem BL.below {w w1 : World} {g n c : Nat} {L : List Bool} (h : BL w g n c L) (hb : Below w.heap.size w w1) : BL w1 g n c L := h.step (hb.block g h.lt)
theorem BL.cell {w : World} {g n c : Nat} {L : List Bool} (h : BL w g n c L) (i : Nat) (hi : i < n) : w.cell? ⟨g, i, none⟩ = some (.bool (L.getD i false)) ∧ w.frozen? ⟨g, i, none⟩ = false := by
  have := Kd.R_celln false h (i : Int) (by omega) (by have := h.len.1; omega)
  rw [Int.toNat_natCast] at this
  exact this
theorem BL.put {w : World} {g n c : Nat} {L : List Bool} (h : BL w g n c L) (i : Nat) (b : Bool) : BL (w.setCell ⟨g, i, none⟩ (.bool b)) g n c (L.set i b) := by
  have := (Kd.R_putg h (i : Int) b).1
  rw [Int.toNat_natCast] at this
  exact this
/-- Two lists of places that lie in one block are the same. -/
theorem BL.same {w : World} {g n c c' : Nat} {L L' : List Bool} (h : BL w g n c L) (h' : BL w g n c' L') : L = L' := by
  have e1 := h.len.1
  have e2 := h'.len.1
  apply List.ext_getElem?
  intro i
  by_cases hi : i < n
  · have h1 := (h.cell i hi).1.symm.trans (h'.cell i hi).1
    injection h1 with h1
    injection h1 with h1
    rw [List.getD_eq_getElem?_getD, List.getD_eq_getElem?_getD] at h1
    rw [List.getElem?_eq_getElem (by omega), List.getElem?_eq_getElem (by omega)] at h1 ⊢
    exact congrArg some h1
  · rw [List.getElem?_eq_none (by omega), List.getElem?_eq_none (by omega)]
theorem made_ {w : World} {g c t z : Nat} {B : Nat} {ok : Nat → Prop} (hB : B ≤ g) (ho : ok g) (h : w.heap[g]? = some (.cells #[] 4 (0, 0))) : Kd.bool.R 4 w B ok (.slice (some ⟨g, 0, none⟩) 0 0) [] :=
  ⟨fun k hk => by have e : g = k := by simpa [Value.ownBlock] using hk
                  rw [← e]; exact ho, [], ⟨rfl, .inr ⟨g, 0, #[], rfl, hB, h, Nat.le_refl _, Nat.zero_le _, rfl, rfl⟩⟩, Reps.none _ _⟩
/-- A new list of places. -/
def BN (w w' : World) (v : Value) (L : List Bool) : Prop := ∃ g c, v = .slice (some ⟨g, 0, none⟩) L.length c ∧ w.heap.size ≤ g ∧ BL w' g L.length c L
set_option maxHeartbeats 1000000 in
set_option maxRecDepth 100000 in
theorem clone_calls {w : World} {g n c : Nat} {L : List Bool} (h : BL w g n c L) (hn : 0 < n) (hl : n ≤ 1000000) : Calls Tryd.prog 50 #[.slice (some ⟨g, 0, none⟩) n c] w fun x w' => ∃ v, x = .returned v ∧ BN w w' v L ∧ Below w.heap.size w w' := by
  obtain ⟨e, _⟩ := h.len
  subst e
  have HH := Aside0.mk h
  have HL := Aside0.mk hl
  have HN := Aside0.mk hn
  have heq : (binOp .eql 65 (.slice (some ⟨g, 0, none⟩) L.length c) (.slice none 0 0)).run Tryd.prog w = .ok (.bool false) w := Lib.run_eql_slice_nil w 65 4 (some ⟨g, 0, none⟩) L.length c 0 0 Tryd.underlying65
  clear h hl hn
  go_enter Tryd.func50, Tryd.ntmps50
  go_wp2_with (first
    | ((with_reducible refine gate_builtin (b := .append) (xs := #[.tmp 5, .tmp 6]) rfl ?_); at_builtin; refine Kd.R_append_rows Kd.bool (w0 := w) w.heap.size rfl (.tmp 5) (.tmp 6) 65 4 (.bool false) 1 rfl Tryd.underlying65 info4 rfl (by decide) (by omega) (.slice (some ⟨w.heap.size, 0, none⟩) 0 0) [] L (some ⟨g, 0, none⟩) L.length c (fun k => w.heap.size ≤ k) (fun _ => False) rfl rfl (made_ (c := 0) (t := 0) (z := 0) (Nat.le_refl _) (Nat.le_refl _) (blk_new _ _)) (Kd.R_reads' (HH.out.below (below_alloc (Below.refl _ _) _))).2.2 (fun x cs hK => hK) (fun _ hq => hq.elim) (fun k hk => Nat.le_trans (by simp) hk) (below_alloc (Below.refl _ _) _) (by simp) (by have h1 := HL.out; simp only [List.length_nil]; omega) ?_; intro v5 w5 ho hb5 hg5 hat5; obtain ⟨A5, c5, rfl⟩ := Kd.R_slice ho; have HO := Aside0.mk ho; have HB5 := Aside0.mk hb5; clear ho hb5 hg5 hat5))
  go_ret
  have ho := HO.out
  rw [List.nil_append] at ho
  obtain ⟨g6, c6, hv, h6, _⟩ := Kd.R_form ho HN.out
  exact ⟨_, rfl, ⟨g6, c6, by simpa using hv, h6, by rw [hv] at ho; exact Kd.R_lower (Kd.R_mono ho (fun _ _ => trivial)) (Nat.zero_le _)⟩, HB5.out⟩
/-- Either list's places. -/
def orL (a b : List Bool) : List Bool := List.zipWith (fun x y => x || y) a b
/-- What join has done of the first i places. -/
structure JoinI (T L M : List Bool) (i : Nat) (more : Bool) : Prop where
  len : M.length = T.length
  at_ : ∀ j, j < T.length → M.getD j false = if j < i then (T.getD j false || L.getD j false) else T.getD j false
  more_ : more = true ↔ ∃ j, j < i ∧ L.getD j false = true ∧ T.getD j false = false
theorem JoinI.start (T L : List Bool) : JoinI T L T 0 false := ⟨rfl, fun j _ => by rw [if_neg (by omega)], ⟨fun h => (by cases h), fun ⟨j, h, _⟩ => by omega⟩⟩
theorem JoinI.keep {T L M : List Bool} {i : Nat} {more : Bool} (h : JoinI T L M i more) (hi : i < T.length) (hk : L.getD i false = false ∨ M.getD i false = true) : JoinI T L M (i + 1) more := by
  have hm : M.getD i false = T.getD i false := by rw [h.at_ i hi, if_neg (by omega)]
  refine ⟨h.len, fun j hj => ?_, h.more_.trans ⟨fun ⟨j, h1, h2⟩ => ⟨j, by omega, h2⟩, fun ⟨j, h1, h2, h3⟩ => ?_⟩⟩
  · rw [h.at_ j hj]
    by_cases e : j = i
    · subst e
      rw [if_neg (by omega), if_pos (by omega)]
      rcases hk with hk | hk
      · rw [hk, Bool.or_false]
      · rw [hm] at hk; rw [hk, Bool.true_or]
    · by_cases e' : j < i
      · rw [if_pos e', if_pos (by omega)]
      · rw [if_neg e', if_neg (by omega)]
  · refine ⟨j, ?_, h2, h3⟩
    by_cases e : j = i
    · subst e
      rcases hk with hk | hk
      · rw [hk] at h2; cases h2
      · rw [hm, h3] at hk; cases hk
    · omega
theorem JoinI.put {T L M : List Bool} {i : Nat} {more : Bool} (h : JoinI T L M i more) (hi : i < T.length) (hl : L.getD i false = true) (hm : M.getD i false = false) : JoinI T L (M.set i true) (i + 1) true := by
  have ht : T.getD i false = false := by
    have e := h.at_ i hi
    rw [if_neg (by omega)] at e
    exact e.symm.trans hm
  refine ⟨by rw [List.length_set]; exact h.len, fun j hj => ?_, ⟨fun _ => ⟨i, by omega, hl, ht⟩, fun _ => rfl⟩⟩
  by_cases e : j = i
  · subst e
    rw [if_pos (by omega), hl, Bool.or_true, List.getD_eq_getElem?_getD, List.getElem?_set_self (by rw [h.len]; exact hi)]
    rfl
  · have : (M.set i true).getD j false = M.getD j false := by rw [List.getD_eq_getElem?_getD, List.getD_eq_getElem?_getD, List.getElem?_set_ne (fun h => e h.symm)]
    rw [this, h.at_ j hj]
    by_cases e' : j < i
    · rw [if_pos e', if_pos (by omega)]
    · rw [if_neg e', if_neg (by omega)]
theorem orL_len {a b : List Bool} (h : a.length = b.length) : (orL a b).length = a.length := by unfold orL; rw [List.length_zipWith]; omega
theorem orL_at {a b : List Bool} (h : a.length = b.length) (j : Nat) : (orL a b).getD j false = (a.getD j false || b.getD j false) := by
  unfold orL
  rw [List.getD_eq_getElem?_getD, List.getD_eq_getElem?_getD, List.getD_eq_getElem?_getD, List.getElem?_zipWith]
  by_cases hj : j < a.length
  · rw [List.getElem?_eq_getElem hj, List.getElem?_eq_getElem (by omega)]
    rfl
  · rw [List.getElem?_eq_none (by omega), List.getElem?_eq_none (by omega)]
    rfl
theorem bl_ext {a b : List Bool} (h : a.length = b.length) (hj : ∀ j, j < a.length → a.getD j false = b.getD j false) : a = b := by
  apply List.ext_getElem?
  intro i
  by_cases hi : i < a.length
  · have := hj i hi
    rw [List.getD_eq_getElem?_getD, List.getD_eq_getElem?_getD] at this
    rw [List.getElem?_eq_getElem hi, List.getElem?_eq_getElem (by omega)] at this ⊢
    exact congrArg some this
  · rw [List.getElem?_eq_none (by omega), List.getElem?_eq_none (by omega)]
theorem JoinI.fin {T L M : List Bool} {more : Bool} (h : JoinI T L M T.length more) (hl : L.length = T.length) : M = orL T L ∧ (more = false ↔ orL T L = T) := by
  have he : M = orL T L := bl_ext (by rw [orL_len hl.symm]; exact h.len) (fun j hj => by rw [h.at_ j (by rw [← h.len]; exact hj), if_pos (by rw [← h.len]; exact hj), orL_at hl.symm])
  refine ⟨he, ?_⟩
  constructor
  · intro hm
    refine bl_ext (orL_len hl.symm) (fun j hj => ?_)
    rw [orL_at hl.symm]
    rw [orL_len hl.symm] at hj
    cases ht : T.getD j false with
    | true => rfl
    | false =>
      cases hlj : L.getD j false with
      | false => rfl
      | true => have := h.more_.2 ⟨j, hj, hlj, ht⟩; rw [hm] at this; cases this
  · intro hm
    cases more with
    | false => rfl
    | true =>
      obtain ⟨j, hj, h1, h2⟩ := h.more_.1 rfl
      have := orL_at hl.symm j
      rw [hm, h2, h1] at this
      cases this
/-- What join answers and leaves. -/
def JoinP (w : World) (g n c : Nat) (T L : List Bool) : Ending → World → Prop := fun x w' => ∃ more, x = .returned (.bool more) ∧ (more = false ↔ orL T L = T) ∧ BL w' g n c (orL T L) ∧ Stp g w w'
set_option maxHeartbeats 1000000 in
set_option maxRecDepth 100000 in
theorem join_calls {w : World} {g n c g2 c2 : Nat} {T L : List Bool} (h : BL w g n c T) (h2 : BL w g2 n c2 L) (hs : n ≤ 1000000) : Calls Tryd.prog 42 #[.slice (some ⟨g, 0, none⟩) n c, .slice (some ⟨g2, 0, none⟩) n c2] w (JoinP w g n c T L) := by
  have HT := Aside0.mk h
  have HL := Aside0.mk h2
  have HS := Aside0.mk hs
  have HN := Aside0.mk (And.intro h.len.1 h2.len.1)
  clear h h2 hs
  go_enter Tryd.func42, Tryd.ntmps42
  go_wp2_with (fail)
  try go_frame
  go_loopg [5, 10] (n + 1) (fun kq v5 v10 wr => ∃ (i : Nat) (more : Bool) (M : List Bool), v5 = .bool more ∧ v10 = .int .i64 i ∧ Aside0 (kq + i = n + 1 ∧ i ≤ n) ∧ Aside0 (JoinI T L M i more) ∧ Aside0 (BL wr g n c M) ∧ Aside0 (BL wr g2 n c2 L) ∧ Aside0 (Stp g w wr))
  case atStart => exact ⟨0, false, T, rfl, rfl, ⟨by omega, by omega⟩, ⟨JoinI.start _ _⟩, HT, HL, ⟨Stp.refl _ _⟩⟩
  case round =>
    clear HT HL
    obtain ⟨i, more, M, rfl, rfl, HK, HJ, HM, HL, HB⟩ := hrel
    cases gk with
    | zero => have := HK.out; omega
    | succ k1 =>
    by_cases hi : i < n
    · have hi' : (i : Int) < (n : Int) := by omega
      have HI := Aside0.mk hi
      have HIT := Aside0.mk (show i < T.length by have := HN.out; omega)
      obtain ⟨cl, fl⟩ := HL.out.cell i hi
      obtain ⟨cm, fm⟩ := HM.out.cell i hi
      obtain ⟨a, ha⟩ : ∃ a, L.getD i false = a := ⟨_, rfl⟩
      obtain ⟨b, hb⟩ : ∃ b, M.getD i false = b := ⟨_, rfl⟩
      rw [ha] at cl
      rw [hb] at cm
      have HA := Aside0.mk ha
      have HB2 := Aside0.mk hb
      clear ha hb hi
      have hcs : a = false ∨ (a = true ∧ b = true) ∨ (a = true ∧ b = false) := by cases a <;> cases b <;> simp
      rcases hcs with rfl | ⟨rfl, rfl⟩ | ⟨rfl, rfl⟩
      · go_wp2_with (fail)
        go_roundg k1
        case measure => omega
        case rel => exact ⟨i + 1, more, M, rfl, by first | rfl | (simp; done) | (rw [wrap64_self (n := (i : Int) + 1) (by omega) (by have h1 := HS.out; have h2 := HI.out; omega)]; first | rfl | (simp; done)), ⟨by have := HK.out; omega, by have := HI.out; omega⟩, ⟨HJ.out.keep HIT.out (.inl HA.out)⟩, HM, HL, HB⟩
      · go_wp2_with (fail)
        go_roundg k1
        case measure => omega
        case rel => exact ⟨i + 1, more, M, rfl, by first | rfl | (simp; done) | (rw [wrap64_self (n := (i : Int) + 1) (by omega) (by have h1 := HS.out; have h2 := HI.out; omega)]; first | rfl | (simp; done)), ⟨by have := HK.out; omega, by have := HI.out; omega⟩, ⟨HJ.out.keep HIT.out (.inr HB2.out)⟩, HM, HL, HB⟩
      · have HG := Aside0.mk (show g2 ≠ g from fun e => by
          subst e
          have := HM.out.same HL.out
          rw [this, HA.out] at HB2
          exact absurd HB2.out (by decide))
        go_wp2_with (fail)
        go_roundg k1
        case measure => omega
        case rel => exact ⟨i + 1, true, M.set i true, rfl, by first | rfl | (simp; done) | (rw [wrap64_self (n := (i : Int) + 1) (by omega) (by have h1 := HS.out; have h2 := HI.out; omega)]; first | rfl | (simp; done)), ⟨by have := HK.out; omega, by have := HI.out; omega⟩, ⟨HJ.out.put HIT.out HA.out HB2.out⟩, ⟨HM.out.put i true⟩, ⟨HL.out.step (Below.heap_setCell _ _ _ _ HG.out)⟩, ⟨HB.out.trans (Stp.set i _)⟩⟩
    · have hi' : ¬ (i : Int) < (n : Int) := by omega
      have HE := Aside0.mk (show i = T.length by have h1 := HK.out; have h2 := HN.out; omega)
      clear hi
      go_wp2_with (fail)
      go_ret
      have hj := HJ.out
      rw [HE.out] at hj
      obtain ⟨e1, e2⟩ := hj.fin (by have := HN.out; omega)
      exact ⟨more, rfl, e2, by rw [← e1]; exact HM.out, HB.out⟩
end Go.Proofs.YtmfpikhmeacnbaaDoor.X
