/- The ring by hand: Replicas. -/
import Derived.Test.YtibilnohnildcaaR12
namespace Go.Proofs.Ytibilnohnildcaa.R
open Go.RowKit Go.Proofs.Ytibilnohnildcaa.Q Go.Proofs.YtibilnohnildcaaW.PrintWords Go.Proofs.YtibilnohnildcaaW.PrintLast Go.Proofs.YtibilnohnildcaaW.PrintMore
set_option linter.unusedVariables false
set_option linter.unusedSimpArgs false
section
variable {ops : Array Oper} {rest : List Oper} {op : Oper} {a : Act} {w : World} {Q : Exit → Act → World → Prop}
theorem store52 (hgd : op.guard = none) (x y : Operand) (ho : op.op = .store 52 x y) (G : Nat) (p q : Int) (u v : Value) (hx : a.eval x = .pointer (some ⟨G, 0, none⟩)) (hy : a.eval y = .agg #[.int .u64 p, .int .i64 q]) (h : w.heap[G]? = some (.cells #[u, v] 52 (0, 0)))
    (hk : ∀ w1, w1.heap[G]? = some (.cells #[.int .u64 p, .int .i64 q] 52 (0, 0)) → (∀ k, k ≠ G → w1.heap[k]? = w.heap[k]?) → (∀ W : World, W.heap.size ≤ G → Below W.heap.size W w → Below W.heap.size W w1) → wpList Try.prog ops Q rest (a.put op.dst undef) w1) : wpList Try.prog ops Q (op :: rest) a w := by
  refine wpList_store_mid hgd 52 x y ho G 0 #[.int .u64 p, .int .i64 q] hx hy (fun j hj => ?_) (by kernel_rfl) (all_oneCell_toArray (cs := [.int .u64 p, .int .i64 q]) (fun v hv => by simp at hv; rcases hv with rfl | rfl <;> rfl)) ?_
  · rw [Nat.zero_add]
    refine ⟨?_, blk_frozen h j⟩
    rw [blk_cell h j]
    match j, hj with
    | 0, _ => rfl
    | 1, _ => rfl
    | j + 2, hj => exact absurd hj (by simp)
  · have e : (w.setCells G 0 (#[Value.int .u64 p, Value.int .i64 q] : Array Value).toList) = (w.setCell ⟨G, 0, none⟩ (.int .u64 p)).setCell ⟨G, 1, none⟩ (.int .i64 q) := rfl
    rw [e]
    exact hk _ (blk_put (blk_put h 0 _ rfl) 1 _ rfl) (fun k hne => (Below.heap_setCell _ _ _ k (fun e => hne e)).trans (Below.heap_setCell _ _ _ k (fun e => hne e))) (fun W hG hb => below_set (below_set hb hG) hG)
end
def marksT (l : List Int) : List Bool := (List.range 16).map (fun j : Nat => decide ((j : Int) ∈ l))
theorem marks_len (l : List Int) : (marksT l).length = 16 := by simp [marksT]
theorem marks_getD (l : List Int) {j : Nat} (hj : j < 16) : (marksT l).getD j false = decide ((j : Int) ∈ l) := by
  unfold marksT
  rw [List.getD_eq_getElem?_getD, List.getElem?_map, List.getElem?_range hj]
  rfl
theorem marks_nil : marksT [] = List.replicate 16 false := by decide
theorem marks_add (l : List Int) {x : Int} (h0 : 0 ≤ x) (h1 : x < 16) : (marksT l).set x.toNat true = marksT (l ++ [x]) := by
  apply List.ext_getElem?
  intro j
  by_cases hj : j < 16
  · unfold marksT
    rw [List.getElem?_set]
    by_cases e : x.toNat = j
    · rw [if_pos e, if_pos (by simp; omega), List.getElem?_map, List.getElem?_range hj]
      have : (j : Int) = x := by omega
      simp [this]
    · rw [if_neg e, List.getElem?_map, List.getElem?_map, List.getElem?_range hj]
      have : ¬ (j : Int) = x := by omega
      simp [this]
  · rw [List.getElem?_eq_none (by rw [List.length_set, marks_len]; omega), List.getElem?_eq_none (by rw [marks_len]; omega)]
/-- The nodes that are picked from a place on, and what is left. -/
def repsT (sp : List S52) (sub : List Int) (p : Int) : Nat → List Int × List Bool × Int
  | 0 => ([], marksT sub, p)
  | k + 1 => ((repsT sp sub p k).1 ++ [(firstT sp (repsT sp sub p k).2.2 (repsT sp sub p k).2.1).f1], (repsT sp sub p k).2.1.set (firstT sp (repsT sp sub p k).2.2 (repsT sp sub p k).2.1).f1.toNat false, (firstT sp (repsT sp sub p k).2.2 (repsT sp sub p k).2.1).f0)
/-- Is a node of a tenant's in its place? -/
def okAt (n : Nat) (sub : List Int) (i : Nat) : Prop := 0 ≤ rd sub (i : Int) ∧ rd sub (i : Int) < n ∧ (0 < i → rd sub ((i : Int) - 1) < rd sub (i : Int))
/-- May nodes be a tenant's? -/
def rightT (n : Nat) (sub : List Int) : Prop := 3 ≤ sub.length ∧ ∀ i, i < sub.length → okAt n sub i
theorem rd_get {l : List Int} {i : Nat} (h : i < l.length) : rd l (i : Int) = l[i] := by
  unfold rd
  rw [Int.toNat_natCast, List.getD_eq_getElem?_getD, List.getElem?_eq_getElem h]
  rfl
theorem right_rising {n : Nat} {sub : List Int} (h : rightT n sub) : ∀ d i : Nat, i + d + 1 < sub.length → rd sub (i : Int) < rd sub ((i + d + 1 : Nat) : Int) := by
  intro d
  induction d with
  | zero =>
    intro i hi
    have := (h.2 (i + 1) (by omega)).2.2 (by omega)
    rw [show (((i + 1 : Nat) : Int) - 1) = (i : Int) by omega] at this
    exact this
  | succ d ih =>
    intro i hi
    have h1 := ih i (by omega)
    have := (h.2 (i + d + 1 + 1) (by omega)).2.2 (by omega)
    rw [show (((i + d + 1 + 1 : Nat) : Int) - 1) = ((i + d + 1 : Nat) : Int) by omega] at this
    have e : i + (d + 1) + 1 = i + d + 1 + 1 := by omega
    rw [e]
    omega
theorem right_pairwise {n : Nat} {sub : List Int} (h : rightT n sub) : sub.Pairwise (· < ·) := by
  rw [List.pairwise_iff_getElem]
  intro i j hi hj hij
  have := right_rising h (j - i - 1) i (by omega)
  rw [show i + (j - i - 1) + 1 = j by omega, rd_get hi, rd_get hj] at this
  exact this
theorem right_rng {n : Nat} {sub : List Int} (h : rightT n sub) : ∀ x ∈ sub, 0 ≤ x ∧ x < n := fun x hx => by
  obtain ⟨i, hi⟩ := List.getElem?_of_mem hx
  have hil := (List.getElem?_eq_some_iff.1 hi).1
  have := h.2 i hil
  rw [okAt, rd_get hil, (List.getElem?_eq_some_iff.1 hi).2] at this
  exact ⟨this.1, this.2.1⟩
theorem inv_sub {n : Nat} {sub : List Int} (h : rightT n sub) (hn : n ≤ 16) : Inv n sub [] (marksT sub) where
  len := marks_len sub
  is j hj := by rw [marks_getD sub hj]; simp
  nodup := List.nodup_nil
  sub := fun x hx => by cases hx
  dist := (right_pairwise h).imp (fun hlt e => by omega)
  rng := right_rng h
  top := hn
theorem inv_reps {n : Nat} {sp : List S52} {sub : List Int} (h : rightT n sub) (hr : IsRing n sp) (hn : n ≤ 16) (p : Int) : ∀ k, k ≤ sub.length → Inv n sub (repsT sp sub p k).1 (repsT sp sub p k).2.1 ∧ (repsT sp sub p k).1.length = k := by
  intro k
  induction k with
  | zero => intro _; exact ⟨inv_sub h hn, rfl⟩
  | succ k ih =>
    intro hk
    obtain ⟨h1, h2⟩ := ih (by omega)
    refine ⟨(h1.pick hr (by omega) _).2.2.2.2.2, ?_⟩
    show (_ ++ [_]).length = k + 1
    rw [List.length_append, h2]
    rfl
/-- What Replicas answers. -/
def RepG (w : World) (n : Nat) (sp : List S52) (sub : List Int) (p : Int) (e : Ending) (w' : World) : Prop :=
  ((rightT n sub ∧ ∃ v, e = .returned (.tuple #[v, .int .i64 0]) ∧ (Kd.int .i64).R 3 w' w.heap.size (fun k => w.heap.size < k) v (repsT sp sub p 3).1) ∨ (¬ rightT n sub ∧ e = .returned (.tuple #[.slice none 0 0, .int .i64 1]))) ∧ Below w.heap.size w w'
theorem arr_new {w : World} (o : Obj) (e : o = .cells ((List.replicate 16 false).map Value.bool).toArray 55) : Arr (w.alloc o) w.heap.size (List.replicate 16 false) := by
  subst e
  exact arr_of (heap_alloc_new w (.cells ((List.replicate 16 false).map Value.bool).toArray 55)) rfl (by simp)
set_option maxHeartbeats 2000000 in
set_option maxRecDepth 100000 in
theorem replicas_calls {w : World} {g n : Nat} {sp : List S52} (h : RingG w g n sp) (hr : IsRing n sp) (A : Option Addr) (c : Nat) (sub : List Int) (p : Int) (hs : (Kd.int .i64).C w A sub.length sub) (hc : sub.length ≤ c) (hl : sub.length ≤ 140737488355328) : Calls Try.prog 16 #[.pointer (some ⟨g, 0, none⟩), .slice A sub.length c, .int .u64 p] w (RepG w n sp sub p) := by
  have HR := Aside0.mk h
  have HI := Aside0.mk hr
  have HC := Aside0.mk hs
  have HL := Aside0.mk (And.intro hc hl)
  have htop := h.top
  obtain ⟨m, hm⟩ : ∃ m : Nat, m = sub.length := ⟨_, rfl⟩
  rw [← hm]
  have HM := Aside0.mk hm
  by_cases h3 : m < 3
  · have h3' : (m : Int) < 3 := by omega
    clear h hr hs hc hl hm
    go_enter Try.func16, Try.ntmps16
    go_wp2_with (go_at_call 27; (with_reducible refine (is_calls HR.out).mono ?_); rintro e w9 ⟨rfl, h9⟩; subst w9)
    go_ret2
    exact ⟨.inr ⟨fun hh => by have := hh.1; have := HM.out; omega, rfl⟩, Below.refl _ _⟩
  have h3' : ¬ (m : Int) < 3 := by omega
  have H3 := Aside0.mk h3
  clear h hr hs hc hl hm h3
  go_enter Try.func16, Try.ntmps16
  go_wp2_with (go_at_call 27; (with_reducible refine (is_calls HR.out).mono ?_); rintro e w9 ⟨rfl, h9⟩; subst w9)
  obtain ⟨wx, hwx⟩ : ∃ wx : World, wx = w.alloc (.cells ((List.replicate 16 false).map Value.bool).toArray 55) := ⟨_, rfl⟩
  have HX : Aside0 (Arr wx w.heap.size (marksT []) ∧ Below w.heap.size w wx) := ⟨by rw [hwx, marks_nil]; exact ⟨arr_new _ rfl, below_alloc (Below.refl _ _) _⟩⟩
  simp only [List.replicate, List.map] at hwx
  rw [← hwx]
  clear hwx
  go_loopg [21] (m + 1) (fun kq v21 wr => ∃ (i : Nat), v21 = .int .i64 i ∧ Aside0 (kq + i = m + 1 ∧ i ≤ m) ∧ Aside0 (∀ j, j < i → okAt n sub j) ∧ Aside0 (Arr wr w.heap.size (marksT (sub.take i))) ∧ Aside0 (Below w.heap.size w wr))
  case atStart => exact ⟨0, rfl, ⟨by omega⟩, ⟨fun j hj => absurd hj (Nat.not_lt_zero _)⟩, ⟨by rw [List.take_zero]; exact HX.out.1⟩, ⟨HX.out.2⟩⟩
  case round =>
    obtain ⟨i, rfl, HK, HO, HA, HB⟩ := hrel
    clear HX
    cases gk with
    | zero => have := HK.out; omega
    | succ k1 =>
    have c0 := (HR.out.below HB.out).cell
    by_cases hlt : i < m
    · have hi0 : (0 : Int) ≤ (i : Int) := by omega
      have hi1 : (i : Int) < (m : Int) := by omega
      have hcr := Kd.C_below HC.out HB.out
      obtain ⟨ad, hAe, x0⟩ := Kd.at_int hcr (i : Int) hi0 (by have := HM.out; omega)
      simp only [Int.toNat_natCast] at x0
      have hprev : (0 < i → wr.cell? (ad.add (i - 1)) = some (.int .i64 (rd sub ((i : Int) - 1)))) := fun hp => by
        obtain ⟨ae, hAe2, y0⟩ := Kd.at_int hcr ((i : Int) - 1) (by omega) (by have := HM.out; omega)
        rw [hAe] at hAe2
        cases hAe2
        rw [show ((i : Int) - 1).toNat = i - 1 by omega] at y0
        exact y0
      have HNO := Aside0.mk (show ¬ okAt n sub i → ¬ rightT n sub from fun h h2 => h (h2.2 i (by have := HM.out; omega)))
      have HOK := Aside0.mk (show 0 ≤ rd sub (i : Int) → rd sub (i : Int) < n → (0 < i → rd sub ((i : Int) - 1) < rd sub (i : Int)) → okAt n sub i from fun h1 h2 h3 => ⟨h1, h2, h3⟩)
      have HOK2 := Aside0.mk (show okAt n sub i → 0 ≤ rd sub (i : Int) ∧ rd sub (i : Int) < n ∧ (0 < i → rd sub ((i : Int) - 1) < rd sub (i : Int)) from fun h => h)
      have htk : sub.take (i + 1) = sub.take i ++ [rd sub (i : Int)] := by
        have hil : i < sub.length := by have := HM.out; omega
        rw [List.take_add_one, List.getElem?_eq_getElem hil, rd_get hil]; rfl
      have HTK := Aside0.mk htk
      subst hAe
      clear hcr htk
      generalize rd sub (i : Int) = x at *
      generalize rd sub ((i : Int) - 1) = y at *
      by_cases b1 : x < 0
      · clear hprev
        go_wp2_with (fail)
        go_ret2
        exact ⟨.inr ⟨HNO.out (fun h => by have := HOK2.out h; omega), rfl⟩, HB.out⟩
      by_cases b2 : x ≥ (n : Int)
      · clear hprev
        go_wp2_with (fail)
        go_ret2
        exact ⟨.inr ⟨HNO.out (fun h => by have := HOK2.out h; omega), rfl⟩, HB.out⟩
      by_cases hz : 0 < i
      · have b3 : (i : Int) > 0 := by omega
        have y0 := hprev hz
        have hm1 : (0 : Int) ≤ (i : Int) - 1 := by omega
        have hm2 : (i : Int) - 1 < (m : Int) := by omega
        have hw1 : wrap64 ((i : Int) - 1) = (i : Int) - 1 := wrap_id (by omega) (by have := HL.out.2; have := HM.out; omega)
        have HZ := Aside0.mk hz
        clear hprev hz
        by_cases b4 : x ≤ y
        · go_wp2_with (fail)
          go_ret2
          exact ⟨.inr ⟨HNO.out (fun h => by have := (HOK2.out h).2.2 HZ.out; omega), rfl⟩, HB.out⟩
        · have HS := Aside0.mk (marks_add (sub.take i) (x := x) (by omega) (by omega))
          have HX1 := Aside0.mk (show 0 ≤ x ∧ x < 16 by omega)
          have hxx0 : 0 ≤ x := by omega
          have hxx1 : x < 16 := by omega
          have HOI := Aside0.mk (HOK.out (by omega) (by omega) (fun _ => by omega))
          have k1c := HA.out.cell (i := x.toNat) (by omega)
          have k2c := HA.out.frozen (i := x.toNat) (by omega)
          go_wp2_with (fail)
          go_roundg k1
          case measure => omega
          case rel => exact ⟨i + 1, by first | rfl | (simp; done) | (rw [wrap_id (n := (i : Int) + 1) (by omega) (by have := HL.out.2; have := HM.out; omega)]; first | rfl | (simp; done)), ⟨by have := HK.out; omega⟩, ⟨fun j hj => by
            rcases Nat.lt_or_ge j i with h | h
            · exact HO.out j h
            · have : j = i := by omega
              subst this
              exact HOI.out⟩, ⟨by rw [HTK.out, ← HS.out]; exact HA.out.set (by have := HX1.out; omega) true⟩, ⟨below_set HB.out (Nat.le_refl _)⟩⟩
      · have b3 : ¬ (i : Int) > 0 := by omega
        have hi00 : i = 0 := by omega
        have HS := Aside0.mk (marks_add (sub.take i) (x := x) (by omega) (by omega))
        have HX1 := Aside0.mk (show 0 ≤ x ∧ x < 16 by omega)
        have hxx0 : 0 ≤ x := by omega
        have hxx1 : x < 16 := by omega
        have HOI := Aside0.mk (HOK.out (by omega) (by omega) (fun _ => by omega))
        have k1c := HA.out.cell (i := x.toNat) (by omega)
        have k2c := HA.out.frozen (i := x.toNat) (by omega)
        clear hprev hi00 hz
        go_wp2_with (fail)
        go_roundg k1
        case measure => omega
        case rel => exact ⟨i + 1, by first | rfl | (simp; done) | (rw [wrap_id (n := (i : Int) + 1) (by omega) (by have := HL.out.2; have := HM.out; omega)]; first | rfl | (simp; done)), ⟨by have := HK.out; omega⟩, ⟨fun j hj => by
          rcases Nat.lt_or_ge j i with h | h
          · exact HO.out j h
          · have : j = i := by omega
            subst this
            exact HOI.out⟩, ⟨by rw [HTK.out, ← HS.out]; exact HA.out.set (by have := HX1.out; omega) true⟩, ⟨below_set HB.out (Nat.le_refl _)⟩⟩
    · have hi : i = m := by have := HK.out; omega
      subst hi
      have hright : rightT n sub := ⟨by have := H3.out; have := HM.out; omega, fun j hj => HO.out j (by have := HM.out; omega)⟩
      have HRT := Aside0.mk hright
      have HAM : Aside0 (Arr wr w.heap.size (repsT sp sub p 0).2.1) := ⟨by
        have := HA.out
        rw [List.take_of_length_le (by have := HM.out; omega)] at this
        exact this⟩
      clear hright hlt
      go_wp2_with (fail)
      clear c0
      go_loopg [2, 11, 52] 4 (fun kq v2 v11 v52 wr => ∃ (k : Nat), v2 = .int .u64 (repsT sp sub p k).2.2 ∧ v52 = .int .i64 k ∧ Aside0 (kq + k = 4 ∧ k ≤ 3) ∧ Aside0 ((Kd.int .i64).R 3 wr w.heap.size (fun k => w.heap.size < k) v11 (repsT sp sub p k).1) ∧ Aside0 (Arr wr w.heap.size (repsT sp sub p k).2.1) ∧ Aside0 (Below w.heap.size w wr))
      case atStart => exact ⟨0, rfl, rfl, ⟨by omega⟩, ⟨Kd.R_nil _ _ _ _ _⟩, HAM, HB⟩
      case round =>
        obtain ⟨k, rfl, rfl, HK3, HRO, HA3, HB3⟩ := hrel
        clear HAM
        cases gk with
        | zero => have := HK3.out; omega
        | succ k2 =>
        by_cases hk3 : k < 3
        · have hk1 : (k : Int) < 3 := by omega
          obtain ⟨hv1, hv2⟩ := inv_reps HRT.out HI.out htop p k (by have := HRT.out.1; omega)
          obtain ⟨q1, q2, q3, q4, q5, q6⟩ := hv1.pick HI.out (by rw [hv2]; have := HRT.out.1; omega) (repsT sp sub p k).2.2
          have hst : repsT sp sub p (k + 1) = ((repsT sp sub p k).1 ++ [(firstT sp (repsT sp sub p k).2.2 (repsT sp sub p k).2.1).f1], (repsT sp sub p k).2.1.set (firstT sp (repsT sp sub p k).2.2 (repsT sp sub p k).2.1).f1.toNat false, (firstT sp (repsT sp sub p k).2.2 (repsT sp sub p k).2.1).f0) := rfl
          have HST := Aside0.mk hst
          have HLL := Aside0.mk (And.intro hv1.len hv2)
          have HBD := Aside0.mk (HI.out.bound htop)
          generalize (repsT sp sub p k).1 = OUT at *
          generalize (repsT sp sub p k).2.1 = LL at *
          generalize (repsT sp sub p k).2.2 = PP at *
          have HFC := Aside0.mk (first_calls (HR.out.below HB3.out) PP LL HLL.out.1 HBD.out)
          have HSB := Aside0.mk (And.intro q2 (show (firstT sp PP LL).f1 < 16 by omega))
          clear hst hv1 hv2 q1 q2 q3 q4 q5 q6 hk3
          generalize firstT sp PP LL = s at *
          go_wp2_with (first
            | ((with_reducible refine gate_dst (N := 56) rfl ?_); refine load_arr rfl (.tmp 8) rfl w.heap.size rfl LL HA3.out ?_)
            | (go_at_call 29; (with_reducible refine (HFC.out).mono ?_); rintro e w3 ⟨rfl, hb⟩; have HB4 := Aside0.mk (below_step HB3.out hb); have HA4 := Aside0.mk (HA3.out.below hb); have HR4 := Aside0.mk (Kd.R_below HRO.out hb); clear hb)
            | ((with_reducible refine gate_dst (N := 12) rfl ?_); refine box_event ?hg (N := 12) ?hd (cs := #[.int .u64 0, .int .i64 0]) (t := 52) ?hr ?_; (case hd => rfl); (case hg => rfl); (case hr => first | (go_simp; done) | (go_simp; rfl)); intro G hG w4 h4 hb4; have H4 := Aside0.mk h4; have HG := Aside0.mk hG; have HB44 := Aside0.mk hb4; clear h4 hb4 hG)
            | (refine store52 rfl (.tmp 12) (.tmp 57) rfl G s.f0 s.f1 _ _ rfl rfl H4.out ?_; intro w5 h5 hk5 hb5; have hb35 : Below w3.heap.size w3 w5 := hb5 w3 (by rw [HG.out]; exact Nat.le_refl _) HB44.out; have HB5 := Aside0.mk (below_step HB4.out hb35); have HA5 := Aside0.mk (HA4.out.below hb35); have HR5 := Aside0.mk (Kd.R_below HR4.out hb35); have H5 := Aside0.mk h5; have HFG := Aside0.mk (show w.heap.size < G from by have := HA4.out.lt; have := HG.out; omega); obtain ⟨t0, t1, t2, t3⟩ := cells52 h5; have k1c := HA5.out.cell (i := s.f1.toNat) (by have := HSB.out; omega); have k2c := HA5.out.frozen (i := s.f1.toNat) (by have := HSB.out; omega); have hs0 := HSB.out.1; have hs1 := HSB.out.2; have u1 := (World.cell?_setCell_other w5 ⟨w.heap.size, s.f1.toNat, none⟩ ⟨G, 1, none⟩ (.bool false) (fun e => by injection e with e _; have := HFG.out; omega)).trans t1; have HZ5 := Aside0.mk (show w3.heap.size < w5.heap.size from by have := blk_lt h5; have := HG.out; omega); clear h5 hk5 hb5 hb35)
            | ((with_reducible refine gate_builtin (b := .append) (xs := #[.tmp 61, .tmp 64]) rfl ?_); at_builtin; refine Kd.R_append (Kd.int .i64) (w0 := w) w.heap.size rfl (.tmp 61) (.tmp 64) 28 3 (.int .i64 0) 8 rfl Try.underlying28 info3 rfl (by decide) (by omega) u11 OUT s.f1 [.int .i64 s.f1] (fun k => w.heap.size < k) (fun _ => False) rfl (by show Value.slice (some ⟨w5.heap.size, 0, none⟩) 1 1 = _; simp) ?aP (fun _ h => h.elim) ?aF ?aO ?aB ?aS ?aL ?_; (case aP => exact rfl); (case aF => exact fun k hk => by have h1 := HFG.out; have h2 := HG.out; have h3 := HZ5.out; have : w5.heap.size ≤ k := (by simpa using hk); omega); (case aO => exact Kd.R_far (p := ⟨w.heap.size, s.f1.toNat, none⟩) HR5.out (fun k hk e => by have hk : w.heap.size < k := hk; have e : k = w.heap.size := e; omega) _); (case aB => exact below_set HB5.out (Nat.le_refl _)); (case aS => have h1 := HB5.out.size; simpa using h1); (case aL => have := HLL.out.2; have := HK3.out; omega); intro v6 w6 ho hb hg hat; have HAPP := Aside0.mk (And.intro ho (And.intro hb hg)); have hgG : w6.heap[G]? = some (.cells #[.int .u64 s.f0, .int .i64 s.f1] 52 (0, 0)) := ((hg.block G (by have := blk_lt H5.out; simpa using this) (fun e => by have h1 := (Kd.R_bound HR4.out).1 G e.symm; have h2 := h1.2.2.1; have := HG.out; omega)).trans (Below.heap_setCell _ _ _ G (fun e => by have e : G = w.heap.size := e; have := HFG.out; omega))).trans H5.out; have u0 := (cells52 hgG).1; have HA6 := Aside0.mk ((HA5.out.set (i := s.f1.toNat) (by have := HSB.out; omega) false).move (hg.block w.heap.size (by have := HA5.out.lt; simpa using this) (fun e => by have := HR4.out.1 w.heap.size e.symm; omega))); clear ho hb hg hat hgG))
          go_roundg k2
          case measure => omega
          case rel => exact ⟨k + 1, by rw [HST.out], by first | rfl | (simp; done) | (rw [wrap_id (n := (k : Int) + 1) (by omega) (by omega)]; first | rfl | (simp; done)), ⟨by have := HK3.out; omega⟩, ⟨by rw [HST.out]; exact HAPP.out.1⟩, ⟨by rw [HST.out]; exact HA6.out⟩, ⟨HAPP.out.2.1⟩⟩
        · have hk : k = 3 := by have := HK3.out; omega
          subst hk
          go_wp2_with (fail)
          go_ret2
          exact ⟨.inl ⟨HRT.out, _, rfl, HRO.out⟩, HB3.out⟩
end Go.Proofs.Ytibilnohnildcaa.R
