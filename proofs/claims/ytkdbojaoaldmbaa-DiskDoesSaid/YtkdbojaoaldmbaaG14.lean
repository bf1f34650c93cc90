import Derived.Test.YtkdbojaoaldmbaaG13
import Derived.Test.YtkdbojaoaldmbaaDA
import Derived.Test.YtkdbojaoaldmbaaG0
/- The law's own helpers by hand: few, does. -/
namespace Go.Proofs.Ytkdbojaoaldmbaa.G
open Go.RowKit Go.Proofs.Ytkdbojaoaldmbaa.Q Go.Proofs.YtkdbojaoaldmbaaW.PrintWords Go.Proofs.YtkdbojaoaldmbaaW.PrintLast Go.Proofs.YtkdbojaoaldmbaaW.PrintMore
set_option linter.unusedVariables false
set_option linter.unusedSimpArgs false
attribute [local go_sem] min2_mn min_two max2_mx max_two
/-- Join of one row is that row. -/
theorem join_one (x : List Int) (hx : x.length < 140737488355328) : manometerref01_Join.f 2 [x] = some x := by
  unfold manometerref01_Join.f manometerref01_Join.l0
  have h0 : rd_L3 [x] 0 = x := rfl
  rw [if_pos (by simp), if_pos (by decide), if_pos (by simp), h0, if_pos (by simpa using hx)]
  unfold manometerref01_Join.l0
  rw [if_neg (by rw [show wrap64 (0 + 1) = 1 by unfold wrap64; omega]; simp)]
  rfl
theorem rd_eq_get (l : List Int) (i : Nat) (h : i < l.length) : rd l (i : Int) = l[i] := by
  unfold rd
  rw [Int.toNat_natCast, List.getD_eq_getElem?_getD, List.getElem?_eq_getElem h]
  rfl
theorem equal_l0 (a b : List Int) (hab : a.length = b.length) (hl : a.length ≤ 9223372036854775807) : ∀ d i k, d + i = a.length → d < k → (∀ j, j < i → a[j]? = b[j]?) → manometerref01_Equal.l0 k a b (a.length : Int) (i : Int) = some (decide (a = b)) := by
  intro d
  induction d with
  | zero =>
    intro i k hi hk hp
    obtain ⟨k, rfl⟩ : ∃ m, k = m + 1 := ⟨k - 1, by omega⟩
    have e : a = b := List.ext_getElem? (fun j => by
      by_cases hj : j < a.length
      · exact hp j (by omega)
      · rw [List.getElem?_eq_none (by omega), List.getElem?_eq_none (by omega)])
    simp only [manometerref01_Equal.l0]
    rw [if_neg (show ¬ ((i : Int) < (a.length : Int)) by omega)]
    simp [e]
  | succ d ih =>
    intro i k hi hk hp
    obtain ⟨k, rfl⟩ : ∃ m, k = m + 1 := ⟨k - 1, by omega⟩
    simp only [manometerref01_Equal.l0]
    rw [if_pos (show (i : Int) < (a.length : Int) by omega), if_pos (show (0 : Int) ≤ (i : Int) by omega), if_pos (show (i : Int) < (a.length : Int) by omega), if_pos (show (i : Int) < (b.length : Int) by omega)]
    rw [rd_eq_get a i (by omega), rd_eq_get b i (by omega)]
    by_cases he : a[i] = b[i]'(by omega)
    · rw [if_pos he, show wrap64 ((i : Int) + 1) = ((i + 1 : Nat) : Int) by unfold wrap64; omega]
      refine ih (i + 1) k (by omega) (by omega) (fun j hj => ?_)
      rcases Nat.lt_or_ge j i with h | h
      · exact hp j h
      · have : j = i := by omega
        subst this
        rw [List.getElem?_eq_getElem (by omega), List.getElem?_eq_getElem (by omega), he]
    · rw [if_neg he]
      have : ¬ a = b := fun e => he (by subst e; rfl)
      simp [this]
theorem equal_f (a b : List Int) (hl : a.length ≤ 9223372036854775807) : manometerref01_Equal.f (a.length + 1) a b = some (decide (a = b)) := by
  unfold manometerref01_Equal.f
  by_cases h : a.length = b.length
  · rw [if_pos (by omega)]
    exact equal_l0 a b h hl a.length 0 (a.length + 1) (by omega) (by omega) (fun j hj => by omega)
  · rw [if_neg (by omega)]
    have : ¬ a = b := fun e => h (by rw [e])
    simp [this]
/-- Some of a list, from its beginning on. -/
def Some (w : World) (A : Option Addr) (n c : Nat) (e : Ending) (w' : World) : Prop := ∃ m, m ≤ n ∧ e = .returned (.slice A m c) ∧ Below w.heap.size w w'
set_option maxHeartbeats 1000000 in
set_option maxRecDepth 100000 in
theorem few_calls (A : Option Addr) (c : Nat) (l : List S31) (w : World) (hc : l.length ≤ c) (hr : k31.C w A l.length l) (hbd : l.length ≤ 140737488355328) : Calls Try.prog 10 #[.slice A l.length c] w (Some w A l.length c) := by
  have HR := Aside0.mk hr
  clear hr
  generalize hn : l.length = n at *
  clear hn
  go_enter Try.func10, Try.ntmps10
  go_wp2
  go_loopg [3, 8] (n + 1) (fun kq v3 v8 wr => ∃ (a : Int) (j : Nat), v3 = .int .i64 a ∧ v8 = .int .i64 j ∧ Aside0 (kq + j = n + 1 ∧ j ≤ n) ∧ Aside0 (Below w.heap.size w wr))
  case atStart => exact ⟨0, 0, rfl, rfl, ⟨by omega⟩, ⟨Below.refl _ _⟩⟩
  case round =>
    obtain ⟨a, j, rfl, rfl, HJ, HB⟩ := hrel
    cases gk with
    | zero => have := HJ.out; omega
    | succ k1 =>
    by_cases hlt : j < n
    · have hi0 : (0 : Int) ≤ (j : Int) := by omega
      have hi1 : (j : Int) < (n : Int) := by omega
      obtain ⟨ad, hA⟩ : ∃ ad, A = some ad := by
        obtain ⟨ad, _, e, _⟩ := Kd.C_get HR.out z31 (j : Int) hi0 hi1
        exact ⟨ad, e⟩
      subst hA
      obtain ⟨ad', A1, c1, hAe, x0, x1, x2, x3, x4, hc1, hd1⟩ := at_T31 (Kd.C_below HR.out HB.out) (j : Int) hi0 hi1
      injection hAe with hAe
      subst hAe
      simp only [Int.toNat_natCast] at x0 x1 x2 x3 x4
      have hxs := (rd_T31 l (j : Int)).f1.size
      generalize rd_T31 l (j : Int) = x at *
      have HB1 := Aside0.mk (below_alloc HB.out (.cells #[.int .i64 x.f0, .string x.f1, .string x.f2, .slice A1 x.f3.length c1, .int .i64 x.f4] 31))
      clear hd1
      go_wp2
      all_goals first
        | (go_roundg k1
           case measure => omega
           case rel => exact ⟨_, j + 1, rfl, by first | rfl | (simp; done) | (simp; omega), ⟨by have := HJ.out; omega⟩, HB1⟩)
        | (go_ret
           exact ⟨j, Nat.le_of_lt hlt, rfl, HB1.out⟩)
    · have hj : j = n := by have := HJ.out; omega
      subst hj
      go_wp2
      go_ret
      exact ⟨j, Nat.le_refl _, rfl, HB.out⟩
/-- A row of one row. -/
theorem C_one {w : World} {g : Nat} {A : Option Addr} {x : List Int} {c : Nat} (hc : w.cell? ⟨g, 0, none⟩ = some (.slice A x.length c)) (hl : x.length ≤ c) (hx : (Kd.int .u8).C w A x.length x) : (Kd.slice 5 (Kd.int .u8)).C w (some ⟨g, 0, none⟩) [x].length [x] := by
  refine ⟨rfl, by simp, fun _ => ⟨_, rfl, fun j p hj => ?_⟩⟩
  cases j with
  | zero =>
    have : x = p := by simpa using hj
    subst this
    refine ⟨[.slice A x.length c], rfl, ⟨A, c, rfl, hl, hx⟩, fun i u hu => ?_⟩
    cases i with
    | zero =>
      have : Value.slice A x.length c = u := by simpa using hu
      subst this
      exact hc
    | succ i => simp at hu
  | succ j => simp at hj
/-- What an act is answered, and what it leaves. -/
def opE (room : Int) (st : St) (d : Int) (n t : ByteArray) (x : List Int) (k : Int) : Int := if d = 0 then appendE room st n x else if d = 1 then syncE st n else if d = 2 then cutE st n k else if d = 3 then removeE st n else if d = 4 then swapE st n t else 0
def opS (room : Int) (st : St) (d : Int) (n t : ByteArray) (x : List Int) (k : Int) : St := if d = 0 then appendS room st n x else if d = 1 then syncS st n else if d = 2 then cutS st n k else if d = 3 then removeS st n else if d = 4 then swapSt st n t else if d = 5 then crashS k st else st
section
variable {w w' w1 w2 : World} {D M B : Nat} {room : Int} {dat dat' dat1 : Nat → Prop} {fs fs1 : ByteArray → Option Raw} {st st' st1 st2 : St}
/-- What the loop of does keeps: the disk, and a row that is not the disk's. -/
def XInv (w : World) (D M : Nat) (room : Int) (B : Nat) (dat : Nat → Prop) (fs : ByteArray → Option Raw) (st2 : St) (dat3 : Nat → Prop) (fs3 : ByteArray → Option Raw) (hi : Nat) (v : Value) (n : Nat) (wr : World) : Prop :=
  (∃ xs : List Int, xs.length = n ∧ (Kd.int .u8).R 5 wr w.heap.size (fun k => w.heap.size ≤ k ∧ k < hi) v xs) ∧ DiskG wr D M room B dat3 fs3 st2 ∧ Went w D M dat fs dat3 fs3 wr
theorem XInv.put {dat3 : Nat → Prop} {fs3 : ByteArray → Option Raw} {hi n c : Nat} {A : Option Addr} {wr : World} (h : DiskG w D M room B dat fs st) (hd : ∀ k, dat3 k → dat k ∨ hi ≤ k) (H : XInv w D M room B dat fs st2 dat3 fs3 hi (.slice A n c) n wr) {i : Nat} (hin : i < n) (y : Int) :
    ∃ g, A = some ⟨g, 0, none⟩ ∧ (∃ z, wr.cell? ⟨g, i, none⟩ = some (.int .u8 z)) ∧ wr.frozen? ⟨g, i, none⟩ = false ∧ XInv w D M room B dat fs st2 dat3 fs3 hi (.slice A n c) n (wr.setCell ⟨g, i, none⟩ (.int .u8 y)) := by
  obtain ⟨⟨xs, hxl, hR⟩, hD, hW⟩ := H
  obtain ⟨g, cap, hv, _, hgl, cs, hgc⟩ := Kd.R_form hR (by omega)
  injection hv with h1 h2 h3
  subst h1 h3
  rw [← hxl] at hR ⊢
  have hg := hR.1 g rfl
  obtain ⟨q1, q2⟩ := Kd.R_cell (0 : Int) hR (i : Int) (by omega) (by omega)
  obtain ⟨q3, q4⟩ := Kd.R_put hR (i : Int) y
  simp only [Int.toNat_natCast] at q1 q2 q3 q4
  refine ⟨g, rfl, ⟨_, q1⟩, q2, ⟨_, ?_, by rw [show xs.length = (xs.set i y).length by rw [List.length_set]] at q3; rw [List.length_set] at q3; exact q3⟩, ?_, ?_⟩
  · rw [List.length_set]
  · refine hD.move (by simp) (fun k hk hm => Below.heap_setCell _ _ _ k (fun e => ?_))
    have e : k = g := e
    subst e
    rcases hm with hm | hm
    · rcases hD.mine_cells hm hgc with h | h <;> cases h
    · rcases hd k hm with h' | h'
      · have := h.files.datlt k h'; omega
      · omega
  · exact ⟨hW.chg.trans (T := fun k => k = g) ((Chg.refl _ wr).set _ _ rfl) (fun _ _ e => e) (fun k hk e => by omega), hW.old, hW.sub, hW.raw⟩
theorem heap_one (W : World) (v : Value) : (W.alloc (.cells #[v] 29)).cell? ⟨W.heap.size, 0, none⟩ = some v := by
  have := heap_alloc_new W (.cells #[v] 29)
  exact (blk_cell this 0).trans rfl
theorem row_ty {α : Type} {d : Kd α} {base n c : Nat} {ok : Nat → Prop} {A : Option Addr} {x : List α} (hR : d.R 5 w base ok (.slice A n c) x) : ∀ ad, A = some ad → ∃ cs fz, w.heap[ad.block]? = some (.cells cs 5 fz) := fun ad e => by
  subst e
  obtain ⟨cs, h⟩ := Kd.R_typed hR ad.block rfl
  exact ⟨cs, _, h⟩
theorem xstart {dat3 : Nat → Prop} {fs3 : ByteArray → Option Raw} {v : Value} {x : List Int} {w3 : World} (h : DiskG w D M room B dat fs st) (hb : Below w.heap.size w w2) (hR : (Kd.int .u8).R 5 w2 w.heap.size (fun k => w.heap.size ≤ k ∧ k < w2.heap.size) v x) (hD3 : DiskG w3 D M room B dat3 fs3 st2) (hW3 : Went w2 D M dat fs dat3 fs3 w3) :
    XInv w D M room B dat fs st2 dat3 fs3 w2.heap.size v x.length w3 :=
  ⟨⟨x, rfl, row_keep (h.below hb) hR (fun q hq => by
    have : q = 5 := by simpa [Kd.int, Kd.scalar] using hq
    subst this
    decide) hW3.chg⟩, hD3, (Went.below hb).trans hW3⟩
theorem join_calls (W : World) (A : Option Addr) (x : List Int) (c : Nat) (hl : x.length ≤ c) (hx : (Kd.int .u8).C W A x.length x) (hb : x.length < 140737488355328) :
    Calls Try.prog 32 #[.slice (some ⟨W.heap.size, 0, none⟩) 1 1] (W.alloc (.cells #[.slice A x.length c] 29)) fun e w' => ∃ v : Value, e = .returned v ∧ (Kd.int .u8).R 5 w' (W.alloc (.cells #[.slice A x.length c] 29)).heap.size (fun _ => True) v x ∧ Below (W.alloc (.cells #[.slice A x.length c] 29)).heap.size (W.alloc (.cells #[.slice A x.length c] 29)) w' :=
  manometerref01_Join.calls 2 (some ⟨W.heap.size, 0, none⟩) 1 [x] x _ (C_one (heap_one _ _) hl (Kd.C_alloc hx _)) (Nat.le_refl _) (join_one x hb)
set_option maxHeartbeats 2000000 in
set_option maxRecDepth 100000 in
theorem does_calls (h : DiskG w D M room B dat fs st) (d : Int) (n t : ByteArray) (A : Option Addr) (c : Nat) (x : List Int) (k : Int) (hc : x.length ≤ c) (hx : (Kd.int .u8).C w A x.length x) (hn : n.size ≤ 9223372036854775807) (ht : t.size ≤ 9223372036854775807) (hl : x.length < 140737488355328) :
    Calls Try.prog 12 #[.pointer (some ⟨D, 0, none⟩), .agg #[.int .i64 d, .string n, .string t, .slice A x.length c, .int .i64 k]] w fun e w' => e = .returned (.int .i64 (opE room st d n t x k)) ∧ Left w D M room B dat fs (opS room st d n t x k) w' := by
  have HX := Aside0.mk hx
  have HH := Aside0.mk h
  have HC := Aside0.mk hc
  have HS := Aside0.mk (And.intro hn (And.intro ht hl))
  clear h hx hc hn ht hl
  unfold opE opS
  by_cases d0 : d = 0
  · rw [if_pos d0, if_pos d0]
    go_enter Try.func12, Try.ntmps12
    go_wp2_with (first
      | ((with_reducible refine gate_dst (N := 3) rfl ?_); refine box_event ?hg (N := 3) ?hd (cs := #[.int .i64 d, .string n, .string t, .slice A x.length c, .int .i64 k]) (t := 31) ?hr ?_; (case hd => rfl); (case hg => rfl); (case hr => first | (go_simp; done) | (go_simp; rfl)); intro F hF wa hla hba; have o0 := (blk_cell hla 0).trans rfl; have o1 := (blk_cell hla 1).trans rfl; have o2 := (blk_cell hla 2).trans rfl; have o3 := (blk_cell hla 3).trans rfl; have o4 := (blk_cell hla 4).trans rfl; have HB := Aside0.mk hba; have HD := Aside0.mk (HH.out.below hba); have HX2 := Aside0.mk (Kd.C_below HX.out hba); have HLA := Aside0.mk hla; clear hla hba hF)
      | (go_at_call 32; (with_reducible refine (join_calls wa A x c HC.out HX2.out HS.out.2.2).mono ?_); rintro e w2 ⟨v, rfl, hR, hb⟩; obtain ⟨A2, c2, rfl⟩ := Kd.R_slice hR; have hb2 := below_step (below_alloc (Below.refl _ _) _) hb; have HB2 := Aside0.mk (below_step HB.out hb2); have HR2 := Aside0.mk (Kd.R_lower (Kd.R_mono (Kd.R_bound hR) (ok' := fun k => w.heap.size ≤ k ∧ k < w2.heap.size) (fun k hk => ⟨Nat.le_trans HB.out.size (Nat.le_trans (below_alloc (Below.refl _ _) _).size hk.2.1), hk.2.2.1⟩)) (Nat.le_trans HB.out.size (below_alloc (Below.refl _ _) _).size)); have o1b := pw_cell_below hb2 o1; clear hR hb hb2)
      | (go_at_call 20; (with_reducible refine (append_calls (HH.out.below HB2.out) n HS.out.1 A2 c2 x (Kd.R_reads' HR2.out).2.2 (row_ty HR2.out)).mono ?_); rintro e w3 ⟨rfl, hL⟩; obtain ⟨dat3, fs3, hD3, hW3⟩ := hL.split; have HXI := Aside0.mk (xstart HH.out HB2.out HR2.out hD3 hW3); have HO3 := Aside0.mk (fun k (hk : dat3 k) => hW3.old k hk); clear hL hD3 hW3))
    generalize hnx : x.length = nn at *
    have hnx' := Aside0.mk hnx
    clear hnx
    go_loopg [23] (nn + 1) (fun kq v23 wr => ∃ (i : Nat), v23 = .int .i64 i ∧ Aside0 (kq + i = nn + 1 ∧ i ≤ nn) ∧ Aside0 (XInv w D M room B dat fs (appendS room st n x) dat3 fs3 w2.heap.size (.slice A2 nn c2) nn wr))
    case atStart => exact ⟨0, rfl, ⟨by omega⟩, HXI⟩
    case round =>
      obtain ⟨i, rfl, HK, HI⟩ := hrel
      cases gk with
      | zero => have := HK.out; omega
      | succ k1 =>
      by_cases hlt : i < nn
      · obtain ⟨g, hA2, ⟨z, q1⟩, q2, _⟩ := HI.out.put HH.out HO3.out hlt 0
        have hp := fun y => (HI.out.put HH.out HO3.out hlt y)
        have HP := Aside0.mk hp
        clear hp
        subst hA2
        have hi1 : (i : Int) < (nn : Int) := by omega
        have hcc := (Kd.R_reads' HR2.out).2.1
        go_wp2_with (fail)
        go_roundg k1
        case measure => omega
        case rel => exact ⟨i + 1, by (rw [wrap_id (n := (i : Int) + 1) (by omega) (by have := HS.out.2.2; have := hnx'.out; omega)]; first | rfl | (simp; done)), ⟨by have := HK.out; omega⟩, ⟨by obtain ⟨g', hg', _, _, hX⟩ := HP.out _; injection hg' with hg'; injection hg' with hg'; subst hg'; exact hX⟩⟩
      · have hi : i = nn := by have := HK.out; omega
        subst hi
        go_wp2_with (fail)
        go_ret
        obtain ⟨_, hD4, hW4⟩ := HI.out
        exact ⟨rfl, hW4.left hD4⟩
  · rw [if_neg d0, if_neg d0]
    by_cases d1 : d = 1
    · skip
      rw [if_pos d1, if_pos d1]
      go_enter Try.func12, Try.ntmps12
      go_wp2_with (first
        | ((with_reducible refine gate_dst (N := 3) rfl ?_); refine box_event ?hg (N := 3) ?hd (cs := #[.int .i64 d, .string n, .string t, .slice A x.length c, .int .i64 k]) (t := 31) ?hr ?_; (case hd => rfl); (case hg => rfl); (case hr => first | (go_simp; done) | (go_simp; rfl)); intro F hF wa hla hba; have o0 := (blk_cell hla 0).trans rfl; have o1 := (blk_cell hla 1).trans rfl; have o2 := (blk_cell hla 2).trans rfl; have o3 := (blk_cell hla 3).trans rfl; have o4 := (blk_cell hla 4).trans rfl; have HB := Aside0.mk hba; have HD := Aside0.mk (HH.out.below hba); have HX2 := Aside0.mk (Kd.C_below HX.out hba); have HLA := Aside0.mk hla; clear hla hba hF)
        | (go_at_call 21; (with_reducible refine (sync_calls HD.out n).mono ?_); rintro e w9 ⟨rfl, hw9⟩; have H9 := Aside0.mk hw9; clear hw9))
      go_ret
      exact ⟨rfl, Left.pre HB.out H9.out⟩
    · rw [if_neg d1, if_neg d1]
      by_cases d2 : d = 2
      · skip
        rw [if_pos d2, if_pos d2]
        go_enter Try.func12, Try.ntmps12
        go_wp2_with (first
          | ((with_reducible refine gate_dst (N := 3) rfl ?_); refine box_event ?hg (N := 3) ?hd (cs := #[.int .i64 d, .string n, .string t, .slice A x.length c, .int .i64 k]) (t := 31) ?hr ?_; (case hd => rfl); (case hg => rfl); (case hr => first | (go_simp; done) | (go_simp; rfl)); intro F hF wa hla hba; have o0 := (blk_cell hla 0).trans rfl; have o1 := (blk_cell hla 1).trans rfl; have o2 := (blk_cell hla 2).trans rfl; have o3 := (blk_cell hla 3).trans rfl; have o4 := (blk_cell hla 4).trans rfl; have HB := Aside0.mk hba; have HD := Aside0.mk (HH.out.below hba); have HX2 := Aside0.mk (Kd.C_below HX.out hba); have HLA := Aside0.mk hla; clear hla hba hF)
          | (go_at_call 27; (with_reducible refine (cut_calls HD.out n k).mono ?_); rintro e w9 ⟨rfl, hw9⟩; have H9 := Aside0.mk hw9; clear hw9))
        go_ret
        exact ⟨rfl, Left.pre HB.out H9.out⟩
      · rw [if_neg d2, if_neg d2]
        by_cases d3 : d = 3
        · skip
          rw [if_pos d3, if_pos d3]
          go_enter Try.func12, Try.ntmps12
          go_wp2_with (first
            | ((with_reducible refine gate_dst (N := 3) rfl ?_); refine box_event ?hg (N := 3) ?hd (cs := #[.int .i64 d, .string n, .string t, .slice A x.length c, .int .i64 k]) (t := 31) ?hr ?_; (case hd => rfl); (case hg => rfl); (case hr => first | (go_simp; done) | (go_simp; rfl)); intro F hF wa hla hba; have o0 := (blk_cell hla 0).trans rfl; have o1 := (blk_cell hla 1).trans rfl; have o2 := (blk_cell hla 2).trans rfl; have o3 := (blk_cell hla 3).trans rfl; have o4 := (blk_cell hla 4).trans rfl; have HB := Aside0.mk hba; have HD := Aside0.mk (HH.out.below hba); have HX2 := Aside0.mk (Kd.C_below HX.out hba); have HLA := Aside0.mk hla; clear hla hba hF)
            | (go_at_call 22; (with_reducible refine (remove_calls HD.out n).mono ?_); rintro e w9 ⟨rfl, hw9⟩; have H9 := Aside0.mk hw9; clear hw9))
          go_ret
          exact ⟨rfl, Left.pre HB.out H9.out⟩
        · rw [if_neg d3, if_neg d3]
          by_cases d4 : d = 4
          · skip
            rw [if_pos d4, if_pos d4]
            go_enter Try.func12, Try.ntmps12
            go_wp2_with (first
              | ((with_reducible refine gate_dst (N := 3) rfl ?_); refine box_event ?hg (N := 3) ?hd (cs := #[.int .i64 d, .string n, .string t, .slice A x.length c, .int .i64 k]) (t := 31) ?hr ?_; (case hd => rfl); (case hg => rfl); (case hr => first | (go_simp; done) | (go_simp; rfl)); intro F hF wa hla hba; have o0 := (blk_cell hla 0).trans rfl; have o1 := (blk_cell hla 1).trans rfl; have o2 := (blk_cell hla 2).trans rfl; have o3 := (blk_cell hla 3).trans rfl; have o4 := (blk_cell hla 4).trans rfl; have HB := Aside0.mk hba; have HD := Aside0.mk (HH.out.below hba); have HX2 := Aside0.mk (Kd.C_below HX.out hba); have HLA := Aside0.mk hla; clear hla hba hF)
              | (go_at_call 28; (with_reducible refine (swap_calls HD.out n t HS.out.2.1).mono ?_); rintro e w9 ⟨rfl, hw9⟩; have H9 := Aside0.mk hw9; clear hw9))
            go_ret
            exact ⟨rfl, Left.pre HB.out H9.out⟩
          · rw [if_neg d4, if_neg d4]
            by_cases d5 : d = 5
            · rw [if_pos d5]
              go_enter Try.func12, Try.ntmps12
              go_wp2_with (first
                | ((with_reducible refine gate_dst (N := 3) rfl ?_); refine box_event ?hg (N := 3) ?hd (cs := #[.int .i64 d, .string n, .string t, .slice A x.length c, .int .i64 k]) (t := 31) ?hr ?_; (case hd => rfl); (case hg => rfl); (case hr => first | (go_simp; done) | (go_simp; rfl)); intro F hF wa hla hba; have o0 := (blk_cell hla 0).trans rfl; have o1 := (blk_cell hla 1).trans rfl; have o2 := (blk_cell hla 2).trans rfl; have o3 := (blk_cell hla 3).trans rfl; have o4 := (blk_cell hla 4).trans rfl; have HB := Aside0.mk hba; have HD := Aside0.mk (HH.out.below hba); have HX2 := Aside0.mk (Kd.C_below HX.out hba); have HLA := Aside0.mk hla; clear hla hba hF)
                | (go_at_call 17; (with_reducible refine (crash_calls HD.out k).mono ?_); rintro e w9 ⟨rfl, hw9⟩; have H9 := Aside0.mk hw9; clear hw9))
              go_ret
              exact ⟨rfl, Left.pre HB.out H9.out⟩
            · rw [if_neg d5]
              go_enter Try.func12, Try.ntmps12
              go_wp2_with (first
                | ((with_reducible refine gate_dst (N := 3) rfl ?_); refine box_event ?hg (N := 3) ?hd (cs := #[.int .i64 d, .string n, .string t, .slice A x.length c, .int .i64 k]) (t := 31) ?hr ?_; (case hd => rfl); (case hg => rfl); (case hr => first | (go_simp; done) | (go_simp; rfl)); intro F hF wa hla hba; have o0 := (blk_cell hla 0).trans rfl; have o1 := (blk_cell hla 1).trans rfl; have o2 := (blk_cell hla 2).trans rfl; have o3 := (blk_cell hla 3).trans rfl; have o4 := (blk_cell hla 4).trans rfl; have HB := Aside0.mk hba; have HD := Aside0.mk (HH.out.below hba); have HX2 := Aside0.mk (Kd.C_below HX.out hba); have HLA := Aside0.mk hla; clear hla hba hF))
              go_ret
              exact ⟨rfl, left_same HH.out HB.out⟩
end
end Go.Proofs.Ytkdbojaoaldmbaa.G
