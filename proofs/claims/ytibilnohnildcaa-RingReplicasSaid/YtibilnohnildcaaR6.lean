/- The ring by hand: places, spots, what a ring is in memory; is, Nodes, all. -/
import Derived.Test.YtibilnohnildcaaR5
import Derived.Test.YtibilnohnildcaaQ8
import Derived.Lib.SmallJoins
namespace Go.Proofs.Ytibilnohnildcaa.R
open Go.RowKit Go.Proofs.Ytibilnohnildcaa.Q Go.Proofs.YtibilnohnildcaaW.PrintWords Go.Proofs.YtibilnohnildcaaW.PrintLast Go.Proofs.YtibilnohnildcaaW.PrintMore
set_option linter.unusedVariables false
set_option linter.unusedSimpArgs false
theorem info52 : (Try.prog.info? 52).map (fun i => (i.zero, i.size, i.bytes)) = some (some (.agg #[(.int .u64 0), (.int .i64 0)]), 2, 16) := by kernel_rfl
/-- A place of a node. -/
structure S52 where
  f0 : Int
  f1 : Int
deriving DecidableEq
def z52 : S52 := ⟨(0 : Int), (0 : Int)⟩
def k52 : Kd S52 := Kd.iso (Kd.pair (Kd.int .u64) (Kd.int .i64)) (fun x : S52 => (x.f0, x.f1))
theorem k52_open {w : World} {x : S52} {cs : List Value} (h : k52.K w x cs) : cs = [.int .u64 x.f0, .int .i64 x.f1] := by
  obtain ⟨_, _, rfl, rfl, rfl⟩ := h
  exact rfl
theorem k52_mk (w : World) (x : S52) : k52.K w x [.int .u64 x.f0, .int .i64 x.f1] := ⟨[.int .u64 x.f0], [.int .i64 x.f1], rfl, rfl, rfl⟩
theorem k52_mkM (w : World) (base : Nat) (ok : Nat → Prop) (x : S52) : k52.M w base ok x [.int .u64 x.f0, .int .i64 x.f1] := ⟨[.int .u64 x.f0], [.int .i64 x.f1], rfl, rfl, rfl⟩
def rd_T52 (xs : List S52) (i : Int) : S52 := xs.getD i.toNat z52
theorem at_T52 {w : World} {A : Option Addr} {n : Nat} {xs : List S52} (h : Kd.C k52 w A n xs) (i : Int) (h0 : 0 ≤ i) (h1 : i < n) : ∃ ad, A = some ad ∧ w.cell? (ad.add (i.toNat * 2)) = some (.int .u64 (rd_T52 xs i).f0) ∧ w.cell? ⟨(ad.add (i.toNat * 2)).block, (ad.add (i.toNat * 2)).off + 1, none⟩ = some (.int .i64 (rd_T52 xs i).f1) := by
  obtain ⟨ad, c, e, _, hK, hc0⟩ := Kd.C_get h z52 i h0 h1
  have hc : ∀ j u, c[j]? = some u → w.cell? (ad.add (i.toNat * 2 + j)) = some u := hc0
  obtain rfl := k52_open hK
  exact ⟨ad, e, hc 0 _ rfl, by rw [← add_field _ _ 1 (by omega)]; exact hc 1 _ rfl⟩
/-- A place of a node. -/
def placeT (n k : Int) : Int := if n < 0 ∨ n ≥ 16 ∨ k < 0 ∨ k ≥ 8 then 0 else xx [110, 111, 100, 101, n, k]
/-- A row of bytes that was just laid. -/
theorem lit_row (w : World) (l : List Int) (cs : Array Value) (e : cs = (l.map (Value.int .u8)).toArray) (hm : l.length ≤ maxLen) (fz : Nat × Nat := (0, 0)) : (Kd.int .u8).C (w.alloc (.cells cs 5 fz)) (some ⟨w.heap.size, 0, none⟩) l.length l := by
  subst e
  refine ⟨rfl, hm, fun _ => ⟨_, rfl, fun j p hj => ⟨[.int .u8 p], rfl, rfl, fun i u hu => ?_⟩⟩⟩
  cases i with
  | succ i => simp at hu
  | zero =>
    have : Value.int .u8 p = u := by simpa using hu
    subst this
    have h0 := heap_alloc_new w (.cells (l.map (Value.int .u8)).toArray 5 fz)
    have h := cell_of_row _ _ j _ _ _ h0
    have e1 : (⟨w.heap.size, 0, none⟩ : Addr).add (j * (Kd.int .u8).sz + 0) = ⟨w.heap.size, j, none⟩ := by
      have : (Kd.int .u8).sz = 1 := rfl
      rw [this]
      unfold Addr.add
      by_cases hj0 : j = 0
      · simp [hj0]
      · simp [hj0]
    rw [e1]
    refine h.trans ?_
    rw [List.getElem?_toArray, List.getElem?_map, hj]
    rfl
theorem place6 (w : World) (a b : Int) : Calls Try.prog 30 #[.slice (some ⟨w.heap.size, 0, none⟩) 6 6] (w.alloc (.cells #[.int .u8 110, .int .u8 111, .int .u8 100, .int .u8 101, .int .u8 a, .int .u8 b] 5)) fun e w' => e = .returned (.int .u64 (xx [110, 111, 100, 101, a, b])) ∧ Below (w.alloc (.cells #[.int .u8 110, .int .u8 111, .int .u8 100, .int .u8 101, .int .u8 a, .int .u8 b] 5)).heap.size (w.alloc (.cells #[.int .u8 110, .int .u8 111, .int .u8 100, .int .u8 101, .int .u8 a, .int .u8 b] 5)) w' :=
  xx_calls (some ⟨w.heap.size, 0, none⟩) 6 [110, 111, 100, 101, a, b] _ (lit_row w [110, 111, 100, 101, a, b] _ rfl (by simp [maxLen])) (by simp) (by simp)
theorem wrap8 {x : Int} (h0 : 0 ≤ x) (h1 : x < 256) : IntKind.u8.wrap x = x := by simp [IntKind.wrap, IntKind.bits, IntKind.signed]; omega
set_option maxHeartbeats 1000000 in
set_option maxRecDepth 100000 in
theorem place_calls (n k : Int) (w : World) : Calls Try.prog 20 #[.int .i64 n, .int .i64 k] w fun e w' => e = .returned (.int .u64 (placeT n k)) ∧ Below w.heap.size w w' := by
  by_cases hb : n < 0 ∨ n ≥ 16 ∨ k < 0 ∨ k ≥ 8
  · have hp : placeT n k = 0 := if_pos hb
    rw [hp]
    have hb2 : n < 0 ∨ (¬ n < 0 ∧ n ≥ 16) ∨ (¬ n < 0 ∧ ¬ n ≥ 16 ∧ k < 0) ∨ (¬ n < 0 ∧ ¬ n ≥ 16 ∧ ¬ k < 0 ∧ k ≥ 8) := by omega
    clear hb hp
    rcases hb2 with b1 | ⟨b1, b2⟩ | ⟨b1, b2, b3⟩ | ⟨b1, b2, b3, b4⟩
    all_goals
      go_enter Try.func20, Try.ntmps20
      go_wp2
      go_ret
      exact ⟨rfl, Below.refl _ _⟩
  · have hp : placeT n k = xx [110, 111, 100, 101, n, k] := if_neg hb
    have b1 : ¬ n < 0 := by omega
    have b2 : ¬ n ≥ 16 := by omega
    have b3 : ¬ k < 0 := by omega
    have b4 : ¬ k ≥ 8 := by omega
    have hw1 := wrap8 (x := n) (by omega) (by omega)
    have hw2 := wrap8 (x := k) (by omega) (by omega)
    rw [hp]
    clear hb hp
    go_enter Try.func20, Try.ntmps20
    go_wp2_with (go_at_call 30; (with_reducible refine (place6 _ _ _).mono ?_); rintro e w2 ⟨rfl, hb⟩)
    go_ret
    exact ⟨rfl, below_step (below_alloc (Below.refl _ _) _) hb⟩
theorem join_two (x y : List Int) (hx : x.length + y.length < 140737488355328) : manometerref01_Join.f 3 [x, y] = some (x ++ y) := by
  unfold manometerref01_Join.f manometerref01_Join.l0
  have h0 : rd_L2 [x, y] 0 = x := rfl
  have w1 : wrap64 (0 + 1) = 1 := by unfold wrap64; omega
  have h1 : rd_L2 [x, y] 1 = y := rfl
  have w2 : wrap64 (1 + 1) = 2 := by unfold wrap64; omega
  rw [if_pos (by simp), if_pos (by decide), if_pos (by simp), h0, if_pos (by simp; omega), w1]
  unfold manometerref01_Join.l0
  rw [if_pos (by simp), if_pos (by decide), if_pos (by simp), h1, if_pos (by simp; omega), w2]
  unfold manometerref01_Join.l0
  rw [if_neg (by simp)]
  simp
/-- A row of two rows. -/
theorem C_two {w : World} {g : Nat} {A A' : Option Addr} {x y : List Int} {c c' : Nat} (hc : w.cell? ⟨g, 0, none⟩ = some (.slice A x.length c)) (hl : x.length ≤ c) (hx : (Kd.int .u8).C w A x.length x)
    (hc' : w.cell? ⟨g, 1, none⟩ = some (.slice A' y.length c')) (hl' : y.length ≤ c') (hy : (Kd.int .u8).C w A' y.length y) : (Kd.slice 5 (Kd.int .u8)).C w (some ⟨g, 0, none⟩) [x, y].length [x, y] := by
  refine ⟨rfl, by simp, fun _ => ⟨_, rfl, fun j p hj => ?_⟩⟩
  match j with
  | 0 =>
    have : x = p := by simpa using hj
    subst this
    refine ⟨[.slice A x.length c], rfl, ⟨A, c, rfl, hl, hx⟩, fun i u hu => ?_⟩
    cases i with
    | zero =>
      have : Value.slice A x.length c = u := by simpa using hu
      subst this
      exact hc
    | succ i => simp at hu
  | 1 =>
    have : y = p := by simpa using hj
    subst this
    refine ⟨[.slice A' y.length c'], rfl, ⟨A', c', rfl, hl', hy⟩, fun i u hu => ?_⟩
    cases i with
    | zero =>
      have : Value.slice A' y.length c' = u := by simpa using hu
      subst this
      exact hc'
    | succ i => simp at hu
  | j + 2 => simp at hj
theorem join2_calls (W : World) (A : Option Addr) (x : List Int) (c : Nat) (hl : x.length ≤ c) (hx : (Kd.int .u8).C W A x.length x) (A' : Option Addr) (y : List Int) (c' : Nat) (hl' : y.length ≤ c') (hy : (Kd.int .u8).C W A' y.length y) (hb : x.length + y.length < 140737488355328) :
    Calls Try.prog 35 #[.slice (some ⟨W.heap.size, 0, none⟩) 2 2] (W.alloc (.cells #[.slice A x.length c, .slice A' y.length c'] 59)) fun e w' => ∃ v : Value, e = .returned v ∧ (Kd.int .u8).R 5 w' W.heap.size (fun k => W.heap.size ≤ k) v (x ++ y) ∧ Below W.heap.size W w' := by
  have hn := heap_alloc_new W (.cells #[.slice A x.length c, .slice A' y.length c'] 59)
  have hz : W.heap.size ≤ (W.alloc (.cells #[.slice A x.length c, .slice A' y.length c'] 59)).heap.size := (below_alloc (Below.refl _ _) _).size
  refine (manometerref01_Join.calls 3 (some ⟨W.heap.size, 0, none⟩) 2 [x, y] (x ++ y) _ (C_two ((blk_cell hn 0).trans rfl) hl (Kd.C_alloc hx _) ((blk_cell hn 1).trans rfl) hl' (Kd.C_alloc hy _)) (Nat.le_refl _) (join_two x y hb)).mono fun e w' ⟨v, he, hR, hb⟩ => ?_
  exact ⟨v, he, Kd.R_lower (Kd.R_mono (Kd.R_bound hR) (fun k hk => Nat.le_trans hz hk.2.1)) hz, below_step (below_alloc (Below.refl _ _) _) hb⟩
theorem rplace6 (w : World) (a b : Int) (c : Nat) (hc : 4 ≤ c) (fz : Nat × Nat) : Calls Try.prog 35 #[.slice (some ⟨w.heap.size + 1 + 1, 0, none⟩) 2 2] (((w.alloc (.cells #[.int .u8 110, .int .u8 111, .int .u8 100, .int .u8 101] 5 fz)).alloc (.cells #[.int .u8 a, .int .u8 b] 5)).alloc (.cells #[.slice (some ⟨w.heap.size, 0, none⟩) 4 c, .slice (some ⟨w.heap.size + 1, 0, none⟩) 2 2] 59)) fun e w' => ∃ v : Value, e = .returned v ∧ (Kd.int .u8).R 5 w' w.heap.size (fun k => w.heap.size ≤ k) v [110, 111, 100, 101, a, b] ∧ Below w.heap.size w w' := by
  have hz1 : (w.alloc (.cells #[.int .u8 110, .int .u8 111, .int .u8 100, .int .u8 101] 5 fz)).heap.size = w.heap.size + 1 := by simp
  have hz2 : ((w.alloc (.cells #[.int .u8 110, .int .u8 111, .int .u8 100, .int .u8 101] 5 fz)).alloc (.cells #[.int .u8 a, .int .u8 b] 5)).heap.size = w.heap.size + 1 + 1 := by simp
  have h1 := lit_row w [110, 111, 100, 101] #[.int .u8 110, .int .u8 111, .int .u8 100, .int .u8 101] rfl (by simp [maxLen]) fz
  have h2 := lit_row (w.alloc (.cells #[.int .u8 110, .int .u8 111, .int .u8 100, .int .u8 101] 5 fz)) [a, b] #[.int .u8 a, .int .u8 b] rfl (by simp [maxLen])
  rw [hz1] at h2
  have hb := below_alloc (below_alloc (Below.refl w.heap.size w) (.cells #[.int .u8 110, .int .u8 111, .int .u8 100, .int .u8 101] 5 fz)) (.cells #[.int .u8 a, .int .u8 b] 5)
  have := join2_calls _ (some ⟨w.heap.size, 0, none⟩) [110, 111, 100, 101] c hc (Kd.C_alloc h1 (.cells #[.int .u8 a, .int .u8 b] 5)) (some ⟨w.heap.size + 1, 0, none⟩) [a, b] 2 (by simp) h2 (by simp)
  rw [hz2] at this
  refine this.mono fun e w' ⟨v, he, hR, hb2⟩ => ⟨v, he, Kd.R_lower (Kd.R_mono hR (fun k hk => by omega)) (by omega), below_step hb (by rw [hz2]; exact hb2)⟩
theorem yy6 (A : Option Addr) (c : Nat) (a b : Int) (w : World) (hr : (Kd.int .u8).C w A [110, 111, 100, 101, a, b].length [110, 111, 100, 101, a, b]) (hc : [110, 111, 100, 101, a, b].length ≤ c) (hby : Bytes [110, 111, 100, 101, a, b]) :
    Calls Try.prog 34 #[.slice A 6 c] w fun e w' => e = .returned (.int .u64 (xx [110, 111, 100, 101, a, b])) ∧ Below w.heap.size w w' := yy_calls A c [110, 111, 100, 101, a, b] w hr hc (by simp) hby
theorem bytes6 {a b : Int} (ha : 0 ≤ a ∧ a < 256) (hb : 0 ≤ b ∧ b < 256) : Bytes [110, 111, 100, 101, a, b] := fun x hx => by
  simp at hx
  rcases hx with rfl | rfl | rfl | rfl | rfl | rfl <;> omega
set_option maxHeartbeats 1000000 in
set_option maxRecDepth 100000 in
theorem rplace_calls (n k : Int) (w : World) : Calls Try.prog 21 #[.int .i64 n, .int .i64 k] w fun e w' => e = .returned (.int .u64 (placeT n k)) ∧ Below w.heap.size w w' := by
  by_cases hb : n < 0 ∨ n ≥ 16 ∨ k < 0 ∨ k ≥ 8
  · have hp : placeT n k = 0 := if_pos hb
    rw [hp]
    have hb2 : n < 0 ∨ (¬ n < 0 ∧ n ≥ 16) ∨ (¬ n < 0 ∧ ¬ n ≥ 16 ∧ k < 0) ∨ (¬ n < 0 ∧ ¬ n ≥ 16 ∧ ¬ k < 0 ∧ k ≥ 8) := by omega
    clear hb hp
    rcases hb2 with b1 | ⟨b1, b2⟩ | ⟨b1, b2, b3⟩ | ⟨b1, b2, b3, b4⟩
    all_goals
      go_enter Try.func21, Try.ntmps21
      go_wp2
      go_ret
      exact ⟨rfl, Below.refl _ _⟩
  · have hp : placeT n k = xx [110, 111, 100, 101, n, k] := if_neg hb
    have b1 : ¬ n < 0 := by omega
    have b2 : ¬ n ≥ 16 := by omega
    have b3 : ¬ k < 0 := by omega
    have b4 : ¬ k ≥ 8 := by omega
    have hw1 := wrap8 (x := n) (by omega) (by omega)
    have hw2 := wrap8 (x := k) (by omega) (by omega)
    have HBY := Aside0.mk (bytes6 (a := n) (b := k) (by omega) (by omega))
    rw [hp]
    clear hb hp
    have kc := fun (w : World) (C : Array Value) (n c g : Nat) (hg : g = w.heap.size) => Go.Joins.run_convert_bytes_const_at (P := Try.prog) w 59 5 C n c g hg Try.underlying59 Try.underlying5
    go_enter Try.func21, Try.ntmps21
    go_wp2_with (first
      | (go_at_call 35; (with_reducible refine (rplace6 _ _ _ _ (by decide) _).mono ?_); rintro e w2 ⟨v2, rfl, hR, hb⟩; obtain ⟨A2, c2, hv⟩ := Kd.R_slice hR; subst hv; (try dsimp only [List.length]); have HR2 := Aside0.mk (Kd.R_reads' hR); have HB2 := Aside0.mk hb; clear hR hb)
      | (go_at_call 34; (with_reducible refine (yy6 A2 c2 n k w2 HR2.out.2.2 HR2.out.2.1 HBY.out).mono ?_); rintro e w3 ⟨rfl, hb⟩; have HB3 := Aside0.mk hb; clear hb))
    go_ret
    exact ⟨rfl, below_step HB2.out HB3.out⟩
end Go.Proofs.Ytibilnohnildcaa.R
