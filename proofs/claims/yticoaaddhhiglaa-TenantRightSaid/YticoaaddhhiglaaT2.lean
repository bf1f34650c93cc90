import Derived.Test.YticoaaddhhiglaaT1
import Derived.Test.YticoaaddhhiglaaQ1
/- The table of tenants by hand: copies of rows; what the table is in memory. -/
namespace Go.Proofs.Yticoaaddhhiglaa.T
open Go.RowKit Go.Proofs.Yticoaaddhhiglaa.Q Go.Proofs.YticoaaddhhiglaaW.PrintWords Go.Proofs.YticoaaddhhiglaaW.PrintLast Go.Proofs.YticoaaddhhiglaaW.PrintMore
set_option linter.unusedVariables false
set_option linter.unusedSimpArgs false
/-- A copy into a row of cells. -/
theorem run_copy_wide {P : Program} (w : World) (dT sT ty elem : TypeId) (g n dCap : Nat) (a : Addr) (sCap sz : Nat) (cur : Array Value) (t : TypeId) (cs : List Value)
    (hu : P.underlying dT = some (.slice elem)) (hs : (P.info? elem).map (·.size) = some sz)
    (hg : w.heap[g]? = some (.cells cur t (0, 0))) (hn : cs.length = n * sz)
    (hsrc : ∀ j v, cs[j]? = some v → w.cell? (a.add j) = some v) (hfit : cs.length ≤ cur.size) (h1 : ∀ v ∈ cs, v.oneCell' = true) :
    (Builtin.copy_ #[dT, sT] ty #[.slice (some ⟨g, 0, none⟩) n dCap, .slice (some a) n sCap]).run P w = .ok (goInt n) (w.setCells g 0 cs) := by
  have hl := run_loadCells_list (P := P) w a cs hsrc
  have hst := run_storeCells_cells (P := P) g 0 cs 0 w (fun j hj => by rw [cell_of_row w g _ cur t (0, 0) hg]; simp; omega) (fun j _ => blk_frozen hg _) h1
  simp only [Nat.add_zero] at hst
  cases hq : P.info? elem with
  | none => simp [hq] at hs
  | some i =>
    have hi : i.size = sz := by simpa [hq] using hs
    have hmin : Nat.min n n = n := Nat.min_self n
    simp [Builtin.copy_, run_underlying hu, Builtin.lenOf, Builtin.firstCells, sizeOf, typeInfo, hq, hi, hmin, Nat.mul_comm sz n, ← hn, hl, hst]
/-- copy(v, ys), v a row of one's own that is as long: it is ys then. -/
theorem copy_event0 {P : Program} (w : World) (dT sT ty elem : TypeId) (d s : Option Addr) (dCap sCap sz : Nat) (hu : P.underlying dT = some (.slice elem)) (hs : (P.info? elem).map (·.size) = some sz) :
    (Builtin.copy_ #[dT, sT] ty #[.slice d 0 dCap, .slice s 0 sCap]).run P w = .ok (goInt 0) w := by
  cases hq : P.info? elem with
  | none => simp [hq] at hs
  | some i =>
    cases d <;> cases s <;> simp [Builtin.copy_, run_underlying hu, Builtin.lenOf, Builtin.firstCells, sizeOf, typeInfo, hq, storeCells, loadCells, loadCellsFrom]
theorem reps_one {α : Type} {R : α → List Value → Prop} {size : Nat} {ps : List α} {cs : List Value} (h : Reps R size ps cs) (hs : 0 < size) (h1 : ∀ p c, R p c → ∀ u ∈ c, u.oneCell' = true) : ∀ u ∈ cs, u.oneCell' = true := fun u hu => by
  obtain ⟨i, hi⟩ := List.getElem?_of_mem hu
  have hil := (List.getElem?_eq_some_iff.1 hi).1
  have hj : i / size < ps.length := (Nat.div_lt_iff_lt_mul hs).2 (by rw [← h.1]; exact hil)
  have h2 := h1 _ _ (h.2 (i / size) _ (List.getElem?_eq_getElem hj))
  refine h2 u ?_
  have e : (i / size) * size + i % size = i := by rw [Nat.mul_comm]; exact Nat.div_add_mod i size
  refine List.mem_of_getElem? (i := i % size) ?_
  rw [List.getElem?_take_of_lt (Nat.mod_lt _ hs), List.getElem?_drop, e, hi]
theorem copy_event {P : Program} {ops : Array Oper} {rest : List Oper} {o : Oper} {a : Act} {Q : Exit → Act → World → Prop} {W : World} {α : Type} (d : Kd α) {w0 : World} (base : Nat) (hgd : o.guard = none) (s x : Operand) (t t' e : TypeId)
    (ho : o.op = .call { callee := .builtin .copy, args := #[s, x], argTypes := #[t, t'] }) (ht : P.underlying t = some (.slice e)) (hinfo : (P.info? e).map (·.size) = some d.sz) (hsz : 0 < d.sz)
    (hflat : ∀ (W1 : World) ok x cs, d.K W x cs → d.M W1 base ok x cs)
    (v : Value) (zs ys : List α) (A : Option Addr) (c : Nat) (ok : Nat → Prop) {n : Nat} (hn : n = ys.length) (hs : a.eval s = v) (hx : a.eval x = .slice A n c)
    (HO : d.R e W base ok v zs) (hz : zs.length = ys.length) (HR : d.C W A ys.length ys) (HB : Below base w0 W) (hbase : base ≤ W.heap.size)
    (h : ∀ w1, d.R e w1 base ok v ys → Below base w0 w1 → W.grownBy w1 v.ownBlock → wpList P ops Q rest (a.put o.dst (.int .i64 (n : Int))) w1) :
    wpList P ops Q (o :: rest) a W := by
  subst hn
  obtain ⟨hok, inner, hown, hreps⟩ := HO
  have fin : ∀ w1, (Builtin.copy_ #[t, t'] o.type #[v, .slice A ys.length c]).run P W = .ok (goInt ((ys.length : Nat) : Int)) w1 → d.R e w1 base ok v ys → W.grownBy w1 v.ownBlock → wpList P ops Q (o :: rest) a W := by
    intro w1 hr hrow hg
    refine wpList_plain hgd fun K hK => ?_
    unfold Oper.wp execOp
    simp only [ho, resolve, invoke, builtin, Sem.run_bind, Sem.run_pure, Result.andThen_ok, List.map_toArray, List.map_cons, List.map_nil, hs, hx, hr]
    exact hK _ _ (h w1 hrow (HB.grown hg hbase (own_base hown)) hg)
  rcases Nat.eq_zero_or_pos ys.length with h0 | hp
  · have hy : ys = [] := List.eq_nil_of_length_eq_zero h0
    have hzn : zs = [] := List.eq_nil_of_length_eq_zero (by omega)
    subst hy; subst hzn
    obtain ⟨A', c', hv⟩ := own_slice hown
    refine fin W ?_ ⟨hok, inner, hown, hreps⟩ (World.grownBy.refl W _)
    rw [hv]
    exact copy_event0 W t t' o.type e A' A c' c d.sz ht hinfo
  · obtain ⟨ad, hA, hc⟩ := HR.2.2 hp
    subst hA
    obtain ⟨cs, hrp, hcell⟩ := ReadsRow.inner_ HR
    rcases hown.2 with ⟨_, hx0⟩ | ⟨g, cap, cur, hv, hb, hh, hnc, hcm, hcs, htake⟩
    · omega
    have hcl : cs.length = ys.length * d.sz := hrp.1
    have hfit : cs.length ≤ cur.size := by rw [hcl, hcs]; exact Nat.mul_le_mul_right _ (by omega)
    have hone : ∀ u ∈ cs, u.oneCell' = true := reps_one hrp hsz (fun p c hp => d.K_one hp)
    have hr := run_copy_wide (P := P) W t t' o.type e g ys.length cap ad c d.sz cur e cs ht hinfo hh hcl hcell hfit hone
    obtain ⟨cur', h3, h4, h5⟩ := setCells_row cs 0 W cur hh (by omega)
    obtain ⟨s1, s2, s3, s4⟩ := setCells_same g cs 0 W
    refine fin _ (by rw [hv, hz]; exact hr) ⟨hok, cs, ⟨hcl, .inr ⟨g, cap, cur', by rw [hv, hz], hb, h3, by omega, hcm, by rw [h4, hcs], ?_⟩⟩, hrp.imp_ (fun p c hp => hflat _ _ _ _ hp)⟩ ⟨s1, s2, s3, by rw [s4]; exact Nat.le_refl _, fun k _ hk => setCells_far _ _ k (fun he => hk (by rw [hv, he]; simp [Value.ownBlock]))⟩
    rw [h5, List.take_zero, List.nil_append, ← hcl]
    exact List.take_left
end Go.Proofs.Yticoaaddhhiglaa.T
