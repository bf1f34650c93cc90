import Derived.Test.YticoaaddhhiglaaT10
import Derived.ArgAppend
/- The table of tenants by hand: Delete at keys and at readers (mkT11.py). -/
namespace Go.Proofs.Yticoaaddhhiglaa.T
open Go.RowKit Go.Proofs.Yticoaaddhhiglaa.Q Go.Proofs.YticoaaddhhiglaaW.PrintWords Go.Proofs.YticoaaddhhiglaaW.PrintLast Go.Proofs.YticoaaddhhiglaaW.PrintMore
set_option linter.unusedVariables false
set_option linter.unusedSimpArgs false
theorem append_nothing {P : Program} (w : World) (t ty e : TypeId) (i : TypeInfo) (ht : P.underlying t = some (.slice e)) (hi : P.info? e = some i) (g : Nat) (n cap : Nat) (A : Option Addr) (c : Nat) (h : n ≤ cap) :
    (Builtin.append_ #[t, t] ty #[.slice (some ⟨g, 0, none⟩) n cap, .slice A 0 c]).run P w = .ok (.slice (some ⟨g, 0, none⟩) n cap) w := by
  cases A <;> simp [Builtin.append_, run_underlying ht, sizeOf, typeInfo, hi, Builtin.lenOf, h, Builtin.firstCells, storeCells, loadCells, loadCellsFrom]
/-- A row of one's own, as its cells. -/
structure OwnB {α : Type} (d : Kd α) (e : Nat) (w : World) (base : Nat) (g n cap : Nat) (xs : List α) (cs : List Value) : Prop where
  blk : ∃ cur : Array Value, w.heap[g]? = some (.cells cur e (0, 0)) ∧ cur.size = cap * d.sz ∧ cur.toList.take (n * d.sz) = cs
  le : n ≤ cap
  max : cap ≤ maxLen
  low : base ≤ g
  len : xs.length = n
  reps : Reps (fun x c => d.M w base (fun _ => True) x c) d.sz xs cs
theorem ownB_of {α : Type} {d : Kd α} {e : Nat} {w : World} {base : Nat} {ok : Nat → Prop} {g n cap : Nat} {xs : List α} (h : d.R e w base ok (.slice (some ⟨g, 0, none⟩) n cap) xs) (hn : 0 < n) : ∃ cs, OwnB d e w base g n cap xs cs := by
  obtain ⟨hok, inner, hown, hreps⟩ := h
  rcases hown.2 with ⟨hv, _⟩ | ⟨g', cap', cur, hv, hb, hh, hnc, hcm, hcs, htake⟩
  · cases hv
  · injection hv with h1 h2 h3
    injection h1 with h1
    injection h1 with h1
    subst h1; subst h3
    rw [h2]
    exact ⟨inner, ⟨cur, hh, hcs, htake⟩, hnc, hcm, hb, rfl, hreps.imp_ (fun _ _ hp => d.M_mono (fun _ _ => trivial) hp)⟩
theorem reps_erase {α : Type} {R : α → List Value → Prop} {size : Nat} {xs : List α} {cs : List Value} (h : Reps R size xs cs) {i : Nat} (hi : i < xs.length) : Reps R size (xs.eraseIdx i) (cs.take (i * size) ++ cs.drop ((i + 1) * size)) := by
  rw [List.eraseIdx_eq_take_drop_succ]
  exact Kd.reps_append (Kd.reps_take h (by omega)) (Kd.reps_drop h)
/-- What is behind is put to its place. -/
theorem del_append {P : Program} {α : Type} {d : Kd α} {e t ty : TypeId} {info : TypeInfo} (ht : P.underlying t = some (.slice e)) (hi : P.info? e = some info) (hs : info.size = d.sz) (hsz : 0 < d.sz)
    (hone : ∀ (W1 : World) base (x : α) c, d.M W1 base (fun _ => True) x c → ∀ u ∈ c, u.oneCell' = true) {w : World} {base g n cap : Nat} {xs : List α} {cs : List Value} (h : OwnB d e w base g n cap xs cs) {i : Nat} (hin : i < n) :
    ∃ w1, (Builtin.append_ #[t, t] ty #[.slice (some ⟨g, 0, none⟩) i cap, .slice (if cap = i + 1 then some ⟨g, 0, none⟩ else (some (⟨g, 0, none⟩ : Addr)).map (·.add ((i + 1) * d.sz))) (n - (i + 1)) (cap - (i + 1))]).run P w = .ok (.slice (some ⟨g, 0, none⟩) (n - 1) cap) w1 ∧
      (∃ cur1 : Array Value, w1.heap[g]? = some (.cells cur1 e (0, 0)) ∧ cur1.size = cap * d.sz ∧ cur1.toList.take ((n - 1) * d.sz) = cs.take (i * d.sz) ++ cs.drop ((i + 1) * d.sz)) ∧ w.grownBy w1 (some g) := by
  obtain ⟨cur, hh, hcs, htake⟩ := h.blk
  have hle := h.le
  have hlen : cs.length = n * d.sz := by rw [h.reps.1, h.len]
  rcases Nat.eq_zero_or_pos (n - (i + 1)) with h0 | hp
  · have hn1 : n - 1 = i := by omega
    refine ⟨w, by rw [h0, hn1]; exact append_nothing w t ty e info ht hi g i cap _ _ (by omega), ⟨cur, hh, hcs, ?_⟩, World.grownBy.refl w _⟩
    have hd : cs.drop ((i + 1) * d.sz) = [] := List.drop_of_length_le (by rw [hlen, show i + 1 = n by omega]; exact Nat.le_refl _)
    rw [hd, List.append_nil, ← htake, List.take_take, hn1, Nat.min_eq_left (Nat.mul_le_mul_right _ (by omega))]
  · have hne : ¬ cap = i + 1 := by omega
    rw [if_neg hne, Option.map_some]
    have hcell : ∀ j u, (cs.drop ((i + 1) * d.sz))[j]? = some u → w.cell? ((⟨g, 0, none⟩ : Addr).add ((i + 1) * d.sz) |>.add j) = some u := fun j u hu => by
      rw [Addr.add_mid, Addr.add_lit]
      rw [cell_of_row w g _ cur e (0, 0) hh]
      rw [List.getElem?_drop, ← htake, List.getElem?_take] at hu
      split at hu
      · rw [← hu, Array.getElem?_toList]
        congr 1
        omega
      · cases hu
    have hnl : (cs.drop ((i + 1) * d.sz)).length = (n - (i + 1)) * info.size := by rw [List.length_drop, hlen, hs, ← Nat.sub_mul]
    have hr := run_append_room (P := P) w t ty e info ht hi g i cap cur hh ((⟨g, 0, none⟩ : Addr).add ((i + 1) * d.sz)) (n - (i + 1)) (cap - (i + 1)) (cs.drop ((i + 1) * d.sz)) hnl hcell (fun u hu => reps_one h.reps hsz (fun p c hp => hone _ _ p c hp) u (List.mem_of_mem_drop hu)) (by omega) (by rw [hs, hcs, List.length_drop, hlen, ← Nat.sub_mul, ← Nat.add_mul]; exact Nat.mul_le_mul_right _ (by omega))
    have he : i + (n - (i + 1)) = n - 1 := by omega
    refine ⟨_, by rw [hr, he], ⟨_, setRow_heap w g cur _ e _ hh, ?_, ?_⟩, ?_⟩
    · rw [List.size_toArray, hs, List.length_append, List.length_append, List.length_take, List.length_drop, List.length_drop, hlen, Array.length_toList, hcs]
      have h1 : i * d.sz ≤ cap * d.sz := Nat.mul_le_mul_right _ (by omega)
      have h2 : i * d.sz + (n * d.sz - (i + 1) * d.sz) ≤ cap * d.sz := by rw [← Nat.sub_mul, ← Nat.add_mul]; exact Nat.mul_le_mul_right _ (by omega)
      omega
    · rw [List.toList_toArray, hs]
      have hti : cur.toList.take (i * d.sz) = cs.take (i * d.sz) := by rw [← htake, List.take_take, Nat.min_eq_left (Nat.mul_le_mul_right _ (by omega))]
      rw [hti]
      have hl2 : (cs.take (i * d.sz) ++ cs.drop ((i + 1) * d.sz)).length = (n - 1) * d.sz := by
        rw [List.length_append, List.length_take, List.length_drop, hlen, ← Nat.sub_mul, Nat.min_eq_left (Nat.mul_le_mul_right _ (by omega)), ← Nat.add_mul, he]
      rw [← hl2]
      exact List.take_left
    · exact ⟨rfl, rfl, rfl, by simp [World.setRow], fun k _ hk => setRow_other w g k _ (fun e => hk (by rw [e]))⟩
theorem clear_wide {P : Program} (w : World) (t e ty : TypeId) (z : Value) (sz : Nat) (ht : P.underlying t = some (.slice e)) (hv : ∀ w, (zeroValue e).run P w = .ok z w) (hz : z.cells.size = sz) (hsz : 0 < sz) (h1 : ∀ u ∈ z.cells.toList, u.oneCell' = true) (g o c : Nat) (cur : Array Value) (hh : w.heap[g]? = some (.cells cur e (0, 0))) (hfit : o + sz ≤ cur.size) :
    (Builtin.clear_ #[t] ty #[.slice (some ⟨g, o, none⟩) 1 c]).run P w = .ok (.tuple #[]) (w.setCells g o z.cells.toList) := by
  have hzc : (Builtin.zeroCells z.cells 1).toList = z.cells.toList := by
    simp [Builtin.zeroCells]
    apply List.ext_getElem
    · simp
    · intro i h1 h2
      have : i < z.cells.size := by simpa using h2
      simp [Nat.mod_eq_of_lt this, getElem!_pos z.cells i this]
  have hst := run_storeCells_cells (P := P) g o z.cells.toList 0 w (fun j hj => by rw [cell_of_row w g _ cur e (0, 0) hh]; simp; simp at hj; omega) (fun j _ => blk_frozen hh _) h1
  simp only [Nat.add_zero] at hst
  simp [Builtin.clear_, run_underlying ht, hv, hzc, hst]
/-- Behind a delete the row is one's own. -/
theorem del_own {α : Type} {d : Kd α} {e : Nat} (hsz : 0 < d.sz) (hflat : ∀ (W W1 : World) base (x : α) c ok, d.M W base (fun _ => True) x c → d.M W1 base ok x c) {w w1 : World} {base g n cap : Nat} {xs : List α} {cs zs : List Value} (h : OwnB d e w base g n cap xs cs) {i : Nat} (hin : i < n)
    (h1 : ∃ cur1 : Array Value, w1.heap[g]? = some (.cells cur1 e (0, 0)) ∧ cur1.size = cap * d.sz ∧ cur1.toList.take ((n - 1) * d.sz) = cs.take (i * d.sz) ++ cs.drop ((i + 1) * d.sz)) (hz : zs.length = d.sz) :
    d.R e (w1.setCells g ((n - 1) * d.sz) zs) base (fun _ => True) (.slice (some ⟨g, 0, none⟩) (n - 1) cap) (xs.eraseIdx i) := by
  obtain ⟨cur1, hh, hcs, htk⟩ := h1
  have hle := h.le
  obtain ⟨cur', h3, h4, h5⟩ := setCells_row zs ((n - 1) * d.sz) w1 cur1 hh (by rw [hz, hcs, ← Nat.succ_mul]; exact Nat.mul_le_mul_right _ (by omega))
  have hl : (xs.eraseIdx i).length = n - 1 := by rw [List.length_eraseIdx, h.len, if_pos hin]
  have hr := reps_erase h.reps (i := i) (by rw [h.len]; exact hin)
  refine ⟨fun _ _ => trivial, cs.take (i * d.sz) ++ cs.drop ((i + 1) * d.sz), ⟨hr.1, .inr ⟨g, cap, cur', by rw [hl], h.low, h3, by rw [hl]; omega, h.max, by rw [h4, hcs], ?_⟩⟩, hr.imp_ (fun _ _ hp => hflat _ _ _ _ _ _ hp)⟩
  rw [hl, ← htk, h5]
  have hlt : (cur1.toList.take ((n - 1) * d.sz)).length = (n - 1) * d.sz := by
    rw [List.length_take, Array.length_toList, hcs]
    exact Nat.min_eq_left (Nat.mul_le_mul_right _ (by omega))
  rw [List.append_assoc, ← hlt]
  simp
theorem flatM23 {W : World} {base : Nat} {ok0 : Nat → Prop} {x : S23} {c : List Value} (h : k23.M W base ok0 x c) (W1 : World) (ok : Nat → Prop) : k23.M W1 base ok x c := by
  obtain rfl := k23_openM h
  exact k23_mkM W1 base ok x
theorem one23 {W : World} {base : Nat} {ok0 : Nat → Prop} {x : S23} {c : List Value} (h : k23.M W base ok0 x c) : ∀ u ∈ c, u.oneCell' = true := by
  obtain rfl := k23_openM h
  intro u hu
  simp only [List.mem_cons, List.not_mem_nil, or_false] at hu
  rcases hu with rfl | rfl <;> rfl
theorem clear_event {P : Program} {ops : Array Oper} {o : Oper} {rest : List Oper} {a : Act} {Q : Exit → Act → World → Prop} {W : World} (hgd : o.guard = none) (s : Operand) (t : TypeId)
    (ho : o.op = .call { callee := .builtin .clear, args := #[s], argTypes := #[t] }) (v : Value) (hs : a.eval s = v) (v1 : Value) (w1 : World)
    (hr1 : (Builtin.clear_ #[t] o.type #[v]).run P W = .ok v1 w1) (h : wpList P ops Q rest (a.put o.dst v1) w1) : wpList P ops Q (o :: rest) a W := by
  refine wpList_plain hgd fun K hK => ?_
  unfold Oper.wp execOp
  simp only [ho, resolve, invoke, builtin, Sem.run_bind, Sem.run_pure, Result.andThen_ok, List.map_toArray, List.map_cons, List.map_nil, hs, hr1]
  exact hK _ _ h
theorem append_step {P : Program} {ops : Array Oper} {o : Oper} {a : Act} {Q : Exit → Act → World → Prop} {Kc : Act → World → Prop} {W : World} (hw : Region.wanted o (yielded ops a.tmps) = true) (s x : Operand) (t : TypeId)
    (ho : o.op = .call { callee := .builtin .append, args := #[s, x], argTypes := #[t, t] }) (v u : Value) (hs : a.eval s = v) (hx : a.eval x = u) (v1 : Value) (w1 : World)
    (hr1 : (Builtin.append_ #[t, t] o.type #[v, u]).run P W = .ok v1 w1) (h : Kc (a.put o.dst v1) w1) : if Region.wanted o (yielded ops a.tmps) = true then Oper.wp P o a W Kc Q else Kc (a.put o.dst undef) W := by
  rw [if_pos hw]
  unfold Oper.wp execOp
  simp only [ho, resolve, invoke, builtin, Sem.run_bind, Sem.run_pure, Result.andThen_ok, List.map_toArray, List.map_cons, List.map_nil, hs, hx, hr1]
  exact h
theorem cut_all (t e : TypeId) {i : TypeInfo} (ht : Try.prog.underlying t = some (.slice e)) (hi : Try.prog.info? e = some i) (A : Option Addr) (n c : Nat) (l h m : Int) (h0 : 0 ≤ l) (h1 : l ≤ h) (h2 : h ≤ m) (h3 : m ≤ c) :
    ∃ v, ∀ W : World, (Instr.slice t (.slice A n c) (some (.int .i64 l)) (some (.int .i64 h)) (some (.int .i64 m))).run Try.prog W = .ok v W := by
  have hel : Try.prog.elem t = e := by simp [Program.elem, ht]
  have hu : Try.prog.underlying t = some (.slice (Try.prog.elem t)) := by rw [hel]; exact ht
  refine ⟨sliced A l.toNat h.toNat m.toNat i.size, fun W => ?_⟩
  rw [run_slice_lhm W t A n c hu .i64 .i64 .i64 l h m h0 h1 h2 h3, hel]
  simp [sizeOf, typeInfo, hi, Result.andThen]
/-- The last place alone, which is within the block but not within the row. -/
theorem cut_end (t e : TypeId) {i : TypeInfo} (ht : Try.prog.underlying t = some (.slice e)) (hi : Try.prog.info? e = some i) (size : Nat) (hsz : i.size = size) (g m c : Nat) (h : m + 1 ≤ c) :
    ∀ W : World, (Instr.slice t (.slice (some ⟨g, 0, none⟩) m c) (some (.int .i64 (m : Int))) (some (.int .i64 ((m + 1 : Nat) : Int))) none).run Try.prog W = .ok (.slice (some ⟨g, m * size, none⟩) 1 (c - m)) W := by
  intro W
  have hel : Try.prog.elem t = e := by simp [Program.elem, ht]
  have hu : Try.prog.underlying t = some (.slice (Try.prog.elem t)) := by rw [hel]; exact ht
  rw [run_slice_lh W t _ m c hu .i64 .i64 (m : Int) ((m + 1 : Nat) : Int) (by omega) (by omega) (by omega), hel]
  have hne : ¬ c = m := by omega
  simp [sizeOf, typeInfo, hi, hsz, sliced, Result.andThen, hne, Addr.add_mid]
def del60.T5 : Bool × List (List Nat × List Nat) := (true, [([], []), ([], []), ([0, 1], [0, 1]), ([], []), ([], []), ([3, 4], [3, 4]), ([2, 5], [2, 5]), ([6, 6, 0, 1, 2, 3, 4, 5, 6], [0, 3, 6])])
def del60.B5 : List Nat := [0, 0, 3, 0, 0, 24, 63, 127]
theorem del60.tab5 : rtab .any (opsOf Try.f60 5) = del60.T5 := by kernel_rfl
theorem del60.bits5 : waitsOk del60.T5.2 del60.B5 = true := by kernel_rfl
set_option maxHeartbeats 4000000 in
set_option maxRecDepth 100000 in
theorem del60_calls {w : World} {base g n cap : Nat} {xs : List S23} {cs : List Value} (h : OwnB k23 23 w base g n cap xs cs) {i : Nat} {j : Int} (hin : i < n) (hj : j = (i : Int) + 1) (hn : n ≤ 1000) :
    Calls Try.prog 60 #[.slice (some ⟨g, 0, none⟩) n cap, .int .i64 (i : Int), .int .i64 j] w fun e w' => e = .returned (.slice (some ⟨g, 0, none⟩) (n - 1) cap) ∧ k23.R 23 w' base (fun _ => True) (.slice (some ⟨g, 0, none⟩) (n - 1) cap) (xs.eraseIdx i) ∧ Chg (fun k => k = g) w w' := by
  obtain ⟨inf, hinf, hinf2⟩ := Option.map_eq_some_iff.1 size23
  have hle := h.le
  obtain ⟨w1, hap, h1, hgr⟩ := del_append (P := Try.prog) (d := k23) (t := 36) (ty := 36) Try.underlying36 hinf hinf2 (by decide) (fun W1 base x c hM => one23 hM) (show OwnB k23 23 w.drew base g n cap xs cs from ⟨h.blk, h.le, h.max, h.low, h.len, h.reps.imp_ (fun _ _ hp => flatM23 hp _ _)⟩) hin
  obtain ⟨v13, f13⟩ := cut_all 36 23 Try.underlying36 hinf (some ⟨g, 0, none⟩) n cap (i : Int) j (n : Int) (by omega) (by omega) (by omega) (by omega)
  have f22 := cut_to (P := Try.prog) 36 23 .i64 Try.underlying36 hinf (some ⟨g, 0, none⟩) n cap (i : Int) (by omega) (by omega) hle
  have f25 := cut_from (P := Try.prog) 36 23 .i64 Try.underlying36 hinf 2 hinf2 (some ⟨g, 0, none⟩) n cap j (by omega) (by omega)
  have hjn : j.toNat = i + 1 := by omega
  rw [Int.toNat_natCast] at f22
  rw [hjn] at f25
  obtain ⟨V25, hV25⟩ : ∃ v, v = (Value.slice (if cap = i + 1 then some ⟨g, 0, none⟩ else (some (⟨g, 0, none⟩ : Addr)).map (·.add ((i + 1) * 2))) (n - (i + 1)) (cap - (i + 1))) := ⟨_, rfl⟩
  rw [← hV25] at f25
  have hap' : (Builtin.append_ #[36, 36] 36 #[.slice (some ⟨g, 0, none⟩) i cap, V25]).run Try.prog w.drew = .ok (.slice (some ⟨g, 0, none⟩) (n - 1) cap) w1 := by rw [hV25]; exact hap
  obtain ⟨m, hm⟩ : ∃ m, m = n - 1 := ⟨_, rfl⟩
  have hmn : n = m + 1 := by omega
  rw [← hm] at hap'
  rw [← hm]
  have f31 := cut_end 36 23 Try.underlying36 hinf 2 hinf2 g m cap (by omega)
  rw [← hmn] at f31
  obtain ⟨cur1, hh1, hcs1, htk1⟩ := h1
  have hclr := clear_wide (P := Try.prog) w1 36 23 0 (Value.agg #[.int .i64 0, .string ⟨#[]⟩]) 2 Try.underlying36 (fun _ => by kernel_rfl) (by decide) (by decide) (by decide) g (m * 2) (cap - m) cur1 hh1 (by rw [hcs1]; show m * 2 + 2 ≤ cap * 2; omega)
  obtain ⟨w2, hw2⟩ : ∃ w2, w2 = w1.setCells g (m * 2) ((Value.agg #[.int .i64 0, .string ⟨#[]⟩])).cells.toList := ⟨_, rfl⟩
  rw [← hw2] at hclr
  obtain ⟨o31, ho31⟩ : ∃ o, m * 2 = o := ⟨_, rfl⟩
  rw [ho31] at hclr f31 hw2
  have HO := Aside0.mk ho31
  clear ho31
  have n1 : ¬ (i : Int) = j := by omega
  have HP := Aside0.mk (And.intro h (And.intro hin (And.intro hm (And.intro hgr hw2))))
  have H1 := Aside0.mk (show ∃ cur1 : Array Value, w1.heap[g]? = some (.cells cur1 23 (0, 0)) ∧ cur1.size = cap * 2 ∧ cur1.toList.take ((n - 1) * 2) = cs.take (i * 2) ++ cs.drop ((i + 1) * 2) from ⟨cur1, hh1, hcs1, htk1⟩)
  have HLT := Aside0.mk (And.intro hle (And.intro hn (And.intro hmn hj)))
  have HAP := Aside0.mk hap'
  have HCL := Aside0.mk hclr
  clear h hin hj hle hap hap' hgr hh1 hcs1 htk1 hclr hw2 hm hV25 hjn hinf2 hmn
  go_enter Try.func60, Try.ntmps60
  go_wp2
  refine start_ (n := 8) (S := fun w' => True) (ds := []) #[false, false, false, false, false, false, false, false] (by kernel_rfl) rfl rfl trivial (fun hHeld => ?_); refine with_tabW del60.tab5 del60.bits5 (fun HT_ HW_ => ?_)
  refine pure_ (i := 0) (N := some 20) (v := ?_) (a' := ?_) #[true, false, false, false, false, false, false, false] rfl rfl (any_of HT_.out (by kernel_rfl)) (fun _ _ _ h => h) (Or.inl ⟨by rfl, ?_⟩) ?_ ?_
  rotate_left
  · intro w'
    go_simp
    with_reducible rfl
  rotate_left
  · simp only [Act.put, List.setIfInBounds_toArray, List.set_cons_zero, List.set_cons_succ, i64_w, i32_w, xu32_w, xu8_w]
    rfl
  refine pure_ (i := 1) (N := some 21) (v := ?_) (a' := ?_) #[true, true, false, false, false, false, false, false] rfl rfl (any_of HT_.out (by kernel_rfl)) (fun _ _ _ h => h) (Or.inl ⟨by rfl, ?_⟩) ?_ ?_
  rotate_left
  · intro w'
    go_simp
    with_reducible rfl
  rotate_left
  · simp only [Act.put, List.setIfInBounds_toArray, List.set_cons_zero, List.set_cons_succ, i64_w, i32_w, xu32_w, xu8_w]
    rfl
  refine pure_ (i := 2) (N := some 22) (v := ?_) (a' := ?_) #[true, true, true, false, false, false, false, false] rfl rfl (any_of HT_.out (by kernel_rfl)) (fun _ _ _ h => h) (Or.inl ⟨by rfl, ?_⟩) ?_ ?_
  rotate_left
  · intro w'
    go_simp
    with_reducible rfl
  rotate_left
  · simp only [Act.put, List.setIfInBounds_toArray, List.set_cons_zero, List.set_cons_succ, i64_w, i32_w, xu32_w, xu8_w]
    rfl
  refine pure_ (i := 3) (N := some 23) (v := ?_) (a' := ?_) #[true, true, true, true, false, false, false, false] rfl rfl (any_of HT_.out (by kernel_rfl)) (fun _ _ _ h => h) (Or.inl ⟨by rfl, ?_⟩) ?_ ?_
  rotate_left
  · intro w'
    go_simp
    with_reducible rfl
  rotate_left
  · simp only [Act.put, List.setIfInBounds_toArray, List.set_cons_zero, List.set_cons_succ, i64_w, i32_w, xu32_w, xu8_w]
    rfl
  refine pure_ (i := 4) (N := some 24) (v := ?_) (a' := ?_) #[true, true, true, true, true, false, false, false] rfl rfl (any_of HT_.out (by kernel_rfl)) (fun _ _ _ h => h) (Or.inl ⟨by rfl, ?_⟩) ?_ ?_
  rotate_left
  · intro w'
    go_simp
    with_reducible rfl
  rotate_left
  · simp only [Act.put, List.setIfInBounds_toArray, List.set_cons_zero, List.set_cons_succ, i64_w, i32_w, xu32_w, xu8_w]
    rfl
  refine pure_ (i := 5) (N := some 25) (v := ?_) (a' := ?_) #[true, true, true, true, true, true, false, false] rfl rfl (any_of HT_.out (by kernel_rfl)) (fun _ _ _ h => h) (Or.inl ⟨by rfl, ?_⟩) ?_ ?_
  rotate_left
  · intro w'
    go_simp
    with_reducible rfl
  rotate_left
  · simp only [Act.put, List.setIfInBounds_toArray, List.set_cons_zero, List.set_cons_succ, i64_w, i32_w, xu32_w, xu8_w]
    rfl
  refine one_ (i := 6) (N := some 26) #[true, true, true, true, true, true, true, false] rfl rfl (one_of HT_.out (by kernel_rfl)) (by decide) (fun K hK => ?_)
  refine append_step (by rfl) (.tmp 22) (.tmp 25) 36 rfl _ _ rfl rfl (.slice (some ⟨g, 0, none⟩) m cap) w1 HAP.out ?_
  refine hK.out _ _ trivial (fun hHeld => ?_)
  clear hK K
  refine norm_ (a' := ?_) ?_ ?_
  rotate_left
  · show Act.put _ (some 26) _ = _
    simp only [Act.put, List.setIfInBounds_toArray, List.set_cons_zero, List.set_cons_succ, i64_w, i32_w, xu32_w, xu8_w]
    rfl
  refine pure_ (i := 7) (N := some 0) (v := ?_) (a' := ?_) #[true, true, true, true, true, true, true, true] rfl rfl (any_of HT_.out (by kernel_rfl)) (fun _ _ _ h => h) (Or.inl ⟨by rfl, ?_⟩) ?_ ?_
  rotate_left
  · intro w'
    go_simp
    with_reducible rfl
  rotate_left
  · simp only [Act.put, List.setIfInBounds_toArray, List.set_cons_zero, List.set_cons_succ, i64_w, i32_w, xu32_w, xu8_w]
    rfl
  refine done_ (done_of HT_.out (by kernel_rfl)) ?_
  clear hHeld HT_ HW_
  go_wp2_with (first
    | ((with_reducible refine gate_builtin (b := .clear) (xs := #[.tmp 31]) rfl ?_); refine clear_event rfl (.tmp 31) 36 rfl _ rfl (.tuple #[]) w2 HCL.out ?_))
  go_ret
  obtain ⟨p1, p2, p3, p4, p5⟩ := HP.out
  refine ⟨rfl, ?_, ?_⟩
  · have := del_own (d := k23) (by decide) (fun W W1 base x c ok hM => flatM23 hM W1 ok) p1 p2 H1.out (zs := ((Value.agg #[.int .i64 0, .string ⟨#[]⟩])).cells.toList) (by decide)
    rw [← p3] at this
    rw [p5, ← HO.out]
    exact this
  · rw [p5]
    obtain ⟨s1, s2, s3, s4⟩ := setCells_same g ((Value.agg #[.int .i64 0, .string ⟨#[]⟩])).cells.toList o31 w1
    exact ⟨s1.trans p4.os, s2.trans p4.tape, s3.trans p4.output, by rw [s4]; exact p4.size, fun k hk hne => (setCells_far _ _ k hne).trans (p4.block k hk (fun e => hne (by injection e)))⟩
def del61.T5 : Bool × List (List Nat × List Nat) := (true, [([], []), ([], []), ([0, 1], [0, 1]), ([], []), ([], []), ([3, 4], [3, 4]), ([2, 5], [2, 5]), ([6, 6, 0, 1, 2, 3, 4, 5, 6], [0, 3, 6])])
def del61.B5 : List Nat := [0, 0, 3, 0, 0, 24, 63, 127]
theorem del61.tab5 : rtab .any (opsOf Try.f61 5) = del61.T5 := by kernel_rfl
theorem del61.bits5 : waitsOk del61.T5.2 del61.B5 = true := by kernel_rfl
set_option maxHeartbeats 4000000 in
set_option maxRecDepth 100000 in
theorem del61_calls {w : World} {base g n cap : Nat} {xs : List ByteArray} {cs : List Value} (h : OwnB Kd.string 9 w base g n cap xs cs) {i : Nat} {j : Int} (hin : i < n) (hj : j = (i : Int) + 1) (hn : n ≤ 1000) :
    Calls Try.prog 61 #[.slice (some ⟨g, 0, none⟩) n cap, .int .i64 (i : Int), .int .i64 j] w fun e w' => e = .returned (.slice (some ⟨g, 0, none⟩) (n - 1) cap) ∧ Kd.string.R 9 w' base (fun _ => True) (.slice (some ⟨g, 0, none⟩) (n - 1) cap) (xs.eraseIdx i) ∧ Chg (fun k => k = g) w w' := by
  obtain ⟨inf, hinf, hinf2⟩ := Option.map_eq_some_iff.1 size9
  have hle := h.le
  obtain ⟨w1, hap, h1, hgr⟩ := del_append (P := Try.prog) (d := Kd.string) (t := 37) (ty := 37) Try.underlying37 hinf hinf2 (by decide) (fun W1 base x c hM => by cases hM; simp [Value.oneCell']) (show OwnB Kd.string 9 w.drew base g n cap xs cs from ⟨h.blk, h.le, h.max, h.low, h.len, h.reps.imp_ (fun _ _ hp => hp)⟩) hin
  obtain ⟨v13, f13⟩ := cut_all 37 9 Try.underlying37 hinf (some ⟨g, 0, none⟩) n cap (i : Int) j (n : Int) (by omega) (by omega) (by omega) (by omega)
  have f22 := cut_to (P := Try.prog) 37 9 .i64 Try.underlying37 hinf (some ⟨g, 0, none⟩) n cap (i : Int) (by omega) (by omega) hle
  have f25 := cut_from (P := Try.prog) 37 9 .i64 Try.underlying37 hinf 1 hinf2 (some ⟨g, 0, none⟩) n cap j (by omega) (by omega)
  have hjn : j.toNat = i + 1 := by omega
  rw [Int.toNat_natCast] at f22
  rw [hjn] at f25
  obtain ⟨V25, hV25⟩ : ∃ v, v = (Value.slice (if cap = i + 1 then some ⟨g, 0, none⟩ else (some (⟨g, 0, none⟩ : Addr)).map (·.add ((i + 1) * 1))) (n - (i + 1)) (cap - (i + 1))) := ⟨_, rfl⟩
  rw [← hV25] at f25
  have hap' : (Builtin.append_ #[37, 37] 37 #[.slice (some ⟨g, 0, none⟩) i cap, V25]).run Try.prog w.drew = .ok (.slice (some ⟨g, 0, none⟩) (n - 1) cap) w1 := by rw [hV25]; exact hap
  obtain ⟨m, hm⟩ : ∃ m, m = n - 1 := ⟨_, rfl⟩
  have hmn : n = m + 1 := by omega
  rw [← hm] at hap'
  rw [← hm]
  have f31 := cut_end 37 9 Try.underlying37 hinf 1 hinf2 g m cap (by omega)
  rw [← hmn] at f31
  obtain ⟨cur1, hh1, hcs1, htk1⟩ := h1
  have hclr := clear_wide (P := Try.prog) w1 37 9 0 (Value.string ⟨#[]⟩) 1 Try.underlying37 (fun _ => by kernel_rfl) (by decide) (by decide) (by decide) g (m * 1) (cap - m) cur1 hh1 (by rw [hcs1]; show m * 1 + 1 ≤ cap * 1; omega)
  obtain ⟨w2, hw2⟩ : ∃ w2, w2 = w1.setCells g (m * 1) ((Value.string ⟨#[]⟩)).cells.toList := ⟨_, rfl⟩
  rw [← hw2] at hclr
  obtain ⟨o31, ho31⟩ : ∃ o, m * 1 = o := ⟨_, rfl⟩
  rw [ho31] at hclr f31 hw2
  have HO := Aside0.mk ho31
  clear ho31
  have n1 : ¬ (i : Int) = j := by omega
  have HP := Aside0.mk (And.intro h (And.intro hin (And.intro hm (And.intro hgr hw2))))
  have H1 := Aside0.mk (show ∃ cur1 : Array Value, w1.heap[g]? = some (.cells cur1 9 (0, 0)) ∧ cur1.size = cap * 1 ∧ cur1.toList.take ((n - 1) * 1) = cs.take (i * 1) ++ cs.drop ((i + 1) * 1) from ⟨cur1, hh1, hcs1, htk1⟩)
  have HLT := Aside0.mk (And.intro hle (And.intro hn (And.intro hmn hj)))
  have HAP := Aside0.mk hap'
  have HCL := Aside0.mk hclr
  clear h hin hj hle hap hap' hgr hh1 hcs1 htk1 hclr hw2 hm hV25 hjn hinf2 hmn
  go_enter Try.func61, Try.ntmps61
  go_wp2
  refine start_ (n := 8) (S := fun w' => True) (ds := []) #[false, false, false, false, false, false, false, false] (by kernel_rfl) rfl rfl trivial (fun hHeld => ?_); refine with_tabW del61.tab5 del61.bits5 (fun HT_ HW_ => ?_)
  refine pure_ (i := 0) (N := some 20) (v := ?_) (a' := ?_) #[true, false, false, false, false, false, false, false] rfl rfl (any_of HT_.out (by kernel_rfl)) (fun _ _ _ h => h) (Or.inl ⟨by rfl, ?_⟩) ?_ ?_
  rotate_left
  · intro w'
    go_simp
    with_reducible rfl
  rotate_left
  · simp only [Act.put, List.setIfInBounds_toArray, List.set_cons_zero, List.set_cons_succ, i64_w, i32_w, xu32_w, xu8_w]
    rfl
  refine pure_ (i := 1) (N := some 21) (v := ?_) (a' := ?_) #[true, true, false, false, false, false, false, false] rfl rfl (any_of HT_.out (by kernel_rfl)) (fun _ _ _ h => h) (Or.inl ⟨by rfl, ?_⟩) ?_ ?_
  rotate_left
  · intro w'
    go_simp
    with_reducible rfl
  rotate_left
  · simp only [Act.put, List.setIfInBounds_toArray, List.set_cons_zero, List.set_cons_succ, i64_w, i32_w, xu32_w, xu8_w]
    rfl
  refine pure_ (i := 2) (N := some 22) (v := ?_) (a' := ?_) #[true, true, true, false, false, false, false, false] rfl rfl (any_of HT_.out (by kernel_rfl)) (fun _ _ _ h => h) (Or.inl ⟨by rfl, ?_⟩) ?_ ?_
  rotate_left
  · intro w'
    go_simp
    with_reducible rfl
  rotate_left
  · simp only [Act.put, List.setIfInBounds_toArray, List.set_cons_zero, List.set_cons_succ, i64_w, i32_w, xu32_w, xu8_w]
    rfl
  refine pure_ (i := 3) (N := some 23) (v := ?_) (a' := ?_) #[true, true, true, true, false, false, false, false] rfl rfl (any_of HT_.out (by kernel_rfl)) (fun _ _ _ h => h) (Or.inl ⟨by rfl, ?_⟩) ?_ ?_
  rotate_left
  · intro w'
    go_simp
    with_reducible rfl
  rotate_left
  · simp only [Act.put, List.setIfInBounds_toArray, List.set_cons_zero, List.set_cons_succ, i64_w, i32_w, xu32_w, xu8_w]
    rfl
  refine pure_ (i := 4) (N := some 24) (v := ?_) (a' := ?_) #[true, true, true, true, true, false, false, false] rfl rfl (any_of HT_.out (by kernel_rfl)) (fun _ _ _ h => h) (Or.inl ⟨by rfl, ?_⟩) ?_ ?_
  rotate_left
  · intro w'
    go_simp
    with_reducible rfl
  rotate_left
  · simp only [Act.put, List.setIfInBounds_toArray, List.set_cons_zero, List.set_cons_succ, i64_w, i32_w, xu32_w, xu8_w]
    rfl
  refine pure_ (i := 5) (N := some 25) (v := ?_) (a' := ?_) #[true, true, true, true, true, true, false, false] rfl rfl (any_of HT_.out (by kernel_rfl)) (fun _ _ _ h => h) (Or.inl ⟨by rfl, ?_⟩) ?_ ?_
  rotate_left
  · intro w'
    go_simp
    with_reducible rfl
  rotate_left
  · simp only [Act.put, List.setIfInBounds_toArray, List.set_cons_zero, List.set_cons_succ, i64_w, i32_w, xu32_w, xu8_w]
    rfl
  refine one_ (i := 6) (N := some 26) #[true, true, true, true, true, true, true, false] rfl rfl (one_of HT_.out (by kernel_rfl)) (by decide) (fun K hK => ?_)
  refine append_step (by rfl) (.tmp 22) (.tmp 25) 37 rfl _ _ rfl rfl (.slice (some ⟨g, 0, none⟩) m cap) w1 HAP.out ?_
  refine hK.out _ _ trivial (fun hHeld => ?_)
  clear hK K
  refine norm_ (a' := ?_) ?_ ?_
  rotate_left
  · show Act.put _ (some 26) _ = _
    simp only [Act.put, List.setIfInBounds_toArray, List.set_cons_zero, List.set_cons_succ, i64_w, i32_w, xu32_w, xu8_w]
    rfl
  refine pure_ (i := 7) (N := some 0) (v := ?_) (a' := ?_) #[true, true, true, true, true, true, true, true] rfl rfl (any_of HT_.out (by kernel_rfl)) (fun _ _ _ h => h) (Or.inl ⟨by rfl, ?_⟩) ?_ ?_
  rotate_left
  · intro w'
    go_simp
    with_reducible rfl
  rotate_left
  · simp only [Act.put, List.setIfInBounds_toArray, List.set_cons_zero, List.set_cons_succ, i64_w, i32_w, xu32_w, xu8_w]
    rfl
  refine done_ (done_of HT_.out (by kernel_rfl)) ?_
  clear hHeld HT_ HW_
  go_wp2_with (first
    | ((with_reducible refine gate_builtin (b := .clear) (xs := #[.tmp 31]) rfl ?_); refine clear_event rfl (.tmp 31) 37 rfl _ rfl (.tuple #[]) w2 HCL.out ?_))
  go_ret
  obtain ⟨p1, p2, p3, p4, p5⟩ := HP.out
  refine ⟨rfl, ?_, ?_⟩
  · have := del_own (d := Kd.string) (by decide) (fun W W1 base x c ok hM => hM) p1 p2 H1.out (zs := ((Value.string ⟨#[]⟩)).cells.toList) (by decide)
    rw [← p3] at this
    rw [p5, ← HO.out]
    exact this
  · rw [p5]
    obtain ⟨s1, s2, s3, s4⟩ := setCells_same g ((Value.string ⟨#[]⟩)).cells.toList o31 w1
    exact ⟨s1.trans p4.os, s2.trans p4.tape, s3.trans p4.output, by rw [s4]; exact p4.size, fun k hk hne => (setCells_far _ _ k hne).trans (p4.block k hk (fun e => hne (by injection e)))⟩
end Go.Proofs.Yticoaaddhhiglaa.T
