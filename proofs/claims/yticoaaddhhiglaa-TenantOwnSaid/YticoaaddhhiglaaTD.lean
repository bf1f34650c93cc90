import Derived.Test.YticoaaddhhiglaaTC
import Derived.ArgAppend
/- The table of tenants by hand: Delete at keys and at readers (mkT11.py). -/
namespace Go.Proofs.Yticoaaddhhiglaa.T
open Go.RowKit Go.Proofs.Yticoaaddhhiglaa.Q Go.Proofs.YticoaaddhhiglaaW.PrintWords Go.Proofs.YticoaaddhhiglaaW.PrintLast Go.Proofs.YticoaaddhhiglaaW.PrintMore
set_option linter.unusedVariables false
set_option linter.unusedSimpArgs false
theorem append_nothing {P : Program} (w : World) (t ty e : TypeId) (i : TypeInfo) (ht : P.underlying t = some (.slice e)) (hi : P.info? e = some i) (g : Nat) (n cap : Nat) (A : Option Addr) (c : Nat) (h : n ≤ cap) :
    (Builtin.append_ #[t, t] ty #[.slice (some ⟨g, 0, none⟩) n cap, .slice A 0 c]).run P w = .ok (.slice (some ⟨g, 0, none⟩) n cap) w := by
  cases A <;> simp [Builtin.append_, run_underlying ht, sizeOf, typeInfo, hi, Builtin.lenOf, h, Builtin.firstCells, storeCells, loadCells, loadCellsFrom]
/-- A row of one's own, as its cells. -/
structure OwnB {α : Type} (d : Kd α) (e : Nat) (w : World) (base : Nat) (g n cap : Nat) (xs : List α) (cs : List Value) : Prop where
  blk : ∃ cur : Array Value, w.heap[g]? = some (.cells cur e (0, 0)) ∧ cur.size = cap * d.sz ∧ cur.toList.take (n * d.sz) = cs
  le : n ≤ cap
  max : cap ≤ maxLen
  low : base ≤ g
  len : xs.length = n
  reps : Reps (fun x c => d.M w base (fun _ => True) x c) d.sz xs cs
theorem ownB_of {α : Type} {d : Kd α} {e : Nat} {w : World} {base : Nat} {ok : Nat → Prop} {g n cap : Nat} {xs : List α} (h : d.R e w base ok (.slice (some ⟨g, 0, none⟩) n cap) xs) (hn : 0 < n) : ∃ cs, OwnB d e w base g n cap xs cs := by
  obtain ⟨hok, inner, hown, hreps⟩ := h
  rcases hown.2 with ⟨hv, _⟩ | ⟨g', cap', cur, hv, hb, hh, hnc, hcm, hcs, htake⟩
  · cases hv
  · injection hv with h1 h2 h3
    injection h1 with h1
    injection h1 with h1
    subst h1; subst h3
    rw [h2]
    exact ⟨inner, ⟨cur, hh, hcs, htake⟩, hnc, hcm, hb, rfl, hreps.imp_ (fun _ _ hp => d.M_mono (fun _ _ => trivial) hp)⟩
theorem reps_erase {α : Type} {R : α → List Value → Prop} {size : Nat} {xs : List α} {cs : List Value} (h : Reps R size xs cs) {i : Nat} (hi : i < xs.length) : Reps R size (xs.eraseIdx i) (cs.take (i * size) ++ cs.drop ((i + 1) * size)) := by
  rw [List.eraseIdx_eq_take_drop_succ]
  exact Kd.reps_append (Kd.reps_take h (by omega)) (Kd.reps_drop h)
/-- What is behind is put to its place. -/
theorem del_append {P : Program} {α : Type} {d : Kd α} {e t ty : TypeId} {info : TypeInfo} (ht : P.underlying t = some (.slice e)) (hi : P.info? e = some info) (hs : info.size = d.sz) (hsz : 0 < d.sz)
    (hone : ∀ (W1 : World) base (x : α) c, d.M W1 base (fun _ => True) x c → ∀ u ∈ c, u.oneCell' = true) {w : World} {base g n cap : Nat} {xs : List α} {cs : List Value} (h : OwnB d e w base g n cap xs cs) {i : Nat} (hin : i < n) :
    ∃ w1, (Builtin.append_ #[t, t] ty #[.slice (some ⟨g, 0, none⟩) i cap, .slice (if cap = i + 1 then some ⟨g, 0, none⟩ else (some (⟨g, 0, none⟩ : Addr)).map (·.add ((i + 1) * d.sz))) (n - (i + 1)) (cap - (i + 1))]).run P w = .ok (.slice (some ⟨g, 0, none⟩) (n - 1) cap) w1 ∧
      (∃ cur1 : Array Value, w1.heap[g]? = some (.cells cur1 e (0, 0)) ∧ cur1.size = cap * d.sz ∧ cur1.toList.take ((n - 1) * d.sz) = cs.take (i * d.sz) ++ cs.drop ((i + 1) * d.sz)) ∧ w.grownBy w1 (some g) := by
  obtain ⟨cur, hh, hcs, htake⟩ := h.blk
  have hle := h.le
  have hlen : cs.length = n * d.sz := by rw [h.reps.1, h.len]
  rcases Nat.eq_zero_or_pos (n - (i + 1)) with h0 | hp
  · have hn1 : n - 1 = i := by omega
    refine ⟨w, by rw [h0, hn1]; exact append_nothing w t ty e info ht hi g i cap _ _ (by omega), ⟨cur, hh, hcs, ?_⟩, World.grownBy.refl w _⟩
    have hd : cs.drop ((i + 1) * d.sz) = [] := List.drop_of_length_le (by rw [hlen, show i + 1 = n by omega]; exact Nat.le_refl _)
    rw [hd, List.append_nil, ← htake, List.take_take, hn1, Nat.min_eq_left (Nat.mul_le_mul_right _ (by omega))]
  · have hne : ¬ cap = i + 1 := by omega
    rw [if_neg hne, Option.map_some]
    have hcell : ∀ j u, (cs.drop ((i + 1) * d.sz))[j]? = some u → w.cell? ((⟨g, 0, none⟩ : Addr).add ((i + 1) * d.sz) |>.add j) = some u := fun j u hu => by
      rw [Addr.add_mid, Addr.add_lit]
      rw [cell_of_row w g _ cur e (0, 0) hh]
      rw [List.getElem?_drop, ← htake, List.getElem?_take] at hu
      split at hu
      · rw [← hu, Array.getElem?_toList]
        congr 1
        omega
      · cases hu
    have hnl : (cs.drop ((i + 1) * d.sz)).length = (n - (i + 1)) * info.size := by rw [List.length_drop, hlen, hs, ← Nat.sub_mul]
    have hr := run_append_room (P := P) w t ty e info ht hi g i cap cur hh ((⟨g, 0, none⟩ : Addr).add ((i + 1) * d.sz)) (n - (i + 1)) (cap - (i + 1)) (cs.drop ((i + 1) * d.sz)) hnl hcell (fun u hu => reps_one h.reps hsz (fun p c hp => hone _ _ p c hp) u (List.mem_of_mem_drop hu)) (by omega) (by rw [hs, hcs, List.length_drop, hlen, ← Nat.sub_mul, ← Nat.add_mul]; exact Nat.mul_le_mul_right _ (by omega))
    have he : i + (n - (i + 1)) = n - 1 := by omega
    refine ⟨_, by rw [hr, he], ⟨_, setRow_heap w g cur _ e _ hh, ?_, ?_⟩, ?_⟩
    · rw [List.size_toArray, hs, List.length_append, List.length_append, List.length_take, List.length_drop, List.length_drop, hlen, Array.length_toList, hcs]
      have h1 : i * d.sz ≤ cap * d.sz := Nat.mul_le_mul_right _ (by omega)
      have h2 : i * d.sz + (n * d.sz - (i + 1) * d.sz) ≤ cap * d.sz := by rw [← Nat.sub_mul, ← Nat.add_mul]; exact Nat.mul_le_mul_right _ (by omega)
      omega
    · rw [List.toList_toArray, hs]
      have hti : cur.toList.take (i * d.sz) = cs.take (i * d.sz) := by rw [← htake, List.take_take, Nat.min_eq_left (Nat.mul_le_mul_right _ (by omega))]
      rw [hti]
      have hl2 : (cs.take (i * d.sz) ++ cs.drop ((i + 1) * d.sz)).length = (n - 1) * d.sz := by
        rw [List.length_append, List.length_take, List.length_drop, hlen, ← Nat.sub_mul, Nat.min_eq_left (Nat.mul_le_mul_right _ (by omega)), ← Nat.add_mul, he]
      rw [← hl2]
      exact List.take_left
    · exact ⟨rfl, rfl, rfl, by simp [World.setRow], fun k _ hk => setRow_other w g k _ (fun e => hk (by rw [e]))⟩
theorem clear_wide {P : Program} (w : World) (t e ty : TypeId) (z : Value) (sz : Nat) (ht : P.underlying t = some (.slice e)) (hv : ∀ w, (zeroValue e).run P w = .ok z w) (hz : z.cells.size = sz) (hsz : 0 < sz) (h1 : ∀ u ∈ z.cells.toList, u.oneCell' = true) (g o c : Nat) (cur : Array Value) (hh : w.heap[g]? = some (.cells cur e (0, 0))) (hfit : o + sz ≤ cur.size) :
    (Builtin.clear_ #[t] ty #[.slice (some ⟨g, o, none⟩) 1 c]).run P w = .ok (.tuple #[]) (w.setCells g o z.cells.toList) := by
  have hzc : (Builtin.zeroCells z.cells 1).toList = z.cells.toList := by
    simp [Builtin.zeroCells]
    apply List.ext_getElem
    · simp
    · intro i h1 h2
      have : i < z.cells.size := by simpa using h2
      simp [Nat.mod_eq_of_lt this, getElem!_pos z.cells i this]
  have hst := run_storeCells_cells (P := P) g o z.cells.toList 0 w (fun j hj => by rw [cell_of_row w g _ cur e (0, 0) hh]; simp; simp at hj; omega) (fun j _ => blk_frozen hh _) h1
  simp only [Nat.add_zero] at hst
  simp [Builtin.clear_, run_underlying ht, hv, hzc, hst]
/-- Behind a delete the row is one's own. -/
theorem del_own {α : Type} {d : Kd α} {e : Nat} (hsz : 0 < d.sz) (hflat : ∀ (W W1 : World) base (x : α) c ok, d.M W base (fun _ => True) x c → d.M W1 base ok x c) {w w1 : World} {base g n cap : Nat} {xs : List α} {cs zs : List Value} (h : OwnB d e w base g n cap xs cs) {i : Nat} (hin : i < n)
    (h1 : ∃ cur1 : Array Value, w1.heap[g]? = some (.cells cur1 e (0, 0)) ∧ cur1.size = cap * d.sz ∧ cur1.toList.take ((n - 1) * d.sz) = cs.take (i * d.sz) ++ cs.drop ((i + 1) * d.sz)) (hz : zs.length = d.sz) :
    d.R e (w1.setCells g ((n - 1) * d.sz) zs) base (fun _ => True) (.slice (some ⟨g, 0, none⟩) (n - 1) cap) (xs.eraseIdx i) := by
  obtain ⟨cur1, hh, hcs, htk⟩ := h1
  have hle := h.le
  obtain ⟨cur', h3, h4, h5⟩ := setCells_row zs ((n - 1) * d.sz) w1 cur1 hh (by rw [hz, hcs, ← Nat.succ_mul]; exact Nat.mul_le_mul_right _ (by omega))
  have hl : (xs.eraseIdx i).length = n - 1 := by rw [List.length_eraseIdx, h.len, if_pos hin]
  have hr := reps_erase h.reps (i := i) (by rw [h.len]; exact hin)
  refine ⟨fun _ _ => trivial, cs.take (i * d.sz) ++ cs.drop ((i + 1) * d.sz), ⟨hr.1, .inr ⟨g, cap, cur', by rw [hl], h.low, h3, by rw [hl]; omega, h.max, by rw [h4, hcs], ?_⟩⟩, hr.imp_ (fun _ _ hp => hflat _ _ _ _ _ _ hp)⟩
  rw [hl, ← htk, h5]
  have hlt : (cur1.toList.take ((n - 1) * d.sz)).length = (n - 1) * d.sz := by
    rw [List.length_take, Array.length_toList, hcs]
    exact Nat.min_eq_left (Nat.mul_le_mul_right _ (by omega))
  rw [List.append_assoc, ← hlt]
  simp
theorem flatM23 {W : World} {base : Nat} {ok0 : Nat → Prop} {x : S23} {c : List Value} (h : k23.M W base ok0 x c) (W1 : World) (ok : Nat → Prop) : k23.M W1 base ok x c := by
  obtain rfl := k23_openM h
  exact k23_mkM W1 base ok x
theorem one23 {W : World} {base : Nat} {ok0 : Nat → Prop} {x : S23} {c : List Value} (h : k23.M W base ok0 x c) : ∀ u ∈ c, u.oneCell' = true := by
  obtain rfl := k23_openM h
  intro u hu
  simp only [List.mem_cons, List.not_mem_nil, or_false] at hu
  rcases hu with rfl | rfl <;> rfl
theorem clear_event {P : Program} {ops : Array Oper} {o : Oper} {rest : List Oper} {a : Act} {Q : Exit → Act → World → Prop} {W : World} (hgd : o.guard = none) (s : Operand) (t : TypeId)
    (ho : o.op = .call { callee := .builtin .clear, args := #[s], argTypes := #[t] }) (v : Value) (hs : a.eval s = v) (v1 : Value) (w1 : World)
    (hr1 : (Builtin.clear_ #[t] o.type #[v]).run P W = .ok v1 w1) (h : wpList P ops Q rest (a.put o.dst v1) w1) : wpList P ops Q (o :: rest) a W := by
  refine wpList_plain hgd fun K hK => ?_
  unfold Oper.wp execOp
  simp only [ho, resolve, invoke, builtin, Sem.run_bind, Sem.run_pure, Result.andThen_ok, List.map_toArray, List.map_cons, List.map_nil, hs, hr1]
  exact hK _ _ h
theorem append_step {P : Program} {ops : Array Oper} {o : Oper} {a : Act} {Q : Exit → Act → World → Prop} {Kc : Act → World → Prop} {W : World} (hw : Region.wanted o (yielded ops a.tmps) = true) (s x : Operand) (t : TypeId)
    (ho : o.op = .call { callee := .builtin .append, args := #[s, x], argTypes := #[t, t] }) (v u : Value) (hs : a.eval s = v) (hx : a.eval x = u) (v1 : Value) (w1 : World)
    (hr1 : (Builtin.append_ #[t, t] o.type #[v, u]).run P W = .ok v1 w1) (h : Kc (a.put o.dst v1) w1) : if Region.wanted o (yielded ops a.tmps) = true then Oper.wp P o a W Kc Q else Kc (a.put o.dst undef) W := by
  rw [if_pos hw]
  unfold Oper.wp execOp
  simp only [ho, resolve, invoke, builtin, Sem.run_bind, Sem.run_pure, Result.andThen_ok, List.map_toArray, List.map_cons, List.map_nil, hs, hx, hr1]
  exact h
theorem cut_all (t e : TypeId) {i : TypeInfo} (ht : Try.prog.underlying t = some (.slice e)) (hi : Try.prog.info? e = some i) (A : Option Addr) (n c : Nat) (l h m : Int) (h0 : 0 ≤ l) (h1 : l ≤ h) (h2 : h ≤ m) (h3 : m ≤ c) :
    ∃ v, ∀ W : World, (Instr.slice t (.slice A n c) (some (.int .i64 l)) (some (.int .i64 h)) (some (.int .i64 m))).run Try.prog W = .ok v W := by
  have hel : Try.prog.elem t = e := by simp [Program.elem, ht]
  have hu : Try.prog.underlying t = some (.slice (Try.prog.elem t)) := by rw [hel]; exact ht
  refine ⟨sliced A l.toNat h.toNat m.toNat i.size, fun W => ?_⟩
  rw [run_slice_lhm W t A n c hu .i64 .i64 .i64 l h m h0 h1 h2 h3, hel]
  simp [sizeOf, typeInfo, hi, Result.andThen]
/-- The last place alone, which is within the block but not within the row. -/
theorem cut_end (t e : TypeId) {i : TypeInfo} (ht : Try.prog.underlying t = some (.slice e)) (hi : Try.prog.info? e = some i) (size : Nat) (hsz : i.size = size) (g m c : Nat) (h : m + 1 ≤ c) :
    ∀ W : World, (Instr.slice t (.slice (some ⟨g, 0, none⟩) m c) (some (.int .i64 (m : Int))) (some (.int .i64 ((m + 1 : Nat) : Int))) none).run Try.prog W = .ok (.slice (some ⟨g, m * size, none⟩) 1 (c - m)) W := by
  intro W
  have hel : Try.prog.elem t = e := by simp [Program.elem, ht]
  have hu : Try.prog.underlying t = some (.slice (Try.prog.elem t)) := by rw [hel]; exact ht
  rw [run_slice_lh W t _ m c hu .i64 .i64 (m : Int) ((m + 1 : Nat) : Int) (by omega) (by omega) (by omega), hel]
  have hne : ¬ c = m := by omega
  simp [sizeOf, typeInfo, hi, hsz, sliced, Result.andThen, hne, Addr.add_mid]
def del60.T5 : Bool × List (List Nat × List Nat) := (true, [([], []), ([], []), ([0, 1], [0, 1]), ([], []), ([], []), ([3, 4], [3, 4]), ([2, 5], [2, 5]), ([6, 6, 0, 1, 2, 3, 4, 5, 6], [0, 3, 6])])
def del60.B5 : List Nat := [0, 0, 3, 0, 0, 24, 63, 127]
theorem del60.tab5 : rtab .any (opsOf Try.f60 5) = del60.T5 := by kernel_rfl
theorem del60.bits5 : waitsOk del60.T5.2 del60.B5 = true := by kernel_rfl
set_option maxHeartbeats 4000000 in
set_option maxRecDepth 100000 in
theorem del60_calls {w : World} {base g n cap : Nat} {xs : List S23} {cs : List Value} (h : OwnB k23 23 w base g n cap xs cs) {i : Nat} {j : Int} (hin : i < n) (hj : j = (i : Int) + 1) (hn : n ≤ 1000) :
    Calls Try.prog 60 #[.slice (some ⟨g, 0, none⟩) n cap, .int .i64 (i : Int), .int .i64 j] w fun e w' => e = .returned (.slice (some ⟨g, 0, none⟩) (n - 1) cap) ∧ k23.R 23 w' base (fun _ => True) (.slice (some ⟨g, 0, none⟩) (n - 1) cap) (xs.eraseIdx i) ∧ Chg (fun k => k = g) w w' := by
  obtain ⟨inf, hinf, hinf2⟩ := Option.map_eq_some_iff.1 size23
  have hle := h.le
  obtain ⟨w1, hap, h1, hgr⟩ := del_append (P := Try.prog) (d := k23) (t := 36) (ty := 36) Try.underlying36 hinf hinf2 (by decide) (fun W1 base x c hM => one23 hM) (show OwnB k23 23 w.drew base g n cap xs cs from ⟨h.blk, h.le, h.max, h.low, h.len, h.reps.imp_ (fun _ _ hp => flatM23 hp _ _)⟩) hin
  obtain ⟨v13, f13⟩ := cut_all 36 23 Try.underlying36 hinf (some ⟨g, 0, none⟩) n cap (i : Int) j (n : Int) (by omega) (by omega) (by omega) (by omega)
  have f22 := cut_to (P := Try.prog) 36 23 .i64 Try.underlying36 hinf (some ⟨g, 0, none⟩) n cap (i : Int) (by omega) (by omega) hle
  have f25 := cut_from (P := Try.prog) 36 23 .i64 Try.underlying36 hinf 2 hinf2 (some ⟨g, 0, none⟩) n cap j (by omega) (by omega)
  have hjn : j.toNat = i + 1 := by omega
  rw [Int.toNat_natCast] at f22
  rw [hjn] at f25
  obtain ⟨V25, hV25⟩ : ∃ v, v = (Value.slice (if cap = i + 1 then some ⟨g, 0, none⟩ else (some (⟨g, 0, none⟩ : Addr)).map (·.add ((i + 1) * 2))) (n - (i + 1)) (cap - (i + 1))) := ⟨_, rfl⟩
  rw [← hV25] at f25
  have hap' : (Builtin.append_ #[36, 36] 36 #[.slice (some ⟨g, 0, none⟩) i cap, V25]).run Try.prog w.drew = .ok (.slice (some ⟨g, 0, none⟩) (n - 1) cap) w1 := by rw [hV25]; exact hap
  obtain ⟨m, hm⟩ : ∃ m, m = n - 1 := ⟨_, rfl⟩
  have hmn : n = m + 1 := by omega
  rw [← hm] at hap'
  rw [← hm]
  have f31 := cut_end 36 23 Try.underlying36 hinf 2 hinf2 g m cap (by omega)
  rw [← hmn] at f31
  obtain ⟨cur1, hh1, hcs1, htk1⟩ := h1
  have hclr := clear_wide (P := Try.prog) w1 36 23 0 (Value.agg #[.int .i64 0, .string ⟨#[]⟩]) 2 Try.underlying36 (fun _ => by kernel_rfl) (by decide) (by decide) (by decide) g (m * 2) (cap - m) cur1 hh1 (by rw [hcs1]; show m * 2 + 2 ≤ cap * 2; omega)
  obtain ⟨w2, hw2⟩ : ∃ w2, w2 = w1.setCells g (m * 2) ((Value.agg #[.int .i64 0, .string ⟨#[]⟩])).cells.toList := ⟨_, rfl⟩
  rw [← hw2] at hclr
  obtain ⟨o31, ho31⟩ : ∃ o, m * 2 = o := ⟨_, rfl⟩
  rw [ho31] at hclr f31 hw2
  have HO := Aside0.mk ho31
  clear ho31
  have n1 : ¬ (i : Int) = j := by omega
  have HP := Aside0.mk (And.intro h (And.intro hin (And.intro hm (And.intro hgr hw2))))
  have H1 := Aside0.mk (show ∃ cur1 : Array Value, w1.heap[g]? = some (.cells cur1 23 (0, 0)) ∧ cur1.size = cap * 2 ∧ cur1.toList.take ((n - 1) * 2) = cs.take (i * 2) ++ cs.drop ((i + 1) * 2) from ⟨cur1, hh1, hcs1, htk1⟩)
  have HLT := Aside0.mk (And.intro hle (And.intro hn (And.intro hmn hj)))
  have HAP := Aside0.mk hap'
  have HCL := Aside0.mk hclr
  clear h hin hj hle hap hap' hgr hh1 hcs1 htk1 hclr hw2 hm hV25 hjn hinf2 hmn
  go_enter Try.func60, Try.ntmps60
  go_wp2
  refine start_ (n := 8) (S := fun w' => True) (ds := []) #[false, false, false, false, false, false, false, false] (by kernel_rfl) rfl rfl trivial (fun hHeld => ?_); refine with_tabW del60.tab5 del60.bits5 (fun HT_ HW_ => ?_)
  refine pure_ (i := 0) (N := some 20) (v := ?_) (a' := ?_) #[true, false, false, false, false, false, false, false] rfl rfl (any_of HT_.out (by kernel_rfl)) (fun _ _ _ h => h) (Or.inl ⟨by rfl, ?_⟩) ?_ ?_
  rotate_left
  · intro w'
    go_simp
    with_reducible rfl
  rotate_left
  · simp only [Act.put, List.setIfInBounds_toArray, List.set_cons_zero, List.set_cons_succ, i64_w, i32_w, xu32_w, xu8_w]
    rfl
  refine pure_ (i := 1) (N := some 21) (v := ?_) (a' := ?_) #[true, true, false, false, false, false, false, false] rfl rfl (any_of HT_.out (by kernel_rfl)) (fun _ _ _ h => h) (Or.inl ⟨by rfl, ?_⟩) ?_ ?_
  rotate_left
  · intro w'
    go_simp
    with_reducible rfl
  rotate_left
  · simp only [Act.put, List.setIfInBounds_toArray, List.set_cons_zero, List.set_cons_succ, i64_w, i32_w, xu32_w, xu8_w]
    rfl
  refine pure_ (i := 2) (N := some 22) (v := ?_) (a' := ?_) #[true, true, true, false, false, false, false, false] rfl rfl (any_of HT_.out (by kernel_rfl)) (fun _ _ _ h => h) (Or.inl ⟨by rfl, ?_⟩) ?_ ?_
  rotate_left
  · intro w'
    go_simp
    with_reducible rfl
  rotate_left
  · simp only [Act.put, List.setIfInBounds_toArray, List.set_cons_zero, List.set_cons_succ, i64_w, i32_w, xu32_w, xu8_w]
    rfl
  refine pure_ (i := 3) (N := some 23) (v := ?_) (a' := ?_) #[true, true, true, true, false, false, false, false] rfl rfl (any_of HT_.out (by kernel_rfl)) (fun _ _ _ h => h) (Or.inl ⟨by rfl, ?_⟩) ?_ ?_
  rotate_left
  · intro w'
    go_simp
    with_reducible rfl
  rotate_left
  · simp only [Act.put, List.setIfInBounds_toArray, List.set_cons_zero, List.set_cons_succ, i64_w, i32_w, xu32_w, xu8_w]
    rfl
  refine pure_ (i := 4) (N := some 24) (v := ?_) (a' := ?_) #[true, true, true, true, true, false, false, false] rfl rfl (any_of HT_.out (by kernel_rfl)) (fun _ _ _ h => h) (Or.inl ⟨by rfl, ?_⟩) ?_ ?_
  rotate_left
  · intro w'
    go_simp
    with_reducible rfl
  rotate_left
  · simp only [Act.put, List.setIfInBounds_toArray, List.set_cons_zero, List.set_cons_succ, i64_w, i32_w, xu32_w, xu8_w]
    rfl
  refine pure_ (i := 5) (N := some 25) (v := ?_) (a' := ?_) #[true, true, true, true, true, true, false, false] rfl rfl (any_of HT_.out (by kernel_rfl)) (fun _ _ _ h => h) (Or.inl ⟨by rfl, ?_⟩) ?_ ?_
  rotate_left
  · intro w'
    go_simp
    with_reducible rfl
  rotate_left
  · simp only [Act.put, List.setIfInBounds_toArray, List.set_cons_zero, List.set_cons_succ, i64_w, i32_w, xu32_w, xu8_w]
    rfl
  refine one_ (i := 6) (N := some 26) #[true, true, true, true, true, true, true, false] rfl rfl (one_of HT_.out (by kernel_rfl)) (by decide) (fun K hK => ?_)
  refine append_step (by rfl) (.tmp 22) (.tmp 25) 36 rfl _ _ rfl rfl (.slice (some ⟨g, 0, none⟩) m cap) w1 HAP.out ?_
  refine hK.out _ _ trivial (fun hHeld => ?_)
  clear hK K
  refine norm_ (a' := ?_) ?_ ?_
  rotate_left
  · show Act.put _ (some 26) _ = _
    simp only [Act.put, List.setIfInBounds_toArray, List.set_cons_zero, List.set_cons_succ, i64_w, i32_w, xu32_w, xu8_w]
    rfl
  refine pure_ (i := 7) (N := some 0) (v := ?_) (a' := ?_) #[true, true, true, true, true, true, true, true] rfl rfl (any_of HT_.out (by kernel_rfl)) (fun _ _ _ h => h) (Or.inl ⟨by rfl, ?_⟩) ?_ ?_
  rotate_left
  · intro w'
    go_simp
    with_reducible rfl
  rotate_left
  · simp only [Act.put, List.setIfInBounds_toArray, List.set_cons_zero, List.set_cons_succ, i64_w, i32_w, xu32_w, xu8_w]
    rfl
  refine done_ (done_of HT_.out (by kernel_rfl)) ?_
  clear hHeld HT_ HW_
  go_wp2_with (first
    | ((with_reducible refine gate_builtin (b := .clear) (xs := #[.tmp 31]) rfl ?_); refine clear_event rfl (.tmp 31) 36 rfl _ rfl (.tuple #[]) w2 HCL.out ?_))
  go_ret
  obtain ⟨p1, p2, p3, p4, p5⟩ := HP.out
  refine ⟨rfl, ?_, ?_⟩
  · have := del_own (d := k23) (by decide) (fun W W1 base x c ok hM => flatM23 hM W1 ok) p1 p2 H1.out (zs := ((Value.agg #[.int .i64 0, .string ⟨#[]⟩])).cells.toList) (by decide)
    rw [← p3] at this
    rw [p5, ← HO.out]
    exact this
  · rw [p5]
    obtain ⟨s1, s2, s3, s4⟩ := setCells_same g ((Value.agg #[.int .i64 0, .string ⟨#[]⟩])).cells.toList o31 w1
    exact ⟨s1.trans p4.os, s2.trans p4.tape, s3.trans p4.output, by rw [s4]; exact p4.size, fun k hk hne => (setCells_far _ _ k hne).trans (p4.block k hk (fun e => hne (by injection e)))⟩
def del61.T5 : Bool × List (List Nat × List Nat) := (true, [([], []), ([], []), ([0, 1], [0, 1]), ([], []), ([], []), ([3, 4], [3, 4]), ([2, 5], [2, 5]), ([6, 6, 0, 1, 2, 3, 4, 5, 6], [0, 3, 6])])
def del61.B5 : List Nat := [0, 0, 3, 0, 0, 24, 63, 127]
theorem del61.tab5 : rtab .any (opsOf Try.f61 5) = del61.T5 := by kernel_rfl
theorem del61.bits5 : waitsOk del61.T5.2 del61.B5 = true := by kernel_rfl
set_option maxHeartbeats 4000000 in
set_option maxRecDepth 100000 in
theorem del61_calls {w : World} {base g n cap : Nat} {xs : List ByteArray} {cs : List Value} (h : OwnB Kd.string 9 w base g n cap xs cs) {i : Nat} {j : Int} (hin : i < n) (hj : j = (i : Int) + 1) (hn : n ≤ 1000) :
    Calls Try.prog 61 #[.slice (some ⟨g, 0, none⟩) n cap, .int .i64 (i : Int), .int .i64 j] w fun e w' => e = .returned (.slice (some ⟨g, 0, none⟩) (n - 1) cap) ∧ Kd.string.R 9 w' base (fun _ => True) (.slice (some ⟨g, 0, none⟩) (n - 1) cap) (xs.eraseIdx i) ∧ Chg (fun k => k = g) w w' := by
  obtain ⟨inf, hinf, hinf2⟩ := Option.map_eq_some_iff.1 size9
  have hle := h.le
  obtain ⟨w1, hap, h1, hgr⟩ := del_append (P := Try.prog) (d := Kd.string) (t := 37) (ty := 37) Try.underlying37 hinf hinf2 (by decide) (fun W1 base x c hM => by cases hM; simp [Value.oneCell']) (show OwnB Kd.string 9 w.drew base g n cap xs cs from ⟨h.blk, h.le, h.max, h.low, h.len, h.reps.imp_ (fun _ _ hp => hp)⟩) hin
  obtain ⟨v13, f13⟩ := cut_all 37 9 Try.underlying37 hinf (some ⟨g, 0, none⟩) n cap (i : Int) j (n : Int) (by omega) (by omega) (by omega) (by omega)
  have f22 := cut_to (P := Try.prog) 37 9 .i64 Try.underlying37 hinf (some ⟨g, 0, none⟩) n cap (i : Int) (by omega) (by omega) hle
  have f25 := cut_from (P := Try.prog) 37 9 .i64 Try.underlying37 hinf 1 hinf2 (some ⟨g, 0, none⟩) n cap j (by omega) (by omega)
  have hjn : j.toNat = i + 1 := by omega
  rw [Int.toNat_natCast] at f22
  rw [hjn] at f25
  obtain ⟨V25, hV25⟩ : ∃ v, v = (Value.slice (if cap = i + 1 then some ⟨g, 0, none⟩ else (some (⟨g, 0, none⟩ : Addr)).map (·.add ((i + 1) * 1))) (n - (i + 1)) (cap - (i + 1))) := ⟨_, rfl⟩
  rw [← hV25] at f25
  have hap' : (Builtin.append_ #[37, 37] 37 #[.slice (some ⟨g, 0, none⟩) i cap, V25]).run Try.prog w.drew = .ok (.slice (some ⟨g, 0, none⟩) (n - 1) cap) w1 := by rw [hV25]; exact hap
  obtain ⟨m, hm⟩ : ∃ m, m = n - 1 := ⟨_, rfl⟩
  have hmn : n = m + 1 := by omega
  rw [← hm] at hap'
  rw [← hm]
  have f31 := cut_end 37 9 Try.underlying37 hinf 1 hinf2 g m cap (by omega)
  rw [← hmn] at f31
  obtain ⟨cur1, hh1, hcs1, htk1⟩ := h1
  have hclr := clear_wide (P := Try.prog) w1 37 9 0 (Value.string ⟨#[]⟩) 1 Try.underlying37 (fun _ => by kernel_rfl) (by decide) (by decide) (by decide) g (m * 1) (cap - m) cur1 hh1 (by rw [hcs1]; show m * 1 + 1 ≤ cap * 1; omega)
  obtain ⟨w2, hw2⟩ : ∃ w2, w2 = w1.setCells g (m * 1) ((Value.string ⟨#[]⟩)).cells.toList := ⟨_, rfl⟩
  rw [← hw2] at hclr
  obtain ⟨o31, ho31⟩ : ∃ o, m * 1 = o := ⟨_, rfl⟩
  rw [ho31] at hclr f31 hw2
  have HO := Aside0.mk ho31
  clear ho31
  have n1 : ¬ (i : Int) = j := by omega
  have HP := Aside0.mk (And.intro h (And.intro hin (And.intro hm (And.intro hgr hw2))))
  have H1 := Aside0.mk (show ∃ cur1 : Array Value, w1.heap[g]? = some (.cells cur1 9 (0, 0)) ∧ cur1.size = cap * 1 ∧ cur1.toList.take ((n - 1) * 1) = cs.take (i * 1) ++ cs.drop ((i + 1) * 1) from ⟨cur1, hh1, hcs1, htk1⟩)
  have HLT := Aside0.mk (And.intro hle (And.intro hn (And.intro hmn hj)))
  have HAP := Aside0.mk hap'
  have HCL := Aside0.mk hclr
  clear h hin hj hle hap hap' hgr hh1 hcs1 htk1 hclr hw2 hm hV25 hjn hinf2 hmn
  go_enter Try.func61, Try.ntmps61
  go_wp2
  refine start_ (n := 8) (S := fun w' => True) (ds := []) #[false, false, false, false, false, false, false, false] (by kernel_rfl) rfl rfl trivial (fun hHeld => ?_); refine with_tabW del61.tab5 del61.bits5 (fun HT_ HW_ => ?_)
  refine pure_ (i := 0) (N := some 20) (v := ?_) (a' := ?_) #[true, false, false, false, false, false, false, false] rfl rfl (any_of HT_.out (by kernel_rfl)) (fun _ _ _ h => h) (Or.inl ⟨by rfl, ?_⟩) ?_ ?_
  rotate_left
  · intro w'
    go_simp
    with_reducible rfl
  rotate_left
  · simp only [Act.put, List.setIfInBounds_toArray, List.set_cons_zero, List.set_cons_succ, i64_w, i32_w, xu32_w, xu8_w]
    rfl
  refine pure_ (i := 1) (N := some 21) (v := ?_) (a' := ?_) #[true, true, false, false, false, false, false, false] rfl rfl (any_of HT_.out (by kernel_rfl)) (fun _ _ _ h => h) (Or.inl ⟨by rfl, ?_⟩) ?_ ?_
  rotate_left
  · intro w'
    go_simp
    with_reducible rfl
  rotate_left
  · simp only [Act.put, List.setIfInBounds_toArray, List.set_cons_zero, List.set_cons_succ, i64_w, i32_w, xu32_w, xu8_w]
    rfl
  refine pure_ (i := 2) (N := some 22) (v := ?_) (a' := ?_) #[true, true, true, false, false, false, false, false] rfl rfl (any_of HT_.out (by kernel_rfl)) (fun _ _ _ h => h) (Or.inl ⟨by rfl, ?_⟩) ?_ ?_
  rotate_left
  · intro w'
    go_simp
    with_reducible rfl
  rotate_left
  · simp only [Act.put, List.setIfInBounds_toArray, List.set_cons_zero, List.set_cons_succ, i64_w, i32_w, xu32_w, xu8_w]
    rfl
  refine pure_ (i := 3) (N := some 23) (v := ?_) (a' := ?_) #[true, true, true, true, false, false, false, false] rfl rfl (any_of HT_.out (by kernel_rfl)) (fun _ _ _ h => h) (Or.inl ⟨by rfl, ?_⟩) ?_ ?_
  rotate_left
  · intro w'
    go_simp
    with_reducible rfl
  rotate_left
  · simp only [Act.put, List.setIfInBounds_toArray, List.set_cons_zero, List.set_cons_succ, i64_w, i32_w, xu32_w, xu8_w]
    rfl
  refine pure_ (i := 4) (N := some 24) (v := ?_) (a' := ?_) #[true, true, true, true, true, false, false, false] rfl rfl (any_of HT_.out (by kernel_rfl)) (fun _ _ _ h => h) (Or.inl ⟨by rfl, ?_⟩) ?_ ?_
  rotate_left
  · intro w'
    go_simp
    with_reducible rfl
  rotate_left
  · simp only [Act.put, List.setIfInBounds_toArray, List.set_cons_zero, List.set_cons_succ, i64_w, i32_w, xu32_w, xu8_w]
    rfl
  refine pure_ (i := 5) (N := some 25) (v := ?_) (a' := ?_) #[true, true, true, true, true, true, false, false] rfl rfl (any_of HT_.out (by kernel_rfl)) (fun _ _ _ h => h) (Or.inl ⟨by rfl, ?_⟩) ?_ ?_
  rotate_left
  · intro w'
    go_simp
    with_reducible rfl
  rotate_left
  · simp only [Act.put, List.setIfInBounds_toArray, List.set_cons_zero, List.set_cons_succ, i64_w, i32_w, xu32_w, xu8_w]
    rfl
  refine one_ (i := 6) (N := some 26) #[true, true, true, true, true, true, true, false] rfl rfl (one_of HT_.out (by kernel_rfl)) (by decide) (fun K hK => ?_)
  refine append_step (by rfl) (.tmp 22) (.tmp 25) 37 rfl _ _ rfl rfl (.slice (some ⟨g, 0, none⟩) m cap) w1 HAP.out ?_
  refine hK.out _ _ trivial (fun hHeld => ?_)
  clear hK K
  refine norm_ (a' := ?_) ?_ ?_
  rotate_left
  · show Act.put _ (some 26) _ = _
    simp only [Act.put, List.setIfInBounds_toArray, List.set_cons_zero, List.set_cons_succ, i64_w, i32_w, xu32_w, xu8_w]
    rfl
  refine pure_ (i := 7) (N := some 0) (v := ?_) (a' := ?_) #[true, true, true, true, true, true, true, true] rfl rfl (any_of HT_.out (by kernel_rfl)) (fun _ _ _ h => h) (Or.inl ⟨by rfl, ?_⟩) ?_ ?_
  rotate_left
  · intro w'
    go_simp
    with_reducible rfl
  rotate_left
  · simp only [Act.put, List.setIfInBounds_toArray, List.set_cons_zero, List.set_cons_succ, i64_w, i32_w, xu32_w, xu8_w]
    rfl
  refine done_ (done_of HT_.out (by kernel_rfl)) ?_
  clear hHeld HT_ HW_
  go_wp2_with (first
    | ((with_reducible refine gate_builtin (b := .clear) (xs := #[.tmp 31]) rfl ?_); refine clear_event rfl (.tmp 31) 37 rfl _ rfl (.tuple #[]) w2 HCL.out ?_))
  go_ret
  obtain ⟨p1, p2, p3, p4, p5⟩ := HP.out
  refine ⟨rfl, ?_, ?_⟩
  · have := del_own (d := Kd.string) (by decide) (fun W W1 base x c ok hM => hM) p1 p2 H1.out (zs := ((Value.string ⟨#[]⟩)).cells.toList) (by decide)
    rw [← p3] at this
    rw [p5, ← HO.out]
    exact this
  · rw [p5]
    obtain ⟨s1, s2, s3, s4⟩ := setCells_same g ((Value.string ⟨#[]⟩)).cells.toList o31 w1
    exact ⟨s1.trans p4.os, s2.trans p4.tape, s3.trans p4.output, by rw [s4]; exact p4.size, fun k hk hne => (setCells_far _ _ k hne).trans (p4.block k hk (fun e => hne (by injection e)))⟩
end Go.Proofs.Yticoaaddhhiglaa.T
/- The table of tenants by hand: change (mkT12.py). -/
namespace Go.Proofs.Yticoaaddhhiglaa.T
open Go.RowKit Go.Proofs.Yticoaaddhhiglaa.Q Go.Proofs.YticoaaddhhiglaaW.PrintWords Go.Proofs.YticoaaddhhiglaaW.PrintLast Go.Proofs.YticoaaddhhiglaaW.PrintMore
set_option linter.unusedVariables false
set_option linter.unusedSimpArgs false
/-- A change's cells. -/
def chg (c : S27) : List Value := [.int .i64 c.f0, .string c.f1, .int .i64 c.f2.f0, .string c.f2.f1, .int .i64 c.f3.f0, .int .i64 c.f3.f1, .int .i64 c.f3.f2, .int .i64 c.f3.f3, .int .i64 c.f4, .int .i64 c.f5, .string c.f6]
theorem cellsX {w : World} {X : Nat} {c : S27} (h : w.heap[X]? = some (.cells (chg c).toArray 27 (0, 0))) : w.cell? ⟨X, 0, none⟩ = some (.int .i64 c.f0) ∧ w.cell? ⟨X, 1, none⟩ = some (.string c.f1) ∧ w.cell? ⟨X, 2, none⟩ = some (.int .i64 c.f2.f0) ∧ w.cell? ⟨X, 3, none⟩ = some (.string c.f2.f1) ∧ w.cell? ⟨X, 4, none⟩ = some (.int .i64 c.f3.f0) ∧ w.cell? ⟨X, 5, none⟩ = some (.int .i64 c.f3.f1) ∧ w.cell? ⟨X, 6, none⟩ = some (.int .i64 c.f3.f2) ∧ w.cell? ⟨X, 7, none⟩ = some (.int .i64 c.f3.f3) ∧ w.cell? ⟨X, 8, none⟩ = some (.int .i64 c.f4) ∧ w.cell? ⟨X, 9, none⟩ = some (.int .i64 c.f5) ∧ w.cell? ⟨X, 10, none⟩ = some (.string c.f6) :=
  ⟨(blk_cell h 0).trans rfl, (blk_cell h 1).trans rfl, (blk_cell h 2).trans rfl, (blk_cell h 3).trans rfl, (blk_cell h 4).trans rfl, (blk_cell h 5).trans rfl, (blk_cell h 6).trans rfl, (blk_cell h 7).trans rfl, (blk_cell h 8).trans rfl, (blk_cell h 9).trans rfl, (blk_cell h 10).trans rfl⟩
/-- What a change makes of a tenant that is there. -/
def changeT (x : S39) (c : S27) : Int × S39 :=
  if c.f0 = 1 then (match keyAt x.f1 c.f2.f0 with
    | some j => (0, { x with f1 := x.f1.set j c.f2 })
    | none => if 4 ≤ x.f1.length then (5, x) else (0, { x with f1 := x.f1 ++ [c.f2] }))
  else if c.f0 = 2 then (match keyAt x.f1 c.f2.f0 with
    | some j => (0, { x with f1 := x.f1.eraseIdx j })
    | none => (181, x))
  else if c.f0 = 3 then (0, { x with f2 := c.f3 })
  else if c.f0 = 4 then (match wordAt x.f5 c.f6 with
    | some _ => (100, x)
    | none => if 8 ≤ x.f5.length then (5, x) else (0, { x with f5 := x.f5 ++ [c.f6] }))
  else (match wordAt x.f5 c.f6 with
    | some j => (0, { x with f5 := x.f5.eraseIdx j })
    | none => (4, x))
theorem keyAt_lt {l : List S23} {id : Int} {j : Nat} (h : keyAt l id = some j) : j < l.length := by
  unfold keyAt at h
  exact (List.findIdx?_eq_some_iff_getElem.1 h).1
theorem wordAt_lt {l : List ByteArray} {s : ByteArray} {j : Nat} (h : wordAt l s = some j) : j < l.length := by
  unfold wordAt at h
  exact (List.findIdx?_eq_some_iff_getElem.1 h).1
theorem windex2 {w : World} {A : Option Addr} {c q : Nat} {l : List ByteArray} (s : ByteArray) (hC : Kd.string.C w A q l) (hq : q = l.length) (hc : q ≤ c) (hl : q ≤ 1000000) : Calls Try.prog 59 #[.slice A q c, .string s] w fun e w' => e = .returned (.int .i64 (posI (wordAt l s))) ∧ Below w.heap.size w w' := by
  subst hq
  exact (windex_calls s hC hc hl).mono (fun e w' h => ⟨h.1, h.2.below⟩)
/-- A row that is not empty is one's own. -/
theorem R_ownB {α : Type} {d : Kd α} {e : Nat} {w : World} {base : Nat} {v : Value} {xs : List α} (h : d.R e w base (fun _ => True) v xs) (hn : 0 < xs.length) : ∃ g cap cs, v = .slice (some ⟨g, 0, none⟩) xs.length cap ∧ OwnB d e w base g xs.length cap xs cs := by
  obtain ⟨hok, inner, hown, hreps⟩ := h
  rcases hown.2 with ⟨_, h0⟩ | ⟨g', cap', cur, hv, hb, hh, hnc, hcm, hcs, htake⟩
  · omega
  · subst hv
    obtain ⟨cs, hO⟩ := ownB_of (d := d) ⟨hok, inner, hown, hreps⟩ hn
    exact ⟨g', cap', cs, rfl, hO⟩
/-- Blocks that hold changes stay. -/
def Keep27 (w w' : World) : Prop := ∀ (k : Nat) (cs : Array Value), w.heap[k]? = some (.cells cs 27 (0, 0)) → w'.heap[k]? = some (.cells cs 27 (0, 0))
theorem keep_below {w w' : World} (h : Below w.heap.size w w') : Keep27 w w' := fun k cs hk => (h.block k (heap_lt hk)).trans hk
theorem keep_ne {w : World} {k B : Nat} {cs cs' : Array Value} (h : w.heap[k]? = some (.cells cs 27 (0, 0))) (hB : w.heap[B]? = some (.cells cs' 39 (0, 0))) : k ≠ B := fun e => by
  rw [e, hB] at h
  injection h with h
  injection h with _ h
  exact absurd h (by decide)
theorem keep_set {w w1 : World} {B : Nat} {cs' : Array Value} (h : Keep27 w w1) (hB : w1.heap[B]? = some (.cells cs' 39 (0, 0))) (j : Nat) (u : Value) : Keep27 w (w1.setCell ⟨B, j, none⟩ u) := fun k cs hk => (Below.heap_setCell w1 ⟨B, j, none⟩ u k (keep_ne (h k cs hk) hB)).trans (h k cs hk)
/-- A tenant in a block, and a change in another one. -/
structure ChW (w0 : World) (B X base : Nat) (x : S39) (v1 v8 : Value) (c : S27) (w : World) : Prop where
  blkB : w.heap[B]? = some (.cells (ten x v1 v8).toArray 39 (0, 0))
  blkX : w.heap[X]? = some (.cells (chg c).toArray 27 (0, 0))
  r1 : k23.R 23 w base (fun _ => True) v1 x.f1
  r8 : Kd.string.R 9 w base (fun _ => True) v8 x.f5
  below : Below base w0 w
  hB : base ≤ B
  keep : Keep27 w0 w
theorem ChW.base_le {w0 : World} {B X base : Nat} {x : S39} {v1 v8 : Value} {c : S27} {w : World} (h : ChW w0 B X base x v1 v8 c w) : base ≤ w.heap.size := by have := h.hB; have := heap_lt h.blkB; omega
theorem ChW.then_ {w0 : World} {B X base : Nat} {x : S39} {v1 v8 : Value} {c : S27} {w w1 : World} (h : ChW w0 B X base x v1 v8 c w) (hb : Below w.heap.size w w1) : ChW w0 B X base x v1 v8 c w1 :=
  ⟨(hb.block B (heap_lt h.blkB)).trans h.blkB, (hb.block X (heap_lt h.blkX)).trans h.blkX, Kd.R_below h.r1 hb, Kd.R_below h.r8 hb, h.below.trans (hb.mono h.base_le), h.hB, fun k cs hk => keep_below hb k cs (h.keep k cs hk)⟩
/-- Where a changed tenant lies. -/
def ChP (w0 : World) (B base : Nat) (x : S39) (w : World) : Prop := ∃ v1 v8, w.heap[B]? = some (.cells (ten x v1 v8).toArray 39 (0, 0)) ∧ k23.R 23 w base (fun _ => True) v1 x.f1 ∧ Kd.string.R 9 w base (fun _ => True) v8 x.f5 ∧ Below base w0 w ∧ Keep27 w0 w
theorem ChW.done {w0 : World} {B X base : Nat} {x : S39} {v1 v8 : Value} {c : S27} {w : World} (h : ChW w0 B X base x v1 v8 c w) : ChP w0 B base x w := ⟨v1, v8, h.blkB, h.r1, h.r8, h.below, h.keep⟩
theorem own_type {α : Type} {d : Kd α} {e base : Nat} {w : World} {v : Value} {xs : List α} (h : d.R e w base (fun _ => True) v xs) {k t : Nat} {cs : Array Value} (hb : w.heap[k]? = some (.cells cs t (0, 0))) (ht : e ≠ t) : some k ≠ v.ownBlock := fun e' => by
  obtain ⟨_, inner, hown, _⟩ := h
  obtain ⟨cs', hcs⟩ := own_typed hown k e'.symm
  rw [hcs] at hb
  injection hb with hb
  injection hb with _ hb
  exact ht hb
theorem setc_below {base : Nat} {w0 w : World} (h : Below base w0 w) {B : Nat} (hB : base ≤ B) (j : Nat) (u : Value) : Below base w0 (w.setCell ⟨B, j, none⟩ u) := ⟨((Chg.refl (fun k => k = B) w).set ⟨B, j, none⟩ u rfl).os.trans h.os, ((Chg.refl (fun k => k = B) w).set ⟨B, j, none⟩ u rfl).tape.trans h.tape, ((Chg.refl (fun k => k = B) w).set ⟨B, j, none⟩ u rfl).output.trans h.output, Nat.le_trans h.size ((Chg.refl (fun k => k = B) w).set ⟨B, j, none⟩ u rfl).size, fun k hk => (Below.heap_setCell w ⟨B, j, none⟩ u k (by show k ≠ B; omega)).trans (h.block k hk)⟩
/-- The keys' row was written. -/
theorem ChW.keys {w0 : World} {B X base : Nat} {x : S39} {v1 v8 : Value} {c : S27} {w w1 : World} (h : ChW w0 B X base x v1 v8 c w) (hg : ∀ k, k < w.heap.size → some k ≠ v1.ownBlock → w1.heap[k]? = w.heap[k]?) (hb : Below base w0 w1) {v1' : Value} {l : List S23} (hr : k23.R 23 w1 base (fun _ => True) v1' l) :
    (w1.heap[B]? = some (.cells (ten x v1 v8).toArray 39 (0, 0))) ∧ (w1.heap[X]? = some (.cells (chg c).toArray 27 (0, 0))) ∧ ChP w0 B base { x with f1 := l } (w1.setCell ⟨B, 1, none⟩ v1') := by
  have hB1 := (hg B (heap_lt h.blkB) (own_type h.r1 h.blkB (by decide))).trans h.blkB
  have r8 : Kd.string.R 9 w1 base (fun _ => True) v8 x.f5 := Kd.R_drop (Kd.R_step (Kd.R_apartR h.r8 h.r1 (by decide)) (fun k hk hlt => hg k hlt (fun e => hk.2 e)))
  exact ⟨hB1, (hg X (heap_lt h.blkX) (own_type h.r1 h.blkX (by decide))).trans h.blkX, v1', v8, blk_put hB1 1 v1' rfl, Kd.R_set hr hB1 (by decide) 1 v1', Kd.R_set r8 hB1 (by decide) 1 v1', setc_below hb h.hB 1 v1', keep_set (fun k cs hk => (hg k (heap_lt (h.keep k cs hk)) (own_type h.r1 (h.keep k cs hk) (by decide))).trans (h.keep k cs hk)) hB1 1 v1'⟩
theorem ChW.readers {w0 : World} {B X base : Nat} {x : S39} {v1 v8 : Value} {c : S27} {w w1 : World} (h : ChW w0 B X base x v1 v8 c w) (hg : ∀ k, k < w.heap.size → some k ≠ v8.ownBlock → w1.heap[k]? = w.heap[k]?) (hb : Below base w0 w1) {v8' : Value} {l : List ByteArray} (hr : Kd.string.R 9 w1 base (fun _ => True) v8' l) :
    (w1.heap[B]? = some (.cells (ten x v1 v8).toArray 39 (0, 0))) ∧ (w1.heap[X]? = some (.cells (chg c).toArray 27 (0, 0))) ∧ ChP w0 B base { x with f5 := l } (w1.setCell ⟨B, 8, none⟩ v8') := by
  have hB1 := (hg B (heap_lt h.blkB) (own_type h.r8 h.blkB (by decide))).trans h.blkB
  have r1 : k23.R 23 w1 base (fun _ => True) v1 x.f1 := Kd.R_drop (Kd.R_step (Kd.R_apartR h.r1 h.r8 (by decide)) (fun k hk hlt => hg k hlt (fun e => hk.2 e)))
  exact ⟨hB1, (hg X (heap_lt h.blkX) (own_type h.r8 h.blkX (by decide))).trans h.blkX, v1, v8', blk_put hB1 8 v8' rfl, Kd.R_set r1 hB1 (by decide) 8 v8', Kd.R_set hr hB1 (by decide) 8 v8', setc_below hb h.hB 8 v8', keep_set (fun k cs hk => (hg k (heap_lt (h.keep k cs hk)) (own_type h.r8 (h.keep k cs hk) (by decide))).trans (h.keep k cs hk)) hB1 8 v8'⟩
theorem store_step {ops : Array Oper} {o : Oper} {a : Act} {Q : Exit → Act → World → Prop} {Kc : Act → World → Prop} {w : World} (hw : Region.wanted o (yielded ops a.tmps) = true) (hN : o.dst = none) (ty : TypeId) (x y : Operand) (ho : o.op = .store ty x y)
    (b o' : Nat) (cells : Array Value) (hx : a.eval x = .pointer (some ⟨b, o', none⟩)) (hy : a.eval y = .agg cells) (ht : w.there b o' cells.size) (hi : (Try.prog.info? ty).map (·.size) = some cells.size) (h1 : cells.all (·.oneCell') = true)
    (h : Kc a (w.setCells b o' cells.toList)) : if Region.wanted o (yielded ops a.tmps) = true then Oper.wp Try.prog o a w Kc Q else Kc (a.put none undef) w := by
  rw [if_pos hw]
  refine wp_store_mid ty x y ho b o' cells hx hy ht hi h1 ?_
  rw [hN]
  exact h
theorem ChW.keys0 {w0 : World} {B X base : Nat} {x : S39} {v1 v8 : Value} {c : S27} {w w1 : World} (h : ChW w0 B X base x v1 v8 c w) (hg : ∀ k, k < w.heap.size → some k ≠ v1.ownBlock → w1.heap[k]? = w.heap[k]?) (hb : Below base w0 w1) {l : List S23} (hr : k23.R 23 w1 base (fun _ => True) v1 l) : ChP w0 B base { x with f1 := l } w1 :=
  ⟨v1, v8, (hg B (heap_lt h.blkB) (own_type h.r1 h.blkB (by decide))).trans h.blkB, hr, Kd.R_drop (Kd.R_step (Kd.R_apartR h.r8 h.r1 (by decide)) (fun k hk hlt => hg k hlt (fun e => hk.2 e))), hb, fun k cs hk => (hg k (heap_lt (h.keep k cs hk)) (own_type h.r1 (h.keep k cs hk) (by decide))).trans (h.keep k cs hk)⟩
theorem cellsK {w0 : World} {B X base : Nat} {x : S39} {v1 v8 : Value} {c : S27} {w : World} (h : ChW w0 B X base x v1 v8 c w) : w.cell? ⟨B, 1, none⟩ = some v1 ∧ w.cell? ⟨X, 2, none⟩ = some (.int .i64 c.f2.f0) ∧ w.cell? ⟨X, 3, none⟩ = some (.string c.f2.f1) :=
  ⟨(cells9 h.blkB).1, (cellsX h.blkX).2.2.1, (cellsX h.blkX).2.2.2.1⟩
theorem cellsK8 {w0 : World} {B X base : Nat} {x : S39} {v1 v8 : Value} {c : S27} {w : World} (h : ChW w0 B X base x v1 v8 c w) : w.cell? ⟨B, 8, none⟩ = some v8 ∧ w.cell? ⟨X, 10, none⟩ = some (.string c.f6) :=
  ⟨(cells9 h.blkB).2.1, (cellsX h.blkX).2.2.2.2.2.2.2.2.2.2⟩
theorem rangeX {w : World} {X : Nat} {c : S27} (h : w.heap[X]? = some (.cells (chg c).toArray 27 (0, 0))) : w.rangeAt X 4 [.int .i64 c.f3.f0, .int .i64 c.f3.f1, .int .i64 c.f3.f2, .int .i64 c.f3.f3] := fun j v hv => by
  obtain ⟨x0, x1, x2, x3, x4, x5, x6, x7, x8, x9, x10⟩ := cellsX h
  rcases j with _ | _ | _ | _ | j
  · injection hv with hv; subst hv; exact x4
  · injection hv with hv; subst hv; exact x5
  · injection hv with hv; subst hv; exact x6
  · injection hv with hv; subst hv; exact x7
  · cases hv
theorem there_B {w : World} {B : Nat} {x : S39} {v1 v8 : Value} (h : w.heap[B]? = some (.cells (ten x v1 v8).toArray 39 (0, 0))) : w.there B 2 4 := fun j hj => by
  refine ⟨?_, blk_frozen h _⟩
  rw [blk_cell h]
  have : 2 + j < (ten x v1 v8).toArray.size := by simp [ten]; omega
  exact Array.getElem?_eq_getElem this ▸ (by simp)
theorem limits_done {w0 : World} {B X base : Nat} {x : S39} {v1 v8 : Value} {c : S27} {w : World} (h : ChW w0 B X base x v1 v8 c w) (l0 l1 l2 l3 : Int) : ChP w0 B base { x with f2 := ⟨l0, l1, l2, l3⟩ } (w.setCells B 2 (#[.int .i64 l0, .int .i64 l1, .int .i64 l2, .int .i64 l3] : Array Value).toList) := by
  have hfar : ∀ k, k ≠ B → (w.setCells B 2 (#[.int .i64 l0, .int .i64 l1, .int .i64 l2, .int .i64 l3] : Array Value).toList).heap[k]? = w.heap[k]? := fun k hk => setCells_far _ _ k hk
  obtain ⟨s1, s2, s3, s4⟩ := setCells_same B (#[.int .i64 l0, .int .i64 l1, .int .i64 l2, .int .i64 l3] : Array Value).toList 2 w
  refine ⟨v1, v8, ?_, Kd.R_drop (Kd.R_step (Kd.R_types h.r1 h.blkB (by decide)) (fun k hk _ => hfar k hk.2)), Kd.R_drop (Kd.R_step (Kd.R_types h.r8 h.blkB (by decide)) (fun k hk _ => hfar k hk.2)), ⟨s1.trans h.below.os, s2.trans h.below.tape, s3.trans h.below.output, by rw [s4]; exact h.below.size, fun k hk => (hfar k (by have := h.hB; omega)).trans (h.below.block k hk)⟩, fun k cs hk => (hfar k (keep_ne (h.keep k cs hk) h.blkB)).trans (h.keep k cs hk)⟩
  exact blk_put (blk_put (blk_put (blk_put h.blkB 2 _ rfl) 3 _ rfl) 4 _ rfl) 5 _ rfl
def chg.T2 : Bool × List (List Nat × List Nat) := (true, [([], []), ([0], [0]), ([1], [1]), ([2], [2]), ([], []), ([4], [4]), ([3, 5], [3, 5]), ([6, 6, 0, 1, 2, 3, 4, 5, 6], [6])])
def chg.B2 : List Nat := [0, 1, 3, 7, 0, 16, 63, 127]
theorem chg.tab2 : rtab .any (opsOf Try.f40 2) = chg.T2 := by kernel_rfl
theorem chg.bits2 : waitsOk chg.T2.2 chg.B2 = true := by kernel_rfl
def chg.T5 : Bool × List (List Nat × List Nat) := (true, [([], []), ([], []), ([1], [1]), ([2], [2]), ([3], [3]), ([], []), ([5], [5]), ([6], [6]), ([4, 7], [4, 7]), ([0, 0, 1, 2, 3, 4, 5, 6, 7, 8], [0]), ([9, 0, 1, 2, 3, 4, 5, 6, 7, 8], [9]), ([10, 8, 8, 0, 1, 2, 3, 4, 5, 6, 7, 8], [8, 10])])
def chg.B5 : List Nat := [0, 0, 2, 6, 14, 0, 32, 96, 254, 511, 1023, 2047]
theorem chg.tab5 : rtab .any (opsOf Try.f40 5) = chg.T5 := by kernel_rfl
theorem chg.bits5 : waitsOk chg.T5.2 chg.B5 = true := by kernel_rfl
def chg.T7 : Bool × List (List Nat × List Nat) := (true, [([], []), ([0], [0]), ([1], [1]), ([2], [2]), ([], []), ([], []), ([5], [5]), ([3, 4, 0, 1, 2, 3, 4, 5, 6], [3, 4]), ([7, 6, 0, 1, 2, 3, 4, 5, 6], [6, 7])])
def chg.B7 : List Nat := [0, 1, 3, 7, 0, 0, 32, 127, 255]
theorem chg.tab7 : rtab .any (opsOf Try.f40 7) = chg.T7 := by kernel_rfl
theorem chg.bits7 : waitsOk chg.T7.2 chg.B7 = true := by kernel_rfl
def chg.T21 : Bool × List (List Nat × List Nat) := (true, [([], []), ([], []), ([1], [1]), ([2], [2]), ([3], [3]), ([], []), ([5], [5]), ([6], [6]), ([4, 7], [4, 7]), ([0, 0, 1, 2, 3, 4, 5, 6, 7, 8], [0]), ([9, 0, 1, 2, 3, 4, 5, 6, 7, 8], [9]), ([10, 8, 8, 0, 1, 2, 3, 4, 5, 6, 7, 8], [8, 10])])
def chg.B21 : List Nat := [0, 0, 2, 6, 14, 0, 32, 96, 254, 511, 1023, 2047]
theorem chg.tab21 : rtab .any (opsOf Try.f40 21) = chg.T21 := by kernel_rfl
theorem chg.bits21 : waitsOk chg.T21.2 chg.B21 = true := by kernel_rfl
set_option maxHeartbeats 4000000 in
set_option maxRecDepth 100000 in
theorem change_calls {w : World} {B base : Nat} {x : S39} {v1 v8 : Value} (hB : w.heap[B]? = some (.cells (ten x v1 v8).toArray 39 (0, 0))) (hBB : base ≤ B) (h1 : k23.R 23 w base (fun _ => True) v1 x.f1) (h8 : Kd.string.R 9 w base (fun _ => True) v8 x.f5) (hf : Fine x) (c : S27) (hc : 1 ≤ c.f0 ∧ c.f0 ≤ 5) :
    Calls Try.prog 40 #[.pointer (some ⟨B, 0, none⟩), .agg (chg c).toArray] w fun e w' => e = .returned (.int .i64 (changeT x c).1) ∧ ChP w B base (changeT x c).2 w' := by
  obtain ⟨d, tn, ⟨ki, ks⟩, ⟨l0, l1, l2, l3⟩, qu, ri, rd⟩ := c
  obtain ⟨A1, c1, hv1⟩ := Kd.R_slice h1
  obtain ⟨A8, c8, hv8⟩ := Kd.R_slice h8
  obtain ⟨n, hn⟩ : ∃ n : Nat, n = x.f1.length := ⟨_, rfl⟩
  obtain ⟨q, hq⟩ : ∃ q : Nat, q = x.f5.length := ⟨_, rfl⟩
  rw [← hn] at hv1
  rw [← hq] at hv8
  subst hv1; subst hv8
  obtain ⟨kp, hkp⟩ : ∃ kp : Int, kp = posI (keyAt x.f1 ki) := ⟨_, rfl⟩
  obtain ⟨rp, hrp⟩ : ∃ rp : Int, rp = posI (wordAt x.f5 rd) := ⟨_, rfl⟩
  have HK := Aside0.mk hkp
  have HR := Aside0.mk hrp
  have HN := Aside0.mk (And.intro hn hq)
  have HF := Aside0.mk hf
  have HW0 := Aside0.mk (And.intro hB (And.intro hBB (And.intro h1 h8)))
  have hd : 1 ≤ d ∧ d ≤ 5 := hc
  have HD := Aside0.mk hd
  have HBS := Aside0.mk (show base ≤ w.heap.size by have := heap_lt hB; omega)
  clear hkp hrp hn hq hf hB hBB h1 h8 hc hd
  unfold chg
  go_enter Try.func40, Try.ntmps40
  go_wp2_with (first
    | ((with_reducible refine gate_dst (N := 3) rfl ?_); refine box_event ?hg (N := 3) ?hd (cs := (chg ⟨d, tn, ⟨ki, ks⟩, ⟨l0, l1, l2, l3⟩, qu, ri, rd⟩).toArray) (t := 27) ?hr ?_; (case hd => rfl); (case hg => rfl); (case hr => first | (go_simp; done) | (go_simp; rfl)); intro X hX w1 hx1 hb1; have H1 := Aside0.mk (show ChW w B X base x (.slice A1 n c1) (.slice A8 q c8) ⟨d, tn, ⟨ki, ks⟩, ⟨l0, l1, l2, l3⟩, qu, ri, rd⟩ w1 from ⟨(hb1.block B (heap_lt HW0.out.1)).trans HW0.out.1, hx1, Kd.R_below HW0.out.2.2.1 hb1, Kd.R_below HW0.out.2.2.2 hb1, hb1.mono (by have := HW0.out.2.1; have := heap_lt HW0.out.1; omega), HW0.out.2.1, keep_below hb1⟩); clear hX hx1 hb1; obtain ⟨z1, z8, f1, f8⟩ := cells9 H1.out.blkB)
    | (go_at_call 57; (with_reducible refine (indexf_calls (l := x.f1) (id := ki) (by have := (Kd.R_reads' H1.out.r1).2.2; rw [← HN.out.1] at this; exact this) HN.out.1 (by have := HF.out.keys; have := HN.out.1; omega) (cellsX H1.out.blkX).2.2.1).mono ?_); rintro e w2 ⟨rfl, hb2⟩; rw [← HK.out]; have H2 := Aside0.mk (H1.out.then_ hb2); clear hb2 z1 z8 f1 f8; obtain ⟨z1, z8, f1, f8⟩ := cells9 H2.out.blkB; obtain ⟨x0, x1, x2, x3, x4, x5, x6, x7, x8, x9, x10⟩ := cellsX H2.out.blkX))
  try dsimp only at x0 x1 x2 x3 x4 x5 x6 x7 x8 x9 x10
  refine start_ (n := 8) (S := fun w' => w'.cell? ⟨B, 8, none⟩ = some (.slice A8 q c8) ∧ w'.cell? ⟨X, 10, none⟩ = some (.string rd)) (ds := []) #[false, false, false, false, false, false, false, false] (by kernel_rfl) rfl rfl ⟨z8, x10⟩ (fun hHeld => ?_); refine with_tabW chg.tab2 chg.bits2 (fun HT_ HW_ => ?_)
  refine pure_ (i := 0) (N := some 13) (v := ?_) (a' := ?_) #[true, false, false, false, false, false, false, false] rfl rfl (any_of HT_.out (by kernel_rfl)) (fun _ _ _ h => h) (Or.inl ⟨by rfl, ?_⟩) ?_ ?_
  rotate_left
  · intro w'
    go_simp
    with_reducible rfl
  rotate_left
  · simp only [Act.put, List.setIfInBounds_toArray, List.set_cons_zero, List.set_cons_succ, i64_w, i32_w, xu32_w, xu8_w]
    rfl
  refine pure_ (i := 1) (N := some 14) (v := ?_) (a' := ?_) #[true, true, false, false, false, false, false, false] rfl rfl (any_of HT_.out (by kernel_rfl)) (fun _ _ _ h => h) (Or.inl ⟨by rfl, ?_⟩) ?_ ?_
  rotate_left
  · intro w'
    go_simp
    with_reducible rfl
  rotate_left
  · simp only [Act.put, List.setIfInBounds_toArray, List.set_cons_zero, List.set_cons_succ, i64_w, i32_w, xu32_w, xu8_w]
    rfl
  refine pure_ (i := 2) (N := some 15) (v := ?_) (a' := ?_) #[true, true, true, false, false, false, false, false] rfl rfl (any_of HT_.out (by kernel_rfl)) (fun _ _ _ h => h) (Or.inl ⟨by rfl, ?_⟩) ?_ ?_
  rotate_left
  · intro w'
    go_simp
    with_reducible rfl
  rotate_left
  · simp only [Act.put, List.setIfInBounds_toArray, List.set_cons_zero, List.set_cons_succ, i64_w, i32_w, xu32_w, xu8_w]
    rfl
  refine pure_ (i := 4) (N := some 17) (v := ?_) (a' := ?_) #[true, true, true, false, true, false, false, false] rfl rfl (any_of HT_.out (by kernel_rfl)) (fun _ _ _ h => h) (Or.inl ⟨by rfl, ?_⟩) ?_ ?_
  rotate_left
  · intro w'
    go_simp
    with_reducible rfl
  rotate_left
  · simp only [Act.put, List.setIfInBounds_toArray, List.set_cons_zero, List.set_cons_succ, i64_w, i32_w, xu32_w, xu8_w]
    rfl
  refine take_ (i := 3) (N := some 16) (v := ?_) (a' := ?_) #[true, true, true, true, true, false, false, false] rfl rfl (take_ofW HT_.out HW_.out (by kernel_rfl)) (fun _ _ _ h => h) (Or.inl ⟨by rfl, ?_⟩) hHeld ?_ ?_
  rotate_left
  · rintro w' ⟨s0, s1⟩
    go_simp
    with_reducible rfl
  rotate_left
  · simp only [Act.put, List.setIfInBounds_toArray, List.set_cons_zero, List.set_cons_succ, i64_w, i32_w, xu32_w, xu8_w]
    rfl
  refine take_ (i := 5) (N := some 18) (v := ?_) (a' := ?_) #[true, true, true, true, true, true, false, false] rfl rfl (take_ofW HT_.out HW_.out (by kernel_rfl)) (fun _ _ _ h => h) (Or.inl ⟨by rfl, ?_⟩) hHeld ?_ ?_
  rotate_left
  · rintro w' ⟨s0, s1⟩
    go_simp
    with_reducible rfl
  rotate_left
  · simp only [Act.put, List.setIfInBounds_toArray, List.set_cons_zero, List.set_cons_succ, i64_w, i32_w, xu32_w, xu8_w]
    rfl
  refine one_ (i := 6) (N := some 19) #[true, true, true, true, true, true, true, false] rfl rfl (one_of HT_.out (by kernel_rfl)) (by decide) (fun K hK => ?_)
  refine goes_ Try.func59 (by kernel_rfl) rfl #[.slice A8 q c8, .string rd] (by rfl) rfl rfl (by (try simp only [List.map_toArray, List.map_cons, List.map_nil]); first | done | rfl) ?_
  with_reducible refine (windex2 (l := x.f5) rd (Kd.C_drew (by have := (Kd.R_reads' H2.out.r8).2.2; rw [← HN.out.2] at this; exact this)) HN.out.2 (Kd.R_reads' H2.out.r8).2.1 (by have := HF.out.readers; have := HN.out.2; omega)).mono ?_
  rintro e w3 ⟨rfl, hb3⟩
  rw [← HR.out]
  refine ⟨_, rfl, ?_⟩
  have H3 := Aside0.mk (H2.out.then_ (below_step (below_drew (Below.refl _ _)) hb3))
  clear hb3
  refine hK.out _ _ ⟨(cells9 H3.out.blkB).2.1, (cellsX H3.out.blkX).2.2.2.2.2.2.2.2.2.2⟩ (fun hHeld => ?_)
  clear hK K
  refine norm_ (a' := ?_) ?_ ?_
  rotate_left
  · show Act.put _ (some 19) _ = _
    simp only [Act.put, List.setIfInBounds_toArray, List.set_cons_zero, List.set_cons_succ, i64_w, i32_w, xu32_w, xu8_w]
    rfl
  refine pure_ (i := 7) (N := some 6) (v := ?_) (a' := ?_) #[true, true, true, true, true, true, true, true] rfl rfl (any_of HT_.out (by kernel_rfl)) (fun _ _ _ h => h) (Or.inl ⟨by rfl, ?_⟩) ?_ ?_
  rotate_left
  · intro w'
    go_simp
    with_reducible rfl
  rotate_left
  · simp only [Act.put, List.setIfInBounds_toArray, List.set_cons_zero, List.set_cons_succ, i64_w, i32_w, xu32_w, xu8_w]
    rfl
  refine done_ (done_of HT_.out (by kernel_rfl)) ?_
  clear hHeld HT_ HW_ z1 z8 f1 f8 x0 x1 x2 x3 x4 x5 x6 x7 x8 x9 x10
  obtain ⟨z1, z8, f1, f8⟩ := cells9 H3.out.blkB
  obtain ⟨x0, x1, x2, x3, x4, x5, x6, x7, x8, x9, x10⟩ := cellsX H3.out.blkX
  try dsimp only at x0 x1 x2 x3 x4 x5 x6 x7 x8 x9 x10
  have hd5 : d = 1 ∨ d = 2 ∨ d = 3 ∨ d = 4 ∨ d = 5 := by have := HD.out; omega
  rcases hd5 with rfl | rfl | rfl | rfl | rfl
  · -- a key
    cases hk : keyAt x.f1 ki with
    | none =>
      have e1 : kp = -1 := by rw [HK.out, hk]; rfl
      have HKA := Aside0.mk hk
      subst e1
      clear hk
      by_cases h4 : 4 ≤ n
      · have q1 : (n : Int) ≥ 4 := by omega
        have hT : changeT x ⟨1, tn, ⟨ki, ks⟩, ⟨l0, l1, l2, l3⟩, qu, ri, rd⟩ = (5, x) := by
          unfold changeT
          simp only [HKA.out, if_true]
          rw [if_pos (by rw [← HN.out.1]; exact h4)]
        have HTT := Aside0.mk hT
        clear hT h4
        go_wp2
        go_ret
        rw [HTT.out]
        exact ⟨rfl, H3.out.done⟩
      · have q1 : ¬ (n : Int) ≥ 4 := by omega
        have hT : changeT x ⟨1, tn, ⟨ki, ks⟩, ⟨l0, l1, l2, l3⟩, qu, ri, rd⟩ = (0, { x with f1 := x.f1 ++ [⟨ki, ks⟩] }) := by
          unfold changeT
          simp only [HKA.out, if_true]
          rw [if_neg (by rw [← HN.out.1]; exact h4)]
        have HTT := Aside0.mk hT
        clear hT h4
        go_wp2
        refine start_ (n := 12) (S := fun w' => w'.cell? ⟨B, 1, none⟩ = some (.slice A1 n c1) ∧ w'.cell? ⟨X, 2, none⟩ = some (.int .i64 ki) ∧ w'.cell? ⟨X, 3, none⟩ = some (.string ks)) (ds := [11]) #[false, false, false, false, false, false, false, false, false, false, false, false] (by kernel_rfl) rfl rfl ⟨z1, x2, x3⟩ (fun hHeld => ?_); refine with_tabW chg.tab5 chg.bits5 (fun HT_ HW_ => ?_)
        refine pure_ (i := 0) (N := some 24) (v := ?_) (a' := ?_) #[true, false, false, false, false, false, false, false, false, false, false, false] rfl rfl (any_of HT_.out (by kernel_rfl)) (fun _ _ _ h => h) (Or.inl ⟨by rfl, ?_⟩) ?_ ?_
        rotate_left
        · intro w'
          go_simp
          with_reducible rfl
        rotate_left
        · simp only [Act.put, List.setIfInBounds_toArray, List.set_cons_zero, List.set_cons_succ, i64_w, i32_w, xu32_w, xu8_w]
          rfl
        refine pure_ (i := 1) (N := some 25) (v := ?_) (a' := ?_) #[true, true, false, false, false, false, false, false, false, false, false, false] rfl rfl (any_of HT_.out (by kernel_rfl)) (fun _ _ _ h => h) (Or.inl ⟨by rfl, ?_⟩) ?_ ?_
        rotate_left
        · intro w'
          go_simp
          with_reducible rfl
        rotate_left
        · simp only [Act.put, List.setIfInBounds_toArray, List.set_cons_zero, List.set_cons_succ, i64_w, i32_w, xu32_w, xu8_w]
          rfl
        refine pure_ (i := 2) (N := some 26) (v := ?_) (a' := ?_) #[true, true, true, false, false, false, false, false, false, false, false, false] rfl rfl (any_of HT_.out (by kernel_rfl)) (fun _ _ _ h => h) (Or.inl ⟨by rfl, ?_⟩) ?_ ?_
        rotate_left
        · intro w'
          go_simp
          with_reducible rfl
        rotate_left
        · simp only [Act.put, List.setIfInBounds_toArray, List.set_cons_zero, List.set_cons_succ, i64_w, i32_w, xu32_w, xu8_w]
          rfl
        refine pure_ (i := 3) (N := some 27) (v := ?_) (a' := ?_) #[true, true, true, true, false, false, false, false, false, false, false, false] rfl rfl (any_of HT_.out (by kernel_rfl)) (fun _ _ _ h => h) (Or.inl ⟨by rfl, ?_⟩) ?_ ?_
        rotate_left
        · intro w'
          go_simp
          with_reducible rfl
        rotate_left
        · simp only [Act.put, List.setIfInBounds_toArray, List.set_cons_zero, List.set_cons_succ, i64_w, i32_w, xu32_w, xu8_w]
          rfl
        refine pure_ (i := 5) (N := some 29) (v := ?_) (a' := ?_) #[true, true, true, true, false, true, false, false, false, false, false, false] rfl rfl (any_of HT_.out (by kernel_rfl)) (fun _ _ _ h => h) (Or.inl ⟨by rfl, ?_⟩) ?_ ?_
        rotate_left
        · intro w'
          go_simp
          with_reducible rfl
        rotate_left
        · simp only [Act.put, List.setIfInBounds_toArray, List.set_cons_zero, List.set_cons_succ, i64_w, i32_w, xu32_w, xu8_w]
          rfl
        refine take_ (i := 4) (N := some 28) (v := ?_) (a' := ?_) #[true, true, true, true, true, true, false, false, false, false, false, false] rfl rfl (take_ofW HT_.out HW_.out (by kernel_rfl)) (fun _ _ _ h => h) (Or.inl ⟨by rfl, ?_⟩) hHeld ?_ ?_
        rotate_left
        · rintro w' ⟨s0, s1, s2⟩
          go_simp
          with_reducible rfl
        rotate_left
        · simp only [Act.put, List.setIfInBounds_toArray, List.set_cons_zero, List.set_cons_succ, i64_w, i32_w, xu32_w, xu8_w]
          rfl
        refine take_ (i := 6) (N := some 30) (v := ?_) (a' := ?_) #[true, true, true, true, true, true, true, false, false, false, false, false] rfl rfl (take_ofW HT_.out HW_.out (by kernel_rfl)) (fun _ _ _ h => h) (Or.inl ⟨by rfl, ?_⟩) hHeld ?_ ?_
        rotate_left
        · rintro w' ⟨s0, s1, s2⟩
          go_simp
          with_reducible rfl
        rotate_left
        · simp only [Act.put, List.setIfInBounds_toArray, List.set_cons_zero, List.set_cons_succ, i64_w, i32_w, xu32_w, xu8_w]
          rfl
        refine one_ (i := 7) (N := some 31) #[true, true, true, true, true, true, true, true, false, false, false, false] rfl rfl (one_of HT_.out (by kernel_rfl)) (by decide) (fun K hK => ?_)
        refine value_ (v := .slice (some ⟨w3.drew.heap.size, 0, none⟩) 1 1) (w1 := w3.drew.alloc (.cells #[.int .i64 ki, .string ks] 23)) (by rfl) rfl (by first | (go_simp; done) | (go_simp; rfl)) ?_
        refine hK.out _ _ (cellsK (H3.out.then_ (below_alloc (below_drew (Below.refl _ _)) _))) (fun hHeld => ?_)
        clear hK K
        refine norm_ (a' := ?_) ?_ ?_
        rotate_left
        · show Act.put _ (some 31) _ = _
          simp only [Act.put, List.setIfInBounds_toArray, List.set_cons_zero, List.set_cons_succ, i64_w, i32_w, xu32_w, xu8_w]
          rfl
        refine one_ (i := 8) (N := some 32) #[true, true, true, true, true, true, true, true, true, false, false, false] rfl rfl (one_of HT_.out (by kernel_rfl)) (by decide) (fun K hK => ?_)
        refine Kd.R_append_step k23 (w0 := w) base (by rfl) (.tmp 28) (.tmp 31) 36 23 (.agg #[.int .i64 0, .string ⟨#[]⟩]) 24 rfl Try.underlying36 info23 rfl (by decide) (by decide) (.slice A1 n c1) x.f1 (⟨ki, ks⟩ : S23) [.int .i64 ki, .string ks] (fun _ => True) (fun _ => False) rfl rfl ?aP ?aK ?aF ?aO ?aB ?aS ?aL ?_
        (case aP => exact k23_mkM _ _ _ _)
        (case aK => exact fun k hk => hk.elim)
        (case aF => exact fun k hk => trivial)
        (case aO => exact Kd.R_drew H3.out.r1)
        (case aB => exact (H3.out.then_ (below_drew (Below.refl _ _))).below)
        (case aS => exact (H3.out.then_ (below_drew (Below.refl _ _))).base_le)
        (case aL => have := HF.out.keys; omega)
        intro v6' w6 ho hb hg hat
        obtain ⟨A6, cc6, hv6⟩ := Kd.R_slice ho
        subst hv6
        obtain ⟨hB6, hX6, HP6⟩ := (H3.out.then_ (below_drew (Below.refl _ _))).keys (fun k hk hne => hg.block k hk hne) hb ho
        generalize (x.f1 ++ [(⟨ki, ks⟩ : S23)]).length = n6 at *
        have c6 : w6.cell? ⟨B, 1, none⟩ = some (.slice A1 n c1) := (blk_cell hB6 1).trans rfl
        have f6 := blk_frozen hB6 1
        have HP := Aside0.mk HP6
        obtain ⟨w7, hw7⟩ : ∃ w7, w7 = w6.setCell ⟨B, 1, none⟩ (.slice A6 n6 cc6) := ⟨_, rfl⟩
        rw [← hw7] at HP
        refine hK.out _ _ ⟨c6, (cellsX hX6).2.2.1, (cellsX hX6).2.2.2.1⟩ (fun hHeld => ?_)
        clear hK K ho hb hg hat hB6 hX6 HP6
        refine norm_ (a' := ?_) ?_ ?_
        rotate_left
        · show Act.put _ (some 32) _ = _
          simp only [Act.put, List.setIfInBounds_toArray, List.set_cons_zero, List.set_cons_succ, i64_w, i32_w, xu32_w, xu8_w]
          rfl
        refine pure_ (i := 9) (N := some 33) (v := ?_) (a' := ?_) #[true, true, true, true, true, true, true, true, true, true, false, false] rfl rfl (any_of HT_.out (by kernel_rfl)) (fun _ _ _ h => h) (Or.inl ⟨by rfl, ?_⟩) ?_ ?_
        rotate_left
        · intro w'
          go_simp
          with_reducible rfl
        rotate_left
        · simp only [Act.put, List.setIfInBounds_toArray, List.set_cons_zero, List.set_cons_succ, i64_w, i32_w, xu32_w, xu8_w]
          rfl
        refine pure_ (i := 10) (N := some 34) (v := ?_) (a' := ?_) #[true, true, true, true, true, true, true, true, true, true, true, false] rfl rfl (any_of HT_.out (by kernel_rfl)) (fun _ _ _ h => h) (Or.inl ⟨by rfl, ?_⟩) ?_ ?_
        rotate_left
        · intro w'
          go_simp
          with_reducible rfl
        rotate_left
        · simp only [Act.put, List.setIfInBounds_toArray, List.set_cons_zero, List.set_cons_succ, i64_w, i32_w, xu32_w, xu8_w]
          rfl
        refine last_ (i := 11) (N := none) #[true, true, true, true, true, true, true, true, true, true, true, true] rfl rfl (one_of HT_.out (by kernel_rfl)) (by decide) (fun K hK => ?_)
        refine skip_ (w1 := w7) (by rfl) rfl (by rw [hw7]; first | (go_simp; done) | (go_simp; rfl)) ?_
        refine hK.out _ _ ?_
        clear hK K c6 f6 hw7
        refine done_ (done_of HT_.out (by kernel_rfl)) ?_
        clear hHeld HT_ HW_
        go_wp2_with (fail)
        go_ret
        rw [HTT.out]
        exact ⟨rfl, HP.out⟩
    | some j =>
      have e1 : kp = (j : Int) := by rw [HK.out, hk]; rfl
      have hjl := keyAt_lt hk
      have hT : changeT x ⟨1, tn, ⟨ki, ks⟩, ⟨l0, l1, l2, l3⟩, qu, ri, rd⟩ = (0, { x with f1 := x.f1.set j ⟨ki, ks⟩ }) := by
        unfold changeT
        simp only [hk, if_true]
      have HTT := Aside0.mk hT
      obtain ⟨g, cap, cs, hv, hO⟩ := R_ownB H3.out.r1 (by omega)
      injection hv with ea en ec; clear en
      subst ea; subst ec; subst e1
      have q1 : (j : Int) ≥ 0 := by omega
      have j0 : (0 : Int) ≤ (j : Int) := by omega
      have j1 : (j : Int) < (n : Int) := by have := HN.out.1; omega
      obtain ⟨w7, hw7⟩ : ∃ w7, w3.drew.setCells g (j * 2) [.int .i64 ki, .string ks] = w7 := ⟨_, rfl⟩
      have hthere : w3.drew.there g (j * 2) 2 := by
        obtain ⟨cur, hh, hcs, _⟩ := hO.blk
        have hh' : w3.drew.heap[g]? = some (.cells cur 23 (0, 0)) := hh
        have hle := hO.le
        intro a ha
        refine ⟨?_, blk_frozen hh' _⟩
        rw [blk_cell hh']
        have : j * 2 + a < cur.size := by rw [hcs]; show j * 2 + a < c1 * 2; omega
        simp [this]
      obtain ⟨ad, hA, y0, y1⟩ := at_T23 (Kd.R_reads' (Kd.R_drew H3.out.r1)).2.2 (j : Int) j0 (by omega)
      injection hA with hA
      subst hA
      simp only [Int.toNat_natCast] at y0 y1
      have hR7 := Kd.R_seg (okp := fun _ => False) (Kd.R_drew H3.out.r1) (j : Int) j0 j1 (c := [.int .i64 (rd_T23 x.f1 (j : Int)).f0, .string (rd_T23 x.f1 (j : Int)).f1]) (seg := [.int .i64 ki, .string ks]) (j := 0) rfl (fun a u hu => by
        rcases a with _ | _ | a
        · injection hu with hu; subst hu; have h := y0; simp only [Addr.add_lit, Addr.add_mid, Nat.zero_add] at h; exact h
        · injection hu with hu; subst hu; have h := y1; simp only [Addr.add_lit, Addr.add_mid, Nat.zero_add] at h; exact h
        · cases hu) (by show 0 + 2 ≤ 2; decide) (x' := ⟨ki, ks⟩) (k23_mkM _ _ _ _) (fun _ h => h.elim)
      have hR7' : k23.R 23 w7 base (fun _ => True) (.slice (some ⟨g, 0, none⟩) n c1) (x.f1.set j ⟨ki, ks⟩) ∧ w3.drew.grownBy w7 (some g) := by
        rw [← hw7]
        exact hR7
      have HP := Aside0.mk (H3.out.keys0 (fun k hk hne => hR7'.2.block k hk (fun e => hne e)) (Chg.onto H3.out.below HBS.out (show Chg (fun k => k = g) w3 w7 from (Chg.of_below (fun k => k = g) (below_drew (Below.refl w3.heap.size w3))).trans (Chg.of_grown hR7'.2) (fun _ _ e => e) (fun k _ e => by injection e)) (fun k e => by rw [e]; exact hO.low)) hR7'.1)
      have HTH := Aside0.mk (And.intro hthere hw7)
      clear hk hjl hT hO hthere y0 y1 hR7 hR7' hw7
      go_wp2
      refine start_ (n := 9) (S := fun w' => w'.cell? ⟨B, 1, none⟩ = some (.slice (some ⟨g, 0, none⟩) n c1) ∧ w'.cell? ⟨X, 2, none⟩ = some (.int .i64 ki) ∧ w'.cell? ⟨X, 3, none⟩ = some (.string ks)) (ds := [8]) #[false, false, false, false, false, false, false, false, false] (by kernel_rfl) rfl rfl ⟨z1, x2, x3⟩ (fun hHeld => ?_); refine with_tabW chg.tab7 chg.bits7 (fun HT_ HW_ => ?_)
      refine pure_ (i := 0) (N := some 38) (v := ?_) (a' := ?_) #[true, false, false, false, false, false, false, false, false] rfl rfl (any_of HT_.out (by kernel_rfl)) (fun _ _ _ h => h) (Or.inl ⟨by rfl, ?_⟩) ?_ ?_
      rotate_left
      · intro w'
        go_simp
        with_reducible rfl
      rotate_left
      · simp only [Act.put, List.setIfInBounds_toArray, List.set_cons_zero, List.set_cons_succ, i64_w, i32_w, xu32_w, xu8_w]
        rfl
      refine pure_ (i := 1) (N := some 39) (v := ?_) (a' := ?_) #[true, true, false, false, false, false, false, false, false] rfl rfl (any_of HT_.out (by kernel_rfl)) (fun _ _ _ h => h) (Or.inl ⟨by rfl, ?_⟩) ?_ ?_
      rotate_left
      · intro w'
        go_simp
        with_reducible rfl
      rotate_left
      · simp only [Act.put, List.setIfInBounds_toArray, List.set_cons_zero, List.set_cons_succ, i64_w, i32_w, xu32_w, xu8_w]
        rfl
      refine pure_ (i := 2) (N := some 40) (v := ?_) (a' := ?_) #[true, true, true, false, false, false, false, false, false] rfl rfl (any_of HT_.out (by kernel_rfl)) (fun _ _ _ h => h) (Or.inl ⟨by rfl, ?_⟩) ?_ ?_
      rotate_left
      · intro w'
        go_simp
        with_reducible rfl
      rotate_left
      · simp only [Act.put, List.setIfInBounds_toArray, List.set_cons_zero, List.set_cons_succ, i64_w, i32_w, xu32_w, xu8_w]
        rfl
      refine pure_ (i := 4) (N := some 42) (v := ?_) (a' := ?_) #[true, true, true, false, true, false, false, false, false] rfl rfl (any_of HT_.out (by kernel_rfl)) (fun _ _ _ h => h) (Or.inl ⟨by rfl, ?_⟩) ?_ ?_
      rotate_left
      · intro w'
        go_simp
        with_reducible rfl
      rotate_left
      · simp only [Act.put, List.setIfInBounds_toArray, List.set_cons_zero, List.set_cons_succ, i64_w, i32_w, xu32_w, xu8_w]
        rfl
      refine pure_ (i := 5) (N := some 43) (v := ?_) (a' := ?_) #[true, true, true, false, true, true, false, false, false] rfl rfl (any_of HT_.out (by kernel_rfl)) (fun _ _ _ h => h) (Or.inl ⟨by rfl, ?_⟩) ?_ ?_
      rotate_left
      · intro w'
        go_simp
        with_reducible rfl
      rotate_left
      · simp only [Act.put, List.setIfInBounds_toArray, List.set_cons_zero, List.set_cons_succ, i64_w, i32_w, xu32_w, xu8_w]
        rfl
      refine take_ (i := 3) (N := some 41) (v := ?_) (a' := ?_) #[true, true, true, true, true, true, false, false, false] rfl rfl (take_ofW HT_.out HW_.out (by kernel_rfl)) (fun _ _ _ h => h) (Or.inl ⟨by rfl, ?_⟩) hHeld ?_ ?_
      rotate_left
      · rintro w' ⟨s0, s1, s2⟩
        go_simp
        with_reducible rfl
      rotate_left
      · simp only [Act.put, List.setIfInBounds_toArray, List.set_cons_zero, List.set_cons_succ, i64_w, i32_w, xu32_w, xu8_w]
        rfl
      refine take_ (i := 6) (N := some 44) (v := ?_) (a' := ?_) #[true, true, true, true, true, true, true, false, false] rfl rfl (take_ofW HT_.out HW_.out (by kernel_rfl)) (fun _ _ _ h => h) (Or.inl ⟨by rfl, ?_⟩) hHeld ?_ ?_
      rotate_left
      · rintro w' ⟨s0, s1, s2⟩
        go_simp
        with_reducible rfl
      rotate_left
      · simp only [Act.put, List.setIfInBounds_toArray, List.set_cons_zero, List.set_cons_succ, i64_w, i32_w, xu32_w, xu8_w]
        rfl
      refine pure_ (i := 7) (N := some 45) (v := ?_) (a' := ?_) #[true, true, true, true, true, true, true, true, false] rfl rfl (any_of HT_.out (by kernel_rfl)) (fun _ _ _ h => h) (Or.inl ⟨by rfl, ?_⟩) ?_ ?_
      rotate_left
      · intro w'
        go_simp
        with_reducible rfl
      rotate_left
      · simp only [Act.put, List.setIfInBounds_toArray, List.set_cons_zero, List.set_cons_succ, i64_w, i32_w, xu32_w, xu8_w]
        rfl
      refine last_ (i := 8) (N := none) #[true, true, true, true, true, true, true, true, true] rfl rfl (one_of HT_.out (by kernel_rfl)) (by decide) (fun K hK => ?_)
      refine store_step (by rfl) rfl 23 (.tmp 45) (.tmp 44) rfl g (j * 2) #[.int .i64 ki, .string ks] rfl rfl HTH.out.1 size23 (by simp [Value.oneCell']) ?_
      rw [show w3.drew.setCells g (j * 2) (#[.int .i64 ki, .string ks] : Array Value).toList = w7 from HTH.out.2]
      refine hK.out _ _ ?_
      clear hK K
      refine done_ (done_of HT_.out (by kernel_rfl)) ?_
      clear hHeld HT_ HW_
      go_wp2_with (fail)
      go_ret
      rw [HTT.out]
      exact ⟨rfl, HP.out⟩
  · -- a key that goes
    cases hk : keyAt x.f1 ki with
    | none =>
      have e1 : kp = -1 := by rw [HK.out, hk]; rfl
      have HTT := Aside0.mk (show changeT x ⟨2, tn, ⟨ki, ks⟩, ⟨l0, l1, l2, l3⟩, qu, ri, rd⟩ = (181, x) by simp [changeT, hk])
      subst e1
      clear hk
      go_wp2
      go_ret
      rw [HTT.out]
      exact ⟨rfl, H3.out.done⟩
    | some j =>
      have e1 : kp = (j : Int) := by rw [HK.out, hk]; rfl
      have hjl := keyAt_lt hk
      have HTT := Aside0.mk (show changeT x ⟨2, tn, ⟨ki, ks⟩, ⟨l0, l1, l2, l3⟩, qu, ri, rd⟩ = (0, { x with f1 := x.f1.eraseIdx j }) by simp [changeT, hk])
      obtain ⟨g, cap, cs, hv, hO⟩ := R_ownB H3.out.r1 (by omega)
      injection hv with ea en ec; clear en
      subst ea; subst ec; subst e1
      rw [← HN.out.1] at hO
      have q1 : ¬ (j : Int) < 0 := by omega
      have j1 : (j : Int) + 1 ≤ 9223372036854775807 := by have := HN.out.1; have := HF.out.keys; omega
      have HO := Aside0.mk (And.intro hO (show j < n by have := HN.out.1; omega))
      clear hk hjl hO
      go_wp2_with (first
        | (go_at_call 60; (with_reducible refine (del60_calls HO.out.1 HO.out.2 ?hj (by have := HN.out.1; have := HF.out.keys; omega)).mono ?_); (case hj => first | rfl | (unfold wrap64; omega) | omega); rintro e w4 ⟨rfl, hr4, hg4⟩; obtain ⟨hB4, hX4, hP4⟩ := H3.out.keys (fun k hk hne => hg4.block k hk (fun e => hne (by rw [e]; rfl))) (Chg.onto H3.out.below HBS.out hg4 (fun k e => by rw [e]; exact HO.out.1.low)) hr4; have HP4 := Aside0.mk hP4; clear z1 z8 f1 f8; obtain ⟨z1, z8, f1, f8⟩ := cells9 hB4; clear hB4 hX4 hP4 hr4 hg4))
      go_ret
      rw [HTT.out]
      exact ⟨rfl, HP4.out⟩
  · -- limits
    have HTT := Aside0.mk (show changeT x ⟨3, tn, ⟨ki, ks⟩, ⟨l0, l1, l2, l3⟩, qu, ri, rd⟩ = (0, { x with f2 := ⟨l0, l1, l2, l3⟩ }) by simp [changeT])
    go_wp2_with (first
      | ((with_reducible refine gate_ (.load 25 (.tmp 71)) rfl ?_); refine wpList_load_mid rfl 25 (.tmp 71) rfl X 4 rfl [.int .i64 l0, .int .i64 l1, .int .i64 l2, .int .i64 l3] _ (rangeX H3.out.blkX) Try.underlying25 rfl size25 ?_)
      | ((with_reducible refine gate_ (.store 25 (.tmp 74) (.tmp 72)) rfl ?_); refine wpList_store_mid rfl 25 (.tmp 74) (.tmp 72) rfl B 2 #[.int .i64 l0, .int .i64 l1, .int .i64 l2, .int .i64 l3] rfl rfl (there_B H3.out.blkB) size25 (by simp [Value.oneCell']) ?_; have HP4 := Aside0.mk (limits_done H3.out l0 l1 l2 l3); clear z1 z8 f1 f8; obtain ⟨w4, hw4⟩ : ∃ w4, w4 = w3.setCells B 2 (#[.int .i64 l0, .int .i64 l1, .int .i64 l2, .int .i64 l3] : Array Value).toList := ⟨_, rfl⟩; rw [← hw4]; have HW4 := Aside0.mk hw4; clear hw4))
    go_ret
    rw [HTT.out]
    refine ⟨rfl, ?_⟩
    rw [HW4.out]
    exact HP4.out
  · -- a reader
    cases hk : wordAt x.f5 rd with
    | some j =>
      have e1 : rp = (j : Int) := by rw [HR.out, hk]; rfl
      have HTT := Aside0.mk (show changeT x ⟨4, tn, ⟨ki, ks⟩, ⟨l0, l1, l2, l3⟩, qu, ri, rd⟩ = (100, x) by simp [changeT, hk])
      subst e1
      have q1 : (j : Int) ≥ 0 := by omega
      clear hk
      go_wp2
      go_ret
      rw [HTT.out]
      exact ⟨rfl, H3.out.done⟩
    | none =>
      have e1 : rp = -1 := by rw [HR.out, hk]; rfl
      have HKA := Aside0.mk hk
      subst e1
      clear hk
      by_cases h4 : 8 ≤ q
      · have q1 : (q : Int) ≥ 8 := by omega
        have HTT := Aside0.mk (show changeT x ⟨4, tn, ⟨ki, ks⟩, ⟨l0, l1, l2, l3⟩, qu, ri, rd⟩ = (5, x) by
          have := HN.out.2 ▸ h4
          simp [changeT, HKA.out, this])
        clear h4
        go_wp2
        go_ret
        rw [HTT.out]
        exact ⟨rfl, H3.out.done⟩
      · have q1 : ¬ (q : Int) ≥ 8 := by omega
        have HTT := Aside0.mk (show changeT x ⟨4, tn, ⟨ki, ks⟩, ⟨l0, l1, l2, l3⟩, qu, ri, rd⟩ = (0, { x with f5 := x.f5 ++ [rd] }) by
          have : ¬ 8 ≤ x.f5.length := HN.out.2 ▸ h4
          simp only [changeT, HKA.out, if_neg this]
          rfl)
        clear h4
        go_wp2
        refine start_ (n := 12) (S := fun w' => w'.cell? ⟨B, 8, none⟩ = some (.slice A8 q c8) ∧ w'.cell? ⟨X, 10, none⟩ = some (.string rd)) (ds := [11]) #[false, false, false, false, false, false, false, false, false, false, false, false] (by kernel_rfl) rfl rfl ⟨z8, x10⟩ (fun hHeld => ?_); refine with_tabW chg.tab21 chg.bits21 (fun HT_ HW_ => ?_)
        refine pure_ (i := 0) (N := some 87) (v := ?_) (a' := ?_) #[true, false, false, false, false, false, false, false, false, false, false, false] rfl rfl (any_of HT_.out (by kernel_rfl)) (fun _ _ _ h => h) (Or.inl ⟨by rfl, ?_⟩) ?_ ?_
        rotate_left
        · intro w'
          go_simp
          with_reducible rfl
        rotate_left
        · simp only [Act.put, List.setIfInBounds_toArray, List.set_cons_zero, List.set_cons_succ, i64_w, i32_w, xu32_w, xu8_w]
          rfl
        refine pure_ (i := 1) (N := some 88) (v := ?_) (a' := ?_) #[true, true, false, false, false, false, false, false, false, false, false, false] rfl rfl (any_of HT_.out (by kernel_rfl)) (fun _ _ _ h => h) (Or.inl ⟨by rfl, ?_⟩) ?_ ?_
        rotate_left
        · intro w'
          go_simp
          with_reducible rfl
        rotate_left
        · simp only [Act.put, List.setIfInBounds_toArray, List.set_cons_zero, List.set_cons_succ, i64_w, i32_w, xu32_w, xu8_w]
          rfl
        refine pure_ (i := 2) (N := some 89) (v := ?_) (a' := ?_) #[true, true, true, false, false, false, false, false, false, false, false, false] rfl rfl (any_of HT_.out (by kernel_rfl)) (fun _ _ _ h => h) (Or.inl ⟨by rfl, ?_⟩) ?_ ?_
        rotate_left
        · intro w'
          go_simp
          with_reducible rfl
        rotate_left
        · simp only [Act.put, List.setIfInBounds_toArray, List.set_cons_zero, List.set_cons_succ, i64_w, i32_w, xu32_w, xu8_w]
          rfl
        refine pure_ (i := 3) (N := some 90) (v := ?_) (a' := ?_) #[true, true, true, true, false, false, false, false, false, false, false, false] rfl rfl (any_of HT_.out (by kernel_rfl)) (fun _ _ _ h => h) (Or.inl ⟨by rfl, ?_⟩) ?_ ?_
        rotate_left
        · intro w'
          go_simp
          with_reducible rfl
        rotate_left
        · simp only [Act.put, List.setIfInBounds_toArray, List.set_cons_zero, List.set_cons_succ, i64_w, i32_w, xu32_w, xu8_w]
          rfl
        refine pure_ (i := 5) (N := some 92) (v := ?_) (a' := ?_) #[true, true, true, true, false, true, false, false, false, false, false, false] rfl rfl (any_of HT_.out (by kernel_rfl)) (fun _ _ _ h => h) (Or.inl ⟨by rfl, ?_⟩) ?_ ?_
        rotate_left
        · intro w'
          go_simp
          with_reducible rfl
        rotate_left
        · simp only [Act.put, List.setIfInBounds_toArray, List.set_cons_zero, List.set_cons_succ, i64_w, i32_w, xu32_w, xu8_w]
          rfl
        refine take_ (i := 4) (N := some 91) (v := ?_) (a' := ?_) #[true, true, true, true, true, true, false, false, false, false, false, false] rfl rfl (take_ofW HT_.out HW_.out (by kernel_rfl)) (fun _ _ _ h => h) (Or.inl ⟨by rfl, ?_⟩) hHeld ?_ ?_
        rotate_left
        · rintro w' ⟨s0, s1⟩
          go_simp
          with_reducible rfl
        rotate_left
        · simp only [Act.put, List.setIfInBounds_toArray, List.set_cons_zero, List.set_cons_succ, i64_w, i32_w, xu32_w, xu8_w]
          rfl
        refine take_ (i := 6) (N := some 93) (v := ?_) (a' := ?_) #[true, true, true, true, true, true, true, false, false, false, false, false] rfl rfl (take_ofW HT_.out HW_.out (by kernel_rfl)) (fun _ _ _ h => h) (Or.inl ⟨by rfl, ?_⟩) hHeld ?_ ?_
        rotate_left
        · rintro w' ⟨s0, s1⟩
          go_simp
          with_reducible rfl
        rotate_left
        · simp only [Act.put, List.setIfInBounds_toArray, List.set_cons_zero, List.set_cons_succ, i64_w, i32_w, xu32_w, xu8_w]
          rfl
        refine one_ (i := 7) (N := some 94) #[true, true, true, true, true, true, true, true, false, false, false, false] rfl rfl (one_of HT_.out (by kernel_rfl)) (by decide) (fun K hK => ?_)
        refine value_ (v := .slice (some ⟨w3.drew.heap.size, 0, none⟩) 1 1) (w1 := w3.drew.alloc (.cells #[.string rd] 9)) (by rfl) rfl (by first | (go_simp; done) | (go_simp; rfl)) ?_
        refine hK.out _ _ (cellsK8 (H3.out.then_ (below_alloc (below_drew (Below.refl _ _)) _))) (fun hHeld => ?_)
        clear hK K
        refine norm_ (a' := ?_) ?_ ?_
        rotate_left
        · show Act.put _ (some 94) _ = _
          simp only [Act.put, List.setIfInBounds_toArray, List.set_cons_zero, List.set_cons_succ, i64_w, i32_w, xu32_w, xu8_w]
          rfl
        refine one_ (i := 8) (N := some 95) #[true, true, true, true, true, true, true, true, true, false, false, false] rfl rfl (one_of HT_.out (by kernel_rfl)) (by decide) (fun K hK => ?_)
        refine Kd.R_append_step Kd.string (w0 := w) base (by rfl) (.tmp 91) (.tmp 94) 37 9 (.string ⟨#[]⟩) 16 rfl Try.underlying37 info9 rfl (by decide) (by decide) (.slice A8 q c8) x.f5 rd [.string rd] (fun _ => True) (fun _ => False) rfl rfl ?aP ?aK ?aF ?aO ?aB ?aS ?aL ?_
        (case aP => exact rfl)
        (case aK => exact fun k hk => hk.elim)
        (case aF => exact fun k hk => trivial)
        (case aO => exact Kd.R_drew H3.out.r8)
        (case aB => exact (H3.out.then_ (below_drew (Below.refl _ _))).below)
        (case aS => exact (H3.out.then_ (below_drew (Below.refl _ _))).base_le)
        (case aL => have := HF.out.readers; omega)
        intro v6' w6 ho hb hg hat
        obtain ⟨A6, cc6, hv6⟩ := Kd.R_slice ho
        subst hv6
        obtain ⟨hB6, hX6, HP6⟩ := (H3.out.then_ (below_drew (Below.refl _ _))).readers (fun k hk hne => hg.block k hk hne) hb ho
        generalize (x.f5 ++ [rd]).length = n6 at *
        have c6 : w6.cell? ⟨B, 8, none⟩ = some (.slice A8 q c8) := (blk_cell hB6 8).trans rfl
        have f6 := blk_frozen hB6 8
        have HP := Aside0.mk HP6
        obtain ⟨w7, hw7⟩ : ∃ w7, w7 = w6.setCell ⟨B, 8, none⟩ (.slice A6 n6 cc6) := ⟨_, rfl⟩
        rw [← hw7] at HP
        refine hK.out _ _ ⟨c6, (cellsX hX6).2.2.2.2.2.2.2.2.2.2⟩ (fun hHeld => ?_)
        clear hK K ho hb hg hat hB6 hX6 HP6
        refine norm_ (a' := ?_) ?_ ?_
        rotate_left
        · show Act.put _ (some 95) _ = _
          simp only [Act.put, List.setIfInBounds_toArray, List.set_cons_zero, List.set_cons_succ, i64_w, i32_w, xu32_w, xu8_w]
          rfl
        refine pure_ (i := 9) (N := some 96) (v := ?_) (a' := ?_) #[true, true, true, true, true, true, true, true, true, true, false, false] rfl rfl (any_of HT_.out (by kernel_rfl)) (fun _ _ _ h => h) (Or.inl ⟨by rfl, ?_⟩) ?_ ?_
        rotate_left
        · intro w'
          go_simp
          with_reducible rfl
        rotate_left
        · simp only [Act.put, List.setIfInBounds_toArray, List.set_cons_zero, List.set_cons_succ, i64_w, i32_w, xu32_w, xu8_w]
          rfl
        refine pure_ (i := 10) (N := some 97) (v := ?_) (a' := ?_) #[true, true, true, true, true, true, true, true, true, true, true, false] rfl rfl (any_of HT_.out (by kernel_rfl)) (fun _ _ _ h => h) (Or.inl ⟨by rfl, ?_⟩) ?_ ?_
        rotate_left
        · intro w'
          go_simp
          with_reducible rfl
        rotate_left
        · simp only [Act.put, List.setIfInBounds_toArray, List.set_cons_zero, List.set_cons_succ, i64_w, i32_w, xu32_w, xu8_w]
          rfl
        refine last_ (i := 11) (N := none) #[true, true, true, true, true, true, true, true, true, true, true, true] rfl rfl (one_of HT_.out (by kernel_rfl)) (by decide) (fun K hK => ?_)
        refine skip_ (w1 := w7) (by rfl) rfl (by rw [hw7]; first | (go_simp; done) | (go_simp; rfl)) ?_
        refine hK.out _ _ ?_
        clear hK K c6 f6 hw7
        refine done_ (done_of HT_.out (by kernel_rfl)) ?_
        clear hHeld HT_ HW_
        go_wp2_with (fail)
        go_ret
        rw [HTT.out]
        exact ⟨rfl, HP.out⟩
  · -- a reader that goes
    cases hk : wordAt x.f5 rd with
    | none =>
      have e1 : rp = -1 := by rw [HR.out, hk]; rfl
      have HTT := Aside0.mk (show changeT x ⟨5, tn, ⟨ki, ks⟩, ⟨l0, l1, l2, l3⟩, qu, ri, rd⟩ = (4, x) by simp [changeT, hk])
      subst e1
      clear hk
      go_wp2
      go_ret
      rw [HTT.out]
      exact ⟨rfl, H3.out.done⟩
    | some j =>
      have e1 : rp = (j : Int) := by rw [HR.out, hk]; rfl
      have hjl := wordAt_lt hk
      have HTT := Aside0.mk (show changeT x ⟨5, tn, ⟨ki, ks⟩, ⟨l0, l1, l2, l3⟩, qu, ri, rd⟩ = (0, { x with f5 := x.f5.eraseIdx j }) by simp [changeT, hk])
      obtain ⟨g, cap, cs, hv, hO⟩ := R_ownB H3.out.r8 (by omega)
      injection hv with ea en ec; clear en
      subst ea; subst ec; subst e1
      rw [← HN.out.2] at hO
      have q1 : ¬ (j : Int) < 0 := by omega
      have j1 : (j : Int) + 1 ≤ 9223372036854775807 := by have := HN.out.2; have := HF.out.readers; omega
      have HO := Aside0.mk (And.intro hO (show j < q by have := HN.out.2; omega))
      clear hk hjl hO
      go_wp2_with (first
        | (go_at_call 61; (with_reducible refine (del61_calls HO.out.1 HO.out.2 ?hj (by have := HN.out.2; have := HF.out.readers; omega)).mono ?_); (case hj => first | rfl | (unfold wrap64; omega) | omega); rintro e w4 ⟨rfl, hr4, hg4⟩; obtain ⟨hB4, hX4, hP4⟩ := H3.out.readers (fun k hk hne => hg4.block k hk (fun e => hne (by rw [e]; rfl))) (Chg.onto H3.out.below HBS.out hg4 (fun k e => by rw [e]; exact HO.out.1.low)) hr4; have HP4 := Aside0.mk hP4; clear z1 z8 f1 f8; obtain ⟨z1, z8, f1, f8⟩ := cells9 hB4; clear hB4 hX4 hP4 hr4 hg4))
      go_ret
      rw [HTT.out]
      exact ⟨rfl, HP4.out⟩
end Go.Proofs.Yticoaaddhhiglaa.T
