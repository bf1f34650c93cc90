/- The ring by hand: a byte behind a text's bytes. -/
import Derived.Test.YtibilnohnildcaaR13
import Derived.Lib.ConvBytes
import Derived.ArgAppend
namespace Go.Proofs.Ytibilnohnildcaa.R
open Go.RowKit Go.Proofs.Ytibilnohnildcaa.Q Go.Proofs.YtibilnohnildcaaW.PrintWords Go.Proofs.YtibilnohnildcaaW.PrintLast Go.Proofs.YtibilnohnildcaaW.PrintMore
set_option linter.unusedVariables false
set_option linter.unusedSimpArgs false
theorem rowC {w : World} {g : Nat} {cs : Array Value} {fz : Nat × Nat} {l : List Int} (hb : w.heap[g]? = some (.cells cs 5 fz)) (hl : ∀ j, j < l.length → cs[j]? = some (.int .u8 (l.getD j 0))) (hm : l.length ≤ maxLen) : (Kd.int .u8).C w (some ⟨g, 0, none⟩) l.length l := by
  refine ⟨rfl, hm, fun _ => ⟨_, rfl, fun j p hj => ⟨[.int .u8 p], rfl, rfl, fun i u hu => ?_⟩⟩⟩
  cases i with
  | succ i => simp at hu
  | zero =>
    have : Value.int .u8 p = u := by simpa using hu
    subst this
    have hjl := (List.getElem?_eq_some_iff.1 hj).1
    have h1 := hl j hjl
    rw [List.getD_eq_getElem?_getD, hj] at h1
    have hs : (Kd.int .u8).sz = 1 := rfl
    rw [Addr.add_mid, hs]
    have h2 := cell_of_row w g (0 + (j * 1 + 0)) _ _ _ hb
    rw [h2, show 0 + (j * 1 + 0) = j by omega, h1]
    rfl
/-- A text's bytes. -/
def strB (s : ByteArray) : List Int := s.data.toList.map (fun b => (b.toNat : Int))
theorem strB_len (s : ByteArray) : (strB s).length = s.size := by simp [strB]
theorem strB_bytes (s : ByteArray) : Bytes (strB s) := fun x hx => by
  obtain ⟨b, _, rfl⟩ := List.mem_map.1 hx
  have := b.toNat_lt
  omega
/-- A text's bytes that were laid just now. -/
structure Conv (w : World) (b cap : Nat) (l : List Int) : Prop where
  blk : ∃ (cs : Array Value) (fz : Nat × Nat), w.heap[b]? = some (.cells cs 5 fz) ∧ l.length ≤ cap ∧ cap ≤ cs.size ∧ (∀ j, j < l.length → cs[j]? = some (.int .u8 (l.getD j 0))) ∧ ∀ j, j < cap → ¬ (fz.1 ≤ j ∧ j < fz.2)
theorem Conv.move {w w' : World} {b cap : Nat} {l : List Int} (h : Conv w b cap l) (hk : w'.heap[b]? = w.heap[b]?) : Conv w' b cap l := by
  obtain ⟨cs, fz, h1, h2⟩ := h.blk
  exact ⟨cs, fz, hk.trans h1, h2⟩
theorem Conv.lt {w : World} {b cap : Nat} {l : List Int} (h : Conv w b cap l) : b < w.heap.size := by
  obtain ⟨cs, fz, h1, h2⟩ := h.blk
  exact blk_lt h1
/-- A text turned to bytes. -/
theorem conv_str (w : World) (s : ByteArray) : ∃ cap w1, (convert 9 59 (.string s)).run Try.prog w = .ok (.slice (some ⟨w.heap.size, 0, none⟩) s.size cap) w1 ∧ Conv w1 w.heap.size cap (strB s) ∧ Below w.heap.size w w1 := by
  refine ⟨_, _, Go.Lib.run_convert_string_bytes w 9 59 5 s Try.underlying9 Try.underlying59 Try.underlying5, ⟨_, _, Go.Lib.bytesWorld_at_new w 5 s, ?_, ?_, fun j hj => ?_, fun j hj => ?_⟩, ?_⟩
  · rw [strB_len]; have := grownCap_ge w s.size 0 5; omega
  · have := grownCap_ge w s.size 0 5
    simp [Go.Lib.bytesCells]; omega
  · rw [strB_len] at hj
    have hj2 : j < s.data.size := hj
    unfold Go.Lib.bytesCells
    rw [Array.getElem?_append_left (by simpa using hj2), Array.getElem?_map, Array.getElem?_eq_getElem hj2]
    simp only [Option.map_some, Option.some.injEq, Value.int.injEq, true_and]
    unfold strB
    rw [List.getD_eq_getElem?_getD, List.getElem?_map, Array.getElem?_toList, Array.getElem?_eq_getElem hj2]
    rfl
  · have : (Go.Lib.bytesCells w 5 s).size = s.size + (grownCap w s.size 0 5 - s.size) := by simp [Go.Lib.bytesCells]
    have := grownCap_ge w s.size 0 5
    show ¬ ((Go.Lib.bytesCells w 5 s).size ≤ j ∧ j < (Go.Lib.bytesCells w 5 s).size + 1)
    omega
  · refine ⟨?_, ?_, ?_, by rw [Go.Lib.bytesWorld_size]; omega, fun k hk => Go.Lib.bytesWorld_at_old w 5 s k hk⟩
    all_goals simp [Go.Lib.bytesWorld, World.freeze, World.alloc, World.drew, -World.alloc_eq, -World.drew_eq]
theorem app_conv {w : World} {b cap b2 : Nat} {l : List Int} {k : Int} (h : Conv w b cap l) (h2 : w.heap[b2]? = some (.cells #[.int .u8 k] 5 (0, 0))) (hs : l.length ≤ 1073741824) (ty : TypeId) :
    ∃ A1 c1 w1, (Builtin.append_ #[59, 59] ty #[.slice (some ⟨b, 0, none⟩) l.length cap, .slice (some ⟨b2, 0, none⟩) 1 1]).run Try.prog w = .ok (.slice A1 (l.length + 1) c1) w1 ∧ (Kd.int .u8).C w1 A1 (l ++ [k]).length (l ++ [k]) ∧ (l ++ [k]).length ≤ c1 ∧ w.grownBy w1 (some b) := by
  obtain ⟨i0, hi, hzz⟩ := Option.map_eq_some_iff.1 info5
  simp only [Prod.mk.injEq] at hzz
  obtain ⟨hz0, hz1, hz2⟩ := hzz
  obtain ⟨cs, fz, hb, hlc, hcs, hcell, hfz⟩ := h.blk
  have hnew : ∀ j u, ([Value.int .u8 k] : List Value)[j]? = some u → w.cell? ((⟨b2, 0, none⟩ : Addr).add j) = some u := fun j u hu => by
    cases j with
    | zero =>
      rw [Addr.add_mid, blk_cell h2]
      simpa using hu
    | succ j => simp at hu
  have hll : (l ++ [k]).length = l.length + 1 := by simp
  have hmax : (l ++ [k]).length ≤ maxLen := by rw [hll]; unfold maxLen; omega
  have hget : ∀ j, j < (l ++ [k]).length → (l ++ [k]).getD j 0 = if j < l.length then l.getD j 0 else k := fun j hj => by
    rw [List.getD_eq_getElem?_getD]
    split
    · rename_i h3
      rw [List.getElem?_append_left h3, ← List.getD_eq_getElem?_getD]
    · rename_i h3
      have : j = l.length := by omega
      subst this
      rw [List.getElem?_append_right (Nat.le_refl _)]
      simp
  by_cases hroom : l.length + 1 ≤ cap
  · have hc1 : ∀ j, j < ([Value.int .u8 k] : List Value).length → (w.cell? ⟨b, 0 + l.length * i0.size + j, none⟩).isSome = true := fun j hj => by
      have : j = 0 := by simpa using hj
      subst this
      rw [cell_of_row w b _ _ _ _ hb, hz1, Array.getElem?_eq_getElem (by omega)]
      rfl
    have hf1 : ∀ j, j < ([Value.int .u8 k] : List Value).length → w.frozen? ⟨b, 0 + l.length * i0.size + j, none⟩ = false := fun j hj => by
      have : j = 0 := by simpa using hj
      subst this
      have := hfz l.length (by omega)
      simp only [World.frozen?, hb, hz1]
      simp only [Nat.zero_add, Nat.mul_one, Nat.add_zero]
      have h3 : ¬ (fz.1 ≤ l.length ∧ l.length < fz.2) := this
      simpa using h3
    refine ⟨_, _, _, run_append_room_cells w 59 ty 5 i0 Try.underlying59 hi b 0 l.length cap ⟨b2, 0, none⟩ 1 1 [.int .u8 k] (by rw [hz1]; rfl) hnew (fun u hu => by have : u = Value.int .u8 k := (by simpa using hu); rw [this]; rfl) hroom hc1 hf1, ?_, by rw [hll]; exact hroom, ?_⟩
    · have hb3 : (w.setCells b (0 + l.length * i0.size) [.int .u8 k]).heap[b]? = some (.cells (cs.setIfInBounds l.length (.int .u8 k)) 5 fz) := by
        rw [hz1]
        simp only [World.setCells, World.setCell, Array.getElem?_modify, hb]
        simp
      refine rowC hb3 (fun j hj => ?_) hmax
      rw [hget j hj, Array.getElem?_setIfInBounds]
      rw [hll] at hj
      by_cases e : l.length = j
      · rw [if_pos e, if_pos (by omega), if_neg (by omega)]
      · rw [if_neg e, if_pos (by omega)]
        exact hcell j (by omega)
    · rw [hz1]
      refine ⟨rfl, rfl, rfl, by simp [World.setCells], fun q hq hne => ?_⟩
      simp only [World.setCells]
      exact Below.heap_setCell _ _ _ q (fun e => hne (by rw [e]))
  · have hold : ∀ j u, (l.map (Value.int .u8))[j]? = some u → w.cell? ((⟨b, 0, none⟩ : Addr).add j) = some u := fun j u hu => by
      rw [List.getElem?_map] at hu
      cases hq : l[j]? with
      | none => rw [hq] at hu; cases hu
      | some x =>
        rw [hq] at hu
        have hjl := (List.getElem?_eq_some_iff.1 hq).1
        rw [Addr.add_mid, cell_of_row w b _ _ _ _ hb, Nat.zero_add, hcell j hjl, List.getD_eq_getElem?_getD, hq]
        exact hu
    obtain ⟨v1, w1, hrun, ho, hg⟩ := run_append_arg_grows (P := Try.prog) w 59 ty 5 i0 (.int .u8 0) 1 1 Try.underlying59 hi hz0 hz1 hz2 rfl (by decide) ⟨b, 0, none⟩ l.length cap (l.map (Value.int .u8)) (by simp) hold ⟨b2, 0, none⟩ 1 1 [.int .u8 k] (by simp) hnew (by omega) (by unfold maxLen; omega) (by omega)
    rcases ho.2 with ⟨_, h0⟩ | ⟨g, cap2, cur, rfl, hgb, hbb, hnc, hcm, hsz, ht⟩
    · omega
    · refine ⟨_, cap2, w1, hrun, rowC hbb (fun j hj => ?_) hmax, by rw [hll]; exact hnc, ⟨hg.os, hg.tape, hg.output, hg.size, fun q hq _ => hg.block q hq (by simp)⟩⟩
      rw [Nat.mul_one] at ht
      have h4 : (cur.toList.take (l.length + 1))[j]? = (l.map (Value.int .u8) ++ [Value.int .u8 k])[j]? := by rw [ht]
      rw [hll] at hj
      rw [List.getElem?_take_of_lt hj, Array.getElem?_toList] at h4
      rw [h4, hget j (by rw [hll]; exact hj)]
      by_cases e : j < l.length
      · rw [if_pos e, List.getElem?_append_left (by simpa using e), List.getElem?_map, List.getD_eq_getElem?_getD, List.getElem?_eq_getElem e]; rfl
      · have : j = l.length := by omega
        subst this
        rw [if_neg (by omega), List.getElem?_append_right (by simp)]
        simp
theorem append_step {P : Program} {ops : Array Oper} {o : Oper} {a : Act} {Q : Exit → Act → World → Prop} {Kc : Act → World → Prop} {W : World} (hw : Region.wanted o (yielded ops a.tmps) = true) (s x : Operand) (t : TypeId)
    (ho : o.op = .call { callee := .builtin .append, args := #[s, x], argTypes := #[t, t] }) (v u : Value) (hs : a.eval s = v) (hx : a.eval x = u) (v1 : Value) (w1 : World)
    (hr1 : (Builtin.append_ #[t, t] o.type #[v, u]).run P W = .ok v1 w1) (h : Kc (a.put o.dst v1) w1) : if Region.wanted o (yielded ops a.tmps) = true then Oper.wp P o a W Kc Q else Kc (a.put o.dst undef) W := by
  rw [if_pos hw]
  unfold Oper.wp execOp
  simp only [ho, resolve, invoke, builtin, Sem.run_bind, Sem.run_pure, Result.andThen_ok, List.map_toArray, List.map_cons, List.map_nil, hs, hx, hr1]
  exact h
theorem app_conv' {w : World} {b cap b2 : Nat} {t : ByteArray} {k : Int} (h : Conv w b cap (strB t)) (h2 : w.heap[b2]? = some (.cells #[.int .u8 k] 5 (0, 0))) (hs : t.size ≤ 1073741824) :
    ∃ A1 c1 w1, (Builtin.append_ #[59, 59] 59 #[.slice (some ⟨b, 0, none⟩) t.size cap, .slice (some ⟨b2, 0, none⟩) 1 1]).run Try.prog w = .ok (.slice A1 (t.size + 1) c1) w1 ∧ (Kd.int .u8).C w1 A1 (strB t ++ [k]).length (strB t ++ [k]) ∧ (strB t ++ [k]).length ≤ c1 ∧ w.grownBy w1 (some b) := by
  have := app_conv h h2 (by rw [strB_len]; exact hs) 59
  rw [strB_len] at this
  exact this
theorem xx_t {w : World} {A : Option Addr} {c : Nat} {t : ByteArray} {k : Int} (hC : (Kd.int .u8).C w A (strB t ++ [k]).length (strB t ++ [k])) (hc : (strB t ++ [k]).length ≤ c) (hs : t.size ≤ 1073741824) : Calls Try.prog 30 #[.slice A (t.size + 1) c] w fun e w' => e = .returned (.int .u64 (xx (strB t ++ [k]))) ∧ Below w.heap.size w w' := by
  have hl : (strB t ++ [k]).length = t.size + 1 := by rw [List.length_append, strB_len]; rfl
  have := xx_calls A c (strB t ++ [k]) w hC hc (by rw [hl]; omega)
  rw [hl] at this
  exact this
end Go.Proofs.Ytibilnohnildcaa.R
