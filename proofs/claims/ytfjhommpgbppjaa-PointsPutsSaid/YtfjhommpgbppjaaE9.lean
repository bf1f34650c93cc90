/- PointsPuts' walk by hand: a list in memory of its own with room behind it, and that room seen. -/
import Derived.Test.YtfjhommpgbppjaaQ0
import Derived.Test.YtfjhommpgbppjaaV3
import Derived.Test.YtfjhommpgbppjaaV4
import Derived.Test.YtfjhommpgbppjaaV5
import Derived.Test.YtfjhommpgbppjaaV14
import Derived.Test.YtfjhommpgbppjaaV15
import Derived.Laws.MakeOwn
import Derived.Laws.AppendOwn
namespace Go.Proofs.Ytfjhommpgbppjaa.Q
open Go.RowKit Go.Proofs.YtfjhommpgbppjaaW.PrintWords Go.Proofs.YtfjhommpgbppjaaW.PrintLast Go.Proofs.YtfjhommpgbppjaaW.PrintMore
set_option linter.unusedVariables false
set_option linter.unusedSimpArgs false

def Z3 : Array Value := #[.int .i64 0, .int .u64 0, .int .u64 0]
/-- The cells of a new list of so many points. -/
def zc (n : Nat) : Array Value := madeCells Z3 (n * 3)
theorem zc_size (n : Nat) : (zc n).size = n * 3 := size_madeCells _ _
theorem zc_tail (n : Nat) : (zc (n + 2)).toList.drop (n * 3) = [.int .i64 0, .int .u64 0, .int .u64 0, .int .i64 0, .int .u64 0, .int .u64 0] := by
  apply List.ext_getElem
  · simp [zc, madeCells]; omega
  · intro i h1 h2
    simp only [List.length_cons, List.length_nil] at h2
    rw [List.getElem_drop]
    simp only [zc, madeCells, Array.toList_map, List.getElem_map, Array.toList_range, List.getElem_range]
    have : i = 0 ∨ i = 1 ∨ i = 2 ∨ i = 3 ∨ i = 4 ∨ i = 5 := by omega
    have e : (n * 3 + i) % Z3.size = i % 3 := by show (n * 3 + i) % 3 = i % 3; omega
    rw [e]
    rcases this with rfl | rfl | rfl | rfl | rfl | rfl <;> rfl
theorem k25_M {w w1 : World} {base : Nat} {ok : Nat → Prop} {x : S25} {cs : List Value} (h : k25.K w x cs) : k25.M w1 base ok x cs := by
  obtain rfl := k25_open h
  exact ⟨_, _, rfl, rfl, ⟨_, _, rfl, rfl, rfl⟩⟩
theorem copy_in (w : World) (A0 : Option Addr) (c0 : Nat) (l0 : List S25) (hr0 : Kd.C k25 w A0 l0.length l0) (hl : l0.length ≤ 400) :
    ∃ (w1 : World) (cur : Array Value), (Builtin.append_ #[22, 22] 22 #[.slice (some ⟨w.heap.size, 0, none⟩) 0 (l0.length + 2), .slice A0 l0.length c0]).run Try.prog (w.alloc (.cells (zc (l0.length + 2)) 25)) = .ok (.slice (some ⟨w.heap.size, 0, none⟩) l0.length (l0.length + 2)) w1 ∧
      w1.heap[w.heap.size]? = some (.cells cur 25 (0, 0)) ∧ cur.toList.drop (l0.length * 3) = [.int .i64 0, .int .u64 0, .int .u64 0, .int .i64 0, .int .u64 0, .int .u64 0] ∧
      Kd.R k25 25 w1 w.heap.size (fun _ => True) (.slice (some ⟨w.heap.size, 0, none⟩) l0.length (l0.length + 2)) l0 ∧ Below w.heap.size w w1 := by
  obtain ⟨i0, hi, hzz⟩ := Option.map_eq_some_iff.1 info25
  simp only [Prod.mk.injEq] at hzz
  obtain ⟨hz0, hz1, hz2⟩ := hzz
  have ht := Try.underlying22
  obtain ⟨W, hW⟩ : ∃ W, W = w.alloc (.cells (zc (l0.length + 2)) 25) := ⟨_, rfl⟩
  rw [← hW]
  have hg : W.heap[w.heap.size]? = some (.cells (zc (l0.length + 2)) 25 (0, 0)) := by rw [hW]; exact blk_new w _
  have hBW : Below w.heap.size w W := by rw [hW]; exact below_alloc (Below.refl _ _) _
  have hrW : Kd.C k25 W A0 l0.length l0 := Kd.C_below hr0 hBW
  have sz3 : k25.sz = 3 := rfl
  rcases A0 with _ | ad
  · have h0 : l0.length = 0 := by
      rcases Nat.eq_zero_or_pos l0.length with h0 | h0
      · exact h0
      · obtain ⟨ad, h, _⟩ := hr0.2.2 h0
        cases h
    obtain rfl : l0 = [] := List.eq_nil_of_length_eq_zero h0
    refine ⟨W, zc 2, ?_, hg, zc_tail 0, ?_, hBW⟩
    · simp [Builtin.append_, run_underlying ht, sizeOf, typeInfo, hi, Builtin.lenOf, Builtin.firstCells, storeCells]
    · refine ⟨fun _ _ => trivial, [], ⟨rfl, .inr ⟨w.heap.size, 2, zc 2, rfl, Nat.le_refl _, hg, by simp, by simp [maxLen], zc_size 2, by simp⟩⟩, Reps.none _ _⟩
  · obtain ⟨news, hnr, hnc⟩ := ReadsRow.inner_ hrW
    have hnM : Reps (k25.M W w.heap.size (fun _ => True)) 3 l0 news := hnr.imp_ (fun p c hp => k25_M hp)
    have hlen : news.length = l0.length * 3 := hnM.1
    have hone : ∀ u ∈ news, u.oneCell' = true := by
      intro u hu
      obtain ⟨q, hq, rfl⟩ := List.mem_iff_getElem.1 hu
      have hql : q / 3 < l0.length := by omega
      have hc := hnM.2 (q / 3) _ (List.getElem?_eq_getElem hql)
      refine k25.K_one (k25.K_of_M hc) _ ?_
      rw [List.mem_iff_getElem?]
      refine ⟨q % 3, ?_⟩
      show (List.take 3 (List.drop (q / 3 * 3) news))[q % 3]? = _
      rw [List.getElem?_take, if_pos (Nat.mod_lt _ (by decide)), List.getElem?_drop, show q / 3 * 3 + q % 3 = q by omega, List.getElem?_eq_getElem hq]
    have hr := run_append_room (P := Try.prog) W 22 22 25 i0 ht hi w.heap.size 0 (l0.length + 2) (zc (l0.length + 2)) hg ad l0.length c0 news (by rw [hz1]; exact hlen) hnc hone (by omega) (by rw [Nat.zero_mul, Nat.zero_add, zc_size]; omega)
    rw [Nat.zero_mul, Nat.zero_add, Nat.zero_add, List.take_zero, List.nil_append] at hr
    refine ⟨_, _, hr, setRow_heap W w.heap.size (zc (l0.length + 2)) _ 25 _ hg, ?_, ?_, ?_⟩
    · simp only [List.toList_toArray]
      rw [hlen, List.drop_append_of_le_length (by omega), List.drop_eq_nil_of_le (by omega), List.nil_append]
      exact zc_tail _
    · refine ⟨fun _ _ => trivial, news, ⟨hlen, .inr ⟨w.heap.size, l0.length + 2, _, rfl, Nat.le_refl _, setRow_heap W w.heap.size (zc (l0.length + 2)) _ 25 _ hg, by omega, by simp only [maxLen]; omega, ?_, ?_⟩⟩, hnr.imp_ (fun p c hp => k25_M hp)⟩
      · have := zc_size (l0.length + 2)
        rw [sz3]
        simp only [List.size_toArray, List.length_append, List.length_drop, Array.length_toList]
        omega
      · rw [sz3, ← hlen]
        exact List.take_left
    · refine ⟨hBW.os, hBW.tape, hBW.output, Nat.le_trans hBW.size (by simp [World.setRow]), fun k hk => ?_⟩
      exact (setRow_other W w.heap.size k _ (by omega)).trans (hBW.block k hk)
theorem append_event {P : Program} {ops : Array Oper} {o : Oper} {rest : List Oper} {a : Act} {Q : Exit → Act → World → Prop} {W : World} (hgd : o.guard = none) (s x : Operand) (t : TypeId)
    (ho : o.op = .call { callee := .builtin .append, args := #[s, x], argTypes := #[t, t] }) (v u : Value) (hs : a.eval s = v) (hx : a.eval x = u) (v1 : Value) (w1 : World)
    (hr1 : (Builtin.append_ #[t, t] o.type #[v, u]).run P W = .ok v1 w1) (h : wpList P ops Q rest (a.put o.dst v1) w1) : wpList P ops Q (o :: rest) a W := by
  refine wpList_plain hgd fun K hK => ?_
  unfold Oper.wp execOp
  simp only [ho, resolve, invoke, builtin, Sem.run_bind, Sem.run_pure, Result.andThen_ok, List.map_toArray, List.map_cons, List.map_nil, hs, hx, hr1]
  exact hK _ _ h
/-- How a list is copied: room for two more, zeros. -/
def Copied (w : World) (l0 : List S25) (g : Nat) (w' : World) : Prop :=
  w.heap.size ≤ g ∧ (∃ cur : Array Value, w'.heap[g]? = some (.cells cur 25 (0, 0)) ∧ cur.toList.drop (l0.length * 3) = [.int .i64 0, .int .u64 0, .int .u64 0, .int .i64 0, .int .u64 0, .int .u64 0]) ∧
    Kd.R k25 25 w' w.heap.size (fun _ => True) (.slice (some ⟨g, 0, none⟩) l0.length (l0.length + 2)) l0 ∧ Below w.heap.size w w'
set_option maxHeartbeats 1000000 in
theorem copied_calls2 (A0 : Option Addr) (c0 : Nat) (l0 : List S25) (w : World) (hr0 : Kd.C k25 w A0 l0.length l0) (hc0 : l0.length ≤ c0) (hl : l0.length ≤ 400) :
    Calls Try.prog 20 #[.slice A0 l0.length c0] w fun e w' => ∃ g : Nat, e = .returned (.slice (some ⟨g, 0, none⟩) l0.length (l0.length + 2)) ∧ Copied w l0 g w' := by
  obtain ⟨w1, cur, hrun, hblk, hdrop, hR, hB⟩ := copy_in w A0 c0 l0 hr0 hl
  have HC := Aside0.mk (show Copied w l0 w.heap.size w1 from ⟨Nat.le_refl _, ⟨cur, hblk, hdrop⟩, hR, hB⟩)
  clear hblk hdrop hR hB hr0
  obtain ⟨i0, hi, hzz⟩ := Option.map_eq_some_iff.1 info25
  simp only [Prod.mk.injEq] at hzz
  obtain ⟨hz0, hz1, hz2⟩ := hzz
  have km : ∀ W : World, (Instr.makeSlice 22 (.int .i64 0) (.int .i64 ((l0.length : Int) + 2))).run Try.prog W = .ok (.slice (some ⟨W.heap.size, 0, none⟩) 0 (l0.length + 2)) (W.alloc (.cells (zc (l0.length + 2)) 25)) := fun W => by
    have h := run_make (P := Try.prog) W 22 25 i0 (.agg #[(.int .i64 0), (.int .u64 0), (.int .u64 0)]) Try.underlying22 hi hz0 .i64 .i64 0 ((l0.length : Int) + 2) (by omega) (by omega) (by rw [hz2]; omega) (by omega)
    have e : ((l0.length : Int) + 2).toNat = l0.length + 2 := by omega
    rw [e, hz1] at h
    exact h
  clear hi hz0 hz1 hz2
  go_enter Try.func20, Try.ntmps20
  have HRUN := Aside0.mk hrun
  clear hrun
  go_wp2_with ((with_reducible refine gate_builtin (b := .append) (xs := #[.tmp 7, .tmp 8]) rfl ?_); at_builtin; refine append_event rfl (.tmp 7) (.tmp 8) 22 rfl _ _ rfl rfl _ _ HRUN.out ?_)
  go_ret
  exact ⟨_, rfl, HC.out⟩
/-- The point behind the list is one of zeros. -/
theorem own_cells {W : World} {g : Nat} {cur : Array Value} {l0 : List S25} (hblk : W.heap[g]? = some (.cells cur 25 (0, 0))) (hdrop : cur.toList.drop (l0.length * 3) = [.int .i64 0, .int .u64 0, .int .u64 0, .int .i64 0, .int .u64 0, .int .u64 0]) :
    W.cell? ⟨g, l0.length * 3, none⟩ = some (.int .i64 0) ∧ W.cell? ⟨g, l0.length * 3 + 1, none⟩ = some (.int .u64 0) ∧ W.cell? ⟨g, l0.length * 3 + 2, none⟩ = some (.int .u64 0) := by
  have hc : ∀ (i : Nat) (u : Value), ([.int .i64 0, .int .u64 0, .int .u64 0, .int .i64 0, .int .u64 0, .int .u64 0] : List Value)[i]? = some u → W.cell? ⟨g, l0.length * 3 + i, none⟩ = some u := by
    intro i u h
    rw [← hdrop, List.getElem?_drop] at h
    simp only [World.cell?, hblk]
    simpa using h
  exact ⟨hc 0 _ rfl, hc 1 _ rfl, hc 2 _ rfl⟩
theorem cut_beyond {P : Program} (t e : TypeId) (kh : IntKind) {i : TypeInfo} (ht : P.underlying t = some (.slice e)) (hi : P.info? e = some i) (A : Option Addr) (n c : Nat) (j : Int) (h0 : 0 ≤ j) (hm : j ≤ c) :
    ∀ W : World, (Instr.slice t (.slice A n c) none (some (.int kh j)) none).run P W = .ok (.slice A j.toNat c) W := by
  intro W
  have hel : P.elem t = e := by simp [Program.elem, ht]
  have hu : P.underlying t = some (.slice (P.elem t)) := by rw [hel]; exact ht
  have ha : (A.map fun x => x.add 0) = A := by cases A <;> simp [Addr.add]
  rw [run_slice_h W t A n c hu kh j h0 hm, hel]
  simp [sizeOf, typeInfo, hi, sliced, Result.andThen, ha]

/-- PointsPuts, as far as it answers true. -/
def manometerlaw09_PointsPuts.f (k : Nat) (l0 : List (S25)) (a1_0 : Int) (a1_1 : Int) (a1_2 : Int) : Option (Bool) :=
  if manometerlaw09_live.f k = some true then
    (manometerlaw09_few.f l0).bind fun fw => if fw = true ∧ l0.length ≤ 400 then
      (points_Put.f k l0 a1_0 a1_1 a1_2).bind fun x => (manometerref09_Put.f k l0 a1_0 a1_1 a1_2).bind fun y =>
        if x.2 = y.2 ∧ manometerref09_Same.f k x.1 y.1 = some true ∧ manometerref09_Same.f k l0 l0 = some true then some true else none
      else if fw = false then some true else none
  else none
set_option maxHeartbeats 1000000 in
set_option maxRecDepth 100000 in
theorem manometerlaw09_PointsPuts.calls (k : Nat) (A0 : Option Addr) (c0 : Nat) (l0 : List (S25)) (a1_0 : Int) (a1_1 : Int) (a1_2 : Int) (r : Bool) (w : World) (hr0 : Kd.C k25 w A0 l0.length l0) (hc0 : l0.length ≤ c0) (hT : r = true) (h : manometerlaw09_PointsPuts.f k l0 a1_0 a1_1 a1_2 = some r) :
    Calls Try.prog 5 #[.slice A0 l0.length c0, .agg #[.int .i64 a1_0, .int .u64 a1_1, .int .u64 a1_2]] w fun e w' => e = .returned (.bool r) ∧ Below w.heap.size w w' := by
  unfold manometerlaw09_PointsPuts.f at h
  subst hT
  by_cases hlive : manometerlaw09_live.f k = some true
  · rw [if_pos hlive] at h
    obtain ⟨fw, hfw, h⟩ := Option.bind_eq_some_iff.mp h
    have HR := Aside0.mk hr0
    have HC := Aside0.mk hc0
    have AL := Aside0.mk hlive
    have HB := Aside0.mk (Below.refl w.heap.size w)
    clear hr0 hc0 hlive
    by_cases hf : fw = true ∧ l0.length ≤ 400
    · rw [if_pos hf] at h
      obtain ⟨rfl, hl⟩ := hf
      obtain ⟨⟨r1, n1, e1⟩, hA1, h⟩ := Option.bind_eq_some_iff.mp h
      obtain ⟨⟨r2, n2, e2⟩, hA2, h⟩ := Option.bind_eq_some_iff.mp h
      dsimp only at h
      by_cases hc : ((n1, e1) : Int × Int) = (n2, e2) ∧ manometerref09_Same.f k r1 r2 = some true ∧ manometerref09_Same.f k l0 l0 = some true
      · clear h
        obtain ⟨hne, hS1, hS2⟩ := hc
        simp only [Prod.mk.injEq] at hne
        obtain ⟨rfl, rfl⟩ := hne
        have AF := Aside0.mk hfw
        have A1 := Aside0.mk hA1
        have A2 := Aside0.mk hA2
        have AS1 := Aside0.mk hS1
        have AS2 := Aside0.mk hS2
        have HL := Aside0.mk hl
        clear hfw hA1 hA2 hS1 hS2
        obtain ⟨i0, hi, _⟩ := Option.map_eq_some_iff.1 info25
        have hu25 := Try.underlying25
        have hcut := fun g : Nat => cut_beyond (P := Try.prog) 22 25 .i64 Try.underlying22 hi (some ⟨g, 0, none⟩) l0.length (l0.length + 2) ((l0.length : Int) + 1) (by omega) (by omega)
        have htn : ((l0.length : Int) + 1).toNat = l0.length + 1 := by omega
        clear hi
        go_enter Try.func5, Try.ntmps5
        go_wp2_with (first
          | ((with_reducible refine gate_dst (N := 3) rfl ?_); (try (refine gate_guard (by rfl) ?_; dsimp only)); refine box_event ?hg (N := 3) ?hd (cs := #[.int .i64 a1_0, .int .u64 a1_1, .int .u64 a1_2]) (t := 25) ?hr ?_; (case hd => rfl); (case hg => rfl); (case hr => first | (go_simp; done) | (go_simp; rfl)); intro gb hg w1 hbox hb; have HB1 := Aside0.mk (below_step HB.out hb); have BK1 := Aside0.mk hbox; clear hb hbox hg)
          | (go_at_call 12; (with_reducible refine (manometerlaw09_live.calls k true _ AL.out).mono ?_); rintro e w2 ⟨rfl, hb⟩; have HB2 := Aside0.mk (below_step HB1.out hb); have BK2 := Aside0.mk (blk_below BK1.out hb); clear hb)
          | (go_at_call 13; (with_reducible refine (manometerlaw09_few.calls _ _ l0 true _ (Kd.C_below HR.out HB2.out) HC.out AF.out).mono ?_); rintro e w' ⟨rfl, ⟨nd, rfl⟩⟩)
          | (go_at_call 20; (refine (copied_calls2 _ _ l0 _ (Kd.C_drewN (Kd.C_below HR.out HB2.out) _) HC.out HL.out).mono ?_); rintro e w3 ⟨g, rfl, hg, ⟨cur, hblk, hdrop⟩, hR, hb⟩; have HB3 := Aside0.mk (below_step (pw_below_drewN HB2.out _) hb); have BK3 := Aside0.mk (blk_below (blk_drewN BK2.out _) hb); have HO3 := Aside0.mk hR; have HK3 := Aside0.mk hblk; have HD := Aside0.mk hdrop; clear hR hblk hdrop hg hb; have hx0 : w3.cell? ⟨gb, 0, none⟩ = some (.int .i64 a1_0) := (by simp [World.cell?, BK3.out]); have hx1 : w3.cell? ⟨gb, 1, none⟩ = some (.int .u64 a1_1) := (by simp [World.cell?, BK3.out]); have hx2 : w3.cell? ⟨gb, 2, none⟩ = some (.int .u64 a1_2) := (by simp [World.cell?, BK3.out]))
          | (go_at_call 21; (with_reducible refine (points_Put.calls k (fun k_ => some k_ = (.slice (some ⟨g, 0, none⟩) l0.length (l0.length + 2) : Value).ownBlock) _ _ l0 a1_0 a1_1 a1_2 r1 n1 e1 _ ?side1 A1.out).mono ?_); (case side1 => exact Kd.R_V (Kd.R_tight rfl (HO3.out))); rintro e w4 ⟨v4, rfl, hV, hb⟩; obtain ⟨Av, cv, ev⟩ := Kd.V_slice hV; subst ev; have HB4 := Aside0.mk (below_step HB3.out hb); have BK4 := Aside0.mk (blk_below BK3.out hb); have HO4 := Aside0.mk (Kd.R_below HO3.out hb); have HK4 := Aside0.mk (blk_below HK3.out hb); have HV4 := Aside0.mk (Kd.V_reads' hV).2.2; have HV4l := Aside0.mk (Kd.V_reads' hV).2.1; clear hV hb hx0 hx1 hx2; have hx0 : w4.cell? ⟨gb, 0, none⟩ = some (.int .i64 a1_0) := (by simp [World.cell?, BK4.out]); have hx1 : w4.cell? ⟨gb, 1, none⟩ = some (.int .u64 a1_1) := (by simp [World.cell?, BK4.out]); have hx2 : w4.cell? ⟨gb, 2, none⟩ = some (.int .u64 a1_2) := (by simp [World.cell?, BK4.out]))
          | (go_at_call 22; (with_reducible refine (manometerref09_Put.calls k _ _ l0 a1_0 a1_1 a1_2 r2 n1 e1 _ ?side1 ?side2 A2.out).mono ?_); (case side1 => exact Kd.C_below HR.out HB4.out); (case side2 => exact HC.out); rintro e w5 ⟨v5, rfl, hR, hb⟩; obtain ⟨Aw, cw, ew⟩ := Kd.R_slice hR; subst ew; have HB5 := Aside0.mk (below_step HB4.out hb); have HO5 := Aside0.mk (Kd.R_below HO4.out hb); have HK5 := Aside0.mk (blk_below HK4.out hb); have HV5 := Aside0.mk (Kd.C_below HV4.out hb); have HW5 := Aside0.mk (Kd.R_reads' hR).2.2; have HW5l := Aside0.mk (Kd.R_reads' hR).2.1; clear hR hb hx0 hx1 hx2)
          | (go_at_call 23; (with_reducible refine (manometerref09_Same.calls k _ _ r1 _ _ r2 true _ ?side1 ?side2 ?side3 ?side4 AS1.out).mono ?_); (case side1 => exact HV5.out); (case side2 => exact HV4l.out); (case side3 => exact HW5.out); (case side4 => exact HW5l.out); rintro e w' ⟨rfl, ⟨nd2, rfl⟩⟩)
          | (go_at_call 23; (with_reducible refine (manometerref09_Same.calls k _ _ l0 _ _ l0 true _ ?side1 ?side2 ?side3 ?side4 AS2.out).mono ?_); (case side1 => exact Kd.C_drewN (Kd.R_reads' HO5.out).2.2 _); (case side2 => exact (Kd.R_reads' HO5.out).2.1); (case side3 => exact Kd.C_drewN (Kd.C_below HR.out HB5.out) _); (case side4 => exact HC.out); rintro e w' ⟨rfl, ⟨nd3, rfl⟩⟩; obtain ⟨h0, h1, h2⟩ := own_cells HK5.out HD.out))
        go_ret
        exact ⟨rfl, by repeat (first | exact HB5.out | apply pw_below_drewN)⟩
      · rw [if_neg hc] at h; cases h
    · rw [if_neg hf] at h
      by_cases hff : fw = false
      · subst hff
        have AF := Aside0.mk hfw
        clear hfw hf h
        go_enter Try.func5, Try.ntmps5
        go_wp2_with (first
          | ((with_reducible refine gate_dst (N := 3) rfl ?_); (try (refine gate_guard (by rfl) ?_; dsimp only)); refine box_event ?hg (N := 3) ?hd (cs := #[.int .i64 a1_0, .int .u64 a1_1, .int .u64 a1_2]) (t := 25) ?hr ?_; (case hd => rfl); (case hg => rfl); (case hr => first | (go_simp; done) | (go_simp; rfl)); intro gb hg w1 hbox hb; have HB1 := Aside0.mk (below_step HB.out hb); clear hb hbox hg)
          | (go_at_call 13; (with_reducible refine (manometerlaw09_few.calls _ _ l0 false _ (Kd.C_below HR.out HB2.out) HC.out AF.out).mono ?_); rintro e w' ⟨rfl, ⟨nd, rfl⟩⟩)
          | (go_at_call 12; (with_reducible refine (manometerlaw09_live.calls k true _ AL.out).mono ?_); rintro e w2 ⟨rfl, hb⟩; have HB2 := Aside0.mk (below_step (by repeat (first | exact HB2.out | exact HB1.out | apply pw_below_drewN)) hb); clear hb))
        go_ret
        exact ⟨rfl, by repeat (first | exact HB2.out | apply pw_below_drewN)⟩
      · rw [if_neg hff] at h; cases h
  · rw [if_neg hlive] at h; cases h
end Go.Proofs.Ytfjhommpgbppjaa.Q
