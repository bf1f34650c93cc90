/- The network by hand: what a copy needs: a drawn region in a round, an iterator that asks only for its own row, marks. -/
import Derived.Test.YtlnipfmgdkiboaaN12
import Derived.OrdersIn
import Derived.Sort.LoopGhostIn
namespace Go.Proofs.Ytlnipfmgdkiboaa.N
open Go.RowKit Go.Shelf Go.Proofs.Ytlnipfmgdkiboaa.Q Go.Proofs.YtlnipfmgdkiboaaW.PrintWords Go.Proofs.YtlnipfmgdkiboaaW.PrintLast Go.Proofs.YtlnipfmgdkiboaaW.PrintMore
attribute [local go_sem] Oper.semAt_some
set_option linter.unusedVariables false
set_option linter.unusedSimpArgs false
/-- A way out at the end alone. -/
def only (R : Act → World → Prop) : Exit → Act → World → Prop
  | .normal, a, w => R a w
  | _, _, _ => False
theorem rows_in {l m : Nat} {P : Program} {row : String} {args : Array Value} {w : World} {R : Value → World → Prop} (h : Rows P row args w R) : RowsIn (Fence.wide.inRound l) m P row args w R :=
  fun c cs _ => let ⟨v, w', r, s⟩ := h c cs; ⟨v, w', r, (stepsIn_wide (P := P)).2 s⟩
theorem wpOpIn_of {l m : Nat} {P : Program} {ops : Array Oper} {R : Act → World → Prop} {K : Act → World → Prop} {i : Nat} {a : Act} {w : World} (hd : ∀ (j : Nat) (o : Oper) c, ops[j]? = some o → o.op ≠ .defer c)
    (h : wpOp P ops (only R) i K a w) : wpOpIn (Fence.wide.inRound l) m P ops (only R) i K a w := by
  unfold wpOp at h
  unfold wpOpIn
  split
  · rename_i ho; simpa [ho] using h
  · rename_i o ho
    simp only [ho] at h
    split
    · rename_i hw
      rw [if_pos hw] at h
      rcases h with h | ⟨_, a0, w0, h⟩
      · refine ⟨fun _ _ => trivial, ?_⟩
        rw [Oper.semAt_eq _ _ _ (hd i o · ho)]
        unfold Oper.wp at h
        generalize (execOp a.eval o).run P w = r at *
        cases r with
        | ok x w' =>
          cases x <;> simp only [Oper.upon, Oper.uponIn] at h ⊢
          case value => exact h
          case skip => exact h
          case defer => exact h
          case enter f args => exact ⟨(fun e => by cases e), CallsIn.mono (CallsIn.inRound l ((callsIn_wide (n := m - 1)).2 h)) (fun e w'' he => by cases e <;> exact he)⟩
          case row row args => exact ⟨(fun e => by cases e), rows_in h⟩
        | halt x w' => cases x <;> simp only [Oper.upon, Oper.uponIn] at h ⊢ <;> exact h
      · exact h.elim
    · rename_i hw
      rw [if_neg hw] at h
      exact ⟨fun _ _ => trivial, h⟩
theorem wpAnyIn_of {l m : Nat} {P : Program} {md : Region.Mode} {ops : Array Oper} {R : Act → World → Prop} (hd : ∀ (j : Nat) (o : Oper) c, ops[j]? = some o → o.op ≠ .defer c) :
    ∀ (fuel : Nat) (listed : Array Bool) (a : Act) (w : World), wpAny P md ops (only R) fuel listed a w → wpAnyIn (Fence.wide.inRound l) m P md ops (only R) fuel listed a w
  | 0, _, _, _, h => h
  | fuel + 1, _, _, _, h => ⟨h.1, fun i hi => wpOpIn_mono (fun a' w' h' => wpAnyIn_of hd fuel _ a' w' h') (wpOpIn_of hd (h.2 i hi))⟩
def noDefer (ops : Array Oper) : Bool := ops.all fun o => match o.op with
  | .defer _ => false
  | _ => true
theorem noDefer_spec {ops : Array Oper} (h : noDefer ops = true) : ∀ (j : Nat) (o : Oper) c, ops[j]? = some o → o.op ≠ .defer c := fun j o c ho e => by
  have := Array.all_eq_true_iff_forall_mem.1 h o (Array.mem_of_getElem? ho)
  rw [e] at this
  cases this
/-- A region that draws its order, in a round of a range over a function. -/
theorem start_r {l m : Nat} {P : Program} {ops : Array Oper} {Q : Exit → Act → World → Prop} {S : World → Prop} {ds : List Nat} {id n : Nat} {a : Act} {w : World} (bl : Array Bool) (hm : P.follows .mixedOrders = true) (hn : ops.size = n) (hl : Array.replicate n false = bl) (hd : noDefer ops = true) (hS : S w.drew)
    (h : S w.drew → wpAnyLast P .any ops (only (Q .normal)) S ds n bl a w.drew) : (Code.region id ops true).wpIn (Fence.wide.inRound l) m P Q a w := by
  subst hn
  subst hl
  refine wpIn_mono (wpIn_region_any hm (wpAnyIn_of (noDefer_spec hd) _ _ _ _ (wpAny_of_last _ _ _ _ (h hS)))) ?_
  rintro e a' w' he
  cases e <;> first | exact he | exact he.elim
/-- Blocks that lie as they lay. -/
def Kq (S : Nat → Prop) (W W' : World) : Prop := W.heap.size ≤ W'.heap.size ∧ ∀ k, S k → k < W.heap.size → W'.heap[k]? = W.heap[k]?
theorem Kq.refl (S : Nat → Prop) (W : World) : Kq S W W := ⟨Nat.le_refl _, fun _ _ _ => rfl⟩
theorem Kq.trans {S : Nat → Prop} {A B C : World} (h : Kq S A B) (k : Kq S B C) : Kq S A C := ⟨Nat.le_trans h.1 k.1, fun i hi hl => (k.2 i hi (Nat.lt_of_lt_of_le hl h.1)).trans (h.2 i hi hl)⟩
theorem Kq.alloc (S : Nat → Prop) (W : World) (o : Obj) : Kq S W (W.alloc o) := ⟨by simp, fun k _ hk => Below.heap_alloc _ _ _ hk⟩
theorem Kq.of_grown {S : Nat → Prop} {W W' : World} {row : Option Nat} (h : W.grownBy W' row) (hr : ∀ k, S k → some k ≠ row) : Kq S W W' := ⟨h.size, fun k hk hl => h.block k hl (hr k hk)⟩
theorem Kq.cell {S : Nat → Prop} {W W' : World} (h : Kq S W W') {p : Addr} (hp : S p.block) (hl : p.block < W.heap.size) : W'.cell? p = W.cell? p := by
  simp only [World.cell?, h.2 _ hp hl]
set_option maxRecDepth 100000 in
set_option maxHeartbeats 2000000 in
theorem all2_in (F : Fence) (n : Nat) (h8 : F.fn 30) (hro : F.round = none) (hn : 1 ≤ n) (l Bs b len cap : Nat) (S : Nat → Prop) (zs : Nat → RawL) (hreach : len * 8 ≤ 140737488351232) (hb : S b) (J Jx : List (Nat × RawL) → World → Prop)
    (hJb : ∀ pre W o, J pre W → J pre (W.alloc o))
    (W : World) (hY : ∀ pre x W, J pre W → pre.length < len → YieldAt F (n - 1) Try.prog l (encR x) W fun e W' =>
      (e = .returned (.bool true) ∧ J (pre ++ [x]) W' ∧ Kq S W W') ∨ (e = .returned (.bool false) ∧ Jx (pre ++ [x]) W'))
    (hbl : b < W.heap.size) (hBs : W.cell? ⟨Bs, 0, none⟩ = some (.slice (some ⟨b, 0, none⟩) len cap)) (hc0 : ∀ j, j < len → W.cell? ⟨b, j * 2, none⟩ = some (.int .i64 (zs j).t)) (hc1 : ∀ j, j < len → W.cell? ⟨b, j * 2 + 1, none⟩ = some (.slice (zs j).a (zs j).n (zs j).c)) (h0 : J [] W) :
    CallsIn F n Try.prog 30 #[.func (.yield l) #[] #[], .pointer (some ⟨Bs, 0, none⟩)] W fun e W' => (∃ v, e = .returned v) ∧
      ((∃ ys, ys = upto (fun j => (j, zs j)) len ∧ J ys W') ∨ (∃ pre, (∃ k, k ≤ len ∧ pre = upto (fun j => (j, zs j)) k) ∧ Jx pre W')) := by
  refine callsIn_of_wp Try.func30 rfl h8 ?_ hro
  simp only [Try.ntmps30, List.size_toArray, List.length_cons, List.length_nil, Nat.reduceAdd, Nat.reduceSub, Array.replicate_succ, Array.replicate_zero, List.push_toArray, List.append_toArray, List.nil_append, List.cons_append]
  gi_wp2
  gi_loopw [7] (fun i wr => ∃ k : Nat, k ≤ len ∧ i = .int .i64 k ∧ J (upto (fun j => (j, zs j)) k) wr ∧ Kq S W wr)
    (fun i _ => len - (intOf i).toNat)
  case atStart => exact ⟨0, Nat.zero_le _, rfl, h0, Kq.refl _ _⟩
  case round =>
    obtain ⟨k, hk, rfl, hJw, hnx⟩ := hrel
    by_cases hlt : k < len
    · have x0 : wr.cell? ⟨b, k * 2, none⟩ = some (.int .i64 (zs k).t) := (hnx.cell (p := ⟨b, k * 2, none⟩) hb hbl).trans (hc0 k hlt)
      have x1 : wr.cell? ⟨b, k * 2 + 1, none⟩ = some (.slice (zs k).a (zs k).n (zs k).c) := (hnx.cell (p := ⟨b, k * 2 + 1, none⟩) hb hbl).trans (hc1 k hlt)
      have HJ := Aside0.mk hJw
      have HY := Aside0.mk hY
      clear hJw hY hc0 hc1 h0
      obtain ⟨fn, tmps, assign, body, hy, hR⟩ := HY.out _ (k, zs k) (wr.alloc (.cells #[.int .i64 (zs k).t, .slice (zs k).a (zs k).n (zs k).c] 34)) (hJb _ _ _ HJ.out) (by rw [upto_length]; exact hlt)
      dsimp only [encR] at hy
      have HR := Aside0.mk hR
      clear hR
      gi_wp2
      refine HR.out.mono ?_
      rintro e W3 (⟨rfl, hJ3, hk3⟩ | ⟨rfl, hJx3⟩)
      · have HJ3 := Aside0.mk (show J (upto (fun j => (j, zs j)) (k + 1)) W3 by rw [upto_succ]; exact hJ3)
        clear hJ3 hy HR
        gi_wp2
        go_roundw
        case rel => exact ⟨k + 1, by omega, by simp, HJ3.out, hnx.trans ((Kq.alloc S _ _).trans hk3)⟩
        case measure => simp [intOf]; omega
      · have HJ3 := Aside0.mk hJx3
        clear hJx3 hy HR
        gi_wp2
        refine bodyPost_ret (results_none rfl _ _ _) rfl ?_
        exact ⟨⟨_, rfl⟩, .inr ⟨_, ⟨k + 1, by omega, (upto_succ _ _).symm⟩, HJ3.out⟩⟩
    · obtain rfl : k = len := by omega
      gi_wp2
      go_end0
      exact ⟨⟨_, rfl⟩, .inl ⟨_, rfl, hJw⟩⟩
/-- The iterator, where a round keeps the row and its box. -/
theorem all_stops2 (F : Fence) (n : Nat) (h8 : F.fn 30) (hro : F.round = none) (hn : 1 ≤ n) (Bs len : Nat) (v : Value) (zs : Nat → RawL) (w : World) (hBs : Bs < w.heap.size)
    (hc : w.cell? ⟨Bs, 0, none⟩ = some v) (hI : RawRow w v len zs w.heap.size) :
    SeqStopsK F n Try.prog 30 #[.pointer (some ⟨Bs, 0, none⟩)] encR (Kq (fun k => some k = v.ownBlock)) (fun ys => ys = upto (fun j => (j, zs j)) len)
      (fun pre => ∃ k, k ≤ len ∧ pre = upto (fun j => (j, zs j)) k) len w := fun l J Jx W hW hJ _ hY h0 => by
  have hc' := (hW.cell (p := ⟨Bs, 0, none⟩) hBs).trans hc
  have hI' := hI.below hW
  obtain ⟨A, cap, rfl, hl, h⟩ := hI'
  rcases Nat.eq_zero_or_pos len with rfl | hp
  · exact (all1_none F n h8 hro l Bs cap A J W hc' h0).mono fun e W' ⟨he, hj⟩ => ⟨he, .inl ⟨_, rfl, hj⟩⟩
  · obtain ⟨b, rfl, hlt, h1, h2⟩ := h hp
    refine all2_in F n h8 hro hn l Bs b len cap (fun k => some k = (Value.slice (some ⟨b, 0, none⟩) len cap).ownBlock) zs hl (by simp [Value.ownBlock]) J Jx (fun pre W2 o hj => ?_) W hY (Nat.lt_of_lt_of_le hlt hW.size) hc' h1 h2 h0
    have b := below_alloc (Below.refl W2.heap.size W2) o
    exact hJ pre W2 _ none hj ⟨b.os, b.tape, b.output, b.size, fun k hk _ => b.block k hk⟩ (fun r e => by cases e)
/-- Marks of ranges over functions on the way out. -/
theorem leaves_marks {F : Fence} {n : Nat} {P : Program} {fn : Func} {tmps : Array Value} {R : Ending → World → Prop} : ∀ (Ds : List Nat) (w : World), Ds.Nodup → (∀ D ∈ Ds, w.heap[D]? = some (.deferred (some []))) →
    (∀ w' : World, w'.os = w.os → w'.tape = w.tape → w'.output = w.output → w'.heap.size = w.heap.size → (∀ k, k ∉ Ds → w'.heap[k]? = w.heap[k]?) → ∃ v, (results fn tmps).run P w' = .ok v w' ∧ R (.returned v) w') →
    LeavesInM F n P fn tmps R (Ds.map fun D => { target := .collected D, args := #[] }) .returning w
  | [], w, _, _, h => h w rfl rfl rfl rfl (fun _ _ => rfl)
  | D :: Ds, w, hn, hD, h => by
    have h1 := hD D (by simp)
    have hlt := heap_lt h1
    have hg := grownBy_putObj' w D (.deferred none)
    refine ⟨by simp, .inl ⟨_, _, rfl, run_takeDeferred h1, ?_⟩⟩
    refine leaves_marks Ds _ (List.nodup_cons.1 hn).2 (fun D' hD' => ?_) (fun w' e1 e2 e3 e4 e5 => ?_)
    · have hne : D' ≠ D := fun e => (List.nodup_cons.1 hn).1 (e ▸ hD')
      exact (hg.block D' (heap_lt (hD D' (by simp [hD']))) (fun e => hne (Option.some.inj e))).trans (hD D' (by simp [hD']))
    · have hs : (w.putObj D (.deferred none)).heap.size = w.heap.size := by simp [World.putObj]
      refine h w' (e1.trans hg.os) (e2.trans hg.tape) (e3.trans hg.output) (e4.trans hs) (fun k hk => ?_)
      simp only [List.mem_cons, not_or] at hk
      exact (e5 k hk.2).trans (World.putObj_heap_other (fun e => hk.1 e))
section
variable {w : World} {N M : Nat} {room : Int} {B : Nat} {own : Nat → Option ByteArray} {G : ByteArray → Option Value} {Q : ByteArray → List S34}
/-- What a network owns is cells. -/
theorem NetG.trim (h : NetG w N M room B own G Q) : ∃ own', NetG w N M room B own' G Q ∧ (∀ k s, own' k = some s → own k = some s) ∧ ∀ k s, own' k = some s → ∃ cells t, w.heap[k]? = some (.cells cells t (0, 0)) := by
  classical
  refine ⟨fun k => if ∃ cells t, w.heap[k]? = some (.cells cells t (0, 0)) then own k else none, ⟨h.cells, h.map, fun s => ?_, h.room1, h.room2, h.few, h.baseN, h.baseM, fun k s hk => ?_, ?_, ?_, h.short⟩, fun k s hk => ?_, fun k s hk => ?_⟩
  · refine Kd.S_mono (Kd.S_bound (h.rows s)) (fun k hk => ?_)
    obtain ⟨hk, _, _, q, _, cells, hc⟩ := hk
    show (if _ then _ else _) = some s
    rw [if_pos ⟨cells, q, hc⟩]
    exact hk
  · change (if _ then _ else _) = _ at hk
    split at hk
    · exact h.lt k s hk
    · cases hk
  · split
    · exact h.notN
    · rfl
  · split
    · exact h.notM
    · rfl
  · change (if _ then _ else _) = _ at hk
    split at hk
    · exact hk
    · cases hk
  · change (if _ then _ else _) = _ at hk
    split at hk
    · assumption
    · cases hk
/-- A tenant may own more. -/
theorem NetG.wide (h : NetG w N M room B own G Q) (s : ByteArray) (T : Nat → Prop) [DecidablePred T] (hT : ∀ k, T k → own k = none ∧ B ≤ k ∧ k < w.heap.size ∧ k ≠ N ∧ k ≠ M) : NetG w N M room B (fun k => if T k then some s else own k) G Q where
  cells := h.cells
  map := h.map
  rows := fun t => Kd.S_mono (h.rows t) (fun k hk => by
    have hk' : own k = some t := hk
    rw [if_neg (fun e => by rw [(hT k e).1] at hk'; cases hk')]
    exact hk')
  room1 := h.room1
  room2 := h.room2
  few := h.few
  baseN := h.baseN
  baseM := h.baseM
  lt := fun k t hk => by
    by_cases hk2 : T k
    · exact ⟨(hT k hk2).2.1, (hT k hk2).2.2.1⟩
    · rw [if_neg hk2] at hk; exact h.lt k t hk
  notN := by
    rw [if_neg (fun e => (hT N e).2.2.2.1 rfl)]
    exact h.notN
  notM := by
    rw [if_neg (fun e => (hT M e).2.2.2.2 rfl)]
    exact h.notM
  short := h.short
end
/-- What the row's letters are in memory, letters apart. -/
theorem raws_sep {w : World} {base : Nat} {ok : Nat → Prop} {v : Value} {l : List S34} (h : Kd.S k34 34 w base ok v l) (hl : l.length ≤ 1000) :
    ∃ (zs : Nat → RawL) (f : Nat → Nat), RawRow w v l.length zs w.heap.size ∧ ∀ j, j < l.length → k34.M w base (fun k => (ok k ∧ some k ≠ v.ownBlock) ∧ f k = j) (l.getD j z34) (rawV (zs j)) := by
  obtain ⟨f, hf⟩ := h
  have hl0 : l.zipIdx.length = l.length := List.length_zipIdx
  have hall : ∀ j, ∃ r : RawL, j < l.length → (k34.M w base (fun k => (ok k ∧ some k ≠ v.ownBlock) ∧ f k = j) (l.getD j z34) (rawV r) ∧ ∃ b c, v = .slice (some ⟨b, 0, none⟩) l.length c ∧ b < w.heap.size ∧ w.cell? ⟨b, j * 2, none⟩ = some (.int .i64 r.t) ∧ w.cell? ⟨b, j * 2 + 1, none⟩ = some (.slice r.a r.n r.c)) := by
    intro j
    by_cases hj : j < l.length
    · obtain ⟨g, c, hv, _, hg, _⟩ := Kd.R_form hf (by omega)
      rw [hl0] at hv
      have h' := hf
      rw [hv] at h'
      obtain ⟨cs, hl2, hM0, hcell, _⟩ := Kd.R_elem h' (z34, 0) (j : Int) (by omega) (by omega)
      rw [Int.toNat_natCast] at hM0 hcell
      have hz : l.zipIdx.getD j (z34, 0) = (l.getD j z34, j) := by
        rw [List.getD_eq_getElem?_getD, List.getElem?_zipIdx, List.getElem?_eq_getElem (by omega), List.getD_eq_getElem?_getD, List.getElem?_eq_getElem (by omega), Nat.zero_add]
        rfl
      rw [hz] at hM0
      have hM : k34.M w base (fun k => (ok k ∧ k ≠ g) ∧ f k = j) (l.getD j z34) cs := hM0
      obtain ⟨v1, rfl, hv1⟩ := k34_openM hM
      obtain ⟨A1, c1, rfl⟩ := Kd.R_slice hv1
      refine ⟨⟨(l.getD j z34).f0, A1, (l.getD j z34).f1.length, c1⟩, fun _ => ⟨by rw [hv]; exact k34.M_mono (fun k hk => ⟨⟨hk.1.1, fun e => hk.1.2 (by simpa [Value.ownBlock] using e)⟩, hk.2⟩) hM, g, c, hv, hg, hcell 0 _ rfl, hcell 1 _ rfl⟩⟩
    · exact ⟨⟨0, none, 0, 0⟩, fun h => absurd h hj⟩
  refine ⟨fun j => Classical.choose (hall j), f, ?_, fun j hj => ((Classical.choose_spec (hall j)) hj).1⟩
  obtain ⟨A, c, hv, _, _⟩ := Kd.R_reads hf
  rw [hl0] at hv
  refine ⟨A, c, hv, by omega, fun hp => ?_⟩
  obtain ⟨b, c', hv', hb, _, _⟩ := ((Classical.choose_spec (hall 0)) hp).2
  rw [hv] at hv'
  injection hv' with e1 _ _
  subst e1
  refine ⟨b, rfl, hb, fun j hj => ?_, fun j hj => ?_⟩
  · obtain ⟨b', c'', hv'', _, h1, _⟩ := ((Classical.choose_spec (hall j)) hj).2
    rw [hv] at hv''
    injection hv'' with e1 _ _
    injection e1 with e1
    injection e1 with e1
    subst e1
    exact h1
  · obtain ⟨b', c'', hv'', _, _, h1⟩ := ((Classical.choose_spec (hall j)) hj).2
    rw [hv] at hv''
    injection hv'' with e1 _ _
    injection e1 with e1
    injection e1 with e1
    subst e1
    exact h1
end Go.Proofs.Ytlnipfmgdkiboaa.N
