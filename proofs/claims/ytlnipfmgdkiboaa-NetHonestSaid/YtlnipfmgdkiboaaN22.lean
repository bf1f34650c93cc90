/- The network by hand: the acts, as NetHonest takes them. -/
import Derived.Test.YtlnipfmgdkiboaaN21
import Derived.Test.YtlnipfmgdkiboaaN9
namespace Go.Proofs.Ytlnipfmgdkiboaa.N
open Go.RowKit Go.Proofs.Ytlnipfmgdkiboaa.Q Go.Proofs.YtlnipfmgdkiboaaW.PrintWords Go.Proofs.YtlnipfmgdkiboaaW.PrintLast Go.Proofs.YtlnipfmgdkiboaaW.PrintMore
set_option linter.unusedVariables false
set_option linter.unusedSimpArgs false
theorem size31 : (Try.prog.info? 31).map (·.size) = some 4 := by kernel_rfl
theorem size34 : (Try.prog.info? 34).map (·.size) = some 2 := by kernel_rfl
theorem range_blk {w : World} {B : Nat} {t : TypeId} {cs : List Value} (h : w.heap[B]? = some (.cells cs.toArray t (0, 0))) : w.rangeAt B 0 cs := fun j v hv => by
  rw [Nat.zero_add, blk_cell h j]
  simpa using hv
section
variable {ops : Array Oper} {rest : List Oper} {op : Oper} {a : Act} {w : World} {Q : Exit → Act → World → Prop}
theorem load_blk (hgd : op.guard = none) (t : TypeId) (x : Operand) (ho : op.op = .load t x) (B : Nat) (hx : a.eval x = .pointer (some ⟨B, 0, none⟩)) (cs : List Value) (h : w.heap[B]? = some (.cells cs.toArray t (0, 0))) (d : TypeDesc) (hu : Try.prog.underlying t = some d) (hd : d.isRow = true) (hi : (Try.prog.info? t).map (·.size) = some cs.length)
    (hk : wpList Try.prog ops Q rest (a.put op.dst (.agg cs.toArray)) w) : wpList Try.prog ops Q (op :: rest) a w :=
  wpList_load_mid hgd t x ho B 0 hx cs d (range_blk h) hu hd hi hk
theorem store_blk (hgd : op.guard = none) (t : TypeId) (x y : Operand) (ho : op.op = .store t x y) (B : Nat) (cs cs' : List Value) (hx : a.eval x = .pointer (some ⟨B, 0, none⟩)) (hy : a.eval y = .agg cs'.toArray) (h : w.heap[B]? = some (.cells cs.toArray t (0, 0))) (hl : cs'.length = cs.length) (hi : (Try.prog.info? t).map (·.size) = some cs'.length) (h1 : ∀ v ∈ cs', v.oneCell' = true)
    (hk : ∀ w1, w1.heap[B]? = some (.cells cs'.toArray t (0, 0)) → (∀ k, k ≠ B → w1.heap[k]? = w.heap[k]?) → (∀ W : World, W.heap.size ≤ B → Below W.heap.size W w → Below W.heap.size W w1) → wpList Try.prog ops Q rest (a.put op.dst undef) w1) : wpList Try.prog ops Q (op :: rest) a w := by
  have hsz : (cs'.toArray).size = cs'.length := by simp
  refine wpList_store_mid hgd t x y ho B 0 cs'.toArray hx hy (fun j hj => ?_) (by rw [hsz]; exact hi) (all_oneCell_toArray h1) ?_
  · rw [Nat.zero_add]
    refine ⟨?_, blk_frozen h j⟩
    rw [blk_cell h j]
    simp
    rw [hsz] at hj
    omega
  · obtain ⟨cur', h3, h4, h5⟩ := setCells_row cs' 0 w cs.toArray h (by simp; omega)
    obtain ⟨s1, s2, s3, s4⟩ := setCells_same B cs' 0 w
    have e : cur' = cs'.toArray := by
      have : cur'.toList = cs' := by rw [h5]; simp; omega
      rw [← this]
    rw [e] at h3
    refine hk _ h3 (fun k hne => setCells_far _ _ k hne) (fun W hW hb => ?_)
    exact ⟨s1.trans hb.os, s2.trans hb.tape, s3.trans hb.output, by rw [s4]; exact hb.size, fun k hk => (setCells_far _ _ k (by omega)).trans (hb.block k hk)⟩
end
/-- An act's cells; a letter's. -/
def opL (d : Int) (s : ByteArray) (A : Option Addr) (n c : Nat) (i : Int) : List Value := [.int .i64 d, .string s, .slice A n c, .int .i64 i]
theorem opL_one (d : Int) (s : ByteArray) (A : Option Addr) (n c : Nat) (i : Int) : ∀ v ∈ opL d s A n c i, v.oneCell' = true := by
  intro v hv
  simp only [opL, List.mem_cons, List.not_mem_nil, or_false] at hv
  rcases hv with rfl | rfl | rfl | rfl <;> rfl
def leL (t : Int) (A : Option Addr) (n c : Nat) : List Value := [.int .i64 t, .slice A n c]
theorem leL_one (t : Int) (A : Option Addr) (n c : Nat) : ∀ v ∈ leL t A n c, v.oneCell' = true := by
  intro v hv
  simp only [leL, List.mem_cons, List.not_mem_nil, or_false] at hv
  rcases hv with rfl | rfl <;> rfl
theorem cellsO {w : World} {X : Nat} {d : Int} {s : ByteArray} {A : Option Addr} {n c : Nat} {i : Int} (h : w.heap[X]? = some (.cells (opL d s A n c i).toArray 31 (0, 0))) : w.cell? ⟨X, 0, none⟩ = some (.int .i64 d) ∧ w.cell? ⟨X, 1, none⟩ = some (.string s) ∧ w.cell? ⟨X, 2, none⟩ = some (.slice A n c) ∧ w.cell? ⟨X, 3, none⟩ = some (.int .i64 i) :=
  ⟨(blk_cell h 0).trans rfl, (blk_cell h 1).trans rfl, (blk_cell h 2).trans rfl, (blk_cell h 3).trans rfl⟩
theorem cellsL {w : World} {X : Nat} {t : Int} {A : Option Addr} {n c : Nat} (h : w.heap[X]? = some (.cells (leL t A n c).toArray 34 (0, 0))) : w.cell? ⟨X, 0, none⟩ = some (.int .i64 t) ∧ w.cell? ⟨X, 1, none⟩ = some (.slice A n c) :=
  ⟨(blk_cell h 0).trans rfl, (blk_cell h 1).trans rfl⟩
section
variable {w W : World} {N M : Nat} {room : Int} {own : Nat → Option ByteArray} {Q : ByteArray → List S34} {vs vt : Value} {sn tk : List S34}
/-- What no act turns stays, and stays so. -/
def Keep (W : World) (M : Nat) (own : Nat → Option ByteArray) (W' : World) (own' : Nat → Option ByteArray) : Prop := ∀ k, Free W M own k → k < W.heap.size → W'.heap[k]? = W.heap[k]? ∧ Free W' M own' k
theorem HonM.kk (h : HonM w W N M room own Q vs vt sn tk) (s : ByteArray) (n : Nat) : ∃ kk : Nat, kk = min n (room - (Q s).length).toNat ∧ kk ≤ n ∧ kk ≤ 256 ∧ (kk = n ∨ ((Q s).length : Int) + kk = room) := by
  obtain ⟨G, hN⟩ := h.net
  have h1 := hN.room1
  have h2 := hN.room2
  have h3 := hN.few s
  exact ⟨_, rfl, by omega, by omega, by omega⟩
theorem HonM.send (h : HonM w W N M room own Q vs vt sn tk) (s : ByteArray) (ht : tenant s = true) {A : Option Addr} {n c : Nat} {ls : List S34} (hF : Kd.F k34 w (fun k => k < w.heap.size) A n ls) (hn : n = ls.length) (hc : n ≤ c) (hsh : ∀ x ∈ ls, x.f1.length < 140737488355328) {kk : Nat} (hkk : kk = min n (room - (Q s).length).toNat) :
    Calls Try.prog 10 #[.pointer (some ⟨N, 0, none⟩), .string s, .slice A n c] W fun e W' => e = .returned (.tuple #[.int .i64 kk, .int .i64 0]) ∧ ∃ own', HonM w W' N M room own' (setQ Q s (Q s ++ ls.take kk)) vs vt sn tk ∧ Keep W M own W' own' := by
  subst hn
  subst hkk
  obtain ⟨G, hN⟩ := h.net
  have hk : sendK room Q s ls = min ls.length (room - (Q s).length).toNat := by simp [sendK, ht]
  refine (send_any hN s A c ls (fun w' hc' => Kd.F_now (Kd.F_below hF (hc'.onto h.below (Nat.le_refl _) (fun k e => e.elim (fun e => e ▸ hN.baseM) (fun e => (hN.lt k _ e).1))))) hc hsh).mono fun e W' ⟨he, own', hL⟩ => ⟨?_, own', ?_⟩
  · rw [he, hk]; simp [sendE, ht]
  · have := h.left hL
    rw [sendQ, if_pos ht, hk] at this
    exact ⟨this, fun k hk hlt => Free.left hL hk hlt⟩
theorem HonM.len (h : HonM w W N M room own Q vs vt sn tk) (s : ByteArray) {m : Int} (hm : ((Q s).length : Int) = m) : Calls Try.prog 15 #[.pointer (some ⟨N, 0, none⟩), .string s] W fun e W' => e = .returned (.int .i64 m) ∧ W' = W := by
  obtain ⟨G, hN⟩ := h.net
  rw [← hm]
  exact len_calls hN s
theorem HonM.take (h : HonM w W N M room own Q vs vt sn tk) (s : ByteArray) (i : Int) {X : S34} {E : Int} {nn : Nat} (hX : takeX Q s i = X) (hE : takeE Q s i = E) (hn : X.f1.length = nn) :
    Calls Try.prog 11 #[.pointer (some ⟨N, 0, none⟩), .string s, .int .i64 i] W fun e W' => ∃ own' A1 c1, e = .returned (.tuple #[.agg #[.int .i64 X.f0, .slice A1 nn c1], .int .i64 E]) ∧ HonM w W' N M room own' (takeQ Q s i) vs vt sn tk ∧ Keep W M own W' own' ∧ Kd.FK k34 W' (fun k => ∃ cells, W'.heap[k]? = some (Obj.cells cells 5 (0, 0))) X [.int .i64 X.f0, .slice A1 nn c1] := by
  subst hX; subst hE; subst hn
  obtain ⟨G, hN⟩ := h.net
  refine (take_any hN s i).mono fun e W' ⟨own', A1, c1, he, hL, hM⟩ => ⟨own', A1, c1, he, h.left hL, fun k hk hlt => Free.left hL hk hlt, Kd.FK_of_M (k34.M_mono (fun k hk => ?_) (k34.M_bound hM))⟩
  obtain ⟨_, _, _, q, hq, cells, hc⟩ := hk
  rw [(by decide : ∀ q ∈ k34.E, q = 5) q hq] at hc
  exact ⟨cells, hc⟩
theorem HonM.drop (h : HonM w W N M room own Q vs vt sn tk) (s : ByteArray) (i : Int) {E : Int} (hE : takeE Q s i = E) :
    Calls Try.prog 12 #[.pointer (some ⟨N, 0, none⟩), .string s, .int .i64 i] W fun e W' => e = .returned (.int .i64 E) ∧ ∃ own', HonM w W' N M room own' (takeQ Q s i) vs vt sn tk ∧ Keep W M own W' own' := by
  subst hE
  obtain ⟨G, hN⟩ := h.net
  exact (drop_any hN s i).mono fun e W' ⟨he, own', hL⟩ => ⟨he, own', h.left hL, fun k hk hlt => Free.left hL hk hlt⟩
theorem HonM.double (h : HonM w W N M room own Q vs vt sn tk) (s : ByteArray) (i : Int) {E : Int} (hE : doubleE room Q s i = E) :
    Calls Try.prog 13 #[.pointer (some ⟨N, 0, none⟩), .string s, .int .i64 i] W fun e W' => e = .returned (.int .i64 E) ∧ ∃ own', HonM w W' N M room own' (doubleQ room Q s i) vs vt sn tk ∧ Keep W M own W' own' := by
  subst hE
  obtain ⟨G, hN⟩ := h.net
  exact (double_any hN s i).mono fun e W' ⟨he, own', hL⟩ => ⟨he, own', h.left hL, fun k hk hlt => Free.left hL hk hlt⟩
theorem HonM.tenants (h : HonM w W N M room own Q vs vt sn tk) {st : St} (hr : Rep Q st) (hf : st.length ≤ 1000) {m : Nat} (hm : m = st.length) : Calls Try.prog 19 #[.pointer (some ⟨N, 0, none⟩)] W fun e W' => ∃ A c, e = .returned (.slice A m c) ∧ Kd.F Kd.string W' (fun k => (Free W' M own k ∧ some k ≠ vs.ownBlock) ∧ some k ≠ vt.ownBlock) A m (st.map (·.f0)) ∧ HonM w W' N M room own Q vs vt sn tk ∧ Below W.heap.size W W' := by
  subst hm
  obtain ⟨G, hN⟩ := h.net
  refine (tenants_calls hN hr hf).mono fun e W' ⟨v, he, hR, hb⟩ => ?_
  obtain ⟨A, c, hv, _, _⟩ := Kd.R_reads hR
  rw [List.length_map] at hv
  rw [hv] at hR
  refine ⟨A, c, by rw [he, hv], Kd.F_mono (Kd.R_F hR) (fun k hk => ?_), h.then_ hb, hb⟩
  have := h.fresh hk
  refine ⟨⟨?_, this.2.1⟩, this.2.2⟩
  rcases this.1 with e | ⟨cells, e⟩
  · exact .inl e
  · have := heap_lt e; omega
/-- A tenant's letters, as All tells them. -/
theorem HonM.all (h : HonM w W N M room own Q vs vt sn tk) (s : ByteArray) : Calls Try.prog 17 #[.pointer (some ⟨N, 0, none⟩), .string s] W fun e W' => ∃ Bs v, e = .returned (.func (.func 30) #[] #[.pointer (some ⟨Bs, 0, none⟩)]) ∧ W'.heap[Bs]? = some (.cells #[v] 29 (0, 0)) ∧ k34.R 34 W' W.heap.size (fun k => W.heap.size ≤ k) v (Q s) ∧ HonM w W' N M room own Q vs vt sn tk ∧ Below W.heap.size W W' := by
  obtain ⟨G, hN⟩ := h.net
  exact (all_calls hN s).mono fun e W' ⟨Bs, v, he, hx, hge, hR, hb⟩ => ⟨Bs, v, he, hx, hR, h.then_ hb, hb⟩
theorem HonM.told (h : HonM w W N M room own Q vs vt sn tk) {W0 : World} (h0 : HonM w W0 N M room own Q vs vt sn tk) (hb0 : Below W0.heap.size W0 W) {Bs : Nat} {v : Value} {ls : List S34} {n : Nat} (hx : W.heap[Bs]? = some (.cells #[v] 29 (0, 0))) (hR : k34.R 34 W W0.heap.size (fun k => W0.heap.size ≤ k) v ls) (hl : ls.length ≤ 1000) (hn : n = ls.length) :
    Calls Try.prog 16 #[.func (.func 30) #[] #[.pointer (some ⟨Bs, 0, none⟩)], .int .i64 1048576] W fun e W' => ∃ A c, e = .returned (.tuple #[.slice A n c, .bool true]) ∧ n ≤ c ∧ Kd.F k34 W' (fun k => Free W' M own k ∧ some k ≠ vs.ownBlock ∧ some k ≠ vt.ownBlock) A n ls ∧ HonM w W' N M room own Q vs vt sn tk ∧ Below W.heap.size W W' := by
  subst hn
  refine (callsIn_wide.1 (told_in hx hR hl hb0.size 1048576 (by decide) (by decide))).mono fun e W' ⟨v', he, hR', hB⟩ => ?_
  rw [List.take_of_length_le (by omega)] at hR'
  obtain ⟨A, c, rfl, hc, _⟩ := Kd.R_reads hR'
  refine ⟨A, c, he, hc, Kd.F_mono (Kd.R_F hR') (fun k hk => ?_), h.then_ hB, hB⟩
  have hk0 : W0.heap.size ≤ k := hk.elim id (fun e => Nat.le_trans hb0.size e)
  have := h0.fresh hk0
  refine ⟨?_, this.2⟩
  rcases this.1 with e | ⟨cells, e⟩
  · exact .inl e
  · have := heap_lt e; omega
/-- .. with a block beside it. -/
structure HonX (w W : World) (N M : Nat) (room : Int) (own : Nat → Option ByteArray) (Q : ByteArray → List S34) (vs vt : Value) (sn tk : List S34) (X : Nat) (cs : List Value) (t : TypeId) : Prop where
  m : HonM w W N M room own Q vs vt sn tk
  fr : Free W M own X
  blk : W.heap[X]? = some (.cells cs.toArray t (0, 0))
theorem HonX.then_ {W' : World} {X : Nat} {cs : List Value} {t : TypeId} (h : HonX w W N M room own Q vs vt sn tk X cs t) (hb : Below W.heap.size W W') : HonX w W' N M room own Q vs vt sn tk X cs t :=
  ⟨h.m.then_ hb, h.fr.same (hb.block X (heap_lt h.blk)), (hb.block X (heap_lt h.blk)).trans h.blk⟩
theorem HonX.keep {W' : World} {own' : Nat → Option ByteArray} {Q' : ByteArray → List S34} {vs' vt' : Value} {sn' tk' : List S34} {X : Nat} {cs : List Value} {t : TypeId} (h : HonX w W N M room own Q vs vt sn tk X cs t) (hm : HonM w W' N M room own' Q' vs' vt' sn' tk') (hk : Keep W M own W' own') : HonX w W' N M room own' Q' vs' vt' sn' tk' X cs t :=
  ⟨hm, (hk X h.fr (heap_lt h.blk)).2, (hk X h.fr (heap_lt h.blk)).1.trans h.blk⟩
/-- A block that has just been made. -/
theorem HonX.made (h : HonM w W N M room own Q vs vt sn tk) {W' : World} {X : Nat} (hX : W.heap.size ≤ X) (hb : Below W.heap.size W W') {cs : List Value} {t : TypeId} (hc : W'.heap[X]? = some (.cells cs.toArray t (0, 0))) : HonX w W' N M room own Q vs vt sn tk X cs t := by
  refine ⟨h.then_ hb, ?_, hc⟩
  rcases (h.fresh hX).1 with e | ⟨cells, e⟩
  · exact .inl e
  · have := heap_lt e; omega
end
end Go.Proofs.Ytlnipfmgdkiboaa.N
