import Derived.Test.YtlnipfmgdkiboaaNJ
/- The document's network by hand: each act, as the network's own (N14). -/
namespace Go.Proofs.Ytlnipfmgdkiboaa.N
open Go.RowKit Go.Proofs.Ytlnipfmgdkiboaa.Q Go.Proofs.YtlnipfmgdkiboaaW.PrintWords Go.Proofs.YtlnipfmgdkiboaaW.PrintLast Go.Proofs.YtlnipfmgdkiboaaW.PrintMore
set_option linter.unusedVariables false
set_option linter.unusedSimpArgs false
/-- The document's network that holds the letters Q. -/
structure RefQ (w : World) (B g : Nat) (room : Int) (ok : Nat → Prop) (Q : ByteArray → List S34) (n : Nat) : Prop where
  ex : ∃ v st, RefG w B g room ok v st ∧ Rep Q st ∧ st.length ≤ n
  room1 : 1 ≤ room
  room2 : room ≤ 256
  few : ∀ s, ((Q s).length : Int) ≤ room
section
variable {w : World} {B g : Nat} {room : Int} {ok : Nat → Prop} {Q : ByteArray → List S34} {n : Nat}
theorem RefQ.move {w' : World} {ok' : Nat → Prop} (h : RefQ w B g room ok Q n) (hm : ∀ k, ok k → k < w.heap.size → w'.heap[k]? = w.heap[k]?) (ho : ∀ k, ok k → k < w.heap.size → ok' k) : RefQ w' B g room ok' Q n := by
  obtain ⟨v, st, hG, hR, hn⟩ := h.ex
  exact ⟨⟨v, st, hG.move hm ho, hR, hn⟩, h.room1, h.room2, h.few⟩
theorem RefQ.below {w' : World} (h : RefQ w B g room ok Q n) (hb : Below w.heap.size w w') : RefQ w' B g room ok Q n := h.move (fun k _ hk => hb.block k hk) (fun _ hk _ => hk)
theorem RefQ.more {m : Nat} (h : RefQ w B g room ok Q n) (hm : n ≤ m) : RefQ w B g room ok Q m := by
  obtain ⟨v, st, hG, hR, hn⟩ := h.ex
  exact ⟨⟨v, st, hG, hR, by omega⟩, h.room1, h.room2, h.few⟩
theorem chg_same (w : World) (S : Nat → Prop) {w' : World} (hb : Below w.heap.size w w') : Chg S w w' := Chg.of_below S hb
theorem rsend_any (h : RefQ w B g room ok Q n) (hn : n ≤ 999) (hfr : ∀ k, w.heap.size ≤ k → ok k) (s : ByteArray) (hss : s.size ≤ 9223372036854775807) {A : Option Addr} {m c : Nat} {ls : List S34} (hC : Kd.C k34 w A m ls) (hm : m = ls.length) (hc : m ≤ c) (hsh : ∀ x ∈ ls, x.f1.length < 140737488355328) {kk : Nat} {E : Int} (hkk : sendK room Q s ls = kk) (hE : sendE s = E) :
    Calls Try.prog 34 #[.pointer (some ⟨g, 0, none⟩), .string s, .slice A m c] w fun e w' => e = .returned (.tuple #[.int .i64 kk, .int .i64 E]) ∧ RefQ w' B g room ok (sendQ room Q s ls) (n + 1) ∧ Chg (fun k => k = g) w w' := by
  subst hkk; subst hE
  obtain ⟨v, st, hG, hR, hst⟩ := h.ex
  cases ht : tenant s with
  | false =>
    refine (rsend_bad s hss ht _ A m c w).mono fun e w' ⟨he, hb⟩ => ⟨?_, ?_, chg_same w _ hb⟩
    · rw [he]; simp [sendK, sendE, ht]
    · have := (h.below hb).more (Nat.le_succ n)
      simpa [sendQ, ht] using this
  | true =>
    have hs := hR.of s
    have h1 := h.room1
    have h2 := h.few s
    have hk : sendK room Q s ls = min m (room - (ofSt st s).length).toNat := by rw [← hs, hm]; simp [sendK, ht]
    refine (rsend_calls hG hfr hR.sorted (by omega) h1 h.room2 s hss ht (by rw [← hs]; exact h2) hC hm hc hsh hk).mono fun e w' ⟨he, v', hG', hC'⟩ => ⟨?_, ⟨⟨v', _, hG', ?_, ?_⟩, h1, h.room2, fun t => ?_⟩, hC'⟩
    · rw [he]; simp [sendE, ht]
    · rw [sendQ, if_pos ht, ← hs]; exact hR.set s _
    · have := (hR.total s (ofSt st s ++ ls.take (sendK room Q s ls))).2; omega
    · rw [sendQ, if_pos ht]
      unfold setQ
      split
      · rw [List.length_append, List.length_take, hk, ← hs]; omega
      · exact h.few t
theorem few_take (hf : ∀ s, ((Q s).length : Int) ≤ room) (s : ByteArray) (i : Int) : ∀ t, ((takeQ Q s i t).length : Int) ≤ room := fun t => by
  unfold takeQ
  split
  · unfold setQ
    split
    · have := hf s; rw [List.length_append, List.length_take, List.length_drop]; omega
    · exact hf t
  · exact hf t
theorem rtake_any (h : RefQ w B g room ok Q n) (hn : n ≤ 999) (hfr : ∀ k, w.heap.size ≤ k → ok k) (s : ByteArray) (i : Int) {X : S34} {E : Int} {nn : Nat} (hX : takeX Q s i = X) (hE : takeE Q s i = E) (hnn : nn = X.f1.length) :
    Calls Try.prog 36 #[.pointer (some ⟨g, 0, none⟩), .string s, .int .i64 i] w fun e w' => ∃ A1 c1, e = .returned (.tuple #[.agg #[.int .i64 X.f0, .slice A1 nn c1], .int .i64 E]) ∧ nn ≤ c1 ∧ Kd.F (Kd.int .u8) w' (fun k => ok k ∧ k ≠ g) A1 nn X.f1 ∧ RefQ w' B g room ok (takeQ Q s i) (n + 1) ∧ Chg (fun k => k = g) w w' := by
  obtain ⟨v, st, hG, hR, hst⟩ := h.ex
  have hs := hR.of s
  by_cases hi : 0 ≤ i ∧ i < (Q s).length
  · obtain ⟨j, rfl⟩ := Int.eq_ofNat_of_zero_le hi.1
    have hj : j < (Q s).length := by omega
    have h2 := h.few s
    have h3 := h.room2
    have hx : (ofSt st s).getD j z34 = X := by rw [← hX, takeX, if_pos hi, hs, Int.toNat_natCast]
    have hE' : E = 0 := by rw [← hE, takeE, if_pos hi]
    subst hE'
    refine (rtake_in hG hfr hR.sorted (by omega) s (by rw [← hs]; omega) j (by rw [← hs]; exact hj) hx hnn).mono fun e w' ⟨A1, c1, he, hc1, hF, v', hG', hC'⟩ => ⟨A1, c1, he, hc1, hF, ⟨⟨v', _, hG', ?_, ?_⟩, h.room1, h.room2, few_take h.few s _⟩, hC'⟩
    · rw [takeQ, if_pos hi, Int.toNat_natCast, ← hs]; exact hR.set s _
    · have := (hR.total s ((ofSt st s).take j ++ (ofSt st s).drop (j + 1))).2; omega
  · have hx : X = z34 := by rw [← hX, takeX, if_neg hi]
    have hE' : E = 4 := by rw [← hE, takeE, if_neg hi]
    subst hE'; subst hx
    have hn0 : nn = 0 := hnn
    subst hn0
    refine (rtake_out hG (by omega) s i (by rw [← hs]; exact hi)).mono fun e w' ⟨he, hb⟩ => ⟨none, 0, he, Nat.le_refl _, Kd.F_nil _ _ _, ?_, chg_same w _ hb⟩
    rw [takeQ, if_neg hi]
    exact (h.below hb).more (Nat.le_succ n)
set_option maxHeartbeats 1000000 in
set_option maxRecDepth 100000 in
theorem rdrop_any (h : RefQ w B g room ok Q n) (hn : n ≤ 999) (hfr : ∀ k, w.heap.size ≤ k → ok k) (s : ByteArray) (i : Int) {E : Int} (hE : takeE Q s i = E) :
    Calls Try.prog 37 #[.pointer (some ⟨g, 0, none⟩), .string s, .int .i64 i] w fun e w' => e = .returned (.int .i64 E) ∧ RefQ w' B g room ok (takeQ Q s i) (n + 1) ∧ Chg (fun k => k = g) w w' := by
  have HH := Aside0.mk h
  have HN := Aside0.mk hn
  have HFR := Aside0.mk hfr
  have HE := Aside0.mk hE
  obtain ⟨X, hX⟩ : ∃ X, takeX Q s i = X := ⟨_, rfl⟩
  obtain ⟨nn, hnn⟩ : ∃ m : Nat, m = X.f1.length := ⟨_, rfl⟩
  have HX := Aside0.mk (And.intro hX hnn)
  clear h hn hfr hE hX hnn
  go_enter Try.func37, Try.ntmps37
  go_wp2_with (first
    | (go_at_call 36; (with_reducible refine (rtake_any HH.out HN.out HFR.out s i HX.out.1 HE.out HX.out.2).mono ?_); rintro e w1 ⟨A1, c1, rfl, hc1, hF, hR, hC⟩; have HR1 := Aside0.mk hR; have HC1 := Aside0.mk hC; clear hc1 hF hR hC)
    | ((with_reducible refine gate_dst (N := 7) rfl ?_); refine box_event ?hg (N := 7) ?hd (cs := (leL 0 none 0 0).toArray) (t := 34) ?hr ?_; (case hd => rfl); (case hg => rfl); (case hr => first | (go_simp; done) | (go_simp; rfl)); intro X7 hX7 w2 hx2 hb2; have H2 := Aside0.mk (And.intro hx2 (And.intro hb2 (show w1.heap.size ≤ X7 by omega))); clear hX7 hx2 hb2)
    | ((with_reducible refine gate_ (.store 34 (.tmp 7) (.tmp 14)) rfl ?_); refine store_blk rfl 34 (.tmp 7) (.tmp 14) rfl X7 (leL 0 none 0 0) (leL X.f0 A1 nn c1) rfl rfl H2.out.1 rfl size34 (leL_one _ _ _ _) ?_; intro w3 ha hka hba; have HB3 := Aside0.mk (hba w1 H2.out.2.2 H2.out.2.1); clear ha hka hba))
  go_ret
  exact ⟨rfl, HR1.out.below HB3.out, HC1.out.trans (Chg.of_below (fun _ => False) HB3.out) (fun _ _ e => e) (fun _ _ e => e.elim)⟩
theorem few_double (hf : ∀ s, ((Q s).length : Int) ≤ room) (s : ByteArray) (i : Int) : ∀ t, ((doubleQ room Q s i t).length : Int) ≤ room := fun t => by
  unfold doubleQ
  split
  · split
    · unfold setQ
      split
      · rw [List.length_append, List.length_singleton]; omega
      · exact hf t
    · exact hf t
  · exact hf t
theorem rdouble_any (h : RefQ w B g room ok Q n) (hn : n ≤ 999) (hfr : ∀ k, w.heap.size ≤ k → ok k) (s : ByteArray) (i : Int) {E : Int} (hE : doubleE room Q s i = E) :
    Calls Try.prog 38 #[.pointer (some ⟨g, 0, none⟩), .string s, .int .i64 i] w fun e w' => e = .returned (.int .i64 E) ∧ RefQ w' B g room ok (doubleQ room Q s i) (n + 1) ∧ Chg (fun k => k = g) w w' := by
  subst hE
  obtain ⟨v, st, hG, hR, hst⟩ := h.ex
  have hs := hR.of s
  by_cases hi : 0 ≤ i ∧ i < (Q s).length
  · by_cases hf : ((Q s).length : Int) < room
    · obtain ⟨j, rfl⟩ := Int.eq_ofNat_of_zero_le hi.1
      have hj : j < (Q s).length := by omega
      have h3 := h.room2
      refine (rdouble_in hG hfr hR.sorted (by omega) s (by rw [← hs]; omega) j (by rw [← hs]; exact hj) (by rw [← hs]; exact hf) rfl).mono fun e w' ⟨he, v', hG', hC'⟩ => ⟨?_, ⟨⟨v', _, hG', ?_, ?_⟩, h.room1, h.room2, few_double h.few s _⟩, hC'⟩
      · rw [he, doubleE, if_pos hi, if_pos hf]
      · rw [doubleQ, if_pos hi, if_pos hf, Int.toNat_natCast, ← hs]; exact hR.set s _
      · have := (hR.total s (ofSt st s ++ [(ofSt st s).getD j z34])).2; omega
    · refine (rdouble_full hG (by omega) s i hi.1 (by rw [← hs]; exact hi.2) (by rw [← hs]; omega)).mono fun e w' ⟨he, hb⟩ => ⟨?_, ?_, chg_same w _ hb⟩
      · rw [he, doubleE, if_pos hi, if_neg hf]
      · rw [doubleQ, if_pos hi, if_neg hf]; exact (h.below hb).more (Nat.le_succ n)
  · refine (rdouble_out hG (by omega) s i (by rw [← hs]; exact hi)).mono fun e w' ⟨he, hb⟩ => ⟨?_, ?_, chg_same w _ hb⟩
    · rw [he, doubleE, if_neg hi]
    · rw [doubleQ, if_neg hi]; exact (h.below hb).more (Nat.le_succ n)
end
end Go.Proofs.Ytlnipfmgdkiboaa.N
/- NetDoes by hand: the network and the document's, side by side; what each act leaves of both. -/
namespace Go.Proofs.Ytlnipfmgdkiboaa.N
open Go.RowKit Go.Proofs.Ytlnipfmgdkiboaa.Q Go.Proofs.YtlnipfmgdkiboaaW.PrintWords Go.Proofs.YtlnipfmgdkiboaaW.PrintLast Go.Proofs.YtlnipfmgdkiboaaW.PrintMore
set_option linter.unusedVariables false
set_option linter.unusedSimpArgs false
/-- A block that is none of the network's. -/
def Out (own : Nat → Option ByteArray) (N M : Nat) (k : Nat) : Prop := own k = none ∧ k ≠ N ∧ k ≠ M
/-- The network and the document's hold letters (Qn, Q); I: blocks that will be spoilt, none of theirs. -/
structure Duo (w W : World) (N M : Nat) (room : Int) (own : Nat → Option ByteArray) (g : Nat) (Qn Q : ByteArray → List S34) (n : Nat) (I : Nat → Prop) : Prop where
  net : ∃ G, NetG W N M room w.heap.size own G Qn
  ref : RefQ W w.heap.size g room (fun k => Out own N M k ∧ ¬ I k) Q n
  below : Below w.heap.size w W
  hid : ∀ k, I k → k < W.heap.size ∧ Out own N M k
/-- What no act turns. -/
def Keep2 (W : World) (N M g : Nat) (own : Nat → Option ByteArray) (W' : World) (own' : Nat → Option ByteArray) : Prop := ∀ k, Out own N M k → k ≠ g → k < W.heap.size → W'.heap[k]? = W.heap[k]? ∧ Out own' N M k
section
variable {w W : World} {N M g : Nat} {room : Int} {own : Nat → Option ByteArray} {Qn Q : ByteArray → List S34} {n : Nat} {I : Nat → Prop}
theorem Duo.fresh (h : Duo w W N M room own g Qn Q n I) {k : Nat} (hk : W.heap.size ≤ k) : Out own N M k ∧ ¬ I k := by
  obtain ⟨G, hN⟩ := h.net
  refine ⟨⟨?_, fun e => by have := heap_lt hN.cells; omega, fun e => by have := hN.map.lt; omega⟩, fun e => by have := (h.hid k e).1; omega⟩
  cases ho : own k with
  | none => rfl
  | some t => have := (hN.lt k t ho).2; omega
theorem Duo.elder (h : Duo w W N M room own g Qn Q n I) {k : Nat} (hk : k < w.heap.size) : Out own N M k := by
  obtain ⟨G, hN⟩ := h.net
  refine ⟨?_, fun e => by have := hN.baseN; omega, fun e => by have := hN.baseM; omega⟩
  cases ho : own k with
  | none => rfl
  | some t => have := (hN.lt k t ho).1; omega
theorem Duo.g_ (h : Duo w W N M room own g Qn Q n I) : Out own N M g ∧ ¬ I g ∧ w.heap.size ≤ g ∧ g < W.heap.size := by
  obtain ⟨v, st, hG, _⟩ := h.ref.ex
  exact ⟨hG.okg.1, hG.okg.2, hG.gB, heap_lt hG.cells⟩
theorem Duo.then_ {W' : World} (h : Duo w W N M room own g Qn Q n I) (hb : Below W.heap.size W W') : Duo w W' N M room own g Qn Q n I := by
  obtain ⟨G, hN⟩ := h.net
  exact ⟨⟨G, hN.below hb⟩, h.ref.below hb, h.below.trans (hb.mono h.below.size), fun k hk => ⟨Nat.lt_of_lt_of_le (h.hid k hk).1 hb.size, (h.hid k hk).2⟩⟩
theorem Keep2.then_ {W' : World} (hb : Below W.heap.size W W') : Keep2 W N M g own W' own := fun k ho _ hk => ⟨hb.block k hk, ho⟩
theorem Keep2.trans {W' W'' : World} {own' own'' : Nat → Option ByteArray} (h1 : Keep2 W N M g own W' own') (hs : W.heap.size ≤ W'.heap.size) (h2 : Keep2 W' N M g own' W'' own'') : Keep2 W N M g own W'' own'' := fun k ho hg hk => by
  obtain ⟨e1, o1⟩ := h1 k ho hg hk
  obtain ⟨e2, o2⟩ := h2 k o1 hg (by omega)
  exact ⟨e2.trans e1, o2⟩
theorem Duo.more {m : Nat} (h : Duo w W N M room own g Qn Q n I) (hm : n ≤ m) : Duo w W N M room own g Qn Q m I := ⟨h.net, h.ref.more hm, h.below, h.hid⟩
/-- What is made from here on is hidden. -/
theorem Duo.hide {W' : World} (h : Duo w W N M room own g Qn Q n (fun _ => False)) (hb : Below W.heap.size W W') : Duo w W' N M room own g Qn Q n (fun k => W.heap.size ≤ k ∧ k < W'.heap.size) := by
  obtain ⟨G, hN⟩ := h.net
  exact ⟨⟨G, hN.below hb⟩, h.ref.move (fun k _ hk => hb.block k hk) (fun k hk hlt => ⟨hk.1, fun e => by omega⟩), h.below.trans (hb.mono h.below.size), fun k hk => ⟨hk.2, (h.fresh hk.1).1⟩⟩
/-- The hidden blocks have been spoilt. -/
theorem Duo.spoilt {W' : World} {T : Nat → Prop} (h : Duo w W N M room own g Qn Q n I) (hs : Spoilt T W W') (hT : ∀ k, T k → I k) (hI : ∀ k, I k → w.heap.size ≤ k) : Duo w W' N M room own g Qn Q n (fun _ => False) := by
  obtain ⟨G, hN⟩ := h.net
  refine ⟨⟨G, hN.move hs.size (fun k hk hw => hs.block k hk (fun e => ?_))⟩, h.ref.move (fun k hk hlt => hs.block k hlt (fun e => hk.2 (hT k e))) (fun k hk _ => ⟨hk.1, fun e => e⟩), ⟨hs.os.trans h.below.os, hs.tape.trans h.below.tape, hs.output.trans h.below.output, Nat.le_trans h.below.size hs.size, fun k hk => (hs.block k (Nat.lt_of_lt_of_le hk h.below.size) (fun e => by have := hI k (hT k e); omega)).trans (h.below.block k hk)⟩, fun k e => e.elim⟩
  have ho := (h.hid k (hT k e)).2
  rcases hw with hw | hw | hw
  · exact ho.2.1 hw
  · exact ho.2.2 hw
  · exact hw ho.1
/-- An act of the network alone. -/
theorem Duo.left {W' : World} {own' : Nat → Option ByteArray} {s : ByteArray} {Q' : ByteArray → List S34} (h : Duo w W N M room own g Qn Q n I) (hl : Left W N M room w.heap.size own s Q' own' W') : Duo w W' N M room own' g Q' Q n I ∧ Keep2 W N M g own W' own' ∧ (∀ k, Out own N M k → k < W.heap.size → W'.heap[k]? = W.heap[k]?) ∧ W.heap.size ≤ W'.heap.size := by
  obtain ⟨G, hN⟩ := h.net
  have hb := hl.below hN h.below rfl
  obtain ⟨G', hN', hC, hO⟩ := hl
  have hk : ∀ k, Out own N M k → k < W.heap.size → W'.heap[k]? = W.heap[k]? ∧ Out own' N M k := fun k ho hlt =>
    ⟨hC.block k hlt (fun e => e.elim (fun e => ho.2.2 e) (fun e => by rw [ho.1] at e; cases e)), (hO k hlt).trans ho.1, ho.2⟩
  exact ⟨⟨⟨G', hN'⟩, h.ref.move (fun k ho hlt => (hk k ho.1 hlt).1) (fun k ho hlt => ⟨(hk k ho.1 hlt).2, ho.2⟩), hb, fun k hi => ⟨Nat.lt_of_lt_of_le (h.hid k hi).1 hC.size, (hk k (h.hid k hi).2 (h.hid k hi).1).2⟩⟩, fun k ho _ hlt => hk k ho hlt, fun k ho hlt => (hk k ho hlt).1, hC.size⟩
/-- An act of the document's alone. -/
theorem Duo.right {W' : World} {Q' : ByteArray → List S34} {m : Nat} (h : Duo w W N M room own g Qn Q n I) (hr : RefQ W' w.heap.size g room (fun k => Out own N M k ∧ ¬ I k) Q' m) (hC : Chg (fun k => k = g) W W') : Duo w W' N M room own g Qn Q' m I ∧ Keep2 W N M g own W' own := by
  obtain ⟨G, hN⟩ := h.net
  obtain ⟨v, st, hG, _⟩ := h.ref.ex
  have ho := hG.okg.1
  refine ⟨⟨⟨G, hN.move hC.size (fun k hk hw => hC.block k hk (fun e => ?_))⟩, hr, ⟨hC.os.trans h.below.os, hC.tape.trans h.below.tape, hC.output.trans h.below.output, Nat.le_trans h.below.size hC.size, fun k hk => (hC.block k (Nat.lt_of_lt_of_le hk h.below.size) (fun e => by have := hG.gB; omega)).trans (h.below.block k hk)⟩, fun k hi => ⟨Nat.lt_of_lt_of_le (h.hid k hi).1 hC.size, (h.hid k hi).2⟩⟩, fun k ho' hne hlt => ⟨hC.block k hlt (fun e => hne e), ho'⟩⟩
  subst e
  rcases hw with hw | hw | hw
  · exact ho.2.1 hw
  · exact ho.2.2 hw
  · exact hw ho.1
theorem byt_of {W : World} {base : Nat} {ok T : Nat → Prop} {A : Option Addr} {n c : Nat} {xs : List Int} (h : (Kd.int .u8).R 5 W base ok (.slice A n c) xs) (hT : ∀ k cells, ok k → base ≤ k → W.heap[k]? = some (Obj.cells cells 5 (0, 0)) → T k) : Byt W T A n := fun t ht => by
  have hn := (Kd.R_reads' h).1
  obtain ⟨r, cap, hv, hbase, _⟩ := Kd.R_form h (by omega)
  injection hv with hA _ _
  subst hA
  have h1 := h.1 r (by simp [Value.ownBlock])
  obtain ⟨cells, hc⟩ := Kd.R_typed h r (by simp [Value.ownBlock])
  obtain ⟨cs, hl, hM, hcell, hfr⟩ := Kd.R_elem h 0 (t : Int) (by omega) (by omega)
  rw [Int.toNat_natCast] at hM hcell hfr
  have hcs : cs = [.int .u8 (xs.getD t 0)] := hM
  subst hcs
  have hc0 : W.cell? ⟨r, t * 1 + 0, none⟩ = some (.int .u8 (xs.getD t 0)) := hcell 0 _ rfl
  have hf0 : W.frozen? ⟨r, t * 1 + 0, none⟩ = false := hfr 0
  rw [Nat.mul_one, Nat.add_zero] at hc0 hf0
  refine ⟨⟨r, 0, none⟩, xs.getD t 0, rfl, ?_, ?_, ?_⟩
  · rw [add_at]; exact hT r cells h1 hbase hc
  · rw [add_at, Nat.zero_add]; exact hc0
  · rw [add_at, Nat.zero_add]; exact hf0
theorem spo_of {W : World} {base : Nat} {ok T : Nat → Prop} {A : Option Addr} {n c : Nat} {ls : List S34} (h : k34.R 34 W base ok (.slice A n c) ls) (hT : ∀ k cells, ok k → base ≤ k → W.heap[k]? = some (Obj.cells cells 5 (0, 0)) → T k) (hT2 : ∀ k, T k → ∃ cells, W.heap[k]? = some (Obj.cells cells 5 (0, 0))) (hsh : ∀ x ∈ ls, x.f1.length < 140737488355328) : Spo W T A n := fun j hj => by
  have hn := (Kd.R_reads' h).1
  obtain ⟨r, cap, hv, _⟩ := Kd.R_form h (by omega)
  injection hv with hA _ _
  subst hA
  obtain ⟨cells, hc⟩ := Kd.R_typed h r (by simp [Value.ownBlock])
  obtain ⟨cs, hl, hM, hcell, hfr⟩ := Kd.R_elem h z34 (j : Int) (by omega) (by omega)
  rw [Int.toNat_natCast] at hM hcell
  obtain ⟨v1, rfl, hR⟩ := k34_openM hM
  obtain ⟨A1, c1, rfl⟩ := Kd.R_slice hR
  have hx : (ls.getD j z34) ∈ ls := by rw [List.getD_eq_getElem?_getD, List.getElem?_eq_getElem (by omega)]; exact List.getElem_mem _
  have hs := hsh _ hx
  refine ⟨⟨r, 0, none⟩, (ls.getD j z34).f0, A1, (ls.getD j z34).f1.length, c1, rfl, ?_, ?_, (Kd.R_reads' hR).2.1, by omega, ?_, byt_of hR (fun k cells ho hb hc => hT k cells ho.1 hb hc)⟩
  · rw [add_at, Nat.zero_add]; exact hcell 0 _ rfl
  · rw [add_at, Nat.zero_add]; exact hcell 1 _ rfl
  · rw [add_at]
    intro e
    obtain ⟨cells2, h2⟩ := hT2 r e
    rw [hc] at h2
    injection h2 with h2
    injection h2 with _ h2
    exact absurd h2 (by decide)
end
end Go.Proofs.Ytlnipfmgdkiboaa.N
/- NetDoes by hand: the acts of both networks. -/
namespace Go.Proofs.Ytlnipfmgdkiboaa.N
open Go.RowKit Go.Proofs.Ytlnipfmgdkiboaa.Q Go.Proofs.YtlnipfmgdkiboaaW.PrintWords Go.Proofs.YtlnipfmgdkiboaaW.PrintLast Go.Proofs.YtlnipfmgdkiboaaW.PrintMore
set_option linter.unusedVariables false
set_option linter.unusedSimpArgs false
section
variable {w W : World} {N M g : Nat} {room : Int} {own : Nat → Option ByteArray} {Qn Q : ByteArray → List S34} {n : Nat} {I : Nat → Prop}
theorem Duo.send (h : Duo w W N M room own g Qn Q n I) (s : ByteArray) {A : Option Addr} {m c : Nat} {ls : List S34} (hF : Kd.F k34 W (Out own N M) A m ls) (hm : m = ls.length) (hc : m ≤ c) (hsh : ∀ x ∈ ls, x.f1.length < 140737488355328) {kk : Nat} {E : Int} (hkk : sendK room Qn s ls = kk) (hE : sendE s = E) :
    Calls Try.prog 10 #[.pointer (some ⟨N, 0, none⟩), .string s, .slice A m c] W fun e W' => e = .returned (.tuple #[.int .i64 kk, .int .i64 E]) ∧ ∃ own', Duo w W' N M room own' g (sendQ room Qn s ls) Q n I ∧ Keep2 W N M g own W' own' ∧ (∀ k, Out own N M k → k < W.heap.size → W'.heap[k]? = W.heap[k]?) ∧ W.heap.size ≤ W'.heap.size := by
  subst hkk; subst hE; subst hm
  obtain ⟨G, hN⟩ := h.net
  exact (send_any hN s A c ls (fun w' hC' => Kd.F_now (Kd.F_step hF (fun k ho hk => hC'.block k hk (fun e => e.elim (fun e => ho.2.2 e) (fun e => by rw [ho.1] at e; cases e))))) hc hsh).mono fun e W' ⟨he, own', hL⟩ => ⟨he, own', h.left hL⟩
theorem Duo.rsend (h : Duo w W N M room own g Qn Q n I) (hn : n ≤ 999) (s : ByteArray) (hss : s.size ≤ 9223372036854775807) {A : Option Addr} {m c : Nat} {ls : List S34} (hC : Kd.C k34 W A m ls) (hm : m = ls.length) (hc : m ≤ c) (hsh : ∀ x ∈ ls, x.f1.length < 140737488355328) {kk : Nat} {E : Int} (hkk : sendK room Q s ls = kk) (hE : sendE s = E) :
    Calls Try.prog 34 #[.pointer (some ⟨g, 0, none⟩), .string s, .slice A m c] W fun e W' => e = .returned (.tuple #[.int .i64 kk, .int .i64 E]) ∧ Duo w W' N M room own g Qn (sendQ room Q s ls) (n + 1) I ∧ Keep2 W N M g own W' own ∧ W.heap.size ≤ W'.heap.size :=
  (rsend_any h.ref hn (fun k hk => h.fresh hk) s hss hC hm hc hsh hkk hE).mono fun e W' ⟨he, hR, hC'⟩ => ⟨he, (h.right hR hC').1, (h.right hR hC').2, hC'.size⟩
theorem Duo.take (h : Duo w W N M room own g Qn Q n (fun _ => False)) (s : ByteArray) (i : Int) {X : S34} {E : Int} {nn : Nat} (hX : takeX Qn s i = X) (hE : takeE Qn s i = E) (hnn : nn = X.f1.length) :
    Calls Try.prog 11 #[.pointer (some ⟨N, 0, none⟩), .string s, .int .i64 i] W fun e W' => ∃ own' A1 c1 T, e = .returned (.tuple #[.agg #[.int .i64 X.f0, .slice A1 nn c1], .int .i64 E]) ∧ Duo w W' N M room own' g (takeQ Qn s i) Q n T ∧ Keep2 W N M g own W' own' ∧ (Kd.int .u8).R 5 W' w.heap.size T (.slice A1 nn c1) X.f1 ∧ (∀ k, T k → w.heap.size ≤ k) ∧ (∀ k, Out own N M k → k < W.heap.size → ¬ T k) ∧ W.heap.size ≤ W'.heap.size := by
  classical
  subst hnn
  obtain ⟨G, hN⟩ := h.net
  by_cases hi : 0 ≤ i ∧ i < (Qn s).length
  · obtain ⟨j, rfl⟩ := Int.eq_ofNat_of_zero_le hi.1
    have hE' : E = 0 := by rw [← hE, takeE, if_pos hi]
    have hX' : (Qn s).getD j z34 = X := by rw [← hX, takeX, if_pos hi, Int.toNat_natCast]
    subst hE'
    refine (take_calls hN s j (by omega) X hX').mono fun e W' ⟨own1, G', A1, c1, he, hN', hC, hO, _, T, hT, hMT, hS⟩ => ?_
    have hq : takeQ Qn s (j : Int) = setQ Qn s ((Qn s).take j ++ (Qn s).drop (j + 1)) := by rw [takeQ, if_pos hi, Int.toNat_natCast]
    have hb := (show Left W N M room w.heap.size own s _ own1 W' from ⟨G', hN', hC, hO⟩).below hN h.below rfl
    have hold : ∀ k, Out own N M k → k < W.heap.size → W'.heap[k]? = W.heap[k]? ∧ Out (fun k => if T k then none else own1 k) N M k ∧ ¬ T k := fun k ho hlt => by
      have h1 : own1 k = none := (hO k hlt).trans ho.1
      have h2 : ¬ T k := fun e => by have := hT k e; rw [h1] at this; cases this
      exact ⟨hC.block k hlt (fun e => e.elim (fun e => ho.2.2 e) (fun e => by rw [ho.1] at e; cases e)), ⟨by show (if T k then none else own1 k) = none; rw [if_neg h2]; exact h1, ho.2⟩, h2⟩
    obtain ⟨v1, hv, hR⟩ := k34_openM hMT
    injection hv with _ hv
    injection hv with hv _
    subst hv
    refine ⟨fun k => if T k then none else own1 k, A1, c1, T, he, ⟨⟨G', by rw [hq]; exact hN'.thin s T hT hS⟩, h.ref.move (fun k ho hlt => (hold k ho.1 hlt).1) (fun k ho hlt => ⟨(hold k ho.1 hlt).2.1, (hold k ho.1 hlt).2.2⟩), hb, fun k hk => ⟨(hN'.lt k s (hT k hk)).2, ?_, fun e => ?_, fun e => ?_⟩⟩, fun k ho _ hlt => ⟨(hold k ho hlt).1, (hold k ho hlt).2.1⟩, hR, fun k hk => (hN'.lt k s (hT k hk)).1, fun k ho hlt => (hold k ho hlt).2.2, hC.size⟩
    · show (if T k then none else own1 k) = none; rw [if_pos hk]
    · subst e; have := hT k hk; rw [hN'.notN] at this; cases this
    · subst e; have := hT k hk; rw [hN'.notM] at this; cases this
  · have hE' : E = 4 := by rw [← hE, takeE, if_neg hi]
    have hX' : X = z34 := by rw [← hX, takeX, if_neg hi]
    subst hE'; subst hX'
    refine (take_out hN s i hi).mono fun e W' ⟨he, hb⟩ => ⟨own, none, 0, fun _ => False, he, ?_, Keep2.then_ hb, Kd.R_nil _ _ _ _ _, fun k e => e.elim, fun k _ _ e => e, hb.size⟩
    rw [takeQ, if_neg hi]
    exact h.then_ hb
theorem Duo.rtake (h : Duo w W N M room own g Qn Q n I) (hn : n ≤ 999) (s : ByteArray) (i : Int) {X : S34} {E : Int} {nn : Nat} (hX : takeX Q s i = X) (hE : takeE Q s i = E) (hnn : nn = X.f1.length) :
    Calls Try.prog 36 #[.pointer (some ⟨g, 0, none⟩), .string s, .int .i64 i] W fun e W' => ∃ A1 c1, e = .returned (.tuple #[.agg #[.int .i64 X.f0, .slice A1 nn c1], .int .i64 E]) ∧ nn ≤ c1 ∧ (Kd.int .u8).C W' A1 nn X.f1 ∧ Duo w W' N M room own g Qn (takeQ Q s i) (n + 1) I ∧ Keep2 W N M g own W' own ∧ W.heap.size ≤ W'.heap.size :=
  (rtake_any h.ref hn (fun k hk => h.fresh hk) s i hX hE hnn).mono fun e W' ⟨A1, c1, he, hc1, hF, hR, hC⟩ => ⟨A1, c1, he, hc1, Kd.F_now hF, (h.right hR hC).1, (h.right hR hC).2, hC.size⟩
theorem Duo.drop (h : Duo w W N M room own g Qn Q n I) (s : ByteArray) (i : Int) {E : Int} (hE : takeE Qn s i = E) :
    Calls Try.prog 12 #[.pointer (some ⟨N, 0, none⟩), .string s, .int .i64 i] W fun e W' => e = .returned (.int .i64 E) ∧ ∃ own', Duo w W' N M room own' g (takeQ Qn s i) Q n I ∧ Keep2 W N M g own W' own' ∧ W.heap.size ≤ W'.heap.size := by
  subst hE
  obtain ⟨G, hN⟩ := h.net
  exact (drop_any hN s i).mono fun e W' ⟨he, own', hL⟩ => ⟨he, own', (h.left hL).1, (h.left hL).2.1, (h.left hL).2.2.2⟩
theorem Duo.rdrop (h : Duo w W N M room own g Qn Q n I) (hn : n ≤ 999) (s : ByteArray) (i : Int) {E : Int} (hE : takeE Q s i = E) :
    Calls Try.prog 37 #[.pointer (some ⟨g, 0, none⟩), .string s, .int .i64 i] W fun e W' => e = .returned (.int .i64 E) ∧ Duo w W' N M room own g Qn (takeQ Q s i) (n + 1) I ∧ Keep2 W N M g own W' own ∧ W.heap.size ≤ W'.heap.size :=
  (rdrop_any h.ref hn (fun k hk => h.fresh hk) s i hE).mono fun e W' ⟨he, hR, hC⟩ => ⟨he, (h.right hR hC).1, (h.right hR hC).2, hC.size⟩
theorem Duo.double (h : Duo w W N M room own g Qn Q n I) (s : ByteArray) (i : Int) {E : Int} (hE : doubleE room Qn s i = E) :
    Calls Try.prog 13 #[.pointer (some ⟨N, 0, none⟩), .string s, .int .i64 i] W fun e W' => e = .returned (.int .i64 E) ∧ ∃ own', Duo w W' N M room own' g (doubleQ room Qn s i) Q n I ∧ Keep2 W N M g own W' own' ∧ W.heap.size ≤ W'.heap.size := by
  subst hE
  obtain ⟨G, hN⟩ := h.net
  exact (double_any hN s i).mono fun e W' ⟨he, own', hL⟩ => ⟨he, own', (h.left hL).1, (h.left hL).2.1, (h.left hL).2.2.2⟩
theorem Duo.rdouble (h : Duo w W N M room own g Qn Q n I) (hn : n ≤ 999) (s : ByteArray) (i : Int) {E : Int} (hE : doubleE room Q s i = E) :
    Calls Try.prog 38 #[.pointer (some ⟨g, 0, none⟩), .string s, .int .i64 i] W fun e W' => e = .returned (.int .i64 E) ∧ Duo w W' N M room own g Qn (doubleQ room Q s i) (n + 1) I ∧ Keep2 W N M g own W' own ∧ W.heap.size ≤ W'.heap.size :=
  (rdouble_any h.ref hn (fun k hk => h.fresh hk) s i hE).mono fun e W' ⟨he, hR, hC⟩ => ⟨he, (h.right hR hC).1, (h.right hR hC).2, hC.size⟩
/-- .. with a block beside them. -/
structure DuoX (w W : World) (N M : Nat) (room : Int) (own : Nat → Option ByteArray) (g : Nat) (Qn Q : ByteArray → List S34) (n : Nat) (I : Nat → Prop) (X : Nat) (cs : List Value) (t : TypeId) : Prop where
  d : Duo w W N M room own g Qn Q n I
  o : Out own N M X
  ng : X ≠ g
  ni : ¬ I X
  blk : W.heap[X]? = some (.cells cs.toArray t (0, 0))
variable {X : Nat} {cs : List Value} {t : TypeId}
theorem DuoX.then_ {W' : World} (h : DuoX w W N M room own g Qn Q n I X cs t) (hb : Below W.heap.size W W') : DuoX w W' N M room own g Qn Q n I X cs t := ⟨h.d.then_ hb, h.o, h.ng, h.ni, (hb.block X (heap_lt h.blk)).trans h.blk⟩
theorem DuoX.keep {W' : World} {own' : Nat → Option ByteArray} {Qn' Q' : ByteArray → List S34} {m : Nat} {I' : Nat → Prop} (h : DuoX w W N M room own g Qn Q n I X cs t) (hd : Duo w W' N M room own' g Qn' Q' m I') (hk : Keep2 W N M g own W' own') (hi : ¬ I' X) : DuoX w W' N M room own' g Qn' Q' m I' X cs t :=
  ⟨hd, (hk X h.o h.ng (heap_lt h.blk)).2, h.ng, hi, (hk X h.o h.ng (heap_lt h.blk)).1.trans h.blk⟩
theorem DuoX.hide {W' : World} (h : DuoX w W N M room own g Qn Q n (fun _ => False) X cs t) (hb : Below W.heap.size W W') : DuoX w W' N M room own g Qn Q n (fun k => W.heap.size ≤ k ∧ k < W'.heap.size) X cs t :=
  ⟨h.d.hide hb, h.o, h.ng, fun e => by have := heap_lt h.blk; omega, (hb.block X (heap_lt h.blk)).trans h.blk⟩
theorem DuoX.spoilt {W' : World} {T : Nat → Prop} (h : DuoX w W N M room own g Qn Q n I X cs t) (hs : Spoilt T W W') (hT : ∀ k, T k → I k) (hI : ∀ k, I k → w.heap.size ≤ k) : DuoX w W' N M room own g Qn Q n (fun _ => False) X cs t :=
  ⟨h.d.spoilt hs hT hI, h.o, h.ng, fun e => e, (hs.block X (heap_lt h.blk) (fun e => h.ni (hT X e))).trans h.blk⟩
theorem DuoX.made {W' : World} (h : Duo w W N M room own g Qn Q n I) (hX : W.heap.size ≤ X) (hb : Below W.heap.size W W') (hc : W'.heap[X]? = some (.cells cs.toArray t (0, 0))) : DuoX w W' N M room own g Qn Q n I X cs t :=
  ⟨h.then_ hb, (h.fresh hX).1, fun e => by have := h.g_.2.2.2; omega, (h.fresh hX).2, hc⟩
/-- One letter in a row made for it. -/
theorem spo_one {T : Nat → Prop} {b : Nat} {tv : Int} {A1 : Option Addr} {m c1 : Nat} (hx : W.heap[b]? = some (.cells #[.int .i64 tv, .slice A1 m c1] 34 (0, 0))) (hm : m ≤ c1) (hm2 : m ≤ 140737488355328) (hb : ¬ T b) (hB : Byt W T A1 m) : Spo W T (some ⟨b, 0, none⟩) 1 := fun j hj => by
  have hj0 : j = 0 := by omega
  subst hj0
  refine ⟨⟨b, 0, none⟩, tv, A1, m, c1, rfl, ?_, ?_, hm, hm2, ?_, hB⟩
  · rw [add_at]; exact (blk_cell hx 0).trans rfl
  · rw [add_at]; exact (blk_cell hx 1).trans rfl
  · rw [add_at]; exact hb
end
end Go.Proofs.Ytlnipfmgdkiboaa.N
