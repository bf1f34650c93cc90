/- The law NetApart by hand. -/
import Derived.Test.YtlnipfmgdkiboaaN15
namespace Go.Proofs.Ytlnipfmgdkiboaa.N
open Go.RowKit Go.Proofs.Ytlnipfmgdkiboaa.Q Go.Proofs.YtlnipfmgdkiboaaW.PrintWords Go.Proofs.YtlnipfmgdkiboaaW.PrintLast Go.Proofs.YtlnipfmgdkiboaaW.PrintMore
set_option linter.unusedVariables false
set_option linter.unusedSimpArgs false
/-- The acts are within the reach. -/
def OkOps (l : List S31) : Prop := l.length ≤ 140737488355328 ∧ ∀ x ∈ l, ∀ y ∈ x.f2, y.f1.length < 140737488355328
set_option maxHeartbeats 4000000 in
set_option maxRecDepth 100000 in
theorem apart_bad (room : Int) (A : Option Addr) (c : Nat) (n : Nat) (t : ByteArray) (w : World) (hr : ¬(1 ≤ room ∧ room ≤ 256)) :
    Calls Try.prog 3 #[.int .i64 room, .slice A n c, .string t] w fun e w' => e = .returned (.bool true) ∧ Below w.heap.size w w' := by
  have HR := Aside0.mk hr
  have HB := Aside0.mk (Below.refl w.heap.size w)
  clear hr
  go_enter Try.func3, Try.ntmps3
  go_wp2_with (first
    | (go_at_call 7; (with_reducible refine (new_bad room _ HR.out).mono ?_); rintro e w' ⟨rfl, rfl⟩)
    | (go_at_call 8; (with_reducible refine (live_calls _).mono ?_); rintro e w1 ⟨rfl, hb⟩; have HBn := Aside0.mk (HB.out.trans (hb.mono HB.out.size)); clear HB hb; have HB := HBn; clear HBn))
  go_ret
  exact ⟨rfl, HB.out⟩
theorem sendQ_mine {room : Int} {Qa Qb : ByteArray → List S34} {t : ByteArray} (ls : List S34) (h : Qa t = Qb t) : sendQ room Qa t ls t = sendQ room Qb t ls t ∧ sendK room Qb t ls = sendK room Qa t ls := by
  have hk : sendK room Qb t ls = sendK room Qa t ls := by simp [sendK, h]
  refine ⟨?_, hk⟩
  unfold sendQ
  split
  · rw [setQ_self, setQ_self, h, hk]
  · exact h
theorem sendQ_other {room : Int} {Q : ByteArray → List S34} {s t : ByteArray} (ls : List S34) (h : ¬ s = t) : sendQ room Q s ls t = Q t := by
  unfold sendQ
  split
  · exact if_neg (fun e => h e.symm)
  · rfl
theorem takeQ_mine {Qa Qb : ByteArray → List S34} {t : ByteArray} (i : Int) (h : Qa t = Qb t) : takeQ Qa t i t = takeQ Qb t i t ∧ takeE Qb t i = takeE Qa t i ∧ takeX Qb t i = takeX Qa t i := by
  refine ⟨?_, by simp [takeE, h], by simp [takeX, h]⟩
  unfold takeQ
  rw [h]
  split
  · rw [setQ_self, setQ_self]
  · exact h
theorem takeQ_other {Q : ByteArray → List S34} {s t : ByteArray} (i : Int) (h : ¬ s = t) : takeQ Q s i t = Q t := by
  unfold takeQ
  split
  · exact if_neg (fun e => h e.symm)
  · rfl
theorem doubleQ_mine {room : Int} {Qa Qb : ByteArray → List S34} {t : ByteArray} (i : Int) (h : Qa t = Qb t) : doubleQ room Qa t i t = doubleQ room Qb t i t ∧ doubleE room Qb t i = doubleE room Qa t i := by
  refine ⟨?_, by simp [doubleE, h]⟩
  unfold doubleQ
  rw [h]
  split
  · split
    · rw [setQ_self, setQ_self]
    · exact h
  · exact h
theorem doubleQ_other {room : Int} {Q : ByteArray → List S34} {s t : ByteArray} (i : Int) (h : ¬ s = t) : doubleQ room Q s i t = Q t := by
  unfold doubleQ
  split
  · split
    · exact if_neg (fun e => h e.symm)
    · rfl
  · rfl
theorem cells4 {w : World} {k : Nat} {t : TypeId} {a b c d : Value} (h : w.heap[k]? = some (.cells #[a, b, c, d] t (0, 0))) : w.cell? ⟨k, 0, none⟩ = some a ∧ w.cell? ⟨k, 1, none⟩ = some b ∧ w.cell? ⟨k, 2, none⟩ = some c ∧ w.cell? ⟨k, 3, none⟩ = some d :=
  ⟨(blk_cell h 0).trans rfl, (blk_cell h 1).trans rfl, (blk_cell h 2).trans rfl, (blk_cell h 3).trans rfl⟩
theorem cells2 {w : World} {k : Nat} {t : TypeId} {a b : Value} (h : w.heap[k]? = some (.cells #[a, b] t (0, 0))) : w.cell? ⟨k, 0, none⟩ = some a ∧ w.cell? ⟨k, 1, none⟩ = some b ∧ w.frozen? ⟨k, 0, none⟩ = false ∧ w.frozen? ⟨k, 1, none⟩ = false :=
  ⟨(blk_cell h 0).trans rfl, (blk_cell h 1).trans rfl, blk_frozen' h 0, blk_frozen' h 1⟩
theorem str_ne {s t : ByteArray} (h : ¬ s = t) : (s.toList == t.toList) = false := by
  rw [beq_eq_false_iff_ne]
  intro e
  rw [ByteArray.toList_eq, ByteArray.toList_eq] at e
  exact h (Go.WideShapes.bytes_inj e)
theorem same_zero (w : World) : Calls Try.prog 14 #[.agg #[.int .i64 0, .slice none 0 0], .agg #[.int .i64 0, .slice none 0 0]] w fun e w' => e = .returned (.bool true) ∧ Below w.heap.size w w' :=
  same_calls z34 z34 w none 0 none 0 (Kd.C_nil _ _) (Nat.le_refl _) (Kd.C_nil _ _) (Nat.le_refl _)
theorem M_reads {w : World} {base : Nat} {ok : Nat → Prop} {x : S34} {A : Option Addr} {c : Nat} (h : k34.M w base ok x [.int .i64 x.f0, .slice A x.f1.length c]) : (Kd.int .u8).C w A x.f1.length x.f1 ∧ x.f1.length ≤ c := by
  obtain ⟨v1, he, hR⟩ := k34_openM h
  injection he with _ he
  injection he with he _
  subst he
  obtain ⟨A', c', hv, hl, hC⟩ := Kd.R_reads hR
  injection hv with e1 _ e2
  subst e1 e2
  exact ⟨hC, hl⟩
theorem take_any' {w : World} {N M : Nat} {room : Int} {B : Nat} {own : Nat → Option ByteArray} {G : ByteArray → Option Value} {Q : ByteArray → List S34} (h : NetG w N M room B own G Q) (s : ByteArray) (i : Int) (X : S34) (E : Int) (hX : takeX Q s i = X) (hE : takeE Q s i = E) :
    Calls Try.prog 11 #[.pointer (some ⟨N, 0, none⟩), .string s, .int .i64 i] w fun e w' => ∃ own' A1 c1, e = .returned (.tuple #[.agg #[.int .i64 X.f0, .slice A1 X.f1.length c1], .int .i64 E]) ∧ Left w N M room B own s (takeQ Q s i) own' w' ∧ k34.M w' B (fun k => own' k = some s) X [.int .i64 X.f0, .slice A1 X.f1.length c1] := by
  subst hX hE
  exact take_any h s i
theorem M_box {w : World} {base : Nat} {own : Nat → Option ByteArray} {x : S34} {cs : List Value} {b : Nat} (h : k34.M w base (fun k => own k ≠ none) x cs) (hb : own b = none) (u v : Value) : k34.M ((w.setCell ⟨b, 0, none⟩ u).setCell ⟨b, 1, none⟩ v) base (fun k => own k ≠ none) x cs :=
  Kd.M_far (p := ⟨b, 1, none⟩) (Kd.M_far (p := ⟨b, 0, none⟩) h (fun k hk e => hk (by have e' : k = b := e; rw [e']; exact hb)) u) (fun k hk e => hk (by have e' : k = b := e; rw [e']; exact hb)) v
theorem M_other {w w' : World} {Na Ma Nb Mb : Nat} {room : Int} {B base : Nat} {owna ownb own' : Nat → Option ByteArray} {Qa Qb Q' : ByteArray → List S34} {s : ByteArray} (h : Two w Na Ma Nb Mb room B owna ownb Qa Qb) (hl : Left w Nb Mb room B ownb s Q' own' w') {x : S34} {cs : List Value} (hM : k34.M w base (fun k => owna k ≠ none) x cs) : k34.M w' base (fun k => owna k ≠ none) x cs := by
  obtain ⟨G', hN, hC, hO⟩ := hl
  refine Kd.M_step hM (fun k hk hlt => hC.block k hlt (fun e => ?_))
  rcases e with e | e
  · exact hk (by rw [e]; exact h.aMb)
  · have := h.apart k hk; rw [this] at e; cases e
def apart.T39 : Bool × List (List Nat × List Nat) := (true, [([], []), ([], []), ([0, 1], [0, 1]), ([2], [2]), ([], []), ([], []), ([4, 5], [4, 5]), ([6], [6]), ([3, 7], [3, 7]), ([8], [8])])
def apart.B39 : List Nat := [0, 0, 3, 7, 0, 0, 48, 112, 255, 511]
theorem apart.tab39 : rtab .any (opsOf Try.f3 39) = apart.T39 := by kernel_rfl
theorem apart.bits39 : waitsOk apart.T39.2 apart.B39 = true := by kernel_rfl
theorem told_all {w : World} {Bs : Nat} {v : Value} {l : List S34} {base : Nat} {ok : Nat → Prop} (hb : w.heap[Bs]? = some (.cells #[v] 29 (0, 0))) (hR : k34.R 34 w base ok v l) (hl : l.length ≤ 1000) (hbase : base ≤ w.heap.size) :
    Calls Try.prog 16 #[.func (.func 30) #[] #[.pointer (some ⟨Bs, 0, none⟩)], .int .i64 1048576] w fun e W' => ∃ A c, e = .returned (.tuple #[.slice A l.length c, .bool true]) ∧ l.length ≤ c ∧ k34.R 34 W' base (fun k => ok k ∨ w.heap.size ≤ k) (.slice A l.length c) l ∧ Below w.heap.size w W' :=
  (callsIn_wide.1 (told_in hb hR hl hbase 1048576 (by decide) (by decide))).mono fun e W' ⟨v', he, hR', hB⟩ => by
    rw [List.take_of_length_le (by omega)] at hR'
    obtain ⟨A, c, rfl, hc, _⟩ := Kd.R_reads hR'
    exact ⟨A, c, he, hc, hR', hB⟩
theorem ps4 {w w1 : World} {a b c d : Addr} {p q r t : Value} (h : w.cell? a = some p ∧ w.cell? b = some q ∧ w.cell? c = some r ∧ w.cell? d = some t) (hb : Below w.heap.size w w1) : w1.cell? a = some p ∧ w1.cell? b = some q ∧ w1.cell? c = some r ∧ w1.cell? d = some t :=
  ⟨pw_cell_below hb h.1, pw_cell_below hb h.2.1, pw_cell_below hb h.2.2.1, pw_cell_below hb h.2.2.2⟩
/-- What the loop of NetApart keeps. -/
def ApartI (w : World) (room : Int) (Na Ma Nb Mb : Nat) (t : ByteArray) (wr : World) : Prop :=
  ∃ owna ownb Qa Qb, Two wr Na Ma Nb Mb room w.heap.size owna ownb Qa Qb ∧ Qa t = Qb t ∧ Below w.heap.size w wr
set_option maxHeartbeats 4000000 in
set_option maxRecDepth 100000 in
theorem apart_calls (room : Int) (A : Option Addr) (c : Nat) (l : List S31) (t : ByteArray) (w : World) (h1 : 1 ≤ room) (h2 : room ≤ 256) (hc : l.length ≤ c) (hr : k31.C w A l.length l) (hok : OkOps l) :
    Calls Try.prog 3 #[.int .i64 room, .slice A l.length c, .string t] w fun e w' => e = .returned (.bool true) ∧ Below w.heap.size w w' := by
  have HR := Aside0.mk hr
  have HOK1 := Aside0.mk (show l.length ≤ 140737488355328 from hok.1)
  have HOK2 := Aside0.mk (show ∀ x ∈ l, ∀ y ∈ x.f2, y.f1.length < 140737488355328 from hok.2)
  have HC := Aside0.mk hc
  clear hr hok hc
  go_enter Try.func3, Try.ntmps3
  go_wp2_with (first
    | (have hx_ := HNa.out; clear hx_; go_at_call 7; (with_reducible refine (new_calls room _ h1 h2).mono ?_); rintro e wb ⟨Nb, Mb, rfl, hNb, hbb, hNl, hMl⟩; have HT := Aside0.mk (two_new HNa.out HBa.out hNb hbb); have HB := Aside0.mk (HBa.out.trans (hbb.mono HBa.out.size)); clear hNb hbb hNl hMl HNa HBa)
    | (go_at_call 7; (with_reducible refine (new_calls room _ h1 h2).mono ?_); rintro e wa ⟨Na, Ma, rfl, hNa, hba, hNl, hMl⟩; have HNa := Aside0.mk hNa; have HBa := Aside0.mk hba; clear hNa hba hNl hMl)
    | (go_at_call 8; (with_reducible refine (live_calls _).mono ?_); rintro e w1 ⟨rfl, hb⟩; have HTn := Aside0.mk (HT.out.below hb); have HBn := Aside0.mk (HB.out.trans (hb.mono HB.out.size)); clear HB HT hb; have HB := HBn; have HT := HTn; clear HBn HTn)
    | (go_at_call 9; (with_reducible refine (few_calls _ _ l _ HC.out (Kd.C_below HR.out HB.out) HOK1.out).mono ?_); rintro e w2 ⟨m, hm, hm2, rfl, hb⟩; have HTn := Aside0.mk (HT.out.below hb); have HBn := Aside0.mk (HB.out.trans (hb.mono HB.out.size)); clear HB HT hb; have HB := HBn; have HT := HTn; clear HBn HTn))
  go_loopg [62] (m + 1) (fun kq v62 wr => ∃ (j : Nat), v62 = .int .i64 j ∧ Aside0 (kq + j = m + 1 ∧ j ≤ m) ∧ Aside0 (ApartI w room Na Ma Nb Mb t wr))
  case atStart => exact ⟨0, rfl, ⟨by omega⟩, ⟨_, _, _, _, HT.out, rfl, HB.out⟩⟩
  case round =>
    obtain ⟨j, rfl, HJ, HI⟩ := hrel
    cases gk with
    | zero => have := HJ.out; omega
    | succ k1 =>
    obtain ⟨owna, ownb, Qa, Qb, hT, hQ, hBw⟩ := HI.out
    clear HT HB HI
    have HT := Aside0.mk hT
    have HB := Aside0.mk hBw
    have HQ := Aside0.mk hQ
    clear hT hBw hQ
    by_cases hlt : j < m
    · have hi0 : (0 : Int) ≤ (j : Int) := by omega
      have hi1 : (j : Int) < (l.length : Int) := by omega
      obtain ⟨ad, hA⟩ : ∃ ad, A = some ad := by
        obtain ⟨ad, _, e, _⟩ := Kd.C_get HR.out z31 (j : Int) hi0 hi1
        exact ⟨ad, e⟩
      subst hA
      obtain ⟨ad', A1, c1, hAe, x0, x1, x2, x3, hc1, hd1⟩ := at_T31 HR.out (j : Int) hi0 hi1
      injection hAe with hAe
      subst hAe
      simp only [Int.toNat_natCast] at x0 x1 x2 x3
      have HD1 := Aside0.mk hd1
      have HC1 := Aside0.mk hc1
      have HSH := Aside0.mk (show ∀ y ∈ (rd_T31 l (j : Int)).f2, y.f1.length < 140737488355328 from HOK2.out _ (by
        have hx : rd_T31 l (j : Int) = l.getD j z31 := rfl
        rw [hx, List.getD_eq_getElem?_getD, List.getElem?_eq_getElem (by omega)]; exact List.getElem_mem _))
      replace x0 := pw_cell_below HB.out x0
      replace x1 := pw_cell_below HB.out x1
      replace x2 := pw_cell_below HB.out x2
      replace x3 := pw_cell_below HB.out x3
      generalize rd_T31 l (j : Int) = x at *
      obtain ⟨xdo, s, ls, xi⟩ := x
      dsimp only at x0 x1 x2 x3 HD1 HC1 HSH
      have HM := Aside0.mk (Mid.of_two HT.out HB.out #[.int .i64 xdo, .string s, .slice A1 ls.length c1, .int .i64 xi] #[.int .i64 0, .slice none 0 0] #[.int .i64 0, .slice none 0 0])
      clear hd1 hc1
      by_cases e0 : xdo = 0
      · subst e0
        by_cases hs : s = t
        · have HS := Aside0.mk hs
          subst hs
          go_wp2_with (fail)
          clear x0 x1 x2 x3
          generalize ((wr.alloc (.cells #[.int .i64 0, .string s, .slice A1 ls.length c1, .int .i64 xi] 31)).alloc (.cells #[.int .i64 0, .slice none 0 0] 34)).alloc (.cells #[.int .i64 0, .slice none 0 0] 34) = wc at *
          generalize wr.heap.size + 1 + 1 = b3 at *
          generalize wr.heap.size + 1 = b2 at *
          generalize wr.heap.size = b1 at *
          obtain ⟨p10, p11, p12, p13⟩ := cells4 HM.out.x1; obtain ⟨p20, p21, q20, q21⟩ := cells2 HM.out.x2; obtain ⟨p30, p31, q30, q31⟩ := cells2 HM.out.x3
          go_wp2_with (first
              | (go_at_call 10; obtain ⟨G0, hG⟩ := HM.out.two.a; (with_reducible refine (send_any hG _ _ _ ls (fun w' hc => Kd.C_below HD1.out (hc.onto HM.out.below (Nat.le_refl _) (fun k e => e.elim (fun e => e ▸ hG.baseM) (fun e => (hG.lt k _ e).1)))) HC1.out HSH.out).mono ?_); rintro e w1 ⟨rfl, own1, hL⟩; have HMn := Aside0.mk (HM.out.left_a hL); clear HM hL hG; have HM := HMn; clear HMn; obtain ⟨p10, p11, p12, p13⟩ := cells4 HM.out.x1; obtain ⟨p20, p21, q20, q21⟩ := cells2 HM.out.x2; obtain ⟨p30, p31, q30, q31⟩ := cells2 HM.out.x3)
              | (go_at_call 10; obtain ⟨G0, hG⟩ := HM.out.two.b; (with_reducible refine (send_any hG _ _ _ ls (fun w' hc => Kd.C_below HD1.out (hc.onto HM.out.below (Nat.le_refl _) (fun k e => e.elim (fun e => e ▸ hG.baseM) (fun e => (hG.lt k _ e).1)))) HC1.out HSH.out).mono ?_); rintro e w1 ⟨he, own1, hL⟩; rw [(sendQ_mine ls HQ.out).2] at he; subst he; have HMn := Aside0.mk (HM.out.left_b hL); clear HM hL hG; have HM := HMn; clear HMn; obtain ⟨p10, p11, p12, p13⟩ := cells4 HM.out.x1; obtain ⟨p20, p21, q20, q21⟩ := cells2 HM.out.x2; obtain ⟨p30, p31, q30, q31⟩ := cells2 HM.out.x3)
              | (go_at_call 14; (with_reducible refine (same_zero _).mono ?_); rintro e w1 ⟨rfl, hb⟩; have HMn := Aside0.mk (HM.out.move hb); clear HM hb; have HM := HMn; clear HMn; obtain ⟨p10, p11, p12, p13⟩ := cells4 HM.out.x1; obtain ⟨p20, p21, q20, q21⟩ := cells2 HM.out.x2; obtain ⟨p30, p31, q30, q31⟩ := cells2 HM.out.x3)
              | (go_at_call 15; obtain ⟨G0, hG⟩ := HM.out.two.a; (with_reducible refine (len_calls hG _).mono ?_); rintro e w1 ⟨rfl, rfl⟩; clear hG)
              | (go_at_call 15; obtain ⟨G0, hG⟩ := HM.out.two.b; (with_reducible refine (len_calls hG _).mono ?_); rintro e w1 ⟨he, hw⟩; subst hw; rw [← (sendQ_mine (room := room) ls HQ.out).1] at he; subst he; clear hG))
          go_roundg k1
          case measure => omega
          case rel => exact ⟨j + 1, by first | rfl | (simp; done) | (simp; omega), ⟨by have := HJ.out; omega⟩, ⟨_, _, _, _, HM.out.two, (sendQ_mine (room := room) ls HQ.out).1, HM.out.below⟩⟩
        · have HS := Aside0.mk hs
          have hs1 := str_ne hs
          clear hs
          go_wp2_with (fail)
          clear x0 x1 x2 x3
          generalize ((wr.alloc (.cells #[.int .i64 0, .string s, .slice A1 ls.length c1, .int .i64 xi] 31)).alloc (.cells #[.int .i64 0, .slice none 0 0] 34)).alloc (.cells #[.int .i64 0, .slice none 0 0] 34) = wc at *
          generalize wr.heap.size + 1 + 1 = b3 at *
          generalize wr.heap.size + 1 = b2 at *
          generalize wr.heap.size = b1 at *
          obtain ⟨p10, p11, p12, p13⟩ := cells4 HM.out.x1; obtain ⟨p20, p21, q20, q21⟩ := cells2 HM.out.x2; obtain ⟨p30, p31, q30, q31⟩ := cells2 HM.out.x3
          go_wp2_with (first
              | (go_at_call 10; obtain ⟨G0, hG⟩ := HM.out.two.a; (with_reducible refine (send_any hG _ _ _ ls (fun w' hc => Kd.C_below HD1.out (hc.onto HM.out.below (Nat.le_refl _) (fun k e => e.elim (fun e => e ▸ hG.baseM) (fun e => (hG.lt k _ e).1)))) HC1.out HSH.out).mono ?_); rintro e w1 ⟨rfl, own1, hL⟩; have HMn := Aside0.mk (HM.out.left_a hL); clear HM hL hG; have HM := HMn; clear HMn; obtain ⟨p10, p11, p12, p13⟩ := cells4 HM.out.x1; obtain ⟨p20, p21, q20, q21⟩ := cells2 HM.out.x2; obtain ⟨p30, p31, q30, q31⟩ := cells2 HM.out.x3)
              | (go_at_call 14; (with_reducible refine (same_zero _).mono ?_); rintro e w1 ⟨rfl, hb⟩; have HMn := Aside0.mk (HM.out.move hb); clear HM hb; have HM := HMn; clear HMn; obtain ⟨p10, p11, p12, p13⟩ := cells4 HM.out.x1; obtain ⟨p20, p21, q20, q21⟩ := cells2 HM.out.x2; obtain ⟨p30, p31, q30, q31⟩ := cells2 HM.out.x3)
              | (go_at_call 15; obtain ⟨G0, hG⟩ := HM.out.two.a; (with_reducible refine (len_calls hG _).mono ?_); rintro e w1 ⟨rfl, rfl⟩; clear hG)
              | (go_at_call 15; obtain ⟨G0, hG⟩ := HM.out.two.b; (with_reducible refine (len_calls hG _).mono ?_); rintro e w1 ⟨he, hw⟩; subst hw; rw [← (sendQ_other (room := room) ls HS.out).trans HQ.out] at he; subst he; clear hG))
          go_roundg k1
          case measure => omega
          case rel => exact ⟨j + 1, by first | rfl | (simp; done) | (simp; omega), ⟨by have := HJ.out; omega⟩, ⟨_, _, _, _, HM.out.two, (sendQ_other (room := room) ls HS.out).trans HQ.out, HM.out.below⟩⟩
      by_cases e1 : xdo = 1
      · subst e1
        by_cases hs : s = t
        · have HS := Aside0.mk hs
          subst hs
          go_wp2_with (fail)
          clear x0 x1 x2 x3
          generalize ((wr.alloc (.cells #[.int .i64 1, .string s, .slice A1 ls.length c1, .int .i64 xi] 31)).alloc (.cells #[.int .i64 0, .slice none 0 0] 34)).alloc (.cells #[.int .i64 0, .slice none 0 0] 34) = wc at *
          generalize wr.heap.size + 1 + 1 = b3 at *
          generalize wr.heap.size + 1 = b2 at *
          generalize wr.heap.size = b1 at *
          obtain ⟨p10, p11, p12, p13⟩ := cells4 HM.out.x1; obtain ⟨p20, p21, q20, q21⟩ := cells2 HM.out.x2; obtain ⟨p30, p31, q30, q31⟩ := cells2 HM.out.x3
          obtain ⟨X, hX⟩ : ∃ X, takeX Qa s xi = X := ⟨_, rfl⟩
          obtain ⟨E, hE⟩ : ∃ E, takeE Qa s xi = E := ⟨_, rfl⟩
          have HX := Aside0.mk hX
          have HE := Aside0.mk hE
          clear hX hE
          go_wp2_with (first
              | (have hxa_ := HXa.out; clear hxa_; go_at_call 11; obtain ⟨G0, hG⟩ := HM.out.two.b; (with_reducible refine (take_any' hG s xi X E ((takeQ_mine xi HQ.out).2.2.trans HX.out) ((takeQ_mine xi HQ.out).2.1.trans HE.out)).mono ?_); rintro e w2 ⟨own2, A6, c6, rfl, hL, hM⟩; have HXn := Aside0.mk (M_other HM.out.two hL HXa.out); have HMn := Aside0.mk (HM.out.left_b hL); clear HM hL hG HXa; have HM := HMn; clear HMn; obtain ⟨p10, p11, p12, p13⟩ := cells4 HM.out.x1; obtain ⟨p20, p21, q20, q21⟩ := cells2 HM.out.x2; obtain ⟨p30, p31, q30, q31⟩ := cells2 HM.out.x3; have HXa := Aside0.mk (M_box HXn.out HM.out.f3.a (.int .i64 X.f0) (.slice A6 X.f1.length c6)); have HXb := Aside0.mk (M_box (k34.M_mono (fun k hk e => by rw [hk] at e; cases e) hM) HM.out.f3.b (.int .i64 X.f0) (.slice A6 X.f1.length c6)); have HMn := Aside0.mk (HM.out.set3 (.int .i64 X.f0) (.slice A6 X.f1.length c6) rfl); clear HM hM HXn; have HM := HMn; clear HMn; obtain ⟨p10, p11, p12, p13⟩ := cells4 HM.out.x1; obtain ⟨p20, p21, q20, q21⟩ := cells2 HM.out.x2; obtain ⟨p30, p31, q30, q31⟩ := cells2 HM.out.x3)
              | (go_at_call 11; obtain ⟨G0, hG⟩ := HM.out.two.a; (with_reducible refine (take_any' hG s xi X E HX.out HE.out).mono ?_); rintro e w1 ⟨own1, A5, c5, rfl, hL, hM⟩; have HMn := Aside0.mk (HM.out.left_a hL); clear HM hL hG; have HM := HMn; clear HMn; obtain ⟨p10, p11, p12, p13⟩ := cells4 HM.out.x1; obtain ⟨p20, p21, q20, q21⟩ := cells2 HM.out.x2; obtain ⟨p30, p31, q30, q31⟩ := cells2 HM.out.x3; have HXa := Aside0.mk (M_box (k34.M_mono (fun k hk e => by rw [hk] at e; cases e) hM) HM.out.f2.a (.int .i64 X.f0) (.slice A5 X.f1.length c5)); have HMn := Aside0.mk (HM.out.set2 (.int .i64 X.f0) (.slice A5 X.f1.length c5) rfl); clear HM hM; have HM := HMn; clear HMn; obtain ⟨p10, p11, p12, p13⟩ := cells4 HM.out.x1; obtain ⟨p20, p21, q20, q21⟩ := cells2 HM.out.x2; obtain ⟨p30, p31, q30, q31⟩ := cells2 HM.out.x3)
              | (go_at_call 14; (with_reducible refine (same_calls X X _ A5 c5 A6 c6 (M_reads HXa.out).1 (M_reads HXa.out).2 (M_reads HXb.out).1 (M_reads HXb.out).2).mono ?_); rw [sameL_refl]; rintro e w3 ⟨rfl, hb⟩; have HMn := Aside0.mk (HM.out.move hb); clear HM hb; have HM := HMn; clear HMn; obtain ⟨p10, p11, p12, p13⟩ := cells4 HM.out.x1; obtain ⟨p20, p21, q20, q21⟩ := cells2 HM.out.x2; obtain ⟨p30, p31, q30, q31⟩ := cells2 HM.out.x3)
              | (go_at_call 15; obtain ⟨G0, hG⟩ := HM.out.two.a; (with_reducible refine (len_calls hG _).mono ?_); rintro e w1 ⟨rfl, rfl⟩; clear hG)
              | (go_at_call 15; obtain ⟨G0, hG⟩ := HM.out.two.b; (with_reducible refine (len_calls hG _).mono ?_); rintro e w1 ⟨he, hw⟩; subst hw; rw [← (takeQ_mine xi HQ.out).1] at he; subst he; clear hG))
          go_roundg k1
          case measure => omega
          case rel => exact ⟨j + 1, by first | rfl | (simp; done) | (simp; omega), ⟨by have := HJ.out; omega⟩, ⟨_, _, _, _, HM.out.two, (takeQ_mine xi HQ.out).1, HM.out.below⟩⟩
        · have HS := Aside0.mk hs
          have hs1 := str_ne hs
          clear hs
          go_wp2_with (fail)
          clear x0 x1 x2 x3
          generalize ((wr.alloc (.cells #[.int .i64 1, .string s, .slice A1 ls.length c1, .int .i64 xi] 31)).alloc (.cells #[.int .i64 0, .slice none 0 0] 34)).alloc (.cells #[.int .i64 0, .slice none 0 0] 34) = wc at *
          generalize wr.heap.size + 1 + 1 = b3 at *
          generalize wr.heap.size + 1 = b2 at *
          generalize wr.heap.size = b1 at *
          obtain ⟨p10, p11, p12, p13⟩ := cells4 HM.out.x1; obtain ⟨p20, p21, q20, q21⟩ := cells2 HM.out.x2; obtain ⟨p30, p31, q30, q31⟩ := cells2 HM.out.x3
          obtain ⟨X, hX⟩ : ∃ X, takeX Qa s xi = X := ⟨_, rfl⟩
          obtain ⟨E, hE⟩ : ∃ E, takeE Qa s xi = E := ⟨_, rfl⟩
          have HX := Aside0.mk hX
          have HE := Aside0.mk hE
          clear hX hE
          go_wp2_with (first
              | (go_at_call 11; obtain ⟨G0, hG⟩ := HM.out.two.a; (with_reducible refine (take_any' hG s xi X E HX.out HE.out).mono ?_); rintro e w1 ⟨own1, A5, c5, rfl, hL, hM⟩; have HMn := Aside0.mk (HM.out.left_a hL); clear HM hL hG; have HM := HMn; clear HMn; obtain ⟨p10, p11, p12, p13⟩ := cells4 HM.out.x1; obtain ⟨p20, p21, q20, q21⟩ := cells2 HM.out.x2; obtain ⟨p30, p31, q30, q31⟩ := cells2 HM.out.x3; have HXa := Aside0.mk (M_box (k34.M_mono (fun k hk e => by rw [hk] at e; cases e) hM) HM.out.f2.a (.int .i64 X.f0) (.slice A5 X.f1.length c5)); have HMn := Aside0.mk (HM.out.set2 (.int .i64 X.f0) (.slice A5 X.f1.length c5) rfl); clear HM hM; have HM := HMn; clear HMn; obtain ⟨p10, p11, p12, p13⟩ := cells4 HM.out.x1; obtain ⟨p20, p21, q20, q21⟩ := cells2 HM.out.x2; obtain ⟨p30, p31, q30, q31⟩ := cells2 HM.out.x3)
              | (go_at_call 15; obtain ⟨G0, hG⟩ := HM.out.two.a; (with_reducible refine (len_calls hG _).mono ?_); rintro e w1 ⟨rfl, rfl⟩; clear hG)
              | (go_at_call 15; obtain ⟨G0, hG⟩ := HM.out.two.b; (with_reducible refine (len_calls hG _).mono ?_); rintro e w1 ⟨he, hw⟩; subst hw; rw [← (takeQ_other xi HS.out).trans HQ.out] at he; subst he; clear hG))
          go_roundg k1
          case measure => omega
          case rel => exact ⟨j + 1, by first | rfl | (simp; done) | (simp; omega), ⟨by have := HJ.out; omega⟩, ⟨_, _, _, _, HM.out.two, (takeQ_other xi HS.out).trans HQ.out, HM.out.below⟩⟩
      by_cases e2 : xdo = 2
      · subst e2
        by_cases hs : s = t
        · have HS := Aside0.mk hs
          subst hs
          go_wp2_with (fail)
          clear x0 x1 x2 x3
          generalize ((wr.alloc (.cells #[.int .i64 2, .string s, .slice A1 ls.length c1, .int .i64 xi] 31)).alloc (.cells #[.int .i64 0, .slice none 0 0] 34)).alloc (.cells #[.int .i64 0, .slice none 0 0] 34) = wc at *
          generalize wr.heap.size + 1 + 1 = b3 at *
          generalize wr.heap.size + 1 = b2 at *
          generalize wr.heap.size = b1 at *
          obtain ⟨p10, p11, p12, p13⟩ := cells4 HM.out.x1; obtain ⟨p20, p21, q20, q21⟩ := cells2 HM.out.x2; obtain ⟨p30, p31, q30, q31⟩ := cells2 HM.out.x3
          go_wp2_with (first
              | (go_at_call 12; obtain ⟨G0, hG⟩ := HM.out.two.a; (with_reducible refine (drop_any hG s xi).mono ?_); rintro e w1 ⟨rfl, own1, hL⟩; have HMn := Aside0.mk (HM.out.left_a hL); clear HM hL hG; have HM := HMn; clear HMn; obtain ⟨p10, p11, p12, p13⟩ := cells4 HM.out.x1; obtain ⟨p20, p21, q20, q21⟩ := cells2 HM.out.x2; obtain ⟨p30, p31, q30, q31⟩ := cells2 HM.out.x3)
              | (go_at_call 12; obtain ⟨G0, hG⟩ := HM.out.two.b; (with_reducible refine (drop_any hG s xi).mono ?_); rintro e w1 ⟨he, own1, hL⟩; rw [(takeQ_mine xi HQ.out).2.1] at he; subst he; have HMn := Aside0.mk (HM.out.left_b hL); clear HM hL hG; have HM := HMn; clear HMn; obtain ⟨p10, p11, p12, p13⟩ := cells4 HM.out.x1; obtain ⟨p20, p21, q20, q21⟩ := cells2 HM.out.x2; obtain ⟨p30, p31, q30, q31⟩ := cells2 HM.out.x3)
              | (go_at_call 14; (with_reducible refine (same_zero _).mono ?_); rintro e w1 ⟨rfl, hb⟩; have HMn := Aside0.mk (HM.out.move hb); clear HM hb; have HM := HMn; clear HMn; obtain ⟨p10, p11, p12, p13⟩ := cells4 HM.out.x1; obtain ⟨p20, p21, q20, q21⟩ := cells2 HM.out.x2; obtain ⟨p30, p31, q30, q31⟩ := cells2 HM.out.x3)
              | (go_at_call 15; obtain ⟨G0, hG⟩ := HM.out.two.a; (with_reducible refine (len_calls hG _).mono ?_); rintro e w1 ⟨rfl, rfl⟩; clear hG)
              | (go_at_call 15; obtain ⟨G0, hG⟩ := HM.out.two.b; (with_reducible refine (len_calls hG _).mono ?_); rintro e w1 ⟨he, hw⟩; subst hw; rw [← (takeQ_mine xi HQ.out).1] at he; subst he; clear hG))
          go_roundg k1
          case measure => omega
          case rel => exact ⟨j + 1, by first | rfl | (simp; done) | (simp; omega), ⟨by have := HJ.out; omega⟩, ⟨_, _, _, _, HM.out.two, (takeQ_mine xi HQ.out).1, HM.out.below⟩⟩
        · have HS := Aside0.mk hs
          have hs1 := str_ne hs
          clear hs
          go_wp2_with (fail)
          clear x0 x1 x2 x3
          generalize ((wr.alloc (.cells #[.int .i64 2, .string s, .slice A1 ls.length c1, .int .i64 xi] 31)).alloc (.cells #[.int .i64 0, .slice none 0 0] 34)).alloc (.cells #[.int .i64 0, .slice none 0 0] 34) = wc at *
          generalize wr.heap.size + 1 + 1 = b3 at *
          generalize wr.heap.size + 1 = b2 at *
          generalize wr.heap.size = b1 at *
          obtain ⟨p10, p11, p12, p13⟩ := cells4 HM.out.x1; obtain ⟨p20, p21, q20, q21⟩ := cells2 HM.out.x2; obtain ⟨p30, p31, q30, q31⟩ := cells2 HM.out.x3
          go_wp2_with (first
              | (go_at_call 12; obtain ⟨G0, hG⟩ := HM.out.two.a; (with_reducible refine (drop_any hG s xi).mono ?_); rintro e w1 ⟨rfl, own1, hL⟩; have HMn := Aside0.mk (HM.out.left_a hL); clear HM hL hG; have HM := HMn; clear HMn; obtain ⟨p10, p11, p12, p13⟩ := cells4 HM.out.x1; obtain ⟨p20, p21, q20, q21⟩ := cells2 HM.out.x2; obtain ⟨p30, p31, q30, q31⟩ := cells2 HM.out.x3)
              | (go_at_call 14; (with_reducible refine (same_zero _).mono ?_); rintro e w1 ⟨rfl, hb⟩; have HMn := Aside0.mk (HM.out.move hb); clear HM hb; have HM := HMn; clear HMn; obtain ⟨p10, p11, p12, p13⟩ := cells4 HM.out.x1; obtain ⟨p20, p21, q20, q21⟩ := cells2 HM.out.x2; obtain ⟨p30, p31, q30, q31⟩ := cells2 HM.out.x3)
              | (go_at_call 15; obtain ⟨G0, hG⟩ := HM.out.two.a; (with_reducible refine (len_calls hG _).mono ?_); rintro e w1 ⟨rfl, rfl⟩; clear hG)
              | (go_at_call 15; obtain ⟨G0, hG⟩ := HM.out.two.b; (with_reducible refine (len_calls hG _).mono ?_); rintro e w1 ⟨he, hw⟩; subst hw; rw [← (takeQ_other xi HS.out).trans HQ.out] at he; subst he; clear hG))
          go_roundg k1
          case measure => omega
          case rel => exact ⟨j + 1, by first | rfl | (simp; done) | (simp; omega), ⟨by have := HJ.out; omega⟩, ⟨_, _, _, _, HM.out.two, (takeQ_other xi HS.out).trans HQ.out, HM.out.below⟩⟩
      by_cases e3 : xdo = 3
      · subst e3
        by_cases hs : s = t
        · have HS := Aside0.mk hs
          subst hs
          go_wp2_with (fail)
          clear x0 x1 x2 x3
          generalize ((wr.alloc (.cells #[.int .i64 3, .string s, .slice A1 ls.length c1, .int .i64 xi] 31)).alloc (.cells #[.int .i64 0, .slice none 0 0] 34)).alloc (.cells #[.int .i64 0, .slice none 0 0] 34) = wc at *
          generalize wr.heap.size + 1 + 1 = b3 at *
          generalize wr.heap.size + 1 = b2 at *
          generalize wr.heap.size = b1 at *
          obtain ⟨p10, p11, p12, p13⟩ := cells4 HM.out.x1; obtain ⟨p20, p21, q20, q21⟩ := cells2 HM.out.x2; obtain ⟨p30, p31, q30, q31⟩ := cells2 HM.out.x3
          go_wp2_with (first
              | (go_at_call 13; obtain ⟨G0, hG⟩ := HM.out.two.a; (with_reducible refine (double_any hG s xi).mono ?_); rintro e w1 ⟨rfl, own1, hL⟩; have HMn := Aside0.mk (HM.out.left_a hL); clear HM hL hG; have HM := HMn; clear HMn; obtain ⟨p10, p11, p12, p13⟩ := cells4 HM.out.x1; obtain ⟨p20, p21, q20, q21⟩ := cells2 HM.out.x2; obtain ⟨p30, p31, q30, q31⟩ := cells2 HM.out.x3)
              | (go_at_call 13; obtain ⟨G0, hG⟩ := HM.out.two.b; (with_reducible refine (double_any hG s xi).mono ?_); rintro e w1 ⟨he, own1, hL⟩; rw [(doubleQ_mine (room := room) xi HQ.out).2] at he; subst he; have HMn := Aside0.mk (HM.out.left_b hL); clear HM hL hG; have HM := HMn; clear HMn; obtain ⟨p10, p11, p12, p13⟩ := cells4 HM.out.x1; obtain ⟨p20, p21, q20, q21⟩ := cells2 HM.out.x2; obtain ⟨p30, p31, q30, q31⟩ := cells2 HM.out.x3)
              | (go_at_call 14; (with_reducible refine (same_zero _).mono ?_); rintro e w1 ⟨rfl, hb⟩; have HMn := Aside0.mk (HM.out.move hb); clear HM hb; have HM := HMn; clear HMn; obtain ⟨p10, p11, p12, p13⟩ := cells4 HM.out.x1; obtain ⟨p20, p21, q20, q21⟩ := cells2 HM.out.x2; obtain ⟨p30, p31, q30, q31⟩ := cells2 HM.out.x3)
              | (go_at_call 15; obtain ⟨G0, hG⟩ := HM.out.two.a; (with_reducible refine (len_calls hG _).mono ?_); rintro e w1 ⟨rfl, rfl⟩; clear hG)
              | (go_at_call 15; obtain ⟨G0, hG⟩ := HM.out.two.b; (with_reducible refine (len_calls hG _).mono ?_); rintro e w1 ⟨he, hw⟩; subst hw; rw [← (doubleQ_mine (room := room) xi HQ.out).1] at he; subst he; clear hG))
          go_roundg k1
          case measure => omega
          case rel => exact ⟨j + 1, by first | rfl | (simp; done) | (simp; omega), ⟨by have := HJ.out; omega⟩, ⟨_, _, _, _, HM.out.two, (doubleQ_mine (room := room) xi HQ.out).1, HM.out.below⟩⟩
        · have HS := Aside0.mk hs
          have hs1 := str_ne hs
          clear hs
          go_wp2_with (fail)
          clear x0 x1 x2 x3
          generalize ((wr.alloc (.cells #[.int .i64 3, .string s, .slice A1 ls.length c1, .int .i64 xi] 31)).alloc (.cells #[.int .i64 0, .slice none 0 0] 34)).alloc (.cells #[.int .i64 0, .slice none 0 0] 34) = wc at *
          generalize wr.heap.size + 1 + 1 = b3 at *
          generalize wr.heap.size + 1 = b2 at *
          generalize wr.heap.size = b1 at *
          obtain ⟨p10, p11, p12, p13⟩ := cells4 HM.out.x1; obtain ⟨p20, p21, q20, q21⟩ := cells2 HM.out.x2; obtain ⟨p30, p31, q30, q31⟩ := cells2 HM.out.x3
          go_wp2_with (first
              | (go_at_call 13; obtain ⟨G0, hG⟩ := HM.out.two.a; (with_reducible refine (double_any hG s xi).mono ?_); rintro e w1 ⟨rfl, own1, hL⟩; have HMn := Aside0.mk (HM.out.left_a hL); clear HM hL hG; have HM := HMn; clear HMn; obtain ⟨p10, p11, p12, p13⟩ := cells4 HM.out.x1; obtain ⟨p20, p21, q20, q21⟩ := cells2 HM.out.x2; obtain ⟨p30, p31, q30, q31⟩ := cells2 HM.out.x3)
              | (go_at_call 14; (with_reducible refine (same_zero _).mono ?_); rintro e w1 ⟨rfl, hb⟩; have HMn := Aside0.mk (HM.out.move hb); clear HM hb; have HM := HMn; clear HMn; obtain ⟨p10, p11, p12, p13⟩ := cells4 HM.out.x1; obtain ⟨p20, p21, q20, q21⟩ := cells2 HM.out.x2; obtain ⟨p30, p31, q30, q31⟩ := cells2 HM.out.x3)
              | (go_at_call 15; obtain ⟨G0, hG⟩ := HM.out.two.a; (with_reducible refine (len_calls hG _).mono ?_); rintro e w1 ⟨rfl, rfl⟩; clear hG)
              | (go_at_call 15; obtain ⟨G0, hG⟩ := HM.out.two.b; (with_reducible refine (len_calls hG _).mono ?_); rintro e w1 ⟨he, hw⟩; subst hw; rw [← (doubleQ_other (room := room) xi HS.out).trans HQ.out] at he; subst he; clear hG))
          go_roundg k1
          case measure => omega
          case rel => exact ⟨j + 1, by first | rfl | (simp; done) | (simp; omega), ⟨by have := HJ.out; omega⟩, ⟨_, _, _, _, HM.out.two, (doubleQ_other (room := room) xi HS.out).trans HQ.out, HM.out.below⟩⟩
      have f0 : (xdo == 0) = false := by simpa using e0
      have f1 : (xdo == 1) = false := by simpa using e1
      have f2 : (xdo == 2) = false := by simpa using e2
      have f3 : (xdo == 3) = false := by simpa using e3
      clear e0 e1 e2 e3
      by_cases hs : s = t
      · have HS := Aside0.mk hs
        subst hs
        go_wp2_with (fail)
        clear x0 x1 x2 x3
        generalize ((wr.alloc (.cells #[.int .i64 xdo, .string s, .slice A1 ls.length c1, .int .i64 xi] 31)).alloc (.cells #[.int .i64 0, .slice none 0 0] 34)).alloc (.cells #[.int .i64 0, .slice none 0 0] 34) = wc at *
        generalize wr.heap.size + 1 + 1 = b3 at *
        generalize wr.heap.size + 1 = b2 at *
        generalize wr.heap.size = b1 at *
        obtain ⟨p10, p11, p12, p13⟩ := cells4 HM.out.x1; obtain ⟨p20, p21, q20, q21⟩ := cells2 HM.out.x2; obtain ⟨p30, p31, q30, q31⟩ := cells2 HM.out.x3
        go_wp2_with (first
            | (go_at_call 14; (with_reducible refine (same_zero _).mono ?_); rintro e w1 ⟨rfl, hb⟩; have HMn := Aside0.mk (HM.out.move hb); clear HM hb; have HM := HMn; clear HMn; obtain ⟨p10, p11, p12, p13⟩ := cells4 HM.out.x1; obtain ⟨p20, p21, q20, q21⟩ := cells2 HM.out.x2; obtain ⟨p30, p31, q30, q31⟩ := cells2 HM.out.x3)
            | (go_at_call 15; obtain ⟨G0, hG⟩ := HM.out.two.a; (with_reducible refine (len_calls hG _).mono ?_); rintro e w1 ⟨rfl, rfl⟩; clear hG)
            | (go_at_call 15; obtain ⟨G0, hG⟩ := HM.out.two.b; (with_reducible refine (len_calls hG _).mono ?_); rintro e w1 ⟨he, hw⟩; subst hw; rw [← HQ.out] at he; subst he; clear hG))
        go_roundg k1
        case measure => omega
        case rel => exact ⟨j + 1, by first | rfl | (simp; done) | (simp; omega), ⟨by have := HJ.out; omega⟩, ⟨_, _, _, _, HM.out.two, HQ.out, HM.out.below⟩⟩
      · have HS := Aside0.mk hs
        have hs1 := str_ne hs
        clear hs
        go_wp2_with (fail)
        clear x0 x1 x2 x3
        generalize ((wr.alloc (.cells #[.int .i64 xdo, .string s, .slice A1 ls.length c1, .int .i64 xi] 31)).alloc (.cells #[.int .i64 0, .slice none 0 0] 34)).alloc (.cells #[.int .i64 0, .slice none 0 0] 34) = wc at *
        generalize wr.heap.size + 1 + 1 = b3 at *
        generalize wr.heap.size + 1 = b2 at *
        generalize wr.heap.size = b1 at *
        obtain ⟨p10, p11, p12, p13⟩ := cells4 HM.out.x1; obtain ⟨p20, p21, q20, q21⟩ := cells2 HM.out.x2; obtain ⟨p30, p31, q30, q31⟩ := cells2 HM.out.x3
        go_wp2_with (first
            | (go_at_call 14; (with_reducible refine (same_zero _).mono ?_); rintro e w1 ⟨rfl, hb⟩; have HMn := Aside0.mk (HM.out.move hb); clear HM hb; have HM := HMn; clear HMn; obtain ⟨p10, p11, p12, p13⟩ := cells4 HM.out.x1; obtain ⟨p20, p21, q20, q21⟩ := cells2 HM.out.x2; obtain ⟨p30, p31, q30, q31⟩ := cells2 HM.out.x3)
            | (go_at_call 15; obtain ⟨G0, hG⟩ := HM.out.two.a; (with_reducible refine (len_calls hG _).mono ?_); rintro e w1 ⟨rfl, rfl⟩; clear hG)
            | (go_at_call 15; obtain ⟨G0, hG⟩ := HM.out.two.b; (with_reducible refine (len_calls hG _).mono ?_); rintro e w1 ⟨he, hw⟩; subst hw; rw [← HQ.out] at he; subst he; clear hG))
        go_roundg k1
        case measure => omega
        case rel => exact ⟨j + 1, by first | rfl | (simp; done) | (simp; omega), ⟨by have := HJ.out; omega⟩, ⟨_, _, _, _, HM.out.two, HQ.out, HM.out.below⟩⟩
    · have hj : j = m := by have := HJ.out; omega
      subst hj
      have HFL := Aside0.mk (show (Qa t).length ≤ 1000 by obtain ⟨G0, hG⟩ := HT.out.a; have h1 := hG.few t; have h2 := hG.room2; omega)
      have HFM := Aside0.mk (show (Qb t).length ≤ 1000 by rw [← HQ.out]; exact HFL.out)
      go_wp2_with (first
        | (have hx_ := HU.out; clear hx_; go_at_call 17; obtain ⟨G0, hG⟩ := HT.out.b; (with_reducible refine (all_calls hG t).mono ?_); rintro e w3 ⟨Bs, v, rfl, hx, hge, hR, hb⟩; have HX := Aside0.mk hx; have HRX := Aside0.mk hR; rw [← HQ.out] at HRX; have HBS := Aside0.mk hb.size; have HUn := Aside0.mk (Kd.C_below HU.out hb); have HBn := Aside0.mk (HB.out.trans (hb.mono HB.out.size)); clear hx hR hb HU HB hG HT; have HU := HUn; have HB := HBn; clear HUn HBn)
        | (go_at_call 17; obtain ⟨G0, hG⟩ := HT.out.a; (with_reducible refine (all_calls hG t).mono ?_); rintro e w1 ⟨Bs, v, rfl, hx, hge, hR, hb⟩; have HX := Aside0.mk hx; have HRX := Aside0.mk hR; have HBS := Aside0.mk hb.size; have HTn := Aside0.mk (HT.out.below hb); have HBn := Aside0.mk (HB.out.trans (hb.mono HB.out.size)); clear hx hR hb HT HB hG; have HT := HTn; have HB := HBn; clear HTn HBn)
        | (have hx_ := HU.out; clear hx_; go_at_call 16; (with_reducible refine (told_all HX.out HRX.out HFL.out HBS.out).mono ?_); rintro e w4 ⟨Av, cv, rfl, hcv, hR, hb⟩; have HV := Aside0.mk (show k34.C w4 Av (Qa t).length (Qa t) from (Kd.R_reads' hR).2.2); have HUn := Aside0.mk (Kd.C_below HU.out hb); have HBn := Aside0.mk (HB.out.trans (hb.mono HB.out.size)); clear hR hb HU HB HX HRX HBS; have HU := HUn; have HB := HBn; clear HUn HBn)
        | (go_at_call 16; (with_reducible refine (told_all HX.out HRX.out HFL.out HBS.out).mono ?_); rintro e w2 ⟨Au, cu, rfl, hcu, hR, hb⟩; have HU := Aside0.mk (show k34.C w2 Au (Qa t).length (Qa t) from (Kd.R_reads' hR).2.2); have HTn := Aside0.mk (HT.out.below hb); have HBn := Aside0.mk (HB.out.trans (hb.mono HB.out.size)); clear hR hb HT HB HX HRX HBS; have HT := HTn; have HB := HBn; clear HTn HBn))
      generalize hL : Qa t = L at *
      have hLn : L.length ≤ 1000 := HFL.out
      clear hL
      generalize hn : L.length = n at *
      clear hn
      go_loopg [200] (n + 1) (fun kq v200 wr => ∃ (i : Nat), v200 = .int .i64 i ∧ Aside0 (kq + i = n + 1 ∧ i ≤ n) ∧ Aside0 (k34.C wr Au n L) ∧ Aside0 (k34.C wr Av n L) ∧ Aside0 (Below w.heap.size w wr))
      case atStart => exact ⟨0, rfl, ⟨by omega⟩, HU, HV, HB⟩
      case round =>
        obtain ⟨i, rfl, HI, HU, HV, HB⟩ := hrel
        cases gk with
        | zero => have := HI.out; omega
        | succ k2 =>
        by_cases hlt : i < n
        · have hi0 : (0 : Int) ≤ (i : Int) := by omega
          have hi1 : (i : Int) < (n : Int) := by omega
          obtain ⟨au, A5, c5, hAe, y0, y1, hc5, hd5⟩ := at_T34 HU.out (i : Int) hi0 hi1
          obtain ⟨av, A6, c6, hBe, y2, y3, hc6, hd6⟩ := at_T34 HV.out (i : Int) hi0 hi1
          subst hAe hBe
          simp only [Int.toNat_natCast] at y0 y1 y2 y3
          generalize rd_T34 L (i : Int) = x at *
          have HY := Aside0.mk (show wr.drew.cell? (au.add (i * 2)) = some (.int .i64 x.f0) ∧ wr.drew.cell? ⟨(au.add (i * 2)).block, (au.add (i * 2)).off + 1, none⟩ = some (.slice A5 x.f1.length c5) ∧ wr.drew.cell? (av.add (i * 2)) = some (.int .i64 x.f0) ∧ wr.drew.cell? ⟨(av.add (i * 2)).block, (av.add (i * 2)).off + 1, none⟩ = some (.slice A6 x.f1.length c6) from ⟨y0, y1, y2, y3⟩)
          have HD5 := Aside0.mk (Kd.C_drew hd5)
          have HD6 := Aside0.mk (Kd.C_drew hd6)
          have HC5 := Aside0.mk hc5
          have HC6 := Aside0.mk hc6
          have HU0 := Aside0.mk (Kd.C_drew HU.out)
          have HV0 := Aside0.mk (Kd.C_drew HV.out)
          have HB0 := Aside0.mk (below_drew1 HB.out)
          clear y0 y1 y2 y3 hd5 hd6 hc5 hc6
          go_wp2_with (fail)
          refine start_ (n := 10) (S := fun w' => w'.cell? (au.add (i * 2)) = some (.int .i64 x.f0) ∧ w'.cell? ⟨(au.add (i * 2)).block, (au.add (i * 2)).off + 1, none⟩ = some (.slice A5 x.f1.length c5) ∧ w'.cell? (av.add (i * 2)) = some (.int .i64 x.f0) ∧ w'.cell? ⟨(av.add (i * 2)).block, (av.add (i * 2)).off + 1, none⟩ = some (.slice A6 x.f1.length c6)) (ds := []) #[false, false, false, false, false, false, false, false, false, false] (by kernel_rfl) rfl rfl HY.out (fun hHeld => ?_); refine with_tabW apart.tab39 apart.bits39 (fun HT_ HW_ => ?_)
          generalize hW0 : wr.drew = W0 at *
          clear hW0
          refine pure_ (i := 0) (N := some 203) (v := ?_) (a' := ?_) #[true, false, false, false, false, false, false, false, false, false] rfl rfl (any_of HT_.out (by kernel_rfl)) (fun _ _ _ h => h) (Or.inl ⟨by rfl, ?_⟩) ?_ ?_
          rotate_left
          · intro w'
            go_simp
            with_reducible rfl
          rotate_left
          · simp only [Act.put, List.setIfInBounds_toArray, List.set_cons_zero, List.set_cons_succ, i64_w, i32_w, xu32_w, xu8_w]
            rfl
          refine pure_ (i := 1) (N := some 204) (v := ?_) (a' := ?_) #[true, true, false, false, false, false, false, false, false, false] rfl rfl (any_of HT_.out (by kernel_rfl)) (fun _ _ _ h => h) (Or.inl ⟨by rfl, ?_⟩) ?_ ?_
          rotate_left
          · intro w'
            go_simp
            with_reducible rfl
          rotate_left
          · simp only [Act.put, List.setIfInBounds_toArray, List.set_cons_zero, List.set_cons_succ, i64_w, i32_w, xu32_w, xu8_w]
            rfl
          refine pure_ (i := 2) (N := some 205) (v := ?_) (a' := ?_) #[true, true, true, false, false, false, false, false, false, false] rfl rfl (any_of HT_.out (by kernel_rfl)) (fun _ _ _ h => h) (Or.inl ⟨by rfl, ?_⟩) ?_ ?_
          rotate_left
          · intro w'
            go_simp
            with_reducible rfl
          rotate_left
          · simp only [Act.put, List.setIfInBounds_toArray, List.set_cons_zero, List.set_cons_succ, i64_w, i32_w, xu32_w, xu8_w]
            rfl
          refine pure_ (i := 4) (N := some 207) (v := ?_) (a' := ?_) #[true, true, true, false, true, false, false, false, false, false] rfl rfl (any_of HT_.out (by kernel_rfl)) (fun _ _ _ h => h) (Or.inl ⟨by rfl, ?_⟩) ?_ ?_
          rotate_left
          · intro w'
            go_simp
            with_reducible rfl
          rotate_left
          · simp only [Act.put, List.setIfInBounds_toArray, List.set_cons_zero, List.set_cons_succ, i64_w, i32_w, xu32_w, xu8_w]
            rfl
          refine pure_ (i := 5) (N := some 208) (v := ?_) (a' := ?_) #[true, true, true, false, true, true, false, false, false, false] rfl rfl (any_of HT_.out (by kernel_rfl)) (fun _ _ _ h => h) (Or.inl ⟨by rfl, ?_⟩) ?_ ?_
          rotate_left
          · intro w'
            go_simp
            with_reducible rfl
          rotate_left
          · simp only [Act.put, List.setIfInBounds_toArray, List.set_cons_zero, List.set_cons_succ, i64_w, i32_w, xu32_w, xu8_w]
            rfl
          refine pure_ (i := 6) (N := some 209) (v := ?_) (a' := ?_) #[true, true, true, false, true, true, true, false, false, false] rfl rfl (any_of HT_.out (by kernel_rfl)) (fun _ _ _ h => h) (Or.inl ⟨by rfl, ?_⟩) ?_ ?_
          rotate_left
          · intro w'
            go_simp
            with_reducible rfl
          rotate_left
          · simp only [Act.put, List.setIfInBounds_toArray, List.set_cons_zero, List.set_cons_succ, i64_w, i32_w, xu32_w, xu8_w]
            rfl
          refine take_ (i := 3) (N := some 206) (v := ?_) (a' := ?_) #[true, true, true, true, true, true, true, false, false, false] rfl rfl (take_ofW HT_.out HW_.out (by kernel_rfl)) (fun _ _ _ h => h) (Or.inl ⟨by rfl, ?_⟩) hHeld ?_ ?_
          rotate_left
          · rintro w' ⟨s0, s1, s2, s3⟩
            go_simp
            with_reducible rfl
          rotate_left
          · simp only [Act.put, List.setIfInBounds_toArray, List.set_cons_zero, List.set_cons_succ, i64_w, i32_w, xu32_w, xu8_w]
            rfl
          refine take_ (i := 7) (N := some 210) (v := ?_) (a' := ?_) #[true, true, true, true, true, true, true, true, false, false] rfl rfl (take_ofW HT_.out HW_.out (by kernel_rfl)) (fun _ _ _ h => h) (Or.inl ⟨by rfl, ?_⟩) hHeld ?_ ?_
          rotate_left
          · rintro w' ⟨s0, s1, s2, s3⟩
            go_simp
            with_reducible rfl
          rotate_left
          · simp only [Act.put, List.setIfInBounds_toArray, List.set_cons_zero, List.set_cons_succ, i64_w, i32_w, xu32_w, xu8_w]
            rfl
          refine one_ (i := 8) (N := some 211) #[true, true, true, true, true, true, true, true, true, false] rfl rfl (one_of HT_.out (by kernel_rfl)) (by decide) (fun K hK => ?_)
          refine goes_ Try.func14 (by kernel_rfl) rfl #[.agg #[.int .i64 x.f0, .slice A5 x.f1.length c5], .agg #[.int .i64 x.f0, .slice A6 x.f1.length c6]] (by rfl) rfl rfl (by (try simp only [List.map_toArray, List.map_cons, List.map_nil]); first | done | rfl) ?_
          with_reducible refine (same_calls x x _ A5 c5 A6 c6 HD5.out HC5.out HD6.out HC6.out).mono ?_
          rw [sameL_refl]
          rintro e w1 ⟨rfl, hb1⟩
          refine ⟨_, rfl, ?_⟩
          have HU1 := Aside0.mk (Kd.C_below HU0.out hb1)
          have HV1 := Aside0.mk (Kd.C_below HV0.out hb1)
          have HB1 := Aside0.mk (HB0.out.trans (hb1.mono HB0.out.size))
          have PS := ps4 HY.out hb1
          refine hK.out _ _ PS (fun hHeld => ?_)
          clear hK K PS
          refine norm_ (a' := ?_) ?_ ?_
          rotate_left
          · show Act.put _ (some 211) _ = _
            simp only [Act.put, List.setIfInBounds_toArray, List.set_cons_zero, List.set_cons_succ, i64_w, i32_w, xu32_w, xu8_w]
            rfl
          refine pure_ (i := 9) (N := some 212) (v := ?_) (a' := ?_) #[true, true, true, true, true, true, true, true, true, true] rfl rfl (any_of HT_.out (by kernel_rfl)) (fun _ _ _ h => h) (Or.inl ⟨by rfl, ?_⟩) ?_ ?_
          rotate_left
          · intro w'
            go_simp
            with_reducible rfl
          rotate_left
          · simp only [Act.put, List.setIfInBounds_toArray, List.set_cons_zero, List.set_cons_succ, i64_w, i32_w, xu32_w, xu8_w]
            rfl
          refine done_ (done_of HT_.out (by kernel_rfl)) ?_
          go_wp2
          go_roundg k2
          case measure => omega
          case rel => exact ⟨i + 1, by first | rfl | (simp; done) | (simp; omega), ⟨by have := HI.out; omega⟩, HU1, HV1, HB1⟩
        · have hj2 : i = n := by have := HI.out; omega
          subst hj2
          go_wp2_with (fail)
          go_ret
          exact ⟨rfl, HB.out⟩
end Go.Proofs.Ytlnipfmgdkiboaa.N
