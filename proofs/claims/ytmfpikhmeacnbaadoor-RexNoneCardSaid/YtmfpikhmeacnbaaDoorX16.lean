/- Patterns by hand: ends of lists of parts, often (mkX16.py). -/
import Derived.Test.YtmfpikhmeacnbaaDoorX15
namespace Go.Proofs.YtmfpikhmeacnbaaDoor.X
open Go.RowKit Go.Proofs.YtmfpikhmeacnbaaDoor.Q Go.Proofs.YtmfpikhmeacnbaaDoorW.PrintWords Go.Proofs.YtmfpikhmeacnbaaDoorW.PrintLast Go.Proofs.YtmfpikhmeacnbaaDoorW.PrintMore
set_option linter.unusedVariables false
set_option linter.unusedSimpArgs false
structure EndsOk (N : Nat) : Prop where
  go : ∀ {p : Pt}, p.sz < N → p.WF → ∀ {w : World} {B q : Nat} {ok : Nat → Prop}, Tr w B ok q p → ∀ {A : Option Addr} {m cl : Nat} {l : List Int}, RI w A m cl l → ∀ {g n c : Nat} {F : List Bool}, BL w g n c F → n = l.length + 1 → n ≤ 1000000 →
    Calls Tryd.prog 28 #[.pointer (some ⟨q, 0, none⟩), .slice A m cl, .slice (some ⟨g, 0, none⟩) n c] w (EndsP w g n F (endsF p l F))
/-- A round of a list of parts. -/
theorem kid_step {w : World} {B : Nat} {ok : Nat → Prop} {p : Pt} {cs : List Nat} (h : TT w B ok p cs) (hw : p.WF) {i : Nat} (hi : i < cs.length) : ∃ x, Tr w B ok cs[i] x ∧ x.sz < p.sz ∧ x.WF ∧ ∀ {α : Type} (f : α → Pt → α) (a : α), (p.kids.drop i).foldl f a = (p.kids.drop (i + 1)).foldl f (f a x) := by
  obtain ⟨h1, h2⟩ := kids_at h
  have hi' : i < p.kids.length := by omega
  have hm : p.kids[i] ∈ p.kids := List.getElem_mem hi'
  exact ⟨p.kids[i], h2 i hi hi', kids_sz p _ hm, kids_wf p hw _ hm, fun f a => by rw [List.drop_eq_getElem_cons hi']; rfl⟩
theorem kids_end {w : World} {B : Nat} {ok : Nat → Prop} {p : Pt} {cs : List Nat} (h : TT w B ok p cs) {α : Type} (f : α → Pt → α) (a : α) : (p.kids.drop cs.length).foldl f a = a := by rw [(kids_at h).1, List.drop_length]; rfl
theorem orL_place {n : Nat} {F : List Bool} : True := trivial
set_option maxHeartbeats 2000000 in
set_option maxRecDepth 100000 in
theorem ends_many {N : Nat} (IH : EndsOk N) {p : Pt} (hsz : p.sz ≤ N) (hwf : p.WF) (hk : p.kind = 1) {w : World} {B q : Nat} {ok : Nat → Prop} (h : Tr w B ok q p) {A : Option Addr} {m cl : Nat} {l : List Int} (hl : RI w A m cl l) {g n c : Nat} {F : List Bool} (hF : BL w g n c F) (hn : n = l.length + 1) (hs : n ≤ 1000000) :
    Calls Tryd.prog 28 #[.pointer (some ⟨q, 0, none⟩), .slice A m cl, .slice (some ⟨g, 0, none⟩) n c] w (EndsP w g n F (endsF p l F)) := by
  rw [many_fold p hwf hk l F]
  obtain ⟨OUT, hOUT⟩ : ∃ O, p.kids.foldl (fun F x => endsF x l F) F = O := ⟨_, rfl⟩
  rw [hOUT]
  have IH := Aside0.mk IH
  have HSZ := Aside0.mk hsz
  have HWF := Aside0.mk hwf
  have HL := Aside0.mk hl
  have HF := Aside0.mk hF
  have HN := Aside0.mk hn
  have HS := Aside0.mk hs
  obtain ⟨cs, htt, hok, _, vs, vp, hq, _, hp⟩ := h
  have HTT := Aside0.mk htt
  have HKP := Aside0.mk hp
  have HQ := Aside0.mk hq
  obtain ⟨Ak, ck, rfl⟩ := Kd.R_slice hp
  have HCM := Aside0.mk (R_max hp)
  obtain ⟨x0, x1, x2, x3, x4, x5⟩ := nd_cell hq
  rw [hk] at x0
  have x0' := x0
  clear hsz hwf hl hF hn htt hok hq hp x0 x1 x2 x3 x5 hk
  have HFO := Aside0.mk hOUT
  clear hOUT
  go_enter Tryd.func28, Tryd.ntmps28
  go_wp2_with (fail)
  try go_frame
  clear x0' x4
  go_loopg [2, 53] (cs.length + 1) (fun kq v2 v53 wr => ∃ (i gf cf : Nat) (Fi : List Bool), v2 = .slice (some ⟨gf, 0, none⟩) n cf ∧ v53 = .int .i64 i ∧ Aside0 (kq + i = cs.length + 1 ∧ i ≤ cs.length) ∧ Aside0 (BL wr gf n cf Fi) ∧ Aside0 (w.heap.size ≤ gf ∨ (gf = g ∧ Fi = F)) ∧ Aside0 ((p.kids.drop i).foldl (fun F x => endsF x l F) Fi = OUT) ∧ Aside0 (Below w.heap.size w wr))
  case atStart => exact ⟨0, g, c, F, rfl, rfl, ⟨by omega, by omega⟩, HF, ⟨.inr ⟨rfl, rfl⟩⟩, ⟨by rw [List.drop_zero]; exact HFO.out⟩, ⟨Below.refl _ _⟩⟩
  case round =>
    clear HFO
    obtain ⟨i, gf, cf, Fi, rfl, rfl, HK, HFi, HG, HO, HB⟩ := hrel
    cases gk with
    | zero => have := HK.out; omega
    | succ k1 =>
    by_cases hi : i < cs.length
    · have hi' : (i : Int) < (cs.length : Int) := by omega
      have HIM := Aside0.mk hi
      obtain ⟨x, hx1, hx2, hx3, hx4⟩ := kid_step HTT.out HWF.out hi
      have HX1 := Aside0.mk (hx1.below HB.out)
      have HX2 := Aside0.mk (show x.sz < N from Nat.lt_of_lt_of_le hx2 HSZ.out)
      have HX3 := Aside0.mk hx3
      have HO2 := Aside0.mk ((hx4 (fun F x => endsF x l F) Fi).symm.trans HO.out)
      obtain ⟨gk2, hA, c1⟩ := kP_cell (Kd.R_below HKP.out HB.out) i hi
      subst hA
      generalize cs[i] = qi at *
      clear hx1 hx2 hx3 hx4 hi
      go_wp2_with (go_at_call 28; (with_reducible refine (IH.out.go HX2.out HX3.out HX1.out (HL.out.below HB.out) HFi.out HN.out HS.out).mono ?_); rintro e w2 ⟨g2, c2, rfl, hb2, hg2, hb⟩; have HF2 := Aside0.mk hb2; have HG2 := Aside0.mk hg2; have HB2 := Aside0.mk (HB.out.trans (hb.mono HB.out.size)); clear hb2 hg2 hb)
      go_roundg k1
      case measure => omega
      case rel => exact ⟨i + 1, g2, c2, _, rfl, by first | rfl | (simp; done) | (rw [wrap64_self (n := (i : Int) + 1) (by omega) (by have h1 := HCM.out; have h2 := HIM.out; unfold maxLen at h1; omega)]; first | rfl | (simp; done)), ⟨by have := HK.out; omega, by have := HIM.out; omega⟩, HF2, ⟨by
        rcases HG2.out with h | ⟨h1, h2⟩
        · exact .inl (Nat.le_trans HB.out.size h)
        · rw [h1, h2]; exact HG.out⟩, HO2, HB2⟩
    · have hi' : ¬ (i : Int) < (cs.length : Int) := by omega
      have HE := Aside0.mk (show i = cs.length by have h1 := HK.out; omega)
      clear hi
      go_wp2_with (fail)
      go_ret
      have ho := HO.out
      rw [HE.out, kids_end HTT.out] at ho
      rw [← ho]
      exact ⟨gf, cf, rfl, HFi.out, HG.out, HB.out⟩
set_option maxHeartbeats 2000000 in
set_option maxRecDepth 100000 in
theorem ends_alike {N : Nat} (IH : EndsOk N) {p : Pt} (hsz : p.sz ≤ N) (hwf : p.WF) (hk : p.kind = 2) {w : World} {B q : Nat} {ok : Nat → Prop} (h : Tr w B ok q p) {A : Option Addr} {m cl : Nat} {l : List Int} (hl : RI w A m cl l) {g n c : Nat} {F : List Bool} (hF : BL w g n c F) (hn : n = l.length + 1) (hs : n ≤ 1000000) :
    Calls Tryd.prog 28 #[.pointer (some ⟨q, 0, none⟩), .slice A m cl, .slice (some ⟨g, 0, none⟩) n c] w (EndsP w g n F (endsF p l F)) := by
  rw [alike_fold p hwf hk l F]
  obtain ⟨OUT, hOUT⟩ : ∃ O, p.kids.foldl (fun O x => orL O (endsF x l F)) (List.replicate (l.length + 1) false) = O := ⟨_, rfl⟩
  rw [hOUT]
  rw [← hn] at hOUT
  have IH := Aside0.mk IH
  have HSZ := Aside0.mk hsz
  have HWF := Aside0.mk hwf
  have HL := Aside0.mk hl
  have HF := Aside0.mk hF
  have HN := Aside0.mk hn
  have HS := Aside0.mk hs
  obtain ⟨cs, htt, hok, _, vs, vp, hq, _, hp⟩ := h
  have HTT := Aside0.mk htt
  have HKP := Aside0.mk hp
  have HQ := Aside0.mk hq
  obtain ⟨Ak, ck, rfl⟩ := Kd.R_slice hp
  have HCM := Aside0.mk (R_max hp)
  obtain ⟨x0, x1, x2, x3, x4, x5⟩ := nd_cell hq
  rw [hk] at x0
  have x0' := x0
  clear hsz hwf hl hF hn htt hok hq hp x0 x1 x2 x3 x5 hk
  have HFO := Aside0.mk hOUT
  clear hOUT
  go_enter Tryd.func28, Tryd.ntmps28
  go_wp2_with (first
    | ((with_reducible refine gate_dst (N := 67) rfl ?_); refine Kd.R_make Kd.bool (w0 := w) w.heap.size 4 rfl rfl 65 (.tmp 66) (.tmp 66) rfl (n : Int) rfl rfl Tryd.underlying65 (.bool false) 1 info4 rfl (by decide) (by decide) false (ok := fun k => w.heap.size ≤ k) (okp := fun _ => False) rfl (fun _ h => h.elim) (Nat.le_refl _) (by omega) (by simp only [Int.toNat_natCast]; omega) (Below.refl _ _) (Nat.le_refl _) ?_; intro v3 w3 hr3 hb3 hg3 ho3; simp only [Int.toNat_natCast] at hr3; obtain ⟨g3, c3, hv3, hg3l, _⟩ := Kd.R_form hr3 (by rw [List.length_replicate]; have := HN.out; omega); rw [List.length_replicate] at hv3; subst hv3; have HG3 := Aside0.mk hg3l; have HR3 := Aside0.mk (show BL w3 g3 n c3 (List.replicate n false) from Kd.R_lower (Kd.R_mono hr3 (fun _ _ => trivial)) (Nat.zero_le _)); have HB3 := Aside0.mk hb3; clear hr3 hg3 ho3 hg3l x4; have x4 := (nd_cell ((hb3.block q (blk_lt HQ.out)).trans HQ.out)).2.2.2.2.1; clear hb3))
  try go_frame
  clear x0' x4
  go_loopg [73] (cs.length + 1) (fun kq v73 wr => ∃ (i : Nat) (O : List Bool), v73 = .int .i64 i ∧ Aside0 (kq + i = cs.length + 1 ∧ i ≤ cs.length) ∧ Aside0 (BL wr g3 n c3 O) ∧ Aside0 ((p.kids.drop i).foldl (fun O x => orL O (endsF x l F)) O = OUT) ∧ Aside0 (Below w.heap.size w wr))
  case atStart => exact ⟨0, _, rfl, ⟨by omega, by omega⟩, HR3, ⟨by rw [List.drop_zero]; exact HFO.out⟩, HB3⟩
  case round =>
    clear HFO HR3 HB3
    obtain ⟨i, O, rfl, HK, HO3, HO, HB⟩ := hrel
    cases gk with
    | zero => have := HK.out; omega
    | succ k1 =>
    by_cases hi : i < cs.length
    · have hi' : (i : Int) < (cs.length : Int) := by omega
      have HIM := Aside0.mk hi
      obtain ⟨x, hx1, hx2, hx3, hx4⟩ := kid_step HTT.out HWF.out hi
      have HX1 := Aside0.mk (hx1.below HB.out)
      have HX2 := Aside0.mk (show x.sz < N from Nat.lt_of_lt_of_le hx2 HSZ.out)
      have HX3 := Aside0.mk hx3
      have HO2 := Aside0.mk ((hx4 (fun O x => orL O (endsF x l F)) O).symm.trans HO.out)
      obtain ⟨gk2, hA, c1⟩ := kP_cell (Kd.R_below HKP.out HB.out) i hi
      subst hA
      generalize cs[i] = qi at *
      clear hx1 hx2 hx3 hx4 hi
      go_wp2_with (first
        | (go_at_call 28; (with_reducible refine (IH.out.go HX2.out HX3.out HX1.out (HL.out.below HB.out) (HF.out.below HB.out) HN.out HS.out).mono ?_); rintro e w2 ⟨g2, c2, rfl, hb2, hg2, hb⟩; have HF2 := Aside0.mk hb2; have HB2 := Aside0.mk (HB.out.trans (hb.mono HB.out.size)); have HO4 := Aside0.mk (HO3.out.below hb); clear hb2 hg2 hb)
        | (go_at_call 42; (with_reducible refine (join_calls HO4.out HF2.out HS.out).mono ?_); rintro e w4 ⟨more, rfl, hm, hb4, hs4⟩; have HO5 := Aside0.mk hb4; have HB5 := Aside0.mk (below_stp HB2.out hs4 HG3.out); clear hm hb4 hs4))
      go_roundg k1
      case measure => omega
      case rel => exact ⟨i + 1, _, by first | rfl | (simp; done) | (rw [wrap64_self (n := (i : Int) + 1) (by omega) (by have h1 := HCM.out; have h2 := HIM.out; unfold maxLen at h1; omega)]; first | rfl | (simp; done)), ⟨by have := HK.out; omega, by have := HIM.out; omega⟩, HO5, HO2, HB5⟩
    · have hi' : ¬ (i : Int) < (cs.length : Int) := by omega
      have HE := Aside0.mk (show i = cs.length by have h1 := HK.out; omega)
      clear hi
      go_wp2_with (fail)
      go_ret
      have ho := HO.out
      rw [HE.out, kids_end HTT.out] at ho
      rw [← ho]
      exact ⟨g3, c3, rfl, HO3.out, .inl HG3.out, HB.out⟩
/-- What comes of a part that comes again, for the first time. -/
def onceF (p : Pt) (s : Int) (l : List Int) (F : List Bool) : List Bool := if s = 43 then endsF p l F else orL (endsF p l F) F
theorem BL.keep {w w1 : World} {g n c b : Nat} {L : List Bool} (h : BL w g n c L) (hs : Stp b w w1) (hb : g ≠ b) : BL w1 g n c L := h.step (hs.block g h.lt hb)
set_option maxHeartbeats 2000000 in
set_option maxRecDepth 100000 in
theorem often_calls {N : Nat} (IH : EndsOk N) {p : Pt} {sg : Int} (hsz : (Pt.again p sg).sz ≤ N) (hwf : p.WF) {w : World} {B q : Nat} {ok : Nat → Prop} (h : Tr w B ok q (.again p sg)) {A : Option Addr} {m cl : Nat} {l : List Int} (hl : RI w A m cl l) {g n c : Nat} {F : List Bool} (hF : BL w g n c F) (hn : n = l.length + 1) (hs : n ≤ 1000000) :
    Calls Tryd.prog 43 #[.pointer (some ⟨q, 0, none⟩), .slice A m cl, .slice (some ⟨g, 0, none⟩) n c] w (EndsP w g n F (endsF (.again p sg) l F)) := by
  have HSZ := Aside0.mk (show p.sz < N from Nat.lt_of_lt_of_le (Nat.lt_succ_self _) hsz)
  have IH := Aside0.mk IH
  have HWF := Aside0.mk hwf
  have HL := Aside0.mk hl
  have HF := Aside0.mk hF
  have HN := Aside0.mk hn
  have HS := Aside0.mk hs
  have HFL := Aside0.mk hF.len
  obtain ⟨cs, ⟨b, cb, ecs, htt, hnd⟩, hok, _, vs, vp, hq, _, hp⟩ := h
  subst ecs
  have HT := Aside0.mk (show Tr w B ok b p from ⟨cb, htt, hnd⟩)
  obtain ⟨Ak, ck, rfl⟩ := Kd.R_slice hp
  obtain ⟨x0, x1, x2, x3, x4, x5⟩ := nd_cell hq
  have HQ := Aside0.mk (show w.heap[q]? = some (.cells (ndL 3 vs false false (.slice Ak 1 ck) sg).toArray 74 (0, 0)) from hq)
  obtain ⟨gk2, hA, y0⟩ := kP_cell hp 0 (by simp)
  subst hA
  have y0' : w.cell? ⟨gk2, 0, none⟩ = some (.pointer (some ⟨b, 0, none⟩)) := y0
  have x5' : w.cell? ⟨q, 5, none⟩ = some (.int .i32 sg) := x5
  have x4' : w.cell? ⟨q, 4, none⟩ = some (.slice (some ⟨gk2, 0, none⟩) 1 ck) := x4
  obtain ⟨OUT, hOUT⟩ : ∃ O, endsF (.again p sg) l F = O := ⟨_, rfl⟩
  rw [hOUT]
  have HOUT := Aside0.mk hOUT
  have hn0 : 0 < n := by omega
  clear hsz hwf hl hF hn htt hnd hok hq hp y0 x0 x1 x2 x3 x4 x5 hOUT
  have hcs : (sg = 43) ∨ (sg = 63) ∨ ((sg != 43) = true ∧ (sg == 63) = false) := by
    by_cases e : sg = 43
    · exact .inl e
    · by_cases e2 : sg = 63
      · exact .inr (.inl e2)
      · exact .inr (.inr ⟨bne_iff_ne.2 e, beq_eq_false_iff_ne.2 e2⟩)
  rcases hcs with rfl | rfl | ⟨s1, s2⟩
  · have HOUT2 := Aside0.mk (show clo (endsF p l) (l.length + 2) (endsF p l F) = OUT by rw [← HOUT.out, endsF, if_neg (by decide), if_pos rfl])
    go_enter Tryd.func43, Tryd.ntmps43
    go_wp2_with (first
      | (go_at_call 28; (with_reducible refine (IH.out.go HSZ.out HWF.out HT.out HL.out HF.out HN.out HS.out).mono ?_); rintro e w2 ⟨g2, c2, rfl, hb2, hg2, hb⟩; have HE2 := Aside0.mk hb2; have HB2 := Aside0.mk hb; have x5'' := (nd_cell ((hb.block q (blk_lt HQ.out)).trans HQ.out)).2.2.2.2.2; clear hb2 hg2 hb)
      | (go_at_call 50; (with_reducible refine (clone_calls HE2.out hn0 HS.out).mono ?_); rintro e w3 ⟨v3, rfl, ⟨g9, c9, hv, hg9, hbl⟩, hb⟩; rw [← HE2.out.len.1] at hv hbl; subst hv; have HC3 := Aside0.mk hbl; have HG9 := Aside0.mk (Nat.le_trans HB2.out.size hg9); have HB3 := Aside0.mk (HB2.out.trans (hb.mono HB2.out.size)); have HQ3 := Aside0.mk ((hb.block q (Nat.lt_of_lt_of_le (blk_lt HQ.out) HB2.out.size)).trans ((HB2.out.block q (blk_lt HQ.out)).trans HQ.out)); have z5 := (nd_cell HQ3.out).2.2.2.2.2; clear hb hg9 hbl x5''))
    have HO9 := Aside0.mk HC3.out
    have HB9 := Aside0.mk HB3.out
    clear HC3 HB3 HE2 HB2
    try go_frame
    clear y0' x5' x4'
    go_loopg [] (l.length + 2) (fun kq wr => ∃ (O : List Bool), Aside0 (clo (endsF p l) kq O = OUT ∧ l.length + 2 ≤ kq + cnt O) ∧ Aside0 (BL wr g9 n c9 O) ∧ Aside0 (Below w.heap.size w wr))
    case atStart => exact ⟨_, ⟨HOUT2.out, by omega⟩, HO9, HB9⟩
    case round =>
      clear HOUT2 HO9 HB9
      obtain ⟨O, HO, HBL, HB⟩ := hrel
      have HOL := Aside0.mk (show O.length = l.length + 1 from by rw [← HN.out]; exact HBL.out.len.1.symm)
      cases gk with
      | zero => have h1 := HO.out.2; have h2 := cnt_le O; have h3 := HOL.out; omega
      | succ k1 =>
      have HOE := Aside0.mk (orL_more O (endsF p l O) (by rw [HOL.out, ends_len p l O HOL.out]))
      by_cases he : orL O (endsF p l O) = O
      · have HX := Aside0.mk (show O = OUT by have h := HO.out.1; rw [clo, if_pos he] at h; exact h)
        have HE := Aside0.mk he
        clear he
        go_wp2_with (first
          | (go_at_call 28; (with_reducible refine (IH.out.go HSZ.out HWF.out (HT.out.below HB.out) (HL.out.below HB.out) HBL.out HN.out HS.out).mono ?_); rintro e w5 ⟨g5, c5, rfl, hb5, hg5, hb⟩; have HF5 := Aside0.mk hb5; have HB5 := Aside0.mk (HB.out.trans (hb.mono HB.out.size)); have HO5 := Aside0.mk (HBL.out.below hb); clear hb5 hg5 hb)
          | (go_at_call 42; (with_reducible refine (join_calls HO5.out HF5.out HS.out).mono ?_); rintro e w6 ⟨more, rfl, hm, hb6, hs6⟩; have hm' := hm.2 HE.out; subst hm'; have HO6 := Aside0.mk hb6; have HB6 := Aside0.mk (below_stp HB5.out hs6 HG9.out); clear hm hb6 hs6))
        go_ret
        rw [← HX.out]
        exact ⟨g9, c9, rfl, by have := HO6.out; rw [HE.out] at this; exact this, .inl HG9.out, HB6.out⟩
      · have HX := Aside0.mk (show clo (endsF p l) k1 (orL O (endsF p l O)) = OUT by have h := HO.out.1; rw [clo, if_neg he] at h; exact h)
        have HE := Aside0.mk he
        clear he
        go_wp2_with (first
          | (go_at_call 28; (with_reducible refine (IH.out.go HSZ.out HWF.out (HT.out.below HB.out) (HL.out.below HB.out) HBL.out HN.out HS.out).mono ?_); rintro e w5 ⟨g5, c5, rfl, hb5, hg5, hb⟩; have HF5 := Aside0.mk hb5; have HB5 := Aside0.mk (HB.out.trans (hb.mono HB.out.size)); have HO5 := Aside0.mk (HBL.out.below hb); clear hb5 hg5 hb)
          | (go_at_call 42; (with_reducible refine (join_calls HO5.out HF5.out HS.out).mono ?_); rintro e w6 ⟨more, rfl, hm, hb6, hs6⟩; have hm' : more = true := (by cases more; exact absurd (hm.1 rfl) HE.out; rfl); subst hm'; have HO6 := Aside0.mk hb6; have HB6 := Aside0.mk (below_stp HB5.out hs6 HG9.out); clear hm hb6 hs6))
        go_roundg k1
        case measure => omega
        case rel => exact ⟨_, ⟨HX.out, by have h1 := HO.out.2; have h2 := HOE.out.2 HE.out; omega⟩, HO6, HB6⟩
  · have HOUT2 := Aside0.mk (show orL (endsF p l F) F = OUT by rw [← HOUT.out, endsF, if_pos rfl, if_neg (by decide)])
    go_enter Tryd.func43, Tryd.ntmps43
    go_wp2_with (first
      | (go_at_call 28; (with_reducible refine (IH.out.go HSZ.out HWF.out HT.out HL.out HF.out HN.out HS.out).mono ?_); rintro e w2 ⟨g2, c2, rfl, hb2, hg2, hb⟩; have HE2 := Aside0.mk hb2; have HB2 := Aside0.mk hb; have x5'' := (nd_cell ((hb.block q (blk_lt HQ.out)).trans HQ.out)).2.2.2.2.2; clear hb2 hg2 hb)
      | (go_at_call 50; (with_reducible refine (clone_calls HE2.out hn0 HS.out).mono ?_); rintro e w3 ⟨v3, rfl, ⟨g9, c9, hv, hg9, hbl⟩, hb⟩; rw [← HE2.out.len.1] at hv hbl; subst hv; have HC3 := Aside0.mk hbl; have HG9 := Aside0.mk (Nat.le_trans HB2.out.size hg9); have HB3 := Aside0.mk (HB2.out.trans (hb.mono HB2.out.size)); have HQ3 := Aside0.mk ((hb.block q (Nat.lt_of_lt_of_le (blk_lt HQ.out) HB2.out.size)).trans ((HB2.out.block q (blk_lt HQ.out)).trans HQ.out)); have z5 := (nd_cell HQ3.out).2.2.2.2.2; clear hb hg9 hbl x5'')
      | (go_at_call 42; (with_reducible refine (join_calls HC3.out (HF.out.below HB3.out) HS.out).mono ?_); rintro e w4 ⟨more, rfl, hm, hb4, hs4⟩; have HC4 := Aside0.mk hb4; have HB4 := Aside0.mk (below_stp HB3.out hs4 HG9.out); have z6 := (nd_cell ((HB4.out.block q (blk_lt HQ.out)).trans HQ.out)).2.2.2.2.2; clear hm hb4 hs4 z5))
    go_ret
    rw [← HOUT2.out]
    exact ⟨g9, _, rfl, HC4.out, .inl HG9.out, HB4.out⟩
  · have HOUT2 := Aside0.mk (show clo (endsF p l) (l.length + 2) (orL (endsF p l F) F) = OUT by rw [← HOUT.out, endsF, if_neg (beq_eq_false_iff_ne.1 s2), if_neg (bne_iff_ne.1 s1)])
    go_enter Tryd.func43, Tryd.ntmps43
    go_wp2_with (first
      | (go_at_call 28; (with_reducible refine (IH.out.go HSZ.out HWF.out HT.out HL.out HF.out HN.out HS.out).mono ?_); rintro e w2 ⟨g2, c2, rfl, hb2, hg2, hb⟩; have HE2 := Aside0.mk hb2; have HB2 := Aside0.mk hb; have x5'' := (nd_cell ((hb.block q (blk_lt HQ.out)).trans HQ.out)).2.2.2.2.2; clear hb2 hg2 hb)
      | (go_at_call 50; (with_reducible refine (clone_calls HE2.out hn0 HS.out).mono ?_); rintro e w3 ⟨v3, rfl, ⟨g9, c9, hv, hg9, hbl⟩, hb⟩; rw [← HE2.out.len.1] at hv hbl; subst hv; have HC3 := Aside0.mk hbl; have HG9 := Aside0.mk (Nat.le_trans HB2.out.size hg9); have HB3 := Aside0.mk (HB2.out.trans (hb.mono HB2.out.size)); have HQ3 := Aside0.mk ((hb.block q (Nat.lt_of_lt_of_le (blk_lt HQ.out) HB2.out.size)).trans ((HB2.out.block q (blk_lt HQ.out)).trans HQ.out)); have z5 := (nd_cell HQ3.out).2.2.2.2.2; clear hb hg9 hbl x5'')
      | (go_at_call 42; (with_reducible refine (join_calls HC3.out (HF.out.below HB3.out) HS.out).mono ?_); rintro e w4 ⟨more, rfl, hm, hb4, hs4⟩; have HC4 := Aside0.mk hb4; have HB4 := Aside0.mk (below_stp HB3.out hs4 HG9.out); have z6 := (nd_cell ((HB4.out.block q (blk_lt HQ.out)).trans HQ.out)).2.2.2.2.2; clear hm hb4 hs4 z5))
    have HO9 := Aside0.mk HC4.out
    have HB9 := Aside0.mk HB4.out
    clear HC4 HB4 HE2 HB2
    try go_frame
    clear y0' x5' x4'
    go_loopg [] (l.length + 2) (fun kq wr => ∃ (O : List Bool), Aside0 (clo (endsF p l) kq O = OUT ∧ l.length + 2 ≤ kq + cnt O) ∧ Aside0 (BL wr g9 n c9 O) ∧ Aside0 (Below w.heap.size w wr))
    case atStart => exact ⟨_, ⟨HOUT2.out, by omega⟩, HO9, HB9⟩
    case round =>
      clear HOUT2 HO9 HB9
      obtain ⟨O, HO, HBL, HB⟩ := hrel
      have HOL := Aside0.mk (show O.length = l.length + 1 from by rw [← HN.out]; exact HBL.out.len.1.symm)
      cases gk with
      | zero => have h1 := HO.out.2; have h2 := cnt_le O; have h3 := HOL.out; omega
      | succ k1 =>
      have HOE := Aside0.mk (orL_more O (endsF p l O) (by rw [HOL.out, ends_len p l O HOL.out]))
      by_cases he : orL O (endsF p l O) = O
      · have HX := Aside0.mk (show O = OUT by have h := HO.out.1; rw [clo, if_pos he] at h; exact h)
        have HE := Aside0.mk he
        clear he
        go_wp2_with (first
          | (go_at_call 28; (with_reducible refine (IH.out.go HSZ.out HWF.out (HT.out.below HB.out) (HL.out.below HB.out) HBL.out HN.out HS.out).mono ?_); rintro e w5 ⟨g5, c5, rfl, hb5, hg5, hb⟩; have HF5 := Aside0.mk hb5; have HB5 := Aside0.mk (HB.out.trans (hb.mono HB.out.size)); have HO5 := Aside0.mk (HBL.out.below hb); clear hb5 hg5 hb)
          | (go_at_call 42; (with_reducible refine (join_calls HO5.out HF5.out HS.out).mono ?_); rintro e w6 ⟨more, rfl, hm, hb6, hs6⟩; have hm' := hm.2 HE.out; subst hm'; have HO6 := Aside0.mk hb6; have HB6 := Aside0.mk (below_stp HB5.out hs6 HG9.out); clear hm hb6 hs6))
        go_ret
        rw [← HX.out]
        exact ⟨g9, c9, rfl, by have := HO6.out; rw [HE.out] at this; exact this, .inl HG9.out, HB6.out⟩
      · have HX := Aside0.mk (show clo (endsF p l) k1 (orL O (endsF p l O)) = OUT by have h := HO.out.1; rw [clo, if_neg he] at h; exact h)
        have HE := Aside0.mk he
        clear he
        go_wp2_with (first
          | (go_at_call 28; (with_reducible refine (IH.out.go HSZ.out HWF.out (HT.out.below HB.out) (HL.out.below HB.out) HBL.out HN.out HS.out).mono ?_); rintro e w5 ⟨g5, c5, rfl, hb5, hg5, hb⟩; have HF5 := Aside0.mk hb5; have HB5 := Aside0.mk (HB.out.trans (hb.mono HB.out.size)); have HO5 := Aside0.mk (HBL.out.below hb); clear hb5 hg5 hb)
          | (go_at_call 42; (with_reducible refine (join_calls HO5.out HF5.out HS.out).mono ?_); rintro e w6 ⟨more, rfl, hm, hb6, hs6⟩; have hm' : more = true := (by cases more; exact absurd (hm.1 rfl) HE.out; rfl); subst hm'; have HO6 := Aside0.mk hb6; have HB6 := Aside0.mk (below_stp HB5.out hs6 HG9.out); clear hm hb6 hs6))
        go_roundg k1
        case measure => omega
        case rel => exact ⟨_, ⟨HX.out, by have h1 := HO.out.2; have h2 := HOE.out.2 HE.out; omega⟩, HO6, HB6⟩
end Go.Proofs.YtmfpikhmeacnbaaDoor.X
