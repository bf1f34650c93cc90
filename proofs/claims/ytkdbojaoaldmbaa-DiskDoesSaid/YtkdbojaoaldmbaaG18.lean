/- The law DiskLasts by hand. -/
import Derived.Test.YtkdbojaoaldmbaaG17
namespace Go.Proofs.Ytkdbojaoaldmbaa.G
open Go.RowKit Go.Proofs.Ytkdbojaoaldmbaa.Q Go.Proofs.YtkdbojaoaldmbaaW.PrintWords Go.Proofs.YtkdbojaoaldmbaaW.PrintLast Go.Proofs.YtkdbojaoaldmbaaW.PrintMore
set_option linter.unusedVariables false
set_option linter.unusedSimpArgs false
attribute [local go_sem] min2_mn min_two max2_mx max_two
theorem crashS_len (keep : Int) (st : St) : (crashS keep st).length ≤ st.length := List.length_filterMap_le _ _
theorem filterMap_id {F : FS → Option FS} : ∀ (l : St), (∀ g ∈ l, F g = some g) → l.filterMap F = l
  | [], _ => rfl
  | g :: r, h => by rw [List.filterMap_cons, h g List.mem_cons_self, filterMap_id r (fun x hx => h x (List.mem_cons_of_mem _ hx))]
theorem lasts_nums {keep : Int} {f : FS} (h0 : 0 ≤ f.l) (h1 : f.l ≤ f.b.length) (h2 : f.b.length ≤ 16777216) : wrap64 ((f.b.length : Int) - f.l) = (f.b.length : Int) - f.l ∧ f.l + mn (mx keep 0) ((f.b.length : Int) - f.l) = ((kpN keep f : Nat) : Int) ∧ wrap64 ((kpN keep f : Nat) : Int) = ((kpN keep f : Nat) : Int) ∧ ¬ f.l < 0 ∧ ¬ f.l > (f.b.length : Int) ∧ kpN keep f ≤ f.b.length := by
  obtain ⟨hk1, hk2, hk3⟩ := kp_le (keep := keep) h0 h1
  refine ⟨wrap_id (by omega) (by omega), hk1, ?_, by omega, by omega, hk2⟩
  generalize kpN keep f = N at *
  exact wrap_id (by omega) (by omega)
/-- Behind a crash another one leaves all as it is. -/
theorem crash_again {keep : Int} {st : St} (h : ∀ f ∈ st, 0 ≤ f.l ∧ f.l ≤ f.b.length) : crashS 0 (crashS keep st) = crashS keep st := by
  have key : ∀ g ∈ crashS keep st, (if kpN 0 g = 0 then none else some (crashF 0 g)) = some g := fun g hg => by
    obtain ⟨f, hf, _, hk, rfl⟩ := mem_crashS hg
    obtain ⟨h0, h1⟩ := h f hf
    have h2 := (kp_le (keep := keep) h0 h1).2.1
    have hl : (f.b.take (kpN keep f)).length = kpN keep f := by rw [List.length_take]; omega
    have e0 : kpI 0 (crashF keep f) = ((kpN keep f : Nat) : Int) := by
      show ((kpN keep f : Nat) : Int) + mn (mx 0 0) (((f.b.take (kpN keep f)).length : Int) - ((kpN keep f : Nat) : Int)) = _
      rw [hl]
      unfold mn mx
      split <;> split <;> omega
    have e : kpN 0 (crashF keep f) = kpN keep f := by
      show (kpI 0 (crashF keep f)).toNat = _
      rw [e0]
      exact Int.toNat_natCast _
    rw [e, if_neg hk]
    show some (FS.mk f.n ((f.b.take (kpN keep f)).take (kpN 0 (crashF keep f))) (kpN 0 (crashF keep f) : Nat)) = _
    rw [e, List.take_take, Nat.min_self]
    rfl
  exact filterMap_id _ key
theorem files_lasts {w : World} {D M B : Nat} {room : Int} {dat : Nat → Prop} {fs : ByteArray → Option Raw} {st : St} (h : DiskG w D M room B dat fs st) : ∀ f ∈ st, 0 ≤ f.l ∧ f.l ≤ f.b.length := fun f hf => by
  have hl := look_of_mem h.files.sorted hf
  rcases h.files.at_ f.n with ⟨_, h2⟩ | ⟨r, g, _, h2, hg⟩
  · rw [h2] at hl; cases hl
  · rw [h2] at hl; cases hl; exact ⟨hg.low, hg.high⟩
set_option maxHeartbeats 4000000 in
set_option maxRecDepth 100000 in
theorem lasts_law (A : Option Addr) (c : Nat) (l : List S31) (keep : Int) (w : World) (hr : k31.C w A l.length l) (hc : l.length ≤ c) (hok : OkOps l) :
    Calls Try.prog 4 #[.slice A l.length c, .int .i64 keep] w fun e w' => e = .returned (.bool true) ∧ Below w.heap.size w w' := by
  have HR := Aside0.mk hr
  have HC := Aside0.mk hc
  have HOK := Aside0.mk hok
  clear hr hc hok
  go_enter Try.func4, Try.ntmps4
  go_wp2_with (first
    | (go_at_call 8; (with_reducible refine (new_calls 16777216 (by decide) (by decide) w).mono ?_); rintro e w1 ⟨D, M, rfl, hD, hb⟩; have HD := Aside0.mk hD; have HN := Aside0.mk hb; clear hD hb)
    | (go_at_call 9; (with_reducible refine (Go.Proofs.Ytkdbojaoaldmbaa.D.live_calls w1).mono ?_); rintro e w2 ⟨rfl, hb⟩; have HL := Aside0.mk hb; clear hb)
    | (go_at_call 10; (with_reducible refine (few_calls A c l w2 HC.out (Kd.C_below HR.out (HN.out.trans (HL.out.mono HN.out.size))) HOK.out.len).mono ?_); rintro e w3 ⟨m, hm, rfl, hb⟩; have HF3 := Aside0.mk hb; have HM := Aside0.mk hm; clear hb hm))
  have HB3 : Aside0 (Below w.heap.size w w3) := ⟨HN.out.trans ((HL.out.trans (HF3.out.mono HL.out.size)).mono HN.out.size)⟩
  have HD3 : Aside0 (DiskG w3 D M 16777216 w.heap.size (fun _ => False) (fun _ => none) []) := ⟨HD.out.below (HL.out.trans (HF3.out.mono HL.out.size))⟩
  clear HD HN HL HF3
  go_loopg [40] (m + 1) (fun kq v40 wr => ∃ (i : Nat) (st : St) (dat : Nat → Prop) (fs : ByteArray → Option Raw), v40 = .int .i64 i ∧ Aside0 (kq + i = m + 1 ∧ i ≤ m) ∧ Aside0 (DiskG wr D M 16777216 w.heap.size dat fs st) ∧ Aside0 (Below w.heap.size w wr))
  case atStart => exact ⟨0, [], _, _, rfl, ⟨by omega⟩, HD3, HB3⟩
  case round =>
    obtain ⟨i, st, dat, fs, rfl, HK, HDr, HBr⟩ := hrel
    cases gk with
    | zero => have := HK.out; omega
    | succ k1 =>
    by_cases hlt : i < m
    · have hi0 : (0 : Int) ≤ (i : Int) := by omega
      have hi1 : (i : Int) < (m : Int) := by omega
      have hil : i < l.length := by have := HM.out; omega
      obtain ⟨ad, A1, c1, hAe, x0, x1, x2, x3, x4, hc1, hd1⟩ := at_T31 (Kd.C_below HR.out HBr.out) (i : Int) hi0 (by omega)
      subst hAe
      simp only [Int.toNat_natCast] at x0 x1 x2 x3 x4
      have HOI := Aside0.mk (HOK.out.at_ hil)
      have hml : m ≤ c := by have := HM.out; have := HC.out; omega
      have hmx : l.length ≤ 140737488355328 := HOK.out.len
      generalize rd_T31 l (i : Int) = y at *
      have HY := Aside0.mk (And.intro hc1 (Kd.C_below hd1 (below_alloc (Below.refl _ _) (.cells #[.int .i64 y.f0, .string y.f1, .string y.f2, .slice A1 y.f3.length c1, .int .i64 y.f4] 31))))
      clear hd1 hc1
      go_wp2_with (go_at_call 12; (with_reducible refine (does_calls (HDr.out.below (below_alloc (Below.refl _ _) _)) y.f0 y.f1 y.f2 A1 c1 y.f3 y.f4 HY.out.1 HY.out.2 HOI.out.nm HOI.out.tt HOI.out.bl).mono ?_); rintro e w5 ⟨rfl, hL⟩; have HLf := Aside0.mk hL; clear hL)
      go_roundg k1
      case measure => omega
      case rel =>
        obtain ⟨dat5, fs5, hD5, hW5⟩ := HLf.out.split
        have hb1 := below_alloc (Below.refl wr.heap.size wr) (.cells #[.int .i64 y.f0, .string y.f1, .string y.f2, .slice A1 y.f3.length c1, .int .i64 y.f4] 31)
        have hb5 := Chg.below_mine (HDr.out.below hb1) hW5.chg
        exact ⟨i + 1, _, dat5, fs5, by first | rfl | (simp; done) | (rw [wrap_id (n := (i : Int) + 1) (by omega) (by have := HM.out; omega)]; first | rfl | (simp; done)), ⟨by have := HK.out; omega⟩, ⟨hD5⟩, ⟨(HBr.out.trans (hb1.mono HBr.out.size)).trans hb5⟩⟩
    · have hi : i = m := by have := HK.out; omega
      subst hi
      clear hlt
      go_wp2_with (first
        | (go_at_call 11; (with_reducible refine (list_calls HDr.out).mono ?_); rintro e w4 ⟨v4, rfl, hR, hb⟩; obtain ⟨A4, c4, hv⟩ := Kd.R_slice hR; rw [List.length_map] at hv; subst hv; obtain ⟨nn, hnn⟩ : ∃ nn : Nat, nn = st.length := ⟨_, rfl⟩; rw [← hnn] at hR ⊢; have HNN := Aside0.mk hnn; have HR4 := Aside0.mk hR; have HB4 := Aside0.mk hb; have HD4 := Aside0.mk (HDr.out.below hb); clear hnn hR hb)
        | (go_at_call 16; (with_reducible refine (clone_calls HD4.out).mono ?_); rintro e w5 ⟨D2, M2, dat2, fs2, rfl, hD2, hb⟩; have HD2 := Aside0.mk hD2; have HB5 := Aside0.mk hb; clear hD2 hb)
        | (go_at_call 17; (with_reducible refine (crash_calls HD2.out keep).mono ?_); rintro e w6 ⟨rfl, hL⟩; obtain ⟨dat6, fs6, hD6, hW6⟩ := hL.split; have HC6 := Aside0.mk hD6; have HB6 := Aside0.mk (HB5.out.trans (Chg.below_mine HD2.out hW6.chg)); have HR6 := Aside0.mk (Kd.R_below HR4.out HB6.out); have HD6 := Aside0.mk (HD4.out.below HB6.out); clear hL hD6 hW6))
      have HBw : Aside0 (Below w.heap.size w w6) := ⟨HBr.out.trans ((HB4.out.trans (HB6.out.mono HB4.out.size)).mono HBr.out.size)⟩
      have hfew : nn ≤ 64 := by have := HD6.out.few; have := HNN.out; omega
      have HFW := Aside0.mk hfew
      have hcap4 := (Kd.R_reads' HR6.out).2.1
      have HZ4 : Aside0 (w.heap.size ≤ w4.heap.size) := ⟨(HBr.out.trans (HB4.out.mono HBr.out.size)).size⟩
      clear hfew HB4 HB5 HB6 HD4 HD2 HDr HBr HR4 HB3 HD3 hcap4
      go_loopg [59] (nn + 1) (fun kq v59 wq => ∃ (j : Nat), v59 = .int .i64 j ∧ Aside0 (kq + j = nn + 1 ∧ j ≤ nn) ∧ Aside0 (Below w6.heap.size w6 wq))
      case atStart => exact ⟨0, rfl, ⟨by omega⟩, ⟨Below.refl _ _⟩⟩
      case round =>
        obtain ⟨j, rfl, HJ, HBc⟩ := hrel
        cases gk with
        | zero => have := HJ.out; omega
        | succ k2 =>
        by_cases hlt2 : j < nn
        · obtain ⟨f, f1, f2, f3⟩ := names_at HD6.out.files.sorted (show j < st.length by have := HNN.out; omega)
          have hj1 : (j : Int) < (nn : Int) := by omega
          have hra := Kd.R_reads' (Kd.R_below HR6.out HBc.out)
          obtain ⟨ad, hA4, x0⟩ := Kd.at_string hra.2.2 (j : Int) (by omega) (by rw [List.length_map]; have := HNN.out; omega)
          have hca := hra.2.1
          subst hA4
          rw [f1] at x0
          simp only [Int.toNat_natCast] at x0
          clear hra f1 f3
          have HFL := Aside0.mk f2
          have hfb : f.b.length ≤ 16777216 := file_small HD6.out f2
          obtain ⟨fl0, fl1⟩ := files_lasts HD6.out f (look_mem f2).1
          obtain ⟨hwl, hke, hwk, g0, g1, hk2⟩ := lasts_nums (keep := keep) fl0 fl1 hfb
          have e1 : readE st f.n = 0 := by unfold readE; rw [f2]
          have e2 : readB st f.n = f.b := by unfold readB; rw [f2]
          have e3 : lastsR st f.n = (f.l, 0) := by unfold lastsR; rw [f2]
          have hl2 : look (crashS keep st) f.n = if kpN keep f = 0 then none else some (crashF keep f) := by rw [look_crashS HD6.out.files.sorted, f2]; rfl
          have HE := Aside0.mk (And.intro e1 (And.intro e2 e3))
          have HFB := Aside0.mk (And.intro hfb hk2)
          clear f2 hfb e1 e2 e3 fl0 fl1
          by_cases hz : kpN keep f = 0
          · rw [if_pos hz] at hl2
            have r1 : readE (crashS keep st) f.n = 4 := by unfold readE; rw [hl2]
            have r2 : readB (crashS keep st) f.n = [] := by unfold readB; rw [hl2]
            have r3 : lastsR (crashS keep st) f.n = (0, 4) := by unfold lastsR; rw [hl2]
            have HRR := Aside0.mk (And.intro r1 (And.intro r2 r3))
            have hz' : ((kpN keep f : Nat) : Int) = 0 := by rw [hz]; rfl
            rw [hz'] at hke
            clear hl2 r1 r2 r3 hz hz' hwk hk2
            go_wp2_with (first
              | (go_at_call 13; (with_reducible refine (read_calls (HD6.out.below HBc.out) f.n).mono ?_); rintro e wA ⟨vA, rfl, hR, hb⟩; rw [HE.out.1]; rw [HE.out.2.1] at hR; obtain ⟨Ax, cx, rfl⟩ := Kd.R_slice hR; have HRx := Aside0.mk hR; have HBn := Aside0.mk (below_step HBc.out hb); clear HBc; have HBc := HBn; clear HBn; clear hR hb)
              | (go_at_call 13; (with_reducible refine (read_calls (HC6.out.below HBc.out) f.n).mono ?_); rintro e wB ⟨vB, rfl, hR, hb⟩; rw [HRR.out.1]; have HBn := Aside0.mk (below_step HBc.out hb); clear HBc; have HBc := HBn; clear HBn; clear hR hb)
              | (go_at_call 14; (with_reducible refine (lasts_calls (HD6.out.below HBc.out) f.n).mono ?_); rintro e w9 ⟨rfl, h9⟩; subst w9; rw [HE.out.2.2]; dsimp only)
              | (go_at_call 14; (with_reducible refine (lasts_calls (HC6.out.below HBc.out) f.n).mono ?_); rintro e w9 ⟨rfl, h9⟩; subst w9; rw [HRR.out.2.2]; dsimp only))
            go_roundg k2
            case measure => omega
            case rel => exact ⟨j + 1, by first | rfl | (simp; done) | (rw [wrap_id (n := (j : Int) + 1) (by omega) (by have := HFW.out; omega)]; first | rfl | (simp; done)), ⟨by have := HJ.out; omega⟩, HBc⟩
          · rw [if_neg hz] at hl2
            have hcl : (crashF keep f).b.length = kpN keep f := by show (f.b.take (kpN keep f)).length = _; rw [List.length_take]; exact Nat.min_eq_left hk2
            have r1 : readE (crashS keep st) f.n = 0 := by unfold readE; rw [hl2]
            have r2 : readB (crashS keep st) f.n = f.b.take (kpN keep f) := by unfold readB; rw [hl2]; rfl
            have r3 : lastsR (crashS keep st) f.n = (((kpN keep f : Nat) : Int), 0) := by unfold lastsR; rw [hl2]; rfl
            have r4 : (f.b.take (kpN keep f)).length = kpN keep f := hcl
            have HRR := Aside0.mk (And.intro r1 (And.intro r2 (And.intro r3 r4)))
            have hz' : ¬ ((kpN keep f : Nat) : Int) = 0 := by simpa using hz
            clear hl2 r1 r2 r3 r4 hcl hk2
            generalize kpN keep f = N at *
            go_wp2_with (first
              | (go_at_call 13; (with_reducible refine (read_calls (HD6.out.below HBc.out) f.n).mono ?_); rintro e wA ⟨vA, rfl, hR, hb⟩; rw [HE.out.1]; rw [HE.out.2.1] at hR; obtain ⟨Ax, cx, rfl⟩ := Kd.R_slice hR; have HRx := Aside0.mk hR; have HBn := Aside0.mk (below_step HBc.out hb); clear HBc; have HBc := HBn; clear HBn; clear hR hb)
              | (go_at_call 13; (with_reducible refine (read_calls (HC6.out.below HBc.out) f.n).mono ?_); rintro e wB ⟨vB, rfl, hR, hb⟩; rw [HRR.out.1]; rw [HRR.out.2.1] at hR; obtain ⟨Ay, cy, hv⟩ := Kd.R_slice hR; rw [HRR.out.2.2.2] at hv; subst hv; have HRy := Aside0.mk hR; have HRz := Aside0.mk (Kd.R_below HRx.out hb); have HBn := Aside0.mk (below_step HBc.out hb); clear HBc; have HBc := HBn; clear HBn; clear hR hb HRx)
              | (go_at_call 14; (with_reducible refine (lasts_calls (HD6.out.below HBc.out) f.n).mono ?_); rintro e w9 ⟨rfl, h9⟩; subst w9; rw [HE.out.2.2]; dsimp only)
              | (go_at_call 14; (with_reducible refine (lasts_calls (HC6.out.below HBc.out) f.n).mono ?_); rintro e w9 ⟨rfl, h9⟩; subst w9; rw [HRR.out.2.2.1]; dsimp only)
              | (go_at_call 18; (with_reducible refine (starts_calls f.b N Ax cx Ay cy _ HFB.out.2 HFB.out.1 (Kd.R_reads' HRz.out).2.1 (Kd.R_reads' HRz.out).2.2 (Kd.R_reads' HRy.out).2.1 (by have h := (Kd.R_reads' HRy.out).2.2; rw [HRR.out.2.2.2] at h; exact h)).mono ?_); rintro e wE ⟨rfl, hb⟩; have HBn := Aside0.mk (below_step HBc.out hb); clear HBc; have HBc := HBn; clear HBn; clear hb))
            go_roundg k2
            case measure => omega
            case rel => exact ⟨j + 1, by first | rfl | (simp; done) | (rw [wrap_id (n := (j : Int) + 1) (by omega) (by have := HFW.out; omega)]; first | rfl | (simp; done)), ⟨by have := HJ.out; omega⟩, HBc⟩
        · have hj : j = nn := by have := HJ.out; omega
          subst hj
          have hag := crash_again (keep := keep) (files_lasts HD6.out)
          have HAG := Aside0.mk hag
          have hcl : ((crashS keep st).length : Int) ≤ (j : Int) := by have h1 := crashS_len keep st; have h2 := HNN.out; omega
          clear hag hlt2
          go_wp2_with (first
            | (go_at_call 19; (with_reducible refine (size_calls (HC6.out.below HBc.out)).mono ?_); rintro e w9 ⟨rfl, h9⟩; subst w9)
            | (go_at_call 17; (with_reducible refine (crash_calls (HC6.out.below HBc.out) 0).mono ?_); rintro e w7 ⟨rfl, hL⟩; rw [HAG.out] at hL; obtain ⟨dat7, fs7, hD7, hW7⟩ := hL.split; have HC7 := Aside0.mk hD7; have HB7 := Aside0.mk (Chg.below_mine (HC6.out.below HBc.out) hW7.chg); clear hL hD7 hW7)
            | (go_at_call 19; (with_reducible refine (size_calls HC7.out).mono ?_); rintro e w9 ⟨rfl, h9⟩; subst w9)
            | (go_at_call 11; (with_reducible refine (list_calls HC7.out).mono ?_); rintro e w8 ⟨v8, rfl, hR, hb⟩; obtain ⟨A8, c8, hv⟩ := Kd.R_slice hR; rw [List.length_map] at hv; subst hv; have HB8 := Aside0.mk hb; clear hR hb))
          go_ret
          have z1 := HBw.out.trans (HBc.out.mono HBw.out.size)
          have hB4 : w.heap.size ≤ w4.heap.size := HZ4.out
          have z2 := z1.trans (HB7.out.mono hB4)
          exact ⟨rfl, z2.trans (HB8.out.mono z2.size)⟩
end Go.Proofs.Ytkdbojaoaldmbaa.G
