import Derived.Test.YtkdbojaoaldmbaaG15
/- The law DiskRefuses by hand. -/
namespace Go.Proofs.Ytkdbojaoaldmbaa.G
open Go.RowKit Go.Proofs.Ytkdbojaoaldmbaa.Q Go.Proofs.YtkdbojaoaldmbaaW.PrintWords Go.Proofs.YtkdbojaoaldmbaaW.PrintLast Go.Proofs.YtkdbojaoaldmbaaW.PrintMore
set_option linter.unusedVariables false
set_option linter.unusedSimpArgs false
attribute [local go_sem] min2_mn min_two max2_mx max_two
theorem room_in (room : Int) : 0 ≤ mn (mx room 0) 4096 ∧ mn (mx room 0) 4096 ≤ 16777216 := by unfold mn mx; split <;> split <;> omega
theorem cells5 {w : World} {F : Nat} {a b c d e : Value} (h : w.heap[F]? = some (.cells #[a, b, c, d, e] 31 (0, 0))) : w.cell? ⟨F, 0, none⟩ = some a ∧ w.cell? ⟨F, 1, none⟩ = some b ∧ w.cell? ⟨F, 2, none⟩ = some c ∧ w.cell? ⟨F, 3, none⟩ = some d ∧ w.cell? ⟨F, 4, none⟩ = some e :=
  ⟨(blk_cell h 0).trans rfl, (blk_cell h 1).trans rfl, (blk_cell h 2).trans rfl, (blk_cell h 3).trans rfl, (blk_cell h 4).trans rfl⟩
theorem left_below {w w' : World} {D M B : Nat} {room : Int} {dat : Nat → Prop} {fs : ByteArray → Option Raw} {st st' : St} (h : DiskG w D M room B dat fs st) (hL : Left w D M room B dat fs st' w') : Below B w w' := by
  obtain ⟨d, f, _, hW⟩ := hL.split
  exact Chg.below_mine h hW.chg
theorem left_refused {w w' : World} {D M B : Nat} {room r : Int} {dat : Nat → Prop} {fs : ByteArray → Option Raw} {st : St} {d : Int} {n t : ByteArray} {x : List Int} {k : Int} (hE : ¬ opE r st d n t x k = 0) (hL : Left w D M room B dat fs (opS r st d n t x k) w') : ∃ dat1 fs1, DiskG w' D M room B dat1 fs1 st ∧ Went w D M dat fs dat1 fs1 w' := by
  rw [refused hE] at hL
  exact hL.split
set_option maxHeartbeats 4000000 in
set_option maxRecDepth 100000 in
theorem refuses_calls (room : Int) (A : Option Addr) (c : Nat) (l : List S31) (d : Int) (n t : ByteArray) (A2 : Option Addr) (c2 : Nat) (x : List Int) (k : Int) (w : World) (hr : k31.C w A l.length l) (hc : l.length ≤ c) (hr2 : (Kd.int .u8).C w A2 x.length x) (hc2 : x.length ≤ c2) (hok : OkOps l) (hop : OkOp n t x) :
    Calls Try.prog 5 #[.int .i64 room, .slice A l.length c, .agg #[.int .i64 d, .string n, .string t, .slice A2 x.length c2, .int .i64 k]] w fun e w' => e = .returned (.bool true) ∧ Below w.heap.size w w' := by
  have HR := Aside0.mk hr
  have HC := Aside0.mk hc
  have HX := Aside0.mk hr2
  have HCX := Aside0.mk hc2
  have HOK := Aside0.mk hok
  have HOP := Aside0.mk hop
  clear hr hc hr2 hc2 hok hop
  by_cases b1 : (x.length : Int) > 10000
  case pos =>
    go_enter Try.func5, Try.ntmps5
    go_wp2_with (first
      | ((with_reducible refine gate_dst (N := 5) rfl ?_); refine box_event ?hg (N := 5) ?hd (cs := #[.int .i64 d, .string n, .string t, .slice A2 x.length c2, .int .i64 k]) (t := 31) ?hr ?_; (case hd => rfl); (case hg => rfl); (case hr => first | (go_simp; done) | (go_simp; rfl)); intro F hF wo hlo hbo; have hO := cells5 hlo; have HLO := Aside0.mk hlo; have HBO := Aside0.mk hbo; obtain ⟨o0, o1, o2, o3, o4⟩ := hO; clear hlo hbo hF)
      | (go_at_call 8; (with_reducible refine (new_calls (mn (mx room 0) 4096) (room_in room).1 (room_in room).2 wo).mono ?_); rintro e w1 ⟨D, M, rfl, hD, hb⟩; have HD := Aside0.mk hD; have HN := Aside0.mk hb; replace o0 := pw_cell_below hb o0; replace o1 := pw_cell_below hb o1; replace o2 := pw_cell_below hb o2; replace o3 := pw_cell_below hb o3; replace o4 := pw_cell_below hb o4; clear hD hb)
      | (go_at_call 9; (with_reducible refine (Go.Proofs.Ytkdbojaoaldmbaa.D.live_calls w1).mono ?_); rintro e w2 ⟨rfl, hb⟩; have HL := Aside0.mk hb; replace o0 := pw_cell_below hb o0; replace o1 := pw_cell_below hb o1; replace o2 := pw_cell_below hb o2; replace o3 := pw_cell_below hb o3; replace o4 := pw_cell_below hb o4; clear hb)
      | (go_at_call 9; (with_reducible refine (Go.Proofs.Ytkdbojaoaldmbaa.D.live_calls w2).mono ?_); rintro e w3 ⟨rfl, hb⟩; have HL3 := Aside0.mk hb; clear hb))
    go_ret
    exact ⟨rfl, HBO.out.trans ((HN.out.trans ((HL.out.trans (HL3.out.mono HL.out.size)).mono HN.out.size)).mono HBO.out.size)⟩
  case neg =>
  by_cases b2 : (n.size : Int) > 10000
  case pos =>
    go_enter Try.func5, Try.ntmps5
    go_wp2_with (first
      | ((with_reducible refine gate_dst (N := 5) rfl ?_); refine box_event ?hg (N := 5) ?hd (cs := #[.int .i64 d, .string n, .string t, .slice A2 x.length c2, .int .i64 k]) (t := 31) ?hr ?_; (case hd => rfl); (case hg => rfl); (case hr => first | (go_simp; done) | (go_simp; rfl)); intro F hF wo hlo hbo; have hO := cells5 hlo; have HLO := Aside0.mk hlo; have HBO := Aside0.mk hbo; obtain ⟨o0, o1, o2, o3, o4⟩ := hO; clear hlo hbo hF)
      | (go_at_call 8; (with_reducible refine (new_calls (mn (mx room 0) 4096) (room_in room).1 (room_in room).2 wo).mono ?_); rintro e w1 ⟨D, M, rfl, hD, hb⟩; have HD := Aside0.mk hD; have HN := Aside0.mk hb; replace o0 := pw_cell_below hb o0; replace o1 := pw_cell_below hb o1; replace o2 := pw_cell_below hb o2; replace o3 := pw_cell_below hb o3; replace o4 := pw_cell_below hb o4; clear hD hb)
      | (go_at_call 9; (with_reducible refine (Go.Proofs.Ytkdbojaoaldmbaa.D.live_calls w1).mono ?_); rintro e w2 ⟨rfl, hb⟩; have HL := Aside0.mk hb; replace o0 := pw_cell_below hb o0; replace o1 := pw_cell_below hb o1; replace o2 := pw_cell_below hb o2; replace o3 := pw_cell_below hb o3; replace o4 := pw_cell_below hb o4; clear hb)
      | (go_at_call 9; (with_reducible refine (Go.Proofs.Ytkdbojaoaldmbaa.D.live_calls w2).mono ?_); rintro e w3 ⟨rfl, hb⟩; have HL3 := Aside0.mk hb; clear hb))
    go_ret
    exact ⟨rfl, HBO.out.trans ((HN.out.trans ((HL.out.trans (HL3.out.mono HL.out.size)).mono HN.out.size)).mono HBO.out.size)⟩
  case neg =>
  by_cases b3 : (t.size : Int) > 10000
  case pos =>
    go_enter Try.func5, Try.ntmps5
    go_wp2_with (first
      | ((with_reducible refine gate_dst (N := 5) rfl ?_); refine box_event ?hg (N := 5) ?hd (cs := #[.int .i64 d, .string n, .string t, .slice A2 x.length c2, .int .i64 k]) (t := 31) ?hr ?_; (case hd => rfl); (case hg => rfl); (case hr => first | (go_simp; done) | (go_simp; rfl)); intro F hF wo hlo hbo; have hO := cells5 hlo; have HLO := Aside0.mk hlo; have HBO := Aside0.mk hbo; obtain ⟨o0, o1, o2, o3, o4⟩ := hO; clear hlo hbo hF)
      | (go_at_call 8; (with_reducible refine (new_calls (mn (mx room 0) 4096) (room_in room).1 (room_in room).2 wo).mono ?_); rintro e w1 ⟨D, M, rfl, hD, hb⟩; have HD := Aside0.mk hD; have HN := Aside0.mk hb; replace o0 := pw_cell_below hb o0; replace o1 := pw_cell_below hb o1; replace o2 := pw_cell_below hb o2; replace o3 := pw_cell_below hb o3; replace o4 := pw_cell_below hb o4; clear hD hb)
      | (go_at_call 9; (with_reducible refine (Go.Proofs.Ytkdbojaoaldmbaa.D.live_calls w1).mono ?_); rintro e w2 ⟨rfl, hb⟩; have HL := Aside0.mk hb; replace o0 := pw_cell_below hb o0; replace o1 := pw_cell_below hb o1; replace o2 := pw_cell_below hb o2; replace o3 := pw_cell_below hb o3; replace o4 := pw_cell_below hb o4; clear hb)
      | (go_at_call 9; (with_reducible refine (Go.Proofs.Ytkdbojaoaldmbaa.D.live_calls w2).mono ?_); rintro e w3 ⟨rfl, hb⟩; have HL3 := Aside0.mk hb; clear hb))
    go_ret
    exact ⟨rfl, HBO.out.trans ((HN.out.trans ((HL.out.trans (HL3.out.mono HL.out.size)).mono HN.out.size)).mono HBO.out.size)⟩
  case neg =>
  go_enter Try.func5, Try.ntmps5
  go_wp2_with (first
    | ((with_reducible refine gate_dst (N := 5) rfl ?_); refine box_event ?hg (N := 5) ?hd (cs := #[.int .i64 d, .string n, .string t, .slice A2 x.length c2, .int .i64 k]) (t := 31) ?hr ?_; (case hd => rfl); (case hg => rfl); (case hr => first | (go_simp; done) | (go_simp; rfl)); intro F hF wo hlo hbo; have hO := cells5 hlo; have HLO := Aside0.mk hlo; have HBO := Aside0.mk hbo; obtain ⟨o0, o1, o2, o3, o4⟩ := hO; clear hlo hbo hF)
    | (go_at_call 8; (with_reducible refine (new_calls (mn (mx room 0) 4096) (room_in room).1 (room_in room).2 wo).mono ?_); rintro e w1 ⟨D, M, rfl, hD, hb⟩; have HD := Aside0.mk hD; have HN := Aside0.mk hb; replace o0 := pw_cell_below hb o0; replace o1 := pw_cell_below hb o1; replace o2 := pw_cell_below hb o2; replace o3 := pw_cell_below hb o3; replace o4 := pw_cell_below hb o4; clear hD hb)
    | (go_at_call 9; (with_reducible refine (Go.Proofs.Ytkdbojaoaldmbaa.D.live_calls w1).mono ?_); rintro e w2 ⟨rfl, hb⟩; have HL := Aside0.mk hb; replace o0 := pw_cell_below hb o0; replace o1 := pw_cell_below hb o1; replace o2 := pw_cell_below hb o2; replace o3 := pw_cell_below hb o3; replace o4 := pw_cell_below hb o4; clear hb)
    | (go_at_call 10; (with_reducible refine (few_calls A c l w2 HC.out (Kd.C_below HR.out (((HBO.out).trans (HN.out.mono HBO.out.size)).trans (HL.out.mono (HBO.out.trans (HN.out.mono HBO.out.size)).size))) HOK.out.len).mono ?_); rintro e w3 ⟨m, hm, rfl, hb⟩; have HF3 := Aside0.mk hb; have HM := Aside0.mk hm; replace o0 := pw_cell_below hb o0; replace o1 := pw_cell_below hb o1; replace o2 := pw_cell_below hb o2; replace o3 := pw_cell_below hb o3; replace o4 := pw_cell_below hb o4; clear hb hm))
  clear b1 b2 b3
  have HBw : Aside0 (Below w.heap.size w w3) := ⟨HBO.out.trans ((HN.out.trans ((HL.out.trans (HF3.out.mono HL.out.size)).mono HN.out.size)).mono HBO.out.size)⟩
  have HBn : Aside0 (Below wo.heap.size wo w3) := ⟨HN.out.trans ((HL.out.trans (HF3.out.mono HL.out.size)).mono HN.out.size)⟩
  have HD3 : Aside0 (DiskG w3 D M (mn (mx room 0) 4096) wo.heap.size (fun _ => False) (fun _ => none) []) := ⟨HD.out.below (HL.out.trans (HF3.out.mono HL.out.size))⟩
  have HO3 := Aside0.mk (And.intro o0 (And.intro o1 (And.intro o2 (And.intro o3 o4))))
  have HZo := Aside0.mk (show F < wo.heap.size from heap_lt HLO.out)
  clear HD HN HL HF3 o0 o1 o2 o3 o4
  go_loopg [63] (m + 1) (fun kq v63 wr => ∃ (i : Nat) (st : St) (dat : Nat → Prop) (fs : ByteArray → Option Raw), v63 = .int .i64 i ∧ Aside0 (kq + i = m + 1 ∧ i ≤ m) ∧ Aside0 (DiskG wr D M (mn (mx room 0) 4096) wo.heap.size dat fs st) ∧ Aside0 (Below wo.heap.size wo wr))
  case atStart => exact ⟨0, [], _, _, rfl, ⟨by omega⟩, HD3, HBn⟩
  case round =>
    obtain ⟨i, st, dat, fs, rfl, HK, HDr, HBr⟩ := hrel
    cases gk with
    | zero => have := HK.out; omega
    | succ k1 =>
    have hBwr : Below w.heap.size w wr := HBO.out.trans (HBr.out.mono HBO.out.size)
    have HBwr := Aside0.mk hBwr
    clear hBwr
    by_cases hlt : i < m
    · have hi0 : (0 : Int) ≤ (i : Int) := by omega
      have hi1 : (i : Int) < (m : Int) := by omega
      have hil : i < l.length := by have := HM.out; omega
      obtain ⟨ad, A1, c1, hAe, x0, x1, x2, x3, x4, hc1, hd1⟩ := at_T31 (Kd.C_below HR.out HBwr.out) (i : Int) hi0 (by omega)
      subst hAe
      simp only [Int.toNat_natCast] at x0 x1 x2 x3 x4
      have HOI := Aside0.mk (HOK.out.at_ hil)
      have hml : m ≤ c := by have := HM.out; have := HC.out; omega
      have hmx : l.length ≤ 140737488355328 := HOK.out.len
      generalize rd_T31 l (i : Int) = y at *
      have HY := Aside0.mk (And.intro hc1 (Kd.C_below hd1 (below_alloc (Below.refl _ _) (.cells #[.int .i64 y.f0, .string y.f1, .string y.f2, .slice A1 y.f3.length c1, .int .i64 y.f4] 31))))
      clear hd1 hc1
      go_wp2_with (go_at_call 12; (with_reducible refine (does_calls (HDr.out.below (below_alloc (Below.refl _ _) _)) y.f0 y.f1 y.f2 A1 c1 y.f3 y.f4 HY.out.1 HY.out.2 HOI.out.nm HOI.out.tt HOI.out.bl).mono ?_); rintro e w5 ⟨rfl, hL⟩; have HLf := Aside0.mk hL; clear hL)
      go_roundg k1
      case measure => omega
      case rel =>
        obtain ⟨dat5, fs5, hD5, hW5⟩ := HLf.out.split
        have hb1 := below_alloc (Below.refl wr.heap.size wr) (.cells #[.int .i64 y.f0, .string y.f1, .string y.f2, .slice A1 y.f3.length c1, .int .i64 y.f4] 31)
        have hb5 := Chg.below_mine (HDr.out.below hb1) hW5.chg
        exact ⟨i + 1, _, dat5, fs5, by first | rfl | (simp; done) | (rw [wrap_id (n := (i : Int) + 1) (by omega) (by have := HM.out; omega)]; first | rfl | (simp; done)), ⟨by have := HK.out; omega⟩, ⟨hD5⟩, ⟨(HBr.out.trans (hb1.mono HBr.out.size)).trans hb5⟩⟩
    · have hi : i = m := by have := HK.out; omega
      subst hi
      clear hlt
      have hb : Below wo.heap.size wo wr := HBr.out
      obtain ⟨o0, o1, o2, o3, o4⟩ := cells5 ((hb.block F HZo.out).trans HLO.out)
      clear hb
      by_cases hE : opE (mn (mx room 0) 4096) st d n t x k = 0
      · go_wp2_with (first
          | (go_at_call 16; (with_reducible refine (clone_calls HDr.out).mono ?_); rintro e w5 ⟨D2, M2, dat2, fs2, rfl, hD2, hb⟩; have HD2 := Aside0.mk hD2; have HB5 := Aside0.mk hb; replace o0 := pw_cell_below hb o0; replace o1 := pw_cell_below hb o1; replace o2 := pw_cell_below hb o2; replace o3 := pw_cell_below hb o3; replace o4 := pw_cell_below hb o4; clear hD2 hb)
          | (go_at_call 12; (with_reducible refine (does_calls (HDr.out.below HB5.out) d n t A2 c2 x k HCX.out (Kd.C_below HX.out (HBwr.out.trans (HB5.out.mono HBwr.out.size))) HOP.out.nm HOP.out.tt HOP.out.bl).mono ?_); rintro e w6 ⟨rfl, hL⟩; have HL6 := Aside0.mk hL; have HB6 := Aside0.mk (left_below (HDr.out.below HB5.out) hL); clear hL; try rw [hE]))
        go_ret
        exact ⟨rfl, (HBwr.out.trans (HB5.out.mono HBwr.out.size)).trans (HB6.out.mono HBO.out.size)⟩
      · go_wp2_with (first
          | (go_at_call 16; (with_reducible refine (clone_calls HDr.out).mono ?_); rintro e w5 ⟨D2, M2, dat2, fs2, rfl, hD2, hb⟩; have HD2 := Aside0.mk hD2; have HB5 := Aside0.mk hb; replace o0 := pw_cell_below hb o0; replace o1 := pw_cell_below hb o1; replace o2 := pw_cell_below hb o2; replace o3 := pw_cell_below hb o3; replace o4 := pw_cell_below hb o4; clear hD2 hb)
          | (go_at_call 12; (with_reducible refine (does_calls (HDr.out.below HB5.out) d n t A2 c2 x k HCX.out (Kd.C_below HX.out (HBwr.out.trans (HB5.out.mono HBwr.out.size))) HOP.out.nm HOP.out.tt HOP.out.bl).mono ?_); rintro e w6 ⟨rfl, hL⟩; have HL6 := Aside0.mk hL; have HB6 := Aside0.mk (left_below (HDr.out.below HB5.out) hL); obtain ⟨dat6, fs6, hD6, hW6⟩ := left_refused hE hL; have HD6 := Aside0.mk hD6; have HW6 := Aside0.mk hW6; clear hL hD6 hW6)
          | (go_at_call 11; (with_reducible refine (list_calls HD6.out).mono ?_); rintro e w7 ⟨v7, rfl, hR, hb⟩; obtain ⟨A7, c7, hv⟩ := Kd.R_slice hR; rw [List.length_map] at hv; subst hv; obtain ⟨nn, hnn⟩ : ∃ nn : Nat, nn = st.length := ⟨_, rfl⟩; rw [← hnn] at hR ⊢; have HNN := Aside0.mk hnn; have HR7 := Aside0.mk hR; have HB7 := Aside0.mk hb; clear hnn hR hb)
          | (go_at_call 11; (with_reducible refine (list_calls ((HD2.out.beside HW6.out.chg (fun k hk => (HDr.out.mine_ge hk).2)).below HB7.out)).mono ?_); rintro e w8 ⟨v8, rfl, hR, hb⟩; obtain ⟨A8, c8, hv⟩ := Kd.R_slice hR; rw [List.length_map] at hv; subst hv; rw [← HNN.out] at hR ⊢; have HRb := Aside0.mk hR; have HRa := Aside0.mk (Kd.R_below HR7.out hb); have HB8 := Aside0.mk hb; have HD8 := Aside0.mk (HD6.out.below (HB7.out.trans (hb.mono HB7.out.size))); have HC8 := Aside0.mk ((HD2.out.beside HW6.out.chg (fun k hk => (HDr.out.mine_ge hk).2)).below (HB7.out.trans (hb.mono HB7.out.size))); clear hR hb HR7)
          | (go_at_call 19; (with_reducible refine (size_calls HD8.out).mono ?_); rintro e w9 ⟨rfl, h9⟩; subst w9)
          | (go_at_call 19; (with_reducible refine (size_calls HC8.out).mono ?_); rintro e w9 ⟨rfl, h9⟩; subst w9))
        have HZ8 : Aside0 (Below w.heap.size w w8) := ⟨((HBwr.out.trans (HB5.out.mono HBwr.out.size)).trans (HB6.out.mono HBO.out.size)).trans ((HB7.out.trans (HB8.out.mono HB7.out.size)).mono (((HBwr.out.trans (HB5.out.mono HBwr.out.size)).trans (HB6.out.mono HBO.out.size)).size))⟩
        have hfew : nn ≤ 64 := by have := HD8.out.few; have := HNN.out; omega
        have HFW := Aside0.mk hfew
        clear hfew hE
        clear HBr HBwr HDr HB5 HB6 HB7 HB8 o0 o1 o2 o3 o4 HO3 HD3 HBn HBw
        go_loopg [97] (nn + 1) (fun kq v97 wq => ∃ (j : Nat), v97 = .int .i64 j ∧ Aside0 (kq + j = nn + 1 ∧ j ≤ nn) ∧ Aside0 (Below w8.heap.size w8 wq))
        case atStart => exact ⟨0, rfl, ⟨by omega⟩, ⟨Below.refl _ _⟩⟩
        case round =>
          obtain ⟨j, rfl, HJ, HBc⟩ := hrel
          cases gk with
          | zero => have := HJ.out; omega
          | succ k2 =>
          by_cases hlt2 : j < nn
          · obtain ⟨f, f1, f2, f3⟩ := names_at HD8.out.files.sorted (show j < st.length by have := HNN.out; omega)
            have hj1 : (j : Int) < (nn : Int) := by omega
            have hra := Kd.R_reads' (Kd.R_below HRa.out HBc.out)
            have hrb := Kd.R_reads' (Kd.R_below HRb.out HBc.out)
            obtain ⟨ad, hA7, x0⟩ := Kd.at_string hra.2.2 (j : Int) (by omega) (by rw [List.length_map]; have := HNN.out; omega)
            obtain ⟨ae, hA8, y0⟩ := Kd.at_string hrb.2.2 (j : Int) (by omega) (by rw [List.length_map]; have := HNN.out; omega)
            have hca := hra.2.1
            have hcb := hrb.2.1
            subst hA7 hA8
            rw [f1] at x0 y0
            simp only [Int.toNat_natCast] at x0 y0
            clear hra hrb f1 f3
            have HFL := Aside0.mk f2
            have hfb : f.b.length ≤ 16777216 := file_small HD8.out f2
            have HFB := Aside0.mk hfb
            have e1 : readE st f.n = 0 := by unfold readE; rw [f2]
            have e2 : readB st f.n = f.b := by unfold readB; rw [f2]
            have e3 : lastsR st f.n = (f.l, 0) := by unfold lastsR; rw [f2]
            have HE := Aside0.mk (And.intro e1 (And.intro e2 e3))
            clear f2 hfb e1 e2 e3
            go_wp2_with (first
              | (go_at_call 13; (with_reducible refine (read_calls (HD8.out.below HBc.out) f.n).mono ?_); rintro e wA ⟨vA, rfl, hR, hb⟩; rw [HE.out.1]; rw [HE.out.2.1] at hR; obtain ⟨Ax, cx, rfl⟩ := Kd.R_slice hR; have HRx := Aside0.mk hR; replace y0 := pw_cell_below hb y0; have HBn := Aside0.mk (below_step HBc.out hb); clear HBc; have HBc := HBn; clear HBn; clear hR hb)
              | (go_at_call 13; (with_reducible refine (read_calls (HC8.out.below HBc.out) f.n).mono ?_); rintro e wB ⟨vB, rfl, hR, hb⟩; rw [HE.out.1]; rw [HE.out.2.1] at hR; obtain ⟨Ay, cy, rfl⟩ := Kd.R_slice hR; have HRy := Aside0.mk hR; have HRz := Aside0.mk (Kd.R_below HRx.out hb); replace y0 := pw_cell_below hb y0; have HBn := Aside0.mk (below_step HBc.out hb); clear HBc; have HBc := HBn; clear HBn; clear hR hb HRx)
              | (go_at_call 14; (with_reducible refine (lasts_calls (HD8.out.below HBc.out) f.n).mono ?_); rintro e w9 ⟨rfl, h9⟩; subst w9; rw [HE.out.2.2]; dsimp only)
              | (go_at_call 14; (with_reducible refine (lasts_calls (HC8.out.below HBc.out) f.n).mono ?_); rintro e w9 ⟨rfl, h9⟩; subst w9; rw [HE.out.2.2]; dsimp only)
              | (go_at_call 15; (with_reducible refine (manometerref01_Equal.calls (f.b.length + 1) Ax cx f.b Ay cy f.b true _ (Kd.R_reads' HRz.out).2.2 (Kd.R_reads' HRz.out).2.1 (Kd.R_reads' HRy.out).2.2 (Kd.R_reads' HRy.out).2.1 (by rw [equal_f _ _ (by have := HFB.out; omega)]; simp)).mono ?_); rintro e wE ⟨rfl, hdr⟩; have hb := drawn_below hdr; have HBn := Aside0.mk (below_step HBc.out hb); clear HBc; have HBc := HBn; clear HBn; clear hdr hb))
            go_roundg k2
            case measure => omega
            case rel => exact ⟨j + 1, by first | rfl | (simp; done) | (rw [wrap_id (n := (j : Int) + 1) (by omega) (by have := HFW.out; omega)]; first | rfl | (simp; done)), ⟨by have := HJ.out; omega⟩, HBc⟩
          · have hj : j = nn := by have := HJ.out; omega
            subst hj
            go_wp2_with (fail)
            go_ret
            exact ⟨rfl, HZ8.out.trans (HBc.out.mono HZ8.out.size)⟩
end Go.Proofs.Ytkdbojaoaldmbaa.G
