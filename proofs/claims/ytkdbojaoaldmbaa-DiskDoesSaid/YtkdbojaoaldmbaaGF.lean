import Derived.Test.YtkdbojaoaldmbaaGE
import Derived.Test.YtkdbojaoaldmbaaG15
import Derived.Test.YtkdbojaoaldmbaaG16
/- The law's helpers by hand: want. -/
namespace Go.Proofs.Ytkdbojaoaldmbaa.G
open Go.RowKit Go.Proofs.Ytkdbojaoaldmbaa.Q Go.Proofs.YtkdbojaoaldmbaaW.PrintWords Go.Proofs.YtkdbojaoaldmbaaW.PrintLast Go.Proofs.YtkdbojaoaldmbaaW.PrintMore
set_option linter.unusedVariables false
set_option linter.unusedSimpArgs false
section
variable {w w' w1 : World} {g B : Nat} {room : Int} {st : St}
theorem ref_g (h : RefG w g B room st) {k : Nat} (e : k = g) : RefB w B k := by
  obtain ⟨v, h1, _⟩ := h.ex
  subst e
  exact ⟨h.base, _, _, _, h1, .inl rfl⟩
theorem refb_old (hb : Below w.heap.size w w1) {k : Nat} (e : RefB w1 B k) : k < w.heap.size → RefB w B k := fun hk => by
  obtain ⟨h1, cs, q, fz, h2, h3⟩ := e
  exact ⟨h1, cs, q, fz, (hb.block k hk).symm.trans h2, h3⟩
theorem rappend_any (h : RefG w g B room st) (hB : B ≤ w.heap.size) (hs : Sorted st) (hfew : st.length ≤ 100000) (hfit : (total st : Int) ≤ room) (hroom : room ≤ 16777216) (s : ByteArray) (hsz : s.size ≤ 9223372036854775807) (A : Option Addr) (c : Nat) (x : List Int) (hc : x.length ≤ c) (hx : (Kd.int .u8).C w A x.length x) (hxb : x.length < 140737488355328) :
    Calls Try.prog 35 #[.pointer (some ⟨g, 0, none⟩), .string s, .slice A x.length c] w fun e w' => e = .returned (.int .i64 (appendE room st s x)) ∧ RefG w' g B room (appendS room st s x) ∧ Chg (fun k => k = g) w w' := by
  cases hl : look st s with
  | none => exact rappend_none h hB hs hfew hfit hroom s hsz A c x hc hx hl hxb
  | some f => exact rappend_some h hB hs hfew hfit hroom s hsz A c x hc hx hl hxb
set_option maxHeartbeats 2000000 in
set_option maxRecDepth 100000 in
theorem want_calls (h : RefG w g B room st) (hB : B ≤ w.heap.size) (hs : Sorted st) (hfew : st.length ≤ 64) (hfit : (total st : Int) ≤ room) (hroom : room ≤ 16777216) (hlast : ∀ f ∈ st, 0 ≤ f.l ∧ f.l ≤ f.b.length) (d : Int) (n t : ByteArray) (A : Option Addr) (c : Nat) (x : List Int) (k : Int) (hc : x.length ≤ c) (hx : (Kd.int .u8).C w A x.length x) (hn : n.size ≤ 9223372036854775807) (ht : t.size ≤ 9223372036854775807) (hl : x.length < 140737488355328) :
    Calls Try.prog 23 #[.pointer (some ⟨g, 0, none⟩), .agg #[.int .i64 d, .string n, .string t, .slice A x.length c, .int .i64 k]] w fun e w' => e = .returned (.int .i64 (opE room st d n t x k)) ∧ RefG w' g B room (opS room st d n t x k) ∧ Chg (RefB w B) w w' := by
  have HX := Aside0.mk hx
  have HH := Aside0.mk h
  have HBB := Aside0.mk hB
  have HC := Aside0.mk hc
  have HS := Aside0.mk (And.intro hn (And.intro ht hl))
  have HR := Aside0.mk hs
  have HF := Aside0.mk (show st.length ≤ 100000 by omega)
  have HT := Aside0.mk (show total st ≤ 16777216 by omega)
  have HFT := Aside0.mk (And.intro hfit hroom)
  have HLS := Aside0.mk hlast
  clear h hx hc hn ht hl hB hs hfew hfit hroom hlast
  unfold opE opS
  by_cases d0 : d = 0
  · skip
    rw [if_pos d0, if_pos d0]
    go_enter Try.func23, Try.ntmps23
    go_wp2_with (first
      | ((with_reducible refine gate_dst (N := 3) rfl ?_); refine box_event ?hg (N := 3) ?hd (cs := #[.int .i64 d, .string n, .string t, .slice A x.length c, .int .i64 k]) (t := 31) ?hr ?_; (case hd => rfl); (case hg => rfl); (case hr => first | (go_simp; done) | (go_simp; rfl)); intro F hF wa hla hba; have o0 := (blk_cell hla 0).trans rfl; have o1 := (blk_cell hla 1).trans rfl; have o2 := (blk_cell hla 2).trans rfl; have o3 := (blk_cell hla 3).trans rfl; have o4 := (blk_cell hla 4).trans rfl; have HB := Aside0.mk hba; have HD := Aside0.mk (HH.out.below hba); have HX2 := Aside0.mk (Kd.C_below HX.out hba); have HBZ := Aside0.mk (Nat.le_trans HBB.out hba.size); clear hla hba hF)
      | (go_at_call 35; (with_reducible refine (rappend_any HD.out HBZ.out HR.out HF.out HFT.out.1 HFT.out.2 n HS.out.1 A c x HC.out HX2.out HS.out.2.2).mono ?_); rintro e w9 ⟨rfl, hR, hC⟩; have H9 := Aside0.mk (And.intro hR hC); clear hR hC))
    go_ret
    exact ⟨rfl, H9.out.1, (Chg.of_below (RefB w B) HB.out).trans H9.out.2 (fun _ _ e => e) (fun k hk e => refb_old HB.out (ref_g HD.out e) hk)⟩
  · rw [if_neg d0, if_neg d0]
    by_cases d1 : d = 1
    · skip
      rw [if_pos d1, if_pos d1]
      go_enter Try.func23, Try.ntmps23
      go_wp2_with (first
        | ((with_reducible refine gate_dst (N := 3) rfl ?_); refine box_event ?hg (N := 3) ?hd (cs := #[.int .i64 d, .string n, .string t, .slice A x.length c, .int .i64 k]) (t := 31) ?hr ?_; (case hd => rfl); (case hg => rfl); (case hr => first | (go_simp; done) | (go_simp; rfl)); intro F hF wa hla hba; have o0 := (blk_cell hla 0).trans rfl; have o1 := (blk_cell hla 1).trans rfl; have o2 := (blk_cell hla 2).trans rfl; have o3 := (blk_cell hla 3).trans rfl; have o4 := (blk_cell hla 4).trans rfl; have HB := Aside0.mk hba; have HD := Aside0.mk (HH.out.below hba); have HX2 := Aside0.mk (Kd.C_below HX.out hba); have HBZ := Aside0.mk (Nat.le_trans HBB.out hba.size); clear hla hba hF)
        | (go_at_call 36; (with_reducible refine (rsync_calls HD.out HR.out HF.out n).mono ?_); rintro e w9 ⟨rfl, hR, hC⟩; have H9 := Aside0.mk (And.intro hR hC); clear hR hC))
      go_ret
      exact ⟨rfl, H9.out.1, (Chg.of_below (RefB w B) HB.out).trans H9.out.2 (fun _ _ e => e) (fun k hk e => refb_old HB.out e hk)⟩
    · rw [if_neg d1, if_neg d1]
      by_cases d2 : d = 2
      · skip
        rw [if_pos d2, if_pos d2]
        go_enter Try.func23, Try.ntmps23
        go_wp2_with (first
          | ((with_reducible refine gate_dst (N := 3) rfl ?_); refine box_event ?hg (N := 3) ?hd (cs := #[.int .i64 d, .string n, .string t, .slice A x.length c, .int .i64 k]) (t := 31) ?hr ?_; (case hd => rfl); (case hg => rfl); (case hr => first | (go_simp; done) | (go_simp; rfl)); intro F hF wa hla hba; have o0 := (blk_cell hla 0).trans rfl; have o1 := (blk_cell hla 1).trans rfl; have o2 := (blk_cell hla 2).trans rfl; have o3 := (blk_cell hla 3).trans rfl; have o4 := (blk_cell hla 4).trans rfl; have HB := Aside0.mk hba; have HD := Aside0.mk (HH.out.below hba); have HX2 := Aside0.mk (Kd.C_below HX.out hba); have HBZ := Aside0.mk (Nat.le_trans HBB.out hba.size); clear hla hba hF)
          | (go_at_call 37; (with_reducible refine (rcut_calls HD.out HBZ.out HR.out HF.out HT.out n k).mono ?_); rintro e w9 ⟨rfl, hR, hC⟩; have H9 := Aside0.mk (And.intro hR hC); clear hR hC))
        go_ret
        exact ⟨rfl, H9.out.1, (Chg.of_below (RefB w B) HB.out).trans H9.out.2 (fun _ _ e => e) (fun k hk e => refb_old HB.out e hk)⟩
      · rw [if_neg d2, if_neg d2]
        by_cases d3 : d = 3
        · skip
          rw [if_pos d3, if_pos d3]
          go_enter Try.func23, Try.ntmps23
          go_wp2_with (first
            | ((with_reducible refine gate_dst (N := 3) rfl ?_); refine box_event ?hg (N := 3) ?hd (cs := #[.int .i64 d, .string n, .string t, .slice A x.length c, .int .i64 k]) (t := 31) ?hr ?_; (case hd => rfl); (case hg => rfl); (case hr => first | (go_simp; done) | (go_simp; rfl)); intro F hF wa hla hba; have o0 := (blk_cell hla 0).trans rfl; have o1 := (blk_cell hla 1).trans rfl; have o2 := (blk_cell hla 2).trans rfl; have o3 := (blk_cell hla 3).trans rfl; have o4 := (blk_cell hla 4).trans rfl; have HB := Aside0.mk hba; have HD := Aside0.mk (HH.out.below hba); have HX2 := Aside0.mk (Kd.C_below HX.out hba); have HBZ := Aside0.mk (Nat.le_trans HBB.out hba.size); clear hla hba hF)
            | (go_at_call 38; (with_reducible refine (rremove_calls HD.out HBZ.out HF.out n).mono ?_); rintro e w9 ⟨rfl, hR, hC⟩; have H9 := Aside0.mk (And.intro hR hC); clear hR hC))
          go_ret
          exact ⟨rfl, H9.out.1, (Chg.of_below (RefB w B) HB.out).trans H9.out.2 (fun _ _ e => e) (fun k hk e => refb_old HB.out (ref_g HD.out e) hk)⟩
        · rw [if_neg d3, if_neg d3]
          by_cases d4 : d = 4
          · skip
            rw [if_pos d4, if_pos d4]
            go_enter Try.func23, Try.ntmps23
            go_wp2_with (first
              | ((with_reducible refine gate_dst (N := 3) rfl ?_); refine box_event ?hg (N := 3) ?hd (cs := #[.int .i64 d, .string n, .string t, .slice A x.length c, .int .i64 k]) (t := 31) ?hr ?_; (case hd => rfl); (case hg => rfl); (case hr => first | (go_simp; done) | (go_simp; rfl)); intro F hF wa hla hba; have o0 := (blk_cell hla 0).trans rfl; have o1 := (blk_cell hla 1).trans rfl; have o2 := (blk_cell hla 2).trans rfl; have o3 := (blk_cell hla 3).trans rfl; have o4 := (blk_cell hla 4).trans rfl; have HB := Aside0.mk hba; have HD := Aside0.mk (HH.out.below hba); have HX2 := Aside0.mk (Kd.C_below HX.out hba); have HBZ := Aside0.mk (Nat.le_trans HBB.out hba.size); clear hla hba hF)
              | (go_at_call 39; (with_reducible refine (rswap_calls HD.out HBZ.out HR.out HF.out n t HS.out.2.1).mono ?_); rintro e w9 ⟨rfl, hR, hC⟩; have H9 := Aside0.mk (And.intro hR hC); clear hR hC))
            go_ret
            exact ⟨rfl, H9.out.1, (Chg.of_below (RefB w B) HB.out).trans H9.out.2 (fun _ _ e => e) (fun k hk e => refb_old HB.out (ref_g HD.out e) hk)⟩
          · rw [if_neg d4, if_neg d4]
            by_cases d5 : d = 5
            · rw [if_pos d5]
              go_enter Try.func23, Try.ntmps23
              go_wp2_with (first
                | ((with_reducible refine gate_dst (N := 3) rfl ?_); refine box_event ?hg (N := 3) ?hd (cs := #[.int .i64 d, .string n, .string t, .slice A x.length c, .int .i64 k]) (t := 31) ?hr ?_; (case hd => rfl); (case hg => rfl); (case hr => first | (go_simp; done) | (go_simp; rfl)); intro F hF wa hla hba; have o0 := (blk_cell hla 0).trans rfl; have o1 := (blk_cell hla 1).trans rfl; have o2 := (blk_cell hla 2).trans rfl; have o3 := (blk_cell hla 3).trans rfl; have o4 := (blk_cell hla 4).trans rfl; have HB := Aside0.mk hba; have HD := Aside0.mk (HH.out.below hba); have HX2 := Aside0.mk (Kd.C_below HX.out hba); have HBZ := Aside0.mk (Nat.le_trans HBB.out hba.size); clear hla hba hF)
                | (go_at_call 40; (with_reducible refine (rcrash_calls HD.out HBZ.out HF.out HT.out HLS.out HR.out k).mono ?_); rintro e w9 ⟨rfl, hR, hC⟩; have H9 := Aside0.mk (And.intro hR hC); clear hR hC))
              go_ret
              exact ⟨rfl, H9.out.1, (Chg.of_below (RefB w B) HB.out).trans H9.out.2 (fun _ _ e => e) (fun k hk e => refb_old HB.out (ref_g HD.out e) hk)⟩
            · rw [if_neg d5]
              go_enter Try.func23, Try.ntmps23
              go_wp2_with (first
                | ((with_reducible refine gate_dst (N := 3) rfl ?_); refine box_event ?hg (N := 3) ?hd (cs := #[.int .i64 d, .string n, .string t, .slice A x.length c, .int .i64 k]) (t := 31) ?hr ?_; (case hd => rfl); (case hg => rfl); (case hr => first | (go_simp; done) | (go_simp; rfl)); intro F hF wa hla hba; have o0 := (blk_cell hla 0).trans rfl; have o1 := (blk_cell hla 1).trans rfl; have o2 := (blk_cell hla 2).trans rfl; have o3 := (blk_cell hla 3).trans rfl; have o4 := (blk_cell hla 4).trans rfl; have HB := Aside0.mk hba; have HD := Aside0.mk (HH.out.below hba); have HX2 := Aside0.mk (Kd.C_below HX.out hba); have HBZ := Aside0.mk (Nat.le_trans HBB.out hba.size); clear hla hba hF))
              go_ret
              exact ⟨rfl, HD.out, Chg.of_below _ HB.out⟩
end
end Go.Proofs.Ytkdbojaoaldmbaa.G

/- A disk beside the document's: same. -/
namespace Go.Proofs.Ytkdbojaoaldmbaa.G
open Go.RowKit Go.Proofs.Ytkdbojaoaldmbaa.Q Go.Proofs.YtkdbojaoaldmbaaW.PrintWords Go.Proofs.YtkdbojaoaldmbaaW.PrintLast Go.Proofs.YtkdbojaoaldmbaaW.PrintMore
set_option linter.unusedVariables false
set_option linter.unusedSimpArgs false
/-- A row that was read, which may be written; what stood ahead of it stays. -/
def XRow (wb : World) (v : Value) (n : Nat) (wr : World) : Prop :=
  (∃ xs : List Int, xs.length = n ∧ (Kd.int .u8).R 5 wr wb.heap.size (fun k => wb.heap.size ≤ k) v xs) ∧ Below wb.heap.size wb wr
theorem XRow.put {wb wr : World} {A : Option Addr} {n c : Nat} (H : XRow wb (.slice A n c) n wr) {i : Nat} (hin : i < n) (y : Int) :
    ∃ g, A = some ⟨g, 0, none⟩ ∧ (∃ z, wr.cell? ⟨g, i, none⟩ = some (.int .u8 z)) ∧ wr.frozen? ⟨g, i, none⟩ = false ∧ XRow wb (.slice A n c) n (wr.setCell ⟨g, i, none⟩ (.int .u8 y)) := by
  obtain ⟨⟨xs, hxl, hR⟩, hB⟩ := H
  obtain ⟨g, cap, hv, _, hgl, cs, hgc⟩ := Kd.R_form hR (by omega)
  injection hv with h1 h2 h3
  subst h1 h3
  rw [← hxl] at hR ⊢
  have hg := hR.1 g rfl
  obtain ⟨q1, q2⟩ := Kd.R_cell (0 : Int) hR (i : Int) (by omega) (by omega)
  obtain ⟨q3, q4⟩ := Kd.R_put hR (i : Int) y
  simp only [Int.toNat_natCast] at q1 q2 q3 q4
  have hgb : wb.heap.size ≤ g := hg
  refine ⟨g, rfl, ⟨_, q1⟩, q2, ⟨_, ?_, by rw [show xs.length = (xs.set i y).length by rw [List.length_set]] at q3; rw [List.length_set] at q3; exact q3⟩, ?_⟩
  · rw [List.length_set]
  · exact ⟨hB.os, hB.tape, hB.output, by simpa using hB.size, fun k hk => (Below.heap_setCell _ _ _ k (fun e => by have e : k = g := e; omega)).trans (hB.block k hk)⟩
def same.T2 : Bool × List (List Nat × List Nat) := (true, [([], []), ([0], [0]), ([], []), ([2], [2]), ([3], [3]), ([4], [4]), ([5], [5]), ([1, 6], [1, 6]), ([7], [7]), ([8], [8]), ([9, 8, 8], [8, 9]), ([8], [8]), ([11, 10, 8], [8, 11]), ([10, 12, 8], [8, 10, 12]), ([8, 13], [8, 13]), ([14, 12], [14]), ([15], [15]), ([16, 15, 15], [15, 16]), ([15], [15]), ([18, 15], [15, 18]), ([19, 15], [15, 19]), ([20, 15], [15, 20]), ([17, 21, 15], [15, 17, 21]), ([15, 22], [15, 22])])
def same.B2 : List Nat := [0, 1, 0, 4, 12, 28, 60, 127, 255, 511, 1023, 511, 4095, 8191, 16383, 32767, 65535, 131071, 65535, 327679, 851967, 1900543, 4194303, 8388607]
theorem same.tab2 : rtab .any (opsOf Try.f24 2) = same.T2 := by kernel_rfl
theorem same.bits2 : waitsOk same.T2.2 same.B2 = true := by kernel_rfl
def same.T9 : Bool × List (List Nat × List Nat) := (true, [([], []), ([], []), ([0, 1], [0, 1]), ([2], [2]), ([], []), ([4], [4]), ([3, 5], [3, 5]), ([6], [6]), ([7], [7]), ([8, 7], [7, 8]), ([7, 9], [7, 9]), ([10, 7], [10]), ([11], [11]), ([12, 11], [11, 12]), ([11, 13], [11, 13]), ([14, 11], [14]), ([15], [15]), ([15], [15]), ([17, 15], [15, 17]), ([16, 18, 15, 15], [15, 16, 18]), ([19, 15], [15, 19]), ([15, 20], [15, 20]), ([21, 19], [21]), ([22], [22]), ([22], [22]), ([24, 22], [22, 24]), ([23, 25, 22], [22, 23, 25]), ([22, 26], [22, 26])])
def same.B9 : List Nat := [0, 0, 3, 7, 0, 16, 63, 127, 255, 511, 1023, 2047, 4095, 8191, 16383, 32767, 65535, 65535, 196607, 524287, 1048575, 2097151, 4194303, 8388607, 8388607, 25165823, 67108863, 134217727]
theorem same.tab9 : rtab .any (opsOf Try.f24 9) = same.T9 := by kernel_rfl
theorem same.bits9 : waitsOk same.T9.2 same.B9 = true := by kernel_rfl
section
variable {w : World} {D M B g B2 : Nat} {room : Int} {dat : Nat → Prop} {fs : ByteArray → Option Raw} {st : St}
set_option maxHeartbeats 4000000 in
set_option maxRecDepth 100000 in
theorem same_calls (h : DiskG w D M room B dat fs st) (hr : RefG w g B2 room st) : Calls Try.prog 24 #[.pointer (some ⟨D, 0, none⟩), .pointer (some ⟨g, 0, none⟩)] w fun e w' => e = .returned (.bool true) ∧ Below w.heap.size w w' := by
  obtain ⟨A, c, h1, h2, h3⟩ := hr.slice
  have g0 : w.cell? ⟨g, 0, none⟩ = some (.int .i64 room) := (blk_cell h1 0).trans rfl
  have g1 : w.cell? ⟨g, 1, none⟩ = some (.slice A st.length c) := (blk_cell h1 1).trans rfl
  have HD := Aside0.mk h
  have HRg := Aside0.mk hr
  have hfw := h.few
  have htt : total st ≤ 16777216 := by have := h.fit; have := h.room1; omega
  obtain ⟨n, hn⟩ : ∃ n : Nat, n = st.length := ⟨_, rfl⟩
  rw [← hn] at g1 h2 h3 hfw
  have HN := Aside0.mk hn
  have HFW := Aside0.mk (And.intro hfw htt)
  have HC := Aside0.mk h2
  clear h hr hfw htt hn h1 h2
  go_enter Try.func24, Try.ntmps24
  go_wp2_with (first
    | (go_at_call 11; (with_reducible refine (list_calls HD.out).mono ?_); rintro e w1 ⟨v7, rfl, hR, hb⟩; obtain ⟨A7, c7, hv⟩ := Kd.R_slice hR; rw [List.length_map] at hv; subst hv; rw [← HN.out] at hR ⊢; have HR7 := Aside0.mk hR; have HB1 := Aside0.mk hb; replace g0 := pw_cell_below hb g0; replace g1 := pw_cell_below hb g1; clear hR hb))
  refine start_ (n := 24) (S := fun w' => w'.cell? ⟨g, 1, none⟩ = some (.slice A n c) ∧ w'.cell? ⟨g, 0, none⟩ = some (.int .i64 room)) (ds := []) #[false, false, false, false, false, false, false, false, false, false, false, false, false, false, false, false, false, false, false, false, false, false, false, false] (by kernel_rfl) rfl rfl ⟨g1, g0⟩ (fun hHeld => ?_); refine with_tabW same.tab2 same.bits2 (fun HT_ HW_ => ?_)
  refine pure_ (i := 0) (N := some 15) (v := ?_) (a' := ?_) #[true, false, false, false, false, false, false, false, false, false, false, false, false, false, false, false, false, false, false, false, false, false, false, false] rfl rfl (any_of HT_.out (by kernel_rfl)) (fun _ _ _ h => h) (Or.inl ⟨by rfl, ?_⟩) ?_ ?_
  rotate_left
  · intro w'
    go_simp
    with_reducible rfl
  rotate_left
  · simp only [Act.put, List.setIfInBounds_toArray, List.set_cons_zero, List.set_cons_succ, i64_w, i32_w, xu32_w, xu8_w]
    rfl
  refine pure_ (i := 1) (N := some 16) (v := ?_) (a' := ?_) #[true, true, false, false, false, false, false, false, false, false, false, false, false, false, false, false, false, false, false, false, false, false, false, false] rfl rfl (any_of HT_.out (by kernel_rfl)) (fun _ _ _ h => h) (Or.inl ⟨by rfl, ?_⟩) ?_ ?_
  rotate_left
  · intro w'
    go_simp
    with_reducible rfl
  rotate_left
  · simp only [Act.put, List.setIfInBounds_toArray, List.set_cons_zero, List.set_cons_succ, i64_w, i32_w, xu32_w, xu8_w]
    rfl
  refine pure_ (i := 2) (N := some 17) (v := ?_) (a' := ?_) #[true, true, true, false, false, false, false, false, false, false, false, false, false, false, false, false, false, false, false, false, false, false, false, false] rfl rfl (any_of HT_.out (by kernel_rfl)) (fun _ _ _ h => h) (Or.inl ⟨by rfl, ?_⟩) ?_ ?_
  rotate_left
  · intro w'
    go_simp
    with_reducible rfl
  rotate_left
  · simp only [Act.put, List.setIfInBounds_toArray, List.set_cons_zero, List.set_cons_succ, i64_w, i32_w, xu32_w, xu8_w]
    rfl
  refine pure_ (i := 3) (N := some 18) (v := ?_) (a' := ?_) #[true, true, true, true, false, false, false, false, false, false, false, false, false, false, false, false, false, false, false, false, false, false, false, false] rfl rfl (any_of HT_.out (by kernel_rfl)) (fun _ _ _ h => h) (Or.inl ⟨by rfl, ?_⟩) ?_ ?_
  rotate_left
  · intro w'
    go_simp
    with_reducible rfl
  rotate_left
  · simp only [Act.put, List.setIfInBounds_toArray, List.set_cons_zero, List.set_cons_succ, i64_w, i32_w, xu32_w, xu8_w]
    rfl
  refine pure_ (i := 4) (N := some 19) (v := ?_) (a' := ?_) #[true, true, true, true, true, false, false, false, false, false, false, false, false, false, false, false, false, false, false, false, false, false, false, false] rfl rfl (any_of HT_.out (by kernel_rfl)) (fun _ _ _ h => h) (Or.inl ⟨by rfl, ?_⟩) ?_ ?_
  rotate_left
  · intro w'
    go_simp
    with_reducible rfl
  rotate_left
  · simp only [Act.put, List.setIfInBounds_toArray, List.set_cons_zero, List.set_cons_succ, i64_w, i32_w, xu32_w, xu8_w]
    rfl
  refine take_ (i := 5) (N := some 20) (v := ?_) (a' := ?_) #[true, true, true, true, true, true, false, false, false, false, false, false, false, false, false, false, false, false, false, false, false, false, false, false] rfl rfl (take_ofW HT_.out HW_.out (by kernel_rfl)) (fun _ _ _ h => h) (Or.inl ⟨by rfl, ?_⟩) hHeld ?_ ?_
  rotate_left
  · rintro w' ⟨s0, s1⟩
    go_simp
    with_reducible rfl
  rotate_left
  · simp only [Act.put, List.setIfInBounds_toArray, List.set_cons_zero, List.set_cons_succ, i64_w, i32_w, xu32_w, xu8_w]
    rfl
  refine pure_ (i := 6) (N := some 21) (v := ?_) (a' := ?_) #[true, true, true, true, true, true, true, false, false, false, false, false, false, false, false, false, false, false, false, false, false, false, false, false] rfl rfl (any_of HT_.out (by kernel_rfl)) (fun _ _ _ h => h) (Or.inl ⟨by rfl, ?_⟩) ?_ ?_
  rotate_left
  · intro w'
    go_simp
    with_reducible rfl
  rotate_left
  · simp only [Act.put, List.setIfInBounds_toArray, List.set_cons_zero, List.set_cons_succ, i64_w, i32_w, xu32_w, xu8_w]
    rfl
  refine pure_ (i := 7) (N := some 22) (v := ?_) (a' := ?_) #[true, true, true, true, true, true, true, true, false, false, false, false, false, false, false, false, false, false, false, false, false, false, false, false] rfl rfl (any_of HT_.out (by kernel_rfl)) (fun _ _ _ h => h) (Or.inl ⟨by rfl, ?_⟩) ?_ ?_
  rotate_left
  · intro w'
    go_simp
    with_reducible rfl
  rotate_left
  · simp only [Act.put, List.setIfInBounds_toArray, List.set_cons_zero, List.set_cons_succ, i64_w, i32_w, xu32_w, xu8_w]
    rfl
  refine pure_ (i := 8) (N := some 23) (v := ?_) (a' := ?_) #[true, true, true, true, true, true, true, true, true, false, false, false, false, false, false, false, false, false, false, false, false, false, false, false] rfl rfl (any_of HT_.out (by kernel_rfl)) (fun _ _ _ h => h) (Or.inl ⟨by rfl, ?_⟩) ?_ ?_
  rotate_left
  · intro w'
    go_simp
    with_reducible rfl
  rotate_left
  · simp only [Act.put, List.setIfInBounds_toArray, List.set_cons_zero, List.set_cons_succ, i64_w, i32_w, xu32_w, xu8_w]
    rfl
  refine pure_ (i := 9) (N := some 24) (v := ?_) (a' := ?_) #[true, true, true, true, true, true, true, true, true, true, false, false, false, false, false, false, false, false, false, false, false, false, false, false] rfl rfl (any_of HT_.out (by kernel_rfl)) (fun _ _ _ h => h) (Or.inl ⟨by rfl, ?_⟩) ?_ ?_
  rotate_left
  · intro w'
    go_simp
    with_reducible rfl
  rotate_left
  · simp only [Act.put, List.setIfInBounds_toArray, List.set_cons_zero, List.set_cons_succ, i64_w, i32_w, xu32_w, xu8_w]
    rfl
  refine pure_ (i := 11) (N := some 26) (v := ?_) (a' := ?_) #[true, true, true, true, true, true, true, true, true, true, false, true, false, false, false, false, false, false, false, false, false, false, false, false] rfl rfl (any_of HT_.out (by kernel_rfl)) (fun _ _ _ h => h) (Or.inl ⟨by rfl, ?_⟩) ?_ ?_
  rotate_left
  · intro w'
    go_simp
    with_reducible rfl
  rotate_left
  · simp only [Act.put, List.setIfInBounds_toArray, List.set_cons_zero, List.set_cons_succ, i64_w, i32_w, xu32_w, xu8_w]
    rfl
  refine one_ (i := 10) (N := some 25) #[true, true, true, true, true, true, true, true, true, true, true, true, false, false, false, false, false, false, false, false, false, false, false, false] rfl rfl (one_of HT_.out (by kernel_rfl)) (by decide) (fun K hK => ?_)
  refine goes_ Try.func19 (by kernel_rfl) rfl #[.pointer (some ⟨D, 0, none⟩)] (by rfl) rfl rfl (by (try simp only [List.map_toArray, List.map_cons, List.map_nil]); first | done | rfl) ?_
  with_reducible refine (size_calls (HD.out.below (below_drew HB1.out))).mono ?_
  rintro e w9 ⟨rfl, h9⟩
  subst w9
  refine ⟨_, rfl, ?_⟩
  refine hK.out _ _ hHeld (fun hHeld => ?_)
  clear hK K
  refine norm_ (a' := ?_) ?_ ?_
  rotate_left
  · show Act.put _ (some 25) _ = _
    simp only [Act.put, List.setIfInBounds_toArray, List.set_cons_zero, List.set_cons_succ, i64_w, i32_w, xu32_w, xu8_w]
    rfl
  refine one_ (i := 12) (N := some 27) #[true, true, true, true, true, true, true, true, true, true, true, true, true, false, false, false, false, false, false, false, false, false, false, false] rfl rfl (one_of HT_.out (by kernel_rfl)) (by decide) (fun K hK => ?_)
  refine goes_ Try.func41 (by kernel_rfl) rfl #[.pointer (some ⟨g, 0, none⟩)] (by rfl) rfl rfl (by (try simp only [List.map_toArray, List.map_cons, List.map_nil]); first | done | rfl) ?_
  with_reducible refine (rsize_calls (HRg.out.below (below_drew HB1.out)) (by have := HN.out; have := HFW.out.1; omega) HFW.out.2).mono ?_
  rintro e w2 ⟨rfl, hb⟩
  refine ⟨_, rfl, ?_⟩
  have hb2 : Below w1.heap.size w1 w2 := ⟨hb.os, hb.tape, hb.output, hb.size, hb.block⟩
  have HB2 := Aside0.mk (below_step HB1.out hb2)
  have HR8 := Aside0.mk (Kd.R_below HR7.out hb2)
  refine hK.out _ _ ⟨pw_cell_below hb2 g1, pw_cell_below hb2 g0⟩ (fun hHeld => ?_)
  clear hK K hb hb2 HR7
  refine norm_ (a' := ?_) ?_ ?_
  rotate_left
  · show Act.put _ (some 27) _ = _
    simp only [Act.put, List.setIfInBounds_toArray, List.set_cons_zero, List.set_cons_succ, i64_w, i32_w, xu32_w, xu8_w]
    rfl
  refine pure_ (i := 13) (N := some 28) (v := ?_) (a' := ?_) #[true, true, true, true, true, true, true, true, true, true, true, true, true, true, false, false, false, false, false, false, false, false, false, false] rfl rfl (any_of HT_.out (by kernel_rfl)) (fun _ _ _ h => h) (Or.inl ⟨by rfl, ?_⟩) ?_ ?_
  rotate_left
  · intro w'
    go_simp
    with_reducible rfl
  rotate_left
  · simp only [Act.put, List.setIfInBounds_toArray, List.set_cons_zero, List.set_cons_succ, i64_w, i32_w, xu32_w, xu8_w]
    rfl
  refine pure_ (i := 14) (N := some 29) (v := ?_) (a' := ?_) #[true, true, true, true, true, true, true, true, true, true, true, true, true, true, true, false, false, false, false, false, false, false, false, false] rfl rfl (any_of HT_.out (by kernel_rfl)) (fun _ _ _ h => h) (Or.inl ⟨by rfl, ?_⟩) ?_ ?_
  rotate_left
  · intro w'
    go_simp
    with_reducible rfl
  rotate_left
  · simp only [Act.put, List.setIfInBounds_toArray, List.set_cons_zero, List.set_cons_succ, i64_w, i32_w, xu32_w, xu8_w]
    rfl
  refine pure_ (i := 15) (N := some 30) (v := ?_) (a' := ?_) #[true, true, true, true, true, true, true, true, true, true, true, true, true, true, true, true, false, false, false, false, false, false, false, false] rfl rfl (any_of HT_.out (by kernel_rfl)) (fun _ _ _ h => h) (Or.inl ⟨by rfl, ?_⟩) ?_ ?_
  rotate_left
  · intro w'
    go_simp
    with_reducible rfl
  rotate_left
  · simp only [Act.put, List.setIfInBounds_toArray, List.set_cons_zero, List.set_cons_succ, i64_w, i32_w, xu32_w, xu8_w]
    rfl
  refine pure_ (i := 16) (N := some 31) (v := ?_) (a' := ?_) #[true, true, true, true, true, true, true, true, true, true, true, true, true, true, true, true, true, false, false, false, false, false, false, false] rfl rfl (any_of HT_.out (by kernel_rfl)) (fun _ _ _ h => h) (Or.inl ⟨by rfl, ?_⟩) ?_ ?_
  rotate_left
  · intro w'
    go_simp
    with_reducible rfl
  rotate_left
  · simp only [Act.put, List.setIfInBounds_toArray, List.set_cons_zero, List.set_cons_succ, i64_w, i32_w, xu32_w, xu8_w]
    rfl
  refine pure_ (i := 18) (N := some 33) (v := ?_) (a' := ?_) #[true, true, true, true, true, true, true, true, true, true, true, true, true, true, true, true, true, false, true, false, false, false, false, false] rfl rfl (any_of HT_.out (by kernel_rfl)) (fun _ _ _ h => h) (Or.inl ⟨by rfl, ?_⟩) ?_ ?_
  rotate_left
  · intro w'
    go_simp
    with_reducible rfl
  rotate_left
  · simp only [Act.put, List.setIfInBounds_toArray, List.set_cons_zero, List.set_cons_succ, i64_w, i32_w, xu32_w, xu8_w]
    rfl
  refine pure_ (i := 19) (N := some 34) (v := ?_) (a' := ?_) #[true, true, true, true, true, true, true, true, true, true, true, true, true, true, true, true, true, false, true, true, false, false, false, false] rfl rfl (any_of HT_.out (by kernel_rfl)) (fun _ _ _ h => h) (Or.inl ⟨by rfl, ?_⟩) ?_ ?_
  rotate_left
  · intro w'
    go_simp
    with_reducible rfl
  rotate_left
  · simp only [Act.put, List.setIfInBounds_toArray, List.set_cons_zero, List.set_cons_succ, i64_w, i32_w, xu32_w, xu8_w]
    rfl
  refine pure_ (i := 20) (N := some 35) (v := ?_) (a' := ?_) #[true, true, true, true, true, true, true, true, true, true, true, true, true, true, true, true, true, false, true, true, true, false, false, false] rfl rfl (any_of HT_.out (by kernel_rfl)) (fun _ _ _ h => h) (Or.inl ⟨by rfl, ?_⟩) ?_ ?_
  rotate_left
  · intro w'
    go_simp
    with_reducible rfl
  rotate_left
  · simp only [Act.put, List.setIfInBounds_toArray, List.set_cons_zero, List.set_cons_succ, i64_w, i32_w, xu32_w, xu8_w]
    rfl
  refine take_ (i := 21) (N := some 36) (v := ?_) (a' := ?_) #[true, true, true, true, true, true, true, true, true, true, true, true, true, true, true, true, true, false, true, true, true, true, false, false] rfl rfl (take_ofW HT_.out HW_.out (by kernel_rfl)) (fun _ _ _ h => h) (Or.inl ⟨by rfl, ?_⟩) hHeld ?_ ?_
  rotate_left
  · rintro w' ⟨s0, s1⟩
    go_simp
    with_reducible rfl
  rotate_left
  · simp only [Act.put, List.setIfInBounds_toArray, List.set_cons_zero, List.set_cons_succ, i64_w, i32_w, xu32_w, xu8_w]
    rfl
  refine one_ (i := 17) (N := some 32) #[true, true, true, true, true, true, true, true, true, true, true, true, true, true, true, true, true, true, true, true, true, true, false, false] rfl rfl (one_of HT_.out (by kernel_rfl)) (by decide) (fun K hK => ?_)
  refine goes_ Try.func29 (by kernel_rfl) rfl #[.pointer (some ⟨D, 0, none⟩)] (by rfl) rfl rfl (by (try simp only [List.map_toArray, List.map_cons, List.map_nil]); first | done | rfl) ?_
  with_reducible refine (room_calls (HD.out.below HB2.out)).mono ?_
  rintro e w9 ⟨rfl, h9⟩
  subst w9
  refine ⟨_, rfl, ?_⟩
  refine hK.out _ _ hHeld (fun hHeld => ?_)
  clear hK K
  refine norm_ (a' := ?_) ?_ ?_
  rotate_left
  · show Act.put _ (some 32) _ = _
    simp only [Act.put, List.setIfInBounds_toArray, List.set_cons_zero, List.set_cons_succ, i64_w, i32_w, xu32_w, xu8_w]
    rfl
  refine pure_ (i := 22) (N := some 37) (v := ?_) (a' := ?_) #[true, true, true, true, true, true, true, true, true, true, true, true, true, true, true, true, true, true, true, true, true, true, true, false] rfl rfl (any_of HT_.out (by kernel_rfl)) (fun _ _ _ h => h) (Or.inl ⟨by rfl, ?_⟩) ?_ ?_
  rotate_left
  · intro w'
    go_simp
    with_reducible rfl
  rotate_left
  · simp only [Act.put, List.setIfInBounds_toArray, List.set_cons_zero, List.set_cons_succ, i64_w, i32_w, xu32_w, xu8_w]
    rfl
  refine pure_ (i := 23) (N := some 38) (v := ?_) (a' := ?_) #[true, true, true, true, true, true, true, true, true, true, true, true, true, true, true, true, true, true, true, true, true, true, true, true] rfl rfl (any_of HT_.out (by kernel_rfl)) (fun _ _ _ h => h) (Or.inl ⟨by rfl, ?_⟩) ?_ ?_
  rotate_left
  · intro w'
    go_simp
    with_reducible rfl
  rotate_left
  · simp only [Act.put, List.setIfInBounds_toArray, List.set_cons_zero, List.set_cons_succ, i64_w, i32_w, xu32_w, xu8_w]
    rfl
  refine done_ (done_of HT_.out (by kernel_rfl)) ?_
  clear hHeld HT_ HW_
  go_wp2_with (fail)
  have HD2 := Aside0.mk (HD.out.below HB2.out)
  have HC2 := Aside0.mk (Kd.C_below HC.out HB2.out)
  clear HB1 HC g0 g1 HD HRg
  go_loopg [44] (n + 1) (fun kq v44 wr => ∃ (i : Nat), v44 = .int .i64 i ∧ Aside0 (kq + i = n + 1 ∧ i ≤ n) ∧ Aside0 (Below w2.heap.size w2 wr))
  case atStart => exact ⟨0, rfl, ⟨by omega⟩, ⟨Below.refl _ _⟩⟩
  case round =>
    obtain ⟨i, rfl, HK, HB⟩ := hrel
    cases gk with
    | zero => have := HK.out; omega
    | succ k1 =>
    by_cases hlt : i < n
    · have hi1 : (i : Int) < (n : Int) := by omega
      have hil : i < st.length := by have := HN.out; omega
      obtain ⟨f, f1, f2, f3⟩ := names_at HD2.out.files.sorted hil
      obtain ⟨ad, A1, c1, hAe, x0, x1, x2, hc1, hd1⟩ := at_T71 (Kd.C_below HC2.out HB.out) (i : Int) (by omega) (by omega)
      subst hAe
      rw [rd_map hil] at x0 x1 x2 hc1 hd1
      have f4 : st[i] = f := (List.getElem?_eq_some_iff.1 f3).2
      rw [f4] at x0 x1 x2 hc1 hd1
      simp only [Int.toNat_natCast, toS] at x0 x1 x2 hc1 hd1
      have hra := Kd.R_reads' (Kd.R_below HR8.out HB.out)
      obtain ⟨ae, hA7, y0⟩ := Kd.at_string hra.2.2 (i : Int) (by omega) (by rw [List.length_map]; have := HN.out; omega)
      have hca := hra.2.1
      subst hA7
      rw [f1] at y0
      simp only [Int.toNat_natCast] at y0
      have hfb : f.b.length ≤ 16777216 := file_small HD2.out f2
      have HFB := Aside0.mk hfb
      have e1 : readE st f.n = 0 := by unfold readE; rw [f2]
      have e2 : readB st f.n = f.b := by unfold readB; rw [f2]
      have e3 : lastsR st f.n = (f.l, 0) := by unfold lastsR; rw [f2]
      have HE := Aside0.mk (And.intro e1 (And.intro e2 e3))
      have hba := below_alloc (Below.refl wr.heap.size wr) (.cells #[.string f.n, .slice A1 f.b.length c1, .int .i64 f.l] 71)
      have HBA := Aside0.mk hba
      have HBW := Aside0.mk (below_step HB.out hba)
      have HX := Aside0.mk (And.intro hc1 (Kd.C_below hd1 hba))
      have HBK := Aside0.mk (heap_alloc_new wr (.cells #[.string f.n, .slice A1 f.b.length c1, .int .i64 f.l] 71))
      replace y0 := pw_cell_below hba y0
      clear hra f1 f2 f3 f4 hfb e1 e2 e3 hba hc1 hd1
      go_wp2_with (first
        | (go_at_call 13; (with_reducible refine (read_calls (HD2.out.below HBW.out) f.n).mono ?_); rintro e wA ⟨vA, rfl, hR, hb⟩; rw [HE.out.1]; rw [HE.out.2.1] at hR; obtain ⟨Ax, cx, rfl⟩ := Kd.R_slice hR; have HRx := Aside0.mk hR; replace y0 := pw_cell_below hb y0; have hkA := (hb.block _ (heap_lt HBK.out)).trans HBK.out; have z0 := (blk_cell hkA 0).trans rfl; have z1 := (blk_cell hkA 1).trans rfl; have z2 := (blk_cell hkA 2).trans rfl; have HKA := Aside0.mk hkA; have HXA := Aside0.mk (Kd.C_below HX.out.2 hb); have HBX := Aside0.mk (below_step HBW.out hb); have HZA := Aside0.mk HBW.out.size; clear hR hb hkA)
        | (go_at_call 14; (with_reducible refine (lasts_calls (HD2.out.below HBX.out) f.n).mono ?_); rintro e w9 ⟨rfl, h9⟩; subst w9; rw [HE.out.2.2]; dsimp only))
      refine start_ (n := 28) (S := fun w' => w'.cell? (ae.add i) = some (.string f.n) ∧ w'.cell? ⟨wr.heap.size, 0, none⟩ = some (.string f.n) ∧ w'.cell? ⟨wr.heap.size, 1, none⟩ = some (.slice A1 f.b.length c1) ∧ w'.cell? ⟨wr.heap.size, 2, none⟩ = some (.int .i64 f.l)) (ds := []) #[false, false, false, false, false, false, false, false, false, false, false, false, false, false, false, false, false, false, false, false, false, false, false, false, false, false, false, false] (by kernel_rfl) rfl rfl ⟨y0, z0, z1, z2⟩ (fun hHeld => ?_); refine with_tabW same.tab9 same.bits9 (fun HT_ HW_ => ?_)
      refine pure_ (i := 0) (N := some 63) (v := ?_) (a' := ?_) #[true, false, false, false, false, false, false, false, false, false, false, false, false, false, false, false, false, false, false, false, false, false, false, false, false, false, false, false] rfl rfl (any_of HT_.out (by kernel_rfl)) (fun _ _ _ h => h) (Or.inl ⟨by rfl, ?_⟩) ?_ ?_
      rotate_left
      · intro w'
        go_simp
        with_reducible rfl
      rotate_left
      · simp only [Act.put, List.setIfInBounds_toArray, List.set_cons_zero, List.set_cons_succ, i64_w, i32_w, xu32_w, xu8_w]
        rfl
      refine pure_ (i := 1) (N := some 64) (v := ?_) (a' := ?_) #[true, true, false, false, false, false, false, false, false, false, false, false, false, false, false, false, false, false, false, false, false, false, false, false, false, false, false, false] rfl rfl (any_of HT_.out (by kernel_rfl)) (fun _ _ _ h => h) (Or.inl ⟨by rfl, ?_⟩) ?_ ?_
      rotate_left
      · intro w'
        go_simp
        with_reducible rfl
      rotate_left
      · simp only [Act.put, List.setIfInBounds_toArray, List.set_cons_zero, List.set_cons_succ, i64_w, i32_w, xu32_w, xu8_w]
        rfl
      refine pure_ (i := 2) (N := some 65) (v := ?_) (a' := ?_) #[true, true, true, false, false, false, false, false, false, false, false, false, false, false, false, false, false, false, false, false, false, false, false, false, false, false, false, false] rfl rfl (any_of HT_.out (by kernel_rfl)) (fun _ _ _ h => h) (Or.inl ⟨by rfl, ?_⟩) ?_ ?_
      rotate_left
      · intro w'
        go_simp
        with_reducible rfl
      rotate_left
      · simp only [Act.put, List.setIfInBounds_toArray, List.set_cons_zero, List.set_cons_succ, i64_w, i32_w, xu32_w, xu8_w]
        rfl
      refine pure_ (i := 4) (N := some 67) (v := ?_) (a' := ?_) #[true, true, true, false, true, false, false, false, false, false, false, false, false, false, false, false, false, false, false, false, false, false, false, false, false, false, false, false] rfl rfl (any_of HT_.out (by kernel_rfl)) (fun _ _ _ h => h) (Or.inl ⟨by rfl, ?_⟩) ?_ ?_
      rotate_left
      · intro w'
        go_simp
        with_reducible rfl
      rotate_left
      · simp only [Act.put, List.setIfInBounds_toArray, List.set_cons_zero, List.set_cons_succ, i64_w, i32_w, xu32_w, xu8_w]
        rfl
      refine take_ (i := 3) (N := some 66) (v := ?_) (a' := ?_) #[true, true, true, true, true, false, false, false, false, false, false, false, false, false, false, false, false, false, false, false, false, false, false, false, false, false, false, false] rfl rfl (take_ofW HT_.out HW_.out (by kernel_rfl)) (fun _ _ _ h => h) (Or.inl ⟨by rfl, ?_⟩) hHeld ?_ ?_
      rotate_left
      · rintro w' ⟨s0, s1, s2, s3⟩
        go_simp
        with_reducible rfl
      rotate_left
      · simp only [Act.put, List.setIfInBounds_toArray, List.set_cons_zero, List.set_cons_succ, i64_w, i32_w, xu32_w, xu8_w]
        rfl
      refine take_ (i := 5) (N := some 68) (v := ?_) (a' := ?_) #[true, true, true, true, true, true, false, false, false, false, false, false, false, false, false, false, false, false, false, false, false, false, false, false, false, false, false, false] rfl rfl (take_ofW HT_.out HW_.out (by kernel_rfl)) (fun _ _ _ h => h) (Or.inl ⟨by rfl, ?_⟩) hHeld ?_ ?_
      rotate_left
      · rintro w' ⟨s0, s1, s2, s3⟩
        go_simp
        with_reducible rfl
      rotate_left
      · simp only [Act.put, List.setIfInBounds_toArray, List.set_cons_zero, List.set_cons_succ, i64_w, i32_w, xu32_w, xu8_w]
        rfl
      refine pure_ (i := 6) (N := some 69) (v := ?_) (a' := ?_) #[true, true, true, true, true, true, true, false, false, false, false, false, false, false, false, false, false, false, false, false, false, false, false, false, false, false, false, false] rfl rfl (any_of HT_.out (by kernel_rfl)) (fun _ _ _ h => h) (Or.inl ⟨by rfl, ?_⟩) ?_ ?_
      rotate_left
      · intro w'
        go_simp
        with_reducible rfl
      rotate_left
      · simp only [Act.put, List.setIfInBounds_toArray, List.set_cons_zero, List.set_cons_succ, i64_w, i32_w, xu32_w, xu8_w]
        rfl
      refine pure_ (i := 7) (N := some 70) (v := ?_) (a' := ?_) #[true, true, true, true, true, true, true, true, false, false, false, false, false, false, false, false, false, false, false, false, false, false, false, false, false, false, false, false] rfl rfl (any_of HT_.out (by kernel_rfl)) (fun _ _ _ h => h) (Or.inl ⟨by rfl, ?_⟩) ?_ ?_
      rotate_left
      · intro w'
        go_simp
        with_reducible rfl
      rotate_left
      · simp only [Act.put, List.setIfInBounds_toArray, List.set_cons_zero, List.set_cons_succ, i64_w, i32_w, xu32_w, xu8_w]
        rfl
      refine pure_ (i := 8) (N := some 71) (v := ?_) (a' := ?_) #[true, true, true, true, true, true, true, true, true, false, false, false, false, false, false, false, false, false, false, false, false, false, false, false, false, false, false, false] rfl rfl (any_of HT_.out (by kernel_rfl)) (fun _ _ _ h => h) (Or.inl ⟨by rfl, ?_⟩) ?_ ?_
      rotate_left
      · intro w'
        go_simp
        with_reducible rfl
      rotate_left
      · simp only [Act.put, List.setIfInBounds_toArray, List.set_cons_zero, List.set_cons_succ, i64_w, i32_w, xu32_w, xu8_w]
        rfl
      refine pure_ (i := 9) (N := some 72) (v := ?_) (a' := ?_) #[true, true, true, true, true, true, true, true, true, true, false, false, false, false, false, false, false, false, false, false, false, false, false, false, false, false, false, false] rfl rfl (any_of HT_.out (by kernel_rfl)) (fun _ _ _ h => h) (Or.inl ⟨by rfl, ?_⟩) ?_ ?_
      rotate_left
      · intro w'
        go_simp
        with_reducible rfl
      rotate_left
      · simp only [Act.put, List.setIfInBounds_toArray, List.set_cons_zero, List.set_cons_succ, i64_w, i32_w, xu32_w, xu8_w]
        rfl
      refine pure_ (i := 10) (N := some 73) (v := ?_) (a' := ?_) #[true, true, true, true, true, true, true, true, true, true, true, false, false, false, false, false, false, false, false, false, false, false, false, false, false, false, false, false] rfl rfl (any_of HT_.out (by kernel_rfl)) (fun _ _ _ h => h) (Or.inl ⟨by rfl, ?_⟩) ?_ ?_
      rotate_left
      · intro w'
        go_simp
        with_reducible rfl
      rotate_left
      · simp only [Act.put, List.setIfInBounds_toArray, List.set_cons_zero, List.set_cons_succ, i64_w, i32_w, xu32_w, xu8_w]
        rfl
      refine pure_ (i := 11) (N := some 74) (v := ?_) (a' := ?_) #[true, true, true, true, true, true, true, true, true, true, true, true, false, false, false, false, false, false, false, false, false, false, false, false, false, false, false, false] rfl rfl (any_of HT_.out (by kernel_rfl)) (fun _ _ _ h => h) (Or.inl ⟨by rfl, ?_⟩) ?_ ?_
      rotate_left
      · intro w'
        go_simp
        with_reducible rfl
      rotate_left
      · simp only [Act.put, List.setIfInBounds_toArray, List.set_cons_zero, List.set_cons_succ, i64_w, i32_w, xu32_w, xu8_w]
        rfl
      refine pure_ (i := 12) (N := some 75) (v := ?_) (a' := ?_) #[true, true, true, true, true, true, true, true, true, true, true, true, true, false, false, false, false, false, false, false, false, false, false, false, false, false, false, false] rfl rfl (any_of HT_.out (by kernel_rfl)) (fun _ _ _ h => h) (Or.inl ⟨by rfl, ?_⟩) ?_ ?_
      rotate_left
      · intro w'
        go_simp
        with_reducible rfl
      rotate_left
      · simp only [Act.put, List.setIfInBounds_toArray, List.set_cons_zero, List.set_cons_succ, i64_w, i32_w, xu32_w, xu8_w]
        rfl
      refine pure_ (i := 13) (N := some 76) (v := ?_) (a' := ?_) #[true, true, true, true, true, true, true, true, true, true, true, true, true, true, false, false, false, false, false, false, false, false, false, false, false, false, false, false] rfl rfl (any_of HT_.out (by kernel_rfl)) (fun _ _ _ h => h) (Or.inl ⟨by rfl, ?_⟩) ?_ ?_
      rotate_left
      · intro w'
        go_simp
        with_reducible rfl
      rotate_left
      · simp only [Act.put, List.setIfInBounds_toArray, List.set_cons_zero, List.set_cons_succ, i64_w, i32_w, xu32_w, xu8_w]
        rfl
      refine pure_ (i := 14) (N := some 77) (v := ?_) (a' := ?_) #[true, true, true, true, true, true, true, true, true, true, true, true, true, true, true, false, false, false, false, false, false, false, false, false, false, false, false, false] rfl rfl (any_of HT_.out (by kernel_rfl)) (fun _ _ _ h => h) (Or.inl ⟨by rfl, ?_⟩) ?_ ?_
      rotate_left
      · intro w'
        go_simp
        with_reducible rfl
      rotate_left
      · simp only [Act.put, List.setIfInBounds_toArray, List.set_cons_zero, List.set_cons_succ, i64_w, i32_w, xu32_w, xu8_w]
        rfl
      refine pure_ (i := 15) (N := some 78) (v := ?_) (a' := ?_) #[true, true, true, true, true, true, true, true, true, true, true, true, true, true, true, true, false, false, false, false, false, false, false, false, false, false, false, false] rfl rfl (any_of HT_.out (by kernel_rfl)) (fun _ _ _ h => h) (Or.inl ⟨by rfl, ?_⟩) ?_ ?_
      rotate_left
      · intro w'
        go_simp
        with_reducible rfl
      rotate_left
      · simp only [Act.put, List.setIfInBounds_toArray, List.set_cons_zero, List.set_cons_succ, i64_w, i32_w, xu32_w, xu8_w]
        rfl
      refine pure_ (i := 16) (N := some 79) (v := ?_) (a' := ?_) #[true, true, true, true, true, true, true, true, true, true, true, true, true, true, true, true, true, false, false, false, false, false, false, false, false, false, false, false] rfl rfl (any_of HT_.out (by kernel_rfl)) (fun _ _ _ h => h) (Or.inl ⟨by rfl, ?_⟩) ?_ ?_
      rotate_left
      · intro w'
        go_simp
        with_reducible rfl
      rotate_left
      · simp only [Act.put, List.setIfInBounds_toArray, List.set_cons_zero, List.set_cons_succ, i64_w, i32_w, xu32_w, xu8_w]
        rfl
      refine pure_ (i := 17) (N := some 80) (v := ?_) (a' := ?_) #[true, true, true, true, true, true, true, true, true, true, true, true, true, true, true, true, true, true, false, false, false, false, false, false, false, false, false, false] rfl rfl (any_of HT_.out (by kernel_rfl)) (fun _ _ _ h => h) (Or.inl ⟨by rfl, ?_⟩) ?_ ?_
      rotate_left
      · intro w'
        go_simp
        with_reducible rfl
      rotate_left
      · simp only [Act.put, List.setIfInBounds_toArray, List.set_cons_zero, List.set_cons_succ, i64_w, i32_w, xu32_w, xu8_w]
        rfl
      refine take_ (i := 18) (N := some 81) (v := ?_) (a' := ?_) #[true, true, true, true, true, true, true, true, true, true, true, true, true, true, true, true, true, true, true, false, false, false, false, false, false, false, false, false] rfl rfl (take_ofW HT_.out HW_.out (by kernel_rfl)) (fun _ _ _ h => h) (Or.inl ⟨by rfl, ?_⟩) hHeld ?_ ?_
      rotate_left
      · rintro w' ⟨s0, s1, s2, s3⟩
        go_simp
        with_reducible rfl
      rotate_left
      · simp only [Act.put, List.setIfInBounds_toArray, List.set_cons_zero, List.set_cons_succ, i64_w, i32_w, xu32_w, xu8_w]
        rfl
      refine one_ (i := 19) (N := some 82) #[true, true, true, true, true, true, true, true, true, true, true, true, true, true, true, true, true, true, true, true, false, false, false, false, false, false, false, false] rfl rfl (one_of HT_.out (by kernel_rfl)) (by decide) (fun K hK => ?_)
      refine goes_ Try.func15 (by kernel_rfl) rfl #[.slice Ax f.b.length cx, .slice A1 f.b.length c1] (by rfl) rfl rfl (by (try simp only [List.map_toArray, List.map_cons, List.map_nil]); first | done | rfl) ?_
      with_reducible refine (manometerref01_Equal.calls (f.b.length + 1) Ax cx f.b A1 c1 f.b true _ (Kd.R_reads' (Kd.R_below HRx.out (below_drew (Below.refl _ _)))).2.2 (Kd.R_reads' HRx.out).2.1 (Kd.C_drew HXA.out) HX.out.1 (by rw [equal_f _ _ (by have := HFB.out; omega)]; simp)).mono ?_
      rintro e wE ⟨rfl, hdr⟩
      refine ⟨_, rfl, ?_⟩
      have hb1 := drawn_below hdr
      have hb : Below wA.heap.size wA wE := ⟨hb1.os, hb1.tape, hb1.output, hb1.size, hb1.block⟩
      have HRE := Aside0.mk (Kd.R_below HRx.out hb)
      have HBE := Aside0.mk (below_step HBX.out hb)
      refine hK.out _ _ ⟨pw_cell_below hb y0, pw_cell_below hb z0, pw_cell_below hb z1, pw_cell_below hb z2⟩ (fun hHeld => ?_)
      clear hK K hb hb1 hdr
      refine norm_ (a' := ?_) ?_ ?_
      rotate_left
      · show Act.put _ (some 82) _ = _
        simp only [Act.put, List.setIfInBounds_toArray, List.set_cons_zero, List.set_cons_succ, i64_w, i32_w, xu32_w, xu8_w]
        rfl
      refine pure_ (i := 20) (N := some 83) (v := ?_) (a' := ?_) #[true, true, true, true, true, true, true, true, true, true, true, true, true, true, true, true, true, true, true, true, true, false, false, false, false, false, false, false] rfl rfl (any_of HT_.out (by kernel_rfl)) (fun _ _ _ h => h) (Or.inl ⟨by rfl, ?_⟩) ?_ ?_
      rotate_left
      · intro w'
        go_simp
        with_reducible rfl
      rotate_left
      · simp only [Act.put, List.setIfInBounds_toArray, List.set_cons_zero, List.set_cons_succ, i64_w, i32_w, xu32_w, xu8_w]
        rfl
      refine pure_ (i := 21) (N := some 84) (v := ?_) (a' := ?_) #[true, true, true, true, true, true, true, true, true, true, true, true, true, true, true, true, true, true, true, true, true, true, false, false, false, false, false, false] rfl rfl (any_of HT_.out (by kernel_rfl)) (fun _ _ _ h => h) (Or.inl ⟨by rfl, ?_⟩) ?_ ?_
      rotate_left
      · intro w'
        go_simp
        with_reducible rfl
      rotate_left
      · simp only [Act.put, List.setIfInBounds_toArray, List.set_cons_zero, List.set_cons_succ, i64_w, i32_w, xu32_w, xu8_w]
        rfl
      refine pure_ (i := 22) (N := some 85) (v := ?_) (a' := ?_) #[true, true, true, true, true, true, true, true, true, true, true, true, true, true, true, true, true, true, true, true, true, true, true, false, false, false, false, false] rfl rfl (any_of HT_.out (by kernel_rfl)) (fun _ _ _ h => h) (Or.inl ⟨by rfl, ?_⟩) ?_ ?_
      rotate_left
      · intro w'
        go_simp
        with_reducible rfl
      rotate_left
      · simp only [Act.put, List.setIfInBounds_toArray, List.set_cons_zero, List.set_cons_succ, i64_w, i32_w, xu32_w, xu8_w]
        rfl
      refine pure_ (i := 23) (N := some 86) (v := ?_) (a' := ?_) #[true, true, true, true, true, true, true, true, true, true, true, true, true, true, true, true, true, true, true, true, true, true, true, true, false, false, false, false] rfl rfl (any_of HT_.out (by kernel_rfl)) (fun _ _ _ h => h) (Or.inl ⟨by rfl, ?_⟩) ?_ ?_
      rotate_left
      · intro w'
        go_simp
        with_reducible rfl
      rotate_left
      · simp only [Act.put, List.setIfInBounds_toArray, List.set_cons_zero, List.set_cons_succ, i64_w, i32_w, xu32_w, xu8_w]
        rfl
      refine pure_ (i := 24) (N := some 87) (v := ?_) (a' := ?_) #[true, true, true, true, true, true, true, true, true, true, true, true, true, true, true, true, true, true, true, true, true, true, true, true, true, false, false, false] rfl rfl (any_of HT_.out (by kernel_rfl)) (fun _ _ _ h => h) (Or.inl ⟨by rfl, ?_⟩) ?_ ?_
      rotate_left
      · intro w'
        go_simp
        with_reducible rfl
      rotate_left
      · simp only [Act.put, List.setIfInBounds_toArray, List.set_cons_zero, List.set_cons_succ, i64_w, i32_w, xu32_w, xu8_w]
        rfl
      refine take_ (i := 25) (N := some 88) (v := ?_) (a' := ?_) #[true, true, true, true, true, true, true, true, true, true, true, true, true, true, true, true, true, true, true, true, true, true, true, true, true, true, false, false] rfl rfl (take_ofW HT_.out HW_.out (by kernel_rfl)) (fun _ _ _ h => h) (Or.inl ⟨by rfl, ?_⟩) hHeld ?_ ?_
      rotate_left
      · rintro w' ⟨s0, s1, s2, s3⟩
        go_simp
        with_reducible rfl
      rotate_left
      · simp only [Act.put, List.setIfInBounds_toArray, List.set_cons_zero, List.set_cons_succ, i64_w, i32_w, xu32_w, xu8_w]
        rfl
      refine pure_ (i := 26) (N := some 89) (v := ?_) (a' := ?_) #[true, true, true, true, true, true, true, true, true, true, true, true, true, true, true, true, true, true, true, true, true, true, true, true, true, true, true, false] rfl rfl (any_of HT_.out (by kernel_rfl)) (fun _ _ _ h => h) (Or.inl ⟨by rfl, ?_⟩) ?_ ?_
      rotate_left
      · intro w'
        go_simp
        with_reducible rfl
      rotate_left
      · simp only [Act.put, List.setIfInBounds_toArray, List.set_cons_zero, List.set_cons_succ, i64_w, i32_w, xu32_w, xu8_w]
        rfl
      refine pure_ (i := 27) (N := some 90) (v := ?_) (a' := ?_) #[true, true, true, true, true, true, true, true, true, true, true, true, true, true, true, true, true, true, true, true, true, true, true, true, true, true, true, true] rfl rfl (any_of HT_.out (by kernel_rfl)) (fun _ _ _ h => h) (Or.inl ⟨by rfl, ?_⟩) ?_ ?_
      rotate_left
      · intro w'
        go_simp
        with_reducible rfl
      rotate_left
      · simp only [Act.put, List.setIfInBounds_toArray, List.set_cons_zero, List.set_cons_succ, i64_w, i32_w, xu32_w, xu8_w]
        rfl
      refine done_ (done_of HT_.out (by kernel_rfl)) ?_
      clear hHeld HT_ HW_
      go_wp2_with (fail)
      have HXR : Aside0 (XRow w2 (.slice Ax f.b.length cx) f.b.length wE) := ⟨⟨f.b, rfl, Kd.R_lower (Kd.R_mono (Kd.R_bound HRE.out) (ok' := fun k => w2.heap.size ≤ k) (fun k hk => Nat.le_trans HZA.out hk.2.1)) HZA.out⟩, HBE.out⟩
      have hcx := (Kd.R_reads' HRx.out).2.1
      have hbq := HFB.out
      clear HE HBK HX HXA HRE HRx HBX HBE HBW HBA HKA HFB y0 z0 z1 z2 x0 x1 x2 hca
      generalize f.b.length = q at *
      have HQ := Aside0.mk (And.intro hbq hcx)
      clear hbq
      go_loopg [93] (q + 1) (fun kq v93 wx => ∃ (j : Nat), v93 = .int .i64 j ∧ Aside0 (kq + j = q + 1 ∧ j ≤ q) ∧ Aside0 (XRow w2 (.slice Ax q cx) q wx))
      case atStart => exact ⟨0, rfl, ⟨by omega⟩, HXR⟩
      case round =>
        obtain ⟨j, rfl, HJ, HI⟩ := hrel
        clear HXR
        cases gk with
        | zero => have := HJ.out; omega
        | succ k2 =>
        by_cases hlt2 : j < q
        · obtain ⟨gx, hA2, ⟨z, q1⟩, q2, _⟩ := HI.out.put hlt2 0
          have hp := fun y => (HI.out.put hlt2 y)
          have HP := Aside0.mk hp
          clear hp
          subst hA2
          have hj1 : (j : Int) < (q : Int) := by omega
          go_wp2_with (fail)
          go_roundg k2
          case measure => omega
          case rel => exact ⟨j + 1, by (rw [wrap_id (n := (j : Int) + 1) (by omega) (by have := HQ.out.1; omega)]; first | rfl | (simp; done)), ⟨by have := HJ.out; omega⟩, ⟨by obtain ⟨g', hg', _, _, hX⟩ := HP.out _; injection hg' with hg'; injection hg' with hg'; subst hg'; exact hX⟩⟩
        · have hj : j = q := by have := HJ.out; omega
          subst hj
          go_wp2_with (fail)
          go_roundg k1
          case measure => omega
          case rel => exact ⟨i + 1, by (rw [wrap_id (n := (i : Int) + 1) (by omega) (by have := HFW.out.1; omega)]; first | rfl | (simp; done)), ⟨by have := HK.out; omega⟩, ⟨HI.out.2⟩⟩
    · have hi : i = n := by have := HK.out; omega
      subst hi
      go_wp2_with (fail)
      go_ret
      exact ⟨rfl, below_step HB2.out HB.out⟩
end
end Go.Proofs.Ytkdbojaoaldmbaa.G

/- A disk beside the document's: what stands when one of them acts. -/
namespace Go.Proofs.Ytkdbojaoaldmbaa.G
open Go.RowKit Go.Proofs.Ytkdbojaoaldmbaa.Q Go.Proofs.YtkdbojaoaldmbaaW.PrintWords Go.Proofs.YtkdbojaoaldmbaaW.PrintLast Go.Proofs.YtkdbojaoaldmbaaW.PrintMore
set_option linter.unusedVariables false
set_option linter.unusedSimpArgs false
section
variable {w w' w1 w2 : World} {D D2 M B g B2 : Nat} {room : Int} {dat : Nat → Prop} {fs : ByteArray → Option Raw} {st st' sd sr : St}
/-- The document's disk, when a disk acts. -/
theorem RefG.keep (hr : RefG w g B2 room sr) (h : DiskG w D M room B dat fs sd) (hc : Chg (Mine D M fs) w w') : RefG w' g B2 room sr := by
  obtain ⟨v, h1, h2⟩ := hr.ex
  refine ⟨⟨v, (hc.block g (heap_lt h1) (fun hm => by rcases h.mine_cells hm h1 with e | e <;> cases e)).trans h1, row_keep h h2 (fun q hq => ?_) hc⟩, hr.base⟩
  have : q = 71 ∨ q = 5 := by simpa [k71, Kd.iso, Kd.pair, Kd.slice, Kd.int, Kd.string, Kd.scalar] using hq
  rcases this with e | e <;> rw [e] <;> decide
/-- A disk, when the document's acts. -/
theorem DiskG.keep (h : DiskG w D M room B dat fs sd) (hc : Chg (RefB w B2) w w') : DiskG w' D M room B dat fs sd :=
  h.move hc.size (fun k hk hm => hc.block k hk (fun hs => by
    obtain ⟨_, cs, q, fz, hb, hq⟩ := hs
    rcases hm with hm | hm
    · rcases h.mine_cells hm hb with e | e <;> rcases hq with e2 | e2 <;> rw [e] at e2 <;> exact absurd e2 (by decide)
    · obtain ⟨cs', fz', hb'⟩ := h.files.rows5 k hm
      rw [hb] at hb'
      injection hb' with hb'; injection hb' with _ hb'
      rcases hq with e2 | e2 <;> rw [hb'] at e2 <;> exact absurd e2 (by decide)))
/-- A block of another type, when a disk acts. -/
theorem kept_disk (h : DiskG w D M room B dat fs sd) (hc : Chg (Mine D M fs) w w') {k : Nat} {cs : Array Value} {fz : Nat × Nat} (hk : w.heap[k]? = some (.cells cs 31 fz)) : w'.heap[k]? = some (.cells cs 31 fz) :=
  (hc.block k (heap_lt hk) (fun hm => by rcases h.mine_cells hm hk with e | e <;> cases e)).trans hk
theorem kept_ref (hc : Chg (RefB w B2) w w') {k : Nat} {cs : Array Value} {fz : Nat × Nat} (hk : w.heap[k]? = some (.cells cs 31 fz)) : w'.heap[k]? = some (.cells cs 31 fz) :=
  (hc.block k (heap_lt hk) (fun hs => by
    obtain ⟨_, cs', q, fz', hb, hq⟩ := hs
    rw [hk] at hb
    injection hb with hb; injection hb with _ hb
    rcases hq with e2 | e2 <;> rw [← hb] at e2 <;> exact absurd e2 (by decide))).trans hk
/-- What the law's own blocks keep. -/
def Kept (w w' : World) : Prop := ∀ (k : Nat) (cs : Array Value) (fz : Nat × Nat), w.heap[k]? = some (.cells cs 31 fz) → w'.heap[k]? = some (.cells cs 31 fz)
/-- A disk and the document's, beside each other. -/
structure Two (w wr : World) (D g : Nat) (room : Int) (sd sr : St) : Prop where
  out : ∃ (M B B2 : Nat) (dat : Nat → Prop) (fs : ByteArray → Option Raw), DiskG wr D M room B dat fs sd ∧ RefG wr g B2 room sr ∧ w.heap.size ≤ B ∧ w.heap.size ≤ B2 ∧ Below w.heap.size w wr
theorem Two.low {wr : World} (h : Two w wr D g room sd sr) : Below w.heap.size w wr := by
  obtain ⟨M, B, B2, dat, fs, h1, h2, h3, h4, h5⟩ := h.out
  exact h5
theorem Two.below {wr wr' : World} (h : Two w wr D g room sd sr) (hb : Below wr.heap.size wr wr') : Two w wr' D g room sd sr := by
  obtain ⟨M, B, B2, dat, fs, h1, h2, h3, h4, h5⟩ := h.out
  exact ⟨M, B, B2, dat, fs, h1.below hb, h2.below hb, h3, h4, below_step h5 hb⟩
/-- What the acts ask of the files. -/
structure Fine (room : Int) (st : St) : Prop where
  sorted : Sorted st
  few : st.length ≤ 64
  fit : (total st : Int) ≤ room
  room1 : room ≤ 16777216
  last : ∀ f ∈ st, 0 ≤ f.l ∧ f.l ≤ (f.b.length : Int)
theorem DiskG.fine (h : DiskG w D M room B dat fs st) : Fine room st := ⟨h.files.sorted, h.few, h.fit, h.room1, fun f hf => by
  have hl := look_of_mem h.files.sorted hf
  rcases h.files.at_ f.n with ⟨_, h2⟩ | ⟨r, f', h1, h2, hF⟩
  · rw [h2] at hl; cases hl
  · rw [h2] at hl; cases hl
    exact ⟨hF.low, hF.high⟩⟩
theorem Two.fine {wr : World} (h : Two w wr D g room sd sr) : Fine room sd := by
  obtain ⟨M, B, B2, dat, fs, h1, h2, h3, h4, h5⟩ := h.out
  exact h1.fine
theorem Chg.low {wr : World} (h : DiskG wr D M room B dat fs sd) (hB : w.heap.size ≤ B) (hb : Below w.heap.size w wr) (hc : Chg (Mine D M fs) wr w') : Below w.heap.size w w' :=
  hb.trans ((Chg.below_mine h hc).mono hB)
/-- An act of the disk. -/
theorem Two.does {wr : World} (h : Two w wr D g room sd sr) (d : Int) (n t : ByteArray) (A : Option Addr) (c : Nat) (x : List Int) (k : Int) (hc : x.length ≤ c) (hx : (Kd.int .u8).C wr A x.length x) (ho : OkOp n t x) :
    Calls Try.prog 12 #[.pointer (some ⟨D, 0, none⟩), .agg #[.int .i64 d, .string n, .string t, .slice A x.length c, .int .i64 k]] wr fun e w' => e = .returned (.int .i64 (opE room sd d n t x k)) ∧ Two w w' D g room (opS room sd d n t x k) sr ∧ Kept wr w' := by
  obtain ⟨M, B, B2, dat, fs, h1, h2, h3, h4, h5⟩ := h.out
  refine (does_calls h1 d n t A c x k hc hx ho.nm ho.tt ho.bl).mono ?_
  rintro e w' ⟨rfl, hL⟩
  obtain ⟨dat1, fs1, hD, hW⟩ := hL.split
  exact ⟨rfl, ⟨M, B, B2, dat1, fs1, hD, h2.keep h1 hW.chg, h3, h4, Chg.low h1 h3 h5 hW.chg⟩, fun k cs fz hk => kept_disk h1 hW.chg hk⟩
/-- An act of the document's. -/
theorem Two.want {wr : World} (h : Two w wr D g room sd sr) (hf : Fine room sr) (d : Int) (n t : ByteArray) (A : Option Addr) (c : Nat) (x : List Int) (k : Int) (hc : x.length ≤ c) (hx : (Kd.int .u8).C wr A x.length x) (ho : OkOp n t x) :
    Calls Try.prog 23 #[.pointer (some ⟨g, 0, none⟩), .agg #[.int .i64 d, .string n, .string t, .slice A x.length c, .int .i64 k]] wr fun e w' => e = .returned (.int .i64 (opE room sr d n t x k)) ∧ Two w w' D g room sd (opS room sr d n t x k) ∧ Kept wr w' := by
  obtain ⟨M, B, B2, dat, fs, h1, h2, h3, h4, h5⟩ := h.out
  have hB : B2 ≤ wr.heap.size := by
    obtain ⟨v, e1, e2⟩ := h2.ex
    exact Nat.le_trans h2.base (Nat.le_of_lt (heap_lt e1))
  refine (want_calls h2 hB hf.sorted hf.few hf.fit hf.room1 hf.last d n t A c x k hc hx ho.nm ho.tt ho.bl).mono ?_
  rintro e w' ⟨rfl, hR, hC⟩
  refine ⟨rfl, ⟨M, B, B2, dat, fs, h1.keep hC, hR, h3, h4, ?_⟩, fun k cs fz hk => kept_ref hC hk⟩
  exact h5.trans ⟨hC.os, hC.tape, hC.output, hC.size, fun k hk => hC.block k (Nat.lt_of_lt_of_le hk h5.size) (fun hs => by have := hs.1; omega)⟩
theorem Two.same {wr : World} (h : Two w wr D g room st st) : Calls Try.prog 24 #[.pointer (some ⟨D, 0, none⟩), .pointer (some ⟨g, 0, none⟩)] wr fun e w' => e = .returned (.bool true) ∧ Below wr.heap.size wr w' := by
  obtain ⟨M, B, B2, dat, fs, h1, h2, h3, h4, h5⟩ := h.out
  exact same_calls h1 h2
theorem Two.read {wr : World} (h : Two w wr D g room sd sr) (s : ByteArray) : Calls Try.prog 13 #[.pointer (some ⟨D, 0, none⟩), .string s] wr fun e w' => ∃ v, e = .returned (.tuple #[v, .int .i64 (readE sd s)]) ∧ Below wr.heap.size wr w' := by
  obtain ⟨M, B, B2, dat, fs, h1, h2, h3, h4, h5⟩ := h.out
  exact (read_calls h1 s).mono fun e w' ⟨v, q1, _, q3⟩ => ⟨v, q1, q3⟩
theorem Two.rread {wr : World} (h : Two w wr D g room sd sr) (hf : Fine room sr) (s : ByteArray) : Calls Try.prog 25 #[.pointer (some ⟨g, 0, none⟩), .string s] wr fun e w' => ∃ v, e = .returned (.tuple #[v, .int .i64 (readE sr s)]) ∧ Below wr.heap.size wr w' := by
  obtain ⟨M, B, B2, dat, fs, h1, h2, h3, h4, h5⟩ := h.out
  exact (rread_calls h2 (by have := hf.few; omega) (by have := hf.fit; have := hf.room1; omega) s).mono fun e w' ⟨v, q1, _, q3⟩ => ⟨v, q1, q3⟩
theorem Two.lasts {wr : World} (h : Two w wr D g room sd sr) (s : ByteArray) : Calls Try.prog 14 #[.pointer (some ⟨D, 0, none⟩), .string s] wr fun e w' => e = .returned (.tuple #[.int .i64 (lastsR sd s).1, .int .i64 (lastsR sd s).2]) ∧ w' = wr := by
  obtain ⟨M, B, B2, dat, fs, h1, h2, h3, h4, h5⟩ := h.out
  exact lasts_calls h1 s
theorem Two.rlasts {wr : World} (h : Two w wr D g room sd sr) (hf : Fine room sr) (s : ByteArray) : Calls Try.prog 26 #[.pointer (some ⟨g, 0, none⟩), .string s] wr fun e w' => e = .returned (.tuple #[.int .i64 (lastsR sr s).1, .int .i64 (lastsR sr s).2]) ∧ Below wr.heap.size wr w' := by
  obtain ⟨M, B, B2, dat, fs, h1, h2, h3, h4, h5⟩ := h.out
  exact rlasts_calls h2 (by have := hf.few; omega) s
/-- A copy was made; the old disk goes on. -/
structure Copied (w wr : World) (D D2 g : Nat) (room : Int) (st : St) : Prop where
  out : ∃ (w5 : World) (M B : Nat) (dat : Nat → Prop) (fs : ByteArray → Option Raw) (M2 B2 : Nat) (dat2 : Nat → Prop) (fs2 : ByteArray → Option Raw) (B3 : Nat) (so : St), DiskG w5 D M room B dat fs st ∧ Left w5 D M room B dat fs so wr ∧ DiskG w5 D2 M2 room B2 dat2 fs2 st ∧ (∀ k, Mine D M fs k → k < B2) ∧ RefG wr g B3 room st ∧ w.heap.size ≤ B ∧ w.heap.size ≤ B2 ∧ w.heap.size ≤ B3 ∧ Below w.heap.size w w5
theorem Two.clone {wr : World} (h : Two w wr D g room st st) : Calls Try.prog 16 #[.pointer (some ⟨D, 0, none⟩)] wr fun e w' => ∃ D2, e = .returned (.pointer (some ⟨D2, 0, none⟩)) ∧ Copied w w' D D2 g room st ∧ Below wr.heap.size wr w' := by
  obtain ⟨M, B, B2, dat, fs, h1, h2, h3, h4, h5⟩ := h.out
  refine (clone_calls h1).mono ?_
  rintro e w' ⟨D2, M2, dat2, fs2, rfl, hD2, hb⟩
  exact ⟨D2, rfl, ⟨w', M, B, dat, fs, M2, wr.heap.size, dat2, fs2, B2, st, h1.below hb, (Went.refl _ _ _ _ _).left (h1.below hb), hD2, fun k hk => (h1.mine_ge hk).2, h2.below hb, h3, h5.size, h4, below_step h5 hb⟩, hb⟩
theorem Copied.old {wr : World} (h : Copied w wr D D2 g room st) : ∃ (M B : Nat) (dat : Nat → Prop) (fs : ByteArray → Option Raw) (so : St), DiskG wr D M room B dat fs so ∧ Below w.heap.size w wr ∧ ∀ (so' : St) (w' : World), Left wr D M room B dat fs so' w' → Copied w w' D D2 g room st ∧ Kept wr w' := by
  obtain ⟨w5, M, B, dat, fs, M2, B2, dat2, fs2, B3, so, h1, h2, h3, h4, h5, h6, h7, h8, h9⟩ := h.out
  obtain ⟨dat1, fs1, hD, hW⟩ := h2.split
  refine ⟨M, B, dat1, fs1, so, hD, Chg.low h1 h6 h9 hW.chg, fun so' w' hL => ?_⟩
  obtain ⟨dat3, fs3, hD3, hW3⟩ := hL.split
  exact ⟨⟨w5, M, B, dat, fs, M2, B2, dat2, fs2, B3, so', h1, (hW.trans hW3).left hD3, h3, h4, h5.keep hD hW3.chg, h6, h7, h8, h9⟩, fun k cs fz hk => kept_disk hD hW3.chg hk⟩
theorem Copied.below {wr wr' : World} (h : Copied w wr D D2 g room st) (hb : Below wr.heap.size wr wr') : Copied w wr' D D2 g room st := by
  obtain ⟨M, B, dat, fs, so, h1, h2, h3⟩ := h.old
  exact (h3 so wr' ((Went.below hb).left (h1.below hb))).1
theorem Copied.two {wr : World} (h : Copied w wr D D2 g room st) : Two w wr D2 g room st st := by
  obtain ⟨w5, M, B, dat, fs, M2, B2, dat2, fs2, B3, so, h1, h2, h3, h4, h5, h6, h7, h8, h9⟩ := h.out
  obtain ⟨dat1, fs1, hD, hW⟩ := h2.split
  exact ⟨M2, B2, B3, _, fs2, h3.beside hW.chg h4, h5, h7, h8, Chg.low h1 h6 h9 hW.chg⟩
theorem Copied.append {wr : World} (h : Copied w wr D D2 g room st) (s : ByteArray) (hsz : s.size ≤ 9223372036854775807) (A : Option Addr) (c : Nat) (x : List Int) (hx : (Kd.int .u8).C wr A x.length x) (hA : ∀ ad, A = some ad → ∃ cs fz, wr.heap[ad.block]? = some (.cells cs 5 fz)) :
    Calls Try.prog 20 #[.pointer (some ⟨D, 0, none⟩), .string s, .slice A x.length c] wr fun e w' => ∃ z : Int, e = .returned (.int .i64 z) ∧ Copied w w' D D2 g room st ∧ Kept wr w' := by
  obtain ⟨M, B, dat, fs, so, h1, h2, h3⟩ := h.old
  exact (append_calls h1 s hsz A c x hx hA).mono fun e w' ⟨q1, q2⟩ => ⟨_, q1, h3 _ _ q2⟩
theorem Copied.sync {wr : World} (h : Copied w wr D D2 g room st) (s : ByteArray) :
    Calls Try.prog 21 #[.pointer (some ⟨D, 0, none⟩), .string s] wr fun e w' => ∃ z : Int, e = .returned (.int .i64 z) ∧ Copied w w' D D2 g room st ∧ Kept wr w' := by
  obtain ⟨M, B, dat, fs, so, h1, h2, h3⟩ := h.old
  exact (sync_calls h1 s).mono fun e w' ⟨q1, q2⟩ => ⟨_, q1, h3 _ _ q2⟩
theorem Copied.remove {wr : World} (h : Copied w wr D D2 g room st) (s : ByteArray) :
    Calls Try.prog 22 #[.pointer (some ⟨D, 0, none⟩), .string s] wr fun e w' => ∃ z : Int, e = .returned (.int .i64 z) ∧ Copied w w' D D2 g room st ∧ Kept wr w' := by
  obtain ⟨M, B, dat, fs, so, h1, h2, h3⟩ := h.old
  exact (remove_calls h1 s).mono fun e w' ⟨q1, q2⟩ => ⟨_, q1, h3 _ _ q2⟩
end
end Go.Proofs.Ytkdbojaoaldmbaa.G
