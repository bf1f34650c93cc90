import Derived.Test.YtfjhommpgbppjaaQ0
import Derived.Lib.Hide
namespace Go.Proofs.Ytfjhommpgbppjaa.Q
open Go.RowKit Go.Proofs.YtfjhommpgbppjaaW.PrintWords Go.Proofs.YtfjhommpgbppjaaW.PrintLast Go.Proofs.YtfjhommpgbppjaaW.PrintMore
set_option linter.unusedVariables false
set_option linter.unusedSimpArgs false

/-- What upto asks of a point. -/
def uptoP (seq : Int) (p : S25) : Bool := decide (p.f2 ≤ seq)
set_option maxHeartbeats 1000000 in
theorem upto1_calls (p : S25) (seq : Int) (g_seq : Nat) (w : World) (h_seq : w.cell? ⟨g_seq, 0, none⟩ = some (.int .u64 seq)) :
    Calls Try.prog 40 #[.agg #[.int .i64 p.f0, .int .u64 p.f1, .int .u64 p.f2], .pointer (some ⟨g_seq, 0, none⟩)] w fun e w' => e = .returned (.bool (uptoP seq p)) ∧ Below w.heap.size w w' := by
  have hu25 := Try.underlying25
  have HB := Aside0.mk (Below.refl w.heap.size w)
  have hlt_seq := World.block_lt_of_cell? w _ h_seq
  go_enter Try.func40, Try.ntmps40
  go_wp2
  go_ret
  exact ⟨rfl, by repeat (first | exact HB.out | apply below_alloc)⟩

set_option maxHeartbeats 4000000 in
theorem uptosome_calls (A0 : Option Addr) (c0 : Nat) (l0 : List S25) (seq : Int) (g_seq : Nat) (w : World) (hr0 : Kd.C k25 w A0 l0.length l0) (hlen : l0.length < 5864062014805) (h_seq : w.cell? ⟨g_seq, 0, none⟩ = some (.int .u64 seq)) :
    Calls Try.prog 38 #[.slice A0 l0.length c0, .func (.func 40) #[] #[.pointer (some ⟨g_seq, 0, none⟩)]] w fun e w' => ∃ v, e = .returned v ∧ Kd.R k25 25 w' w.heap.size (fun _ => True) v (l0.filter (uptoP seq)) ∧ Below w.heap.size w w' := by
  have hu25 := Try.underlying25
  have HR0 := Aside0.mk hr0
  have HG_seq := Aside0.mk h_seq
  clear hr0 h_seq
  have HB := Aside0.mk (Below.refl w.heap.size w)
  obtain ⟨Q, hQ⟩ : ∃ Q, Q = uptoP seq := ⟨_, rfl⟩
  have HQ := Aside0.mk hQ
  clear hQ
  go_enter Try.func38, Try.ntmps38
  go_wp2
  go_loopw [5, 10] (fun v5 v10 w' => ∃ n : Nat, n ≤ l0.length ∧ v10 = .int .i64 n ∧ Aside0 (Kd.R k25 25 w' w.heap.size (fun _ => True) v5 ((l0.take n).filter Q)) ∧ Aside0 (Below w.heap.size w w')) (fun _ v10 _ => l0.length - (intOf v10).toNat)
  case atStart => exact ⟨0, Nat.zero_le _, rfl, ⟨Kd.R_nil _ _ _ _ _⟩, HB⟩
  case round =>
    obtain ⟨n, hn, rfl, HO, HB1⟩ := hrel
    by_cases hlt : n < l0.length
    · obtain ⟨ad, e, h0, h1, h2⟩ := at_T25 HR0.out (n : Int) (by omega) (by omega)
      cases e
      rw [Int.toNat_natCast] at h0 h1 h2
      replace h0 := (HB1.out.cell (World.block_lt_of_cell? w _ h0)).trans h0
      replace h1 := (HB1.out.cell (World.block_lt_of_cell? w _ h1)).trans h1
      replace h2 := (HB1.out.cell (World.block_lt_of_cell? w _ h2)).trans h2
      have HGr_seq := Aside0.mk ((HB1.out.cell (World.block_lt_of_cell? w _ HG_seq.out)).trans HG_seq.out)
      have e0 : rd_T25 l0 (n : Int) = l0[n] := by show l0.getD n z25 = _; simp [List.getD_eq_getElem?_getD, hlt]
      rw [e0] at h0 h1 h2
      have ht : l0.take (n + 1) = l0.take n ++ [l0[n]] := List.take_succ_eq_append_getElem hlt
      have HT := Aside0.mk ht
      clear ht e0
      have hfl : ((l0.take n).filter Q).length ≤ n := Nat.le_trans (List.length_filter_le _ _) (List.length_take_le _ _)
      obtain ⟨ys, hys⟩ : ∃ ys, ys = (l0.take n).filter Q := ⟨_, rfl⟩
      rw [← hys] at HO hfl
      have HYS := Aside0.mk hys
      clear hys
      obtain ⟨p, hp⟩ : ∃ p, p = l0[n] := ⟨_, rfl⟩
      rw [← hp] at h0 h1 h2 HT
      clear hp
      go_wp2_with (first
        | ((with_reducible refine gate_dst (N := 7) rfl ?_); refine box_event ?hg (N := 7) ?hd (cs := #[.int .i64 0, .int .u64 0, .int .u64 0]) (t := 25) ?hr ?_; (case hd => rfl); (case hg => rfl); (case hr => first | (go_simp; done) | (go_simp; rfl)); intro gb hg w6 hbox hb; have HB2 := Aside0.mk (below_step HB1.out hb); have GE := Aside0.mk (show w.heap.size ≤ gb by rw [hg]; exact below_size HB1.out); have BK := Aside0.mk hbox; have HO2 := Aside0.mk (Kd.R_below (Kd.R_elderB HO.out gb (Nat.le_of_eq hg.symm)) hb); clear hb hbox hg; have hz0 : w6.cell? ⟨gb, 0, none⟩ = some (.int .i64 0) := (blk_cell BK.out 0).trans rfl; have hz1 : w6.cell? ⟨gb, 1, none⟩ = some (.int .u64 0) := (blk_cell BK.out 1).trans rfl; have hz2 : w6.cell? ⟨gb, 2, none⟩ = some (.int .u64 0) := (blk_cell BK.out 2).trans rfl; have hfz0 := blk_frozen BK.out 0; have hfz1 := blk_frozen BK.out 1; have hfz2 := blk_frozen BK.out 2)
        | (go_at_call 40; refine (upto1_calls p seq g_seq _ ?sd0).mono ?_; (case sd0 => exact ((show Below w.heap.size w _ from by repeat (first | exact HB2.out | refine below_set ?_ GE.out)).cell (World.block_lt_of_cell? w _ HG_seq.out)).trans HG_seq.out); rintro e w7 ⟨rfl, hb7⟩; have BK7 := Aside0.mk (blk_below (g := gb) (o := .cells #[.int .i64 p.f0, .int .u64 p.f1, .int .u64 p.f2] 25 (0, 0)) (by simpa using blk_set (blk_set (blk_set BK.out 0 (.int .i64 p.f0)) 1 (.int .u64 p.f1)) 2 (.int .u64 p.f2)) hb7); have HO7 := Aside0.mk (Kd.R_below (Kd.R_far (p := ⟨gb, 2, none⟩) (Kd.R_far (p := ⟨gb, 1, none⟩) (Kd.R_far (p := ⟨gb, 0, none⟩) HO2.out (fun _ hk => hk.2) (.int .i64 p.f0)) (fun _ hk => hk.2) (.int .u64 p.f1)) (fun _ hk => hk.2) (.int .u64 p.f2)) hb7); have HB7 := Aside0.mk (below_step (show Below w.heap.size w _ from by repeat (first | exact HB2.out | refine below_set ?_ GE.out)) hb7); clear hb7; have hy0 : w7.cell? ⟨gb, 0, none⟩ = some (.int .i64 p.f0) := (blk_cell BK7.out 0).trans rfl; have hy1 : w7.cell? ⟨gb, 1, none⟩ = some (.int .u64 p.f1) := (blk_cell BK7.out 1).trans rfl; have hy2 : w7.cell? ⟨gb, 2, none⟩ = some (.int .u64 p.f2) := (blk_cell BK7.out 2).trans rfl)
        | ((with_reducible refine gate_builtin (b := .append) (xs := #[.tmp 17, .tmp 19]) rfl ?_); at_builtin; refine Kd.R_append k25 (w0 := w) w.heap.size rfl (.tmp 17) (.tmp 19) 22 25 (.agg #[(.int .i64 0), (.int .u64 0), (.int .u64 0)]) 24 rfl Try.underlying22 info25 rfl (by decide) (by omega) u5 ys p [.int .i64 p.f0, .int .u64 p.f1, .int .u64 p.f2] (fun _ => True) (fun _ => False) rfl (by first | (go_simp; done) | (go_simp; rfl)) ?aP (fun _ hk => hk.elim) ?aF ?aO ?aB ?aS ?aL ?_; (case aP => exact k25_mkM _ _ _ p); (case aB => exact HB7.out); (case aF => exact fun _ _ => trivial); (case aO => exact Kd.R_mono HO7.out (fun _ _ => trivial)); (case aS => exact below_size HB7.out); (case aL => omega); intro v8 w8 ho hb hg hat; have HO8 := Aside0.mk ho; have HB8 := Aside0.mk hb; clear ho hb hg hat))
      · have hq : uptoP seq p = true := by assumption
        go_roundw
        case rel => exact ⟨n + 1, by omega, by go_num, ⟨by rw [HT.out, List.filter_append, ← HYS.out, HQ.out]; simp only [List.filter_cons, hq, List.filter_nil, if_true]; exact HO8.out⟩, HB8⟩
        case measure => simp [intOf]; omega
      · have hq : uptoP seq p = false := by assumption
        go_roundw
        case rel => exact ⟨n + 1, by omega, by go_num, ⟨by rw [HT.out, List.filter_append, ← HYS.out, HQ.out]; simp only [List.filter_cons, hq, List.filter_nil, Bool.false_eq_true, if_false, List.append_nil]; exact Kd.R_mono HO7.out (fun _ _ => trivial)⟩, HB7⟩
        case measure => simp [intOf]; omega
    · obtain rfl : n = l0.length := by omega
      go_wp2
      go_ret
      exact ⟨_, rfl, by rw [← HQ.out]; have := HO.out; rw [List.take_length] at this; exact this, HB1.out⟩

/-- points_Upto, as a list's filter. -/
def points_Upto.f (l0 : List S25) (a1 : Int) : Option (List S25) := if l0.length < 5864062014805 then some (l0.filter (uptoP a1)) else none
set_option maxHeartbeats 1000000 in
theorem points_Upto.calls (A0 : Option Addr) (c0 : Nat) (l0 : List S25) (a1 : Int) (r : List S25) (w : World) (hr0 : Kd.C k25 w A0 l0.length l0) (hc0 : l0.length ≤ c0) (h : points_Upto.f l0 a1 = some r) :
    Calls Try.prog 28 #[.slice A0 l0.length c0, .int .u64 a1] w fun e w' => ∃ v0_ : Value, e = .returned (v0_) ∧ Kd.R k25 25 w' w.heap.size (fun _ => True) v0_ r ∧ Below w.heap.size w w' := by
  unfold points_Upto.f at h
  by_cases hl : l0.length < 5864062014805
  · rw [if_pos hl] at h
    obtain rfl := Option.some.inj h
    clear h
    have HR0 := Aside0.mk hr0
    clear hr0
    have HB := Aside0.mk (Below.refl w.heap.size w)
    go_enter Try.func28, Try.ntmps28
    go_wp2_with (go_at_call 38; refine (uptosome_calls _ _ l0 a1 w.heap.size _ ?hr hl ?hk0).mono ?_; (case hr => exact Kd.C_below HR0.out (by repeat (first | exact HB.out | apply below_alloc))); (case hk0 => simp [go_sem]); rintro e w2 ⟨v, rfl, hR, hb2⟩)
    go_ret
    exact ⟨_, rfl, Kd.R_lower hR (below_size (by repeat (first | exact HB.out | apply below_alloc))), below_step (by repeat (first | exact HB.out | apply below_alloc)) hb2⟩
  · rw [if_neg hl] at h; cases h


/-- What range asks of a point. -/
def rangeP (lo : Int) (hi : Int) (p : S25) : Bool := decide (lo ≤ p.f0) && decide (p.f0 ≤ hi)
set_option maxHeartbeats 1000000 in
theorem range1_calls (p : S25) (lo : Int) (g_lo : Nat) (hi : Int) (g_hi : Nat) (w : World) (h_lo : w.cell? ⟨g_lo, 0, none⟩ = some (.int .i64 lo)) (h_hi : w.cell? ⟨g_hi, 0, none⟩ = some (.int .i64 hi)) :
    Calls Try.prog 39 #[.agg #[.int .i64 p.f0, .int .u64 p.f1, .int .u64 p.f2], .pointer (some ⟨g_lo, 0, none⟩), .pointer (some ⟨g_hi, 0, none⟩)] w fun e w' => e = .returned (.bool (rangeP lo hi p)) ∧ Below w.heap.size w w' := by
  have hu25 := Try.underlying25
  have HB := Aside0.mk (Below.refl w.heap.size w)
  have hlt_lo := World.block_lt_of_cell? w _ h_lo
  have hlt_hi := World.block_lt_of_cell? w _ h_hi
  by_cases c1 : lo ≤ p.f0
  · have c1b : decide (lo ≤ p.f0) = true := decide_eq_true c1
    go_enter Try.func39, Try.ntmps39
    go_wp2
    go_ret
    exact ⟨by congr 2; simp [rangeP, c1], by repeat (first | exact HB.out | apply below_alloc)⟩
  · have c1b : decide (lo ≤ p.f0) = false := decide_eq_false c1
    go_enter Try.func39, Try.ntmps39
    go_wp2
    go_ret
    exact ⟨by congr 2; simp [rangeP]; intro h_; omega, by repeat (first | exact HB.out | apply below_alloc)⟩

set_option maxHeartbeats 4000000 in
theorem rangesome_calls (A0 : Option Addr) (c0 : Nat) (l0 : List S25) (lo : Int) (g_lo : Nat) (hi : Int) (g_hi : Nat) (w : World) (hr0 : Kd.C k25 w A0 l0.length l0) (hlen : l0.length < 5864062014805) (h_lo : w.cell? ⟨g_lo, 0, none⟩ = some (.int .i64 lo)) (h_hi : w.cell? ⟨g_hi, 0, none⟩ = some (.int .i64 hi)) :
    Calls Try.prog 38 #[.slice A0 l0.length c0, .func (.func 39) #[] #[.pointer (some ⟨g_lo, 0, none⟩), .pointer (some ⟨g_hi, 0, none⟩)]] w fun e w' => ∃ v, e = .returned v ∧ Kd.R k25 25 w' w.heap.size (fun _ => True) v (l0.filter (rangeP lo hi)) ∧ Below w.heap.size w w' := by
  have hu25 := Try.underlying25
  have HR0 := Aside0.mk hr0
  have HG_lo := Aside0.mk h_lo
  have HG_hi := Aside0.mk h_hi
  clear hr0 h_lo h_hi
  have HB := Aside0.mk (Below.refl w.heap.size w)
  obtain ⟨Q, hQ⟩ : ∃ Q, Q = rangeP lo hi := ⟨_, rfl⟩
  have HQ := Aside0.mk hQ
  clear hQ
  go_enter Try.func38, Try.ntmps38
  go_wp2
  go_loopw [5, 10] (fun v5 v10 w' => ∃ n : Nat, n ≤ l0.length ∧ v10 = .int .i64 n ∧ Aside0 (Kd.R k25 25 w' w.heap.size (fun _ => True) v5 ((l0.take n).filter Q)) ∧ Aside0 (Below w.heap.size w w')) (fun _ v10 _ => l0.length - (intOf v10).toNat)
  case atStart => exact ⟨0, Nat.zero_le _, rfl, ⟨Kd.R_nil _ _ _ _ _⟩, HB⟩
  case round =>
    obtain ⟨n, hn, rfl, HO, HB1⟩ := hrel
    by_cases hlt : n < l0.length
    · obtain ⟨ad, e, h0, h1, h2⟩ := at_T25 HR0.out (n : Int) (by omega) (by omega)
      cases e
      rw [Int.toNat_natCast] at h0 h1 h2
      replace h0 := (HB1.out.cell (World.block_lt_of_cell? w _ h0)).trans h0
      replace h1 := (HB1.out.cell (World.block_lt_of_cell? w _ h1)).trans h1
      replace h2 := (HB1.out.cell (World.block_lt_of_cell? w _ h2)).trans h2
      have HGr_lo := Aside0.mk ((HB1.out.cell (World.block_lt_of_cell? w _ HG_lo.out)).trans HG_lo.out)
      have HGr_hi := Aside0.mk ((HB1.out.cell (World.block_lt_of_cell? w _ HG_hi.out)).trans HG_hi.out)
      have e0 : rd_T25 l0 (n : Int) = l0[n] := by show l0.getD n z25 = _; simp [List.getD_eq_getElem?_getD, hlt]
      rw [e0] at h0 h1 h2
      have ht : l0.take (n + 1) = l0.take n ++ [l0[n]] := List.take_succ_eq_append_getElem hlt
      have HT := Aside0.mk ht
      clear ht e0
      have hfl : ((l0.take n).filter Q).length ≤ n := Nat.le_trans (List.length_filter_le _ _) (List.length_take_le _ _)
      obtain ⟨ys, hys⟩ : ∃ ys, ys = (l0.take n).filter Q := ⟨_, rfl⟩
      rw [← hys] at HO hfl
      have HYS := Aside0.mk hys
      clear hys
      obtain ⟨p, hp⟩ : ∃ p, p = l0[n] := ⟨_, rfl⟩
      rw [← hp] at h0 h1 h2 HT
      clear hp
      go_wp2_with (first
        | ((with_reducible refine gate_dst (N := 7) rfl ?_); refine box_event ?hg (N := 7) ?hd (cs := #[.int .i64 0, .int .u64 0, .int .u64 0]) (t := 25) ?hr ?_; (case hd => rfl); (case hg => rfl); (case hr => first | (go_simp; done) | (go_simp; rfl)); intro gb hg w6 hbox hb; have HB2 := Aside0.mk (below_step HB1.out hb); have GE := Aside0.mk (show w.heap.size ≤ gb by rw [hg]; exact below_size HB1.out); have BK := Aside0.mk hbox; have HO2 := Aside0.mk (Kd.R_below (Kd.R_elderB HO.out gb (Nat.le_of_eq hg.symm)) hb); clear hb hbox hg; have hz0 : w6.cell? ⟨gb, 0, none⟩ = some (.int .i64 0) := (blk_cell BK.out 0).trans rfl; have hz1 : w6.cell? ⟨gb, 1, none⟩ = some (.int .u64 0) := (blk_cell BK.out 1).trans rfl; have hz2 : w6.cell? ⟨gb, 2, none⟩ = some (.int .u64 0) := (blk_cell BK.out 2).trans rfl; have hfz0 := blk_frozen BK.out 0; have hfz1 := blk_frozen BK.out 1; have hfz2 := blk_frozen BK.out 2)
        | (go_at_call 39; refine (range1_calls p lo g_lo hi g_hi _ ?sd0 ?sd1).mono ?_; (case sd0 => exact ((show Below w.heap.size w _ from by repeat (first | exact HB2.out | refine below_set ?_ GE.out)).cell (World.block_lt_of_cell? w _ HG_lo.out)).trans HG_lo.out); (case sd1 => exact ((show Below w.heap.size w _ from by repeat (first | exact HB2.out | refine below_set ?_ GE.out)).cell (World.block_lt_of_cell? w _ HG_hi.out)).trans HG_hi.out); rintro e w7 ⟨rfl, hb7⟩; have BK7 := Aside0.mk (blk_below (g := gb) (o := .cells #[.int .i64 p.f0, .int .u64 p.f1, .int .u64 p.f2] 25 (0, 0)) (by simpa using blk_set (blk_set (blk_set BK.out 0 (.int .i64 p.f0)) 1 (.int .u64 p.f1)) 2 (.int .u64 p.f2)) hb7); have HO7 := Aside0.mk (Kd.R_below (Kd.R_far (p := ⟨gb, 2, none⟩) (Kd.R_far (p := ⟨gb, 1, none⟩) (Kd.R_far (p := ⟨gb, 0, none⟩) HO2.out (fun _ hk => hk.2) (.int .i64 p.f0)) (fun _ hk => hk.2) (.int .u64 p.f1)) (fun _ hk => hk.2) (.int .u64 p.f2)) hb7); have HB7 := Aside0.mk (below_step (show Below w.heap.size w _ from by repeat (first | exact HB2.out | refine below_set ?_ GE.out)) hb7); clear hb7; have hy0 : w7.cell? ⟨gb, 0, none⟩ = some (.int .i64 p.f0) := (blk_cell BK7.out 0).trans rfl; have hy1 : w7.cell? ⟨gb, 1, none⟩ = some (.int .u64 p.f1) := (blk_cell BK7.out 1).trans rfl; have hy2 : w7.cell? ⟨gb, 2, none⟩ = some (.int .u64 p.f2) := (blk_cell BK7.out 2).trans rfl)
        | ((with_reducible refine gate_builtin (b := .append) (xs := #[.tmp 17, .tmp 19]) rfl ?_); at_builtin; refine Kd.R_append k25 (w0 := w) w.heap.size rfl (.tmp 17) (.tmp 19) 22 25 (.agg #[(.int .i64 0), (.int .u64 0), (.int .u64 0)]) 24 rfl Try.underlying22 info25 rfl (by decide) (by omega) u5 ys p [.int .i64 p.f0, .int .u64 p.f1, .int .u64 p.f2] (fun _ => True) (fun _ => False) rfl (by first | (go_simp; done) | (go_simp; rfl)) ?aP (fun _ hk => hk.elim) ?aF ?aO ?aB ?aS ?aL ?_; (case aP => exact k25_mkM _ _ _ p); (case aB => exact HB7.out); (case aF => exact fun _ _ => trivial); (case aO => exact Kd.R_mono HO7.out (fun _ _ => trivial)); (case aS => exact below_size HB7.out); (case aL => omega); intro v8 w8 ho hb hg hat; have HO8 := Aside0.mk ho; have HB8 := Aside0.mk hb; clear ho hb hg hat))
      · have hq : rangeP lo hi p = true := by assumption
        go_roundw
        case rel => exact ⟨n + 1, by omega, by go_num, ⟨by rw [HT.out, List.filter_append, ← HYS.out, HQ.out]; simp only [List.filter_cons, hq, List.filter_nil, if_true]; exact HO8.out⟩, HB8⟩
        case measure => simp [intOf]; omega
      · have hq : rangeP lo hi p = false := by assumption
        go_roundw
        case rel => exact ⟨n + 1, by omega, by go_num, ⟨by rw [HT.out, List.filter_append, ← HYS.out, HQ.out]; simp only [List.filter_cons, hq, List.filter_nil, Bool.false_eq_true, if_false, List.append_nil]; exact Kd.R_mono HO7.out (fun _ _ => trivial)⟩, HB7⟩
        case measure => simp [intOf]; omega
    · obtain rfl : n = l0.length := by omega
      go_wp2
      go_ret
      exact ⟨_, rfl, by rw [← HQ.out]; have := HO.out; rw [List.take_length] at this; exact this, HB1.out⟩

/-- points_Range, as a list's filter. -/
def points_Range.f (l0 : List S25) (a1 : Int) (a2 : Int) : Option (List S25) := if l0.length < 5864062014805 then some (l0.filter (rangeP a1 a2)) else none
set_option maxHeartbeats 1000000 in
theorem points_Range.calls (A0 : Option Addr) (c0 : Nat) (l0 : List S25) (a1 : Int) (a2 : Int) (r : List S25) (w : World) (hr0 : Kd.C k25 w A0 l0.length l0) (hc0 : l0.length ≤ c0) (h : points_Range.f l0 a1 a2 = some r) :
    Calls Try.prog 26 #[.slice A0 l0.length c0, .int .i64 a1, .int .i64 a2] w fun e w' => ∃ v0_ : Value, e = .returned (v0_) ∧ Kd.R k25 25 w' w.heap.size (fun _ => True) v0_ r ∧ Below w.heap.size w w' := by
  unfold points_Range.f at h
  by_cases hl : l0.length < 5864062014805
  · rw [if_pos hl] at h
    obtain rfl := Option.some.inj h
    clear h
    have HR0 := Aside0.mk hr0
    clear hr0
    have HB := Aside0.mk (Below.refl w.heap.size w)
    go_enter Try.func26, Try.ntmps26
    go_wp2_with (go_at_call 38; refine (rangesome_calls _ _ l0 a1 w.heap.size a2 (w.heap.size + 1) _ ?hr hl ?hk0 ?hk1).mono ?_; (case hr => exact Kd.C_below HR0.out (by repeat (first | exact HB.out | apply below_alloc))); (case hk0 => simp [go_sem]); (case hk1 => simp [go_sem]); rintro e w2 ⟨v, rfl, hR, hb2⟩)
    go_ret
    exact ⟨_, rfl, Kd.R_lower hR (below_size (by repeat (first | exact HB.out | apply below_alloc))), below_step (by repeat (first | exact HB.out | apply below_alloc)) hb2⟩
  · rw [if_neg hl] at h; cases h


/-- What window asks of a point. -/
def windowP (t : Int) (wd : Int) (p : S25) : Bool := decide (p.f0 ≤ t) && decide (IntKind.u64.wrap (IntKind.u64.wrap t - IntKind.u64.wrap p.f0) < wd)
set_option maxHeartbeats 1000000 in
theorem window1_calls (p : S25) (t : Int) (g_t : Nat) (wd : Int) (g_wd : Nat) (w : World) (h_t : w.cell? ⟨g_t, 0, none⟩ = some (.int .i64 t)) (h_wd : w.cell? ⟨g_wd, 0, none⟩ = some (.int .u64 wd)) :
    Calls Try.prog 41 #[.agg #[.int .i64 p.f0, .int .u64 p.f1, .int .u64 p.f2], .pointer (some ⟨g_t, 0, none⟩), .pointer (some ⟨g_wd, 0, none⟩)] w fun e w' => e = .returned (.bool (windowP t wd p)) ∧ Below w.heap.size w w' := by
  have hu25 := Try.underlying25
  have HB := Aside0.mk (Below.refl w.heap.size w)
  have hlt_t := World.block_lt_of_cell? w _ h_t
  have hlt_wd := World.block_lt_of_cell? w _ h_wd
  by_cases c1 : p.f0 ≤ t
  · have c1b : decide (p.f0 ≤ t) = true := decide_eq_true c1
    go_enter Try.func41, Try.ntmps41
    go_wp2
    go_ret
    exact ⟨by congr 2; simp [windowP, c1], by repeat (first | exact HB.out | apply below_alloc)⟩
  · have c1b : decide (p.f0 ≤ t) = false := decide_eq_false c1
    go_enter Try.func41, Try.ntmps41
    go_wp2
    go_ret
    exact ⟨by congr 2; simp [windowP]; intro h_; omega, by repeat (first | exact HB.out | apply below_alloc)⟩

set_option maxHeartbeats 4000000 in
theorem windowsome_calls (A0 : Option Addr) (c0 : Nat) (l0 : List S25) (t : Int) (g_t : Nat) (wd : Int) (g_wd : Nat) (w : World) (hr0 : Kd.C k25 w A0 l0.length l0) (hlen : l0.length < 5864062014805) (h_t : w.cell? ⟨g_t, 0, none⟩ = some (.int .i64 t)) (h_wd : w.cell? ⟨g_wd, 0, none⟩ = some (.int .u64 wd)) :
    Calls Try.prog 38 #[.slice A0 l0.length c0, .func (.func 41) #[] #[.pointer (some ⟨g_t, 0, none⟩), .pointer (some ⟨g_wd, 0, none⟩)]] w fun e w' => ∃ v, e = .returned v ∧ Kd.R k25 25 w' w.heap.size (fun _ => True) v (l0.filter (windowP t wd)) ∧ Below w.heap.size w w' := by
  have hu25 := Try.underlying25
  have HR0 := Aside0.mk hr0
  have HG_t := Aside0.mk h_t
  have HG_wd := Aside0.mk h_wd
  clear hr0 h_t h_wd
  have HB := Aside0.mk (Below.refl w.heap.size w)
  obtain ⟨Q, hQ⟩ : ∃ Q, Q = windowP t wd := ⟨_, rfl⟩
  have HQ := Aside0.mk hQ
  clear hQ
  go_enter Try.func38, Try.ntmps38
  go_wp2
  go_loopw [5, 10] (fun v5 v10 w' => ∃ n : Nat, n ≤ l0.length ∧ v10 = .int .i64 n ∧ Aside0 (Kd.R k25 25 w' w.heap.size (fun _ => True) v5 ((l0.take n).filter Q)) ∧ Aside0 (Below w.heap.size w w')) (fun _ v10 _ => l0.length - (intOf v10).toNat)
  case atStart => exact ⟨0, Nat.zero_le _, rfl, ⟨Kd.R_nil _ _ _ _ _⟩, HB⟩
  case round =>
    obtain ⟨n, hn, rfl, HO, HB1⟩ := hrel
    by_cases hlt : n < l0.length
    · obtain ⟨ad, e, h0, h1, h2⟩ := at_T25 HR0.out (n : Int) (by omega) (by omega)
      cases e
      rw [Int.toNat_natCast] at h0 h1 h2
      replace h0 := (HB1.out.cell (World.block_lt_of_cell? w _ h0)).trans h0
      replace h1 := (HB1.out.cell (World.block_lt_of_cell? w _ h1)).trans h1
      replace h2 := (HB1.out.cell (World.block_lt_of_cell? w _ h2)).trans h2
      have HGr_t := Aside0.mk ((HB1.out.cell (World.block_lt_of_cell? w _ HG_t.out)).trans HG_t.out)
      have HGr_wd := Aside0.mk ((HB1.out.cell (World.block_lt_of_cell? w _ HG_wd.out)).trans HG_wd.out)
      have e0 : rd_T25 l0 (n : Int) = l0[n] := by show l0.getD n z25 = _; simp [List.getD_eq_getElem?_getD, hlt]
      rw [e0] at h0 h1 h2
      have ht : l0.take (n + 1) = l0.take n ++ [l0[n]] := List.take_succ_eq_append_getElem hlt
      have HT := Aside0.mk ht
      clear ht e0
      have hfl : ((l0.take n).filter Q).length ≤ n := Nat.le_trans (List.length_filter_le _ _) (List.length_take_le _ _)
      obtain ⟨ys, hys⟩ : ∃ ys, ys = (l0.take n).filter Q := ⟨_, rfl⟩
      rw [← hys] at HO hfl
      have HYS := Aside0.mk hys
      clear hys
      obtain ⟨p, hp⟩ : ∃ p, p = l0[n] := ⟨_, rfl⟩
      rw [← hp] at h0 h1 h2 HT
      clear hp
      go_wp2_with (first
        | ((with_reducible refine gate_dst (N := 7) rfl ?_); refine box_event ?hg (N := 7) ?hd (cs := #[.int .i64 0, .int .u64 0, .int .u64 0]) (t := 25) ?hr ?_; (case hd => rfl); (case hg => rfl); (case hr => first | (go_simp; done) | (go_simp; rfl)); intro gb hg w6 hbox hb; have HB2 := Aside0.mk (below_step HB1.out hb); have GE := Aside0.mk (show w.heap.size ≤ gb by rw [hg]; exact below_size HB1.out); have BK := Aside0.mk hbox; have HO2 := Aside0.mk (Kd.R_below (Kd.R_elderB HO.out gb (Nat.le_of_eq hg.symm)) hb); clear hb hbox hg; have hz0 : w6.cell? ⟨gb, 0, none⟩ = some (.int .i64 0) := (blk_cell BK.out 0).trans rfl; have hz1 : w6.cell? ⟨gb, 1, none⟩ = some (.int .u64 0) := (blk_cell BK.out 1).trans rfl; have hz2 : w6.cell? ⟨gb, 2, none⟩ = some (.int .u64 0) := (blk_cell BK.out 2).trans rfl; have hfz0 := blk_frozen BK.out 0; have hfz1 := blk_frozen BK.out 1; have hfz2 := blk_frozen BK.out 2)
        | (go_at_call 41; refine (window1_calls p t g_t wd g_wd _ ?sd0 ?sd1).mono ?_; (case sd0 => exact ((show Below w.heap.size w _ from by repeat (first | exact HB2.out | refine below_set ?_ GE.out)).cell (World.block_lt_of_cell? w _ HG_t.out)).trans HG_t.out); (case sd1 => exact ((show Below w.heap.size w _ from by repeat (first | exact HB2.out | refine below_set ?_ GE.out)).cell (World.block_lt_of_cell? w _ HG_wd.out)).trans HG_wd.out); rintro e w7 ⟨rfl, hb7⟩; have BK7 := Aside0.mk (blk_below (g := gb) (o := .cells #[.int .i64 p.f0, .int .u64 p.f1, .int .u64 p.f2] 25 (0, 0)) (by simpa using blk_set (blk_set (blk_set BK.out 0 (.int .i64 p.f0)) 1 (.int .u64 p.f1)) 2 (.int .u64 p.f2)) hb7); have HO7 := Aside0.mk (Kd.R_below (Kd.R_far (p := ⟨gb, 2, none⟩) (Kd.R_far (p := ⟨gb, 1, none⟩) (Kd.R_far (p := ⟨gb, 0, none⟩) HO2.out (fun _ hk => hk.2) (.int .i64 p.f0)) (fun _ hk => hk.2) (.int .u64 p.f1)) (fun _ hk => hk.2) (.int .u64 p.f2)) hb7); have HB7 := Aside0.mk (below_step (show Below w.heap.size w _ from by repeat (first | exact HB2.out | refine below_set ?_ GE.out)) hb7); clear hb7; have hy0 : w7.cell? ⟨gb, 0, none⟩ = some (.int .i64 p.f0) := (blk_cell BK7.out 0).trans rfl; have hy1 : w7.cell? ⟨gb, 1, none⟩ = some (.int .u64 p.f1) := (blk_cell BK7.out 1).trans rfl; have hy2 : w7.cell? ⟨gb, 2, none⟩ = some (.int .u64 p.f2) := (blk_cell BK7.out 2).trans rfl)
        | ((with_reducible refine gate_builtin (b := .append) (xs := #[.tmp 17, .tmp 19]) rfl ?_); at_builtin; refine Kd.R_append k25 (w0 := w) w.heap.size rfl (.tmp 17) (.tmp 19) 22 25 (.agg #[(.int .i64 0), (.int .u64 0), (.int .u64 0)]) 24 rfl Try.underlying22 info25 rfl (by decide) (by omega) u5 ys p [.int .i64 p.f0, .int .u64 p.f1, .int .u64 p.f2] (fun _ => True) (fun _ => False) rfl (by first | (go_simp; done) | (go_simp; rfl)) ?aP (fun _ hk => hk.elim) ?aF ?aO ?aB ?aS ?aL ?_; (case aP => exact k25_mkM _ _ _ p); (case aB => exact HB7.out); (case aF => exact fun _ _ => trivial); (case aO => exact Kd.R_mono HO7.out (fun _ _ => trivial)); (case aS => exact below_size HB7.out); (case aL => omega); intro v8 w8 ho hb hg hat; have HO8 := Aside0.mk ho; have HB8 := Aside0.mk hb; clear ho hb hg hat))
      · have hq : windowP t wd p = true := by assumption
        go_roundw
        case rel => exact ⟨n + 1, by omega, by go_num, ⟨by rw [HT.out, List.filter_append, ← HYS.out, HQ.out]; simp only [List.filter_cons, hq, List.filter_nil, if_true]; exact HO8.out⟩, HB8⟩
        case measure => simp [intOf]; omega
      · have hq : windowP t wd p = false := by assumption
        go_roundw
        case rel => exact ⟨n + 1, by omega, by go_num, ⟨by rw [HT.out, List.filter_append, ← HYS.out, HQ.out]; simp only [List.filter_cons, hq, List.filter_nil, Bool.false_eq_true, if_false, List.append_nil]; exact Kd.R_mono HO7.out (fun _ _ => trivial)⟩, HB7⟩
        case measure => simp [intOf]; omega
    · obtain rfl : n = l0.length := by omega
      go_wp2
      go_ret
      exact ⟨_, rfl, by rw [← HQ.out]; have := HO.out; rw [List.take_length] at this; exact this, HB1.out⟩

/-- points_Window, as a list's filter. -/
def points_Window.f (l0 : List S25) (a1 : Int) (a2 : Int) : Option (List S25) := if l0.length < 5864062014805 then some (l0.filter (windowP a1 a2)) else none
set_option maxHeartbeats 1000000 in
theorem points_Window.calls (A0 : Option Addr) (c0 : Nat) (l0 : List S25) (a1 : Int) (a2 : Int) (r : List S25) (w : World) (hr0 : Kd.C k25 w A0 l0.length l0) (hc0 : l0.length ≤ c0) (h : points_Window.f l0 a1 a2 = some r) :
    Calls Try.prog 30 #[.slice A0 l0.length c0, .int .i64 a1, .int .u64 a2] w fun e w' => ∃ v0_ : Value, e = .returned (v0_) ∧ Kd.R k25 25 w' w.heap.size (fun _ => True) v0_ r ∧ Below w.heap.size w w' := by
  unfold points_Window.f at h
  by_cases hl : l0.length < 5864062014805
  · rw [if_pos hl] at h
    obtain rfl := Option.some.inj h
    clear h
    have HR0 := Aside0.mk hr0
    clear hr0
    have HB := Aside0.mk (Below.refl w.heap.size w)
    go_enter Try.func30, Try.ntmps30
    go_wp2_with (go_at_call 38; refine (windowsome_calls _ _ l0 a1 w.heap.size a2 (w.heap.size + 1) _ ?hr hl ?hk0 ?hk1).mono ?_; (case hr => exact Kd.C_below HR0.out (by repeat (first | exact HB.out | apply below_alloc))); (case hk0 => simp [go_sem]); (case hk1 => simp [go_sem]); rintro e w2 ⟨v, rfl, hR, hb2⟩)
    go_ret
    exact ⟨_, rfl, Kd.R_lower hR (below_size (by repeat (first | exact HB.out | apply below_alloc))), below_step (by repeat (first | exact HB.out | apply below_alloc)) hb2⟩
  · rw [if_neg hl] at h; cases h



end Go.Proofs.Ytfjhommpgbppjaa.Q
