import Derived.Test.YtkdbojaoaldmbaaGF
/- The law DiskDoes by hand: whatever is done to a disk, each answer and all files are the document's. -/
namespace Go.Proofs.Ytkdbojaoaldmbaa.G
open Go.RowKit Go.Proofs.Ytkdbojaoaldmbaa.Q Go.Proofs.YtkdbojaoaldmbaaW.PrintWords Go.Proofs.YtkdbojaoaldmbaaW.PrintLast Go.Proofs.YtkdbojaoaldmbaaW.PrintMore
set_option linter.unusedVariables false
set_option linter.unusedSimpArgs false
def dlaw.T18 : Bool × List (List Nat × List Nat) := (true, [([], []), ([], []), ([0, 1], [0, 1]), ([], []), ([], []), ([3, 4, 2], [3, 4]), ([2, 5], [2, 5]), ([6, 5], [6]), ([7], [7]), ([7], [7]), ([8, 9, 7, 7], [7, 8, 9]), ([10, 7], [7, 10]), ([7, 11], [7, 11])])
def dlaw.B18 : List Nat := [0, 0, 3, 0, 0, 31, 63, 127, 255, 255, 1023, 2047, 4095]
theorem dlaw.tab18 : rtab .any (opsOf Try.f6 18) = dlaw.T18 := by kernel_rfl
theorem dlaw.bits18 : waitsOk dlaw.T18.2 dlaw.B18 = true := by kernel_rfl
/-- One byte, as a text's. -/
theorem lit1 (w : World) (y : Int) (fz : Nat × Nat) : (Kd.int .u8).C (w.alloc (.cells #[.int .u8 y] 5 fz)) (some ⟨w.heap.size, 0, none⟩) [y].length [y] := by
  refine ⟨rfl, by simp, fun _ => ⟨_, rfl, fun j p hj => ?_⟩⟩
  cases j with
  | zero =>
    have : y = p := by simpa using hj
    subst this
    refine ⟨[.int .u8 y], rfl, rfl, fun i u hu => ?_⟩
    cases i with
    | zero =>
      have : Value.int .u8 y = u := by simpa using hu
      subst this
      have h0 := heap_alloc_new w (.cells #[.int .u8 y] 5 fz)
      exact (cell_of_row _ _ 0 _ _ _ h0).trans rfl
    | succ i => simp at hu
  | succ j => simp at hj
theorem lit5 (w : World) (cs : Array Value) (fz : Nat × Nat) : ∀ ad, (some ⟨w.heap.size, 0, none⟩ : Option Addr) = some ad → ∃ cs' fz', (w.alloc (.cells cs 5 fz)).heap[ad.block]? = some (.cells cs' 5 fz') := fun ad e => by
  injection e with e
  subst e
  exact ⟨cs, fz, heap_alloc_new w _⟩
theorem two_new {w w1 w2 : World} {D M : Nat} {room : Int} (hD : DiskG w1 D M room w.heap.size (fun _ => False) (fun _ => none) []) (hb1 : Below w.heap.size w w1) (hb2 : Below w1.heap.size w1 w2) :
    Two w (w2.alloc (.cells #[.int .i64 room, .slice none 0 0] 49)) D w2.heap.size room [] [] :=
  have hb3 := hb2.trans ((below_alloc (Below.refl _ _) (.cells #[.int .i64 room, .slice none 0 0] 49)).mono hb2.size)
  ⟨M, w.heap.size, w.heap.size, _, _, hD.below hb3, ⟨⟨_, heap_alloc_new w2 _, Kd.R_nil _ _ _ _ _⟩, Nat.le_trans hb1.size hb2.size⟩, Nat.le_refl _, Nat.le_refl _, below_step hb1 hb3⟩
/-- One byte is written to the old disk's file of that name. -/
theorem append_lit {w w5 : World} {D D2 g : Nat} {room : Int} {st : St} (h : Copied w w5 D D2 g room st) (s : ByteArray) (hs : s.size ≤ 9223372036854775807) (y : Int) (fz : Nat × Nat) (c : Nat) :
    Calls Try.prog 20 #[.pointer (some ⟨D, 0, none⟩), .string s, .slice (some ⟨w5.heap.size, 0, none⟩) 1 c] (w5.alloc (.cells #[.int .u8 y] 5 fz)) fun e w' => ∃ z : Int, e = .returned (.int .i64 z) ∧ Copied w w' D D2 g room st ∧ Kept (w5.alloc (.cells #[.int .u8 y] 5 fz)) w' :=
  Copied.append (h.below (below_alloc (Below.refl _ _) _)) s hs (some ⟨w5.heap.size, 0, none⟩) c [y] (lit1 _ _ _) (lit5 _ _ _)
set_option maxHeartbeats 8000000 in
set_option maxRecDepth 100000 in
theorem does_law (room : Int) (A : Option Addr) (c : Nat) (l : List S31) (w : World) (hr : k31.C w A l.length l) (hc : l.length ≤ c) (hok : OkOps l) :
    Calls Try.prog 6 #[.int .i64 room, .slice A l.length c] w fun e w' => e = .returned (.bool true) ∧ Below w.heap.size w w' := by
  have HR := Aside0.mk hr
  have HC := Aside0.mk hc
  have HOK := Aside0.mk hok
  clear hr hc hok
  by_cases hroom : 0 ≤ room ∧ room ≤ 16777216
  case neg =>
    have hbad : room < 0 ∨ (¬ room < 0 ∧ room > 16777216) := by omega
    clear hroom
    rcases hbad with b1 | ⟨b1, b2⟩
    all_goals
      go_enter Try.func6, Try.ntmps6
      go_wp2_with (first
        | (go_at_call 8; (with_reducible refine (new_bad room (by omega) w).mono ?_); rintro e w9 ⟨rfl, h9⟩; subst w9)
        | (go_at_call 9; (with_reducible refine (Go.Proofs.Ytkdbojaoaldmbaa.D.live_calls w).mono ?_); rintro e w2 ⟨rfl, hb⟩; have HL := Aside0.mk hb; clear hb)
        | (go_at_call 9; (with_reducible refine (Go.Proofs.Ytkdbojaoaldmbaa.D.live_calls w2).mono ?_); rintro e w3 ⟨rfl, hb⟩; have HL3 := Aside0.mk hb; clear hb))
      go_ret
      exact ⟨rfl, HL.out.trans (HL3.out.mono HL.out.size)⟩
  case pos =>
  obtain ⟨r0, r1⟩ := hroom
  have b1 : ¬ room < 0 := by omega
  have b2 : ¬ room > 16777216 := by omega
  have HRM := Aside0.mk (And.intro r0 r1)
  clear r0 r1
  go_enter Try.func6, Try.ntmps6
  go_wp2_with (first
    | (go_at_call 8; (with_reducible refine (new_calls room HRM.out.1 HRM.out.2 w).mono ?_); rintro e w1 ⟨D, M, rfl, hD, hb⟩; have HD := Aside0.mk hD; have HN := Aside0.mk hb; clear hD hb)
    | (go_at_call 9; (with_reducible refine (Go.Proofs.Ytkdbojaoaldmbaa.D.live_calls w1).mono ?_); rintro e w2 ⟨rfl, hb⟩; have HT0 := Aside0.mk (two_new HD.out HN.out hb); clear hb)
    | (go_at_call 10; (with_reducible refine (few_calls A c l _ HC.out (Kd.C_below HR.out HT0.out.low) HOK.out.len).mono ?_); rintro e w4 ⟨m, hm, rfl, hb⟩; have HM := Aside0.mk hm; have HT4 := Aside0.mk (HT0.out.below hb); clear hb hm))
  clear HD HN HT0
  go_loopg [5, 55] (m + 1) (fun kq v5 v55 wr => ∃ (i E : Nat) (st : St), v5 = .pointer (some ⟨E, 0, none⟩) ∧ v55 = .int .i64 i ∧ Aside0 (kq + i = m + 1 ∧ i ≤ m) ∧ Aside0 (Two w wr E w2.heap.size room st st))
  case atStart => exact ⟨0, D, [], rfl, rfl, ⟨by omega⟩, HT4⟩
  case round =>
    obtain ⟨i, E, st, rfl, rfl, HK, HI⟩ := hrel
    clear HT4
    cases gk with
    | zero => have := HK.out; omega
    | succ k1 =>
    by_cases hlt : i < m
    · have hi0 : (0 : Int) ≤ (i : Int) := by omega
      have hi1 : (i : Int) < (m : Int) := by omega
      have hil : i < l.length := by have := HM.out; omega
      have hP := HI.out
      obtain ⟨ad, A1, c1, hAe, x0, x1, x2, x3, x4, hc1, hd1⟩ := at_T31 HR.out (i : Int) hi0 (by omega)
      replace x0 := (hP.low.cell (World.block_lt_of_cell? w _ x0)).trans x0
      replace x1 := (hP.low.cell (World.block_lt_of_cell? w _ x1)).trans x1
      replace x2 := (hP.low.cell (World.block_lt_of_cell? w _ x2)).trans x2
      replace x3 := (hP.low.cell (World.block_lt_of_cell? w _ x3)).trans x3
      replace x4 := (hP.low.cell (World.block_lt_of_cell? w _ x4)).trans x4
      subst hAe
      simp only [Int.toNat_natCast] at x0 x1 x2 x3 x4
      have HOI := Aside0.mk (HOK.out.at_ hil)
      have hml : m ≤ c := by have := HM.out; have := HC.out; omega
      have hmx : l.length ≤ 140737488355328 := HOK.out.len
      have HMX : Aside0 (m ≤ 140737488355328) := ⟨by have := HM.out; omega⟩
      generalize rd_T31 l (i : Int) = y at *
      obtain ⟨d, n, t, x, k⟩ := y
      dsimp only at *
      have hb1 := below_alloc (Below.refl wr.heap.size wr) (.cells #[.int .i64 d, .string n, .string t, .slice A1 x.length c1, .int .i64 k] 31)
      have HPc := Aside0.mk (hP.below hb1)
      have HY := Aside0.mk (And.intro hc1 hd1)
      have HBK := Aside0.mk (heap_alloc_new wr (.cells #[.int .i64 d, .string n, .string t, .slice A1 x.length c1, .int .i64 k] 31))
      have HFI := Aside0.mk hP.fine
      clear hd1 hc1 hP hb1 HI
      by_cases d6 : d = 6
      · subst d6
        have kc := fun (w : World) (C : Array Value) (n c g : Nat) (hg : g = w.heap.size) => Go.Joins.run_convert_bytes_const_at (P := Try.prog) w 29 5 C n c g hg Try.underlying29 Try.underlying5
        go_wp2_with (first
          | (go_at_call 16; (with_reducible refine (HPc.out.clone).mono ?_); rintro e w5 ⟨E2, rfl, hcp, hb⟩; have HCP := Aside0.mk hcp; have hk5 := (hb.block _ (heap_lt HBK.out)).trans HBK.out; have HBK5 := Aside0.mk hk5; clear hcp hb hk5 HBK HPc)
          | (go_at_call 20; (with_reducible refine (append_lit HCP.out ⟨#[102]⟩ (by decide) 120 _ _).mono ?_); rintro e w6 ⟨z6, rfl, hcp, hk⟩; have HCP6 := Aside0.mk hcp; have HBK6 := Aside0.mk (hk _ _ _ (((below_alloc (Below.refl w5.heap.size w5) _).block _ (heap_lt HBK5.out)).trans HBK5.out)); clear hcp hk HCP HBK5)
          | (go_at_call 21; (with_reducible refine (HCP6.out.sync _).mono ?_); rintro e w7 ⟨z7, rfl, hcp, hk⟩; have HCP7 := Aside0.mk hcp; have hk7 := hk _ _ _ HBK6.out; have HBK7 := Aside0.mk hk7; obtain ⟨z0, z1, z2, z3, z4⟩ := cells5 hk7; clear hk7 hcp hk HCP6 HBK6)
          | (go_at_call 22; (with_reducible refine (HCP7.out.remove n).mono ?_); rintro e w8 ⟨z8, rfl, hcp, hk⟩; have HP := Aside0.mk (hcp.two); have hk8 := hk _ _ _ HBK7.out; have HBK := Aside0.mk hk8; clear z0 z1 z2 z3 z4; obtain ⟨z0, z1, z2, z3, z4⟩ := cells5 hk8; clear hk8 hcp hk HCP7 HBK7))
        clear kc
        refine start_ (n := 13) (S := fun w' => w'.cell? ⟨wr.heap.size, 0, none⟩ = some (.int .i64 6) ∧ w'.cell? ⟨wr.heap.size, 1, none⟩ = some (.string n) ∧ w'.cell? ⟨wr.heap.size, 2, none⟩ = some (.string t) ∧ w'.cell? ⟨wr.heap.size, 3, none⟩ = some (.slice A1 x.length c1) ∧ w'.cell? ⟨wr.heap.size, 4, none⟩ = some (.int .i64 k)) (ds := []) #[false, false, false, false, false, false, false, false, false, false, false, false, false] (by kernel_rfl) rfl rfl ⟨z0, z1, z2, z3, z4⟩ (fun hHeld => ?_); refine with_tabW dlaw.tab18 dlaw.bits18 (fun HT_ HW_ => ?_)
        refine pure_ (i := 0) (N := some 77) (v := ?_) (a' := ?_) #[true, false, false, false, false, false, false, false, false, false, false, false, false] rfl rfl (any_of HT_.out (by kernel_rfl)) (fun _ _ _ h => h) (Or.inl ⟨by rfl, ?_⟩) ?_ ?_
        rotate_left
        · intro w'
          go_simp
          with_reducible rfl
        rotate_left
        · simp only [Act.put, List.setIfInBounds_toArray, List.set_cons_zero, List.set_cons_succ, i64_w, i32_w, xu32_w, xu8_w]
          rfl
        refine pure_ (i := 3) (N := some 80) (v := ?_) (a' := ?_) #[true, false, false, true, false, false, false, false, false, false, false, false, false] rfl rfl (any_of HT_.out (by kernel_rfl)) (fun _ _ _ h => h) (Or.inl ⟨by rfl, ?_⟩) ?_ ?_
        rotate_left
        · intro w'
          go_simp
          with_reducible rfl
        rotate_left
        · simp only [Act.put, List.setIfInBounds_toArray, List.set_cons_zero, List.set_cons_succ, i64_w, i32_w, xu32_w, xu8_w]
          rfl
        refine take_ (i := 1) (N := some 78) (v := ?_) (a' := ?_) #[true, true, false, true, false, false, false, false, false, false, false, false, false] rfl rfl (take_ofW HT_.out HW_.out (by kernel_rfl)) (fun _ _ _ h => h) (Or.inl ⟨by rfl, ?_⟩) hHeld ?_ ?_
        rotate_left
        · rintro w' ⟨s0, s1, s2, s3, s4⟩
          go_simp
          with_reducible rfl
        rotate_left
        · simp only [Act.put, List.setIfInBounds_toArray, List.set_cons_zero, List.set_cons_succ, i64_w, i32_w, xu32_w, xu8_w]
          rfl
        refine take_ (i := 4) (N := some 81) (v := ?_) (a' := ?_) #[true, true, false, true, true, false, false, false, false, false, false, false, false] rfl rfl (take_ofW HT_.out HW_.out (by kernel_rfl)) (fun _ _ _ h => h) (Or.inl ⟨by rfl, ?_⟩) hHeld ?_ ?_
        rotate_left
        · rintro w' ⟨s0, s1, s2, s3, s4⟩
          go_simp
          with_reducible rfl
        rotate_left
        · simp only [Act.put, List.setIfInBounds_toArray, List.set_cons_zero, List.set_cons_succ, i64_w, i32_w, xu32_w, xu8_w]
          rfl
        refine one_ (i := 2) (N := some 79) #[true, true, true, true, true, false, false, false, false, false, false, false, false] rfl rfl (one_of HT_.out (by kernel_rfl)) (by decide) (fun K hK => ?_)
        refine goes_ Try.func12 (by kernel_rfl) rfl #[.pointer (some ⟨E2, 0, none⟩), .agg #[.int .i64 6, .string n, .string t, .slice A1 x.length c1, .int .i64 k]] (by rfl) rfl rfl (by (try simp only [List.map_toArray, List.map_cons, List.map_nil]); first | done | rfl) ?_
        with_reducible refine ((HP.out.below (below_drew (Below.refl _ _))).does 6 n t A1 c1 x k HY.out.1 (Kd.C_drew (Kd.C_below HY.out.2 HP.out.low)) HOI.out).mono ?_
        rintro e wa ⟨rfl, hp, hk⟩
        refine ⟨_, rfl, ?_⟩
        have HPa := Aside0.mk hp
        have HBKa := Aside0.mk (hk _ _ _ HBK.out)
        refine hK.out _ _ (cells5 HBKa.out) (fun hHeld => ?_)
        clear hK K hp hk
        refine norm_ (a' := ?_) ?_ ?_
        rotate_left
        · show Act.put _ (some 79) _ = _
          simp only [Act.put, List.setIfInBounds_toArray, List.set_cons_zero, List.set_cons_succ, i64_w, i32_w, xu32_w, xu8_w]
          rfl
        refine one_ (i := 5) (N := some 82) #[true, true, true, true, true, true, false, false, false, false, false, false, false] rfl rfl (one_of HT_.out (by kernel_rfl)) (by decide) (fun K hK => ?_)
        refine goes_ Try.func23 (by kernel_rfl) rfl #[.pointer (some ⟨w2.heap.size, 0, none⟩), .agg #[.int .i64 6, .string n, .string t, .slice A1 x.length c1, .int .i64 k]] (by rfl) rfl rfl (by (try simp only [List.map_toArray, List.map_cons, List.map_nil]); first | done | rfl) ?_
        with_reducible refine (HPa.out.want HFI.out 6 n t A1 c1 x k HY.out.1 (Kd.C_below HY.out.2 HPa.out.low) HOI.out).mono ?_
        rintro e wb ⟨rfl, hp, hk⟩
        refine ⟨_, rfl, ?_⟩
        have HPb := Aside0.mk hp
        have HBKb := Aside0.mk (hk _ _ _ HBKa.out)
        refine hK.out _ _ (cells5 HBKb.out) (fun hHeld => ?_)
        clear hK K hp hk
        refine norm_ (a' := ?_) ?_ ?_
        rotate_left
        · show Act.put _ (some 82) _ = _
          simp only [Act.put, List.setIfInBounds_toArray, List.set_cons_zero, List.set_cons_succ, i64_w, i32_w, xu32_w, xu8_w]
          rfl
        refine pure_ (i := 6) (N := some 83) (v := ?_) (a' := ?_) #[true, true, true, true, true, true, true, false, false, false, false, false, false] rfl rfl (any_of HT_.out (by kernel_rfl)) (fun _ _ _ h => h) (Or.inl ⟨by rfl, ?_⟩) ?_ ?_
        rotate_left
        · intro w'
          go_simp
          with_reducible rfl
        rotate_left
        · simp only [Act.put, List.setIfInBounds_toArray, List.set_cons_zero, List.set_cons_succ, i64_w, i32_w, xu32_w, xu8_w]
          rfl
        refine pure_ (i := 7) (N := some 84) (v := ?_) (a' := ?_) #[true, true, true, true, true, true, true, true, false, false, false, false, false] rfl rfl (any_of HT_.out (by kernel_rfl)) (fun _ _ _ h => h) (Or.inl ⟨by rfl, ?_⟩) ?_ ?_
        rotate_left
        · intro w'
          go_simp
          with_reducible rfl
        rotate_left
        · simp only [Act.put, List.setIfInBounds_toArray, List.set_cons_zero, List.set_cons_succ, i64_w, i32_w, xu32_w, xu8_w]
          rfl
        refine pure_ (i := 8) (N := some 85) (v := ?_) (a' := ?_) #[true, true, true, true, true, true, true, true, true, false, false, false, false] rfl rfl (any_of HT_.out (by kernel_rfl)) (fun _ _ _ h => h) (Or.inl ⟨by rfl, ?_⟩) ?_ ?_
        rotate_left
        · intro w'
          go_simp
          with_reducible rfl
        rotate_left
        · simp only [Act.put, List.setIfInBounds_toArray, List.set_cons_zero, List.set_cons_succ, i64_w, i32_w, xu32_w, xu8_w]
          rfl
        refine pure_ (i := 9) (N := some 86) (v := ?_) (a' := ?_) #[true, true, true, true, true, true, true, true, true, true, false, false, false] rfl rfl (any_of HT_.out (by kernel_rfl)) (fun _ _ _ h => h) (Or.inl ⟨by rfl, ?_⟩) ?_ ?_
        rotate_left
        · intro w'
          go_simp
          with_reducible rfl
        rotate_left
        · simp only [Act.put, List.setIfInBounds_toArray, List.set_cons_zero, List.set_cons_succ, i64_w, i32_w, xu32_w, xu8_w]
          rfl
        refine one_ (i := 10) (N := some 87) #[true, true, true, true, true, true, true, true, true, true, true, false, false] rfl rfl (one_of HT_.out (by kernel_rfl)) (by decide) (fun K hK => ?_)
        refine goes_ Try.func24 (by kernel_rfl) rfl #[.pointer (some ⟨E2, 0, none⟩), .pointer (some ⟨w2.heap.size, 0, none⟩)] (by rfl) rfl rfl (by (try simp only [List.map_toArray, List.map_cons, List.map_nil]); first | done | rfl) ?_
        with_reducible refine (HPb.out.same).mono ?_
        rintro e wc ⟨rfl, hb⟩
        refine ⟨_, rfl, ?_⟩
        have HPx := Aside0.mk (HPb.out.below hb)
        have HBKc := Aside0.mk ((hb.block _ (heap_lt HBKb.out)).trans HBKb.out)
        refine hK.out _ _ (cells5 HBKc.out) (fun hHeld => ?_)
        clear hK K hb
        refine norm_ (a' := ?_) ?_ ?_
        rotate_left
        · show Act.put _ (some 87) _ = _
          simp only [Act.put, List.setIfInBounds_toArray, List.set_cons_zero, List.set_cons_succ, i64_w, i32_w, xu32_w, xu8_w]
          rfl
        refine pure_ (i := 11) (N := some 88) (v := ?_) (a' := ?_) #[true, true, true, true, true, true, true, true, true, true, true, true, false] rfl rfl (any_of HT_.out (by kernel_rfl)) (fun _ _ _ h => h) (Or.inl ⟨by rfl, ?_⟩) ?_ ?_
        rotate_left
        · intro w'
          go_simp
          with_reducible rfl
        rotate_left
        · simp only [Act.put, List.setIfInBounds_toArray, List.set_cons_zero, List.set_cons_succ, i64_w, i32_w, xu32_w, xu8_w]
          rfl
        refine pure_ (i := 12) (N := some 89) (v := ?_) (a' := ?_) #[true, true, true, true, true, true, true, true, true, true, true, true, true] rfl rfl (any_of HT_.out (by kernel_rfl)) (fun _ _ _ h => h) (Or.inl ⟨by rfl, ?_⟩) ?_ ?_
        rotate_left
        · intro w'
          go_simp
          with_reducible rfl
        rotate_left
        · simp only [Act.put, List.setIfInBounds_toArray, List.set_cons_zero, List.set_cons_succ, i64_w, i32_w, xu32_w, xu8_w]
          rfl
        refine done_ (done_of HT_.out (by kernel_rfl)) ?_
        clear hHeld HT_ HW_ z0 z1 z2 z3 z4
        obtain ⟨z0, z1, z2, z3, z4⟩ := cells5 HBKc.out
        have HFJ := Aside0.mk HPx.out.fine
        obtain ⟨sn, hsn⟩ : ∃ sn : St, sn = opS room st 6 n t x k := ⟨_, rfl⟩
        rw [← hsn] at HPx HFJ
        clear hsn
        go_wp2_with (first
          | (go_at_call 13; (with_reducible refine (HPx.out.read t).mono ?_); rintro e wd ⟨vd, rfl, hb⟩; have HPd := Aside0.mk (HPx.out.below hb); replace z2 := pw_cell_below hb z2; clear hb)
          | (go_at_call 25; (with_reducible refine (HPd.out.rread HFJ.out t).mono ?_); rintro e we ⟨ve, rfl, hb⟩; have HPe := Aside0.mk (HPd.out.below hb); replace z2 := pw_cell_below hb z2; clear hb)
          | (go_at_call 14; (with_reducible refine (HPe.out.lasts t).mono ?_); rintro e w9 ⟨rfl, h9⟩; subst w9)
          | (go_at_call 26; (with_reducible refine (HPe.out.rlasts HFJ.out t).mono ?_); rintro e wf ⟨rfl, hb⟩; have HPf := Aside0.mk (HPe.out.below hb); replace z2 := pw_cell_below hb z2; clear hb))
        go_roundg k1
        case measure => omega
        case rel => exact ⟨i + 1, E2, sn, rfl, by first | rfl | (simp; done) | (rw [wrap_id (n := (i : Int) + 1) (by omega) (by have := HMX.out; omega)]; first | rfl | (simp; done)), ⟨by have := HK.out; omega⟩, HPf⟩
      · skip
        go_wp2_with (fail)
        have hk8 := HBK.out
        obtain ⟨w8, hw8⟩ : ∃ w8 : World, w8 = wr.alloc (.cells #[.int .i64 d, .string n, .string t, .slice A1 x.length c1, .int .i64 k] 31) := ⟨_, rfl⟩
        rw [← hw8] at HPc HBK hk8 ⊢
        obtain ⟨z0, z1, z2, z3, z4⟩ := cells5 hk8
        have HP := HPc
        clear HPc hk8 hw8
        refine start_ (n := 13) (S := fun w' => w'.cell? ⟨wr.heap.size, 0, none⟩ = some (.int .i64 d) ∧ w'.cell? ⟨wr.heap.size, 1, none⟩ = some (.string n) ∧ w'.cell? ⟨wr.heap.size, 2, none⟩ = some (.string t) ∧ w'.cell? ⟨wr.heap.size, 3, none⟩ = some (.slice A1 x.length c1) ∧ w'.cell? ⟨wr.heap.size, 4, none⟩ = some (.int .i64 k)) (ds := []) #[false, false, false, false, false, false, false, false, false, false, false, false, false] (by kernel_rfl) rfl rfl ⟨z0, z1, z2, z3, z4⟩ (fun hHeld => ?_); refine with_tabW dlaw.tab18 dlaw.bits18 (fun HT_ HW_ => ?_)
        refine pure_ (i := 0) (N := some 77) (v := ?_) (a' := ?_) #[true, false, false, false, false, false, false, false, false, false, false, false, false] rfl rfl (any_of HT_.out (by kernel_rfl)) (fun _ _ _ h => h) (Or.inl ⟨by rfl, ?_⟩) ?_ ?_
        rotate_left
        · intro w'
          go_simp
          with_reducible rfl
        rotate_left
        · simp only [Act.put, List.setIfInBounds_toArray, List.set_cons_zero, List.set_cons_succ, i64_w, i32_w, xu32_w, xu8_w]
          rfl
        refine pure_ (i := 3) (N := some 80) (v := ?_) (a' := ?_) #[true, false, false, true, false, false, false, false, false, false, false, false, false] rfl rfl (any_of HT_.out (by kernel_rfl)) (fun _ _ _ h => h) (Or.inl ⟨by rfl, ?_⟩) ?_ ?_
        rotate_left
        · intro w'
          go_simp
          with_reducible rfl
        rotate_left
        · simp only [Act.put, List.setIfInBounds_toArray, List.set_cons_zero, List.set_cons_succ, i64_w, i32_w, xu32_w, xu8_w]
          rfl
        refine take_ (i := 1) (N := some 78) (v := ?_) (a' := ?_) #[true, true, false, true, false, false, false, false, false, false, false, false, false] rfl rfl (take_ofW HT_.out HW_.out (by kernel_rfl)) (fun _ _ _ h => h) (Or.inl ⟨by rfl, ?_⟩) hHeld ?_ ?_
        rotate_left
        · rintro w' ⟨s0, s1, s2, s3, s4⟩
          go_simp
          with_reducible rfl
        rotate_left
        · simp only [Act.put, List.setIfInBounds_toArray, List.set_cons_zero, List.set_cons_succ, i64_w, i32_w, xu32_w, xu8_w]
          rfl
        refine take_ (i := 4) (N := some 81) (v := ?_) (a' := ?_) #[true, true, false, true, true, false, false, false, false, false, false, false, false] rfl rfl (take_ofW HT_.out HW_.out (by kernel_rfl)) (fun _ _ _ h => h) (Or.inl ⟨by rfl, ?_⟩) hHeld ?_ ?_
        rotate_left
        · rintro w' ⟨s0, s1, s2, s3, s4⟩
          go_simp
          with_reducible rfl
        rotate_left
        · simp only [Act.put, List.setIfInBounds_toArray, List.set_cons_zero, List.set_cons_succ, i64_w, i32_w, xu32_w, xu8_w]
          rfl
        refine one_ (i := 2) (N := some 79) #[true, true, true, true, true, false, false, false, false, false, false, false, false] rfl rfl (one_of HT_.out (by kernel_rfl)) (by decide) (fun K hK => ?_)
        refine goes_ Try.func12 (by kernel_rfl) rfl #[.pointer (some ⟨E, 0, none⟩), .agg #[.int .i64 d, .string n, .string t, .slice A1 x.length c1, .int .i64 k]] (by rfl) rfl rfl (by (try simp only [List.map_toArray, List.map_cons, List.map_nil]); first | done | rfl) ?_
        with_reducible refine ((HP.out.below (below_drew (Below.refl _ _))).does d n t A1 c1 x k HY.out.1 (Kd.C_drew (Kd.C_below HY.out.2 HP.out.low)) HOI.out).mono ?_
        rintro e wa ⟨rfl, hp, hk⟩
        refine ⟨_, rfl, ?_⟩
        have HPa := Aside0.mk hp
        have HBKa := Aside0.mk (hk _ _ _ HBK.out)
        refine hK.out _ _ (cells5 HBKa.out) (fun hHeld => ?_)
        clear hK K hp hk
        refine norm_ (a' := ?_) ?_ ?_
        rotate_left
        · show Act.put _ (some 79) _ = _
          simp only [Act.put, List.setIfInBounds_toArray, List.set_cons_zero, List.set_cons_succ, i64_w, i32_w, xu32_w, xu8_w]
          rfl
        refine one_ (i := 5) (N := some 82) #[true, true, true, true, true, true, false, false, false, false, false, false, false] rfl rfl (one_of HT_.out (by kernel_rfl)) (by decide) (fun K hK => ?_)
        refine goes_ Try.func23 (by kernel_rfl) rfl #[.pointer (some ⟨w2.heap.size, 0, none⟩), .agg #[.int .i64 d, .string n, .string t, .slice A1 x.length c1, .int .i64 k]] (by rfl) rfl rfl (by (try simp only [List.map_toArray, List.map_cons, List.map_nil]); first | done | rfl) ?_
        with_reducible refine (HPa.out.want HFI.out d n t A1 c1 x k HY.out.1 (Kd.C_below HY.out.2 HPa.out.low) HOI.out).mono ?_
        rintro e wb ⟨rfl, hp, hk⟩
        refine ⟨_, rfl, ?_⟩
        have HPb := Aside0.mk hp
        have HBKb := Aside0.mk (hk _ _ _ HBKa.out)
        refine hK.out _ _ (cells5 HBKb.out) (fun hHeld => ?_)
        clear hK K hp hk
        refine norm_ (a' := ?_) ?_ ?_
        rotate_left
        · show Act.put _ (some 82) _ = _
          simp only [Act.put, List.setIfInBounds_toArray, List.set_cons_zero, List.set_cons_succ, i64_w, i32_w, xu32_w, xu8_w]
          rfl
        refine pure_ (i := 6) (N := some 83) (v := ?_) (a' := ?_) #[true, true, true, true, true, true, true, false, false, false, false, false, false] rfl rfl (any_of HT_.out (by kernel_rfl)) (fun _ _ _ h => h) (Or.inl ⟨by rfl, ?_⟩) ?_ ?_
        rotate_left
        · intro w'
          go_simp
          with_reducible rfl
        rotate_left
        · simp only [Act.put, List.setIfInBounds_toArray, List.set_cons_zero, List.set_cons_succ, i64_w, i32_w, xu32_w, xu8_w]
          rfl
        refine pure_ (i := 7) (N := some 84) (v := ?_) (a' := ?_) #[true, true, true, true, true, true, true, true, false, false, false, false, false] rfl rfl (any_of HT_.out (by kernel_rfl)) (fun _ _ _ h => h) (Or.inl ⟨by rfl, ?_⟩) ?_ ?_
        rotate_left
        · intro w'
          go_simp
          with_reducible rfl
        rotate_left
        · simp only [Act.put, List.setIfInBounds_toArray, List.set_cons_zero, List.set_cons_succ, i64_w, i32_w, xu32_w, xu8_w]
          rfl
        refine pure_ (i := 8) (N := some 85) (v := ?_) (a' := ?_) #[true, true, true, true, true, true, true, true, true, false, false, false, false] rfl rfl (any_of HT_.out (by kernel_rfl)) (fun _ _ _ h => h) (Or.inl ⟨by rfl, ?_⟩) ?_ ?_
        rotate_left
        · intro w'
          go_simp
          with_reducible rfl
        rotate_left
        · simp only [Act.put, List.setIfInBounds_toArray, List.set_cons_zero, List.set_cons_succ, i64_w, i32_w, xu32_w, xu8_w]
          rfl
        refine pure_ (i := 9) (N := some 86) (v := ?_) (a' := ?_) #[true, true, true, true, true, true, true, true, true, true, false, false, false] rfl rfl (any_of HT_.out (by kernel_rfl)) (fun _ _ _ h => h) (Or.inl ⟨by rfl, ?_⟩) ?_ ?_
        rotate_left
        · intro w'
          go_simp
          with_reducible rfl
        rotate_left
        · simp only [Act.put, List.setIfInBounds_toArray, List.set_cons_zero, List.set_cons_succ, i64_w, i32_w, xu32_w, xu8_w]
          rfl
        refine one_ (i := 10) (N := some 87) #[true, true, true, true, true, true, true, true, true, true, true, false, false] rfl rfl (one_of HT_.out (by kernel_rfl)) (by decide) (fun K hK => ?_)
        refine goes_ Try.func24 (by kernel_rfl) rfl #[.pointer (some ⟨E, 0, none⟩), .pointer (some ⟨w2.heap.size, 0, none⟩)] (by rfl) rfl rfl (by (try simp only [List.map_toArray, List.map_cons, List.map_nil]); first | done | rfl) ?_
        with_reducible refine (HPb.out.same).mono ?_
        rintro e wc ⟨rfl, hb⟩
        refine ⟨_, rfl, ?_⟩
        have HPx := Aside0.mk (HPb.out.below hb)
        have HBKc := Aside0.mk ((hb.block _ (heap_lt HBKb.out)).trans HBKb.out)
        refine hK.out _ _ (cells5 HBKc.out) (fun hHeld => ?_)
        clear hK K hb
        refine norm_ (a' := ?_) ?_ ?_
        rotate_left
        · show Act.put _ (some 87) _ = _
          simp only [Act.put, List.setIfInBounds_toArray, List.set_cons_zero, List.set_cons_succ, i64_w, i32_w, xu32_w, xu8_w]
          rfl
        refine pure_ (i := 11) (N := some 88) (v := ?_) (a' := ?_) #[true, true, true, true, true, true, true, true, true, true, true, true, false] rfl rfl (any_of HT_.out (by kernel_rfl)) (fun _ _ _ h => h) (Or.inl ⟨by rfl, ?_⟩) ?_ ?_
        rotate_left
        · intro w'
          go_simp
          with_reducible rfl
        rotate_left
        · simp only [Act.put, List.setIfInBounds_toArray, List.set_cons_zero, List.set_cons_succ, i64_w, i32_w, xu32_w, xu8_w]
          rfl
        refine pure_ (i := 12) (N := some 89) (v := ?_) (a' := ?_) #[true, true, true, true, true, true, true, true, true, true, true, true, true] rfl rfl (any_of HT_.out (by kernel_rfl)) (fun _ _ _ h => h) (Or.inl ⟨by rfl, ?_⟩) ?_ ?_
        rotate_left
        · intro w'
          go_simp
          with_reducible rfl
        rotate_left
        · simp only [Act.put, List.setIfInBounds_toArray, List.set_cons_zero, List.set_cons_succ, i64_w, i32_w, xu32_w, xu8_w]
          rfl
        refine done_ (done_of HT_.out (by kernel_rfl)) ?_
        clear hHeld HT_ HW_ z0 z1 z2 z3 z4
        obtain ⟨z0, z1, z2, z3, z4⟩ := cells5 HBKc.out
        have HFJ := Aside0.mk HPx.out.fine
        obtain ⟨sn, hsn⟩ : ∃ sn : St, sn = opS room st d n t x k := ⟨_, rfl⟩
        rw [← hsn] at HPx HFJ
        clear hsn
        go_wp2_with (first
          | (go_at_call 13; (with_reducible refine (HPx.out.read t).mono ?_); rintro e wd ⟨vd, rfl, hb⟩; have HPd := Aside0.mk (HPx.out.below hb); replace z2 := pw_cell_below hb z2; clear hb)
          | (go_at_call 25; (with_reducible refine (HPd.out.rread HFJ.out t).mono ?_); rintro e we ⟨ve, rfl, hb⟩; have HPe := Aside0.mk (HPd.out.below hb); replace z2 := pw_cell_below hb z2; clear hb)
          | (go_at_call 14; (with_reducible refine (HPe.out.lasts t).mono ?_); rintro e w9 ⟨rfl, h9⟩; subst w9)
          | (go_at_call 26; (with_reducible refine (HPe.out.rlasts HFJ.out t).mono ?_); rintro e wf ⟨rfl, hb⟩; have HPf := Aside0.mk (HPe.out.below hb); replace z2 := pw_cell_below hb z2; clear hb))
        go_roundg k1
        case measure => omega
        case rel => exact ⟨i + 1, E, sn, rfl, by first | rfl | (simp; done) | (rw [wrap_id (n := (i : Int) + 1) (by omega) (by have := HMX.out; omega)]; first | rfl | (simp; done)), ⟨by have := HK.out; omega⟩, HPf⟩
    · have hi : i = m := by have := HK.out; omega
      subst hi
      go_wp2_with (fail)
      go_ret
      exact ⟨rfl, HI.out.low⟩
end Go.Proofs.Ytkdbojaoaldmbaa.G
