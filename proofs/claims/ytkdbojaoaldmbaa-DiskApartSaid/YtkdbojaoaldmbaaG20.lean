/- The law DiskApart by hand. -/
import Derived.Test.YtkdbojaoaldmbaaG19
namespace Go.Proofs.Ytkdbojaoaldmbaa.G
open Go.RowKit Go.Proofs.Ytkdbojaoaldmbaa.Q Go.Proofs.YtkdbojaoaldmbaaW.PrintWords Go.Proofs.YtkdbojaoaldmbaaW.PrintLast Go.Proofs.YtkdbojaoaldmbaaW.PrintMore
set_option linter.unusedVariables false
set_option linter.unusedSimpArgs false
attribute [local go_sem] min2_mn min_two max2_mx max_two
section
variable {w w' w1 w2 : World} {D M B D2 M2 B2 : Nat} {room r2 : Int} {dat dat' dat1 dat2 : Nat → Prop} {fs fs1 fs2 : ByteArray → Option Raw} {st st' st1 st2 : St}
/-- What stands between two acts: two disks apart. -/
structure Pair (w wr : World) (D M D2 M2 B2 : Nat) (sta stb : St) : Prop where
  mk :: (out : ∃ dat fs dat2 fs2, DiskG wr D M 16777216 w.heap.size dat fs sta ∧ DiskG wr D2 M2 16777216 B2 dat2 fs2 stb ∧ (∀ k, Own D M dat fs k → ¬ Own D2 M2 dat2 fs2 k) ∧ Below w.heap.size w wr)
theorem Pair.below {wr wq : World} {sta stb : St} (h : Pair w wr D M D2 M2 B2 sta stb) (hb : Below wr.heap.size wr wq) : Pair w wq D M D2 M2 B2 sta stb := by
  obtain ⟨dat, fs, dat2, fs2, h1, h2, h3, h4⟩ := h.out
  exact ⟨dat, fs, dat2, fs2, h1.below hb, h2.below hb, h3, h4.trans (hb.mono h4.size)⟩
theorem Pair.actA {wr : World} {sta stb : St} (h : Pair w wr D M D2 M2 B2 sta stb) (hB2 : w.heap.size ≤ B2) (d : Int) (n t : ByteArray) (A : Option Addr) (c : Nat) (x : List Int) (k : Int) (hc : x.length ≤ c) (hx : (Kd.int .u8).C wr A x.length x) (hok : OkOp n t x) :
    Calls Try.prog 12 #[.pointer (some ⟨D, 0, none⟩), .agg #[.int .i64 d, .string n, .string t, .slice A x.length c, .int .i64 k]] wr fun e w' => e = .returned (.int .i64 (opE 16777216 sta d n t x k)) ∧ Pair w w' D M D2 M2 B2 (opS 16777216 sta d n t x k) stb ∧ ∀ (j : Nat) (cs : Array Value), wr.heap[j]? = some (Obj.cells cs 31 (0, 0)) → w'.heap[j]? = some (Obj.cells cs 31 (0, 0)) := by
  obtain ⟨dat, fs, dat2, fs2, h1, h2, h3, h4⟩ := h.out
  refine (does_calls h1 d n t A c x k hc hx hok.nm hok.tt hok.bl).mono fun e w' ⟨he, hL⟩ => ⟨he, ?_⟩
  obtain ⟨dat1, fs1, hD, hW⟩ := hL.split
  obtain ⟨g1, g2⟩ := apart_step h1 h2 h3 hW
  refine ⟨⟨dat1, fs1, dat2, fs2, hD, g1, g2, h4.trans (Chg.below_mine h1 hW.chg)⟩, fun j cs hk => ?_⟩
  exact (hW.chg.block j (heap_lt hk) (fun hm => by rcases h1.mine_cells hm hk with e | e <;> cases e)).trans hk
theorem Pair.actB {wr : World} {sta stb : St} (h : Pair w wr D M D2 M2 B2 sta stb) (hB2 : w.heap.size ≤ B2) (d : Int) (n t : ByteArray) (A : Option Addr) (c : Nat) (x : List Int) (k : Int) (hc : x.length ≤ c) (hx : (Kd.int .u8).C wr A x.length x) (hok : OkOp n t x) :
    Calls Try.prog 12 #[.pointer (some ⟨D2, 0, none⟩), .agg #[.int .i64 d, .string n, .string t, .slice A x.length c, .int .i64 k]] wr fun e w' => e = .returned (.int .i64 (opE 16777216 stb d n t x k)) ∧ Pair w w' D M D2 M2 B2 sta (opS 16777216 stb d n t x k) := by
  obtain ⟨dat, fs, dat2, fs2, h1, h2, h3, h4⟩ := h.out
  refine (does_calls h2 d n t A c x k hc hx hok.nm hok.tt hok.bl).mono fun e w' ⟨he, hL⟩ => ⟨he, ?_⟩
  obtain ⟨dat1, fs1, hD, hW⟩ := hL.split
  obtain ⟨g1, g2⟩ := apart_step h2 h1 (fun k hk ho => h3 k ho hk) hW
  exact ⟨dat, fs, dat1, fs1, g1, hD, fun k hk ho => g2 k ho hk, h4.trans ((Chg.below_mine h2 hW.chg).mono hB2)⟩
theorem Pair.listA {wr : World} {sta stb : St} (h : Pair w wr D M D2 M2 B2 sta stb) : Calls Try.prog 11 #[.pointer (some ⟨D, 0, none⟩)] wr fun e w' => ∃ A c, e = .returned (.slice A sta.length c) ∧ Below wr.heap.size wr w' := by
  obtain ⟨dat, fs, dat2, fs2, h1, h2, h3, h4⟩ := h.out
  refine (list_calls h1).mono fun e w' ⟨v, he, hR, hb⟩ => ?_
  obtain ⟨A, c, hv⟩ := Kd.R_slice hR
  rw [List.length_map] at hv
  subst hv
  exact ⟨A, c, he, hb⟩
theorem Pair.readA {wr : World} {sta stb : St} (h : Pair w wr D M D2 M2 B2 sta stb) (s : ByteArray) : Calls Try.prog 13 #[.pointer (some ⟨D, 0, none⟩), .string s] wr fun e w' => ∃ A c, e = .returned (.tuple #[.slice A (readB sta s).length c, .int .i64 (readE sta s)]) ∧ (Kd.int .u8).R 5 w' wr.heap.size (fun _ => True) (.slice A (readB sta s).length c) (readB sta s) ∧ Below wr.heap.size wr w' := by
  obtain ⟨dat, fs, dat2, fs2, h1, h2, h3, h4⟩ := h.out
  refine (read_calls h1 s).mono fun e w' ⟨v, he, hR, hb⟩ => ?_
  obtain ⟨A, c, hv⟩ := Kd.R_slice hR
  subst hv
  exact ⟨A, c, he, hR, hb⟩
theorem Pair.readB {wr : World} {sta stb : St} (h : Pair w wr D M D2 M2 B2 sta stb) (s : ByteArray) : Calls Try.prog 13 #[.pointer (some ⟨D2, 0, none⟩), .string s] wr fun e w' => ∃ A c, e = .returned (.tuple #[.slice A (G.readB stb s).length c, .int .i64 (readE stb s)]) ∧ (Kd.int .u8).R 5 w' wr.heap.size (fun _ => True) (.slice A (G.readB stb s).length c) (G.readB stb s) ∧ Below wr.heap.size wr w' := by
  obtain ⟨dat, fs, dat2, fs2, h1, h2, h3, h4⟩ := h.out
  refine (read_calls h2 s).mono fun e w' ⟨v, he, hR, hb⟩ => ?_
  obtain ⟨A, c, hv⟩ := Kd.R_slice hR
  subst hv
  exact ⟨A, c, he, hR, hb⟩
theorem Pair.lastsA {wr : World} {sta stb : St} (h : Pair w wr D M D2 M2 B2 sta stb) (s : ByteArray) : Calls Try.prog 14 #[.pointer (some ⟨D, 0, none⟩), .string s] wr fun e w' => e = .returned (.tuple #[.int .i64 (lastsR sta s).1, .int .i64 (lastsR sta s).2]) ∧ w' = wr := by
  obtain ⟨dat, fs, dat2, fs2, h1, h2, h3, h4⟩ := h.out
  exact lasts_calls h1 s
theorem Pair.lastsB {wr : World} {sta stb : St} (h : Pair w wr D M D2 M2 B2 sta stb) (s : ByteArray) : Calls Try.prog 14 #[.pointer (some ⟨D2, 0, none⟩), .string s] wr fun e w' => e = .returned (.tuple #[.int .i64 (lastsR stb s).1, .int .i64 (lastsR stb s).2]) ∧ w' = wr := by
  obtain ⟨dat, fs, dat2, fs2, h1, h2, h3, h4⟩ := h.out
  exact lasts_calls h2 s
theorem Pair.sorted {wr : World} {sta stb : St} (h : Pair w wr D M D2 M2 B2 sta stb) : Sorted sta ∧ Sorted stb := by
  obtain ⟨dat, fs, dat2, fs2, h1, h2, h3, h4⟩ := h.out
  exact ⟨h1.files.sorted, h2.files.sorted⟩
theorem Pair.low {wr : World} {sta stb : St} (h : Pair w wr D M D2 M2 B2 sta stb) : Below w.heap.size w wr := by
  obtain ⟨dat, fs, dat2, fs2, h1, h2, h3, h4⟩ := h.out
  exact h4
theorem Pair.small {wr : World} {sta stb : St} (h : Pair w wr D M D2 M2 B2 sta stb) (s : ByteArray) : (G.readB sta s).length ≤ 16777216 := by
  obtain ⟨dat, fs, dat2, fs2, h1, h2, h3, h4⟩ := h.out
  unfold G.readB
  cases hl : look sta s with
  | none => exact Nat.zero_le _
  | some f => exact file_small h1 hl
theorem pair_new {w w1 w2 : World} {D M D2 M2 : Nat} (hD : DiskG w1 D M 16777216 w.heap.size (fun _ => False) (fun _ => none) []) (hb1 : Below w.heap.size w w1) (hD2 : DiskG w2 D2 M2 16777216 w1.heap.size (fun _ => False) (fun _ => none) []) (hb2 : Below w1.heap.size w1 w2) : Pair w w2 D M D2 M2 w1.heap.size [] [] :=
  ⟨_, _, _, _, hD.below hb2, hD2, fun k hk ho => by
    have h1 := hD.own_lt hk
    rcases ho with h | h
    · have := (hD2.mine_ge h).1; omega
    · exact h, hb1.trans (hb2.mono hb1.size)⟩
theorem sumB_le {l : List S31} {m i : Nat} (h : sumB (l.take m) ≤ 30000) (hi : i ≤ m) : sumB (l.take i) ≤ 30000 := by
  have key : ∀ (l : List S31) (i : Nat), sumB (l.take i) ≤ sumB l := fun l => by
    induction l with
    | nil => intro i; simp
    | cons x r ih => intro i; cases i with
      | zero => simp [sumB]
      | succ i => simp only [List.take_succ_cons, sumB]; have := ih i; omega
  have := key (l.take m) i
  rw [List.take_take, Nat.min_eq_left hi] at this
  omega
/-- What the loop keeps. -/
def ApInv (w wr : World) (D M D2 M2 B2 : Nat) (name : ByteArray) (l : List S31) (i : Nat) (sta stb : St) : Prop :=
  Pair w wr D M D2 M2 B2 sta stb ∧ look sta name = look stb name ∧ (∀ f ∈ stb, f.n = name) ∧ total sta ≤ sumB (l.take i) ∧ total stb ≤ sumB (l.take i)
end
set_option maxHeartbeats 8000000 in
set_option maxRecDepth 100000 in
theorem apart_law (A : Option Addr) (c : Nat) (l : List S31) (name : ByteArray) (w : World) (hr : k31.C w A l.length l) (hc : l.length ≤ c) (hok : OkOps l) :
    Calls Try.prog 3 #[.slice A l.length c, .string name] w fun e w' => e = .returned (.bool true) ∧ Below w.heap.size w w' := by
  have HR := Aside0.mk hr
  have HC := Aside0.mk hc
  have HOK := Aside0.mk hok
  clear hr hc hok
  go_enter Try.func3, Try.ntmps3
  go_wp2_with (first
    | (go_at_call 8; (with_reducible refine (new_calls 16777216 (by decide) (by decide) w).mono ?_); rintro e w1 ⟨D, M, rfl, hD, hb⟩; have HD := Aside0.mk hD; have HN := Aside0.mk hb; clear hD hb)
    | (go_at_call 8; (with_reducible refine (new_calls 16777216 (by decide) (by decide) w1).mono ?_); rintro e w2 ⟨D2, M2, rfl, hD, hb⟩; have HP2 := Aside0.mk (pair_new HD.out HN.out hD hb); clear hD hb)
    | (go_at_call 9; (with_reducible refine (Go.Proofs.Ytkdbojaoaldmbaa.D.live_calls w2).mono ?_); rintro e w3 ⟨rfl, hb⟩; have HP3 := Aside0.mk (HP2.out.below hb); clear hb)
    | (go_at_call 10; (with_reducible refine (few2_calls A c l w3 HC.out (Kd.C_below HR.out HP3.out.low) HOK.out.len).mono ?_); rintro e w4 ⟨m, hm, rfl, hb, hs⟩; have HP4 := Aside0.mk (HP3.out.below hb); have HM := Aside0.mk (And.intro hm hs); clear hb hm hs))
  have HBB : Aside0 (w.heap.size ≤ w1.heap.size) := ⟨HN.out.size⟩
  clear HD HN HP2 HP3
  go_loopg [49] (m + 1) (fun kq v49 wr => ∃ (i : Nat) (sta stb : St), v49 = .int .i64 i ∧ Aside0 (kq + i = m + 1 ∧ i ≤ m) ∧ Aside0 (ApInv w wr D M D2 M2 w1.heap.size name l i sta stb))
  case atStart => exact ⟨0, [], [], rfl, ⟨by omega⟩, ⟨HP4.out, rfl, (fun f h => by cases h), by simp [total], by simp [total]⟩⟩
  case round =>
    obtain ⟨i, sta, stb, rfl, HK, HI⟩ := hrel
    clear HP4
    cases gk with
    | zero => have := HK.out; omega
    | succ k1 =>
    by_cases hlt : i < m
    · have hi0 : (0 : Int) ≤ (i : Int) := by omega
      have hi1 : (i : Int) < (m : Int) := by omega
      have hil : i < l.length := by have := HM.out.1; omega
      obtain ⟨hP, hlk, hone, hta, htb⟩ := HI.out
      obtain ⟨ad, A1, c1, hAe, x0, x1, x2, x3, x4, hc1, hd1⟩ := at_T31 HR.out (i : Int) hi0 (by omega)
      replace x0 := (hP.low.cell (World.block_lt_of_cell? w _ x0)).trans x0
      replace x1 := (hP.low.cell (World.block_lt_of_cell? w _ x1)).trans x1
      replace x2 := (hP.low.cell (World.block_lt_of_cell? w _ x2)).trans x2
      replace x3 := (hP.low.cell (World.block_lt_of_cell? w _ x3)).trans x3
      replace x4 := (hP.low.cell (World.block_lt_of_cell? w _ x4)).trans x4
      subst hAe
      simp only [Int.toNat_natCast] at x0 x1 x2 x3 x4
      have HOI := Aside0.mk (HOK.out.at_ hil)
      have hml : m ≤ c := by have := HM.out; have := HC.out; omega
      have hmx : l.length ≤ 140737488355328 := HOK.out.len
      have hsum := sumB_take l i hil
      have hsm : sumB (l.take (i + 1)) ≤ 30000 := sumB_le HM.out.2 (by omega)
      generalize rd_T31 l (i : Int) = y at *
      obtain ⟨d, n, t, x, k⟩ := y
      dsimp only at *
      have hb1 := below_alloc (Below.refl wr.heap.size wr) (.cells #[.int .i64 d, .string n, .string t, .slice A1 x.length c1, .int .i64 k] 31)
      have HPc := Aside0.mk (hP.below hb1)
      have HY := Aside0.mk (And.intro hc1 hd1)
      have HG := Aside0.mk (And.intro hlk (And.intro hone (And.intro hta (And.intro htb (And.intro hsum hsm)))))
      have HBK := Aside0.mk (heap_alloc_new wr (.cells #[.int .i64 d, .string n, .string t, .slice A1 x.length c1, .int .i64 k] 31))
      clear hd1 hc1 hP hlk hone hta htb hsum hsm hb1
      by_cases d4 : d = 4
      · subst d4
        cases hb1 : (n.toList == name.toList) <;> cases hb2 : (t.toList == name.toList)
        · have HN1 : Aside0 (n ≠ name) := ⟨fun e => by rw [e] at hb1; simp at hb1⟩
          have HN2 : Aside0 (t ≠ name) := ⟨fun e => by rw [e] at hb2; simp at hb2⟩
          have hop := op_other (room := 16777216) (d := 4) (n := n) (t := t) (name := name) (x := x) (k := k) HPc.out.sorted.1 HN1.out (fun _ => HN2.out) (by omega)
          have htt := op_total (room := 16777216) (d := 4) (n := n) (t := t) (x := x) (k := k) HPc.out.sorted.1
          have HEQ := Aside0.mk (And.intro rfl (And.intro hop htt) : (0 = 0) ∧ _ ∧ _)
          clear hop htt
          go_wp2_with (first
            | (go_at_call 11; (with_reducible refine (HPc.out.listA).mono ?_); rintro e w8 ⟨A8, c8, rfl, hb⟩; have HPn := Aside0.mk (HPc.out.below hb); have hk8 := (hb.block _ (heap_lt HBK.out)).trans HBK.out; clear HBK HPc; have HPc := HPn; have HBK := Aside0.mk hk8; obtain ⟨z0, z1, z2, z3, z4⟩ := cells5 hk8; clear hk8 hb HPn)
            | (go_at_call 12; (with_reducible refine (HPc.out.actA HBB.out 4 n t A1 c1 x k HY.out.1 (Kd.C_below HY.out.2 HPc.out.low) HOI.out).mono ?_); rintro e w5 ⟨rfl, hp, hk⟩; have HPd := Aside0.mk hp; have hk5 := hk _ _ HBK.out; obtain ⟨z0, z1, z2, z3, z4⟩ := cells5 hk5; clear hk5 hk hp HPc HBK)
            | (go_at_call 12; (with_reducible refine (HPd.out.actB HBB.out 4 n t A1 c1 x k HY.out.1 (Kd.C_below HY.out.2 HPd.out.low) HOI.out).mono ?_); rintro e w6 ⟨rfl, hp⟩; rw [HEQ.out.1]; have HPe := Aside0.mk hp; clear hp))
          go_roundg k1
          case measure => omega
          case rel => exact ⟨i + 1, _, stb, by first | rfl | (simp; done) | (rw [wrap_id (n := (i : Int) + 1) (by omega) (by have := HM.out.1; omega)]; first | rfl | (simp; done)), ⟨by have := HK.out; omega⟩, ⟨HPd.out, HEQ.out.2.1.trans HG.out.1, HG.out.2.1, by have h1 := HG.out.2.2; have h2 := HEQ.out.2.2; omega, by have := HG.out.2.2; omega⟩⟩
        · skip
          go_wp2_with (first
            | (go_at_call 11; (with_reducible refine (HPc.out.listA).mono ?_); rintro e w8 ⟨A8, c8, rfl, hb⟩; have HPn := Aside0.mk (HPc.out.below hb); have hk8 := (hb.block _ (heap_lt HBK.out)).trans HBK.out; clear HBK HPc; have HPc := HPn; have HBK := Aside0.mk hk8; obtain ⟨z0, z1, z2, z3, z4⟩ := cells5 hk8; clear hk8 hb HPn)
            | (go_at_call 12; (with_reducible refine (HPc.out.actA HBB.out 4 n t A1 c1 x k HY.out.1 (Kd.C_below HY.out.2 HPc.out.low) HOI.out).mono ?_); rintro e w5 ⟨rfl, hp, hk⟩; have HPd := Aside0.mk hp; have hk5 := hk _ _ HBK.out; obtain ⟨z0, z1, z2, z3, z4⟩ := cells5 hk5; clear hk5 hk hp HPc HBK)
            | (go_at_call 12; (with_reducible refine (HPd.out.actB HBB.out 4 n t A1 c1 x k HY.out.1 (Kd.C_below HY.out.2 HPd.out.low) HOI.out).mono ?_); rintro e w6 ⟨rfl, hp⟩; rw [HEQ.out.1]; have HPe := Aside0.mk hp; clear hp))
          go_roundg k1
          case measure => omega
          case rel => exact ⟨i + 1, sta, stb, by first | rfl | (simp; done) | (rw [wrap_id (n := (i : Int) + 1) (by omega) (by have := HM.out.1; omega)]; first | rfl | (simp; done)), ⟨by have := HK.out; omega⟩, ⟨HPc.out, HG.out.1, HG.out.2.1, by have := HG.out.2.2; omega, by have := HG.out.2.2; omega⟩⟩
        · skip
          go_wp2_with (first
            | (go_at_call 11; (with_reducible refine (HPc.out.listA).mono ?_); rintro e w8 ⟨A8, c8, rfl, hb⟩; have HPn := Aside0.mk (HPc.out.below hb); have hk8 := (hb.block _ (heap_lt HBK.out)).trans HBK.out; clear HBK HPc; have HPc := HPn; have HBK := Aside0.mk hk8; obtain ⟨z0, z1, z2, z3, z4⟩ := cells5 hk8; clear hk8 hb HPn)
            | (go_at_call 12; (with_reducible refine (HPc.out.actA HBB.out 4 n t A1 c1 x k HY.out.1 (Kd.C_below HY.out.2 HPc.out.low) HOI.out).mono ?_); rintro e w5 ⟨rfl, hp, hk⟩; have HPd := Aside0.mk hp; have hk5 := hk _ _ HBK.out; obtain ⟨z0, z1, z2, z3, z4⟩ := cells5 hk5; clear hk5 hk hp HPc HBK)
            | (go_at_call 12; (with_reducible refine (HPd.out.actB HBB.out 4 n t A1 c1 x k HY.out.1 (Kd.C_below HY.out.2 HPd.out.low) HOI.out).mono ?_); rintro e w6 ⟨rfl, hp⟩; rw [HEQ.out.1]; have HPe := Aside0.mk hp; clear hp))
          go_roundg k1
          case measure => omega
          case rel => exact ⟨i + 1, sta, stb, by first | rfl | (simp; done) | (rw [wrap_id (n := (i : Int) + 1) (by omega) (by have := HM.out.1; omega)]; first | rfl | (simp; done)), ⟨by have := HK.out; omega⟩, ⟨HPc.out, HG.out.1, HG.out.2.1, by have := HG.out.2.2; omega, by have := HG.out.2.2; omega⟩⟩
        · have HN1 : Aside0 (n = name) := ⟨str_inj (by simpa using hb1)⟩
          have HN2 : Aside0 (t = name) := ⟨str_inj (by simpa using hb2)⟩
          have hop := op_same (room := 16777216) (d := 4) (n := n) (t := t) (name := name) (x := x) (k := k) HPc.out.sorted.1 HPc.out.sorted.2 HG.out.1 HG.out.2.1 (.inl HN1.out) (fun _ => HN2.out) (fun h => by omega) (by have := HG.out.2.2; omega) (by have := HG.out.2.2; omega)
          have ht1 := op_total (room := 16777216) (d := 4) (n := n) (t := t) (x := x) (k := k) HPc.out.sorted.1
          have ht2 := op_total (room := 16777216) (d := 4) (n := n) (t := t) (x := x) (k := k) HPc.out.sorted.2
          have HEQ := Aside0.mk (And.intro hop.1 (And.intro hop.2 (And.intro ht1 ht2)))
          clear hop ht1 ht2
          go_wp2_with (first
            | (go_at_call 11; (with_reducible refine (HPc.out.listA).mono ?_); rintro e w8 ⟨A8, c8, rfl, hb⟩; have HPn := Aside0.mk (HPc.out.below hb); have hk8 := (hb.block _ (heap_lt HBK.out)).trans HBK.out; clear HBK HPc; have HPc := HPn; have HBK := Aside0.mk hk8; obtain ⟨z0, z1, z2, z3, z4⟩ := cells5 hk8; clear hk8 hb HPn)
            | (go_at_call 12; (with_reducible refine (HPc.out.actA HBB.out 4 n t A1 c1 x k HY.out.1 (Kd.C_below HY.out.2 HPc.out.low) HOI.out).mono ?_); rintro e w5 ⟨rfl, hp, hk⟩; have HPd := Aside0.mk hp; have hk5 := hk _ _ HBK.out; obtain ⟨z0, z1, z2, z3, z4⟩ := cells5 hk5; clear hk5 hk hp HPc HBK)
            | (go_at_call 12; (with_reducible refine (HPd.out.actB HBB.out 4 n t A1 c1 x k HY.out.1 (Kd.C_below HY.out.2 HPd.out.low) HOI.out).mono ?_); rintro e w6 ⟨rfl, hp⟩; rw [HEQ.out.1]; have HPe := Aside0.mk hp; clear hp))
          go_roundg k1
          case measure => omega
          case rel => exact ⟨i + 1, _, _, by first | rfl | (simp; done) | (rw [wrap_id (n := (i : Int) + 1) (by omega) (by have := HM.out.1; omega)]; first | rfl | (simp; done)), ⟨by have := HK.out; omega⟩, ⟨HPe.out, HEQ.out.2.1.1, HEQ.out.2.1.2, by have h1 := HG.out.2.2; have h2 := HEQ.out.2.2.1; omega, by have h1 := HG.out.2.2; have h2 := HEQ.out.2.2.2; omega⟩⟩
      · by_cases d0 : d = 0
        · subst d0
          clear d4
          by_cases h64 : (sta.length : Int) ≥ 64
          · skip
            go_wp2_with (first
              | (go_at_call 11; (with_reducible refine (HPc.out.listA).mono ?_); rintro e w8 ⟨A8, c8, rfl, hb⟩; have HPn := Aside0.mk (HPc.out.below hb); have hk8 := (hb.block _ (heap_lt HBK.out)).trans HBK.out; clear HBK HPc; have HPc := HPn; have HBK := Aside0.mk hk8; obtain ⟨z0, z1, z2, z3, z4⟩ := cells5 hk8; clear hk8 hb HPn)
              | (go_at_call 12; (with_reducible refine (HPc.out.actA HBB.out 0 n t A1 c1 x k HY.out.1 (Kd.C_below HY.out.2 HPc.out.low) HOI.out).mono ?_); rintro e w5 ⟨rfl, hp, hk⟩; have HPd := Aside0.mk hp; have hk5 := hk _ _ HBK.out; obtain ⟨z0, z1, z2, z3, z4⟩ := cells5 hk5; clear hk5 hk hp HPc HBK)
              | (go_at_call 12; (with_reducible refine (HPd.out.actB HBB.out 0 n t A1 c1 x k HY.out.1 (Kd.C_below HY.out.2 HPd.out.low) HOI.out).mono ?_); rintro e w6 ⟨rfl, hp⟩; rw [HEQ.out.1]; have HPe := Aside0.mk hp; clear hp))
            go_roundg k1
            case measure => omega
            case rel => exact ⟨i + 1, sta, stb, by first | rfl | (simp; done) | (rw [wrap_id (n := (i : Int) + 1) (by omega) (by have := HM.out.1; omega)]; first | rfl | (simp; done)), ⟨by have := HK.out; omega⟩, ⟨HPc.out, HG.out.1, HG.out.2.1, by have := HG.out.2.2; omega, by have := HG.out.2.2; omega⟩⟩
          · have H64 := Aside0.mk h64
            cases hb1 : (n.toList == name.toList)
            · have HN1 : Aside0 (n ≠ name) := ⟨fun e => by rw [e] at hb1; simp at hb1⟩
              have hop := op_other (room := 16777216) (d := 0) (n := n) (t := t) (name := name) (x := x) (k := k) HPc.out.sorted.1 HN1.out (fun h => by omega) (by omega)
              have htt := op_total (room := 16777216) (d := 0) (n := n) (t := t) (x := x) (k := k) HPc.out.sorted.1
              have HEQ := Aside0.mk (And.intro rfl (And.intro hop htt) : (0 = 0) ∧ _ ∧ _)
              clear hop htt
              go_wp2_with (first
                | (go_at_call 11; (with_reducible refine (HPc.out.listA).mono ?_); rintro e w8 ⟨A8, c8, rfl, hb⟩; have HPn := Aside0.mk (HPc.out.below hb); have hk8 := (hb.block _ (heap_lt HBK.out)).trans HBK.out; clear HBK HPc; have HPc := HPn; have HBK := Aside0.mk hk8; obtain ⟨z0, z1, z2, z3, z4⟩ := cells5 hk8; clear hk8 hb HPn)
                | (go_at_call 12; (with_reducible refine (HPc.out.actA HBB.out 0 n t A1 c1 x k HY.out.1 (Kd.C_below HY.out.2 HPc.out.low) HOI.out).mono ?_); rintro e w5 ⟨rfl, hp, hk⟩; have HPd := Aside0.mk hp; have hk5 := hk _ _ HBK.out; obtain ⟨z0, z1, z2, z3, z4⟩ := cells5 hk5; clear hk5 hk hp HPc HBK)
                | (go_at_call 12; (with_reducible refine (HPd.out.actB HBB.out 0 n t A1 c1 x k HY.out.1 (Kd.C_below HY.out.2 HPd.out.low) HOI.out).mono ?_); rintro e w6 ⟨rfl, hp⟩; rw [HEQ.out.1]; have HPe := Aside0.mk hp; clear hp))
              go_roundg k1
              case measure => omega
              case rel => exact ⟨i + 1, _, stb, by first | rfl | (simp; done) | (rw [wrap_id (n := (i : Int) + 1) (by omega) (by have := HM.out.1; omega)]; first | rfl | (simp; done)), ⟨by have := HK.out; omega⟩, ⟨HPd.out, HEQ.out.2.1.trans HG.out.1, HG.out.2.1, by have h1 := HG.out.2.2; have h2 := HEQ.out.2.2; omega, by have := HG.out.2.2; omega⟩⟩
            · have HN1 : Aside0 (n = name) := ⟨str_inj (by simpa using hb1)⟩
              have hop := op_same (room := 16777216) (d := 0) (n := n) (t := t) (name := name) (x := x) (k := k) HPc.out.sorted.1 HPc.out.sorted.2 HG.out.1 HG.out.2.1 (.inl HN1.out) (fun h => by omega) (fun _ => by have := H64.out; omega) (by have := HG.out.2.2; omega) (by have := HG.out.2.2; omega)
              have ht1 := op_total (room := 16777216) (d := 0) (n := n) (t := t) (x := x) (k := k) HPc.out.sorted.1
              have ht2 := op_total (room := 16777216) (d := 0) (n := n) (t := t) (x := x) (k := k) HPc.out.sorted.2
              have HEQ := Aside0.mk (And.intro hop.1 (And.intro hop.2 (And.intro ht1 ht2)))
              clear hop ht1 ht2
              go_wp2_with (first
                | (go_at_call 11; (with_reducible refine (HPc.out.listA).mono ?_); rintro e w8 ⟨A8, c8, rfl, hb⟩; have HPn := Aside0.mk (HPc.out.below hb); have hk8 := (hb.block _ (heap_lt HBK.out)).trans HBK.out; clear HBK HPc; have HPc := HPn; have HBK := Aside0.mk hk8; obtain ⟨z0, z1, z2, z3, z4⟩ := cells5 hk8; clear hk8 hb HPn)
                | (go_at_call 12; (with_reducible refine (HPc.out.actA HBB.out 0 n t A1 c1 x k HY.out.1 (Kd.C_below HY.out.2 HPc.out.low) HOI.out).mono ?_); rintro e w5 ⟨rfl, hp, hk⟩; have HPd := Aside0.mk hp; have hk5 := hk _ _ HBK.out; obtain ⟨z0, z1, z2, z3, z4⟩ := cells5 hk5; clear hk5 hk hp HPc HBK)
                | (go_at_call 12; (with_reducible refine (HPd.out.actB HBB.out 0 n t A1 c1 x k HY.out.1 (Kd.C_below HY.out.2 HPd.out.low) HOI.out).mono ?_); rintro e w6 ⟨rfl, hp⟩; rw [HEQ.out.1]; have HPe := Aside0.mk hp; clear hp))
              go_roundg k1
              case measure => omega
              case rel => exact ⟨i + 1, _, _, by first | rfl | (simp; done) | (rw [wrap_id (n := (i : Int) + 1) (by omega) (by have := HM.out.1; omega)]; first | rfl | (simp; done)), ⟨by have := HK.out; omega⟩, ⟨HPe.out, HEQ.out.2.1.1, HEQ.out.2.1.2, by have h1 := HG.out.2.2; have h2 := HEQ.out.2.2.1; omega, by have h1 := HG.out.2.2; have h2 := HEQ.out.2.2.2; omega⟩⟩
        · by_cases d5 : d = 5
          · subst d5
            clear d4 d0
            cases hb1 : (n.toList == name.toList)
            · skip
              have hop := op_same (room := 16777216) (d := 5) (n := n) (t := t) (name := name) (x := x) (k := k) HPc.out.sorted.1 HPc.out.sorted.2 HG.out.1 HG.out.2.1 (.inr rfl) (fun h => by omega) (fun h => by omega) (by have := HG.out.2.2; omega) (by have := HG.out.2.2; omega)
              have ht1 := op_total (room := 16777216) (d := 5) (n := n) (t := t) (x := x) (k := k) HPc.out.sorted.1
              have ht2 := op_total (room := 16777216) (d := 5) (n := n) (t := t) (x := x) (k := k) HPc.out.sorted.2
              have HEQ := Aside0.mk (And.intro hop.1 (And.intro hop.2 (And.intro ht1 ht2)))
              clear hop ht1 ht2
              go_wp2_with (first
                | (go_at_call 11; (with_reducible refine (HPc.out.listA).mono ?_); rintro e w8 ⟨A8, c8, rfl, hb⟩; have HPn := Aside0.mk (HPc.out.below hb); have hk8 := (hb.block _ (heap_lt HBK.out)).trans HBK.out; clear HBK HPc; have HPc := HPn; have HBK := Aside0.mk hk8; obtain ⟨z0, z1, z2, z3, z4⟩ := cells5 hk8; clear hk8 hb HPn)
                | (go_at_call 12; (with_reducible refine (HPc.out.actA HBB.out 5 n t A1 c1 x k HY.out.1 (Kd.C_below HY.out.2 HPc.out.low) HOI.out).mono ?_); rintro e w5 ⟨rfl, hp, hk⟩; have HPd := Aside0.mk hp; have hk5 := hk _ _ HBK.out; obtain ⟨z0, z1, z2, z3, z4⟩ := cells5 hk5; clear hk5 hk hp HPc HBK)
                | (go_at_call 12; (with_reducible refine (HPd.out.actB HBB.out 5 n t A1 c1 x k HY.out.1 (Kd.C_below HY.out.2 HPd.out.low) HOI.out).mono ?_); rintro e w6 ⟨rfl, hp⟩; rw [HEQ.out.1]; have HPe := Aside0.mk hp; clear hp))
              go_roundg k1
              case measure => omega
              case rel => exact ⟨i + 1, _, _, by first | rfl | (simp; done) | (rw [wrap_id (n := (i : Int) + 1) (by omega) (by have := HM.out.1; omega)]; first | rfl | (simp; done)), ⟨by have := HK.out; omega⟩, ⟨HPe.out, HEQ.out.2.1.1, HEQ.out.2.1.2, by have h1 := HG.out.2.2; have h2 := HEQ.out.2.2.1; omega, by have h1 := HG.out.2.2; have h2 := HEQ.out.2.2.2; omega⟩⟩
            · skip
              have hop := op_same (room := 16777216) (d := 5) (n := n) (t := t) (name := name) (x := x) (k := k) HPc.out.sorted.1 HPc.out.sorted.2 HG.out.1 HG.out.2.1 (.inr rfl) (fun h => by omega) (fun h => by omega) (by have := HG.out.2.2; omega) (by have := HG.out.2.2; omega)
              have ht1 := op_total (room := 16777216) (d := 5) (n := n) (t := t) (x := x) (k := k) HPc.out.sorted.1
              have ht2 := op_total (room := 16777216) (d := 5) (n := n) (t := t) (x := x) (k := k) HPc.out.sorted.2
              have HEQ := Aside0.mk (And.intro hop.1 (And.intro hop.2 (And.intro ht1 ht2)))
              clear hop ht1 ht2
              go_wp2_with (first
                | (go_at_call 11; (with_reducible refine (HPc.out.listA).mono ?_); rintro e w8 ⟨A8, c8, rfl, hb⟩; have HPn := Aside0.mk (HPc.out.below hb); have hk8 := (hb.block _ (heap_lt HBK.out)).trans HBK.out; clear HBK HPc; have HPc := HPn; have HBK := Aside0.mk hk8; obtain ⟨z0, z1, z2, z3, z4⟩ := cells5 hk8; clear hk8 hb HPn)
                | (go_at_call 12; (with_reducible refine (HPc.out.actA HBB.out 5 n t A1 c1 x k HY.out.1 (Kd.C_below HY.out.2 HPc.out.low) HOI.out).mono ?_); rintro e w5 ⟨rfl, hp, hk⟩; have HPd := Aside0.mk hp; have hk5 := hk _ _ HBK.out; obtain ⟨z0, z1, z2, z3, z4⟩ := cells5 hk5; clear hk5 hk hp HPc HBK)
                | (go_at_call 12; (with_reducible refine (HPd.out.actB HBB.out 5 n t A1 c1 x k HY.out.1 (Kd.C_below HY.out.2 HPd.out.low) HOI.out).mono ?_); rintro e w6 ⟨rfl, hp⟩; rw [HEQ.out.1]; have HPe := Aside0.mk hp; clear hp))
              go_roundg k1
              case measure => omega
              case rel => exact ⟨i + 1, _, _, by first | rfl | (simp; done) | (rw [wrap_id (n := (i : Int) + 1) (by omega) (by have := HM.out.1; omega)]; first | rfl | (simp; done)), ⟨by have := HK.out; omega⟩, ⟨HPe.out, HEQ.out.2.1.1, HEQ.out.2.1.2, by have h1 := HG.out.2.2; have h2 := HEQ.out.2.2.1; omega, by have h1 := HG.out.2.2; have h2 := HEQ.out.2.2.2; omega⟩⟩
          · cases hb1 : (n.toList == name.toList)
            · have HN1 : Aside0 (n ≠ name) := ⟨fun e => by rw [e] at hb1; simp at hb1⟩
              have hop := op_other (room := 16777216) (d := d) (n := n) (t := t) (name := name) (x := x) (k := k) HPc.out.sorted.1 HN1.out (fun h => absurd h d4) (by omega)
              have htt := op_total (room := 16777216) (d := d) (n := n) (t := t) (x := x) (k := k) HPc.out.sorted.1
              have HEQ := Aside0.mk (And.intro rfl (And.intro hop htt) : (0 = 0) ∧ _ ∧ _)
              clear hop htt
              go_wp2_with (first
                | (go_at_call 11; (with_reducible refine (HPc.out.listA).mono ?_); rintro e w8 ⟨A8, c8, rfl, hb⟩; have HPn := Aside0.mk (HPc.out.below hb); have hk8 := (hb.block _ (heap_lt HBK.out)).trans HBK.out; clear HBK HPc; have HPc := HPn; have HBK := Aside0.mk hk8; obtain ⟨z0, z1, z2, z3, z4⟩ := cells5 hk8; clear hk8 hb HPn)
                | (go_at_call 12; (with_reducible refine (HPc.out.actA HBB.out d n t A1 c1 x k HY.out.1 (Kd.C_below HY.out.2 HPc.out.low) HOI.out).mono ?_); rintro e w5 ⟨rfl, hp, hk⟩; have HPd := Aside0.mk hp; have hk5 := hk _ _ HBK.out; obtain ⟨z0, z1, z2, z3, z4⟩ := cells5 hk5; clear hk5 hk hp HPc HBK)
                | (go_at_call 12; (with_reducible refine (HPd.out.actB HBB.out d n t A1 c1 x k HY.out.1 (Kd.C_below HY.out.2 HPd.out.low) HOI.out).mono ?_); rintro e w6 ⟨rfl, hp⟩; rw [HEQ.out.1]; have HPe := Aside0.mk hp; clear hp))
              go_roundg k1
              case measure => omega
              case rel => exact ⟨i + 1, _, stb, by first | rfl | (simp; done) | (rw [wrap_id (n := (i : Int) + 1) (by omega) (by have := HM.out.1; omega)]; first | rfl | (simp; done)), ⟨by have := HK.out; omega⟩, ⟨HPd.out, HEQ.out.2.1.trans HG.out.1, HG.out.2.1, by have h1 := HG.out.2.2; have h2 := HEQ.out.2.2; omega, by have := HG.out.2.2; omega⟩⟩
            · have HN1 : Aside0 (n = name) := ⟨str_inj (by simpa using hb1)⟩
              have hop := op_same (room := 16777216) (d := d) (n := n) (t := t) (name := name) (x := x) (k := k) HPc.out.sorted.1 HPc.out.sorted.2 HG.out.1 HG.out.2.1 (.inl HN1.out) (fun h => absurd h d4) (fun h => absurd h d0) (by have := HG.out.2.2; omega) (by have := HG.out.2.2; omega)
              have ht1 := op_total (room := 16777216) (d := d) (n := n) (t := t) (x := x) (k := k) HPc.out.sorted.1
              have ht2 := op_total (room := 16777216) (d := d) (n := n) (t := t) (x := x) (k := k) HPc.out.sorted.2
              have HEQ := Aside0.mk (And.intro hop.1 (And.intro hop.2 (And.intro ht1 ht2)))
              clear hop ht1 ht2
              go_wp2_with (first
                | (go_at_call 11; (with_reducible refine (HPc.out.listA).mono ?_); rintro e w8 ⟨A8, c8, rfl, hb⟩; have HPn := Aside0.mk (HPc.out.below hb); have hk8 := (hb.block _ (heap_lt HBK.out)).trans HBK.out; clear HBK HPc; have HPc := HPn; have HBK := Aside0.mk hk8; obtain ⟨z0, z1, z2, z3, z4⟩ := cells5 hk8; clear hk8 hb HPn)
                | (go_at_call 12; (with_reducible refine (HPc.out.actA HBB.out d n t A1 c1 x k HY.out.1 (Kd.C_below HY.out.2 HPc.out.low) HOI.out).mono ?_); rintro e w5 ⟨rfl, hp, hk⟩; have HPd := Aside0.mk hp; have hk5 := hk _ _ HBK.out; obtain ⟨z0, z1, z2, z3, z4⟩ := cells5 hk5; clear hk5 hk hp HPc HBK)
                | (go_at_call 12; (with_reducible refine (HPd.out.actB HBB.out d n t A1 c1 x k HY.out.1 (Kd.C_below HY.out.2 HPd.out.low) HOI.out).mono ?_); rintro e w6 ⟨rfl, hp⟩; rw [HEQ.out.1]; have HPe := Aside0.mk hp; clear hp))
              go_roundg k1
              case measure => omega
              case rel => exact ⟨i + 1, _, _, by first | rfl | (simp; done) | (rw [wrap_id (n := (i : Int) + 1) (by omega) (by have := HM.out.1; omega)]; first | rfl | (simp; done)), ⟨by have := HK.out; omega⟩, ⟨HPe.out, HEQ.out.2.1.1, HEQ.out.2.1.2, by have h1 := HG.out.2.2; have h2 := HEQ.out.2.2.1; omega, by have h1 := HG.out.2.2; have h2 := HEQ.out.2.2.2; omega⟩⟩
    · have hi : i = m := by have := HK.out; omega
      subst hi
      obtain ⟨hP, hlk, _⟩ := HI.out
      have e1 : readE stb name = readE sta name := by unfold readE; rw [hlk]
      have e2 : G.readB stb name = G.readB sta name := by unfold G.readB; rw [hlk]
      have e3 : lastsR stb name = lastsR sta name := by unfold lastsR; rw [hlk]
      have HE := Aside0.mk (And.intro e1 (And.intro e2 e3))
      have HP := Aside0.mk hP
      have hsmall := hP.small name
      have HSM := Aside0.mk hsmall
      clear hP hlk e1 e2 e3 hsmall hlt
      generalize hbb : G.readB sta name = bb at *
      have HBBB := Aside0.mk hbb
      clear hbb
      go_wp2_with (first
        | (go_at_call 13; (with_reducible refine (HP.out.readA name).mono ?_); rintro e wA ⟨Ax, cx, rfl, hR, hb⟩; rw [HBBB.out] at hR ⊢; have HRx := Aside0.mk hR; have HPA := Aside0.mk (HP.out.below hb); clear hR hb)
        | (go_at_call 13; (with_reducible refine (HPA.out.readB name).mono ?_); rintro e wB ⟨Ay, cy, rfl, hR, hb⟩; rw [HE.out.2.1] at hR ⊢; rw [HE.out.1]; have HRy := Aside0.mk hR; have HRz := Aside0.mk (Kd.R_below HRx.out hb); have HPB := Aside0.mk (HPA.out.below hb); clear hR hb)
        | (go_at_call 14; (with_reducible refine (HPB.out.lastsA name).mono ?_); rintro e w9 ⟨rfl, h9⟩; subst w9)
        | (go_at_call 14; (with_reducible refine (HPB.out.lastsB name).mono ?_); rintro e w9 ⟨rfl, h9⟩; subst w9; rw [HE.out.2.2])
        | (go_at_call 15; (with_reducible refine (manometerref01_Equal.calls (bb.length + 1) Ax cx bb Ay cy bb true _ (Kd.R_reads' HRz.out).2.2 (Kd.R_reads' HRz.out).2.1 (Kd.R_reads' HRy.out).2.2 (Kd.R_reads' HRy.out).2.1 (by rw [equal_f _ _ (by have := HSM.out; omega)]; simp)).mono ?_); rintro e wE ⟨rfl, hdr⟩; have HBE := Aside0.mk (drawn_below hdr); clear hdr))
      go_ret
      exact ⟨rfl, HPB.out.low.trans (HBE.out.mono HPB.out.low.size)⟩
end Go.Proofs.Ytkdbojaoaldmbaa.G
