/- The law's helpers by hand: starts; few, with what it lets through; two disks that are written by turns. -/
import Derived.Test.YtkdbojaoaldmbaaG16
namespace Go.Proofs.Ytkdbojaoaldmbaa.G
open Go.RowKit Go.Proofs.Ytkdbojaoaldmbaa.Q Go.Proofs.YtkdbojaoaldmbaaW.PrintWords Go.Proofs.YtkdbojaoaldmbaaW.PrintLast Go.Proofs.YtkdbojaoaldmbaaW.PrintMore
set_option linter.unusedVariables false
set_option linter.unusedSimpArgs false
attribute [local go_sem] min2_mn min_two max2_mx max_two
theorem drawn_in {w w' : World} (h : Drawn0 w w') : Below w.heap.size w w' := drawn_below h
set_option maxHeartbeats 400000 in
set_option maxRecDepth 100000 in
theorem starts_calls (b : List Int) (m : Nat) (A : Option Addr) (c : Nat) (A1 : Option Addr) (c1 : Nat) (w : World) (hm : m ≤ b.length) (hb : b.length ≤ 16777216) (hc : b.length ≤ c) (hr : (Kd.int .u8).C w A b.length b) (hc1 : m ≤ c1) (hr1 : (Kd.int .u8).C w A1 m (b.take m)) :
    Calls Try.prog 18 #[.slice A b.length c, .slice A1 m c1] w fun e w' => e = .returned (.bool true) ∧ Below w.heap.size w w' := by
  have htl : (b.take m).length = m := by rw [List.length_take]; omega
  have hE : Calls Try.prog 15 #[.slice A m c, .slice A1 m c1] w fun e w' => e = .returned (.bool true) ∧ Drawn0 w w' := by
    have := manometerref01_Equal.calls ((b.take m).length + 1) A c (b.take m) A1 c1 (b.take m) true w (Kd.C_take hr hm) (by omega) (by rw [htl]; exact hr1) (by omega) (by rw [equal_f _ _ (by omega)]; simp)
    rw [htl] at this
    exact this
  obtain ⟨i5, hi5, _⟩ := Option.map_eq_some_iff.1 info5
  have hsl := cut_to (P := Try.prog) 29 5 .i64 Try.underlying29 hi5 A b.length c (m : Int) (by omega) (by omega) hc
  rw [Int.toNat_natCast] at hsl
  have hge : (b.length : Int) ≥ (m : Int) := by omega
  have HE := Aside0.mk hE
  clear hE htl hi5 hr hr1
  generalize b.length = n at *
  go_enter Try.func18, Try.ntmps18
  go_wp2_with (go_at_call 15; (with_reducible refine HE.out.mono ?_); rintro e w9 ⟨rfl, hw9⟩; have HB := Aside0.mk (drawn_below hw9); clear hw9)
  go_ret
  exact ⟨rfl, HB.out⟩
/-- How many bytes acts write at most. -/
def sumB : List S31 → Nat
  | [] => 0
  | x :: r => x.f3.length + sumB r
theorem sumB_take : ∀ (l : List S31) (i : Nat), i < l.length → sumB (l.take (i + 1)) = sumB (l.take i) + (rd_T31 l (i : Int)).f3.length
  | [], i, h => by simp at h
  | x :: l, 0, h => by
    have e : rd_T31 (x :: l) ((0 : Nat) : Int) = x := rfl
    rw [e]; simp [sumB]
  | x :: l, i + 1, h => by
    have ih := sumB_take l i (by simpa using h)
    have e : rd_T31 (x :: l) ((i + 1 : Nat) : Int) = rd_T31 l (i : Int) := by unfold rd_T31; rw [Int.toNat_natCast, Int.toNat_natCast]; rfl
    rw [e]
    simp only [List.take_succ_cons, sumB]
    omega
theorem mn_in (n : Nat) : 0 ≤ mn (n : Int) 1048576 ∧ mn (n : Int) 1048576 ≤ 1048576 ∧ (mn (n : Int) 1048576 ≤ 30000 → mn (n : Int) 1048576 = n) := by unfold mn; split <;> omega
/-- Some of a list, from its beginning on, of few bytes. -/
def Some2 (w : World) (A : Option Addr) (l : List S31) (c : Nat) (e : Ending) (w' : World) : Prop := ∃ m, m ≤ l.length ∧ e = .returned (.slice A m c) ∧ Below w.heap.size w w' ∧ sumB (l.take m) ≤ 30000
set_option maxHeartbeats 1000000 in
set_option maxRecDepth 100000 in
theorem few2_calls (A : Option Addr) (c : Nat) (l : List S31) (w : World) (hc : l.length ≤ c) (hr : k31.C w A l.length l) (hbd : l.length ≤ 140737488355328) : Calls Try.prog 10 #[.slice A l.length c] w (Some2 w A l c) := by
  have HR := Aside0.mk hr
  clear hr
  obtain ⟨n, hn⟩ : ∃ n : Nat, n = l.length := ⟨_, rfl⟩
  rw [← hn] at hc hbd HR ⊢
  have HN := Aside0.mk hn
  clear hn
  go_enter Try.func10, Try.ntmps10
  go_wp2
  go_loopg [3, 8] (n + 1) (fun kq v3 v8 wr => ∃ (a : Int) (j : Nat), v3 = .int .i64 a ∧ v8 = .int .i64 j ∧ Aside0 (kq + j = n + 1 ∧ j ≤ n) ∧ Aside0 (Below w.heap.size w wr) ∧ Aside0 (0 ≤ a ∧ a ≤ 30000 ∧ (sumB (l.take j) : Int) ≤ a))
  case atStart => exact ⟨0, 0, rfl, rfl, ⟨by omega⟩, ⟨Below.refl _ _⟩, ⟨by simp [sumB]⟩⟩
  case round =>
    obtain ⟨a, j, rfl, rfl, HJ, HB, HA⟩ := hrel
    cases gk with
    | zero => have := HJ.out; omega
    | succ k1 =>
    by_cases hlt : j < n
    · have hi0 : (0 : Int) ≤ (j : Int) := by omega
      have hi1 : (j : Int) < (n : Int) := by omega
      obtain ⟨ad, hA⟩ : ∃ ad, A = some ad := by
        obtain ⟨ad, _, e, _⟩ := Kd.C_get HR.out z31 (j : Int) hi0 hi1
        exact ⟨ad, e⟩
      subst hA
      obtain ⟨ad', A1, c1, hAe, x0, x1, x2, x3, x4, hc1, hd1⟩ := at_T31 (Kd.C_below HR.out HB.out) (j : Int) hi0 hi1
      injection hAe with hAe
      subst hAe
      simp only [Int.toNat_natCast] at x0 x1 x2 x3 x4
      have HT := Aside0.mk (sumB_take l j (by have := HN.out; omega))
      generalize rd_T31 l (j : Int) = x at *
      have HB1 := Aside0.mk (below_alloc HB.out (.cells #[.int .i64 x.f0, .string x.f1, .string x.f2, .slice A1 x.f3.length c1, .int .i64 x.f4] 31))
      clear hd1
      obtain ⟨p, hp⟩ : ∃ p : Int, mn (x.f3.length : Int) 1048576 = p := ⟨_, rfl⟩
      obtain ⟨q, hq⟩ : ∃ q : Int, mn (x.f1.size : Int) 1048576 = q := ⟨_, rfl⟩
      obtain ⟨r, hr⟩ : ∃ r : Int, mn (x.f2.size : Int) 1048576 = r := ⟨_, rfl⟩
      have ip := mn_in x.f3.length
      have iq := mn_in x.f1.size
      have ir := mn_in x.f2.size
      rw [hp] at ip
      rw [hq] at iq
      rw [hr] at ir
      have ha := HA.out
      have w1 : wrap64 (p + q) = p + q := wrap_id (by omega) (by omega)
      have w2 : wrap64 (p + q + r) = p + q + r := wrap_id (by omega) (by omega)
      have w3 : wrap64 (a + (p + q + r)) = a + (p + q + r) := wrap_id (by omega) (by omega)
      have HI := Aside0.mk (And.intro ip (And.intro iq ir))
      clear ip iq ir ha
      by_cases h150 : (j : Int) ≥ 150
      · go_wp2
        go_ret
        exact ⟨j, by have := HN.out; omega, rfl, HB1.out, by have := HA.out; omega⟩
      · by_cases hall : a + (p + q + r) > 30000
        · go_wp2
          go_ret
          exact ⟨j, by have := HN.out; omega, rfl, HB1.out, by have := HA.out; omega⟩
        · go_wp2
          go_roundg k1
          case measure => omega
          case rel => exact ⟨a + (p + q + r), j + 1, by first | rfl | (simp; done) | (simp; omega), by first | rfl | (simp; done) | (simp; omega), ⟨by have := HJ.out; omega⟩, HB1, ⟨by have h1 := HI.out; have h2 := HA.out; have h3 := HT.out; have h4 := h1.1.2.2 (by omega); omega⟩⟩
    · have hj : j = n := by have := HJ.out; omega
      subst hj
      go_wp2
      go_ret
      exact ⟨j, by have := HN.out; omega, rfl, HB.out, by have := HA.out; omega⟩
section
variable {w w' w1 w2 : World} {D M B D2 M2 B2 : Nat} {room r2 : Int} {dat dat' dat1 dat2 : Nat → Prop} {fs fs1 fs2 : ByteArray → Option Raw} {st st' st1 st2 : St}
/-- The blocks of a disk. -/
def Own (D M : Nat) (dat : Nat → Prop) (fs : ByteArray → Option Raw) (k : Nat) : Prop := Mine D M fs k ∨ dat k
theorem DiskG.own_lt (h : DiskG w D M room B dat fs st) {k : Nat} (hk : Own D M dat fs k) : k < w.heap.size := hk.elim (fun e => (h.mine_ge e).2) (fun e => h.files.datlt k e)
theorem Went.own (hw : Went w D M dat fs dat1 fs1 w1) {k : Nat} (hk : Own D M dat1 fs1 k) : Own D M dat fs k ∨ w.heap.size ≤ k := by
  rcases hk with (e | e | ⟨s, r, hs, e⟩) | e
  · exact .inl (.inl (.inl e))
  · exact .inl (.inl (.inr (.inl e)))
  · rcases hw.raw s r hs with ⟨t, q, q1, q2⟩ | hq
    · exact .inl (.inl (.inr (.inr ⟨t, q, q1, by rw [e, q2]⟩)))
    · exact .inr (by rw [e]; exact hq)
  · exact (hw.old k e).elim (fun e => .inl (.inr e)) .inr
/-- One of two disks is written: the other stays, and they stay apart. -/
theorem apart_step (h1 : DiskG w D M room B dat fs st) (h2 : DiskG w D2 M2 r2 B2 dat2 fs2 st2) (hap : ∀ k, Own D M dat fs k → ¬ Own D2 M2 dat2 fs2 k) (hW : Went w D M dat fs dat1 fs1 w') :
    DiskG w' D2 M2 r2 B2 dat2 fs2 st2 ∧ ∀ k, Own D M dat1 fs1 k → ¬ Own D2 M2 dat2 fs2 k :=
  ⟨h2.move hW.chg.size (fun k hk hm => hW.chg.block k hk (fun e => hap k (.inl e) hm)), fun k hk ho => (hW.own hk).elim (fun e => hap k e ho) (fun e => by have := h2.own_lt ho; omega)⟩
end
end Go.Proofs.Ytkdbojaoaldmbaa.G
