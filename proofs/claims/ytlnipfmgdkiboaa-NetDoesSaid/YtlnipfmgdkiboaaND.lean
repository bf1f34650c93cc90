import Derived.Test.YtlnipfmgdkiboaaN12
/- The network by hand: few. -/
namespace Go.Proofs.Ytlnipfmgdkiboaa.N
open Go.RowKit Go.Proofs.Ytlnipfmgdkiboaa.Q Go.Proofs.YtlnipfmgdkiboaaW.PrintWords Go.Proofs.YtlnipfmgdkiboaaW.PrintLast Go.Proofs.YtlnipfmgdkiboaaW.PrintMore
set_option linter.unusedVariables false
set_option linter.unusedSimpArgs false
theorem min2_mn (k k' : IntKind) (x y : Int) : Builtin.min2 (.int k x) (.int k' y) = pure (.int k (mn x y)) := by rw [min2_int]; rfl
attribute [local go_sem] min2_mn min_two
/-- Some of a list, from its beginning on. -/
def Some (w : World) (A : Option Addr) (n c : Nat) (e : Ending) (w' : World) : Prop := ∃ m, m ≤ n ∧ m ≤ 120 ∧ e = .returned (.slice A m c) ∧ Below w.heap.size w w'
set_option maxHeartbeats 1000000 in
set_option maxRecDepth 100000 in
theorem few_calls (A : Option Addr) (c : Nat) (l : List S31) (w : World) (hc : l.length ≤ c) (hr : k31.C w A l.length l) (hbd : l.length ≤ 140737488355328) : Calls Try.prog 9 #[.slice A l.length c] w (Some w A l.length c) := by
  have HR := Aside0.mk hr
  clear hr
  generalize hn : l.length = n at *
  clear hn
  go_enter Try.func9, Try.ntmps9
  go_wp2
  go_loopg [3, 10] (n + 1) (fun kq v3 v10 wr => ∃ (a : Int) (j : Nat), v3 = .int .i64 a ∧ v10 = .int .i64 j ∧ Aside0 (kq + j = n + 1 ∧ j ≤ n ∧ j ≤ 120) ∧ Aside0 (Below w.heap.size w wr))
  case atStart => exact ⟨0, 0, rfl, rfl, ⟨by omega⟩, ⟨Below.refl _ _⟩⟩
  case round =>
    obtain ⟨a, j, rfl, rfl, HJ, HB⟩ := hrel
    cases gk with
    | zero => have := HJ.out; omega
    | succ k1 =>
    by_cases hlt : j < n
    · have hi0 : (0 : Int) ≤ (j : Int) := by omega
      have hi1 : (j : Int) < (n : Int) := by omega
      obtain ⟨ad, hA⟩ : ∃ ad, A = some ad := by
        obtain ⟨ad, _, e, _⟩ := Kd.C_get HR.out z31 (j : Int) hi0 hi1
        exact ⟨ad, e⟩
      subst hA
      obtain ⟨ad', A1, c1, hAe, x0, x1, x2, x3, hc1, hd1⟩ := at_T31 (Kd.C_below HR.out HB.out) (j : Int) hi0 hi1
      injection hAe with hAe
      subst hAe
      simp only [Int.toNat_natCast] at x0 x1 x2 x3
      have hxs := (rd_T31 l (j : Int)).f1.size
      generalize rd_T31 l (j : Int) = x at *
      have HD1 := Aside0.mk hd1
      clear hd1
      have HB1 := Aside0.mk (below_alloc HB.out (.cells #[.int .i64 x.f0, .string x.f1, .slice A1 x.f2.length c1, .int .i64 x.f3] 31))
      have HD2 := Aside0.mk (Kd.C_below HD1.out (below_alloc (Below.refl _ _) (.cells #[.int .i64 x.f0, .string x.f1, .slice A1 x.f2.length c1, .int .i64 x.f3] 31)))
      go_wp2
      clear x0 x1 x2 x3 hxs HD1
      generalize wr.alloc (.cells #[.int .i64 x.f0, .string x.f1, .slice A1 x.f2.length c1, .int .i64 x.f3] 31) = wx at *
      have hm1 : x.f2.length ≤ 9223372036854775807 := Kd.C_max HD2.out
      generalize hm : x.f2.length = m at *
      clear hm
      go_loopg [3, 24] (m + 1) (fun kq v3 v24 wr2 => ∃ (a2 : Int) (i : Nat), v3 = .int .i64 a2 ∧ v24 = .int .i64 i ∧ Aside0 (kq + i = m + 1 ∧ i ≤ m) ∧ Aside0 (Below wx.heap.size wx wr2) ∧ Aside0 (Below w.heap.size w wr2))
      case atStart => exact ⟨_, 0, rfl, rfl, ⟨by omega⟩, ⟨Below.refl _ _⟩, HB1⟩
      case round =>
        obtain ⟨a2, i, rfl, rfl, HI, HBx, HB2⟩ := hrel
        cases gk with
        | zero => have := HI.out; omega
        | succ k2 =>
        by_cases hlt2 : i < m
        · have hi2 : (0 : Int) ≤ (i : Int) := by omega
          have hi3 : (i : Int) < (m : Int) := by omega
          obtain ⟨ad2, A3, c3, hAe2, y0, y1, hc3, hd3⟩ := at_T34 (Kd.C_below HD2.out HBx.out) (i : Int) hi2 hi3
          subst hAe2
          simp only [Int.toNat_natCast] at y0 y1
          generalize rd_T34 x.f2 (i : Int) = y at *
          have HBy := fun o => below_alloc HB2.out o
          have HBz := Aside0.mk (fun o => below_alloc HBx.out o)
          clear hd3 HBy
          go_wp2_with (fail)
          · go_ret
            exact ⟨j, Nat.le_of_lt hlt, HJ.out.2.2, rfl, below_alloc HB2.out _⟩
          · go_roundg k2
            case measure => omega
            case rel => exact ⟨_, i + 1, rfl, by first | rfl | (simp; done) | (simp; omega), ⟨by have := HI.out; omega⟩, ⟨HBz.out _⟩, ⟨below_alloc HB2.out _⟩⟩
        · have hj2 : i = m := by have := HI.out; omega
          subst hj2
          go_wp2_with (fail)
          all_goals first
            | (go_roundg k1
               case measure => omega
               case rel => exact ⟨_, j + 1, rfl, by first | rfl | (simp; done) | (simp; omega), ⟨by have := HJ.out; omega⟩, HB2⟩)
            | (go_ret
               exact ⟨j, Nat.le_of_lt hlt, HJ.out.2.2, rfl, HB2.out⟩)
    · have hj : j = n := by have := HJ.out; omega
      subst hj
      go_wp2
      go_ret
      exact ⟨j, Nat.le_refl _, HJ.out.2.2, rfl, HB.out⟩
end Go.Proofs.Ytlnipfmgdkiboaa.N
/- The network by hand: each act as one step, whatever its arguments; letters compared. -/
namespace Go.Proofs.Ytlnipfmgdkiboaa.N
open Go.RowKit Go.Proofs.Ytlnipfmgdkiboaa.Q Go.Proofs.YtlnipfmgdkiboaaW.PrintWords Go.Proofs.YtlnipfmgdkiboaaW.PrintLast Go.Proofs.YtlnipfmgdkiboaaW.PrintMore
set_option linter.unusedVariables false
set_option linter.unusedSimpArgs false
theorem rd_eq_get (l : List Int) (i : Nat) (h : i < l.length) : rd l (i : Int) = l[i] := by
  unfold rd
  rw [Int.toNat_natCast, List.getD_eq_getElem?_getD, List.getElem?_eq_getElem h]
  rfl
theorem equal_l0 (a b : List Int) (hab : a.length = b.length) (hl : a.length ≤ 9223372036854775807) : ∀ d i k, d + i = a.length → d < k → (∀ j, j < i → a[j]? = b[j]?) → manometerref01_Equal.l0 k a b (a.length : Int) (i : Int) = some (decide (a = b)) := by
  intro d
  induction d with
  | zero =>
    intro i k hi hk hp
    obtain ⟨k, rfl⟩ : ∃ m, k = m + 1 := ⟨k - 1, by omega⟩
    have e : a = b := List.ext_getElem? (fun j => by
      by_cases hj : j < a.length
      · exact hp j (by omega)
      · rw [List.getElem?_eq_none (by omega), List.getElem?_eq_none (by omega)])
    simp only [manometerref01_Equal.l0]
    rw [if_neg (show ¬ ((i : Int) < (a.length : Int)) by omega)]
    simp [e]
  | succ d ih =>
    intro i k hi hk hp
    obtain ⟨k, rfl⟩ : ∃ m, k = m + 1 := ⟨k - 1, by omega⟩
    simp only [manometerref01_Equal.l0]
    rw [if_pos (show (i : Int) < (a.length : Int) by omega), if_pos (show (0 : Int) ≤ (i : Int) by omega), if_pos (show (i : Int) < (a.length : Int) by omega), if_pos (show (i : Int) < (b.length : Int) by omega)]
    rw [rd_eq_get a i (by omega), rd_eq_get b i (by omega)]
    by_cases he : a[i] = b[i]'(by omega)
    · rw [if_pos he, show wrap64 ((i : Int) + 1) = ((i + 1 : Nat) : Int) by unfold wrap64; omega]
      refine ih (i + 1) k (by omega) (by omega) (fun j hj => ?_)
      rcases Nat.lt_or_ge j i with h | h
      · exact hp j h
      · have : j = i := by omega
        subst this
        rw [List.getElem?_eq_getElem (by omega), List.getElem?_eq_getElem (by omega), he]
    · rw [if_neg he]
      have : ¬ a = b := fun e => he (by subst e; rfl)
      simp [this]
theorem equal_f (a b : List Int) (hl : a.length ≤ 9223372036854775807) : manometerref01_Equal.f (a.length + 1) a b = some (decide (a = b)) := by
  unfold manometerref01_Equal.f
  by_cases h : a.length = b.length
  · rw [if_pos (by omega)]
    exact equal_l0 a b h hl a.length 0 (a.length + 1) (by omega) (by omega) (fun j hj => by omega)
  · rw [if_neg (by omega)]
    have : ¬ a = b := fun e => h (by rw [e])
    simp [this]
/-- Are letters the same? -/
def sameL (x y : S34) : Bool := decide (x.f0 = y.f0 ∧ x.f1 = y.f1)
theorem sameL_refl (x : S34) : sameL x x = true := by simp [sameL]
theorem same_f (x y : S34) (hl : x.f1.length ≤ 9223372036854775807) : manometerref23_Same.f (x.f1.length + 1) x.f0 x.f1 y.f0 y.f1 = some (sameL x y) := by
  unfold manometerref23_Same.f sameL
  by_cases h : x.f0 = y.f0
  · rw [if_pos h, equal_f _ _ hl]
    simp [h]
  · rw [if_neg h]
    simp [h]
theorem same_calls (x y : S34) (w : World) (A0 : Option Addr) (c0 : Nat) (A1 : Option Addr) (c1 : Nat) (h0 : (Kd.int .u8).C w A0 x.f1.length x.f1) (l0 : x.f1.length ≤ c0) (h1 : (Kd.int .u8).C w A1 y.f1.length y.f1) (l1 : y.f1.length ≤ c1) :
    Calls Try.prog 14 #[.agg #[.int .i64 x.f0, .slice A0 x.f1.length c0], .agg #[.int .i64 y.f0, .slice A1 y.f1.length c1]] w fun e w' => e = .returned (.bool (sameL x y)) ∧ Below w.heap.size w w' :=
  manometerref23_Same.calls _ _ _ _ _ _ _ _ _ _ w h0 l0 h1 l1 (same_f x y (Kd.C_max h0))
section
variable {w : World} {N M : Nat} {room : Int} {B : Nat} {own : Nat → Option ByteArray} {G : ByteArray → Option Value} {Q : ByteArray → List S34}
/-- What an act leaves: a network with these letters; nothing else has turned. -/
def Left (w : World) (N M : Nat) (room : Int) (B : Nat) (own : Nat → Option ByteArray) (s : ByteArray) (Q' : ByteArray → List S34) (own' : Nat → Option ByteArray) (w' : World) : Prop :=
  ∃ G', NetG w' N M room B own' G' Q' ∧ Chg (fun k => k = M ∨ own k = some s) w w' ∧ ∀ k, k < w.heap.size → own' k = own k
theorem left_same (h : NetG w N M room B own G Q) (s : ByteArray) {w' : World} (hb : Below w.heap.size w w') : Left w N M room B own s Q own w' :=
  ⟨G, h.below hb, Chg.of_below _ hb, fun _ _ => rfl⟩
/-- How many of so many letters there is room for. -/
def sendK (room : Int) (Q : ByteArray → List S34) (s : ByteArray) (ls : List S34) : Nat := if tenant s = true then min ls.length (room - (Q s).length).toNat else 0
def sendE (s : ByteArray) : Int := if tenant s = true then 0 else 180
def sendQ (room : Int) (Q : ByteArray → List S34) (s : ByteArray) (ls : List S34) : ByteArray → List S34 := if tenant s = true then setQ Q s (Q s ++ ls.take (sendK room Q s ls)) else Q
theorem send_any (h : NetG w N M room B own G Q) (s : ByteArray) (A : Option Addr) (c : Nat) (ls : List S34)
    (hl : ∀ w', Chg (fun k => k = M ∨ own k = some s) w w' → Kd.C k34 w' A ls.length ls) (hc : ls.length ≤ c) (hsh : ∀ x ∈ ls, x.f1.length < 140737488355328) :
    Calls Try.prog 10 #[.pointer (some ⟨N, 0, none⟩), .string s, .slice A ls.length c] w fun e w' => e = .returned (.tuple #[.int .i64 (sendK room Q s ls), .int .i64 (sendE s)]) ∧ ∃ own', Left w N M room B own s (sendQ room Q s ls) own' w' := by
  cases ht : tenant s with
  | false =>
    refine (send_bad h s _ ht).mono fun e w' ⟨he, hb⟩ => ⟨?_, own, ?_⟩
    · rw [he]; simp [sendK, sendE, ht]
    · have := left_same h s hb
      simpa [sendQ, ht] using this
  | true =>
    have hf := h.few s
    have hk : sendK room Q s ls = min ls.length (room - (Q s).length).toNat := by simp [sendK, ht]
    refine (send_calls h s A c ls ht hl hc hsh (sendK room Q s ls) (by rw [hk]; omega) (by rw [hk]; omega) (by rw [hk]; omega)).mono fun e w' ⟨own', G', he, hN, hC, hO⟩ => ⟨?_, own', ?_⟩
    · rw [he]; simp [sendE, ht]
    · refine ⟨G', ?_, hC, hO⟩
      have : sendQ room Q s ls = setQ Q s (Q s ++ ls.take (sendK room Q s ls)) := by simp [sendQ, ht]
      rw [this]
      exact hN
/-- The letter at a place. -/
def takeX (Q : ByteArray → List S34) (s : ByteArray) (i : Int) : S34 := if 0 ≤ i ∧ i < (Q s).length then (Q s).getD i.toNat z34 else z34
def takeE (Q : ByteArray → List S34) (s : ByteArray) (i : Int) : Int := if 0 ≤ i ∧ i < (Q s).length then 0 else 4
def takeQ (Q : ByteArray → List S34) (s : ByteArray) (i : Int) : ByteArray → List S34 := if 0 ≤ i ∧ i < (Q s).length then setQ Q s ((Q s).take i.toNat ++ (Q s).drop (i.toNat + 1)) else Q
theorem take_any (h : NetG w N M room B own G Q) (s : ByteArray) (i : Int) :
    Calls Try.prog 11 #[.pointer (some ⟨N, 0, none⟩), .string s, .int .i64 i] w fun e w' => ∃ own' A1 c1, e = .returned (.tuple #[.agg #[.int .i64 (takeX Q s i).f0, .slice A1 (takeX Q s i).f1.length c1], .int .i64 (takeE Q s i)]) ∧ Left w N M room B own s (takeQ Q s i) own' w' ∧ k34.M w' B (fun k => own' k = some s) (takeX Q s i) [.int .i64 (takeX Q s i).f0, .slice A1 (takeX Q s i).f1.length c1] := by
  by_cases hi : 0 ≤ i ∧ i < (Q s).length
  · obtain ⟨j, rfl⟩ := Int.eq_ofNat_of_zero_le hi.1
    refine (take_calls h s j (by omega) _ rfl).mono fun e w' ⟨own', G', A1, c1, he, hN, hC, hO, hM, _⟩ => ⟨own', A1, c1, ?_, ⟨G', ?_, hC, hO⟩, ?_⟩
    · rw [he]; simp only [takeX, takeE, if_pos hi, Int.toNat_natCast]
    · rw [takeQ, if_pos hi, Int.toNat_natCast]; exact hN
    · rw [takeX, if_pos hi, Int.toNat_natCast]; exact hM
  · refine (take_out h s i hi).mono fun e w' ⟨he, hb⟩ => ⟨own, none, 0, ?_, ?_, ?_⟩
    · rw [he]; simp only [takeX, takeE, if_neg hi]; rfl
    · rw [takeQ, if_neg hi]; exact left_same h s hb
    · rw [takeX, if_neg hi]; exact k34_mkM w' B _ z34 (Kd.R_nil _ _ _ _ _)
def doubleE (room : Int) (Q : ByteArray → List S34) (s : ByteArray) (i : Int) : Int := if 0 ≤ i ∧ i < (Q s).length then (if ((Q s).length : Int) < room then 0 else 5) else 4
def doubleQ (room : Int) (Q : ByteArray → List S34) (s : ByteArray) (i : Int) : ByteArray → List S34 := if 0 ≤ i ∧ i < (Q s).length then (if ((Q s).length : Int) < room then setQ Q s (Q s ++ [(Q s).getD i.toNat z34]) else Q) else Q
theorem double_any (h : NetG w N M room B own G Q) (s : ByteArray) (i : Int) :
    Calls Try.prog 13 #[.pointer (some ⟨N, 0, none⟩), .string s, .int .i64 i] w fun e w' => e = .returned (.int .i64 (doubleE room Q s i)) ∧ ∃ own', Left w N M room B own s (doubleQ room Q s i) own' w' := by
  by_cases hi : 0 ≤ i ∧ i < (Q s).length
  · by_cases hf : ((Q s).length : Int) < room
    · refine (double_calls h s i hi.1 hi.2 hf _ rfl).mono fun e w' ⟨own', G', he, hN, hC, hO⟩ => ⟨?_, own', G', ?_, hC, hO⟩
      · rw [he, doubleE, if_pos hi, if_pos hf]
      · rw [doubleQ, if_pos hi, if_pos hf]; exact hN
    · refine (double_full h s i hi.1 hi.2 (by have := h.few s; omega)).mono fun e w' ⟨he, hb⟩ => ⟨?_, own, ?_⟩
      · rw [he, doubleE, if_pos hi, if_neg hf]
      · rw [doubleQ, if_pos hi, if_neg hf]; exact left_same h s hb
  · refine (double_out h s i hi).mono fun e w' ⟨he, hb⟩ => ⟨?_, own, ?_⟩
    · rw [he, doubleE, if_neg hi]
    · rw [doubleQ, if_neg hi]; exact left_same h s hb
set_option maxHeartbeats 1000000 in
set_option maxRecDepth 100000 in
theorem drop_any (h : NetG w N M room B own G Q) (s : ByteArray) (i : Int) :
    Calls Try.prog 12 #[.pointer (some ⟨N, 0, none⟩), .string s, .int .i64 i] w fun e w' => e = .returned (.int .i64 (takeE Q s i)) ∧ ∃ own', Left w N M room B own s (takeQ Q s i) own' w' := by
  have HH := Aside0.mk h
  clear h
  generalize hE : takeE Q s i = E
  have HE := Aside0.mk hE
  clear hE
  go_enter Try.func12, Try.ntmps12
  go_wp2_with (go_at_call 11; (with_reducible refine (take_any HH.out s i).mono ?_); rintro e w1 ⟨own1, A1, c1, rfl, hL, hM⟩; have HL := Aside0.mk hL; rw [HE.out]; clear hL hM)
  go_ret
  refine ⟨rfl, own1, ?_⟩
  obtain ⟨G', hN, hC, hO⟩ := HL.out
  exact ⟨G', hN.below (below_alloc (Below.refl _ _) _), hC.trans (Chg.of_below (fun _ => False) (below_alloc (Below.refl _ _) _)) (fun _ _ e => e) (fun _ _ e => e.elim), hO⟩
end
end Go.Proofs.Ytlnipfmgdkiboaa.N
/- The network by hand: two networks beside each other. -/
namespace Go.Proofs.Ytlnipfmgdkiboaa.N
open Go.RowKit Go.Proofs.Ytlnipfmgdkiboaa.Q Go.Proofs.YtlnipfmgdkiboaaW.PrintWords Go.Proofs.YtlnipfmgdkiboaaW.PrintLast Go.Proofs.YtlnipfmgdkiboaaW.PrintMore
set_option linter.unusedVariables false
set_option linter.unusedSimpArgs false
theorem NetG.lower {w : World} {N M : Nat} {room : Int} {B B' : Nat} {own : Nat → Option ByteArray} {G : ByteArray → Option Value} {Q : ByteArray → List S34} (h : NetG w N M room B own G Q) (hB : B' ≤ B) : NetG w N M room B' own G Q where
  cells := h.cells
  map := h.map
  rows := fun s => Kd.S_lower (h.rows s) hB
  room1 := h.room1
  room2 := h.room2
  few := h.few
  baseN := Nat.le_trans hB h.baseN
  baseM := Nat.le_trans hB h.baseM
  lt := fun k s hk => ⟨Nat.le_trans hB (h.lt k s hk).1, (h.lt k s hk).2⟩
  notN := h.notN
  notM := h.notM
  short := h.short
/-- Two networks that share nothing. -/
structure Two (w : World) (Na Ma Nb Mb : Nat) (room : Int) (B : Nat) (owna ownb : Nat → Option ByteArray) (Qa Qb : ByteArray → List S34) : Prop where
  a : ∃ G, NetG w Na Ma room B owna G Qa
  b : ∃ G, NetG w Nb Mb room B ownb G Qb
  apart : ∀ k, owna k ≠ none → ownb k = none
  aNb : owna Nb = none
  aMb : owna Mb = none
  bNa : ownb Na = none
  bMa : ownb Ma = none
  n1 : Na ≠ Nb
  n2 : Na ≠ Mb
  n3 : Ma ≠ Nb
  n4 : Ma ≠ Mb
section
variable {w w' : World} {Na Ma Nb Mb : Nat} {room : Int} {B : Nat} {owna ownb : Nat → Option ByteArray} {Qa Qb : ByteArray → List S34}
theorem Two.below (h : Two w Na Ma Nb Mb room B owna ownb Qa Qb) (hb : Below w.heap.size w w') : Two w' Na Ma Nb Mb room B owna ownb Qa Qb := by
  obtain ⟨Ga, ha⟩ := h.a
  obtain ⟨Gb, hb'⟩ := h.b
  exact ⟨⟨Ga, ha.below hb⟩, ⟨Gb, hb'.below hb⟩, h.apart, h.aNb, h.aMb, h.bNa, h.bMa, h.n1, h.n2, h.n3, h.n4⟩
/-- An act of the first leaves the second. -/
theorem Two.left (h : Two w Na Ma Nb Mb room B owna ownb Qa Qb) {s : ByteArray} {Q' : ByteArray → List S34} {own' : Nat → Option ByteArray} (hl : Left w Na Ma room B owna s Q' own' w') : Two w' Na Ma Nb Mb room B own' ownb Q' Qb := by
  obtain ⟨Gb, hb⟩ := h.b
  obtain ⟨G', hN, hC, hO⟩ := hl
  have hNb := heap_lt hb.cells
  have hMb := hb.map.lt
  obtain ⟨Ga, ha⟩ := h.a
  have hNa := heap_lt ha.cells
  have hMa := ha.map.lt
  refine ⟨⟨G', hN⟩, ⟨Gb, hb.move hC.size (fun k hk hw => hC.block k hk (fun e => ?_))⟩, fun k hk => ?_, (hO _ hNb).trans h.aNb, (hO _ hMb).trans h.aMb, h.bNa, h.bMa, h.n1, h.n2, h.n3, h.n4⟩
  · rcases e with e | e
    · subst e
      rcases hw with hw | hw | hw
      · exact h.n3 hw
      · exact h.n4 hw
      · exact hw h.bMa
    · have h1 := h.apart k (by rw [e]; simp)
      rcases hw with hw | hw | hw
      · subst hw; rw [h.aNb] at e; cases e
      · subst hw; rw [h.aMb] at e; cases e
      · exact hw h1
  · by_cases hlt : k < w.heap.size
    · exact h.apart k (by rw [← hO k hlt]; exact hk)
    · cases hbk : ownb k with
      | none => rfl
      | some s => exact absurd (hb.lt k s hbk).2 hlt
/-- Nothing below their base has turned. -/
theorem Left.below {own' : Nat → Option ByteArray} {s : ByteArray} {G : ByteArray → Option Value} {Q' Q : ByteArray → List S34} (hl : Left w Na Ma room B owna s Q' own' w') (hN : NetG w Na Ma room B owna G Q) {w0 : World} (hb : Below w0.heap.size w0 w) (hB : B = w0.heap.size) : Below w0.heap.size w0 w' := by
  obtain ⟨_, _, hC, _⟩ := hl
  refine hC.onto hb (Nat.le_refl _) (fun k e => ?_)
  rcases e with e | e
  · rw [e, ← hB]; exact hN.baseM
  · rw [← hB]; exact (hN.lt k _ e).1
end
/-- A block that is none of theirs. -/
structure Fr (Na Ma Nb Mb : Nat) (owna ownb : Nat → Option ByteArray) (k : Nat) : Prop where
  a : owna k = none
  b : ownb k = none
  na : k ≠ Na
  ma : k ≠ Ma
  nb : k ≠ Nb
  mb : k ≠ Mb
section
variable {w w' : World} {Na Ma Nb Mb : Nat} {room : Int} {B : Nat} {owna ownb own' : Nat → Option ByteArray} {Qa Qb Q' : ByteArray → List S34} {k : Nat} {s : ByteArray}
theorem Fr.left (f : Fr Na Ma Nb Mb owna ownb k) (hl : Left w Na Ma room B owna s Q' own' w') (hk : k < w.heap.size) : Fr Na Ma Nb Mb own' ownb k ∧ w'.heap[k]? = w.heap[k]? := by
  obtain ⟨G', hN, hC, hO⟩ := hl
  exact ⟨⟨(hO k hk).trans f.a, f.b, f.na, f.ma, f.nb, f.mb⟩, hC.block k hk (fun e => by
    rcases e with e | e
    · exact f.ma e
    · rw [f.a] at e; cases e)⟩
theorem Two.set (h : Two w Na Ma Nb Mb room B owna ownb Qa Qb) (f : Fr Na Ma Nb Mb owna ownb k) (i : Nat) (v : Value) : Two (w.setCell ⟨k, i, none⟩ v) Na Ma Nb Mb room B owna ownb Qa Qb := by
  obtain ⟨Ga, ha⟩ := h.a
  obtain ⟨Gb, hb⟩ := h.b
  refine ⟨⟨Ga, ha.move (by simp) (fun j hj hw => Below.heap_setCell w _ _ j (fun e => ?_))⟩, ⟨Gb, hb.move (by simp) (fun j hj hw => Below.heap_setCell w _ _ j (fun e => ?_))⟩, h.apart, h.aNb, h.aMb, h.bNa, h.bMa, h.n1, h.n2, h.n3, h.n4⟩
  · have e' : j = k := e
    subst e'
    rcases hw with hw | hw | hw
    · exact f.na hw
    · exact f.ma hw
    · exact hw f.a
  · have e' : j = k := e
    subst e'
    rcases hw with hw | hw | hw
    · exact f.nb hw
    · exact f.mb hw
    · exact hw f.b
/-- Within a round: the two, and three boxes. -/
structure Mid (w : World) (room : Int) (Na Ma Nb Mb : Nat) (b1 b2 b3 : Nat) (c1 c2 c3 : Array Value) (owna ownb : Nat → Option ByteArray) (Qa Qb : ByteArray → List S34) (wc : World) : Prop where
  two : Two wc Na Ma Nb Mb room w.heap.size owna ownb Qa Qb
  below : Below w.heap.size w wc
  f1 : Fr Na Ma Nb Mb owna ownb b1
  f2 : Fr Na Ma Nb Mb owna ownb b2
  f3 : Fr Na Ma Nb Mb owna ownb b3
  x1 : wc.heap[b1]? = some (.cells c1 31 (0, 0))
  x2 : wc.heap[b2]? = some (.cells c2 34 (0, 0))
  x3 : wc.heap[b3]? = some (.cells c3 34 (0, 0))
  g1 : w.heap.size ≤ b1
  g2 : w.heap.size ≤ b2
  g3 : w.heap.size ≤ b3
  n12 : b1 ≠ b2
  n13 : b1 ≠ b3
  n23 : b2 ≠ b3
end
section
variable {w wc w' : World} {room : Int} {Na Ma Nb Mb b1 b2 b3 : Nat} {c1 c2 c3 : Array Value} {owna ownb own' : Nat → Option ByteArray} {Qa Qb Q' : ByteArray → List S34} {s : ByteArray}
theorem Mid.move (h : Mid w room Na Ma Nb Mb b1 b2 b3 c1 c2 c3 owna ownb Qa Qb wc) (hb : Below wc.heap.size wc w') : Mid w room Na Ma Nb Mb b1 b2 b3 c1 c2 c3 owna ownb Qa Qb w' :=
  ⟨h.two.below hb, h.below.trans (hb.mono h.below.size), h.f1, h.f2, h.f3, (hb.block _ (heap_lt h.x1)).trans h.x1, (hb.block _ (heap_lt h.x2)).trans h.x2, (hb.block _ (heap_lt h.x3)).trans h.x3, h.g1, h.g2, h.g3, h.n12, h.n13, h.n23⟩
end
end Go.Proofs.Ytlnipfmgdkiboaa.N
