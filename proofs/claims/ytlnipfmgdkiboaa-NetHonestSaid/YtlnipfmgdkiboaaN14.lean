/- The network by hand: each act as one step, whatever its arguments; letters compared. -/
import Derived.Test.YtlnipfmgdkiboaaN13
namespace Go.Proofs.Ytlnipfmgdkiboaa.N
open Go.RowKit Go.Proofs.Ytlnipfmgdkiboaa.Q Go.Proofs.YtlnipfmgdkiboaaW.PrintWords Go.Proofs.YtlnipfmgdkiboaaW.PrintLast Go.Proofs.YtlnipfmgdkiboaaW.PrintMore
set_option linter.unusedVariables false
set_option linter.unusedSimpArgs false

/-! letters compared -/
theorem rd_eq_get (l : List Int) (i : Nat) (h : i < l.length) : rd l (i : Int) = l[i] := by
  unfold rd
  rw [Int.toNat_natCast, List.getD_eq_getElem?_getD, List.getElem?_eq_getElem h]
  rfl
theorem equal_l0 (a b : List Int) (hab : a.length = b.length) (hl : a.length ≤ 9223372036854775807) : ∀ d i k, d + i = a.length → d < k → (∀ j, j < i → a[j]? = b[j]?) → manometerref01_Equal.l0 k a b (a.length : Int) (i : Int) = some (decide (a = b)) := by
  intro d
  induction d with
  | zero =>
    intro i k hi hk hp
    obtain ⟨k, rfl⟩ : ∃ m, k = m + 1 := ⟨k - 1, by omega⟩
    have e : a = b := List.ext_getElem? (fun j => by
      by_cases hj : j < a.length
      · exact hp j (by omega)
      · rw [List.getElem?_eq_none (by omega), List.getElem?_eq_none (by omega)])
    simp only [manometerref01_Equal.l0]
    rw [if_neg (show ¬ ((i : Int) < (a.length : Int)) by omega)]
    simp [e]
  | succ d ih =>
    intro i k hi hk hp
    obtain ⟨k, rfl⟩ : ∃ m, k = m + 1 := ⟨k - 1, by omega⟩
    simp only [manometerref01_Equal.l0]
    rw [if_pos (show (i : Int) < (a.length : Int) by omega), if_pos (show (0 : Int) ≤ (i : Int) by omega), if_pos (show (i : Int) < (a.length : Int) by omega), if_pos (show (i : Int) < (b.length : Int) by omega)]
    rw [rd_eq_get a i (by omega), rd_eq_get b i (by omega)]
    by_cases he : a[i] = b[i]'(by omega)
    · rw [if_pos he, show wrap64 ((i : Int) + 1) = ((i + 1 : Nat) : Int) by unfold wrap64; omega]
      refine ih (i + 1) k (by omega) (by omega) (fun j hj => ?_)
      rcases Nat.lt_or_ge j i with h | h
      · exact hp j h
      · have : j = i := by omega
        subst this
        rw [List.getElem?_eq_getElem (by omega), List.getElem?_eq_getElem (by omega), he]
    · rw [if_neg he]
      have : ¬ a = b := fun e => he (by subst e; rfl)
      simp [this]
theorem equal_f (a b : List Int) (hl : a.length ≤ 9223372036854775807) : manometerref01_Equal.f (a.length + 1) a b = some (decide (a = b)) := by
  unfold manometerref01_Equal.f
  by_cases h : a.length = b.length
  · rw [if_pos (by omega)]
    exact equal_l0 a b h hl a.length 0 (a.length + 1) (by omega) (by omega) (fun j hj => by omega)
  · rw [if_neg (by omega)]
    have : ¬ a = b := fun e => h (by rw [e])
    simp [this]
/-- Are letters the same? -/
def sameL (x y : S34) : Bool := decide (x.f0 = y.f0 ∧ x.f1 = y.f1)
theorem sameL_refl (x : S34) : sameL x x = true := by simp [sameL]
theorem sameL_iff (x y : S34) : sameL x y = true ↔ x = y := by
  cases x; cases y; simp [sameL]
theorem same_f (x y : S34) (hl : x.f1.length ≤ 9223372036854775807) : manometerref23_Same.f (x.f1.length + 1) x.f0 x.f1 y.f0 y.f1 = some (sameL x y) := by
  unfold manometerref23_Same.f sameL
  by_cases h : x.f0 = y.f0
  · rw [if_pos h, equal_f _ _ hl]
    simp [h]
  · rw [if_neg h]
    simp [h]
theorem same_calls (x y : S34) (w : World) (A0 : Option Addr) (c0 : Nat) (A1 : Option Addr) (c1 : Nat) (h0 : (Kd.int .u8).C w A0 x.f1.length x.f1) (l0 : x.f1.length ≤ c0) (h1 : (Kd.int .u8).C w A1 y.f1.length y.f1) (l1 : y.f1.length ≤ c1) :
    Calls Try.prog 14 #[.agg #[.int .i64 x.f0, .slice A0 x.f1.length c0], .agg #[.int .i64 y.f0, .slice A1 y.f1.length c1]] w fun e w' => e = .returned (.bool (sameL x y)) ∧ Below w.heap.size w w' :=
  manometerref23_Same.calls _ _ _ _ _ _ _ _ _ _ w h0 l0 h1 l1 (same_f x y (Kd.C_max h0))

/-! the acts -/
section
variable {w : World} {N M : Nat} {room : Int} {B : Nat} {own : Nat → Option ByteArray} {G : ByteArray → Option Value} {Q : ByteArray → List S34}
/-- What an act leaves: a network with these letters; nothing else has turned. -/
def Left (w : World) (N M : Nat) (room : Int) (B : Nat) (own : Nat → Option ByteArray) (s : ByteArray) (Q' : ByteArray → List S34) (own' : Nat → Option ByteArray) (w' : World) : Prop :=
  ∃ G', NetG w' N M room B own' G' Q' ∧ Chg (fun k => k = M ∨ own k = some s) w w' ∧ ∀ k, k < w.heap.size → own' k = own k
theorem left_same (h : NetG w N M room B own G Q) (s : ByteArray) {w' : World} (hb : Below w.heap.size w w') : Left w N M room B own s Q own w' :=
  ⟨G, h.below hb, Chg.of_below _ hb, fun _ _ => rfl⟩
/-- How many of so many letters there is room for. -/
def sendK (room : Int) (Q : ByteArray → List S34) (s : ByteArray) (ls : List S34) : Nat := if tenant s = true then min ls.length (room - (Q s).length).toNat else 0
def sendE (s : ByteArray) : Int := if tenant s = true then 0 else 180
def sendQ (room : Int) (Q : ByteArray → List S34) (s : ByteArray) (ls : List S34) : ByteArray → List S34 := if tenant s = true then setQ Q s (Q s ++ ls.take (sendK room Q s ls)) else Q
theorem send_any (h : NetG w N M room B own G Q) (s : ByteArray) (A : Option Addr) (c : Nat) (ls : List S34)
    (hl : ∀ w', Chg (fun k => k = M ∨ own k = some s) w w' → Kd.C k34 w' A ls.length ls) (hc : ls.length ≤ c) (hsh : ∀ x ∈ ls, x.f1.length < 140737488355328) :
    Calls Try.prog 10 #[.pointer (some ⟨N, 0, none⟩), .string s, .slice A ls.length c] w fun e w' => e = .returned (.tuple #[.int .i64 (sendK room Q s ls), .int .i64 (sendE s)]) ∧ ∃ own', Left w N M room B own s (sendQ room Q s ls) own' w' := by
  cases ht : tenant s with
  | false =>
    refine (send_bad h s _ ht).mono fun e w' ⟨he, hb⟩ => ⟨?_, own, ?_⟩
    · rw [he]; simp [sendK, sendE, ht]
    · have := left_same h s hb
      simpa [sendQ, ht] using this
  | true =>
    have hf := h.few s
    have hk : sendK room Q s ls = min ls.length (room - (Q s).length).toNat := by simp [sendK, ht]
    refine (send_calls h s A c ls ht hl hc hsh (sendK room Q s ls) (by rw [hk]; omega) (by rw [hk]; omega) (by rw [hk]; omega)).mono fun e w' ⟨own', G', he, hN, hC, hO⟩ => ⟨?_, own', ?_⟩
    · rw [he]; simp [sendE, ht]
    · refine ⟨G', ?_, hC, hO⟩
      have : sendQ room Q s ls = setQ Q s (Q s ++ ls.take (sendK room Q s ls)) := by simp [sendQ, ht]
      rw [this]
      exact hN
/-- The letter at a place. -/
def takeX (Q : ByteArray → List S34) (s : ByteArray) (i : Int) : S34 := if 0 ≤ i ∧ i < (Q s).length then (Q s).getD i.toNat z34 else z34
def takeE (Q : ByteArray → List S34) (s : ByteArray) (i : Int) : Int := if 0 ≤ i ∧ i < (Q s).length then 0 else 4
def takeQ (Q : ByteArray → List S34) (s : ByteArray) (i : Int) : ByteArray → List S34 := if 0 ≤ i ∧ i < (Q s).length then setQ Q s ((Q s).take i.toNat ++ (Q s).drop (i.toNat + 1)) else Q
theorem take_any (h : NetG w N M room B own G Q) (s : ByteArray) (i : Int) :
    Calls Try.prog 11 #[.pointer (some ⟨N, 0, none⟩), .string s, .int .i64 i] w fun e w' => ∃ own' A1 c1, e = .returned (.tuple #[.agg #[.int .i64 (takeX Q s i).f0, .slice A1 (takeX Q s i).f1.length c1], .int .i64 (takeE Q s i)]) ∧ Left w N M room B own s (takeQ Q s i) own' w' ∧ k34.M w' B (fun k => own' k = some s) (takeX Q s i) [.int .i64 (takeX Q s i).f0, .slice A1 (takeX Q s i).f1.length c1] := by
  by_cases hi : 0 ≤ i ∧ i < (Q s).length
  · obtain ⟨j, rfl⟩ := Int.eq_ofNat_of_zero_le hi.1
    refine (take_calls h s j (by omega) _ rfl).mono fun e w' ⟨own', G', A1, c1, he, hN, hC, hO, hM⟩ => ⟨own', A1, c1, ?_, ⟨G', ?_, hC, hO⟩, ?_⟩
    · rw [he]; simp only [takeX, takeE, if_pos hi, Int.toNat_natCast]
    · rw [takeQ, if_pos hi, Int.toNat_natCast]; exact hN
    · rw [takeX, if_pos hi, Int.toNat_natCast]; exact hM
  · refine (take_out h s i hi).mono fun e w' ⟨he, hb⟩ => ⟨own, none, 0, ?_, ?_, ?_⟩
    · rw [he]; simp only [takeX, takeE, if_neg hi]; rfl
    · rw [takeQ, if_neg hi]; exact left_same h s hb
    · rw [takeX, if_neg hi]; exact k34_mkM w' B _ z34 (Kd.R_nil _ _ _ _ _)
def doubleE (room : Int) (Q : ByteArray → List S34) (s : ByteArray) (i : Int) : Int := if 0 ≤ i ∧ i < (Q s).length then (if ((Q s).length : Int) < room then 0 else 5) else 4
def doubleQ (room : Int) (Q : ByteArray → List S34) (s : ByteArray) (i : Int) : ByteArray → List S34 := if 0 ≤ i ∧ i < (Q s).length then (if ((Q s).length : Int) < room then setQ Q s (Q s ++ [(Q s).getD i.toNat z34]) else Q) else Q
theorem double_any (h : NetG w N M room B own G Q) (s : ByteArray) (i : Int) :
    Calls Try.prog 13 #[.pointer (some ⟨N, 0, none⟩), .string s, .int .i64 i] w fun e w' => e = .returned (.int .i64 (doubleE room Q s i)) ∧ ∃ own', Left w N M room B own s (doubleQ room Q s i) own' w' := by
  by_cases hi : 0 ≤ i ∧ i < (Q s).length
  · by_cases hf : ((Q s).length : Int) < room
    · refine (double_calls h s i hi.1 hi.2 hf _ rfl).mono fun e w' ⟨own', G', he, hN, hC, hO⟩ => ⟨?_, own', G', ?_, hC, hO⟩
      · rw [he, doubleE, if_pos hi, if_pos hf]
      · rw [doubleQ, if_pos hi, if_pos hf]; exact hN
    · refine (double_full h s i hi.1 hi.2 (by have := h.few s; omega)).mono fun e w' ⟨he, hb⟩ => ⟨?_, own, ?_⟩
      · rw [he, doubleE, if_pos hi, if_neg hf]
      · rw [doubleQ, if_pos hi, if_neg hf]; exact left_same h s hb
  · refine (double_out h s i hi).mono fun e w' ⟨he, hb⟩ => ⟨?_, own, ?_⟩
    · rw [he, doubleE, if_neg hi]
    · rw [doubleQ, if_neg hi]; exact left_same h s hb
set_option maxHeartbeats 1000000 in
set_option maxRecDepth 100000 in
theorem drop_any (h : NetG w N M room B own G Q) (s : ByteArray) (i : Int) :
    Calls Try.prog 12 #[.pointer (some ⟨N, 0, none⟩), .string s, .int .i64 i] w fun e w' => e = .returned (.int .i64 (takeE Q s i)) ∧ ∃ own', Left w N M room B own s (takeQ Q s i) own' w' := by
  have HH := Aside0.mk h
  clear h
  generalize hE : takeE Q s i = E
  have HE := Aside0.mk hE
  clear hE
  go_enter Try.func12, Try.ntmps12
  go_wp2_with (go_at_call 11; (with_reducible refine (take_any HH.out s i).mono ?_); rintro e w1 ⟨own1, A1, c1, rfl, hL, hM⟩; have HL := Aside0.mk hL; rw [HE.out]; clear hL hM)
  go_ret
  refine ⟨rfl, own1, ?_⟩
  obtain ⟨G', hN, hC, hO⟩ := HL.out
  exact ⟨G', hN.below (below_alloc (Below.refl _ _) _), hC.trans (Chg.of_below (fun _ => False) (below_alloc (Below.refl _ _) _)) (fun _ _ e => e) (fun _ _ e => e.elim), hO⟩
end
end Go.Proofs.Ytlnipfmgdkiboaa.N
