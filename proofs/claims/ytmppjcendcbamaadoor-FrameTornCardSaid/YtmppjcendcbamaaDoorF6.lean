/- Plain laws of frame, on: another byte, another sum. -/
import Derived.Test.YtmppjcendcbamaaDoorF5
import Derived.Test.YtmppjcendcbamaaDoorF3
namespace Go.Proofs.YtmppjcendcbamaaDoor.FF
open Go.RowKit Go.Proofs.YtmppjcendcbamaaDoor.Q Go.Proofs.YtmppjcendcbamaaDoorW.PrintWords Go.Proofs.YtmppjcendcbamaaDoorW.PrintLast Go.Proofs.YtmppjcendcbamaaDoorW.PrintMore
set_option linter.unusedVariables false

theorem xor_cancel {a b c : Nat} (h : a ^^^ c = b ^^^ c) : a = b := by
  have := congrArg (· ^^^ c) h
  simpa [Nat.xor_assoc] using this
theorem top_lt {t : Nat} (h : t < 2147483648) : t.testBit 31 = false := Nat.testBit_lt_two_pow (by exact h)
theorem st1_odd {s t : Nat} (hs : s < 4294967296) (ht : t < 4294967296) (h1 : s % 2 = 1) (h2 : t % 2 = 0) : st1 s ≠ st1 t := by
  intro h
  unfold st1 at h
  rw [if_pos h1, if_neg (by omega), Nat.xor_zero] at h
  have := congrArg (fun n => n.testBit 31) h
  simp only [Nat.testBit_xor] at this
  rw [top_lt (t := s / 2) (by omega), top_lt (t := t / 2) (by omega), show poly.testBit 31 = true by decide] at this
  simp at this
theorem st1_inj {s t : Nat} (hs : s < 4294967296) (ht : t < 4294967296) (h : st1 s = st1 t) : s = t := by
  have a1 : s % 2 = 0 ∨ s % 2 = 1 := by omega
  have a2 : t % 2 = 0 ∨ t % 2 = 1 := by omega
  rcases a1 with a1 | a1 <;> rcases a2 with a2 | a2
  · unfold st1 at h
    rw [if_neg (by omega), if_neg (by omega), Nat.xor_zero, Nat.xor_zero] at h
    omega
  · exact absurd h.symm (st1_odd ht hs a2 a1)
  · exact absurd h (st1_odd hs ht a1 a2)
  · unfold st1 at h
    rw [if_pos a1, if_pos a2] at h
    have := xor_cancel h
    omega
theorem st4_inj {s t : Nat} (hs : s < 4294967296) (ht : t < 4294967296) (h : st4 s = st4 t) : s = t := by
  rw [← st4_eq, ← st4_eq] at h
  have s1 := st1_lt hs
  have t1 := st1_lt ht
  exact st1_inj hs ht (st1_inj s1 t1 (st1_inj (st1_lt s1) (st1_lt t1) (st1_inj (st1_lt (st1_lt s1)) (st1_lt (st1_lt t1)) h)))
theorem stB_inj {s t c d : Nat} (hs : s < 4294967296) (ht : t < 4294967296) (hc : c < 256) (hd : d < 256) (h : stB s c = stB t d) : s ^^^ c = t ^^^ d := by
  have a1 : s ^^^ c < 4294967296 := xor_lt hs (by omega)
  have a2 : t ^^^ d < 4294967296 := xor_lt ht (by omega)
  exact st4_inj a1 a2 (st4_inj (st4_lt a1) (st4_lt a2) h)
theorem fold_inj (l : List Nat) : ∀ (s t : Nat), s < 4294967296 → t < 4294967296 → (∀ c ∈ l, c < 256) → l.foldl stB s = l.foldl stB t → s = t := by
  induction l with
  | nil => intro s t _ _ _ h; exact h
  | cons c l ih =>
    intro s t hs ht hc h
    have hc0 := hc c List.mem_cons_self
    exact xor_cancel (stB_inj hs ht hc0 hc0 (ih _ _ (stB_lt hs hc0) (stB_lt ht hc0) (fun x hx => hc x (List.mem_cons_of_mem _ hx)) h))
theorem mo_split (s : Nat) (a : List Int) (c : Int) (b : List Int) : mo s (a ++ c :: b) = (b.map Int.toNat).foldl stB (stB ((a.map Int.toNat).foldl stB (s ^^^ ones)) c.toNat) ^^^ ones := by
  simp [mo, moreN, List.foldl_append]
theorem mo_other {a b : List Int} {c d : Int} (ha : By a) (hb : By b) (hc : 0 ≤ c ∧ c < 256) (hd : 0 ≤ d ∧ d < 256) (h : mo 0 (a ++ c :: b) = mo 0 (a ++ d :: b)) : c = d := by
  rw [mo_split, mo_split] at h
  have hl := fold_lt (a.map Int.toNat) (0 ^^^ ones) (xor_lt (by omega) ones_lt) ha.nats
  have := fold_inj _ _ _ (stB_lt hl (by omega)) (stB_lt hl (by omega)) hb.nats (xor_cancel h)
  have := stB_inj hl hl (by omega) (by omega) this
  rw [Nat.xor_comm, Nat.xor_comm _ d.toNat] at this
  have := xor_cancel this
  omega
theorem lo4_inj {a b : Nat} (ha : a < 4294967296) (hb : b < 4294967296) (h : lo4 a = lo4 b) : a = b := by
  unfold lo4 at h
  simp only [List.cons.injEq, and_true] at h
  omega
theorem hd_take (n : Nat) (b q : List Int) : (hd n ++ b ++ q).take ((hd n).length + b.length) = hd n ++ b := by
  rw [← List.length_append, List.take_left]
/-- Any bytes behind a number and as many bytes as it says, with four behind: what Get gives. -/
theorem getN_hd {b q : List Int} (hn : b.length ≤ 1048576) (hq : 4 ≤ q.length) :
    getN (hd b.length ++ b ++ q) = if q.take 4 = lo4 (mk (mo 0 (hd b.length ++ b))) then (b, (hd b.length).length + b.length + 4, 0) else ([], 0, 20) := by
  have hu : uvo (hd b.length ++ b ++ q) = (b.length, (hd b.length).length, 0) := by rw [List.append_assoc]; exact uvo_hd (by omega) _
  unfold getN
  rw [hu, if_pos rfl]
  unfold getA
  have hl : (hd b.length ++ b ++ q).length = (hd b.length).length + b.length + q.length := by simp only [List.length_append]
  have e2 : ((hd b.length ++ b ++ q).take ((hd b.length).length + b.length + 4)).drop ((hd b.length).length + b.length) = q.take 4 := by
    rw [List.drop_take, show (hd b.length).length + b.length + 4 - ((hd b.length).length + b.length) = 4 by omega, ← List.length_append, List.drop_left]
  rw [if_neg (by simp only; omega), if_neg (by rw [hl]; simp only; omega), hd_take]
  simp only [e2, List.drop_left]
theorem getN_fr {b : List Int} (hn : b.length ≤ 1048576) (rest : List Int) : getN (fr b ++ rest) = (b, (fr b).length, 0) := by
  have : fr b ++ rest = hd b.length ++ b ++ (lo4 (mk (mo 0 (hd b.length ++ b))) ++ rest) := by simp only [fr, List.append_assoc]
  rw [this, getN_hd hn (by rw [List.length_append, lo4_len]; omega), if_pos (by rw [← lo4_len (mk (mo 0 (hd b.length ++ b))), List.take_left]), fr_len]
theorem set_split {l : List Int} {p : Nat} (h : p < l.length) (v : Int) : l.set p v = l.take p ++ v :: l.drop (p + 1) ∧ l = l.take p ++ l[p] :: l.drop (p + 1) :=
  ⟨List.set_eq_take_append_cons_drop ▸ by rw [if_pos h], by rw [← List.drop_eq_getElem_cons h, List.take_append_drop]⟩
/-- A frame of which one byte behind the number is another one. -/
theorem getN_spoilt {b : List Int} (hb : By b) (hn : b.length ≤ 4000) {p : Nat} (h1 : (hd b.length).length ≤ p) (h2 : p < (fr b).length) (v : Int) (hv : 0 ≤ v ∧ v < 256) (hne : v ≠ (fr b)[p]) :
    getN ((fr b).set p v) = ([], 0, 20) := by
  obtain ⟨J, hJ⟩ : ∃ J, J = (hd b.length).length := ⟨_, rfl⟩
  obtain ⟨Q, hQ⟩ : ∃ Q, Q = lo4 (mk (mo 0 (hd b.length ++ b))) := ⟨_, rfl⟩
  have hfr : fr b = hd b.length ++ b ++ Q := by rw [hQ]; rfl
  have hQl : Q.length = 4 := by rw [hQ]; rfl
  have hQb : By Q := by rw [hQ]; exact lo4_by _
  have hlen : (hd b.length ++ b).length = J + b.length := by rw [List.length_append, hJ]
  rw [fr_len, ← hJ] at h2
  by_cases hp : p < J + b.length
  · -- a byte of the bytes
    have hq : p - J < b.length := by omega
    have e : (fr b).set p v = hd b.length ++ b.set (p - J) v ++ Q := by
      rw [hfr, List.set_append_left _ _ (by rw [hlen]; exact hp), List.set_append_right _ _ (by omega), ← hJ]
    obtain ⟨s1, s2⟩ := set_split hq v
    have hbl : (b.set (p - J) v).length = b.length := List.length_set
    have hcell : (fr b)[p]'(by rw [fr_len, ← hJ]; omega) = b[p - J] := by
      simp only [hfr]
      rw [List.getElem_append_left (by rw [hlen]; exact hp), List.getElem_append_right (by omega)]
      simp only [← hJ]
    rw [hcell] at hne
    rw [e, ← hbl, getN_hd (by rw [hbl]; omega) (by omega), hbl, List.take_of_length_le (by omega), if_neg]
    intro h
    rw [hQ] at h
    have h3 := mk_inj (mo_lt (by omega) ((hd_by _).append hb)) (mo_lt (by omega) ((hd_by _).append (by rw [s1]; exact (hb.take _).append (fun c hc => (List.mem_cons.1 hc).elim (fun e => by rw [e]; exact hv) (fun hc => hb.drop _ c hc))))) (lo4_inj (mk_lt _) (mk_lt _) h)
    rw [s1] at h3
    rw [show mo 0 (hd b.length ++ b) = mo 0 (hd b.length ++ b.take (p - J) ++ b[p - J] :: b.drop (p - J + 1)) by rw [List.append_assoc, ← s2], ← List.append_assoc] at h3
    exact hne (mo_other ((hd_by _).append (hb.take _)) (hb.drop _) (hb _ (List.getElem_mem hq)) hv h3).symm
  · -- a byte of the sum
    have hq : p - (J + b.length) < Q.length := by omega
    have e : (fr b).set p v = hd b.length ++ b ++ Q.set (p - (J + b.length)) v := by
      rw [hfr, List.set_append_right _ _ (by rw [hlen]; omega), hlen]
    have hcell : (fr b)[p]'(by rw [fr_len, ← hJ]; omega) = Q[p - (J + b.length)] := by
      simp only [hfr]
      rw [List.getElem_append_right (by rw [hlen]; omega)]
      simp only [hlen]
    rw [hcell] at hne
    rw [e, getN_hd (by omega) (by rw [List.length_set]; omega), List.take_of_length_le (by rw [List.length_set]; omega), if_neg]
    intro h
    rw [← hQ] at h
    have h4 : (Q.set (p - (J + b.length)) v)[p - (J + b.length)]'(by rw [List.length_set]; exact hq) = Q[p - (J + b.length)] := by simp only [h]
    rw [List.getElem_set_self] at h4
    exact hne h4
end Go.Proofs.YtmppjcendcbamaaDoor.FF
