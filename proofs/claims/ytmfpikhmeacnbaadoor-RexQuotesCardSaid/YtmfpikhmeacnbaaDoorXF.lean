import Derived.Test.YtmfpikhmeacnbaaDoorXE
import Derived.Laws.Runes
import Derived.KernelRfl
/- Patterns by hand: ends of any part, Match, Text, Size, Quote (mkX17.py). -/
namespace Go.Proofs.YtmfpikhmeacnbaaDoor.X
open Go.RowKit Go.Proofs.YtmfpikhmeacnbaaDoor.Q Go.Proofs.YtmfpikhmeacnbaaDoorW.PrintWords Go.Proofs.YtmfpikhmeacnbaaDoorW.PrintLast Go.Proofs.YtmfpikhmeacnbaaDoorW.PrintMore
set_option linter.unusedVariables false
set_option linter.unusedSimpArgs false
set_option maxHeartbeats 2000000 in
set_option maxRecDepth 100000 in
theorem ends_again {N : Nat} (IH : EndsOk N) {p : Pt} {sg : Int} (hsz : (Pt.again p sg).sz ≤ N) (hwf : p.WF) {w : World} {B q : Nat} {ok : Nat → Prop} (h : Tr w B ok q (.again p sg)) {A : Option Addr} {m cl : Nat} {l : List Int} (hl : RI w A m cl l) {g n c : Nat} {F : List Bool} (hF : BL w g n c F) (hn : n = l.length + 1) (hs : n ≤ 1000000) :
    Calls Tryd.prog 28 #[.pointer (some ⟨q, 0, none⟩), .slice A m cl, .slice (some ⟨g, 0, none⟩) n c] w (EndsP w g n F (endsF (.again p sg) l F)) := by
  have HO := Aside0.mk (often_calls IH hsz hwf h hl hF hn hs)
  obtain ⟨cs, _, hok, _, vs, vp, hq, _, hp⟩ := h
  have x0 : w.cell? ⟨q, 0, none⟩ = some (.int .i64 3) := (nd_cell hq).1
  clear hq hp hl hF hn hs hsz
  go_enter Tryd.func28, Tryd.ntmps28
  go_wp2_with (go_at_call 43; (with_reducible refine HO.out.mono ?_); rintro e w2 ⟨g2, c2, rfl, hb2, hg2, hb⟩; have H2 := Aside0.mk hb2; have HG2 := Aside0.mk hg2; have HB2 := Aside0.mk hb; clear hb2 hg2 hb)
  go_ret
  exact ⟨g2, c2, rfl, H2.out, HG2.out, HB2.out⟩
theorem ends_ok : ∀ N, EndsOk N
  | 0 => ⟨fun h => absurd h (Nat.not_lt_zero _)⟩
  | N + 1 => by
    have IH := ends_ok N
    refine ⟨fun {p} hsz hwf => ?_⟩
    intro w B q ok h A m cl l hl g n c F hF hn hs
    have hsz' : p.sz ≤ N := by omega
    cases p with
    | one s but pl => exact ends_one h hl hF hn hs
    | eps => exact ends_many IH hsz' hwf rfl h hl hF hn hs
    | cat a b => exact ends_many IH hsz' hwf rfl h hl hF hn hs
    | alt1 a => exact ends_alike IH hsz' hwf rfl h hl hF hn hs
    | alt a b => exact ends_alike IH hsz' hwf rfl h hl hF hn hs
    | again a s => exact ends_again IH hsz' hwf h hl hF hn hs
/-- Whether a whole text is of a pattern. -/
def matchF (p : Pt) (s : ByteArray) : Bool := (endsF p (runesF s) (true :: List.replicate (runesF s).length false)).getD (runesF s).length false
set_option maxHeartbeats 2000000 in
set_option maxRecDepth 100000 in
theorem match_calls {w : World} {B Q : Nat} {s0 : ByteArray} {p : Pt} {m0 : Nat} (h : Rx w B Q s0 p m0) (hwf : p.WF) {s : ByteArray} (hs : s.size ≤ 900000) : Calls Tryd.prog 12 #[.pointer (some ⟨Q, 0, none⟩), .string s] w fun x w' => x = .returned (.bool (matchF p s)) ∧ Below w.heap.size w w' := by
  obtain ⟨hBQ, q, hq, ht⟩ := h
  have HQ := Aside0.mk hq
  have HT := Aside0.mk ht
  have HWF := Aside0.mk hwf
  have HS := Aside0.mk hs
  have HLN := Aside0.mk (runesF_len s)
  unfold matchF
  obtain ⟨l, hl⟩ : ∃ l, runesF s = l := ⟨_, rfl⟩
  rw [hl]
  rw [hl] at HLN
  have HRL := Aside0.mk hl
  clear hl
  have x1 : w.cell? ⟨Q, 1, none⟩ = some (.pointer (some ⟨q, 0, none⟩)) := (blk_cell hq 1).trans rfl
  clear hq ht hwf hs hBQ
  obtain ⟨m, hm⟩ : ∃ m, l.length = m := ⟨_, rfl⟩
  have HM := Aside0.mk hm
  rw [hm]
  have hm9 : m ≤ 900000 := by have h1 := HLN.out; have h2 := HS.out; omega
  have hw1 : wrap64 ((m : Int) + 1) = (m : Int) + 1 := wrap64_self (by omega) (by omega)
  clear hm
  go_enter Tryd.func12, Tryd.ntmps12
  go_wp2_with (first
    | (go_at_call 27; (with_reducible refine (runes_calls (Nat.le_trans HS.out (by decide)) _).mono ?_); rw [HRL.out]; rintro e w1 ⟨v, rfl, hr, hb⟩; obtain ⟨A1, c1, rfl⟩ := Kd.R_slice hr; rw [HM.out] at hr ⊢; have HR1 := Aside0.mk (show RI w1 A1 m c1 l from Kd.R_lower (Kd.R_mono hr (fun _ _ => trivial)) (Nat.zero_le _)); have HB1 := Aside0.mk hb; clear hr hb)
    | ((with_reducible refine gate_dst (N := 21) rfl ?_); refine Kd.R_make Kd.bool (w0 := w) w.heap.size 4 rfl rfl 65 (.tmp 20) (.tmp 20) rfl ((m : Int) + 1) rfl rfl Tryd.underlying65 (.bool false) 1 info4 rfl (by decide) (by decide) false (ok := fun k => w.heap.size ≤ k) (okp := fun _ => False) rfl (fun _ h => h.elim) HB1.out.size (by omega) (by omega) HB1.out HB1.out.size ?_; intro v3 w3 hr3 hb3 hg3 ho3; rw [show ((m : Int) + 1).toNat = m + 1 from by omega] at hr3; obtain ⟨g3, c3, hv3, hg3l, _⟩ := Kd.R_form hr3 (by rw [List.length_replicate]; omega); rw [List.length_replicate] at hv3; subst hv3; have HG3 := Aside0.mk hg3l; have hbl : BL w3 g3 (m + 1) c3 (List.replicate (m + 1) false) := Kd.R_lower (Kd.R_mono hr3 (fun _ _ => trivial)) (Nat.zero_le _); have HR3 := Aside0.mk hbl; have HB3 := Aside0.mk hb3; obtain ⟨z0, zf⟩ := hbl.cell 0 (by omega); have hg1 : w1.heap.size ≤ g3 := (by obtain ⟨b1, e1, e2⟩ := ho3; have e3 : some g3 = some b1 := e1; injection e3 with e3; omega); have hb4 := Below.far_ hb3 hg3l 0 (.bool true); have HB4 := Aside0.mk hb4; have HT4 := Aside0.mk (HT.out.below hb4); have HR4 := Aside0.mk (show RI (w3.setCell ⟨g3, 0, none⟩ (.bool true)) A1 m c1 l from Kd.R_mono (Kd.R_step (Kd.R_bound HR1.out) (fun k hk hl => (Below.heap_setCell _ _ _ k (fun e => by have e' : k = g3 := e; have := hk.2.2.1; omega)).trans (hg3.block k hk.2.2.1 (by intro e; cases e)))) (fun _ _ => trivial)); have HF4 := Aside0.mk (show BL (w3.setCell ⟨g3, 0, none⟩ (.bool true)) g3 (m + 1) c3 (true :: List.replicate m false) from hbl.put 0 true); have HN4 := Aside0.mk (show m + 1 = l.length + 1 by rw [HM.out]); have HS4 := Aside0.mk (show m + 1 ≤ 1000000 by omega); clear hg1 hb4; clear hr3 hg3 ho3 hg3l hbl; have x1' : w3.cell? ⟨Q, 1, none⟩ = some (.pointer (some ⟨q, 0, none⟩)) := (blk_cell ((hb3.block Q (blk_lt HQ.out)).trans HQ.out) 1).trans rfl; clear hb3)
    | (go_at_call 28; (with_reducible refine ((ends_ok _).go (Nat.lt_succ_self p.sz) HWF.out HT4.out HR4.out HF4.out HN4.out HS4.out).mono ?_); rintro e w5 ⟨g5, c5, rfl, hb5, _, hb⟩; have HB5 := Aside0.mk (HB4.out.trans (hb.mono HB4.out.size)); obtain ⟨y0, _⟩ := hb5.cell m (by have h1 := hm9; omega); clear hb5 hb))
  go_ret
  refine ⟨rfl, HB5.out⟩
/-- A pattern that no call made. -/
theorem match_none (s : ByteArray) (w : World) : Calls Tryd.prog 12 #[.pointer none, .string s] w fun x w' => x = .returned (.bool false) ∧ w' = w := by
  go_enter Tryd.func12, Tryd.ntmps12
  go_wp2_with (fail)
  go_ret
  exact ⟨rfl, rfl⟩
theorem match_zero {w : World} {Q : Nat} {s0 : ByteArray} {m0 : Int} (h : w.heap[Q]? = some (.cells #[.string s0, .pointer none, .int .i64 m0] 43 (0, 0))) (s : ByteArray) : Calls Tryd.prog 12 #[.pointer (some ⟨Q, 0, none⟩), .string s] w fun x w' => x = .returned (.bool false) ∧ w' = w := by
  have x1 : w.cell? ⟨Q, 1, none⟩ = some (.pointer none) := (blk_cell h 1).trans rfl
  clear h
  go_enter Tryd.func12, Tryd.ntmps12
  go_wp2_with (fail)
  go_ret
  exact ⟨rfl, rfl⟩
theorem text_none (w : World) : Calls Tryd.prog 19 #[.pointer none] w fun x w' => x = .returned (.string ⟨#[]⟩) ∧ w' = w := by
  go_enter Tryd.func19, Tryd.ntmps19
  go_wp2_with (fail)
  go_ret
  exact ⟨rfl, rfl⟩
theorem text_some {w : World} {Q : Nat} {s0 : ByteArray} {v : Value} {m0 : Int} (h : w.heap[Q]? = some (.cells #[.string s0, v, .int .i64 m0] 43 (0, 0))) : Calls Tryd.prog 19 #[.pointer (some ⟨Q, 0, none⟩)] w fun x w' => x = .returned (.string s0) ∧ w' = w := by
  have x0 : w.cell? ⟨Q, 0, none⟩ = some (.string s0) := (blk_cell h 0).trans rfl
  clear h
  go_enter Tryd.func19, Tryd.ntmps19
  go_wp2_with (fail)
  go_ret
  exact ⟨rfl, rfl⟩
theorem size_none (w : World) : Calls Tryd.prog 20 #[.pointer none] w fun x w' => x = .returned (.int .i64 0) ∧ w' = w := by
  go_enter Tryd.func20, Tryd.ntmps20
  go_wp2_with (fail)
  go_ret
  exact ⟨rfl, rfl⟩
theorem size_some {w : World} {Q : Nat} {s0 : ByteArray} {v : Value} {m0 : Int} (h : w.heap[Q]? = some (.cells #[.string s0, v, .int .i64 m0] 43 (0, 0))) : Calls Tryd.prog 20 #[.pointer (some ⟨Q, 0, none⟩)] w fun x w' => x = .returned (.int .i64 m0) ∧ w' = w := by
  have x2 : w.cell? ⟨Q, 2, none⟩ = some (.int .i64 m0) := (blk_cell h 2).trans rfl
  clear h
  go_enter Tryd.func20, Tryd.ntmps20
  go_wp2_with (fail)
  go_ret
  exact ⟨rfl, rfl⟩
/-- A text as a pattern. -/
def quoteL : List Int → ByteArray → ByteArray
  | [], o => o
  | c :: r, o => quoteL r ((if special c = true then o ++ ⟨#[92]⟩ else o) ++ Utf8.encode c)
def quoteF (s : ByteArray) : ByteArray := quoteL (runesF s) ⟨#[]⟩
set_option maxHeartbeats 1000000 in
set_option maxRecDepth 100000 in
theorem quote_calls {s : ByteArray} (hs : s.size ≤ 1000000) (w : World) : Calls Tryd.prog 14 #[.string s] w fun x w' => x = .returned (.string (quoteF s)) ∧ Below w.heap.size w w' := by
  obtain ⟨w1, hw1⟩ : ∃ w1, w1 = w.iter s 0 := ⟨_, rfl⟩
  have hrg : (Instr.range 9 (.string s)).run Tryd.prog w = .ok (.pointer (some ⟨w.heap.size, 0, none⟩)) w1 := by rw [hw1]; exact run_range_string w 9 s Tryd.underlying9
  have HI := Aside0.mk (show w1.heap[w.heap.size]? = some (.stringIter s 0) by rw [hw1]; exact World.iter_heap w s 0)
  have HB := Aside0.mk (show Below w.heap.size w w1 by rw [hw1]; exact below_alloc (Below.refl _ _) _)
  clear hw1
  unfold quoteF
  obtain ⟨RL, hRL⟩ : ∃ RL, quoteL (runesF s) ⟨#[]⟩ = RL := ⟨_, rfl⟩
  have HRL := Aside0.mk hRL
  have HSZ := Aside0.mk hs
  rw [hRL]
  clear hRL hs
  go_enter Tryd.func14, Tryd.ntmps14
  go_wp2
  clear hrg
  try go_frame
  go_loopg [3] (s.size + 1) (fun kq v3 wr => ∃ (pos : Nat) (acc : ByteArray), v3 = .string acc ∧ Aside0 (quoteL (runesK s kq pos) acc = RL ∧ s.size + 1 ≤ kq + pos ∧ pos ≤ s.size ∧ acc.size ≤ 5 * pos) ∧ Aside0 (wr.heap[w.heap.size]? = some (.stringIter s pos)) ∧ Aside0 (Below w.heap.size w wr))
  case atStart => exact ⟨0, ⟨#[]⟩, rfl, ⟨HRL.out, by omega, by omega, Nat.le_refl _⟩, HI, HB⟩
  case round =>
    clear HI HB
    obtain ⟨pos, acc, rfl, HK, HI, HB⟩ := hrel
    cases gk with
    | zero => have := HK.out; omega
    | succ k1 =>
    by_cases hp : pos < s.size
    · have hnx := next_str (P := Tryd.prog) HI.out hp 0
      have HN := Aside0.mk (iter_next (q := pos + (Utf8.decode s pos).2) (Nat.le_refl _) HI.out HB.out)
      have HD := Aside0.mk (decode_size s pos hp)
      have HA := Aside0.mk (show quoteL (((Utf8.decode s pos).1 : Int) :: runesK s k1 (pos + (Utf8.decode s pos).2)) acc = RL by have h := HK.out.1; rw [runesK, if_pos hp] at h; exact h)
      generalize Go.ChangeMaps.setBlock wr w.heap.size (.stringIter s (pos + (Utf8.decode s pos).2)) = w2 at *
      generalize Utf8.decode s pos = D at *
      obtain ⟨x, n⟩ := D
      obtain ⟨en, hen⟩ : ∃ en, Utf8.encode (x : Int) = en := ⟨_, rfl⟩
      have HEN := Aside0.mk hen
      have hen4 : en.size ≤ 4 := by rw [← hen]; exact encode_size_le _
      have hacc : acc.size ≤ 5000000 := by have h1 := HK.out; have h2 := HSZ.out; omega
      have HE4 := Aside0.mk hen4
      clear hen
      cases hsp : special (x : Int) with
      | true =>
        have HSP := Aside0.mk hsp
        clear hsp
        go_wp2_with (first
          | (at_next; refine wpList_next_str _ rfl (.tmp 7) rfl _ _ rfl _ hnx ?_)
          | (go_at_call 31; (with_reducible refine (special_calls (x : Int) _).mono ?_); rw [HSP.out]; rintro e w3 ⟨rfl, hb⟩; have HI3 := Aside0.mk ((hb.block _ (blk_lt HN.out.1)).trans HN.out.1); have HB3 := Aside0.mk (HN.out.2.trans (hb.mono HN.out.2.size)); clear hb)
          | ((with_reducible refine gate_dst (N := 18) rfl ?_); rw [HEN.out]))
        go_roundg k1
        case measure => omega
        case rel => exact ⟨pos + n, _, rfl, ⟨by have h := HA.out; rw [quoteL, if_pos HSP.out, HEN.out] at h; exact h, by have h1 := HK.out; have h2 := HD.out; omega, HD.out.2.1, by have h1 := HK.out; have h2 := HD.out; have h3 := HE4.out; simp only [ByteArray.size_append]; first | omega | (rw [show (⟨#[92]⟩ : ByteArray).size = 1 from rfl]; omega)⟩, HI3, HB3⟩
      | false =>
        have HSP := Aside0.mk hsp
        clear hsp
        go_wp2_with (first
          | (at_next; refine wpList_next_str _ rfl (.tmp 7) rfl _ _ rfl _ hnx ?_)
          | (go_at_call 31; (with_reducible refine (special_calls (x : Int) _).mono ?_); rw [HSP.out]; rintro e w3 ⟨rfl, hb⟩; have HI3 := Aside0.mk ((hb.block _ (blk_lt HN.out.1)).trans HN.out.1); have HB3 := Aside0.mk (HN.out.2.trans (hb.mono HN.out.2.size)); clear hb)
          | ((with_reducible refine gate_dst (N := 18) rfl ?_); rw [HEN.out]))
        go_roundg k1
        case measure => omega
        case rel => exact ⟨pos + n, _, rfl, ⟨by have h := HA.out; rw [quoteL, if_neg (by rw [HSP.out]; decide), HEN.out] at h; exact h, by have h1 := HK.out; have h2 := HD.out; omega, HD.out.2.1, by have h1 := HK.out; have h2 := HD.out; have h3 := HE4.out; simp only [ByteArray.size_append]; first | omega | (rw [show (⟨#[92]⟩ : ByteArray).size = 1 from rfl]; omega)⟩, HI3, HB3⟩
    · have hnx := next_str_end (P := Tryd.prog) HI.out hp 0
      have HA := Aside0.mk (show acc = RL by have h := HK.out.1; rw [runesK, if_neg hp] at h; exact h)
      go_wp2_with (at_next; refine wpList_next_str _ rfl (.tmp 7) rfl _ _ rfl _ hnx ?_)
      go_ret
      exact ⟨by rw [← HA.out]; rfl, HB.out⟩
end Go.Proofs.YtmfpikhmeacnbaaDoor.X

/- Patterns by hand: value, Values (mkX18.py). -/
namespace Go.Proofs.YtmfpikhmeacnbaaDoor.X
open Go.RowKit Go.Proofs.YtmfpikhmeacnbaaDoor.Q Go.Proofs.YtmfpikhmeacnbaaDoorW.PrintWords Go.Proofs.YtmfpikhmeacnbaaDoorW.PrintLast Go.Proofs.YtmfpikhmeacnbaaDoorW.PrintMore
set_option linter.unusedVariables false
set_option linter.unusedSimpArgs false
/-- Whether a text is among some. -/
def among (l : List ByteArray) (s : ByteArray) : Bool := l.any fun y => decide (s.toList = y.toList)
theorem index_any (l : List ByteArray) (a : ByteArray) (hl : l.length ≤ 1000000) : ∀ n i : Nat, n + i = l.length → ∃ r, slices_Index_string_string.l0 (n + 1) l a (l.length : Int) i = some r ∧ decide (r ≥ 0) = among (l.drop i) a
  | 0, i, h => by
    refine ⟨-1, ?_, ?_⟩
    · rw [slices_Index_string_string.l0, if_neg (by omega)]
    · rw [List.drop_eq_nil_of_le (by omega)]; rfl
  | n + 1, i, h => by
    have hi : i < l.length := by omega
    rw [slices_Index_string_string.l0, if_pos (by omega), if_pos (by omega), if_pos (by omega)]
    have hr : rdOf ByteArray.empty l (i : Int) = l[i] := by
      show l.getD (i : Int).toNat _ = _
      rw [Int.toNat_natCast, List.getD_eq_getElem?_getD, List.getElem?_eq_getElem hi]; rfl
    rw [hr]
    have hd : among (l.drop i) a = (decide (a.toList = l[i].toList) || among (l.drop (i + 1)) a) := by unfold among; rw [List.drop_eq_getElem_cons hi, List.any_cons]
    by_cases e : a.toList = l[i].toList
    · rw [if_pos e]
      exact ⟨_, rfl, by rw [hd, decide_eq_true e, Bool.true_or]; exact decide_eq_true (by omega)⟩
    · rw [if_neg e]
      obtain ⟨r, h1, h2⟩ := index_any l a hl n (i + 1) (by omega)
      refine ⟨r, ?_, by rw [hd, decide_eq_false e, Bool.false_or]; exact h2⟩
      rw [wrap64_self (by omega) (by omega)]
      exact h1
theorem contains_f (l : List ByteArray) (a : ByteArray) (hl : l.length ≤ 1000000) : slices_Contains_string_string.f (l.length + 1) l a = some (among l a) := by
  obtain ⟨r, h1, h2⟩ := index_any l a hl l.length 0 rfl
  unfold slices_Contains_string_string.f slices_Index_string_string.f
  have h1' : slices_Index_string_string.l0 (l.length + 1) l a (l.length : Int) 0 = some r := h1
  rw [h1', Option.bind_some, h2, List.drop_zero]
/-- What a branch of runes alone is. -/
def valK : List Pt → ByteArray → Option ByteArray
  | [], s => some s
  | x :: r, s => if x.kind = 0 ∧ x.plain = true then valK r (s ++ Utf8.encode (x.set.getD 0 z86).f0) else none
def valsK : List Pt → List ByteArray → Option (List ByteArray)
  | [], out => some out
  | x :: r, out => match valK x.kids ⟨#[]⟩ with
    | none => none
    | some s => valsK r (if among out s = true then out else out ++ [s])
/-- What a pattern of texts alone lets be. -/
def valuesF (p : Pt) : Option (List ByteArray) := valsK p.kids []
theorem clsF_sz {s : ByteArray} {k i m j : Nat} {p : Pt} (h : clsF k s i = some (.ok (p, m) j)) : p.sz = 1 := by
  unfold clsF at h
  cases hp : peekF s i with
  | none => rw [hp] at h; cases h
  | some c =>
    rw [hp] at h
    dsimp only at h
    cases hL : clsL k s (if c = 94 then i + 1 else i) [] true with
    | none => rw [hL] at h; cases h
    | some RL =>
      rw [hL] at h
      cases RL with
      | bad a e => cases h
      | ok l j1 =>
        have h3 := Option.some.inj h
        injection h3 with h4 h5
        injection h4 with h4 h6
        subst h4
        rfl
/-- How great a tree is. -/
theorem sz_ok {s : ByteArray} : ∀ k, (∀ {d i p m j}, atF k s d i = some (.ok (p, m) j) → i + 1 ≤ j ∧ p.sz + 2 ≤ 3 * (j - i)) ∧ (∀ {d i acc n p m j}, brF k s d i acc n = some (.ok (p, m) j) → i ≤ j ∧ p.sz ≤ acc.sz + 3 * (j - i)) ∧ (∀ {d i p m j}, paF k s d i = some (.ok (p, m) j) → i ≤ j ∧ p.sz ≤ 2 + 3 * (j - i)) ∧ (∀ {d i acc n p m j}, altF k s d i acc n = some (.ok (p, m) j) → i ≤ j ∧ p.sz ≤ acc.sz + 3 * (j - i))
  | 0 => ⟨fun h => by simp [atF] at h, fun h => by simp [brF] at h, fun h => by simp [paF] at h, fun h => by simp [altF] at h⟩
  | k + 1 => by
    obtain ⟨ha, hb, hp, hl⟩ := sz_ok (s := s) k
    refine ⟨fun h => ?_, fun h => ?_, fun h => ?_, fun h => ?_⟩
    · have hlg := ((long (k + 1)).1 h).2
      refine ⟨hlg, ?_⟩
      rcases atF_head h with ⟨_, h⟩ | ⟨_, h⟩ | ⟨_, h⟩ | ⟨_, h⟩ | ⟨_, a, e, _, h⟩ | ⟨_, l, sg, j, he, h⟩ | ⟨c, _, _, _, _, _, _, h⟩ | ⟨c, _, _, _, _, _, _, _, h⟩
      · cases h
      · rcases grF_head h with ⟨_, h⟩ | ⟨_, ⟨a, e, _, h⟩ | ⟨p, m, j, hq, ⟨_, h⟩ | ⟨c, _, _, h⟩ | ⟨_, h⟩⟩⟩
        · cases h
        · cases h
        · cases h
        · cases h
        · have := hp hq
          injection h with h1 h2
          injection h1 with h1 h3
          rw [h1]
          omega
      · rw [clsF_sz h]; omega
      · injection h with h1 h2
        injection h1 with h1 h3
        rw [h1]
        show 1 + 2 ≤ _
        omega
      · cases h
      · injection h with h1 h2
        injection h1 with h1 h3
        rw [h1]
        show 1 + 2 ≤ _
        omega
      · cases h
      · injection h with h1 h2
        injection h1 with h1 h3
        rw [h1]
        show 1 + 2 ≤ _
        omega
    · rcases brF_head h with ⟨_, h⟩ | ⟨c, _, ⟨_, h⟩ | ⟨_, ⟨a, e, _, h⟩ | ⟨p, m, j, _, _, h⟩ | ⟨p, m, j, c2, hq, _, _, h⟩ | ⟨p, m, j, c2, hq, _, _, h⟩⟩⟩
      · cases h
      · injection h with h1 h2
        injection h1 with h1 h3
        rw [h1]
        omega
      · cases h
      · cases h
      · have h1 := ha hq; have h2 := hb h; simp only [Pt.sz] at h2; omega
      · have h1 := ha hq; have h2 := hb h; simp only [Pt.sz] at h2; omega
    · rcases paF_head h with ⟨a, e, _, h⟩ | ⟨p, m, j, hq, h⟩
      · cases h
      · have h1 := hb hq; have h2 := hl h; simp only [Pt.sz] at h1 h2; omega
    · rcases altF_head h with ⟨_, h⟩ | ⟨c, _, _, h⟩ | ⟨_, a, e, _, h⟩ | ⟨_, p, m, j, hq, h⟩
      · cases h
      · injection h with h1 h2
        injection h1 with h1 h3
        rw [h1]
        omega
      · cases h
      · have h1 := hb hq; have h2 := hl h; simp only [Pt.sz] at h1 h2; omega
theorem kids_le : ∀ p : Pt, p.kids.length ≤ p.sz
  | .one _ _ _ => by simp [Pt.kids]
  | .eps => by simp [Pt.kids]
  | .cat q p => by have := kids_le q; simp only [Pt.kids, Pt.sz, List.length_append, List.length_singleton]; omega
  | .alt1 p => by simp only [Pt.kids, Pt.sz, List.length_singleton]; omega
  | .alt q p => by have := kids_le q; simp only [Pt.kids, Pt.sz, List.length_append, List.length_singleton]; omega
  | .again p _ => by simp only [Pt.kids, Pt.sz, List.length_singleton]; omega
theorem one_of_kind {x : Pt} (h : x.kind = 0) : ∃ l b pl, x = .one l b pl := by
  cases x <;> simp [Pt.kind] at h
  exact ⟨_, _, _, rfl⟩
def ValP (w : World) : Option ByteArray → Ending → World → Prop
  | some s, x, w' => x = .returned (.tuple #[.string s, .bool true]) ∧ w' = w
  | none, x, w' => x = .returned (.tuple #[.string ⟨#[]⟩, .bool false]) ∧ w' = w
set_option maxHeartbeats 2000000 in
set_option maxRecDepth 100000 in
theorem value_calls {w : World} {B q : Nat} {ok : Nat → Prop} {p : Pt} (h : Tr w B ok q p) (hwf : p.WF) (hsz : p.sz ≤ 100000) : Calls Tryd.prog 33 #[.pointer (some ⟨q, 0, none⟩)] w (ValP w (valK p.kids ⟨#[]⟩)) := by
  obtain ⟨R, hR⟩ : ∃ R, valK p.kids ⟨#[]⟩ = R := ⟨_, rfl⟩
  rw [hR]
  have HWF := Aside0.mk hwf
  obtain ⟨cs, htt, hok, _, vs, vp, hq, _, hp⟩ := h
  have HTT := Aside0.mk htt
  have HKP := Aside0.mk hp
  have HCL := Aside0.mk (show cs.length ≤ 100000 from by rw [(kids_at htt).1]; exact Nat.le_trans (kids_le p) hsz)
  have HKL := Aside0.mk (kids_at htt)
  obtain ⟨Ak, ck, rfl⟩ := Kd.R_slice hp
  have x4 := (nd_cell hq).2.2.2.2.1
  have HR0 := Aside0.mk hR
  clear hwf hsz htt hok hq hp hR
  go_enter Tryd.func33, Tryd.ntmps33
  go_wp2_with (fail)
  try go_frame
  clear x4
  go_loopg [4, 12] (cs.length + 1) (fun kq v4 v12 wr => ∃ (i : Nat) (acc : ByteArray), v4 = .string acc ∧ v12 = .int .i64 i ∧ Aside0 (kq + i = cs.length + 1 ∧ i ≤ cs.length ∧ acc.size ≤ 4 * i) ∧ Aside0 (valK (p.kids.drop i) acc = R) ∧ wr = w)
  case atStart => exact ⟨0, ⟨#[]⟩, rfl, rfl, ⟨by omega, by omega, Nat.le_refl _⟩, HR0, rfl⟩
  case round =>
    clear HR0
    obtain ⟨i, acc, rfl, rfl, HK, HV, e⟩ := hrel
    subst wr
    cases gk with
    | zero => have := HK.out; omega
    | succ k1 =>
    by_cases hi : i < cs.length
    · have hi' : (i : Int) < (cs.length : Int) := by omega
      have HIM := Aside0.mk hi
      have hi2 : i < p.kids.length := by rw [← HKL.out.1]; exact hi
      obtain ⟨x, hx⟩ : ∃ x, p.kids[i] = x := ⟨_, rfl⟩
      have hxt : Tr w B ok cs[i] x := by rw [← hx]; exact HKL.out.2 i hi hi2
      have hxw : x.WF := by rw [← hx]; exact kids_wf p HWF.out _ (List.getElem_mem hi2)
      have hxv : valK (x :: p.kids.drop (i + 1)) acc = R := by rw [← hx]; have h := HV.out; rw [List.drop_eq_getElem_cons hi2] at h; exact h
      obtain ⟨gk2, hA, c1⟩ := kP_cell HKP.out i hi
      subst hA
      generalize cs[i] = qi at *
      obtain ⟨ci, _, _, _, vsi, vpi, hqi, hsi, _⟩ := hxt
      obtain ⟨x0, x1, x2, x3, x4, x5⟩ := nd_cell hqi
      rw [valK] at hxv
      have hcs : ((x.kind != 0) = true ∧ ¬ (x.kind = 0 ∧ x.plain = true)) ∨ ((x.kind != 0) = false ∧ x.plain = false ∧ ¬ (x.kind = 0 ∧ x.plain = true)) ∨ (x.kind = 0 ∧ x.plain = true) := by
        by_cases e : x.kind = 0
        · cases hpl : x.plain
          · exact .inr (.inl ⟨by simp [e], rfl, fun h => by cases h.2⟩)
          · exact .inr (.inr ⟨e, rfl⟩)
        · exact .inl ⟨bne_iff_ne.2 e, fun h => e h.1⟩
      clear hx hi2 hi
      rcases hcs with ⟨e1, e2⟩ | ⟨e1, e2, e3⟩ | ⟨e1, e2⟩
      · rw [if_neg e2] at hxv
        subst hxv
        clear hsi hqi hxw e2
        go_wp2_with (fail)
        go_ret2
        exact ⟨rfl, rfl⟩
      · rw [if_neg e3] at hxv
        subst hxv
        rw [e2] at x3
        clear hsi hqi hxw e3
        go_wp2_with (fail)
        go_ret2
        exact ⟨rfl, rfl⟩
      · rw [if_pos ⟨e1, e2⟩] at hxv
        obtain ⟨l, b, pl, rfl⟩ := one_of_kind e1
        have e2' : pl = true := e2
        subst e2'
        obtain ⟨_, c, hl, _⟩ := hxw rfl
        subst hl
        obtain ⟨gs, cap, hv, _⟩ := Kd.R_form hsi (by show 0 < 1; decide)
        subst hv
        obtain ⟨cse, hl2, hM, hcell, _⟩ := Kd.R_elem hsi z86 0 (by decide) (by simp [Pt.set])
        have hkk := k86_openM hM
        subst hkk
        have y0 : w.cell? ⟨gs, 0, none⟩ = some (.int .i32 c) := hcell 0 _ rfl
        have x0' : w.cell? ⟨qi, 0, none⟩ = some (.int .i64 0) := x0
        have x1' : w.cell? ⟨qi, 1, none⟩ = some (.slice (some ⟨gs, 0, none⟩) 1 cap) := x1
        have x3' : w.cell? ⟨qi, 3, none⟩ = some (.bool true) := x3
        have HXV := Aside0.mk (show valK (p.kids.drop (i + 1)) (acc ++ Utf8.encode c) = R from hxv)
        obtain ⟨en, hen⟩ : ∃ en, Utf8.encode c = en := ⟨_, rfl⟩
        have HEN := Aside0.mk hen
        have hen4 : en.size ≤ 4 := by rw [← hen]; exact encode_size_le _
        have hacc : acc.size ≤ 400000 := by have h1 := HK.out; have h2 := HCL.out; omega
        have HE4 := Aside0.mk hen4
        clear hsi hqi hM hcell hl2 x0 x1 x2 x3 x4 x5 hxw e1 e2 hxv hen
        go_wp2_with ((with_reducible refine gate_dst (N := 37) rfl ?_); rw [HEN.out])
        go_roundg k1
        case measure => omega
        case rel => exact ⟨i + 1, _, rfl, by first | rfl | (simp; done) | (rw [wrap64_self (n := (i : Int) + 1) (by omega) (by have h1 := HCL.out; have h2 := HIM.out; omega)]; first | rfl | (simp; done)), ⟨by have := HK.out; omega, by have := HIM.out; omega, by have h1 := HK.out; have h3 := HE4.out; simp only [ByteArray.size_append]; omega⟩, ⟨by rw [← HEN.out]; exact HXV.out⟩, rfl⟩
    · have hi' : ¬ (i : Int) < (cs.length : Int) := by omega
      have HE := Aside0.mk (show some acc = R by have h := HV.out; rw [List.drop_eq_nil_of_le (by rw [← HKL.out.1]; omega)] at h; exact h)
      clear hi
      go_wp2_with (fail)
      go_ret2
      rw [← HE.out]
      exact ⟨rfl, rfl⟩
/-- Values, and whether there are some. -/
def ValsP (w : World) : Option (List ByteArray) → Ending → World → Prop
  | some l, x, w' => ∃ v, x = .returned (.tuple #[v, .bool true]) ∧ Kd.string.R 9 w' w.heap.size (fun k => w.heap.size ≤ k) v l ∧ Below w.heap.size w w'
  | none, x, w' => x = .returned (.tuple #[.slice none 0 0, .bool false]) ∧ Below w.heap.size w w'
theorem info9 : (Tryd.prog.info? 9).map (fun i => (i.zero, i.size, i.bytes)) = some (some (.string ⟨#[]⟩), 1, 16) := by kernel_rfl
set_option maxHeartbeats 2000000 in
set_option maxRecDepth 100000 in
theorem values_calls {w : World} {B Q : Nat} {s0 : ByteArray} {p : Pt} {m0 : Nat} (h : Rx w B Q s0 p m0) (hwf : p.WF) (hsz : p.sz ≤ 100000) : Calls Tryd.prog 18 #[.pointer (some ⟨Q, 0, none⟩)] w (ValsP w (valuesF p)) := by
  unfold valuesF
  obtain ⟨R, hR⟩ : ∃ R, valsK p.kids [] = R := ⟨_, rfl⟩
  rw [hR]
  have HWF := Aside0.mk hwf
  have HSZ := Aside0.mk hsz
  obtain ⟨hBQ, q, hQ, cs, htt, hok, _, vs, vp, hq, _, hp⟩ := h
  have HTT := Aside0.mk htt
  have HKP := Aside0.mk hp
  have HCL := Aside0.mk (show cs.length ≤ 100000 from by rw [(kids_at htt).1]; exact Nat.le_trans (kids_le p) hsz)
  have HKL := Aside0.mk (kids_at htt)
  obtain ⟨Ak, ck, rfl⟩ := Kd.R_slice hp
  have x4 := (nd_cell hq).2.2.2.2.1
  have z1 : w.cell? ⟨Q, 1, none⟩ = some (.pointer (some ⟨q, 0, none⟩)) := (blk_cell hQ 1).trans rfl
  have HR0 := Aside0.mk hR
  clear hwf hsz htt hok hq hp hR hQ hBQ
  go_enter Tryd.func18, Tryd.ntmps18
  go_wp2_with (fail)
  try go_frame
  clear x4 z1
  go_loopg [4, 26] (cs.length + 1) (fun kq v4 v26 wr => ∃ (i : Nat) (out : List ByteArray) (A : Option Addr) (cc : Nat), v4 = .slice A out.length cc ∧ v26 = .int .i64 i ∧ Aside0 (kq + i = cs.length + 1 ∧ i ≤ cs.length ∧ out.length ≤ i) ∧ Aside0 (valsK (p.kids.drop i) out = R) ∧ Aside0 (Kd.string.R 9 wr w.heap.size (fun k => w.heap.size ≤ k) (.slice A out.length cc) out) ∧ Aside0 (Below w.heap.size w wr))
  case atStart => exact ⟨0, [], none, 0, rfl, rfl, ⟨by omega, by omega, Nat.le_refl _⟩, HR0, ⟨Kd.R_nil _ _ _ _ _⟩, ⟨Below.refl _ _⟩⟩
  case round =>
    clear HR0
    obtain ⟨i, out, A, cc, rfl, rfl, HK, HV, HO, HB⟩ := hrel
    cases gk with
    | zero => have := HK.out; omega
    | succ k1 =>
    by_cases hi : i < cs.length
    · have hi' : (i : Int) < (cs.length : Int) := by omega
      have HIM := Aside0.mk hi
      have hi2 : i < p.kids.length := by rw [← HKL.out.1]; exact hi
      obtain ⟨x, hx⟩ : ∃ x, p.kids[i] = x := ⟨_, rfl⟩
      have hxm : x ∈ p.kids := by rw [← hx]; exact List.getElem_mem hi2
      have HXT := Aside0.mk (show Tr wr B (fun k => B ≤ k) cs[i] x from Tr.below (by rw [← hx]; exact HKL.out.2 i hi hi2) HB.out)
      have HXW := Aside0.mk (kids_wf p HWF.out _ hxm)
      have HXS := Aside0.mk (show x.sz ≤ 100000 by have h1 := kids_sz p _ hxm; have h2 := HSZ.out; omega)
      have hxv : valsK (x :: p.kids.drop (i + 1)) out = R := by rw [← hx]; have h := HV.out; rw [List.drop_eq_getElem_cons hi2] at h; exact h
      obtain ⟨gk2, hA, c1⟩ := kP_cell (Kd.R_below HKP.out HB.out) i hi
      subst hA
      generalize cs[i] = qi at *
      rw [valsK] at hxv
      cases hvl : valK x.kids ⟨#[]⟩ with
      | none =>
        rw [hvl] at hxv
        dsimp only at hxv
        subst hxv
        have HVL := Aside0.mk hvl
        clear hx hxm hi2 hi hvl
        go_wp2_with (go_at_call 33; (with_reducible refine (value_calls HXT.out HXW.out HXS.out).mono ?_); rw [HVL.out]; rintro e w1 ⟨rfl, h1⟩; subst w1)
        go_ret2
        exact ⟨rfl, HB.out⟩
      | some sv =>
        rw [hvl] at hxv
        dsimp only at hxv
        have HVL := Aside0.mk hvl
        have HCF := Aside0.mk (contains_f out sv (by have h1 := HK.out; have h2 := HCL.out; omega))
        have HRD := Aside0.mk (Kd.R_reads' HO.out).2
        clear hx hxm hi2 hi hvl
        cases ham : among out sv with
        | true =>
          rw [ham, if_pos rfl] at hxv
          rw [ham] at HCF
          have HXV := Aside0.mk hxv
          clear hxv ham
          go_wp2_with (first
            | (go_at_call 33; (with_reducible refine (value_calls HXT.out HXW.out HXS.out).mono ?_); rw [HVL.out]; rintro e w1 ⟨rfl, h1⟩; subst w1)
            | (go_at_call 34; (with_reducible refine (slices_Contains_string_string.calls _ _ _ _ _ _ _ HRD.out.2 HRD.out.1 HCF.out).mono ?_); rintro e w2 ⟨rfl, ⟨nd, rfl⟩⟩))
          go_roundg k1
          case measure => omega
          case rel => exact ⟨i + 1, out, A, cc, rfl, by first | rfl | (simp; done) | (rw [wrap64_self (n := (i : Int) + 1) (by omega) (by have h1 := HCL.out; have h2 := HIM.out; omega)]; first | rfl | (simp; done)), ⟨by have := HK.out; omega, by have := HIM.out; omega, by have := HK.out; omega⟩, HXV, ⟨Kd.R_drewN HO.out _⟩, ⟨pw_below_drewN HB.out _⟩⟩
        | false =>
          rw [ham, if_neg (by decide)] at hxv
          rw [ham] at HCF
          have HXV := Aside0.mk hxv
          clear hxv ham
          go_wp2_with (first
            | (go_at_call 33; (with_reducible refine (value_calls HXT.out HXW.out HXS.out).mono ?_); rw [HVL.out]; rintro e w1 ⟨rfl, h1⟩; subst w1)
            | (go_at_call 34; (with_reducible refine (slices_Contains_string_string.calls _ _ _ _ _ _ _ HRD.out.2 HRD.out.1 HCF.out).mono ?_); rintro e w2 ⟨rfl, ⟨nd, rfl⟩⟩; have HO2 := Aside0.mk (Kd.R_drewN HO.out nd); have HB2 := Aside0.mk (pw_below_drewN HB.out nd); generalize wr.drewN nd = w2 at *)
            | ((with_reducible refine gate_builtin (b := .append) (xs := #[.tmp 41, .tmp 43]) rfl ?_); at_builtin; refine Kd.R_append Kd.string (w0 := w) w.heap.size rfl (.tmp 41) (.tmp 43) 22 9 (.string ⟨#[]⟩) 16 rfl Tryd.underlying22 info9 rfl (by decide) (by omega) (.slice A out.length cc) out sv [.string sv] (fun k => w.heap.size ≤ k) (fun _ => False) rfl rfl ?aP (fun _ h => h.elim) ?aF ?aO ?aB ?aS ?aL ?_; (case aP => exact rfl); (case aF => exact (fun k hk => Nat.le_trans HB2.out.size hk)); (case aO => exact HO2.out); (case aB => exact HB2.out); (case aS => exact HB2.out.size); (case aL => have h1 := HK.out; have h2 := HCL.out; omega); intro v5 w5 ho hb5 hg5 hat5; obtain ⟨A5, c5, rfl⟩ := Kd.R_slice ho; have HO5 := Aside0.mk ho; have HB5 := Aside0.mk hb5; clear ho hb5 hg5 hat5))
          go_roundg k1
          case measure => omega
          case rel => exact ⟨i + 1, out ++ [sv], A5, c5, by rw [List.length_append]; rfl, by first | rfl | (simp; done) | (rw [wrap64_self (n := (i : Int) + 1) (by omega) (by have h1 := HCL.out; have h2 := HIM.out; omega)]; first | rfl | (simp; done)), ⟨by have := HK.out; omega, by have := HIM.out; omega, by have := HK.out; rw [List.length_append, List.length_singleton]; omega⟩, HXV, HO5, HB5⟩
    · have hi' : ¬ (i : Int) < (cs.length : Int) := by omega
      have HE := Aside0.mk (show some out = R by have h := HV.out; rw [List.drop_eq_nil_of_le (by rw [← HKL.out.1]; omega)] at h; exact h)
      clear hi
      go_wp2_with (fail)
      go_ret2
      rw [← HE.out]
      exact ⟨_, rfl, HO.out, HB.out⟩
theorem values_none (w : World) : Calls Tryd.prog 18 #[.pointer none] w fun x w' => x = .returned (.tuple #[.slice none 0 0, .bool false]) ∧ w' = w := by
  go_enter Tryd.func18, Tryd.ntmps18
  go_wp2_with (fail)
  go_ret2
  exact ⟨rfl, rfl⟩
theorem values_zero {w : World} {Q : Nat} {s0 : ByteArray} {m0 : Int} (h : w.heap[Q]? = some (.cells #[.string s0, .pointer none, .int .i64 m0] 43 (0, 0))) : Calls Tryd.prog 18 #[.pointer (some ⟨Q, 0, none⟩)] w fun x w' => x = .returned (.tuple #[.slice none 0 0, .bool false]) ∧ w' = w := by
  have x1 : w.cell? ⟨Q, 1, none⟩ = some (.pointer none) := (blk_cell h 1).trans rfl
  clear h
  go_enter Tryd.func18, Tryd.ntmps18
  go_wp2_with (fail)
  go_ret2
  exact ⟨rfl, rfl⟩
end Go.Proofs.YtmfpikhmeacnbaaDoor.X

/- Patterns by hand: the chapter's examples; RexNone (mkX19.py). -/
namespace Go.Proofs.YtmfpikhmeacnbaaDoor.X
open Go.RowKit Go.Proofs.YtmfpikhmeacnbaaDoor.Q Go.Proofs.YtmfpikhmeacnbaaDoorW.PrintWords Go.Proofs.YtmfpikhmeacnbaaDoorW.PrintLast Go.Proofs.YtmfpikhmeacnbaaDoorW.PrintMore
set_option linter.unusedVariables false
set_option linter.unusedSimpArgs false
theorem up_le {s : ByteArray} {i j : Nat} {lo hi : Int} (h0 : i ≤ s.size) (h : upF s lo i = .ok hi j) : j ≤ s.size := by
  unfold upF at h
  cases hp : peekF s i with
  | none => rw [hp] at h; cases h
  | some c =>
    rw [hp] at h
    dsimp only at h
    split at h
    · cases h
    · cases hm : memF s i with
      | bad a e => rw [hm] at h; cases h
      | ok lm a =>
        obtain ⟨l, sg⟩ := lm
        rw [hm] at h
        dsimp only at h
        split at h
        · cases h
        · injection h with h1 h2
          subst h2
          exact mem_le h0 hm
theorem cls_le {s : ByteArray} {RL : Res (List S86)} : ∀ {k i : Nat} {acc : List S86} {first : Bool} {l : List S86} {j : Nat}, i ≤ s.size → clsL k s i acc first = some (.ok l j) → j ≤ s.size ∧ peekF s j = some 93
  | 0, _, _, _, _, _, _, h => by simp [clsL] at h
  | k + 1, i, acc, first, l, j, hi, h => by
    have hup : ∀ {j hi j2 : Nat} {lo c : Int}, True := trivial
    rcases clsL_head h with ⟨_, hB⟩ | ⟨_, c, _, _, hB⟩ | ⟨_, _, h⟩ | ⟨_, hp, h⟩
    rotate_left 2
    · cases h
    · injection h with h1 h2; subst h2; exact ⟨hi, hp⟩
    all_goals
      rcases hB with ⟨a1, e1, hm, h⟩ | ⟨l, j, hm, hN⟩ | ⟨l, j, hm, hp2, h⟩ | ⟨l, j, c2, hm, hp2, h45, hN⟩ | ⟨l, j, a1, e1, hm, hp2, hu, h⟩ | ⟨l, j, hi2, j2, hm, hp2, hu, hN⟩
      · cases h
      · exact cls_le (RL := RL) (mem_le hi hm) hN
      · cases h
      · exact cls_le (RL := RL) (mem_le hi hm) hN
      · cases h
      · exact cls_le (RL := RL) (up_le (by have h1 := mem_le hi hm; have h2 := ((peek_rune h1 hp2).resolve_left (by decide)).2; have h3 := rl_pos 45; omega) hu) hN
theorem clsF_le {s : ByteArray} {k i m j : Nat} {p : Pt} (hi : i ≤ s.size) (h : clsF k s i = some (.ok (p, m) j)) : j ≤ s.size := by
  unfold clsF at h
  cases hp : peekF s i with
  | none => rw [hp] at h; cases h
  | some c =>
    rw [hp] at h
    dsimp only at h
    cases hL : clsL k s (if c = 94 then i + 1 else i) [] true with
    | none => rw [hL] at h; cases h
    | some RL =>
      rw [hL] at h
      cases RL with
      | bad a e => cases h
      | ok l j1 =>
        have h3 := Option.some.inj h
        injection h3 with h4 h5
        have hi1 : (if c = 94 then i + 1 else i) ≤ s.size := by
          split
          · rename_i e
            have h2 := ((peek_rune hi hp).resolve_left (by omega)).2
            have h3 := rl_pos c
            omega
          · exact hi
        obtain ⟨g1, g2⟩ := cls_le (RL := .bad 0 0) hi1 hL
        have h2 := ((peek_rune g1 g2).resolve_left (by decide)).2
        have h3 := rl_pos 93
        omega
theorem le_ok {s : ByteArray} : ∀ k, (∀ {d i p m j}, i ≤ s.size → atF k s d i = some (.ok (p, m) j) → j ≤ s.size) ∧ (∀ {d i acc n p m j}, i ≤ s.size → brF k s d i acc n = some (.ok (p, m) j) → j ≤ s.size) ∧ (∀ {d i p m j}, i ≤ s.size → paF k s d i = some (.ok (p, m) j) → j ≤ s.size) ∧ (∀ {d i acc n p m j}, i ≤ s.size → altF k s d i acc n = some (.ok (p, m) j) → j ≤ s.size)
  | 0 => ⟨fun _ h => by simp [atF] at h, fun _ h => by simp [brF] at h, fun _ h => by simp [paF] at h, fun _ h => by simp [altF] at h⟩
  | k + 1 => by
    obtain ⟨ha, hb, hp, hl⟩ := le_ok (s := s) k
    have hone : ∀ {i : Nat} {c : Int}, i ≤ s.size → peekF s i = some c → 0 ≤ c → i + 1 ≤ s.size := fun hi h h0 => by
      have h2 := ((peek_rune hi h).resolve_left (by omega)).2
      have h3 := rl_pos
      have h4 := h3 (by assumption)
      omega
    refine ⟨fun hi h => ?_, fun hi h => ?_, fun hi h => ?_, fun hi h => ?_⟩
    · rcases atF_head h with ⟨_, h⟩ | ⟨hp1, h⟩ | ⟨hp1, h⟩ | ⟨hp1, h⟩ | ⟨_, a, e, _, h⟩ | ⟨hp1, l, sg, j, he, h⟩ | ⟨c, _, _, _, _, _, _, h⟩ | ⟨c, hp1, _, _, _, _, _, h0, h⟩
      · cases h
      · have h40 := hone hi hp1 (by decide)
        rcases grF_head h with ⟨_, h⟩ | ⟨_, ⟨a, e, _, h⟩ | ⟨p, m, j, hq, ⟨_, h⟩ | ⟨c, _, _, h⟩ | ⟨hp2, h⟩⟩⟩
        · cases h
        · cases h
        · cases h
        · cases h
        · have := hone (hp h40 hq) hp2 (by decide)
          injection h with h1 h2
          omega
      · have h91 := hone hi hp1 (by decide)
        exact clsF_le h91 h
      · have := hone hi hp1 (by decide)
        injection h with h1 h2
        omega
      · cases h
      · have h92 := hone hi hp1 (by decide)
        injection h with h1 h2
        rw [h2]
        exact esc_le h92 he
      · cases h
      · injection h with h1 h2
        rw [h2]
        exact ((peek_rune hi hp1).resolve_left (by omega)).2
    · rcases brF_head h with ⟨_, h⟩ | ⟨c, hp0, ⟨_, h⟩ | ⟨_, ⟨a, e, _, h⟩ | ⟨p, m, j, _, _, h⟩ | ⟨p, m, j, c2, hq, hp2, hsg, h⟩ | ⟨p, m, j, c2, hq, _, _, h⟩⟩⟩
      · cases h
      · injection h with h1 h2; omega
      · cases h
      · cases h
      · exact hb (hone (ha hi hq) hp2 (by rcases hsg with rfl | rfl | rfl <;> decide)) h
      · exact hb (ha hi hq) h
    · rcases paF_head h with ⟨a, e, _, h⟩ | ⟨p, m, j, hq, h⟩
      · cases h
      · exact hl (hb hi hq) h
    · rcases altF_head h with ⟨_, h⟩ | ⟨c, _, _, h⟩ | ⟨_, a, e, _, h⟩ | ⟨hp0, p, m, j, hq, h⟩
      · cases h
      · injection h with h1 h2; omega
      · cases h
      · exact hl (hb (hone hi hp0 (by decide)) hq) h
theorem paF_le {s : ByteArray} (k : Nat) {d p m j} (h : paF k s d 0 = some (.ok (p, m) j)) : j ≤ s.size := (le_ok k).2.2.1 (Nat.zero_le _) h
theorem parF_ok {k : Nat} {s : ByteArray} {p : Pt} {m j : Nat} (h : parF k s = some (.ok (p, m) j)) : p.kind = 2 ∧ p.WF ∧ p.sz ≤ 1000 ∧ s.size ≤ 256 := by
  rcases parF_head h with ⟨_, h⟩ | ⟨hs, ⟨a, e, _, h⟩ | ⟨p1, m1, j1, hq, ⟨_, h⟩ | ⟨hj, h⟩⟩⟩
  · cases h
  · cases h
  · cases h
  · injection h with h1 h2
    injection h1 with h1 h3
    subst h1 h2 h3
    obtain ⟨w1, w2⟩ := (wf_ok k).2.2.1 hq
    refine ⟨w1, w2, ?_, hs⟩
    have h4 := ((sz_ok k).2.2.1 hq).2
    have h5 := paF_le k hq
    omega
theorem Rx.below {w w1 : World} {B Q : Nat} {s : ByteArray} {p : Pt} {m : Nat} (h : Rx w B Q s p m) (hb : Below w.heap.size w w1) : Rx w1 B Q s p m := by
  obtain ⟨h1, q, h2, h3⟩ := h
  exact ⟨h1, q, (hb.block Q (blk_lt h2)).trans h2, h3.below hb⟩
theorem size_rx {w : World} {B Q : Nat} {s : ByteArray} {p : Pt} {m : Nat} (h : Rx w B Q s p m) : Calls Tryd.prog 20 #[.pointer (some ⟨Q, 0, none⟩)] w fun x w' => x = .returned (.int .i64 m) ∧ w' = w := by
  obtain ⟨_, q, h2, _⟩ := h
  exact size_some h2
def pA : Pt := .alt1 (.cat (.cat .eps (.one [⟨97, 97⟩] false true)) (.again (.alt (.alt1 (.cat .eps (.one [⟨98, 98⟩] false true))) (.cat .eps (.one [⟨99, 99⟩] false true))) 43))
theorem tA : parF 40 ⟨#[97, 40, 98, 124, 99, 41, 43]⟩ = some (.ok (pA, 3) 7) := by kernel_rfl
theorem mA1 : matchF pA ⟨#[97, 98, 99, 98]⟩ = true := by kernel_rfl
theorem mA2 : matchF pA ⟨#[97]⟩ = false := by kernel_rfl
theorem qA : quoteF ⟨#[97, 46, 98]⟩ = ⟨#[97, 92, 46, 98]⟩ := by kernel_rfl
theorem tC : parF 40 ⟨#[97, 42, 42]⟩ = some (.bad 2 8) := by kernel_rfl
def bA (c : Int) : Pt := .cat .eps (.one [⟨c, c⟩] false true)
def pB : Pt := .alt (.alt (.alt1 (bA 97)) (bA 98)) (bA 97)
theorem tB : parF 40 ⟨#[97, 124, 98, 124, 97]⟩ = some (.ok (pB, 3) 5) := by kernel_rfl
theorem vB : valuesF pB = some [⟨#[97]⟩, ⟨#[98]⟩] := by kernel_rfl
set_option maxHeartbeats 2000000 in
set_option maxRecDepth 100000 in
theorem live_calls {w : World} (hT : Tab w) : Calls Tryd.prog 9 #[] w fun x w' => x = .returned (.bool true) ∧ Below w.heap.size w w' := by
  have HT := Aside0.mk hT
  clear hT
  go_enter Tryd.func9, Tryd.ntmps9
  go_wp2_with (first
    | (go_at_call 10; (with_reducible refine (parse_calls HT.out tA).mono ?_); rintro e w1 ⟨hb, Q1, rfl, hx⟩; have HX1 := Aside0.mk hx; have HT1 := Aside0.mk (HT.out.below hb); have HB1 := Aside0.mk hb; clear hb hx)
    | (go_at_call 10; (with_reducible refine (parse_calls HT1.out tB).mono ?_); rintro e w2 ⟨hb, Q2, rfl, hx⟩; have HX2 := Aside0.mk (HX1.out.below hb); have HY2 := Aside0.mk hx; have HT2 := Aside0.mk (HT1.out.below hb); have HB2 := Aside0.mk (HB1.out.trans (hb.mono HB1.out.size)); clear hb hx)
    | (go_at_call 10; (with_reducible refine (parse_calls HT2.out tC).mono ?_); rintro e w3 ⟨hb, rfl⟩; have HX3 := Aside0.mk (HX2.out.below hb); have HY3 := Aside0.mk (HY2.out.below hb); have HB3 := Aside0.mk (HB2.out.trans (hb.mono HB2.out.size)); clear hb)
    | (go_at_call 18; (with_reducible refine (values_calls HY3.out (parF_ok tB).2.1 (Nat.le_trans (parF_ok tB).2.2.1 (by decide))).mono ?_); rw [vB]; rintro e w4 ⟨v, rfl, hR, hb⟩; obtain ⟨g, cap, rfl, _⟩ := Kd.R_form hR (by decide); have HX4 := Aside0.mk (HX3.out.below hb); have HB4 := Aside0.mk (HB3.out.trans (hb.mono HB3.out.size)); have HR4 := Aside0.mk hR; clear hb hR)
    | (go_at_call 12; (with_reducible refine (match_calls HX4.out (parF_ok tA).2.1 (s := ⟨#[97, 98, 99, 98]⟩) (by decide)).mono ?_); rw [mA1]; rintro e w5 ⟨rfl, hb⟩; have HX5 := Aside0.mk (HX4.out.below hb); have HB5 := Aside0.mk (HB4.out.trans (hb.mono HB4.out.size)); have HR5 := Aside0.mk (Kd.R_below HR4.out hb); clear hb)
    | (go_at_call 12; (with_reducible refine (match_calls HX5.out (parF_ok tA).2.1 (s := ⟨#[97]⟩) (by decide)).mono ?_); rw [mA2]; rintro e w6 ⟨rfl, hb⟩; have HX6 := Aside0.mk (HX5.out.below hb); have HB6 := Aside0.mk (HB5.out.trans (hb.mono HB5.out.size)); have y1 := (Kd.R_celln (⟨#[]⟩ : ByteArray) (Kd.R_below HR5.out hb) 1 (by decide) (by decide)).1; have y1' : w6.cell? ⟨g, 1, none⟩ = some (.string ⟨#[98]⟩) := y1; clear hb y1)
    | (go_at_call 20; (with_reducible refine (size_rx HX6.out).mono ?_); rintro e w7 ⟨rfl, h7⟩; subst w7)
    | (go_at_call 14; (with_reducible refine (quote_calls (s := ⟨#[97, 46, 98]⟩) (by decide) _).mono ?_); rw [qA]; rintro e w8 ⟨rfl, hb⟩; have HB8 := Aside0.mk (HB6.out.trans (hb.mono HB6.out.size)); clear hb))
  go_ret
  exact ⟨rfl, HB8.out⟩
set_option maxHeartbeats 2000000 in
set_option maxRecDepth 100000 in
theorem none_law {w : World} (hT : Tab w) (s : ByteArray) : Calls Tryd.prog 8 #[.string s] w fun x w' => x = .returned (.bool true) ∧ Below w.heap.size w w' := by
  have HT := Aside0.mk hT
  clear hT
  go_enter Tryd.func8, Tryd.ntmps8
  go_wp2_with (first
    | ((with_reducible refine gate_dst (N := 4) rfl ?_); refine box_event ?hg (N := 4) ?hd (cs := #[.string ⟨#[]⟩, .pointer none, .int .i64 0]) (t := 43) ?hr ?_; (case hd => rfl); (case hg => rfl); (case hr => first | (go_simp; done) | (go_simp; rfl)); intro Z hZ w1 hx5 hb5; have HZ1 := Aside0.mk hx5; have HB1 := Aside0.mk hb5; have HT1 := Aside0.mk (HT.out.below hb5); clear hZ hx5 hb5)
    | (go_at_call 18; (with_reducible refine (values_none _).mono ?_); rintro e w9 ⟨rfl, h9⟩; subst w9)
    | (go_at_call 18; (with_reducible refine (values_zero HZ1.out).mono ?_); rintro e w9 ⟨rfl, h9⟩; subst w9)
    | (go_at_call 9; (with_reducible refine (live_calls HT1.out).mono ?_); rintro e w2 ⟨rfl, hb⟩; have HZ2 := Aside0.mk ((hb.block Z (blk_lt HZ1.out)).trans HZ1.out); have HB2 := Aside0.mk (HB1.out.trans (hb.mono HB1.out.size)); clear hb)
    | (go_at_call 12; (with_reducible refine (match_none _ _).mono ?_); rintro e w9 ⟨rfl, h9⟩; subst w9)
    | (go_at_call 12; (with_reducible refine (match_zero HZ2.out _).mono ?_); rintro e w9 ⟨rfl, h9⟩; subst w9)
    | (go_at_call 19; (with_reducible refine (text_none _).mono ?_); rintro e w9 ⟨rfl, h9⟩; subst w9)
    | (go_at_call 19; (with_reducible refine (text_some HZ2.out).mono ?_); rintro e w9 ⟨rfl, h9⟩; subst w9)
    | (go_at_call 20; (with_reducible refine (size_none _).mono ?_); rintro e w9 ⟨rfl, h9⟩; subst w9)
    | (go_at_call 20; (with_reducible refine (size_some HZ2.out).mono ?_); rintro e w9 ⟨rfl, h9⟩; subst w9))
  go_ret
  exact ⟨rfl, HB2.out⟩
end Go.Proofs.YtmfpikhmeacnbaaDoor.X
