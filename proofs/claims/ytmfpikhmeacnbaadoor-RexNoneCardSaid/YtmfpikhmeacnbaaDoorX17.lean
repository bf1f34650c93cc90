/- Patterns by hand: ends of any part, Match, Text, Size, Quote (mkX17.py). -/
import Derived.Test.YtmfpikhmeacnbaaDoorX16
import Derived.Laws.Runes
namespace Go.Proofs.YtmfpikhmeacnbaaDoor.X
open Go.RowKit Go.Proofs.YtmfpikhmeacnbaaDoor.Q Go.Proofs.YtmfpikhmeacnbaaDoorW.PrintWords Go.Proofs.YtmfpikhmeacnbaaDoorW.PrintLast Go.Proofs.YtmfpikhmeacnbaaDoorW.PrintMore
set_option linter.unusedVariables false
set_option linter.unusedSimpArgs false
set_option maxHeartbeats 2000000 in
set_option maxRecDepth 100000 in
theorem ends_again {N : Nat} (IH : EndsOk N) {p : Pt} {sg : Int} (hsz : (Pt.again p sg).sz ≤ N) (hwf : p.WF) {w : World} {B q : Nat} {ok : Nat → Prop} (h : Tr w B ok q (.again p sg)) {A : Option Addr} {m cl : Nat} {l : List Int} (hl : RI w A m cl l) {g n c : Nat} {F : List Bool} (hF : BL w g n c F) (hn : n = l.length + 1) (hs : n ≤ 1000000) :
    Calls Tryd.prog 28 #[.pointer (some ⟨q, 0, none⟩), .slice A m cl, .slice (some ⟨g, 0, none⟩) n c] w (EndsP w g n F (endsF (.again p sg) l F)) := by
  have HO := Aside0.mk (often_calls IH hsz hwf h hl hF hn hs)
  obtain ⟨cs, _, hok, _, vs, vp, hq, _, hp⟩ := h
  have x0 : w.cell? ⟨q, 0, none⟩ = some (.int .i64 3) := (nd_cell hq).1
  clear hq hp hl hF hn hs hsz
  go_enter Tryd.func28, Tryd.ntmps28
  go_wp2_with (go_at_call 43; (with_reducible refine HO.out.mono ?_); rintro e w2 ⟨g2, c2, rfl, hb2, hg2, hb⟩; have H2 := Aside0.mk hb2; have HG2 := Aside0.mk hg2; have HB2 := Aside0.mk hb; clear hb2 hg2 hb)
  go_ret
  exact ⟨g2, c2, rfl, H2.out, HG2.out, HB2.out⟩
theorem ends_ok : ∀ N, EndsOk N
  | 0 => ⟨fun h => absurd h (Nat.not_lt_zero _)⟩
  | N + 1 => by
    have IH := ends_ok N
    refine ⟨fun {p} hsz hwf => ?_⟩
    intro w B q ok h A m cl l hl g n c F hF hn hs
    have hsz' : p.sz ≤ N := by omega
    cases p with
    | one s but pl => exact ends_one h hl hF hn hs
    | eps => exact ends_many IH hsz' hwf rfl h hl hF hn hs
    | cat a b => exact ends_many IH hsz' hwf rfl h hl hF hn hs
    | alt1 a => exact ends_alike IH hsz' hwf rfl h hl hF hn hs
    | alt a b => exact ends_alike IH hsz' hwf rfl h hl hF hn hs
    | again a s => exact ends_again IH hsz' hwf h hl hF hn hs
/-- Whether a whole text is of a pattern. -/
def matchF (p : Pt) (s : ByteArray) : Bool := (endsF p (runesF s) (true :: List.replicate (runesF s).length false)).getD (runesF s).length false
set_option maxHeartbeats 2000000 in
set_option maxRecDepth 100000 in
theorem match_calls {w : World} {B Q : Nat} {s0 : ByteArray} {p : Pt} {m0 : Nat} (h : Rx w B Q s0 p m0) (hwf : p.WF) {s : ByteArray} (hs : s.size ≤ 900000) : Calls Tryd.prog 12 #[.pointer (some ⟨Q, 0, none⟩), .string s] w fun x w' => x = .returned (.bool (matchF p s)) ∧ Below w.heap.size w w' := by
  obtain ⟨hBQ, q, hq, ht⟩ := h
  have HQ := Aside0.mk hq
  have HT := Aside0.mk ht
  have HWF := Aside0.mk hwf
  have HS := Aside0.mk hs
  have HLN := Aside0.mk (runesF_len s)
  unfold matchF
  obtain ⟨l, hl⟩ : ∃ l, runesF s = l := ⟨_, rfl⟩
  rw [hl]
  rw [hl] at HLN
  have HRL := Aside0.mk hl
  clear hl
  have x1 : w.cell? ⟨Q, 1, none⟩ = some (.pointer (some ⟨q, 0, none⟩)) := (blk_cell hq 1).trans rfl
  clear hq ht hwf hs hBQ
  obtain ⟨m, hm⟩ : ∃ m, l.length = m := ⟨_, rfl⟩
  have HM := Aside0.mk hm
  rw [hm]
  have hm9 : m ≤ 900000 := by have h1 := HLN.out; have h2 := HS.out; omega
  have hw1 : wrap64 ((m : Int) + 1) = (m : Int) + 1 := wrap64_self (by omega) (by omega)
  clear hm
  go_enter Tryd.func12, Tryd.ntmps12
  go_wp2_with (first
    | (go_at_call 27; (with_reducible refine (runes_calls (Nat.le_trans HS.out (by decide)) _).mono ?_); rw [HRL.out]; rintro e w1 ⟨v, rfl, hr, hb⟩; obtain ⟨A1, c1, rfl⟩ := Kd.R_slice hr; rw [HM.out] at hr ⊢; have HR1 := Aside0.mk (show RI w1 A1 m c1 l from Kd.R_lower (Kd.R_mono hr (fun _ _ => trivial)) (Nat.zero_le _)); have HB1 := Aside0.mk hb; clear hr hb)
    | ((with_reducible refine gate_dst (N := 21) rfl ?_); refine Kd.R_make Kd.bool (w0 := w) w.heap.size 4 rfl rfl 65 (.tmp 20) (.tmp 20) rfl ((m : Int) + 1) rfl rfl Tryd.underlying65 (.bool false) 1 info4 rfl (by decide) (by decide) false (ok := fun k => w.heap.size ≤ k) (okp := fun _ => False) rfl (fun _ h => h.elim) HB1.out.size (by omega) (by omega) HB1.out HB1.out.size ?_; intro v3 w3 hr3 hb3 hg3 ho3; rw [show ((m : Int) + 1).toNat = m + 1 from by omega] at hr3; obtain ⟨g3, c3, hv3, hg3l, _⟩ := Kd.R_form hr3 (by rw [List.length_replicate]; omega); rw [List.length_replicate] at hv3; subst hv3; have HG3 := Aside0.mk hg3l; have hbl : BL w3 g3 (m + 1) c3 (List.replicate (m + 1) false) := Kd.R_lower (Kd.R_mono hr3 (fun _ _ => trivial)) (Nat.zero_le _); have HR3 := Aside0.mk hbl; have HB3 := Aside0.mk hb3; obtain ⟨z0, zf⟩ := hbl.cell 0 (by omega); have hg1 : w1.heap.size ≤ g3 := (by obtain ⟨b1, e1, e2⟩ := ho3; have e3 : some g3 = some b1 := e1; injection e3 with e3; omega); have hb4 := Below.far_ hb3 hg3l 0 (.bool true); have HB4 := Aside0.mk hb4; have HT4 := Aside0.mk (HT.out.below hb4); have HR4 := Aside0.mk (show RI (w3.setCell ⟨g3, 0, none⟩ (.bool true)) A1 m c1 l from Kd.R_mono (Kd.R_step (Kd.R_bound HR1.out) (fun k hk hl => (Below.heap_setCell _ _ _ k (fun e => by have e' : k = g3 := e; have := hk.2.2.1; omega)).trans (hg3.block k hk.2.2.1 (by intro e; cases e)))) (fun _ _ => trivial)); have HF4 := Aside0.mk (show BL (w3.setCell ⟨g3, 0, none⟩ (.bool true)) g3 (m + 1) c3 (true :: List.replicate m false) from hbl.put 0 true); have HN4 := Aside0.mk (show m + 1 = l.length + 1 by rw [HM.out]); have HS4 := Aside0.mk (show m + 1 ≤ 1000000 by omega); clear hg1 hb4; clear hr3 hg3 ho3 hg3l hbl; have x1' : w3.cell? ⟨Q, 1, none⟩ = some (.pointer (some ⟨q, 0, none⟩)) := (blk_cell ((hb3.block Q (blk_lt HQ.out)).trans HQ.out) 1).trans rfl; clear hb3)
    | (go_at_call 28; (with_reducible refine ((ends_ok _).go (Nat.lt_succ_self p.sz) HWF.out HT4.out HR4.out HF4.out HN4.out HS4.out).mono ?_); rintro e w5 ⟨g5, c5, rfl, hb5, _, hb⟩; have HB5 := Aside0.mk (HB4.out.trans (hb.mono HB4.out.size)); obtain ⟨y0, _⟩ := hb5.cell m (by have h1 := hm9; omega); clear hb5 hb))
  go_ret
  refine ⟨rfl, HB5.out⟩
/-- A pattern that no call made. -/
theorem match_none (s : ByteArray) (w : World) : Calls Tryd.prog 12 #[.pointer none, .string s] w fun x w' => x = .returned (.bool false) ∧ w' = w := by
  go_enter Tryd.func12, Tryd.ntmps12
  go_wp2_with (fail)
  go_ret
  exact ⟨rfl, rfl⟩
theorem match_zero {w : World} {Q : Nat} {s0 : ByteArray} {m0 : Int} (h : w.heap[Q]? = some (.cells #[.string s0, .pointer none, .int .i64 m0] 43 (0, 0))) (s : ByteArray) : Calls Tryd.prog 12 #[.pointer (some ⟨Q, 0, none⟩), .string s] w fun x w' => x = .returned (.bool false) ∧ w' = w := by
  have x1 : w.cell? ⟨Q, 1, none⟩ = some (.pointer none) := (blk_cell h 1).trans rfl
  clear h
  go_enter Tryd.func12, Tryd.ntmps12
  go_wp2_with (fail)
  go_ret
  exact ⟨rfl, rfl⟩
theorem text_none (w : World) : Calls Tryd.prog 19 #[.pointer none] w fun x w' => x = .returned (.string ⟨#[]⟩) ∧ w' = w := by
  go_enter Tryd.func19, Tryd.ntmps19
  go_wp2_with (fail)
  go_ret
  exact ⟨rfl, rfl⟩
theorem text_some {w : World} {Q : Nat} {s0 : ByteArray} {v : Value} {m0 : Int} (h : w.heap[Q]? = some (.cells #[.string s0, v, .int .i64 m0] 43 (0, 0))) : Calls Tryd.prog 19 #[.pointer (some ⟨Q, 0, none⟩)] w fun x w' => x = .returned (.string s0) ∧ w' = w := by
  have x0 : w.cell? ⟨Q, 0, none⟩ = some (.string s0) := (blk_cell h 0).trans rfl
  clear h
  go_enter Tryd.func19, Tryd.ntmps19
  go_wp2_with (fail)
  go_ret
  exact ⟨rfl, rfl⟩
theorem size_none (w : World) : Calls Tryd.prog 20 #[.pointer none] w fun x w' => x = .returned (.int .i64 0) ∧ w' = w := by
  go_enter Tryd.func20, Tryd.ntmps20
  go_wp2_with (fail)
  go_ret
  exact ⟨rfl, rfl⟩
theorem size_some {w : World} {Q : Nat} {s0 : ByteArray} {v : Value} {m0 : Int} (h : w.heap[Q]? = some (.cells #[.string s0, v, .int .i64 m0] 43 (0, 0))) : Calls Tryd.prog 20 #[.pointer (some ⟨Q, 0, none⟩)] w fun x w' => x = .returned (.int .i64 m0) ∧ w' = w := by
  have x2 : w.cell? ⟨Q, 2, none⟩ = some (.int .i64 m0) := (blk_cell h 2).trans rfl
  clear h
  go_enter Tryd.func20, Tryd.ntmps20
  go_wp2_with (fail)
  go_ret
  exact ⟨rfl, rfl⟩
/-- A text as a pattern. -/
def quoteL : List Int → ByteArray → ByteArray
  | [], o => o
  | c :: r, o => quoteL r ((if special c = true then o ++ ⟨#[92]⟩ else o) ++ Utf8.encode c)
def quoteF (s : ByteArray) : ByteArray := quoteL (runesF s) ⟨#[]⟩
set_option maxHeartbeats 1000000 in
set_option maxRecDepth 100000 in
theorem quote_calls {s : ByteArray} (hs : s.size ≤ 1000000) (w : World) : Calls Tryd.prog 14 #[.string s] w fun x w' => x = .returned (.string (quoteF s)) ∧ Below w.heap.size w w' := by
  obtain ⟨w1, hw1⟩ : ∃ w1, w1 = w.iter s 0 := ⟨_, rfl⟩
  have hrg : (Instr.range 9 (.string s)).run Tryd.prog w = .ok (.pointer (some ⟨w.heap.size, 0, none⟩)) w1 := by rw [hw1]; exact run_range_string w 9 s Tryd.underlying9
  have HI := Aside0.mk (show w1.heap[w.heap.size]? = some (.stringIter s 0) by rw [hw1]; exact World.iter_heap w s 0)
  have HB := Aside0.mk (show Below w.heap.size w w1 by rw [hw1]; exact below_alloc (Below.refl _ _) _)
  clear hw1
  unfold quoteF
  obtain ⟨RL, hRL⟩ : ∃ RL, quoteL (runesF s) ⟨#[]⟩ = RL := ⟨_, rfl⟩
  have HRL := Aside0.mk hRL
  have HSZ := Aside0.mk hs
  rw [hRL]
  clear hRL hs
  go_enter Tryd.func14, Tryd.ntmps14
  go_wp2
  clear hrg
  try go_frame
  go_loopg [3] (s.size + 1) (fun kq v3 wr => ∃ (pos : Nat) (acc : ByteArray), v3 = .string acc ∧ Aside0 (quoteL (runesK s kq pos) acc = RL ∧ s.size + 1 ≤ kq + pos ∧ pos ≤ s.size ∧ acc.size ≤ 5 * pos) ∧ Aside0 (wr.heap[w.heap.size]? = some (.stringIter s pos)) ∧ Aside0 (Below w.heap.size w wr))
  case atStart => exact ⟨0, ⟨#[]⟩, rfl, ⟨HRL.out, by omega, by omega, Nat.le_refl _⟩, HI, HB⟩
  case round =>
    clear HI HB
    obtain ⟨pos, acc, rfl, HK, HI, HB⟩ := hrel
    cases gk with
    | zero => have := HK.out; omega
    | succ k1 =>
    by_cases hp : pos < s.size
    · have hnx := next_str (P := Tryd.prog) HI.out hp 0
      have HN := Aside0.mk (iter_next (q := pos + (Utf8.decode s pos).2) (Nat.le_refl _) HI.out HB.out)
      have HD := Aside0.mk (decode_size s pos hp)
      have HA := Aside0.mk (show quoteL (((Utf8.decode s pos).1 : Int) :: runesK s k1 (pos + (Utf8.decode s pos).2)) acc = RL by have h := HK.out.1; rw [runesK, if_pos hp] at h; exact h)
      generalize Go.ChangeMaps.setBlock wr w.heap.size (.stringIter s (pos + (Utf8.decode s pos).2)) = w2 at *
      generalize Utf8.decode s pos = D at *
      obtain ⟨x, n⟩ := D
      obtain ⟨en, hen⟩ : ∃ en, Utf8.encode (x : Int) = en := ⟨_, rfl⟩
      have HEN := Aside0.mk hen
      have hen4 : en.size ≤ 4 := by rw [← hen]; exact encode_size_le _
      have hacc : acc.size ≤ 5000000 := by have h1 := HK.out; have h2 := HSZ.out; omega
      have HE4 := Aside0.mk hen4
      clear hen
      cases hsp : special (x : Int) with
      | true =>
        have HSP := Aside0.mk hsp
        clear hsp
        go_wp2_with (first
          | (at_next; refine wpList_next_str _ rfl (.tmp 7) rfl _ _ rfl _ hnx ?_)
          | (go_at_call 31; (with_reducible refine (special_calls (x : Int) _).mono ?_); rw [HSP.out]; rintro e w3 ⟨rfl, hb⟩; have HI3 := Aside0.mk ((hb.block _ (blk_lt HN.out.1)).trans HN.out.1); have HB3 := Aside0.mk (HN.out.2.trans (hb.mono HN.out.2.size)); clear hb)
          | ((with_reducible refine gate_dst (N := 18) rfl ?_); rw [HEN.out]))
        go_roundg k1
        case measure => omega
        case rel => exact ⟨pos + n, _, rfl, ⟨by have h := HA.out; rw [quoteL, if_pos HSP.out, HEN.out] at h; exact h, by have h1 := HK.out; have h2 := HD.out; omega, HD.out.2.1, by have h1 := HK.out; have h2 := HD.out; have h3 := HE4.out; simp only [ByteArray.size_append]; first | omega | (rw [show (⟨#[92]⟩ : ByteArray).size = 1 from rfl]; omega)⟩, HI3, HB3⟩
      | false =>
        have HSP := Aside0.mk hsp
        clear hsp
        go_wp2_with (first
          | (at_next; refine wpList_next_str _ rfl (.tmp 7) rfl _ _ rfl _ hnx ?_)
          | (go_at_call 31; (with_reducible refine (special_calls (x : Int) _).mono ?_); rw [HSP.out]; rintro e w3 ⟨rfl, hb⟩; have HI3 := Aside0.mk ((hb.block _ (blk_lt HN.out.1)).trans HN.out.1); have HB3 := Aside0.mk (HN.out.2.trans (hb.mono HN.out.2.size)); clear hb)
          | ((with_reducible refine gate_dst (N := 18) rfl ?_); rw [HEN.out]))
        go_roundg k1
        case measure => omega
        case rel => exact ⟨pos + n, _, rfl, ⟨by have h := HA.out; rw [quoteL, if_neg (by rw [HSP.out]; decide), HEN.out] at h; exact h, by have h1 := HK.out; have h2 := HD.out; omega, HD.out.2.1, by have h1 := HK.out; have h2 := HD.out; have h3 := HE4.out; simp only [ByteArray.size_append]; first | omega | (rw [show (⟨#[92]⟩ : ByteArray).size = 1 from rfl]; omega)⟩, HI3, HB3⟩
    · have hnx := next_str_end (P := Tryd.prog) HI.out hp 0
      have HA := Aside0.mk (show acc = RL by have h := HK.out.1; rw [runesK, if_neg hp] at h; exact h)
      go_wp2_with (at_next; refine wpList_next_str _ rfl (.tmp 7) rfl _ _ rfl _ hnx ?_)
      go_ret
      exact ⟨by rw [← HA.out]; rfl, HB.out⟩
end Go.Proofs.YtmfpikhmeacnbaaDoor.X
