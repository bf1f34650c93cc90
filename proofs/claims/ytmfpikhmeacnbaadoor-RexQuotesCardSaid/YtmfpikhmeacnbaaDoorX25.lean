import Derived.Test.YtmfpikhmeacnbaaDoorX24
/- Patterns: RexQuotes (mkX25.py). -/
namespace Go.Proofs.YtmfpikhmeacnbaaDoor.X
open Go.RowKit Go.Proofs.YtmfpikhmeacnbaaDoor.Q Go.Proofs.YtmfpikhmeacnbaaDoorW.PrintWords Go.Proofs.YtmfpikhmeacnbaaDoorW.PrintLast Go.Proofs.YtmfpikhmeacnbaaDoorW.PrintMore
set_option linter.unusedVariables false
set_option linter.unusedSimpArgs false
theorem special_iff (c : Int) : special c = true ↔ (c = 46 ∨ c = 42 ∨ c = 43 ∨ c = 63 ∨ c = 40 ∨ c = 41 ∨ c = 91 ∨ c = 93 ∨ c = 123 ∨ c = 125 ∨ c = 124 ∨ c = 94 ∨ c = 36 ∨ c = 92) := by
  unfold special spL
  simp only [List.contains_cons, List.contains_nil, Bool.or_false, Bool.or_eq_true, beq_iff_eq]
set_option maxHeartbeats 4000000 in
set_option maxRecDepth 100000 in
theorem special2_calls (c : Int) (w : World) : Calls Tryd.prog 32 #[.int .i32 c] w fun x w' => x = .returned (.bool (special c)) ∧ w' = w := by
  cases hs : special c with
  | true =>
    rcases (special_iff c).1 hs with rfl | rfl | rfl | rfl | rfl | rfl | rfl | rfl | rfl | rfl | rfl | rfl | rfl | rfl
    all_goals
      clear hs
      go_enter Tryd.func32, Tryd.ntmps32
      go_wp2_with (fail)
      go_ret
      exact ⟨rfl, rfl⟩
  | false =>
    have hn : ∀ d : Int, (d = 46 ∨ d = 42 ∨ d = 43 ∨ d = 63 ∨ d = 40 ∨ d = 41 ∨ d = 91 ∨ d = 93 ∨ d = 123 ∨ d = 125 ∨ d = 124 ∨ d = 94 ∨ d = 36 ∨ d = 92) → (c == d) = false := by
      intro d hd
      rw [beq_eq_false_iff_ne]
      intro e
      subst e
      rw [(special_iff c).2 hd] at hs
      cases hs
    have f0 := hn 46 (by decide)
    have f1 := hn 42 (by decide)
    have f2 := hn 43 (by decide)
    have f3 := hn 63 (by decide)
    have f4 := hn 40 (by decide)
    have f5 := hn 41 (by decide)
    have f6 := hn 91 (by decide)
    have f7 := hn 93 (by decide)
    have f8 := hn 123 (by decide)
    have f9 := hn 125 (by decide)
    have f10 := hn 124 (by decide)
    have f11 := hn 94 (by decide)
    have f12 := hn 36 (by decide)
    have f13 := hn 92 (by decide)
    clear hn hs
    go_enter Tryd.func32, Tryd.ntmps32
    go_wp2_with (fail)
    go_ret
    exact ⟨rfl, rfl⟩
set_option maxHeartbeats 1000000 in
set_option maxRecDepth 100000 in
theorem rquote_calls {s : ByteArray} (hs : s.size ≤ 1000000) (w : World) : Calls Tryd.prog 15 #[.string s] w fun x w' => x = .returned (.string (quoteF s)) ∧ Below w.heap.size w w' := by
  obtain ⟨w1, hw1⟩ : ∃ w1, w1 = w.iter s 0 := ⟨_, rfl⟩
  have hrg : (Instr.range 9 (.string s)).run Tryd.prog w = .ok (.pointer (some ⟨w.heap.size, 0, none⟩)) w1 := by rw [hw1]; exact run_range_string w 9 s Tryd.underlying9
  have HI := Aside0.mk (show w1.heap[w.heap.size]? = some (.stringIter s 0) by rw [hw1]; exact World.iter_heap w s 0)
  have HB := Aside0.mk (show Below w.heap.size w w1 by rw [hw1]; exact below_alloc (Below.refl _ _) _)
  clear hw1
  unfold quoteF
  obtain ⟨RL, hRL⟩ : ∃ RL, quoteL (runesF s) ⟨#[]⟩ = RL := ⟨_, rfl⟩
  have HRL := Aside0.mk hRL
  have HSZ := Aside0.mk hs
  rw [hRL]
  clear hRL hs
  go_enter Tryd.func15, Tryd.ntmps15
  go_wp2
  clear hrg
  try go_frame
  go_loopg [3] (s.size + 1) (fun kq v3 wr => ∃ (pos : Nat) (acc : ByteArray), v3 = .string acc ∧ Aside0 (quoteL (runesK s kq pos) acc = RL ∧ s.size + 1 ≤ kq + pos ∧ pos ≤ s.size ∧ acc.size ≤ 5 * pos) ∧ Aside0 (wr.heap[w.heap.size]? = some (.stringIter s pos)) ∧ Aside0 (Below w.heap.size w wr))
  case atStart => exact ⟨0, ⟨#[]⟩, rfl, ⟨HRL.out, by omega, by omega, Nat.le_refl _⟩, HI, HB⟩
  case round =>
    clear HI HB
    obtain ⟨pos, acc, rfl, HK, HI, HB⟩ := hrel
    cases gk with
    | zero => have := HK.out; omega
    | succ k1 =>
    by_cases hp : pos < s.size
    · have hnx := next_str (P := Tryd.prog) HI.out hp 0
      have HN := Aside0.mk (iter_next (q := pos + (Utf8.decode s pos).2) (Nat.le_refl _) HI.out HB.out)
      have HD := Aside0.mk (decode_size s pos hp)
      have HA := Aside0.mk (show quoteL (((Utf8.decode s pos).1 : Int) :: runesK s k1 (pos + (Utf8.decode s pos).2)) acc = RL by have h := HK.out.1; rw [runesK, if_pos hp] at h; exact h)
      generalize Go.ChangeMaps.setBlock wr w.heap.size (.stringIter s (pos + (Utf8.decode s pos).2)) = w2 at *
      generalize Utf8.decode s pos = D at *
      obtain ⟨x, n⟩ := D
      obtain ⟨en, hen⟩ : ∃ en, Utf8.encode (x : Int) = en := ⟨_, rfl⟩
      have HEN := Aside0.mk hen
      have hen4 : en.size ≤ 4 := by rw [← hen]; exact encode_size_le _
      have hacc : acc.size ≤ 5000000 := by have h1 := HK.out; have h2 := HSZ.out; omega
      have HE4 := Aside0.mk hen4
      clear hen
      cases hsp : special (x : Int) with
      | true =>
        have HSP := Aside0.mk hsp
        clear hsp
        go_wp2_with (first
          | (at_next; refine wpList_next_str _ rfl (.tmp 7) rfl _ _ rfl _ hnx ?_)
          | (go_at_call 32; (with_reducible refine (special2_calls (x : Int) _).mono ?_); rw [HSP.out]; rintro e w3 ⟨rfl, h3⟩; subst w3; have HI3 := Aside0.mk HN.out.1; have HB3 := Aside0.mk HN.out.2)
          | ((with_reducible refine gate_dst (N := 18) rfl ?_); rw [HEN.out]))
        go_roundg k1
        case measure => omega
        case rel => exact ⟨pos + n, _, rfl, ⟨by have h := HA.out; rw [quoteL, if_pos HSP.out, HEN.out] at h; exact h, by have h1 := HK.out; have h2 := HD.out; omega, HD.out.2.1, by have h1 := HK.out; have h2 := HD.out; have h3 := HE4.out; simp only [ByteArray.size_append]; first | omega | (rw [show (⟨#[92]⟩ : ByteArray).size = 1 from rfl]; omega)⟩, HI3, HB3⟩
      | false =>
        have HSP := Aside0.mk hsp
        clear hsp
        go_wp2_with (first
          | (at_next; refine wpList_next_str _ rfl (.tmp 7) rfl _ _ rfl _ hnx ?_)
          | (go_at_call 32; (with_reducible refine (special2_calls (x : Int) _).mono ?_); rw [HSP.out]; rintro e w3 ⟨rfl, h3⟩; subst w3; have HI3 := Aside0.mk HN.out.1; have HB3 := Aside0.mk HN.out.2)
          | ((with_reducible refine gate_dst (N := 18) rfl ?_); rw [HEN.out]))
        go_roundg k1
        case measure => omega
        case rel => exact ⟨pos + n, _, rfl, ⟨by have h := HA.out; rw [quoteL, if_neg (by rw [HSP.out]; decide), HEN.out] at h; exact h, by have h1 := HK.out; have h2 := HD.out; omega, HD.out.2.1, by have h1 := HK.out; have h2 := HD.out; have h3 := HE4.out; simp only [ByteArray.size_append]; first | omega | (rw [show (⟨#[92]⟩ : ByteArray).size = 1 from rfl]; omega)⟩, HI3, HB3⟩
    · have hnx := next_str_end (P := Tryd.prog) HI.out hp 0
      have HA := Aside0.mk (show acc = RL by have h := HK.out.1; rw [runesK, if_neg hp] at h; exact h)
      go_wp2_with (at_next; refine wpList_next_str _ rfl (.tmp 7) rfl _ _ rfl _ hnx ?_)
      go_ret
      exact ⟨by rw [← HA.out]; rfl, HB.out⟩
set_option maxRecDepth 1000000 in
theorem rl_enc {c : Int} (hc : Rune c) : rl c = (encB c).length := by
  obtain ⟨h0, h1, h2⟩ := hc
  obtain ⟨r, rfl⟩ := Int.eq_ofNat_of_zero_le h0
  unfold encB rl
  by_cases c1 : r < 128
  · rw [if_pos (by omega), Go.Extern.FmtText.enc1 r c1]; rfl
  by_cases c2 : r < 2048
  · rw [if_neg (by omega), if_pos (by omega), Go.Extern.FmtText.enc2 r c1 c2]; rfl
  by_cases c3 : r < 65536
  · rw [if_neg (by omega), if_neg (by omega), if_pos (by omega), Go.Extern.FmtText.enc3 r c2 c3 (by omega)]; rfl
  · rw [if_neg (by omega), if_neg (by omega), if_neg (by omega), Go.Extern.FmtText.enc4 r c3 (by omega)]; rfl
theorem decodeGo_eq (s : ByteArray) {i : Nat} (hi : i < s.size) : Lib.decodeGo (subS s i) = Lib.decodeL (s.data.toList.drop i) := by
  have hz : (subS s i).size = s.size - i := by unfold subS; rw [ByteArray.size_extract]; omega
  have hl : s.data.toList.length = s.size := rfl
  unfold Lib.decodeGo
  rw [if_neg (by omega)]
  have a1 := Lib.decodeL_drop (subS s i) 0
  rw [List.drop_zero] at a1
  rw [← a1]
  unfold subS
  rw [extract_list, List.take_of_length_le (by rw [List.length_drop]; omega)]
/-- Where a rune stands it is seen. -/
theorem peek_enc {s : ByteArray} {i : Nat} {c : Int} {t : List UInt8} (hc : Rune c) (h : s.data.toList.drop i = encB c ++ t) : peekF s i = some c := by
  have hl : s.data.toList.length = s.size := rfl
  have hp := encB_pos c
  have hi : i < s.size := by
    refine Classical.byContradiction fun hn => ?_
    rw [List.drop_eq_nil_of_le (by omega)] at h
    have := congrArg List.length h
    rw [List.length_append] at this
    simp at this
    omega
  unfold peekF
  rw [if_neg (by omega), decodeGo_eq s hi, h, dec_enc hc]
  have h0 := hc.1
  rw [if_neg (by
    rintro ⟨h1, h2⟩
    dsimp only at h1 h2
    have e : c = 65533 := by omega
    subst e
    rw [encB_bad] at h2
    simp at h2)]
  dsimp only
  congr 1
  omega
theorem peek_nil {s : ByteArray} {i : Nat} (h : s.data.toList.drop i = []) : peekF s i = some (-1) := by
  have hl : s.data.toList.length = s.size := rfl
  have := congrArg List.length h
  rw [List.length_drop] at this
  unfold peekF
  rw [if_pos (by simp at this; omega)]
/-- A quoted rune's bytes; a quoted text's. -/
def qB (c : Int) : List UInt8 := if special c = true then 92 :: encB c else encB c
def qL (cs : List Int) : List UInt8 := cs.flatMap qB
theorem quoteL_bytes : ∀ (cs : List Int) (o : ByteArray), (quoteL cs o).data.toList = o.data.toList ++ qL cs
  | [], o => by simp [quoteL, qL]
  | c :: cs, o => by
    rw [quoteL, quoteL_bytes cs, show qL (c :: cs) = qB c ++ qL cs from rfl, ← List.append_assoc]
    congr 1
    rw [ByteArray.data_append, Array.toList_append]
    unfold qB
    by_cases hs : special c = true
    · rw [if_pos hs, if_pos hs, ByteArray.data_append, Array.toList_append, List.append_assoc]; rfl
    · rw [if_neg hs, if_neg hs]; rfl
theorem quoteF_bytes (s : ByteArray) : (quoteF s).data.toList = qL (runesF s) := by
  unfold quoteF
  rw [quoteL_bytes]
  rfl
/-- Whatever bytes there are: runes come of them. -/
theorem runesK_rune (s : ByteArray) : ∀ k pos, ∀ c ∈ runesK s k pos, Rune c
  | 0, _, c, h => by cases h
  | k + 1, pos, c, h => by
    rw [runesK] at h
    by_cases hp : pos < s.size
    · rw [if_pos hp] at h
      rcases List.mem_cons.1 h with rfl | h
      · have h4 := decode_rune (subS s pos) (by unfold subS; rw [ByteArray.size_extract]; omega)
        have h5 : Utf8.decode (subS s pos) 0 = Utf8.decode s pos := by
          have a1 := decodeGo_eq s hp
          unfold Lib.decodeGo at a1
          rw [if_neg (by unfold subS; rw [ByteArray.size_extract]; omega), Lib.decodeL_drop] at a1
          exact a1
        rw [h5] at h4
        rcases h4 with h4 | h4
        · rw [h4.1]; exact ⟨by decide, by decide, by decide⟩
        · exact h4.1
      · exact runesK_rune s k _ c h
    · rw [if_neg hp] at h; cases h
theorem runesF_rune (s : ByteArray) : ∀ c ∈ runesF s, Rune c := runesK_rune s _ 0
theorem rune92_enc : encB 92 = [92] := by rfl
theorem special_short {c : Int} (h : special c = true) : shortsL c = [] := by
  rcases (special_iff c).1 h with rfl | rfl | rfl | rfl | rfl | rfl | rfl | rfl | rfl | rfl | rfl | rfl | rfl | rfl <;> rfl
def catL (acc : Pt) (cs : List Int) : Pt := cs.foldl (fun p c => .cat p (oneP c)) acc
theorem drop_app {l a b : List UInt8} {i : Nat} (h : l.drop i = a ++ b) : l.drop (i + a.length) = b := by
  rw [← List.drop_drop, h, List.drop_left]
/-- A quoted rune is an atom. -/
theorem quote_atom {s : ByteArray} {i k d : Nat} {c : Int} {t : List UInt8} (hc : Rune c) (h : s.data.toList.drop i = qB c ++ t) : atF (k + 1) s d i = some (.ok (oneP c, 1) (i + (qB c).length)) := by
  unfold qB at h ⊢
  rw [atF]
  by_cases hs : special c = true
  · rw [if_pos hs] at h ⊢
    have h1 : s.data.toList.drop i = encB 92 ++ (encB c ++ t) := h
    have h2 : s.data.toList.drop (i + 1) = encB c ++ t := drop_app h1
    rw [peek_enc rune92 h1]
    dsimp only
    rw [if_neg (by decide), if_neg (by decide), if_neg (by decide), if_pos rfl]
    unfold escF
    rw [peek_enc hc h2]
    dsimp only
    rw [if_neg (fun e => e (special_short hs)), if_neg (by rintro (e | ⟨e, _⟩); have := hc.1; omega; rw [hs] at e; cases e), rl_enc hc]
    dsimp only
    rw [show i + 1 + (encB c).length = i + (92 :: encB c).length from by rw [List.length_cons]; omega]
    rfl
  · rw [if_neg hs] at h ⊢
    have hn : ∀ d : Int, special d = true → c ≠ d := fun d hd e => hs (e ▸ hd)
    rw [peek_enc hc h]
    dsimp only
    rw [if_neg (hn 40 (by decide)), if_neg (hn 91 (by decide)), if_neg (hn 46 (by decide)), if_neg (hn 92 (by decide)), if_neg (by rintro (e | e); exact hs e; have := hc.1; omega), rl_enc hc]
    rfl
/-- What a quoted text begins with is no sign. -/
theorem quote_first {s : ByteArray} {i : Nat} {cs : List Int} (hc : ∀ c ∈ cs, Rune c) (h : s.data.toList.drop i = qL cs) : ∃ c, peekF s i = some c ∧ c ≠ 42 ∧ c ≠ 43 ∧ c ≠ 63 ∧ c ≠ 124 ∧ c ≠ 41 ∧ (cs = [] ↔ c < 0) := by
  cases cs with
  | nil => exact ⟨-1, peek_nil h, by decide, by decide, by decide, by decide, by decide, by simp⟩
  | cons c cs =>
    have h1 : s.data.toList.drop i = qB c ++ qL cs := h
    have hr := hc c List.mem_cons_self
    unfold qB at h1
    by_cases hs : special c = true
    · rw [if_pos hs] at h1
      exact ⟨92, peek_enc (t := encB c ++ qL cs) rune92 h1, by decide, by decide, by decide, by decide, by decide, by simp⟩
    · rw [if_neg hs] at h1
      have hn : ∀ d : Int, special d = true → c ≠ d := fun d hd e => hs (e ▸ hd)
      refine ⟨c, peek_enc hr h1, hn 42 (by decide), hn 43 (by decide), hn 63 (by decide), hn 124 (by decide), hn 41 (by decide), ?_⟩
      constructor
      · intro e; cases e
      · intro e; have := hr.1; omega
theorem quote_branch {s : ByteArray} {d : Nat} : ∀ (cs : List Int) (k i n : Nat) (acc : Pt), (∀ c ∈ cs, Rune c) → s.data.toList.drop i = qL cs → cs.length + 2 ≤ k → brF k s d i acc n = some (.ok (catL acc cs, n + cs.length) (i + (qL cs).length))
  | cs, 0, _, _, _, _, _, hk => by omega
  | [], k + 1, i, n, acc, hc, h, hk => by
    rw [brF, peek_nil h]
    dsimp only
    rw [if_pos (.inl (by decide))]
    rfl
  | c :: cs, k + 1, i, n, acc, hc, h, hk => by
    obtain ⟨c0, p0, _, _, _, n3, n4, n5⟩ := quote_first hc h
    have h1 : s.data.toList.drop i = qB c ++ qL cs := h
    have hcs : ∀ x ∈ cs, Rune x := fun x hx => hc x (List.mem_cons_of_mem _ hx)
    have h2 := drop_app h1
    obtain ⟨c2, p2, m1, m2, m3, _⟩ := quote_first hcs h2
    obtain ⟨k', rfl⟩ : ∃ k', k = k' + 1 := ⟨k - 1, by simp at hk; omega⟩
    rw [brF, p0]
    dsimp only
    rw [if_neg (by rintro (e | e | e); exact absurd (n5.2 e) (by simp); exact n3 e; exact n4 e), quote_atom (hc c List.mem_cons_self) h1]
    dsimp only
    rw [p2]
    dsimp only
    rw [if_neg (by rintro (e | e | e); exact m1 e; exact m2 e; exact m3 e), quote_branch cs (k' + 1) _ _ _ hcs h2 (by simp at hk; omega)]
    rw [show qL (c :: cs) = qB c ++ qL cs from rfl, List.length_append, List.length_cons, Nat.add_assoc i, show n + 1 + cs.length = n + (cs.length + 1) by omega]
    rfl
theorem catL_kids (cs : List Int) : ∀ acc : Pt, acc.kind = 1 → (catL acc cs).kind = 1 ∧ (catL acc cs).kids = acc.kids ++ cs.map oneP := by
  induction cs with
  | nil => intro acc h; exact ⟨h, by simp [catL]⟩
  | cons c cs ih =>
    intro acc h
    have := ih (.cat acc (oneP c)) rfl
    refine ⟨this.1, ?_⟩
    rw [show catL acc (c :: cs) = catL (.cat acc (oneP c)) cs from rfl, this.2]
    simp [Pt.kids]
/-- A quoted text as a pattern. -/
theorem quote_parse {s : ByteArray} (hs : (quoteF s).size ≤ 256) : ∃ p m j, parF 1000 (quoteF s) = some (.ok (p, m) j) ∧ ∀ u, Lg p u ↔ u = runesF s := by
  have hl : (quoteF s).data.toList.length = (quoteF s).size := rfl
  have hb := quoteF_bytes s
  have hr := runesF_rune s
  have hq : (qL (runesF s)).length = (quoteF s).size := by rw [← hb]; rfl
  have hlen : (runesF s).length ≤ (qL (runesF s)).length := by
    generalize runesF s = cs
    induction cs with
    | nil => exact Nat.le_refl _
    | cons c cs ih =>
      rw [show qL (c :: cs) = qB c ++ qL cs from rfl, List.length_append, List.length_cons]
      have : 1 ≤ (qB c).length := by
        have := encB_pos c
        unfold qB; split
        · rw [List.length_cons]; omega
        · exact this
      omega
  have h0 : (quoteF s).data.toList.drop 0 = qL (runesF s) := by rw [List.drop_zero]; exact hb
  have h1 := quote_branch (d := 0) (runesF s) 999 0 0 .eps hr h0 (by omega)
  have hend : (quoteF s).data.toList.drop (0 + (qL (runesF s)).length) = [] := List.drop_eq_nil_of_le (by omega)
  have h2 : paF 1000 (quoteF s) 0 0 = some (.ok (.alt1 (catL .eps (runesF s)), 0 + (runesF s).length) (0 + (qL (runesF s)).length)) := by
    rw [paF, h1]
    dsimp only
    rw [altF, peek_nil hend]
    dsimp only
    rw [if_neg (by decide)]
  refine ⟨.alt1 (catL .eps (runesF s)), 0 + (runesF s).length, 0 + (qL (runesF s)).length, ?_, fun u => ?_⟩
  · unfold parF
    rw [if_neg (by omega), h2]
    dsimp only
    rw [if_neg (by omega)]
  · have hw := (wf_ok 1000).2.2.1 h2
    have hk := catL_kids (runesF s) .eps rfl
    exact many_plain (catL .eps (runesF s)) hw.2 hk.1 (runesF s) hk.2 u
theorem quote_size (s : ByteArray) (hs : s.size ≤ 500) : (quoteF s).size ≤ 10000 := by
  have h1 : (quoteF s).size = (qL (runesF s)).length := by rw [← quoteF_bytes]; rfl
  have h2 : ∀ cs : List Int, (qL cs).length ≤ 5 * cs.length := by
    intro cs
    induction cs with
    | nil => exact Nat.le_refl _
    | cons c cs ih =>
      rw [show qL (c :: cs) = qB c ++ qL cs from rfl, List.length_append, List.length_cons]
      have : (qB c).length ≤ 5 := by
        have := encB_le c
        unfold qB; split
        · rw [List.length_cons]; omega
        · omega
      omega
  have h3 := h2 (runesF s)
  have h4 := runesF_len s
  omega
set_option maxHeartbeats 4000000 in
set_option maxRecDepth 100000 in
theorem quotes_law {w : World} (hT : Tab w) (s t : ByteArray) : Calls Tryd.prog 4 #[.string s, .string t] w fun x w' => x = .returned (.bool true) ∧ Below w.heap.size w w' := by
  have HT := Aside0.mk hT
  clear hT
  by_cases c1 : 500 < s.size
  · have c1' : (s.size : Int) > 500 := by omega
    clear c1
    go_enter Tryd.func4, Tryd.ntmps4
    go_wp2_with (first
      | (go_at_call 9; (with_reducible refine (live_calls HT.out).mono ?_); rintro e w1 ⟨rfl, hb⟩; have HT1 := Aside0.mk (HT.out.below hb); have HB1 := Aside0.mk hb; clear hb)
      | (go_at_call 9; (with_reducible refine (live_calls HT1.out).mono ?_); rintro e w2 ⟨rfl, hb⟩; have HB2 := Aside0.mk (HB1.out.trans (hb.mono HB1.out.size)); clear hb))
    go_ret
    exact ⟨rfl, HB2.out⟩
  have c1' : ¬ (s.size : Int) > 500 := by omega
  by_cases c2 : 500 < t.size
  · have c2' : (t.size : Int) > 500 := by omega
    clear c1 c2
    go_enter Tryd.func4, Tryd.ntmps4
    go_wp2_with (first
      | (go_at_call 9; (with_reducible refine (live_calls HT.out).mono ?_); rintro e w1 ⟨rfl, hb⟩; have HT1 := Aside0.mk (HT.out.below hb); have HB1 := Aside0.mk hb; clear hb)
      | (go_at_call 9; (with_reducible refine (live_calls HT1.out).mono ?_); rintro e w2 ⟨rfl, hb⟩; have HB2 := Aside0.mk (HB1.out.trans (hb.mono HB1.out.size)); clear hb))
    go_ret
    exact ⟨rfl, HB2.out⟩
  have c2' : ¬ (t.size : Int) > 500 := by omega
  have HSZ := Aside0.mk (show s.size ≤ 500 by omega)
  have HTZ := Aside0.mk (show t.size ≤ 500 by omega)
  obtain ⟨q, hq⟩ : ∃ q, quoteF s = q := ⟨_, rfl⟩
  have HQ := Aside0.mk hq
  by_cases c3 : 256 < q.size
  · have c3' : (q.size : Int) > 256 := by omega
    have HR := Aside0.mk (show parF 1000 q = some (.bad 0 3) by unfold parF; rw [if_pos c3])
    clear c1 c2 c3 hq
    go_enter Tryd.func4, Tryd.ntmps4
    go_wp2_with (first
      | (go_at_call 9; (with_reducible refine (live_calls HT.out).mono ?_); rintro e w1 ⟨rfl, hb⟩; have HT1 := Aside0.mk (HT.out.below hb); have HB1 := Aside0.mk hb; clear hb)
      | (go_at_call 14; (with_reducible refine (quote_calls (Nat.le_trans HSZ.out (by decide)) _).mono ?_); rw [HQ.out]; rintro e w2 ⟨rfl, hb⟩; have HT2 := Aside0.mk (HT1.out.below hb); have HB2 := Aside0.mk (HB1.out.trans (hb.mono HB1.out.size)); clear hb)
      | (go_at_call 15; (with_reducible refine (rquote_calls (Nat.le_trans HSZ.out (by decide)) _).mono ?_); rw [HQ.out]; rintro e w3 ⟨rfl, hb⟩; have HT3 := Aside0.mk (HT2.out.below hb); have HB3 := Aside0.mk (HB2.out.trans (hb.mono HB2.out.size)); clear hb)
      | (go_at_call 10; (with_reducible refine (parse_calls HT3.out HR.out).mono ?_); rintro e w4 ⟨hb, rfl⟩; have HB4 := Aside0.mk (HB3.out.trans (hb.mono HB3.out.size)); clear hb))
    go_ret
    exact ⟨rfl, HB4.out⟩
  have c3' : ¬ (q.size : Int) > 256 := by omega
  obtain ⟨p, m, j, hp, hl⟩ := quote_parse (s := s) (by rw [hq]; omega)
  rw [hq] at hp
  have HR := Aside0.mk hp
  have HW := Aside0.mk (parF_ok hp)
  have HM1 := Aside0.mk ((match_iff p s).2 ((hl _).2 rfl))
  have HM2 := Aside0.mk (show validF s = true → validF t = true → matchF p t = (s.toList == t.toList) from fun hs ht => by
    rw [Bool.eq_iff_iff, match_iff, hl, beq_iff_eq, toList_data, toList_data]
    exact ⟨fun e => by rw [valid_inj hs ht e.symm], fun e => by rw [ba_ext e]⟩)
  clear c1 c2 c3 hq hp hl
  cases hv : validF s with
  | false =>
    have HV := Aside0.mk hv
    clear hv
    go_enter Tryd.func4, Tryd.ntmps4
    go_wp2_with (first
      | (go_at_call 9; (with_reducible refine (live_calls HT.out).mono ?_); rintro e w1 ⟨rfl, hb⟩; have HT1 := Aside0.mk (HT.out.below hb); have HB1 := Aside0.mk hb; clear hb)
      | (go_at_call 14; (with_reducible refine (quote_calls (Nat.le_trans HSZ.out (by decide)) _).mono ?_); rw [HQ.out]; rintro e w2 ⟨rfl, hb⟩; have HT2 := Aside0.mk (HT1.out.below hb); have HB2 := Aside0.mk (HB1.out.trans (hb.mono HB1.out.size)); clear hb)
      | (go_at_call 15; (with_reducible refine (rquote_calls (Nat.le_trans HSZ.out (by decide)) _).mono ?_); rw [HQ.out]; rintro e w3 ⟨rfl, hb⟩; have HT3 := Aside0.mk (HT2.out.below hb); have HB3 := Aside0.mk (HB2.out.trans (hb.mono HB2.out.size)); clear hb)
      | (go_at_call 10; (with_reducible refine (parse_calls HT3.out HR.out).mono ?_); rintro e w4 ⟨hb, Q, rfl, hx⟩; have HX4 := Aside0.mk hx; have HB4 := Aside0.mk (HB3.out.trans (hb.mono HB3.out.size)); clear hb hx)
      | (go_at_call 12; (with_reducible refine (match_calls HX4.out HW.out.2.1 (s := s) (Nat.le_trans HSZ.out (by decide))).mono ?_); rw [HM1.out]; rintro e w5 ⟨rfl, hb⟩; have HX5 := Aside0.mk (HX4.out.below hb); have HB5 := Aside0.mk (HB4.out.trans (hb.mono HB4.out.size)); clear hb)
      | (go_at_call 16; (with_reducible refine (valid_calls (s := s) (Nat.le_trans HSZ.out (by decide)) w5).mono ?_); rw [HV.out]; rintro e w6 ⟨rfl, hb⟩; have HX6 := Aside0.mk (HX5.out.below hb); have HB6 := Aside0.mk (HB5.out.trans (hb.mono HB5.out.size)); clear hb))
    go_ret
    exact ⟨rfl, HB6.out⟩
  | true =>
  have HV := Aside0.mk hv
  cases hvt : validF t with
  | false =>
    have HVT := Aside0.mk hvt
    clear hv hvt
    go_enter Tryd.func4, Tryd.ntmps4
    go_wp2_with (first
      | (go_at_call 9; (with_reducible refine (live_calls HT.out).mono ?_); rintro e w1 ⟨rfl, hb⟩; have HT1 := Aside0.mk (HT.out.below hb); have HB1 := Aside0.mk hb; clear hb)
      | (go_at_call 14; (with_reducible refine (quote_calls (Nat.le_trans HSZ.out (by decide)) _).mono ?_); rw [HQ.out]; rintro e w2 ⟨rfl, hb⟩; have HT2 := Aside0.mk (HT1.out.below hb); have HB2 := Aside0.mk (HB1.out.trans (hb.mono HB1.out.size)); clear hb)
      | (go_at_call 15; (with_reducible refine (rquote_calls (Nat.le_trans HSZ.out (by decide)) _).mono ?_); rw [HQ.out]; rintro e w3 ⟨rfl, hb⟩; have HT3 := Aside0.mk (HT2.out.below hb); have HB3 := Aside0.mk (HB2.out.trans (hb.mono HB2.out.size)); clear hb)
      | (go_at_call 10; (with_reducible refine (parse_calls HT3.out HR.out).mono ?_); rintro e w4 ⟨hb, Q, rfl, hx⟩; have HX4 := Aside0.mk hx; have HB4 := Aside0.mk (HB3.out.trans (hb.mono HB3.out.size)); clear hb hx)
      | (go_at_call 12; (with_reducible refine (match_calls HX4.out HW.out.2.1 (s := s) (Nat.le_trans HSZ.out (by decide))).mono ?_); rw [HM1.out]; rintro e w5 ⟨rfl, hb⟩; have HX5 := Aside0.mk (HX4.out.below hb); have HB5 := Aside0.mk (HB4.out.trans (hb.mono HB4.out.size)); clear hb)
      | (go_at_call 16; (with_reducible refine (valid_calls (s := s) (Nat.le_trans HSZ.out (by decide)) w5).mono ?_); rw [HV.out]; rintro e w6 ⟨rfl, hb⟩; have HX6 := Aside0.mk (HX5.out.below hb); have HB6 := Aside0.mk (HB5.out.trans (hb.mono HB5.out.size)); clear hb)
      | (go_at_call 16; (with_reducible refine (valid_calls (s := t) (Nat.le_trans HTZ.out (by decide)) w6).mono ?_); rw [HVT.out]; rintro e w7 ⟨rfl, hb⟩; have HX7 := Aside0.mk (HX6.out.below hb); have HB7 := Aside0.mk (HB6.out.trans (hb.mono HB6.out.size)); clear hb))
    go_ret
    exact ⟨rfl, HB7.out⟩
  | true =>
    have HVT := Aside0.mk hvt
    have hm := HM2.out hv hvt
    obtain ⟨b, hb0⟩ : ∃ b, (s.toList == t.toList) = b := ⟨_, rfl⟩
    rw [hb0] at hm
    have HM3 := Aside0.mk hm
    clear hv hvt hm
    go_enter Tryd.func4, Tryd.ntmps4
    go_wp2_with (first
      | (go_at_call 9; (with_reducible refine (live_calls HT.out).mono ?_); rintro e w1 ⟨rfl, hb⟩; have HT1 := Aside0.mk (HT.out.below hb); have HB1 := Aside0.mk hb; clear hb)
      | (go_at_call 14; (with_reducible refine (quote_calls (Nat.le_trans HSZ.out (by decide)) _).mono ?_); rw [HQ.out]; rintro e w2 ⟨rfl, hb⟩; have HT2 := Aside0.mk (HT1.out.below hb); have HB2 := Aside0.mk (HB1.out.trans (hb.mono HB1.out.size)); clear hb)
      | (go_at_call 15; (with_reducible refine (rquote_calls (Nat.le_trans HSZ.out (by decide)) _).mono ?_); rw [HQ.out]; rintro e w3 ⟨rfl, hb⟩; have HT3 := Aside0.mk (HT2.out.below hb); have HB3 := Aside0.mk (HB2.out.trans (hb.mono HB2.out.size)); clear hb)
      | (go_at_call 10; (with_reducible refine (parse_calls HT3.out HR.out).mono ?_); rintro e w4 ⟨hb, Q, rfl, hx⟩; have HX4 := Aside0.mk hx; have HB4 := Aside0.mk (HB3.out.trans (hb.mono HB3.out.size)); clear hb hx)
      | (go_at_call 12; (with_reducible refine (match_calls HX4.out HW.out.2.1 (s := s) (Nat.le_trans HSZ.out (by decide))).mono ?_); rw [HM1.out]; rintro e w5 ⟨rfl, hb⟩; have HX5 := Aside0.mk (HX4.out.below hb); have HB5 := Aside0.mk (HB4.out.trans (hb.mono HB4.out.size)); clear hb)
      | (go_at_call 16; (with_reducible refine (valid_calls (s := s) (Nat.le_trans HSZ.out (by decide)) w5).mono ?_); rw [HV.out]; rintro e w6 ⟨rfl, hb⟩; have HX6 := Aside0.mk (HX5.out.below hb); have HB6 := Aside0.mk (HB5.out.trans (hb.mono HB5.out.size)); clear hb)
      | (go_at_call 16; (with_reducible refine (valid_calls (s := t) (Nat.le_trans HTZ.out (by decide)) w6).mono ?_); rw [HVT.out]; rintro e w7 ⟨rfl, hb⟩; have HX7 := Aside0.mk (HX6.out.below hb); have HB7 := Aside0.mk (HB6.out.trans (hb.mono HB6.out.size)); clear hb)
      | (go_at_call 12; (with_reducible refine (match_calls HX7.out HW.out.2.1 (Nat.le_trans HTZ.out (by decide))).mono ?_); rw [HM3.out]; rintro e w8 ⟨rfl, hb⟩; have HB8 := Aside0.mk (HB7.out.trans (hb.mono HB7.out.size)); clear hb))
    go_ret
    exact ⟨by first | rfl | (cases b <;> rfl) | (cases b <;> simp), HB8.out⟩
end Go.Proofs.YtmfpikhmeacnbaaDoor.X
