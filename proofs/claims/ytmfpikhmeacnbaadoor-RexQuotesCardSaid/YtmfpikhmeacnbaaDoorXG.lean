import Derived.Test.YtmfpikhmeacnbaaDoorXF
import Derived.Lib.TrimUEq
/- Patterns by hand: the document's chars, Valid (mkX20.py). -/
namespace Go.Proofs.YtmfpikhmeacnbaaDoor.X
open Go.RowKit Go.Proofs.YtmfpikhmeacnbaaDoor.Q Go.Proofs.YtmfpikhmeacnbaaDoorW.PrintWords Go.Proofs.YtmfpikhmeacnbaaDoorW.PrintLast Go.Proofs.YtmfpikhmeacnbaaDoorW.PrintMore
set_option linter.unusedVariables false
set_option linter.unusedSimpArgs false
/-- A rune and where it stands; -1: a byte that belongs to none. -/
structure Ch where
  c : Int
  at_ : Int
def zCh : Ch := ⟨0, 0⟩
def kC : Kd Ch := Kd.iso (Kd.pair (Kd.int .i32) (Kd.int .i64)) (fun x : Ch => (x.c, x.at_))
theorem kC_open {w : World} {x : Ch} {cs : List Value} (h : kC.K w x cs) : cs = [.int .i32 x.c, .int .i64 x.at_] := by
  obtain ⟨_, _, rfl, rfl, rfl⟩ := h
  exact rfl
theorem kC_openM {w : World} {base : Nat} {ok : Nat → Prop} {x : Ch} {cs : List Value} (h : kC.M w base ok x cs) : cs = [.int .i32 x.c, .int .i64 x.at_] := by
  obtain ⟨_, _, rfl, rfl, rfl⟩ := h
  exact rfl
theorem kC_mkM (w : World) (base : Nat) (ok : Nat → Prop) (x : Ch)  : kC.M w base ok x [.int .i32 x.c, .int .i64 x.at_] := ⟨[.int .i32 x.c], [.int .i64 x.at_], rfl, rfl, rfl⟩
theorem info70 : (Tryd.prog.info? 70).map (fun i => (i.zero, i.size, i.bytes)) = some (some (.agg #[(.int .i32 0), (.int .i64 0)]), 2, 16) := by kernel_rfl
theorem size70 : (Tryd.prog.info? 70).map (·.size) = some 2 := by kernel_rfl
/-- Whether the bytes at a place are no rune. -/
def errB (s : ByteArray) (pos : Nat) : Bool := decide ((Utf8.decode s pos).1 = 65533) && (decide (s.size - pos < 3) || !((s.extract pos (pos + 3)).toList == [239, 191, 189]))
def charF (s : ByteArray) (pos : Nat) : Int := if errB s pos = true then -1 else ((Utf8.decode s pos).1 : Nat)
def charsK (s : ByteArray) : Nat → Nat → List Ch
  | 0, _ => []
  | k + 1, pos => if pos < s.size then ⟨charF s pos, pos⟩ :: charsK s k (pos + (Utf8.decode s pos).2) else []
def charsF (s : ByteArray) : List Ch := charsK s (s.size + 1) 0
theorem charsK_len (s : ByteArray) : ∀ k pos, (charsK s k pos).length ≤ s.size - pos
  | 0, _ => by simp [charsK]
  | k + 1, pos => by
    rw [charsK]
    split
    · rename_i h
      have h1 := decode_size s pos h
      have h2 := charsK_len s k (pos + (Utf8.decode s pos).2)
      rw [List.length_cons]; omega
    · simp
theorem charsF_len (s : ByteArray) : (charsF s).length ≤ s.size := charsK_len s _ 0
set_option maxHeartbeats 1000000 in
set_option maxRecDepth 100000 in
theorem chars_calls {s : ByteArray} (hs : s.size ≤ 1000000) (w : World) : Calls Tryd.prog 24 #[.string s] w fun x w' => ∃ v, x = .returned v ∧ kC.R 70 w' w.heap.size (fun k => w.heap.size ≤ k) v (charsF s) ∧ Below w.heap.size w w' := by
  have HSZ := Aside0.mk hs
  obtain ⟨w1, hw1⟩ : ∃ w1, w1 = w.iter s 0 := ⟨_, rfl⟩
  have hrg : (Instr.range 9 (.string s)).run Tryd.prog w = .ok (.pointer (some ⟨w.heap.size, 0, none⟩)) w1 := by rw [hw1]; exact run_range_string w 9 s Tryd.underlying9
  have HI := Aside0.mk (show w1.heap[w.heap.size]? = some (.stringIter s 0) by rw [hw1]; exact World.iter_heap w s 0)
  have HB := Aside0.mk (show Below w.heap.size w w1 by rw [hw1]; exact below_alloc (Below.refl _ _) _)
  clear hw1
  obtain ⟨RL, hRL⟩ : ∃ RL, charsF s = RL := ⟨_, rfl⟩
  have HRL := Aside0.mk hRL
  rw [hRL]
  clear hRL hs
  go_enter Tryd.func24, Tryd.ntmps24
  go_wp2
  clear hrg
  try go_frame
  go_loopg [3] (s.size + 1) (fun kq v3 wr => ∃ (pos : Nat) (acc : List Ch) (A : Option Addr) (cc : Nat), v3 = .slice A acc.length cc ∧ Aside0 (acc ++ charsK s kq pos = RL ∧ s.size + 1 ≤ kq + pos ∧ pos ≤ s.size ∧ acc.length ≤ pos) ∧ Aside0 (kC.R 70 wr w.heap.size (fun k => w.heap.size < k) v3 acc) ∧ Aside0 (wr.heap[w.heap.size]? = some (.stringIter s pos)) ∧ Aside0 (Below w.heap.size w wr))
  case atStart => exact ⟨0, [], none, 0, rfl, ⟨by rw [← HRL.out]; rfl, by omega, by omega, by simp⟩, ⟨Kd.R_nil _ _ _ _ _⟩, HI, HB⟩
  case round =>
    clear HI HB
    obtain ⟨pos, acc, A, cc, rfl, HK, HR, HI, HB⟩ := hrel
    cases gk with
    | zero => have := HK.out; omega
    | succ k1 =>
    by_cases hp : pos < s.size
    · have hnx := next_str (P := Tryd.prog) HI.out hp 0
      have HN := Aside0.mk (iter_next (q := pos + (Utf8.decode s pos).2) (Nat.le_refl _) HI.out HB.out)
      have HD := Aside0.mk (decode_size s pos hp)
      have HR1 := Aside0.mk (Kd.R_step (w1 := Go.ChangeMaps.setBlock wr w.heap.size (.stringIter s (pos + (Utf8.decode s pos).2))) HR.out (fun k hk hl => (MapKept.heap_set (o' := .stringIter s (pos + (Utf8.decode s pos).2)) HI.out).2 k (by omega)))
      have HA := Aside0.mk (show acc ++ (⟨charF s pos, pos⟩ : Ch) :: charsK s k1 (pos + (Utf8.decode s pos).2) = RL by have h := HK.out.1; rw [charsK, if_pos hp] at h; exact h)
      generalize Go.ChangeMaps.setBlock wr w.heap.size (.stringIter s (pos + (Utf8.decode s pos).2)) = w2 at *
      have hcf : charF s pos = if (decide ((Utf8.decode s pos).1 = 65533) && (decide (s.size - pos < 3) || !((s.extract pos (pos + 3)).toList == [239, 191, 189]))) = true then (-1 : Int) else (((Utf8.decode s pos).1 : Nat) : Int) := rfl
      obtain ⟨cf, hcf0⟩ : ∃ cf, charF s pos = cf := ⟨_, rfl⟩
      rw [hcf0] at HA hcf
      generalize Utf8.decode s pos = D at *
      obtain ⟨x, n⟩ := D
      obtain ⟨T3, hT3⟩ : ∃ T3, s.extract pos (pos + 3) = T3 := ⟨_, rfl⟩
      have HT3 := Aside0.mk hT3
      rw [hT3] at hcf
      dsimp only at hcf
      have hcs : (((x : Int) == 65533) = false ∧ cf = x) ∨ (x = 65533 ∧ s.size < pos + 3 ∧ cf = -1) ∨ (x = 65533 ∧ pos + 3 ≤ s.size ∧ (T3.toList == [239, 191, 189]) = false ∧ cf = -1) ∨ (x = 65533 ∧ pos + 3 ≤ s.size ∧ (T3.toList == [239, 191, 189]) = true ∧ cf = x) := by
        by_cases e : x = 65533
        · by_cases e2 : s.size < pos + 3
          · exact .inr (.inl ⟨e, e2, by rw [hcf, decide_eq_true e, decide_eq_true (show s.size - pos < 3 by omega)]; rfl⟩)
          · cases hT : (T3.toList == [239, 191, 189])
            · exact .inr (.inr (.inl ⟨e, by omega, rfl, by rw [hcf, hT, decide_eq_true e]; simp⟩))
            · exact .inr (.inr (.inr ⟨e, by omega, rfl, by rw [hcf, hT, decide_eq_false (show ¬ s.size - pos < 3 by omega)]; simp⟩))
        · exact .inl ⟨by rw [beq_eq_false_iff_ne]; omega, by rw [hcf, decide_eq_false e]; simp⟩
      clear hcf hcf0
      have hpz : pos ≤ 1000000 := by have := HSZ.out; omega
      have hsz : s.size ≤ 1000000 := HSZ.out
      rcases hcs with ⟨e1, rfl⟩ | ⟨rfl, e2, rfl⟩ | ⟨rfl, e2, e3, rfl⟩ | ⟨rfl, e2, e3, rfl⟩
      · go_wp2_with (first
          | (at_next; refine wpList_next_str _ rfl (.tmp 7) rfl _ _ rfl _ hnx ?_)
          | ((with_reducible refine gate_builtin (b := .append) (xs := #[.tmp 29, .tmp 33]) rfl ?_); at_builtin; refine Kd.R_append kC (w0 := w2) w.heap.size rfl (.tmp 29) (.tmp 33) 55 70 (.agg #[.int .i32 0, .int .i64 0]) 16 rfl Tryd.underlying55 info70 rfl (by decide) (by omega) (.slice A acc.length cc) acc (⟨(x : Int), pos⟩ : Ch) [.int .i32 (x : Int), .int .i64 pos] (fun k => w.heap.size < k) (fun _ => False) rfl rfl ?aP (fun _ h => h.elim) ?aF ?aO ?aB ?aS ?aL ?_; (case aP => exact kC_mkM _ _ _ _); (case aF => exact (fun k hk => Nat.lt_of_lt_of_le (blk_lt HN.out.1) hk)); (case aO => exact HR1.out); (case aB => exact Below.refl _ _); (case aS => exact HN.out.2.size); (case aL => have h1 := HK.out; have h2 := HSZ.out; omega); intro v5 w5 ho hb5 hg5 hat5; obtain ⟨A5, c5, rfl⟩ := Kd.R_slice ho; have HO := Aside0.mk ho; have HI5 := Aside0.mk ((hg5.block _ (blk_lt HN.out.1) (fun e => by have h1 := HR1.out.1 _ e.symm; omega)).trans HN.out.1); have HB5 := Aside0.mk (HN.out.2.trans hb5); clear ho hb5 hg5 hat5))
        go_roundg k1
        case measure => omega
        case rel => exact ⟨pos + n, acc ++ [(⟨(x : Int), pos⟩ : Ch)], A5, c5, by rw [List.length_append]; rfl, ⟨by rw [List.append_assoc]; exact HA.out, by have h1 := HK.out; have h2 := HD.out; omega, HD.out.2.1, by rw [List.length_append]; have h1 := HK.out; have h2 := HD.out; simp only [List.length_singleton]; omega⟩, ⟨by rw [show acc.length + 1 = (acc ++ [(⟨(x : Int), pos⟩ : Ch)]).length from by rw [List.length_append]; rfl]; exact HO.out⟩, HI5, HB5⟩
      · go_wp2_with (first
          | (at_next; refine wpList_next_str _ rfl (.tmp 7) rfl _ _ rfl _ hnx ?_)
          | ((with_reducible refine gate_builtin (b := .append) (xs := #[.tmp 29, .tmp 33]) rfl ?_); at_builtin; refine Kd.R_append kC (w0 := w2) w.heap.size rfl (.tmp 29) (.tmp 33) 55 70 (.agg #[.int .i32 0, .int .i64 0]) 16 rfl Tryd.underlying55 info70 rfl (by decide) (by omega) (.slice A acc.length cc) acc (⟨(-1), pos⟩ : Ch) [.int .i32 (-1), .int .i64 pos] (fun k => w.heap.size < k) (fun _ => False) rfl rfl ?aP (fun _ h => h.elim) ?aF ?aO ?aB ?aS ?aL ?_; (case aP => exact kC_mkM _ _ _ _); (case aF => exact (fun k hk => Nat.lt_of_lt_of_le (blk_lt HN.out.1) hk)); (case aO => exact HR1.out); (case aB => exact Below.refl _ _); (case aS => exact HN.out.2.size); (case aL => have h1 := HK.out; have h2 := HSZ.out; omega); intro v5 w5 ho hb5 hg5 hat5; obtain ⟨A5, c5, rfl⟩ := Kd.R_slice ho; have HO := Aside0.mk ho; have HI5 := Aside0.mk ((hg5.block _ (blk_lt HN.out.1) (fun e => by have h1 := HR1.out.1 _ e.symm; omega)).trans HN.out.1); have HB5 := Aside0.mk (HN.out.2.trans hb5); clear ho hb5 hg5 hat5))
        go_roundg k1
        case measure => omega
        case rel => exact ⟨pos + n, acc ++ [(⟨(-1), pos⟩ : Ch)], A5, c5, by rw [List.length_append]; rfl, ⟨by rw [List.append_assoc]; exact HA.out, by have h1 := HK.out; have h2 := HD.out; omega, HD.out.2.1, by rw [List.length_append]; have h1 := HK.out; have h2 := HD.out; simp only [List.length_singleton]; omega⟩, ⟨by rw [show acc.length + 1 = (acc ++ [(⟨(-1), pos⟩ : Ch)]).length from by rw [List.length_append]; rfl]; exact HO.out⟩, HI5, HB5⟩
      · have e4 : 3 ≤ (s.size : Int) - (pos : Int) := by omega
        have hsl : (Instr.slice 9 (.string s) (some (.int .i64 pos)) (some (.int .i64 ((pos : Int) + 3))) none).run Tryd.prog w2 = .ok (.string T3) w2 := by
          rw [run_slice_string w2 9 s .i64 .i64 (pos : Int) ((pos : Int) + 3) Tryd.underlying9 (by omega) (by omega) (by omega)]
          rw [show ((pos : Int) + 3).toNat = pos + 3 from by omega, Int.toNat_natCast, HT3.out]
        go_wp2_with (first
          | (at_next; refine wpList_next_str _ rfl (.tmp 7) rfl _ _ rfl _ hnx ?_)
          | ((with_reducible refine gate_builtin (b := .append) (xs := #[.tmp 29, .tmp 33]) rfl ?_); at_builtin; refine Kd.R_append kC (w0 := w2) w.heap.size rfl (.tmp 29) (.tmp 33) 55 70 (.agg #[.int .i32 0, .int .i64 0]) 16 rfl Tryd.underlying55 info70 rfl (by decide) (by omega) (.slice A acc.length cc) acc (⟨(-1), pos⟩ : Ch) [.int .i32 (-1), .int .i64 pos] (fun k => w.heap.size < k) (fun _ => False) rfl rfl ?aP (fun _ h => h.elim) ?aF ?aO ?aB ?aS ?aL ?_; (case aP => exact kC_mkM _ _ _ _); (case aF => exact (fun k hk => Nat.lt_of_lt_of_le (blk_lt HN.out.1) hk)); (case aO => exact HR1.out); (case aB => exact Below.refl _ _); (case aS => exact HN.out.2.size); (case aL => have h1 := HK.out; have h2 := HSZ.out; omega); intro v5 w5 ho hb5 hg5 hat5; obtain ⟨A5, c5, rfl⟩ := Kd.R_slice ho; have HO := Aside0.mk ho; have HI5 := Aside0.mk ((hg5.block _ (blk_lt HN.out.1) (fun e => by have h1 := HR1.out.1 _ e.symm; omega)).trans HN.out.1); have HB5 := Aside0.mk (HN.out.2.trans hb5); clear ho hb5 hg5 hat5))
        go_roundg k1
        case measure => omega
        case rel => exact ⟨pos + n, acc ++ [(⟨(-1), pos⟩ : Ch)], A5, c5, by rw [List.length_append]; rfl, ⟨by rw [List.append_assoc]; exact HA.out, by have h1 := HK.out; have h2 := HD.out; omega, HD.out.2.1, by rw [List.length_append]; have h1 := HK.out; have h2 := HD.out; simp only [List.length_singleton]; omega⟩, ⟨by rw [show acc.length + 1 = (acc ++ [(⟨(-1), pos⟩ : Ch)]).length from by rw [List.length_append]; rfl]; exact HO.out⟩, HI5, HB5⟩
      · have e4 : 3 ≤ (s.size : Int) - (pos : Int) := by omega
        have hsl : (Instr.slice 9 (.string s) (some (.int .i64 pos)) (some (.int .i64 ((pos : Int) + 3))) none).run Tryd.prog w2 = .ok (.string T3) w2 := by
          rw [run_slice_string w2 9 s .i64 .i64 (pos : Int) ((pos : Int) + 3) Tryd.underlying9 (by omega) (by omega) (by omega)]
          rw [show ((pos : Int) + 3).toNat = pos + 3 from by omega, Int.toNat_natCast, HT3.out]
        go_wp2_with (first
          | (at_next; refine wpList_next_str _ rfl (.tmp 7) rfl _ _ rfl _ hnx ?_)
          | ((with_reducible refine gate_builtin (b := .append) (xs := #[.tmp 29, .tmp 33]) rfl ?_); at_builtin; refine Kd.R_append kC (w0 := w2) w.heap.size rfl (.tmp 29) (.tmp 33) 55 70 (.agg #[.int .i32 0, .int .i64 0]) 16 rfl Tryd.underlying55 info70 rfl (by decide) (by omega) (.slice A acc.length cc) acc (⟨65533, pos⟩ : Ch) [.int .i32 65533, .int .i64 pos] (fun k => w.heap.size < k) (fun _ => False) rfl rfl ?aP (fun _ h => h.elim) ?aF ?aO ?aB ?aS ?aL ?_; (case aP => exact kC_mkM _ _ _ _); (case aF => exact (fun k hk => Nat.lt_of_lt_of_le (blk_lt HN.out.1) hk)); (case aO => exact HR1.out); (case aB => exact Below.refl _ _); (case aS => exact HN.out.2.size); (case aL => have h1 := HK.out; have h2 := HSZ.out; omega); intro v5 w5 ho hb5 hg5 hat5; obtain ⟨A5, c5, rfl⟩ := Kd.R_slice ho; have HO := Aside0.mk ho; have HI5 := Aside0.mk ((hg5.block _ (blk_lt HN.out.1) (fun e => by have h1 := HR1.out.1 _ e.symm; omega)).trans HN.out.1); have HB5 := Aside0.mk (HN.out.2.trans hb5); clear ho hb5 hg5 hat5))
        go_roundg k1
        case measure => omega
        case rel => exact ⟨pos + n, acc ++ [(⟨65533, pos⟩ : Ch)], A5, c5, by rw [List.length_append]; rfl, ⟨by rw [List.append_assoc]; exact HA.out, by have h1 := HK.out; have h2 := HD.out; omega, HD.out.2.1, by rw [List.length_append]; have h1 := HK.out; have h2 := HD.out; simp only [List.length_singleton]; omega⟩, ⟨by rw [show acc.length + 1 = (acc ++ [(⟨65533, pos⟩ : Ch)]).length from by rw [List.length_append]; rfl]; exact HO.out⟩, HI5, HB5⟩
    · have hnx := next_str_end (P := Tryd.prog) HI.out hp 0
      have HA := Aside0.mk (show acc = RL by have h := HK.out.1; rw [charsK, if_neg hp, List.append_nil] at h; exact h)
      go_wp2_with (at_next; refine wpList_next_str _ rfl (.tmp 7) rfl _ _ rfl _ hnx ?_)
      go_ret
      exact ⟨_, rfl, by rw [← HA.out]; exact Kd.R_mono HR.out (fun k hk => Nat.le_of_lt hk), HB.out⟩
end Go.Proofs.YtmfpikhmeacnbaaDoor.X

/- Patterns by hand: the document's Valid; what is parsed of any text; RexValues (mkX21.py). -/
namespace Go.Proofs.YtmfpikhmeacnbaaDoor.X
open Go.RowKit Go.Proofs.YtmfpikhmeacnbaaDoor.Q Go.Proofs.YtmfpikhmeacnbaaDoorW.PrintWords Go.Proofs.YtmfpikhmeacnbaaDoorW.PrintLast Go.Proofs.YtmfpikhmeacnbaaDoorW.PrintMore
set_option linter.unusedVariables false
set_option linter.unusedSimpArgs false
/-- Has a text just runes? -/
def validF (s : ByteArray) : Bool := (charsF s).all fun x => decide (0 ≤ x.c)
set_option maxHeartbeats 1000000 in
set_option maxRecDepth 100000 in
theorem valid_calls {s : ByteArray} (hs : s.size ≤ 1000000) (w : World) : Calls Tryd.prog 16 #[.string s] w fun x w' => x = .returned (.bool (validF s)) ∧ Below w.heap.size w w' := by
  have HSZ := Aside0.mk hs
  unfold validF
  have HLN := Aside0.mk (charsF_len s)
  obtain ⟨l, hl⟩ : ∃ l, charsF s = l := ⟨_, rfl⟩
  rw [hl]
  rw [hl] at HLN
  have HL := Aside0.mk hl
  obtain ⟨r, hr⟩ : ∃ r, (l.all fun x => decide (0 ≤ x.c)) = r := ⟨_, rfl⟩
  rw [hr]
  have HRR := Aside0.mk hr
  clear hs hl hr
  go_enter Tryd.func16, Tryd.ntmps16
  go_wp2_with (go_at_call 24; (with_reducible refine (chars_calls HSZ.out _).mono ?_); rw [HL.out]; rintro e w1 ⟨v, rfl, hR, hb⟩; obtain ⟨A, cc, rfl⟩ := Kd.R_slice hR; have HR1 := Aside0.mk hR; have HB1 := Aside0.mk hb; clear hR hb)
  try go_frame
  go_loopg [8] (l.length + 1) (fun kq v8 wr => ∃ (i : Nat), v8 = .int .i64 i ∧ Aside0 (kq + i = l.length + 1 ∧ i ≤ l.length) ∧ Aside0 (((l.drop i).all fun x => decide (0 ≤ x.c)) = r) ∧ Aside0 (kC.R 70 wr w.heap.size (fun k => w.heap.size ≤ k) (.slice A l.length cc) l) ∧ Aside0 (Below w.heap.size w wr))
  case atStart => exact ⟨0, rfl, ⟨by omega, by omega⟩, ⟨by rw [List.drop_zero]; exact HRR.out⟩, HR1, HB1⟩
  case round =>
    clear HR1 HB1 HRR
    obtain ⟨i, rfl, HK, HA, HR, HB⟩ := hrel
    cases gk with
    | zero => have := HK.out; omega
    | succ k1 =>
    by_cases hi : i < l.length
    · have hi' : (i : Int) < (l.length : Int) := by omega
      have HI := Aside0.mk hi
      obtain ⟨g, cap, hv, _⟩ := Kd.R_form HR.out (by omega)
      injection hv with hA hn hc
      subst hA hc
      obtain ⟨ce, hl2, hM, hcell, _⟩ := Kd.R_elem HR.out zCh (i : Int) (by omega) (by omega)
      rw [Int.toNat_natCast] at hM hcell
      have hk := kC_openM hM
      subst hk
      have hrange : wr.rangeAt g (i * 2) [.int .i32 (l.getD i zCh).c, .int .i64 (l.getD i zCh).at_] := fun j v hv => hcell j v hv
      have HRG := Aside0.mk hrange
      have HDA := Aside0.mk (show (decide (0 ≤ (l.getD i zCh).c) && (l.drop (i + 1)).all fun x => decide (0 ≤ x.c)) = r by
        have h := HA.out
        rw [List.drop_eq_getElem_cons hi, List.all_cons] at h
        rw [List.getD_eq_getElem?_getD, List.getElem?_eq_getElem hi, Option.getD_some]
        exact h)
      clear hcell hM hl2 hrange hn hi
      generalize l.getD i zCh = y at *
      have hnn : l.length ≤ 1000000 := Nat.le_trans HLN.out HSZ.out
      by_cases h0 : y.c < 0
      · have HX := Aside0.mk (show r = false by have h := HDA.out; rw [decide_eq_false (by omega), Bool.false_and] at h; exact h.symm)
        go_wp2_with (first
          | ((with_reducible refine gate_ (.load 70 (.tmp 10)) rfl ?_); refine wpList_load_mid rfl 70 (.tmp 10) rfl g (i * 2) rfl [.int .i32 y.c, .int .i64 y.at_] _ HRG.out Tryd.underlying70 rfl size70 ?_)
          | ((with_reducible refine gate_dst (N := 4) rfl ?_); refine box_event ?hg (N := 4) ?hd (cs := #[.int .i32 0, .int .i64 0]) (t := 70) ?hr ?_; (case hd => rfl); (case hg => rfl); (case hr => first | (go_simp; done) | (go_simp; rfl)); intro F hF w1 hx1 hb1; have HF := Aside0.mk hF; have HBq := Aside0.mk hb1; have HB1 := Aside0.mk (HB.out.trans (hb1.mono HB.out.size)); have HFL := Aside0.mk (show w.heap.size ≤ F by rw [hF]; exact HB.out.size); have HF1 := Aside0.mk hx1; clear hF hb1 hx1)
          | ((with_reducible refine gate_ (.store 70 (.tmp 4) (.tmp 11)) rfl ?_); refine store_blk rfl 70 (.tmp 4) (.tmp 11) rfl F [.int .i32 0, .int .i64 0] [.int .i32 y.c, .int .i64 y.at_] rfl rfl HF1.out rfl size70 (by intro v hv; simp only [List.mem_cons, List.not_mem_nil, or_false] at hv; rcases hv with rfl | rfl <;> rfl) ?_; intro w2 ha hka hba; have HB2 := Aside0.mk (hba w HFL.out HB1.out); have HR2 := Aside0.mk (Kd.R_below HR.out (hba wr (by rw [HF.out]; exact Nat.le_refl _) HBq.out)); have y0 : w2.cell? ⟨F, 0, none⟩ = some (.int .i32 y.c) := (blk_cell ha 0).trans rfl; clear ha hka hba))
        go_ret
        exact ⟨by rw [HX.out]; rfl, HB2.out⟩
      · have HX := Aside0.mk (show ((l.drop (i + 1)).all fun x => decide (0 ≤ x.c)) = r by have h := HDA.out; rw [decide_eq_true (by omega), Bool.true_and] at h; exact h)
        go_wp2_with (first
          | ((with_reducible refine gate_ (.load 70 (.tmp 10)) rfl ?_); refine wpList_load_mid rfl 70 (.tmp 10) rfl g (i * 2) rfl [.int .i32 y.c, .int .i64 y.at_] _ HRG.out Tryd.underlying70 rfl size70 ?_)
          | ((with_reducible refine gate_dst (N := 4) rfl ?_); refine box_event ?hg (N := 4) ?hd (cs := #[.int .i32 0, .int .i64 0]) (t := 70) ?hr ?_; (case hd => rfl); (case hg => rfl); (case hr => first | (go_simp; done) | (go_simp; rfl)); intro F hF w1 hx1 hb1; have HF := Aside0.mk hF; have HBq := Aside0.mk hb1; have HB1 := Aside0.mk (HB.out.trans (hb1.mono HB.out.size)); have HFL := Aside0.mk (show w.heap.size ≤ F by rw [hF]; exact HB.out.size); have HF1 := Aside0.mk hx1; clear hF hb1 hx1)
          | ((with_reducible refine gate_ (.store 70 (.tmp 4) (.tmp 11)) rfl ?_); refine store_blk rfl 70 (.tmp 4) (.tmp 11) rfl F [.int .i32 0, .int .i64 0] [.int .i32 y.c, .int .i64 y.at_] rfl rfl HF1.out rfl size70 (by intro v hv; simp only [List.mem_cons, List.not_mem_nil, or_false] at hv; rcases hv with rfl | rfl <;> rfl) ?_; intro w2 ha hka hba; have HB2 := Aside0.mk (hba w HFL.out HB1.out); have HR2 := Aside0.mk (Kd.R_below HR.out (hba wr (by rw [HF.out]; exact Nat.le_refl _) HBq.out)); have y0 : w2.cell? ⟨F, 0, none⟩ = some (.int .i32 y.c) := (blk_cell ha 0).trans rfl; clear ha hka hba))
        go_roundg k1
        case measure => omega
        case rel => exact ⟨i + 1, by first | rfl | (simp; done) | (rw [wrap64_self (n := (i : Int) + 1) (by omega) (by have h2 := HI.out; omega)]; first | rfl | (simp; done)), ⟨by have := HK.out; omega, by have := HI.out; omega⟩, HX, HR2, HB2⟩
    · have hi' : ¬ (i : Int) < (l.length : Int) := by omega
      have HE := Aside0.mk (show true = r by have h := HA.out; rw [List.drop_eq_nil_of_le (by omega)] at h; exact h)
      clear hi
      go_wp2_with (fail)
      go_ret
      exact ⟨by rw [← HE.out]; rfl, HB.out⟩
/-! How far the fuel must go. -/
theorem cls_fuel {s : ByteArray} : ∀ {k i : Nat} {acc : List S86} {first : Bool}, i ≤ s.size → s.size - i + 2 ≤ k → ∃ RL, clsL k s i acc first = some RL
  | 0, _, _, _, _, h => by omega
  | k + 1, i, acc, first, hi, hk => by
    rw [clsL]
    have hB : ∀ j l, i + 1 ≤ j → j ≤ s.size → ∃ RL, clsL k s j l false = some RL := fun j l h1 h2 => cls_fuel h2 (by omega)
    cases hc : (if first = true then some 0 else peekF s i) with
    | none => exact ⟨_, rfl⟩
    | some c =>
      dsimp only
      split
      · exact ⟨_, rfl⟩
      · cases hm : memF s i with
        | bad a e => exact ⟨_, rfl⟩
        | ok lm j =>
          obtain ⟨l, sg⟩ := lm
          dsimp only
          have h1 := (mem_len hm).2
          have h2 := mem_le hi hm
          cases sg with
          | false => rw [if_neg (by decide)]; exact hB j _ h1 h2
          | true =>
            rw [if_pos rfl]
            cases hp : peekF s j with
            | none => exact ⟨_, rfl⟩
            | some c2 =>
              dsimp only
              split
              · rename_i e
                subst e
                have h3 := ((peek_rune h2 hp).resolve_left (by decide)).2
                have h4 := rl_pos 45
                cases hu : upF s (l.getD 0 z86).f0 (j + 1) with
                | bad a e => exact ⟨_, rfl⟩
                | ok hi2 j2 => exact hB j2 _ (by have := up_len hu; omega) (up_le (by omega) hu)
              · exact hB j _ h1 h2
theorem clsF_fuel {s : ByteArray} {k i : Nat} (hi : i ≤ s.size) (hk : s.size - i + 2 ≤ k) : ∃ R, clsF k s i = some R := by
  unfold clsF
  cases hp : peekF s i with
  | none => exact ⟨_, rfl⟩
  | some c =>
    dsimp only
    have h1 : (if c = 94 then i + 1 else i) ≤ s.size ∧ i ≤ (if c = 94 then i + 1 else i) := by
      split
      · rename_i e
        have h2 := ((peek_rune hi hp).resolve_left (by omega)).2
        have h3 := rl_pos c
        omega
      · omega
    obtain ⟨RL, h⟩ := cls_fuel (acc := []) (first := true) h1.1 (show s.size - (if c = 94 then i + 1 else i) + 2 ≤ k by omega)
    rw [h]
    cases RL <;> exact ⟨_, rfl⟩
theorem fuel {s : ByteArray} : ∀ k, (∀ {d i}, i ≤ s.size → 3 * (s.size - i) + 2 ≤ k → ∃ R, atF k s d i = some R) ∧ (∀ {d i acc n}, i ≤ s.size → 3 * (s.size - i) + 3 ≤ k → ∃ R, brF k s d i acc n = some R) ∧ (∀ {d i}, i ≤ s.size → 3 * (s.size - i) + 4 ≤ k → ∃ R, paF k s d i = some R) ∧ (∀ {d i acc n}, i ≤ s.size → 3 * (s.size - i) + 3 ≤ k → ∃ R, altF k s d i acc n = some R)
  | 0 => ⟨fun _ h => by omega, fun _ h => by omega, fun _ h => by omega, fun _ h => by omega⟩
  | k + 1 => by
    obtain ⟨ha, hb, hp, hl⟩ := fuel (s := s) k
    have hone : ∀ {i : Nat} {c : Int}, i ≤ s.size → peekF s i = some c → 0 ≤ c → i + 1 ≤ s.size := fun hi h h0 => by
      have h2 := ((peek_rune hi h).resolve_left (by omega)).2
      have h3 := rl_pos
      have h4 := h3 (by assumption)
      omega
    refine ⟨fun {d i} hi hk => ?_, fun {d i acc n} hi hk => ?_, fun {d i} hi hk => ?_, fun {d i acc n} hi hk => ?_⟩
    · rw [atF]
      cases hpk : peekF s i with
      | none => exact ⟨_, rfl⟩
      | some c =>
        dsimp only
        split
        · rename_i e
          have h1 := hone hi hpk (by omega)
          split
          · exact ⟨_, rfl⟩
          · obtain ⟨R, h⟩ := hp (d := d + 1) h1 (by omega)
            rw [h]
            cases R with
            | bad a e => exact ⟨_, rfl⟩
            | ok pm j =>
              obtain ⟨p, m⟩ := pm
              dsimp only
              cases peekF s j with
              | none => exact ⟨_, rfl⟩
              | some c2 => dsimp only; split <;> exact ⟨_, rfl⟩
        · split
          · rename_i e
            have h1 := hone hi hpk (by omega)
            exact clsF_fuel h1 (by omega)
          · split
            · exact ⟨_, rfl⟩
            · split
              · cases escF s (i + 1) with
                | bad a e => exact ⟨_, rfl⟩
                | ok lm j => exact ⟨_, rfl⟩
              · split <;> exact ⟨_, rfl⟩
    · rw [brF]
      cases hpk : peekF s i with
      | none => exact ⟨_, rfl⟩
      | some c =>
        dsimp only
        split
        · exact ⟨_, rfl⟩
        · rename_i e
          have h1 := hone hi hpk (by omega)
          obtain ⟨R, h⟩ := ha (d := d) hi (by omega)
          rw [h]
          cases R with
          | bad a e => exact ⟨_, rfl⟩
          | ok pm j =>
            obtain ⟨p, m⟩ := pm
            have h2 := ((long k).1 h).2
            have h3 := (le_ok k).1 hi h
            dsimp only
            cases hp2 : peekF s j with
            | none => exact ⟨_, rfl⟩
            | some c2 =>
              dsimp only
              split
              · rename_i e2
                have h4 := hone h3 hp2 (by omega)
                exact hb h4 (by omega)
              · exact hb h3 (by omega)
    · rw [paF]
      obtain ⟨R, h⟩ := hb (d := d) (acc := .eps) (n := 0) hi (by omega)
      rw [h]
      cases R with
      | bad a e => exact ⟨_, rfl⟩
      | ok pm j =>
        obtain ⟨p, m⟩ := pm
        have h2 := ((long k).2.1 h).2
        have h3 := (le_ok k).2.1 hi h
        exact hl h3 (by omega)
    · rw [altF]
      cases hpk : peekF s i with
      | none => exact ⟨_, rfl⟩
      | some c =>
        dsimp only
        split
        · rename_i e
          have h1 := hone hi hpk (by omega)
          obtain ⟨R, h⟩ := hb (d := d) (acc := .eps) (n := 0) h1 (by omega)
          rw [h]
          cases R with
          | bad a e => exact ⟨_, rfl⟩
          | ok pm j =>
            obtain ⟨p, m⟩ := pm
            have h2 := ((long k).2.1 h).2
            have h3 := (le_ok k).2.1 h1 h
            exact hl h3 (by omega)
        · exact ⟨_, rfl⟩
/-- What any text is parsed to. -/
theorem par_total (s : ByteArray) : ∃ R, parF 1000 s = some R := by
  unfold parF
  split
  · exact ⟨_, rfl⟩
  · obtain ⟨R, h⟩ := (fuel (s := s) 1000).2.2.1 (d := 0) (Nat.zero_le _) (by omega)
    rw [h]
    cases R with
    | bad a e => exact ⟨_, rfl⟩
    | ok pm j =>
      obtain ⟨p, m⟩ := pm
      dsimp only
      split <;> exact ⟨_, rfl⟩
/-! Which faults there are. -/
def Flt (e : Int) : Prop := e = 3 ∨ e = 8 ∨ e = 60
theorem esc_flt {s : ByteArray} {i a : Nat} {e : Int} (h : escF s i = .bad a e) : Flt e := by
  unfold escF at h
  cases hp : peekF s i with
  | none => rw [hp] at h; injection h with h1 h2; exact .inr (.inl h2.symm)
  | some c =>
    rw [hp] at h
    dsimp only at h
    split at h
    · cases h
    · split at h
      · injection h with h1 h2; exact .inr (.inl h2.symm)
      · cases h
theorem mem_flt {s : ByteArray} {i a : Nat} {e : Int} (h : memF s i = .bad a e) : Flt e := by
  unfold memF at h
  cases hp : peekF s i with
  | none => rw [hp] at h; injection h with h1 h2; exact .inr (.inl h2.symm)
  | some c =>
    rw [hp] at h
    dsimp only at h
    split at h
    · injection h with h1 h2; exact .inr (.inl h2.symm)
    · split at h
      · exact esc_flt h
      · cases h
theorem up_flt {s : ByteArray} {i a : Nat} {lo e : Int} (h : upF s lo i = .bad a e) : Flt e := by
  unfold upF at h
  cases hp : peekF s i with
  | none => rw [hp] at h; injection h with h1 h2; exact .inr (.inl h2.symm)
  | some c =>
    rw [hp] at h
    dsimp only at h
    split at h
    · injection h with h1 h2; exact .inr (.inl h2.symm)
    · cases hm : memF s i with
      | bad a e => rw [hm] at h; injection h with h1 h2; rw [← h2]; exact mem_flt hm
      | ok lm a =>
        obtain ⟨l, sg⟩ := lm
        rw [hm] at h
        dsimp only at h
        split at h
        · injection h with h1 h2; exact .inr (.inl h2.symm)
        · cases h
theorem cls_flt {s : ByteArray} {RL : Res (List S86)} : ∀ {k i : Nat} {acc : List S86} {first : Bool} {a : Nat} {e : Int}, clsL k s i acc first = some (.bad a e) → Flt e
  | 0, _, _, _, _, _, h => by simp [clsL] at h
  | k + 1, i, acc, first, a, e, h => by
    rcases clsL_head h with ⟨_, hB⟩ | ⟨_, c, _, _, hB⟩ | ⟨_, _, h⟩ | ⟨_, hp, h⟩
    rotate_left 2
    · injection h with h1 h2; exact .inr (.inl h2)
    · cases h
    all_goals
      rcases hB with ⟨a1, e1, hm, h⟩ | ⟨l, j, hm, hN⟩ | ⟨l, j, hm, hp2, h⟩ | ⟨l, j, c2, hm, hp2, h45, hN⟩ | ⟨l, j, a1, e1, hm, hp2, hu, h⟩ | ⟨l, j, hi2, j2, hm, hp2, hu, hN⟩
      · injection h with h1 h2; rw [h2]; exact mem_flt hm
      · exact cls_flt (RL := RL) hN
      · injection h with h1 h2; exact .inr (.inl h2)
      · exact cls_flt (RL := RL) hN
      · injection h with h1 h2; rw [h2]; exact up_flt hu
      · exact cls_flt (RL := RL) hN
theorem clsF_flt {s : ByteArray} {k i a : Nat} {e : Int} (h : clsF k s i = some (.bad a e)) : Flt e := by
  unfold clsF at h
  cases hp : peekF s i with
  | none => rw [hp] at h; have h := Option.some.inj h; injection h with h1 h2; exact .inr (.inl h2.symm)
  | some c =>
    rw [hp] at h
    dsimp only at h
    cases hL : clsL k s (if c = 94 then i + 1 else i) [] true with
    | none => rw [hL] at h; cases h
    | some RL =>
      rw [hL] at h
      cases RL with
      | bad a e => have h := Option.some.inj h; injection h with h1 h2; rw [← h2]; exact cls_flt (RL := .bad 0 0) hL
      | ok l j1 => cases h
theorem flt_ok {s : ByteArray} : ∀ k, (∀ {d i a e}, atF k s d i = some (.bad a e) → Flt e) ∧ (∀ {d i acc n a e}, brF k s d i acc n = some (.bad a e) → Flt e) ∧ (∀ {d i a e}, paF k s d i = some (.bad a e) → Flt e) ∧ (∀ {d i acc n a e}, altF k s d i acc n = some (.bad a e) → Flt e)
  | 0 => ⟨fun h => by simp [atF] at h, fun h => by simp [brF] at h, fun h => by simp [paF] at h, fun h => by simp [altF] at h⟩
  | k + 1 => by
    obtain ⟨ha, hb, hp, hl⟩ := flt_ok (s := s) k
    refine ⟨fun h => ?_, fun h => ?_, fun h => ?_, fun h => ?_⟩
    · rcases atF_head h with ⟨_, h⟩ | ⟨_, h⟩ | ⟨_, h⟩ | ⟨_, h⟩ | ⟨_, a, e, he, h⟩ | ⟨_, l, sg, j, he, h⟩ | ⟨c, _, _, _, _, _, _, h⟩ | ⟨c, _, _, _, _, _, _, _, h⟩
      · injection h with h1 h2; exact .inr (.inl h2)
      · rcases grF_head h with ⟨_, h⟩ | ⟨_, ⟨a, e, hq, h⟩ | ⟨p, m, j, hq, ⟨_, h⟩ | ⟨c, _, _, h⟩ | ⟨_, h⟩⟩⟩
        · injection h with h1 h2; exact .inr (.inr h2)
        · injection h with h1 h2; rw [h2]; exact hp hq
        · injection h with h1 h2; exact .inr (.inl h2)
        · injection h with h1 h2; exact .inr (.inl h2)
        · cases h
      · exact clsF_flt h
      · cases h
      · injection h with h1 h2; rw [h2]; exact esc_flt he
      · cases h
      · injection h with h1 h2; exact .inr (.inl h2)
      · cases h
    · rcases brF_head h with ⟨_, h⟩ | ⟨c, _, ⟨_, h⟩ | ⟨_, ⟨a, e, hq, h⟩ | ⟨p, m, j, _, _, h⟩ | ⟨p, m, j, c2, hq, _, _, h⟩ | ⟨p, m, j, c2, hq, _, _, h⟩⟩⟩
      · injection h with h1 h2; exact .inr (.inl h2)
      · cases h
      · injection h with h1 h2; rw [h2]; exact ha hq
      · injection h with h1 h2; exact .inr (.inl h2)
      · exact hb h
      · exact hb h
    · rcases paF_head h with ⟨a, e, hq, h⟩ | ⟨p, m, j, hq, h⟩
      · injection h with h1 h2; rw [h2]; exact hb hq
      · exact hl h
    · rcases altF_head h with ⟨_, h⟩ | ⟨c, _, _, h⟩ | ⟨_, a, e, hq, h⟩ | ⟨_, p, m, j, hq, h⟩
      · injection h with h1 h2; exact .inr (.inl h2)
      · cases h
      · injection h with h1 h2; rw [h2]; exact hb hq
      · exact hl h
theorem par_flt {s : ByteArray} {k a : Nat} {e : Int} (h : parF k s = some (.bad a e)) : Flt e := by
  rcases parF_head h with ⟨_, h⟩ | ⟨hs, ⟨a, e, hq, h⟩ | ⟨p1, m1, j1, hq, ⟨_, h⟩ | ⟨hj, h⟩⟩⟩
  · injection h with h1 h2; exact .inl h2
  · injection h with h1 h2; rw [h2]; exact (flt_ok k).2.2.1 hq
  · injection h with h1 h2; exact .inr (.inl h2)
  · cases h
end Go.Proofs.YtmfpikhmeacnbaaDoor.X
