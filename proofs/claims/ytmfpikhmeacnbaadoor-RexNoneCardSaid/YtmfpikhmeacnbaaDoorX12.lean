/- Patterns by hand: runes, has (mkX12.py). -/
import Derived.Test.YtmfpikhmeacnbaaDoorX11
namespace Go.Proofs.YtmfpikhmeacnbaaDoor.X
open Go.RowKit Go.Proofs.YtmfpikhmeacnbaaDoor.Q Go.Proofs.YtmfpikhmeacnbaaDoorW.PrintWords Go.Proofs.YtmfpikhmeacnbaaDoorW.PrintLast Go.Proofs.YtmfpikhmeacnbaaDoorW.PrintMore
set_option linter.unusedVariables false
set_option linter.unusedSimpArgs false
theorem wrap64_self {n : Int} (h0 : -9223372036854775808 ≤ n) (h1 : n < 9223372036854775808) : wrap64 n = n := by unfold wrap64; omega
theorem decode_size (s : ByteArray) (i : Nat) (h : i < s.size) : 1 ≤ (Utf8.decode s i).2 ∧ i + (Utf8.decode s i).2 ≤ s.size ∧ (Utf8.decode s i).1 ≤ 1114111 := by
  have h255 : ∀ k : Nat, (s.get! k).toNat < 256 := fun k => (s.get! k).toNat_lt
  have a0 := h255 (i + 0)
  have a1 := h255 (i + 1)
  have a2 := h255 (i + 2)
  have a3 := h255 (i + 3)
  obtain ⟨p, hp⟩ : ∃ p, Utf8.decode s i = p := ⟨_, rfl⟩
  rw [hp]
  unfold Utf8.decode at hp
  dsimp only at hp
  have hv : ∀ c : Nat, Utf8.valid (c : Int) = true → c ≤ 1114111 := fun c h => by
    unfold Utf8.valid at h
    simp only [Bool.or_eq_true, Bool.and_eq_true, decide_eq_true_eq] at h
    omega
  split at hp
  · subst hp; exact ⟨by dsimp only; omega, h, by dsimp only; omega⟩
  split at hp
  · rename_i hc
    simp only [Bool.and_eq_true, decide_eq_true_eq, beq_iff_eq] at hc
    split at hp
    · subst hp; exact ⟨by dsimp only; omega, by dsimp only; omega, by dsimp only; omega⟩
    · subst hp; exact ⟨by decide, h, by decide⟩
  split at hp
  · rename_i hc
    simp only [Bool.and_eq_true, decide_eq_true_eq, beq_iff_eq] at hc
    split at hp
    · rename_i hg
      simp only [Bool.and_eq_true, decide_eq_true_eq] at hg
      have hvv := hv _ hg.2
      subst hp; exact ⟨by dsimp only; omega, by dsimp only; omega, hvv⟩
    · subst hp; exact ⟨by decide, h, by decide⟩
  split at hp
  · rename_i hc
    simp only [Bool.and_eq_true, decide_eq_true_eq, beq_iff_eq] at hc
    split at hp
    · rename_i hg
      simp only [Bool.and_eq_true, decide_eq_true_eq] at hg
      have hvv := hv _ hg.2
      subst hp; exact ⟨by dsimp only; omega, by dsimp only; omega, hvv⟩
    · subst hp; exact ⟨by decide, h, by decide⟩
  · subst hp; exact ⟨by decide, h, by decide⟩
/-- The runes of a text, from a place on. -/
def runesK (s : ByteArray) : Nat → Nat → List Int
  | 0, _ => []
  | k + 1, pos => if pos < s.size then ((Utf8.decode s pos).1 : Int) :: runesK s k (pos + (Utf8.decode s pos).2) else []
def runesF (s : ByteArray) : List Int := runesK s (s.size + 1) 0
theorem runesK_len (s : ByteArray) : ∀ k pos, (runesK s k pos).length ≤ s.size - pos
  | 0, _ => by simp [runesK]
  | k + 1, pos => by
    rw [runesK]
    split
    · rename_i h
      have h1 := decode_size s pos h
      have h2 := runesK_len s k (pos + (Utf8.decode s pos).2)
      rw [List.length_cons]; omega
    · simp
theorem runesF_len (s : ByteArray) : (runesF s).length ≤ s.size := runesK_len s _ 0
theorem info21 : (Tryd.prog.info? 21).map (fun i => (i.zero, i.size, i.bytes)) = some (some (.int .i32 0), 1, 4) := by kernel_rfl
set_option maxHeartbeats 1000000 in
set_option maxRecDepth 100000 in
theorem runes_calls {s : ByteArray} (hs : s.size ≤ 1000000) (w : World) : Calls Tryd.prog 27 #[.string s] w fun x w' => ∃ v, x = .returned v ∧ (Kd.int .i32).R 21 w' w.heap.size (fun k => w.heap.size ≤ k) v (runesF s) ∧ Below w.heap.size w w' := by
  have HSZ := Aside0.mk hs
  obtain ⟨w1, hw1⟩ : ∃ w1, w1 = w.iter s 0 := ⟨_, rfl⟩
  have hrg : (Instr.range 9 (.string s)).run Tryd.prog w = .ok (.pointer (some ⟨w.heap.size, 0, none⟩)) w1 := by rw [hw1]; exact run_range_string w 9 s Tryd.underlying9
  have HI := Aside0.mk (show w1.heap[w.heap.size]? = some (.stringIter s 0) by rw [hw1]; exact World.iter_heap w s 0)
  have HB := Aside0.mk (show Below w.heap.size w w1 by rw [hw1]; exact below_alloc (Below.refl _ _) _)
  clear hw1
  obtain ⟨RL, hRL⟩ : ∃ RL, runesF s = RL := ⟨_, rfl⟩
  have HRL := Aside0.mk hRL
  rw [hRL]
  clear hRL hs
  go_enter Tryd.func27, Tryd.ntmps27
  go_wp2
  clear hrg
  try go_frame
  go_loopg [3] (s.size + 1) (fun kq v3 wr => ∃ (pos : Nat) (acc : List Int) (A : Option Addr) (cc : Nat), v3 = .slice A acc.length cc ∧ Aside0 (acc ++ runesK s kq pos = RL ∧ s.size + 1 ≤ kq + pos ∧ pos ≤ s.size ∧ acc.length ≤ pos) ∧ Aside0 ((Kd.int .i32).R 21 wr w.heap.size (fun k => w.heap.size < k) v3 acc) ∧ Aside0 (wr.heap[w.heap.size]? = some (.stringIter s pos)) ∧ Aside0 (Below w.heap.size w wr))
  case atStart => exact ⟨0, [], none, 0, rfl, ⟨by rw [← HRL.out]; rfl, by omega, by omega, by simp⟩, ⟨Kd.R_nil _ _ _ _ _⟩, HI, HB⟩
  case round =>
    clear HI HB
    obtain ⟨pos, acc, A, cc, rfl, HK, HR, HI, HB⟩ := hrel
    cases gk with
    | zero => have := HK.out; omega
    | succ k1 =>
    by_cases hp : pos < s.size
    · have hnx := next_str (P := Tryd.prog) HI.out hp 0
      have HN := Aside0.mk (iter_next (q := pos + (Utf8.decode s pos).2) (Nat.le_refl _) HI.out HB.out)
      have HD := Aside0.mk (decode_size s pos hp)
      have HR1 := Aside0.mk (Kd.R_step (w1 := Go.ChangeMaps.setBlock wr w.heap.size (.stringIter s (pos + (Utf8.decode s pos).2))) HR.out (fun k hk hl => (MapKept.heap_set (o' := .stringIter s (pos + (Utf8.decode s pos).2)) HI.out).2 k (by omega)))
      have HA := Aside0.mk (show acc ++ ((Utf8.decode s pos).1 : Int) :: runesK s k1 (pos + (Utf8.decode s pos).2) = RL by have h := HK.out.1; rw [runesK, if_pos hp] at h; exact h)
      generalize Go.ChangeMaps.setBlock wr w.heap.size (.stringIter s (pos + (Utf8.decode s pos).2)) = w2 at *
      generalize Utf8.decode s pos = D at *
      obtain ⟨x, n⟩ := D
      go_wp2_with (first
        | (at_next; refine wpList_next_str _ rfl (.tmp 7) rfl _ _ rfl _ hnx ?_)
        | ((with_reducible refine gate_builtin (b := .append) (xs := #[.tmp 11, .tmp 13]) rfl ?_); at_builtin; refine Kd.R_append (Kd.int .i32) (w0 := w2) w.heap.size rfl (.tmp 11) (.tmp 13) 63 21 (.int .i32 0) 4 rfl Tryd.underlying63 info21 rfl (by decide) (by omega) (.slice A acc.length cc) acc (x : Int) [.int .i32 x] (fun k => w.heap.size < k) (fun _ => False) rfl rfl ?aP (fun _ h => h.elim) ?aF ?aO ?aB ?aS ?aL ?_; (case aP => exact rfl); (case aF => exact (fun k hk => Nat.lt_of_lt_of_le (blk_lt HN.out.1) hk)); (case aO => exact HR1.out); (case aB => exact Below.refl _ _); (case aS => exact HN.out.2.size); (case aL => have h1 := HK.out; have h2 := HSZ.out; omega); intro v5 w5 ho hb5 hg5 hat5; obtain ⟨A5, c5, rfl⟩ := Kd.R_slice ho; have HO := Aside0.mk ho; have HI5 := Aside0.mk ((hg5.block _ (blk_lt HN.out.1) (fun e => by have h1 := HR1.out.1 _ e.symm; omega)).trans HN.out.1); have HB5 := Aside0.mk (HN.out.2.trans hb5); clear ho hb5 hg5 hat5))
      go_roundg k1
      case measure => omega
      case rel => exact ⟨pos + n, acc ++ [(x : Int)], A5, c5, by rw [List.length_append]; rfl, ⟨by rw [List.append_assoc]; exact HA.out, by have h1 := HK.out; have h2 := HD.out; omega, HD.out.2.1, by rw [List.length_append]; have h1 := HK.out; have h2 := HD.out; simp only [List.length_singleton]; omega⟩, ⟨by rw [show acc.length + 1 = (acc ++ [(x : Int)]).length from by rw [List.length_append]; rfl]; exact HO.out⟩, HI5, HB5⟩
    · have hnx := next_str_end (P := Tryd.prog) HI.out hp 0
      have HA := Aside0.mk (show acc = RL by have h := HK.out.1; rw [runesK, if_neg hp, List.append_nil] at h; exact h)
      go_wp2_with (at_next; refine wpList_next_str _ rfl (.tmp 7) rfl _ _ rfl _ hnx ?_)
      go_ret
      exact ⟨_, rfl, by rw [← HA.out]; exact Kd.R_mono HR.out (fun k hk => Nat.le_of_lt hk), HB.out⟩
theorem R_max {α : Type} {d : Kd α} {e base : Nat} {w : World} {ok : Nat → Prop} {v : Value} {xs : List α} (h : d.R e w base ok v xs) : xs.length ≤ maxLen := by
  obtain ⟨_, inner, ho, _⟩ := h
  rcases ho.2 with ⟨rfl, hn⟩ | ⟨g, cap, cur, rfl, h1, h2, h3, h4, h5⟩
  · omega
  · omega
/-- Whether a part of one rune has a rune. -/
def hasF (l : List S86) (but : Bool) (c : Int) : Bool := (l.any fun x => decide (c ≥ x.f0) && decide (c ≤ x.f1)) != but
theorem size86 : (Tryd.prog.info? 86).map (·.size) = some 2 := by kernel_rfl
set_option maxHeartbeats 1000000 in
set_option maxRecDepth 100000 in
theorem has_calls {w : World} {B q : Nat} {ok : Nat → Prop} {p : Pt} {cs : List Nat} (h : Nd w B ok q p cs) (c : Int) : Calls Tryd.prog 41 #[.pointer (some ⟨q, 0, none⟩), .int .i32 c] w fun x w' => x = .returned (.bool (hasF p.set p.but c)) ∧ Below w.heap.size w w' := by
  obtain ⟨hok, hBq, vs, vp, hq, hs, hp⟩ := h
  have HQ := Aside0.mk hq
  have HS := Aside0.mk hs
  obtain ⟨A, cc, rfl⟩ := Kd.R_slice hs
  generalize hl : p.set = l at *
  generalize hbut : p.but = but at *
  obtain ⟨r, hr⟩ : ∃ r, (l.any fun x => decide (c ≥ x.f0) && decide (c ≤ x.f1)) = r := ⟨_, rfl⟩
  unfold hasF
  rw [hr]
  have HRR := Aside0.mk hr
  have HLN := Aside0.mk (R_max hs)
  clear hp hs hr hl hbut hok hBq
  obtain ⟨x0, x1, x2, x3, x4, x5⟩ := nd_cell hq
  clear hq
  go_enter Tryd.func41, Tryd.ntmps41
  go_wp2_with (fail)
  try go_frame
  clear x0 x1 x2 x3 x4 x5
  go_loopg [5, 13] (l.length + 1) (fun kq v5 v13 wr => ∃ (i : Nat) (acc : Bool), v5 = .bool acc ∧ v13 = .int .i64 i ∧ Aside0 (kq + i = l.length + 1 ∧ i ≤ l.length) ∧ Aside0 ((acc || (l.drop i).any fun x => decide (c ≥ x.f0) && decide (c ≤ x.f1)) = r) ∧ Aside0 (Below w.heap.size w wr))
  case atStart => exact ⟨0, false, rfl, rfl, ⟨by omega, by omega⟩, ⟨by rw [List.drop_zero, Bool.false_or]; exact HRR.out⟩, ⟨Below.refl _ _⟩⟩
  case round =>
    obtain ⟨i, acc, rfl, rfl, HK, HA, HB⟩ := hrel
    cases gk with
    | zero => have := HK.out; omega
    | succ k1 =>
    by_cases hi : i < l.length
    · have hi' : (i : Int) < (l.length : Int) := by omega
      have HI := Aside0.mk hi
      obtain ⟨g, cap, hv, _⟩ := Kd.R_form HS.out (by omega)
      injection hv with hA hn hc
      subst hA hc
      have HSR := Aside0.mk (Kd.R_below HS.out HB.out)
      obtain ⟨ce, hl2, hM, hcell, _⟩ := Kd.R_elem HSR.out z86 (i : Int) (by omega) (by omega)
      rw [Int.toNat_natCast] at hM hcell
      have hk := k86_openM hM
      subst hk
      have hrange : wr.rangeAt g (i * 2) [.int .i32 (l.getD i z86).f0, .int .i32 (l.getD i z86).f1] := fun j v hv => hcell j v hv
      have HRG := Aside0.mk hrange
      have HDA := Aside0.mk (show (acc || (decide (c ≥ (l.getD i z86).f0) && decide (c ≤ (l.getD i z86).f1)) || (l.drop (i + 1)).any fun x => decide (c ≥ x.f0) && decide (c ≤ x.f1)) = r by
        have h := HA.out
        rw [List.drop_eq_getElem_cons hi, List.any_cons] at h
        rw [List.getD_eq_getElem?_getD, List.getElem?_eq_getElem hi, Option.getD_some, Bool.or_assoc]
        exact h)
      clear hcell hM hl2 hrange hn hi
      generalize l.getD i z86 = y at *
      generalize l.length = nn at *
      have hcs : (acc = true) ∨ (acc = false ∧ c < y.f0) ∨ (acc = false ∧ ¬ c < y.f0) := by
        cases acc
        · exact (Classical.em (c < y.f0)).elim (fun h => .inr (.inl ⟨rfl, h⟩)) (fun h => .inr (.inr ⟨rfl, h⟩))
        · exact .inl rfl
      rcases hcs with rfl | ⟨rfl, h0⟩ | ⟨rfl, h0⟩
      · go_wp2_with (first
          | ((with_reducible refine gate_ (.load 86 (.tmp 15)) rfl ?_); refine wpList_load_mid rfl 86 (.tmp 15) rfl g (i * 2) rfl [.int .i32 y.f0, .int .i32 y.f1] _ HRG.out Tryd.underlying86 rfl size86 ?_)
          | ((with_reducible refine gate_dst (N := 7) rfl ?_); refine box_event ?hg (N := 7) ?hd (cs := #[.int .i32 0, .int .i32 0]) (t := 86) ?hr ?_; (case hd => rfl); (case hg => rfl); (case hr => first | (go_simp; done) | (go_simp; rfl)); intro F hF w1 hx1 hb1; have HF := Aside0.mk hF; have HB1 := Aside0.mk (HB.out.trans (hb1.mono HB.out.size)); have HFL := Aside0.mk (show w.heap.size ≤ F by rw [hF]; exact HB.out.size); have HF1 := Aside0.mk hx1; clear hF hb1 hx1)
          | ((with_reducible refine gate_ (.store 86 (.tmp 7) (.tmp 16)) rfl ?_); refine store_blk rfl 86 (.tmp 7) (.tmp 16) rfl F [.int .i32 0, .int .i32 0] [.int .i32 y.f0, .int .i32 y.f1] rfl rfl HF1.out rfl size86 (by intro v hv; simp only [List.mem_cons, List.not_mem_nil, or_false] at hv; rcases hv with rfl | rfl <;> rfl) ?_; intro w2 ha hka hba; have HB2 := Aside0.mk (hba w HFL.out HB1.out); have y0 : w2.cell? ⟨F, 0, none⟩ = some (.int .i32 y.f0) := (blk_cell ha 0).trans rfl; have y1 : w2.cell? ⟨F, 1, none⟩ = some (.int .i32 y.f1) := (blk_cell ha 1).trans rfl; clear ha hka hba))
        go_roundg k1
        case measure => omega
        case rel => exact ⟨i + 1, true, rfl, by first | rfl | (simp; done) | (rw [wrap64_self (n := (i : Int) + 1) (by omega) (by have h1 := HLN.out; have h2 := HI.out; unfold maxLen at h1; omega)]; first | rfl | (simp; done)), ⟨by have := HK.out; omega, by have := HI.out; omega⟩, ⟨by have h := HDA.out; rw [Bool.true_or] at h ⊢; simpa using h⟩, HB2⟩
      · have h0' : ¬ c ≥ y.f0 := by omega
        have HDF := Aside0.mk (show decide (c ≥ y.f0) = false from decide_eq_false h0')
        go_wp2_with (first
          | ((with_reducible refine gate_ (.load 86 (.tmp 15)) rfl ?_); refine wpList_load_mid rfl 86 (.tmp 15) rfl g (i * 2) rfl [.int .i32 y.f0, .int .i32 y.f1] _ HRG.out Tryd.underlying86 rfl size86 ?_)
          | ((with_reducible refine gate_dst (N := 7) rfl ?_); refine box_event ?hg (N := 7) ?hd (cs := #[.int .i32 0, .int .i32 0]) (t := 86) ?hr ?_; (case hd => rfl); (case hg => rfl); (case hr => first | (go_simp; done) | (go_simp; rfl)); intro F hF w1 hx1 hb1; have HF := Aside0.mk hF; have HB1 := Aside0.mk (HB.out.trans (hb1.mono HB.out.size)); have HFL := Aside0.mk (show w.heap.size ≤ F by rw [hF]; exact HB.out.size); have HF1 := Aside0.mk hx1; clear hF hb1 hx1)
          | ((with_reducible refine gate_ (.store 86 (.tmp 7) (.tmp 16)) rfl ?_); refine store_blk rfl 86 (.tmp 7) (.tmp 16) rfl F [.int .i32 0, .int .i32 0] [.int .i32 y.f0, .int .i32 y.f1] rfl rfl HF1.out rfl size86 (by intro v hv; simp only [List.mem_cons, List.not_mem_nil, or_false] at hv; rcases hv with rfl | rfl <;> rfl) ?_; intro w2 ha hka hba; have HB2 := Aside0.mk (hba w HFL.out HB1.out); have y0 : w2.cell? ⟨F, 0, none⟩ = some (.int .i32 y.f0) := (blk_cell ha 0).trans rfl; have y1 : w2.cell? ⟨F, 1, none⟩ = some (.int .i32 y.f1) := (blk_cell ha 1).trans rfl; clear ha hka hba))
        go_roundg k1
        case measure => omega
        case rel => exact ⟨i + 1, false, rfl, by first | rfl | (simp; done) | (rw [wrap64_self (n := (i : Int) + 1) (by omega) (by have h1 := HLN.out; have h2 := HI.out; unfold maxLen at h1; omega)]; first | rfl | (simp; done)), ⟨by have := HK.out; omega, by have := HI.out; omega⟩, ⟨by have h := HDA.out; rw [HDF.out] at h; simpa using h⟩, HB2⟩
      · have h0' : c ≥ y.f0 := by omega
        have HDF := Aside0.mk (show decide (c ≥ y.f0) = true from decide_eq_true h0')
        go_wp2_with (first
          | ((with_reducible refine gate_ (.load 86 (.tmp 15)) rfl ?_); refine wpList_load_mid rfl 86 (.tmp 15) rfl g (i * 2) rfl [.int .i32 y.f0, .int .i32 y.f1] _ HRG.out Tryd.underlying86 rfl size86 ?_)
          | ((with_reducible refine gate_dst (N := 7) rfl ?_); refine box_event ?hg (N := 7) ?hd (cs := #[.int .i32 0, .int .i32 0]) (t := 86) ?hr ?_; (case hd => rfl); (case hg => rfl); (case hr => first | (go_simp; done) | (go_simp; rfl)); intro F hF w1 hx1 hb1; have HF := Aside0.mk hF; have HB1 := Aside0.mk (HB.out.trans (hb1.mono HB.out.size)); have HFL := Aside0.mk (show w.heap.size ≤ F by rw [hF]; exact HB.out.size); have HF1 := Aside0.mk hx1; clear hF hb1 hx1)
          | ((with_reducible refine gate_ (.store 86 (.tmp 7) (.tmp 16)) rfl ?_); refine store_blk rfl 86 (.tmp 7) (.tmp 16) rfl F [.int .i32 0, .int .i32 0] [.int .i32 y.f0, .int .i32 y.f1] rfl rfl HF1.out rfl size86 (by intro v hv; simp only [List.mem_cons, List.not_mem_nil, or_false] at hv; rcases hv with rfl | rfl <;> rfl) ?_; intro w2 ha hka hba; have HB2 := Aside0.mk (hba w HFL.out HB1.out); have y0 : w2.cell? ⟨F, 0, none⟩ = some (.int .i32 y.f0) := (blk_cell ha 0).trans rfl; have y1 : w2.cell? ⟨F, 1, none⟩ = some (.int .i32 y.f1) := (blk_cell ha 1).trans rfl; clear ha hka hba))
        go_roundg k1
        case measure => omega
        case rel => exact ⟨i + 1, decide (c ≤ y.f1), rfl, by first | rfl | (simp; done) | (rw [wrap64_self (n := (i : Int) + 1) (by omega) (by have h1 := HLN.out; have h2 := HI.out; unfold maxLen at h1; omega)]; first | rfl | (simp; done)), ⟨by have := HK.out; omega, by have := HI.out; omega⟩, ⟨by have h := HDA.out; rw [HDF.out] at h; simpa using h⟩, HB2⟩
    · have hi' : ¬ (i : Int) < (l.length : Int) := by omega
      have HE := Aside0.mk (show acc = r by have h := HA.out; rw [List.drop_eq_nil_of_le (by omega)] at h; simpa using h)
      have x2 := (nd_cell ((HB.out.block q (blk_lt HQ.out)).trans HQ.out)).2.2.1
      clear hi
      go_wp2_with (fail)
      go_ret
      exact ⟨by rw [HE.out]; cases r <;> cases but <;> rfl, HB.out⟩
end Go.Proofs.YtmfpikhmeacnbaaDoor.X
