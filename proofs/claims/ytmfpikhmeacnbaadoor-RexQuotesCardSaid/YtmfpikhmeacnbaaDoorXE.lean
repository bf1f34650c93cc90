import Derived.Test.YtmfpikhmeacnbaaDoorXD
/- Patterns by hand: runes, has (mkX12.py). -/
namespace Go.Proofs.YtmfpikhmeacnbaaDoor.X
open Go.RowKit Go.Proofs.YtmfpikhmeacnbaaDoor.Q Go.Proofs.YtmfpikhmeacnbaaDoorW.PrintWords Go.Proofs.YtmfpikhmeacnbaaDoorW.PrintLast Go.Proofs.YtmfpikhmeacnbaaDoorW.PrintMore
set_option linter.unusedVariables false
set_option linter.unusedSimpArgs false
theorem wrap64_self {n : Int} (h0 : -9223372036854775808 ≤ n) (h1 : n < 9223372036854775808) : wrap64 n = n := by unfold wrap64; omega
theorem decode_size (s : ByteArray) (i : Nat) (h : i < s.size) : 1 ≤ (Utf8.decode s i).2 ∧ i + (Utf8.decode s i).2 ≤ s.size ∧ (Utf8.decode s i).1 ≤ 1114111 := by
  have h255 : ∀ k : Nat, (s.get! k).toNat < 256 := fun k => (s.get! k).toNat_lt
  have a0 := h255 (i + 0)
  have a1 := h255 (i + 1)
  have a2 := h255 (i + 2)
  have a3 := h255 (i + 3)
  obtain ⟨p, hp⟩ : ∃ p, Utf8.decode s i = p := ⟨_, rfl⟩
  rw [hp]
  unfold Utf8.decode at hp
  dsimp only at hp
  have hv : ∀ c : Nat, Utf8.valid (c : Int) = true → c ≤ 1114111 := fun c h => by
    unfold Utf8.valid at h
    simp only [Bool.or_eq_true, Bool.and_eq_true, decide_eq_true_eq] at h
    omega
  split at hp
  · subst hp; exact ⟨by dsimp only; omega, h, by dsimp only; omega⟩
  split at hp
  · rename_i hc
    simp only [Bool.and_eq_true, decide_eq_true_eq, beq_iff_eq] at hc
    split at hp
    · subst hp; exact ⟨by dsimp only; omega, by dsimp only; omega, by dsimp only; omega⟩
    · subst hp; exact ⟨by decide, h, by decide⟩
  split at hp
  · rename_i hc
    simp only [Bool.and_eq_true, decide_eq_true_eq, beq_iff_eq] at hc
    split at hp
    · rename_i hg
      simp only [Bool.and_eq_true, decide_eq_true_eq] at hg
      have hvv := hv _ hg.2
      subst hp; exact ⟨by dsimp only; omega, by dsimp only; omega, hvv⟩
    · subst hp; exact ⟨by decide, h, by decide⟩
  split at hp
  · rename_i hc
    simp only [Bool.and_eq_true, decide_eq_true_eq, beq_iff_eq] at hc
    split at hp
    · rename_i hg
      simp only [Bool.and_eq_true, decide_eq_true_eq] at hg
      have hvv := hv _ hg.2
      subst hp; exact ⟨by dsimp only; omega, by dsimp only; omega, hvv⟩
    · subst hp; exact ⟨by decide, h, by decide⟩
  · subst hp; exact ⟨by decide, h, by decide⟩
/-- The runes of a text, from a place on. -/
def runesK (s : ByteArray) : Nat → Nat → List Int
  | 0, _ => []
  | k + 1, pos => if pos < s.size then ((Utf8.decode s pos).1 : Int) :: runesK s k (pos + (Utf8.decode s pos).2) else []
def runesF (s : ByteArray) : List Int := runesK s (s.size + 1) 0
theorem runesK_len (s : ByteArray) : ∀ k pos, (runesK s k pos).length ≤ s.size - pos
  | 0, _ => by simp [runesK]
  | k + 1, pos => by
    rw [runesK]
    split
    · rename_i h
      have h1 := decode_size s pos h
      have h2 := runesK_len s k (pos + (Utf8.decode s pos).2)
      rw [List.length_cons]; omega
    · simp
theorem runesF_len (s : ByteArray) : (runesF s).length ≤ s.size := runesK_len s _ 0
theorem info21 : (Tryd.prog.info? 21).map (fun i => (i.zero, i.size, i.bytes)) = some (some (.int .i32 0), 1, 4) := by kernel_rfl
set_option maxHeartbeats 1000000 in
set_option maxRecDepth 100000 in
theorem runes_calls {s : ByteArray} (hs : s.size ≤ 1000000) (w : World) : Calls Tryd.prog 27 #[.string s] w fun x w' => ∃ v, x = .returned v ∧ (Kd.int .i32).R 21 w' w.heap.size (fun k => w.heap.size ≤ k) v (runesF s) ∧ Below w.heap.size w w' := by
  have HSZ := Aside0.mk hs
  obtain ⟨w1, hw1⟩ : ∃ w1, w1 = w.iter s 0 := ⟨_, rfl⟩
  have hrg : (Instr.range 9 (.string s)).run Tryd.prog w = .ok (.pointer (some ⟨w.heap.size, 0, none⟩)) w1 := by rw [hw1]; exact run_range_string w 9 s Tryd.underlying9
  have HI := Aside0.mk (show w1.heap[w.heap.size]? = some (.stringIter s 0) by rw [hw1]; exact World.iter_heap w s 0)
  have HB := Aside0.mk (show Below w.heap.size w w1 by rw [hw1]; exact below_alloc (Below.refl _ _) _)
  clear hw1
  obtain ⟨RL, hRL⟩ : ∃ RL, runesF s = RL := ⟨_, rfl⟩
  have HRL := Aside0.mk hRL
  rw [hRL]
  clear hRL hs
  go_enter Tryd.func27, Tryd.ntmps27
  go_wp2
  clear hrg
  try go_frame
  go_loopg [3] (s.size + 1) (fun kq v3 wr => ∃ (pos : Nat) (acc : List Int) (A : Option Addr) (cc : Nat), v3 = .slice A acc.length cc ∧ Aside0 (acc ++ runesK s kq pos = RL ∧ s.size + 1 ≤ kq + pos ∧ pos ≤ s.size ∧ acc.length ≤ pos) ∧ Aside0 ((Kd.int .i32).R 21 wr w.heap.size (fun k => w.heap.size < k) v3 acc) ∧ Aside0 (wr.heap[w.heap.size]? = some (.stringIter s pos)) ∧ Aside0 (Below w.heap.size w wr))
  case atStart => exact ⟨0, [], none, 0, rfl, ⟨by rw [← HRL.out]; rfl, by omega, by omega, by simp⟩, ⟨Kd.R_nil _ _ _ _ _⟩, HI, HB⟩
  case round =>
    clear HI HB
    obtain ⟨pos, acc, A, cc, rfl, HK, HR, HI, HB⟩ := hrel
    cases gk with
    | zero => have := HK.out; omega
    | succ k1 =>
    by_cases hp : pos < s.size
    · have hnx := next_str (P := Tryd.prog) HI.out hp 0
      have HN := Aside0.mk (iter_next (q := pos + (Utf8.decode s pos).2) (Nat.le_refl _) HI.out HB.out)
      have HD := Aside0.mk (decode_size s pos hp)
      have HR1 := Aside0.mk (Kd.R_step (w1 := Go.ChangeMaps.setBlock wr w.heap.size (.stringIter s (pos + (Utf8.decode s pos).2))) HR.out (fun k hk hl => (MapKept.heap_set (o' := .stringIter s (pos + (Utf8.decode s pos).2)) HI.out).2 k (by omega)))
      have HA := Aside0.mk (show acc ++ ((Utf8.decode s pos).1 : Int) :: runesK s k1 (pos + (Utf8.decode s pos).2) = RL by have h := HK.out.1; rw [runesK, if_pos hp] at h; exact h)
      generalize Go.ChangeMaps.setBlock wr w.heap.size (.stringIter s (pos + (Utf8.decode s pos).2)) = w2 at *
      generalize Utf8.decode s pos = D at *
      obtain ⟨x, n⟩ := D
      go_wp2_with (first
        | (at_next; refine wpList_next_str _ rfl (.tmp 7) rfl _ _ rfl _ hnx ?_)
        | ((with_reducible refine gate_builtin (b := .append) (xs := #[.tmp 11, .tmp 13]) rfl ?_); at_builtin; refine Kd.R_append (Kd.int .i32) (w0 := w2) w.heap.size rfl (.tmp 11) (.tmp 13) 63 21 (.int .i32 0) 4 rfl Tryd.underlying63 info21 rfl (by decide) (by omega) (.slice A acc.length cc) acc (x : Int) [.int .i32 x] (fun k => w.heap.size < k) (fun _ => False) rfl rfl ?aP (fun _ h => h.elim) ?aF ?aO ?aB ?aS ?aL ?_; (case aP => exact rfl); (case aF => exact (fun k hk => Nat.lt_of_lt_of_le (blk_lt HN.out.1) hk)); (case aO => exact HR1.out); (case aB => exact Below.refl _ _); (case aS => exact HN.out.2.size); (case aL => have h1 := HK.out; have h2 := HSZ.out; omega); intro v5 w5 ho hb5 hg5 hat5; obtain ⟨A5, c5, rfl⟩ := Kd.R_slice ho; have HO := Aside0.mk ho; have HI5 := Aside0.mk ((hg5.block _ (blk_lt HN.out.1) (fun e => by have h1 := HR1.out.1 _ e.symm; omega)).trans HN.out.1); have HB5 := Aside0.mk (HN.out.2.trans hb5); clear ho hb5 hg5 hat5))
      go_roundg k1
      case measure => omega
      case rel => exact ⟨pos + n, acc ++ [(x : Int)], A5, c5, by rw [List.length_append]; rfl, ⟨by rw [List.append_assoc]; exact HA.out, by have h1 := HK.out; have h2 := HD.out; omega, HD.out.2.1, by rw [List.length_append]; have h1 := HK.out; have h2 := HD.out; simp only [List.length_singleton]; omega⟩, ⟨by rw [show acc.length + 1 = (acc ++ [(x : Int)]).length from by rw [List.length_append]; rfl]; exact HO.out⟩, HI5, HB5⟩
    · have hnx := next_str_end (P := Tryd.prog) HI.out hp 0
      have HA := Aside0.mk (show acc = RL by have h := HK.out.1; rw [runesK, if_neg hp, List.append_nil] at h; exact h)
      go_wp2_with (at_next; refine wpList_next_str _ rfl (.tmp 7) rfl _ _ rfl _ hnx ?_)
      go_ret
      exact ⟨_, rfl, by rw [← HA.out]; exact Kd.R_mono HR.out (fun k hk => Nat.le_of_lt hk), HB.out⟩
theorem R_max {α : Type} {d : Kd α} {e base : Nat} {w : World} {ok : Nat → Prop} {v : Value} {xs : List α} (h : d.R e w base ok v xs) : xs.length ≤ maxLen := by
  obtain ⟨_, inner, ho, _⟩ := h
  rcases ho.2 with ⟨rfl, hn⟩ | ⟨g, cap, cur, rfl, h1, h2, h3, h4, h5⟩
  · omega
  · omega
/-- Whether a part of one rune has a rune. -/
def hasF (l : List S86) (but : Bool) (c : Int) : Bool := (l.any fun x => decide (c ≥ x.f0) && decide (c ≤ x.f1)) != but
theorem size86 : (Tryd.prog.info? 86).map (·.size) = some 2 := by kernel_rfl
set_option maxHeartbeats 1000000 in
set_option maxRecDepth 100000 in
theorem has_calls {w : World} {B q : Nat} {ok : Nat → Prop} {p : Pt} {cs : List Nat} (h : Nd w B ok q p cs) (c : Int) : Calls Tryd.prog 41 #[.pointer (some ⟨q, 0, none⟩), .int .i32 c] w fun x w' => x = .returned (.bool (hasF p.set p.but c)) ∧ Below w.heap.size w w' := by
  obtain ⟨hok, hBq, vs, vp, hq, hs, hp⟩ := h
  have HQ := Aside0.mk hq
  have HS := Aside0.mk hs
  obtain ⟨A, cc, rfl⟩ := Kd.R_slice hs
  generalize hl : p.set = l at *
  generalize hbut : p.but = but at *
  obtain ⟨r, hr⟩ : ∃ r, (l.any fun x => decide (c ≥ x.f0) && decide (c ≤ x.f1)) = r := ⟨_, rfl⟩
  unfold hasF
  rw [hr]
  have HRR := Aside0.mk hr
  have HLN := Aside0.mk (R_max hs)
  clear hp hs hr hl hbut hok hBq
  obtain ⟨x0, x1, x2, x3, x4, x5⟩ := nd_cell hq
  clear hq
  go_enter Tryd.func41, Tryd.ntmps41
  go_wp2_with (fail)
  try go_frame
  clear x0 x1 x2 x3 x4 x5
  go_loopg [5, 13] (l.length + 1) (fun kq v5 v13 wr => ∃ (i : Nat) (acc : Bool), v5 = .bool acc ∧ v13 = .int .i64 i ∧ Aside0 (kq + i = l.length + 1 ∧ i ≤ l.length) ∧ Aside0 ((acc || (l.drop i).any fun x => decide (c ≥ x.f0) && decide (c ≤ x.f1)) = r) ∧ Aside0 (Below w.heap.size w wr))
  case atStart => exact ⟨0, false, rfl, rfl, ⟨by omega, by omega⟩, ⟨by rw [List.drop_zero, Bool.false_or]; exact HRR.out⟩, ⟨Below.refl _ _⟩⟩
  case round =>
    obtain ⟨i, acc, rfl, rfl, HK, HA, HB⟩ := hrel
    cases gk with
    | zero => have := HK.out; omega
    | succ k1 =>
    by_cases hi : i < l.length
    · have hi' : (i : Int) < (l.length : Int) := by omega
      have HI := Aside0.mk hi
      obtain ⟨g, cap, hv, _⟩ := Kd.R_form HS.out (by omega)
      injection hv with hA hn hc
      subst hA hc
      have HSR := Aside0.mk (Kd.R_below HS.out HB.out)
      obtain ⟨ce, hl2, hM, hcell, _⟩ := Kd.R_elem HSR.out z86 (i : Int) (by omega) (by omega)
      rw [Int.toNat_natCast] at hM hcell
      have hk := k86_openM hM
      subst hk
      have hrange : wr.rangeAt g (i * 2) [.int .i32 (l.getD i z86).f0, .int .i32 (l.getD i z86).f1] := fun j v hv => hcell j v hv
      have HRG := Aside0.mk hrange
      have HDA := Aside0.mk (show (acc || (decide (c ≥ (l.getD i z86).f0) && decide (c ≤ (l.getD i z86).f1)) || (l.drop (i + 1)).any fun x => decide (c ≥ x.f0) && decide (c ≤ x.f1)) = r by
        have h := HA.out
        rw [List.drop_eq_getElem_cons hi, List.any_cons] at h
        rw [List.getD_eq_getElem?_getD, List.getElem?_eq_getElem hi, Option.getD_some, Bool.or_assoc]
        exact h)
      clear hcell hM hl2 hrange hn hi
      generalize l.getD i z86 = y at *
      generalize l.length = nn at *
      have hcs : (acc = true) ∨ (acc = false ∧ c < y.f0) ∨ (acc = false ∧ ¬ c < y.f0) := by
        cases acc
        · exact (Classical.em (c < y.f0)).elim (fun h => .inr (.inl ⟨rfl, h⟩)) (fun h => .inr (.inr ⟨rfl, h⟩))
        · exact .inl rfl
      rcases hcs with rfl | ⟨rfl, h0⟩ | ⟨rfl, h0⟩
      · go_wp2_with (first
          | ((with_reducible refine gate_ (.load 86 (.tmp 15)) rfl ?_); refine wpList_load_mid rfl 86 (.tmp 15) rfl g (i * 2) rfl [.int .i32 y.f0, .int .i32 y.f1] _ HRG.out Tryd.underlying86 rfl size86 ?_)
          | ((with_reducible refine gate_dst (N := 7) rfl ?_); refine box_event ?hg (N := 7) ?hd (cs := #[.int .i32 0, .int .i32 0]) (t := 86) ?hr ?_; (case hd => rfl); (case hg => rfl); (case hr => first | (go_simp; done) | (go_simp; rfl)); intro F hF w1 hx1 hb1; have HF := Aside0.mk hF; have HB1 := Aside0.mk (HB.out.trans (hb1.mono HB.out.size)); have HFL := Aside0.mk (show w.heap.size ≤ F by rw [hF]; exact HB.out.size); have HF1 := Aside0.mk hx1; clear hF hb1 hx1)
          | ((with_reducible refine gate_ (.store 86 (.tmp 7) (.tmp 16)) rfl ?_); refine store_blk rfl 86 (.tmp 7) (.tmp 16) rfl F [.int .i32 0, .int .i32 0] [.int .i32 y.f0, .int .i32 y.f1] rfl rfl HF1.out rfl size86 (by intro v hv; simp only [List.mem_cons, List.not_mem_nil, or_false] at hv; rcases hv with rfl | rfl <;> rfl) ?_; intro w2 ha hka hba; have HB2 := Aside0.mk (hba w HFL.out HB1.out); have y0 : w2.cell? ⟨F, 0, none⟩ = some (.int .i32 y.f0) := (blk_cell ha 0).trans rfl; have y1 : w2.cell? ⟨F, 1, none⟩ = some (.int .i32 y.f1) := (blk_cell ha 1).trans rfl; clear ha hka hba))
        go_roundg k1
        case measure => omega
        case rel => exact ⟨i + 1, true, rfl, by first | rfl | (simp; done) | (rw [wrap64_self (n := (i : Int) + 1) (by omega) (by have h1 := HLN.out; have h2 := HI.out; unfold maxLen at h1; omega)]; first | rfl | (simp; done)), ⟨by have := HK.out; omega, by have := HI.out; omega⟩, ⟨by have h := HDA.out; rw [Bool.true_or] at h ⊢; simpa using h⟩, HB2⟩
      · have h0' : ¬ c ≥ y.f0 := by omega
        have HDF := Aside0.mk (show decide (c ≥ y.f0) = false from decide_eq_false h0')
        go_wp2_with (first
          | ((with_reducible refine gate_ (.load 86 (.tmp 15)) rfl ?_); refine wpList_load_mid rfl 86 (.tmp 15) rfl g (i * 2) rfl [.int .i32 y.f0, .int .i32 y.f1] _ HRG.out Tryd.underlying86 rfl size86 ?_)
          | ((with_reducible refine gate_dst (N := 7) rfl ?_); refine box_event ?hg (N := 7) ?hd (cs := #[.int .i32 0, .int .i32 0]) (t := 86) ?hr ?_; (case hd => rfl); (case hg => rfl); (case hr => first | (go_simp; done) | (go_simp; rfl)); intro F hF w1 hx1 hb1; have HF := Aside0.mk hF; have HB1 := Aside0.mk (HB.out.trans (hb1.mono HB.out.size)); have HFL := Aside0.mk (show w.heap.size ≤ F by rw [hF]; exact HB.out.size); have HF1 := Aside0.mk hx1; clear hF hb1 hx1)
          | ((with_reducible refine gate_ (.store 86 (.tmp 7) (.tmp 16)) rfl ?_); refine store_blk rfl 86 (.tmp 7) (.tmp 16) rfl F [.int .i32 0, .int .i32 0] [.int .i32 y.f0, .int .i32 y.f1] rfl rfl HF1.out rfl size86 (by intro v hv; simp only [List.mem_cons, List.not_mem_nil, or_false] at hv; rcases hv with rfl | rfl <;> rfl) ?_; intro w2 ha hka hba; have HB2 := Aside0.mk (hba w HFL.out HB1.out); have y0 : w2.cell? ⟨F, 0, none⟩ = some (.int .i32 y.f0) := (blk_cell ha 0).trans rfl; have y1 : w2.cell? ⟨F, 1, none⟩ = some (.int .i32 y.f1) := (blk_cell ha 1).trans rfl; clear ha hka hba))
        go_roundg k1
        case measure => omega
        case rel => exact ⟨i + 1, false, rfl, by first | rfl | (simp; done) | (rw [wrap64_self (n := (i : Int) + 1) (by omega) (by have h1 := HLN.out; have h2 := HI.out; unfold maxLen at h1; omega)]; first | rfl | (simp; done)), ⟨by have := HK.out; omega, by have := HI.out; omega⟩, ⟨by have h := HDA.out; rw [HDF.out] at h; simpa using h⟩, HB2⟩
      · have h0' : c ≥ y.f0 := by omega
        have HDF := Aside0.mk (show decide (c ≥ y.f0) = true from decide_eq_true h0')
        go_wp2_with (first
          | ((with_reducible refine gate_ (.load 86 (.tmp 15)) rfl ?_); refine wpList_load_mid rfl 86 (.tmp 15) rfl g (i * 2) rfl [.int .i32 y.f0, .int .i32 y.f1] _ HRG.out Tryd.underlying86 rfl size86 ?_)
          | ((with_reducible refine gate_dst (N := 7) rfl ?_); refine box_event ?hg (N := 7) ?hd (cs := #[.int .i32 0, .int .i32 0]) (t := 86) ?hr ?_; (case hd => rfl); (case hg => rfl); (case hr => first | (go_simp; done) | (go_simp; rfl)); intro F hF w1 hx1 hb1; have HF := Aside0.mk hF; have HB1 := Aside0.mk (HB.out.trans (hb1.mono HB.out.size)); have HFL := Aside0.mk (show w.heap.size ≤ F by rw [hF]; exact HB.out.size); have HF1 := Aside0.mk hx1; clear hF hb1 hx1)
          | ((with_reducible refine gate_ (.store 86 (.tmp 7) (.tmp 16)) rfl ?_); refine store_blk rfl 86 (.tmp 7) (.tmp 16) rfl F [.int .i32 0, .int .i32 0] [.int .i32 y.f0, .int .i32 y.f1] rfl rfl HF1.out rfl size86 (by intro v hv; simp only [List.mem_cons, List.not_mem_nil, or_false] at hv; rcases hv with rfl | rfl <;> rfl) ?_; intro w2 ha hka hba; have HB2 := Aside0.mk (hba w HFL.out HB1.out); have y0 : w2.cell? ⟨F, 0, none⟩ = some (.int .i32 y.f0) := (blk_cell ha 0).trans rfl; have y1 : w2.cell? ⟨F, 1, none⟩ = some (.int .i32 y.f1) := (blk_cell ha 1).trans rfl; clear ha hka hba))
        go_roundg k1
        case measure => omega
        case rel => exact ⟨i + 1, decide (c ≤ y.f1), rfl, by first | rfl | (simp; done) | (rw [wrap64_self (n := (i : Int) + 1) (by omega) (by have h1 := HLN.out; have h2 := HI.out; unfold maxLen at h1; omega)]; first | rfl | (simp; done)), ⟨by have := HK.out; omega, by have := HI.out; omega⟩, ⟨by have h := HDA.out; rw [HDF.out] at h; simpa using h⟩, HB2⟩
    · have hi' : ¬ (i : Int) < (l.length : Int) := by omega
      have HE := Aside0.mk (show acc = r by have h := HA.out; rw [List.drop_eq_nil_of_le (by omega)] at h; simpa using h)
      have x2 := (nd_cell ((HB.out.block q (blk_lt HQ.out)).trans HQ.out)).2.2.1
      clear hi
      go_wp2_with (fail)
      go_ret
      exact ⟨by rw [HE.out]; cases r <;> cases but <;> rfl, HB.out⟩
end Go.Proofs.YtmfpikhmeacnbaaDoor.X

/- Patterns by hand: lists of places: Clone, join (mkX13.py). -/
namespace Go.Proofs.YtmfpikhmeacnbaaDoor.X
open Go.RowKit Go.Proofs.YtmfpikhmeacnbaaDoor.Q Go.Proofs.YtmfpikhmeacnbaaDoorW.PrintWords Go.Proofs.YtmfpikhmeacnbaaDoorW.PrintLast Go.Proofs.YtmfpikhmeacnbaaDoorW.PrintMore
set_option linter.unusedVariables false
set_option linter.unusedSimpArgs false
theorem info4 : (Tryd.prog.info? 4).map (fun i => (i.zero, i.size, i.bytes)) = some (some (.bool false), 1, 1) := by kernel_rfl
/-- Places in memory, wherever they lie. -/
def BL (w : World) (g n c : Nat) (L : List Bool) : Prop := Kd.bool.R 4 w 0 (fun _ => True) (.slice (some ⟨g, 0, none⟩) n c) L
theorem BL.len {w : World} {g n c : Nat} {L : List Bool} (h : BL w g n c L) : n = L.length ∧ n ≤ c := ⟨(Kd.R_reads' h).1, (Kd.R_reads' h).2.1⟩
theorem BL.lt {w : World} {g n c : Nat} {L : List Bool} (h : BL w g n c L) : g < w.heap.size := Kd.R_lt h g rfl
theorem BL.step {w w1 : World} {g n c : Nat} {L : List Bool} (h : BL w g n c L) (hm : w1.heap[g]? = w.heap[g]?) : BL w1 g n c L := by
  obtain ⟨h1, inner, ho, hr⟩ := h
  refine ⟨fun _ _ => trivial, inner, ?_, hr⟩
  refine ⟨ho.1, ?_⟩
  rcases ho.2 with ⟨e, _⟩ | ⟨g', cap, cur, e, h2, h3, h4, h5, h6⟩
  · cases e
  · injection e with e1 e2 e3
    injection e1 with e1
    injection e1 with e1
    subst e1
    exact .inr ⟨g, cap, cur, by rw [e2, e3], h2, hm.trans h3, h4, h5, h6⟩
theorem BL.below {w w1 : World} {g n c : Nat} {L : List Bool} (h : BL w g n c L) (hb : Below w.heap.size w w1) : BL w1 g n c L := h.step (hb.block g h.lt)
theorem BL.cell {w : World} {g n c : Nat} {L : List Bool} (h : BL w g n c L) (i : Nat) (hi : i < n) : w.cell? ⟨g, i, none⟩ = some (.bool (L.getD i false)) ∧ w.frozen? ⟨g, i, none⟩ = false := by
  have := Kd.R_celln false h (i : Int) (by omega) (by have := h.len.1; omega)
  rw [Int.toNat_natCast] at this
  exact this
theorem BL.put {w : World} {g n c : Nat} {L : List Bool} (h : BL w g n c L) (i : Nat) (b : Bool) : BL (w.setCell ⟨g, i, none⟩ (.bool b)) g n c (L.set i b) := by
  have := (Kd.R_putg h (i : Int) b).1
  rw [Int.toNat_natCast] at this
  exact this
/-- Two lists of places that lie in one block are the same. -/
theorem BL.same {w : World} {g n c c' : Nat} {L L' : List Bool} (h : BL w g n c L) (h' : BL w g n c' L') : L = L' := by
  have e1 := h.len.1
  have e2 := h'.len.1
  apply List.ext_getElem?
  intro i
  by_cases hi : i < n
  · have h1 := (h.cell i hi).1.symm.trans (h'.cell i hi).1
    injection h1 with h1
    injection h1 with h1
    rw [List.getD_eq_getElem?_getD, List.getD_eq_getElem?_getD] at h1
    rw [List.getElem?_eq_getElem (by omega), List.getElem?_eq_getElem (by omega)] at h1 ⊢
    exact congrArg some h1
  · rw [List.getElem?_eq_none (by omega), List.getElem?_eq_none (by omega)]
theorem made_ {w : World} {g c t z : Nat} {B : Nat} {ok : Nat → Prop} (hB : B ≤ g) (ho : ok g) (h : w.heap[g]? = some (.cells #[] 4 (0, 0))) : Kd.bool.R 4 w B ok (.slice (some ⟨g, 0, none⟩) 0 0) [] :=
  ⟨fun k hk => by have e : g = k := by simpa [Value.ownBlock] using hk
                  rw [← e]; exact ho, [], ⟨rfl, .inr ⟨g, 0, #[], rfl, hB, h, Nat.le_refl _, Nat.zero_le _, rfl, rfl⟩⟩, Reps.none _ _⟩
/-- A new list of places. -/
def BN (w w' : World) (v : Value) (L : List Bool) : Prop := ∃ g c, v = .slice (some ⟨g, 0, none⟩) L.length c ∧ w.heap.size ≤ g ∧ BL w' g L.length c L
set_option maxHeartbeats 1000000 in
set_option maxRecDepth 100000 in
theorem clone_calls {w : World} {g n c : Nat} {L : List Bool} (h : BL w g n c L) (hn : 0 < n) (hl : n ≤ 1000000) : Calls Tryd.prog 50 #[.slice (some ⟨g, 0, none⟩) n c] w fun x w' => ∃ v, x = .returned v ∧ BN w w' v L ∧ Below w.heap.size w w' := by
  obtain ⟨e, _⟩ := h.len
  subst e
  have HH := Aside0.mk h
  have HL := Aside0.mk hl
  have HN := Aside0.mk hn
  have heq : (binOp .eql 65 (.slice (some ⟨g, 0, none⟩) L.length c) (.slice none 0 0)).run Tryd.prog w = .ok (.bool false) w := Lib.run_eql_slice_nil w 65 4 (some ⟨g, 0, none⟩) L.length c 0 0 Tryd.underlying65
  clear h hl hn
  go_enter Tryd.func50, Tryd.ntmps50
  go_wp2_with (first
    | ((with_reducible refine gate_builtin (b := .append) (xs := #[.tmp 5, .tmp 6]) rfl ?_); at_builtin; refine Kd.R_append_rows Kd.bool (w0 := w) w.heap.size rfl (.tmp 5) (.tmp 6) 65 4 (.bool false) 1 rfl Tryd.underlying65 info4 rfl (by decide) (by omega) (.slice (some ⟨w.heap.size, 0, none⟩) 0 0) [] L (some ⟨g, 0, none⟩) L.length c (fun k => w.heap.size ≤ k) (fun _ => False) rfl rfl (made_ (c := 0) (t := 0) (z := 0) (Nat.le_refl _) (Nat.le_refl _) (blk_new _ _)) (Kd.R_reads' (HH.out.below (below_alloc (Below.refl _ _) _))).2.2 (fun x cs hK => hK) (fun _ hq => hq.elim) (fun k hk => Nat.le_trans (by simp) hk) (below_alloc (Below.refl _ _) _) (by simp) (by have h1 := HL.out; simp only [List.length_nil]; omega) ?_; intro v5 w5 ho hb5 hg5 hat5; obtain ⟨A5, c5, rfl⟩ := Kd.R_slice ho; have HO := Aside0.mk ho; have HB5 := Aside0.mk hb5; clear ho hb5 hg5 hat5))
  go_ret
  have ho := HO.out
  rw [List.nil_append] at ho
  obtain ⟨g6, c6, hv, h6, _⟩ := Kd.R_form ho HN.out
  exact ⟨_, rfl, ⟨g6, c6, by simpa using hv, h6, by rw [hv] at ho; exact Kd.R_lower (Kd.R_mono ho (fun _ _ => trivial)) (Nat.zero_le _)⟩, HB5.out⟩
/-- Either list's places. -/
def orL (a b : List Bool) : List Bool := List.zipWith (fun x y => x || y) a b
/-- What join has done of the first i places. -/
structure JoinI (T L M : List Bool) (i : Nat) (more : Bool) : Prop where
  len : M.length = T.length
  at_ : ∀ j, j < T.length → M.getD j false = if j < i then (T.getD j false || L.getD j false) else T.getD j false
  more_ : more = true ↔ ∃ j, j < i ∧ L.getD j false = true ∧ T.getD j false = false
theorem JoinI.start (T L : List Bool) : JoinI T L T 0 false := ⟨rfl, fun j _ => by rw [if_neg (by omega)], ⟨fun h => (by cases h), fun ⟨j, h, _⟩ => by omega⟩⟩
theorem JoinI.keep {T L M : List Bool} {i : Nat} {more : Bool} (h : JoinI T L M i more) (hi : i < T.length) (hk : L.getD i false = false ∨ M.getD i false = true) : JoinI T L M (i + 1) more := by
  have hm : M.getD i false = T.getD i false := by rw [h.at_ i hi, if_neg (by omega)]
  refine ⟨h.len, fun j hj => ?_, h.more_.trans ⟨fun ⟨j, h1, h2⟩ => ⟨j, by omega, h2⟩, fun ⟨j, h1, h2, h3⟩ => ?_⟩⟩
  · rw [h.at_ j hj]
    by_cases e : j = i
    · subst e
      rw [if_neg (by omega), if_pos (by omega)]
      rcases hk with hk | hk
      · rw [hk, Bool.or_false]
      · rw [hm] at hk; rw [hk, Bool.true_or]
    · by_cases e' : j < i
      · rw [if_pos e', if_pos (by omega)]
      · rw [if_neg e', if_neg (by omega)]
  · refine ⟨j, ?_, h2, h3⟩
    by_cases e : j = i
    · subst e
      rcases hk with hk | hk
      · rw [hk] at h2; cases h2
      · rw [hm, h3] at hk; cases hk
    · omega
theorem JoinI.put {T L M : List Bool} {i : Nat} {more : Bool} (h : JoinI T L M i more) (hi : i < T.length) (hl : L.getD i false = true) (hm : M.getD i false = false) : JoinI T L (M.set i true) (i + 1) true := by
  have ht : T.getD i false = false := by
    have e := h.at_ i hi
    rw [if_neg (by omega)] at e
    exact e.symm.trans hm
  refine ⟨by rw [List.length_set]; exact h.len, fun j hj => ?_, ⟨fun _ => ⟨i, by omega, hl, ht⟩, fun _ => rfl⟩⟩
  by_cases e : j = i
  · subst e
    rw [if_pos (by omega), hl, Bool.or_true, List.getD_eq_getElem?_getD, List.getElem?_set_self (by rw [h.len]; exact hi)]
    rfl
  · have : (M.set i true).getD j false = M.getD j false := by rw [List.getD_eq_getElem?_getD, List.getD_eq_getElem?_getD, List.getElem?_set_ne (fun h => e h.symm)]
    rw [this, h.at_ j hj]
    by_cases e' : j < i
    · rw [if_pos e', if_pos (by omega)]
    · rw [if_neg e', if_neg (by omega)]
theorem orL_len {a b : List Bool} (h : a.length = b.length) : (orL a b).length = a.length := by unfold orL; rw [List.length_zipWith]; omega
theorem orL_at {a b : List Bool} (h : a.length = b.length) (j : Nat) : (orL a b).getD j false = (a.getD j false || b.getD j false) := by
  unfold orL
  rw [List.getD_eq_getElem?_getD, List.getD_eq_getElem?_getD, List.getD_eq_getElem?_getD, List.getElem?_zipWith]
  by_cases hj : j < a.length
  · rw [List.getElem?_eq_getElem hj, List.getElem?_eq_getElem (by omega)]
    rfl
  · rw [List.getElem?_eq_none (by omega), List.getElem?_eq_none (by omega)]
    rfl
theorem bl_ext {a b : List Bool} (h : a.length = b.length) (hj : ∀ j, j < a.length → a.getD j false = b.getD j false) : a = b := by
  apply List.ext_getElem?
  intro i
  by_cases hi : i < a.length
  · have := hj i hi
    rw [List.getD_eq_getElem?_getD, List.getD_eq_getElem?_getD] at this
    rw [List.getElem?_eq_getElem hi, List.getElem?_eq_getElem (by omega)] at this ⊢
    exact congrArg some this
  · rw [List.getElem?_eq_none (by omega), List.getElem?_eq_none (by omega)]
theorem JoinI.fin {T L M : List Bool} {more : Bool} (h : JoinI T L M T.length more) (hl : L.length = T.length) : M = orL T L ∧ (more = false ↔ orL T L = T) := by
  have he : M = orL T L := bl_ext (by rw [orL_len hl.symm]; exact h.len) (fun j hj => by rw [h.at_ j (by rw [← h.len]; exact hj), if_pos (by rw [← h.len]; exact hj), orL_at hl.symm])
  refine ⟨he, ?_⟩
  constructor
  · intro hm
    refine bl_ext (orL_len hl.symm) (fun j hj => ?_)
    rw [orL_at hl.symm]
    rw [orL_len hl.symm] at hj
    cases ht : T.getD j false with
    | true => rfl
    | false =>
      cases hlj : L.getD j false with
      | false => rfl
      | true => have := h.more_.2 ⟨j, hj, hlj, ht⟩; rw [hm] at this; cases this
  · intro hm
    cases more with
    | false => rfl
    | true =>
      obtain ⟨j, hj, h1, h2⟩ := h.more_.1 rfl
      have := orL_at hl.symm j
      rw [hm, h2, h1] at this
      cases this
/-- What join answers and leaves. -/
def JoinP (w : World) (g n c : Nat) (T L : List Bool) : Ending → World → Prop := fun x w' => ∃ more, x = .returned (.bool more) ∧ (more = false ↔ orL T L = T) ∧ BL w' g n c (orL T L) ∧ Stp g w w'
set_option maxHeartbeats 1000000 in
set_option maxRecDepth 100000 in
theorem join_calls {w : World} {g n c g2 c2 : Nat} {T L : List Bool} (h : BL w g n c T) (h2 : BL w g2 n c2 L) (hs : n ≤ 1000000) : Calls Tryd.prog 42 #[.slice (some ⟨g, 0, none⟩) n c, .slice (some ⟨g2, 0, none⟩) n c2] w (JoinP w g n c T L) := by
  have HT := Aside0.mk h
  have HL := Aside0.mk h2
  have HS := Aside0.mk hs
  have HN := Aside0.mk (And.intro h.len.1 h2.len.1)
  clear h h2 hs
  go_enter Tryd.func42, Tryd.ntmps42
  go_wp2_with (fail)
  try go_frame
  go_loopg [5, 10] (n + 1) (fun kq v5 v10 wr => ∃ (i : Nat) (more : Bool) (M : List Bool), v5 = .bool more ∧ v10 = .int .i64 i ∧ Aside0 (kq + i = n + 1 ∧ i ≤ n) ∧ Aside0 (JoinI T L M i more) ∧ Aside0 (BL wr g n c M) ∧ Aside0 (BL wr g2 n c2 L) ∧ Aside0 (Stp g w wr))
  case atStart => exact ⟨0, false, T, rfl, rfl, ⟨by omega, by omega⟩, ⟨JoinI.start _ _⟩, HT, HL, ⟨Stp.refl _ _⟩⟩
  case round =>
    clear HT HL
    obtain ⟨i, more, M, rfl, rfl, HK, HJ, HM, HL, HB⟩ := hrel
    cases gk with
    | zero => have := HK.out; omega
    | succ k1 =>
    by_cases hi : i < n
    · have hi' : (i : Int) < (n : Int) := by omega
      have HI := Aside0.mk hi
      have HIT := Aside0.mk (show i < T.length by have := HN.out; omega)
      obtain ⟨cl, fl⟩ := HL.out.cell i hi
      obtain ⟨cm, fm⟩ := HM.out.cell i hi
      obtain ⟨a, ha⟩ : ∃ a, L.getD i false = a := ⟨_, rfl⟩
      obtain ⟨b, hb⟩ : ∃ b, M.getD i false = b := ⟨_, rfl⟩
      rw [ha] at cl
      rw [hb] at cm
      have HA := Aside0.mk ha
      have HB2 := Aside0.mk hb
      clear ha hb hi
      have hcs : a = false ∨ (a = true ∧ b = true) ∨ (a = true ∧ b = false) := by cases a <;> cases b <;> simp
      rcases hcs with rfl | ⟨rfl, rfl⟩ | ⟨rfl, rfl⟩
      · go_wp2_with (fail)
        go_roundg k1
        case measure => omega
        case rel => exact ⟨i + 1, more, M, rfl, by first | rfl | (simp; done) | (rw [wrap64_self (n := (i : Int) + 1) (by omega) (by have h1 := HS.out; have h2 := HI.out; omega)]; first | rfl | (simp; done)), ⟨by have := HK.out; omega, by have := HI.out; omega⟩, ⟨HJ.out.keep HIT.out (.inl HA.out)⟩, HM, HL, HB⟩
      · go_wp2_with (fail)
        go_roundg k1
        case measure => omega
        case rel => exact ⟨i + 1, more, M, rfl, by first | rfl | (simp; done) | (rw [wrap64_self (n := (i : Int) + 1) (by omega) (by have h1 := HS.out; have h2 := HI.out; omega)]; first | rfl | (simp; done)), ⟨by have := HK.out; omega, by have := HI.out; omega⟩, ⟨HJ.out.keep HIT.out (.inr HB2.out)⟩, HM, HL, HB⟩
      · have HG := Aside0.mk (show g2 ≠ g from fun e => by
          subst e
          have := HM.out.same HL.out
          rw [this, HA.out] at HB2
          exact absurd HB2.out (by decide))
        go_wp2_with (fail)
        go_roundg k1
        case measure => omega
        case rel => exact ⟨i + 1, true, M.set i true, rfl, by first | rfl | (simp; done) | (rw [wrap64_self (n := (i : Int) + 1) (by omega) (by have h1 := HS.out; have h2 := HI.out; omega)]; first | rfl | (simp; done)), ⟨by have := HK.out; omega, by have := HI.out; omega⟩, ⟨HJ.out.put HIT.out HA.out HB2.out⟩, ⟨HM.out.put i true⟩, ⟨HL.out.step (Below.heap_setCell _ _ _ _ HG.out)⟩, ⟨HB.out.trans (Stp.set i _)⟩⟩
    · have hi' : ¬ (i : Int) < (n : Int) := by omega
      have HE := Aside0.mk (show i = T.length by have h1 := HK.out; have h2 := HN.out; omega)
      clear hi
      go_wp2_with (fail)
      go_ret
      have hj := HJ.out
      rw [HE.out] at hj
      obtain ⟨e1, e2⟩ := hj.fin (by have := HN.out; omega)
      exact ⟨more, rfl, e2, by rw [← e1]; exact HM.out, HB.out⟩
end Go.Proofs.YtmfpikhmeacnbaaDoor.X

/- Patterns by hand: what ends answers, as plain functions (mkX14.py). -/
namespace Go.Proofs.YtmfpikhmeacnbaaDoor.X
open Go.RowKit Go.Proofs.YtmfpikhmeacnbaaDoor.Q Go.Proofs.YtmfpikhmeacnbaaDoorW.PrintWords Go.Proofs.YtmfpikhmeacnbaaDoorW.PrintLast Go.Proofs.YtmfpikhmeacnbaaDoorW.PrintMore
set_option linter.unusedVariables false
set_option linter.unusedSimpArgs false
def Pt.sz : Pt → Nat
  | .one _ _ _ => 1
  | .eps => 1
  | .cat q p => q.sz + p.sz + 1
  | .alt1 p => p.sz + 1
  | .alt q p => q.sz + p.sz + 1
  | .again p _ => p.sz + 1
def Pt.kids : Pt → List Pt
  | .one _ _ _ => []
  | .eps => []
  | .cat q p => q.kids ++ [p]
  | .alt1 p => [p]
  | .alt q p => q.kids ++ [p]
  | .again p _ => [p]
/-- Lists of parts are of one kind. -/
def Pt.WF : Pt → Prop
  | .one l b pl => pl = true → b = false ∧ ∃ c, l = [⟨c, c⟩] ∧ Rune c
  | .eps => True
  | .cat q p => q.kind = 1 ∧ q.WF ∧ p.WF
  | .alt1 p => p.WF
  | .alt q p => q.kind = 2 ∧ q.WF ∧ p.WF
  | .again p _ => p.WF
theorem kids_sz : ∀ (p : Pt) (x : Pt), x ∈ p.kids → x.sz < p.sz
  | .one _ _ _, x, h => by simp [Pt.kids] at h
  | .eps, x, h => by simp [Pt.kids] at h
  | .cat q p, x, h => by
    rw [Pt.kids, List.mem_append, List.mem_singleton] at h
    rw [Pt.sz]
    rcases h with h | rfl
    · have := kids_sz q x h; omega
    · omega
  | .alt1 p, x, h => by
    rw [Pt.kids, List.mem_singleton] at h
    subst h
    rw [Pt.sz]; omega
  | .alt q p, x, h => by
    rw [Pt.kids, List.mem_append, List.mem_singleton] at h
    rw [Pt.sz]
    rcases h with h | rfl
    · have := kids_sz q x h; omega
    · omega
  | .again p _, x, h => by
    rw [Pt.kids, List.mem_singleton] at h
    subst h
    rw [Pt.sz]; omega
theorem kids_wf : ∀ (p : Pt), p.WF → ∀ x ∈ p.kids, x.WF
  | .one _ _ _, _, x, h => by simp [Pt.kids] at h
  | .eps, _, x, h => by simp [Pt.kids] at h
  | .cat q p, hw, x, h => by
    rw [Pt.kids, List.mem_append, List.mem_singleton] at h
    rcases h with h | rfl
    · exact kids_wf q hw.2.1 x h
    · exact hw.2.2
  | .alt1 p, hw, x, h => by
    rw [Pt.kids, List.mem_singleton] at h
    subst h
    exact hw
  | .alt q p, hw, x, h => by
    rw [Pt.kids, List.mem_append, List.mem_singleton] at h
    rcases h with h | rfl
    · exact kids_wf q hw.2.1 x h
    · exact hw.2.2
  | .again p _, hw, x, h => by
    rw [Pt.kids, List.mem_singleton] at h
    subst h
    exact hw
theorem kids_at {w : World} {B : Nat} {ok : Nat → Prop} : ∀ {p : Pt} {cs : List Nat}, TT w B ok p cs → cs.length = p.kids.length ∧ ∀ j (h : j < cs.length) (h' : j < p.kids.length), Tr w B ok cs[j] p.kids[j]
  | .one _ _ _, cs, h => by
    have h : cs = [] := h
    subst h
    exact ⟨rfl, fun j h => absurd h (Nat.not_lt_zero _)⟩
  | .eps, cs, h => by
    have h : cs = [] := h
    subst h
    exact ⟨rfl, fun j h => absurd h (Nat.not_lt_zero _)⟩
  | .cat q p, cs, ⟨bs, b, c, e, h1, h2, h3⟩ => by
    subst e
    obtain ⟨i1, i2⟩ := kids_at h1
    refine ⟨by simp [Pt.kids, i1], fun j hj hj' => ?_⟩
    simp only [Pt.kids]
    by_cases e : j < bs.length
    · rw [List.getElem_append_left e, List.getElem_append_left (by omega)]
      exact i2 j e (by omega)
    · have e' : j = bs.length := by simp at hj; omega
      subst e'
      rw [List.getElem_append_right (Nat.le_refl _), List.getElem_append_right (by omega)]
      simp only [Nat.sub_self, i1]
      exact ⟨c, h2, h3⟩
  | .alt1 p, cs, ⟨b, c, e, h2, h3⟩ => by
    subst e
    refine ⟨rfl, fun j hj hj' => ?_⟩
    have : j = 0 := by simpa using hj
    subst this
    exact ⟨c, h2, h3⟩
  | .alt q p, cs, ⟨bs, b, c, e, h1, h2, h3⟩ => by
    subst e
    obtain ⟨i1, i2⟩ := kids_at h1
    refine ⟨by simp [Pt.kids, i1], fun j hj hj' => ?_⟩
    simp only [Pt.kids]
    by_cases e : j < bs.length
    · rw [List.getElem_append_left e, List.getElem_append_left (by omega)]
      exact i2 j e (by omega)
    · have e' : j = bs.length := by simp at hj; omega
      subst e'
      rw [List.getElem_append_right (Nat.le_refl _), List.getElem_append_right (by omega)]
      simp only [Nat.sub_self, i1]
      exact ⟨c, h2, h3⟩
  | .again p _, cs, ⟨b, c, e, h2, h3⟩ => by
    subst e
    refine ⟨rfl, fun j hj hj' => ?_⟩
    have : j = 0 := by simpa using hj
    subst this
    exact ⟨c, h2, h3⟩
/-- Until nothing is new. -/
def clo (f : List Bool → List Bool) : Nat → List Bool → List Bool
  | 0, out => out
  | k + 1, out => if orL out (f out) = out then out else clo f k (orL out (f out))
def oneF (s : List S86) (but : Bool) (l : List Int) (F : List Bool) : List Bool := false :: List.zipWith (fun c f => f && hasF s but c) l F
/-- What ends answers. -/
def endsF : Pt → List Int → List Bool → List Bool
  | .one s but _, l, F => oneF s but l F
  | .eps, _, F => F
  | .cat q p, l, F => endsF p l (endsF q l F)
  | .alt1 p, l, F => orL (List.replicate (l.length + 1) false) (endsF p l F)
  | .alt q p, l, F => orL (endsF q l F) (endsF p l F)
  | .again p s, l, F =>
    if s = 63 then (if s = 43 then endsF p l F else orL (endsF p l F) F) else clo (endsF p l) (l.length + 2) (if s = 43 then endsF p l F else orL (endsF p l F) F)
theorem clo_len {f : List Bool → List Bool} {n : Nat} (hf : ∀ F, F.length = n → (f F).length = n) : ∀ k out, out.length = n → (clo f k out).length = n
  | 0, out, h => h
  | k + 1, out, h => by
    rw [clo]
    split
    · exact h
    · exact clo_len hf k _ (by rw [orL_len (by rw [h, hf out h])]; exact h)
theorem ends_len : ∀ (p : Pt) (l : List Int) (F : List Bool), F.length = l.length + 1 → (endsF p l F).length = l.length + 1
  | .one s but _, l, F, h => by rw [endsF, oneF, List.length_cons, List.length_zipWith]; omega
  | .eps, l, F, h => h
  | .cat q p, l, F, h => ends_len p l _ (ends_len q l F h)
  | .alt1 p, l, F, h => by rw [endsF, orL_len (by rw [List.length_replicate, ends_len p l F h])]; exact List.length_replicate
  | .alt q p, l, F, h => by rw [endsF, orL_len (by rw [ends_len q l F h, ends_len p l F h])]; exact ends_len q l F h
  | .again p s, l, F, h => by
    have h1 := ends_len p l F h
    have h2 : (if s = 43 then endsF p l F else orL (endsF p l F) F).length = l.length + 1 := by
      split
      · exact h1
      · rw [orL_len (by rw [h1, h])]; exact h1
    rw [endsF]
    split
    · exact h2
    · exact clo_len (fun F hF => ends_len p l F hF) _ _ h2
theorem many_fold : ∀ (p : Pt), p.WF → p.kind = 1 → ∀ (l : List Int) (F : List Bool), endsF p l F = p.kids.foldl (fun F x => endsF x l F) F
  | .one _ _ _, _, h, _, _ => by simp [Pt.kind] at h
  | .eps, _, _, l, F => rfl
  | .cat q p, hw, _, l, F => by rw [endsF, Pt.kids, List.foldl_append, ← many_fold q hw.2.1 hw.1 l F]; rfl
  | .alt1 _, _, h, _, _ => by simp [Pt.kind] at h
  | .alt _ _, _, h, _, _ => by simp [Pt.kind] at h
  | .again _ _, _, h, _, _ => by simp [Pt.kind] at h
theorem alike_fold : ∀ (p : Pt), p.WF → p.kind = 2 → ∀ (l : List Int) (F : List Bool), endsF p l F = p.kids.foldl (fun O x => orL O (endsF x l F)) (List.replicate (l.length + 1) false)
  | .one _ _ _, _, h, _, _ => by simp [Pt.kind] at h
  | .eps, _, h, _, _ => by simp [Pt.kind] at h
  | .cat _ _, _, h, _, _ => by simp [Pt.kind] at h
  | .alt1 p, _, _, l, F => rfl
  | .alt q p, hw, _, l, F => by rw [endsF, Pt.kids, List.foldl_append, ← alike_fold q hw.2.1 hw.1 l F]; rfl
  | .again _ _, _, h, _, _ => by simp [Pt.kind] at h
/-- How many places there are. -/
def cnt (l : List Bool) : Nat := l.countP id
theorem orL_more : ∀ (a b : List Bool), a.length = b.length → cnt a ≤ cnt (orL a b) ∧ (orL a b ≠ a → cnt a < cnt (orL a b))
  | [], [], _ => ⟨Nat.le_refl _, fun h => absurd rfl h⟩
  | [], _ :: _, h => by simp at h
  | _ :: _, [], h => by simp at h
  | x :: a, y :: b, h => by
    have ih := orL_more a b (by simpa using h)
    have e : orL (x :: a) (y :: b) = (x || y) :: orL a b := rfl
    rw [e]
    unfold cnt at ih ⊢
    rw [List.countP_cons, List.countP_cons]
    cases x <;> cases y <;> simp only [Bool.false_or, Bool.true_or, Bool.or_false, Bool.or_true, id, if_true, if_false, Bool.false_eq_true] <;> refine ⟨by omega, fun hn => ?_⟩
    · have := ih.2 (fun e => hn (by rw [e])); omega
    · omega
    · have := ih.2 (fun e => hn (by rw [e])); omega
    · have := ih.2 (fun e => hn (by rw [e])); omega
theorem cnt_le (l : List Bool) : cnt l ≤ l.length := List.countP_le_length
theorem peek_is {s : ByteArray} {i : Nat} {c : Int} (h : peekF s i = some c) : c = -1 ∨ Rune c := by
  by_cases hi : i ≤ s.size
  · rcases peek_rune hi h with h | h
    · exact .inl h
    · exact .inr h.1
  · unfold peekF at h
    rw [if_pos (by omega)] at h
    exact .inl (Option.some.inj h).symm
theorem esc_plain {s : ByteArray} {i j : Nat} {l : List S86} (h : escF s i = .ok (l, true) j) : ∃ c, l = [⟨c, c⟩] ∧ Rune c := by
  unfold escF at h
  cases hp : peekF s i with
  | none => rw [hp] at h; cases h
  | some c =>
    rw [hp] at h
    dsimp only at h
    split at h
    · injection h with h1 h2
      injection h1 with h1 h3
      cases h3
    · split at h
      · cases h
      · rename_i hn
        injection h with h1 h2
        injection h1 with h1 h3
        refine ⟨c, h1.symm, (peek_is hp).resolve_left (fun e => hn (.inl (by omega)))⟩
/-- The parser's trees are well formed. -/
theorem wf_ok {s : ByteArray} : ∀ k, (∀ {d i p m j}, atF k s d i = some (.ok (p, m) j) → p.WF) ∧ (∀ {d i acc n p m j}, acc.kind = 1 → acc.WF → brF k s d i acc n = some (.ok (p, m) j) → p.kind = 1 ∧ p.WF) ∧ (∀ {d i p m j}, paF k s d i = some (.ok (p, m) j) → p.kind = 2 ∧ p.WF) ∧ (∀ {d i acc n p m j}, acc.kind = 2 → acc.WF → altF k s d i acc n = some (.ok (p, m) j) → p.kind = 2 ∧ p.WF)
  | 0 => ⟨fun h => by simp [atF] at h, fun _ _ h => by simp [brF] at h, fun h => by simp [paF] at h, fun _ _ h => by simp [altF] at h⟩
  | k + 1 => by
    obtain ⟨ha, hb, hp, hl⟩ := wf_ok (s := s) k
    have hc : ∀ {i p m j}, clsF k s i = some (.ok (p, m) j) → p.WF := by
      intro i p m j h
      unfold clsF at h
      cases hp : peekF s i with
      | none => rw [hp] at h; cases h
      | some c =>
        rw [hp] at h
        dsimp only at h
        cases hL : clsL k s (if c = 94 then i + 1 else i) [] true with
        | none => rw [hL] at h; cases h
        | some RL =>
          rw [hL] at h
          cases RL with
          | bad a e => cases h
          | ok l j1 =>
            have h3 := Option.some.inj h
            injection h3 with h4 h5
            injection h4 with h4 h6
            subst h4
            intro h; cases h
    refine ⟨fun h => ?_, fun hk hw h => ?_, fun h => ?_, fun hk hw h => ?_⟩
    · rcases atF_head h with ⟨_, h⟩ | ⟨_, h⟩ | ⟨_, h⟩ | ⟨_, h⟩ | ⟨_, a, e, _, h⟩ | ⟨_, l, sg, j, he, h⟩ | ⟨c, _, _, _, _, _, _, h⟩ | ⟨c, _, _, _, _, _, _, _, h⟩
      · cases h
      · rcases grF_head h with ⟨_, h⟩ | ⟨_, ⟨a, e, _, h⟩ | ⟨p, m, j, hq, ⟨_, h⟩ | ⟨c, _, _, h⟩ | ⟨_, h⟩⟩⟩
        · cases h
        · cases h
        · cases h
        · cases h
        · have := hp hq
          injection h with h1 h2
          injection h1 with h1 h3
          rw [h1]; exact this.2
      · exact hc h
      · injection h with h1 h2
        injection h1 with h1 h3
        rw [h1]; intro h; cases h
      · cases h
      · injection h with h1 h2
        injection h1 with h1 h3
        rw [h1]
        intro hsg
        subst hsg
        exact ⟨rfl, esc_plain he⟩
      · cases h
      · rename_i hp _ _ _ _ _ h0
        injection h with h1 h2
        injection h1 with h1 h3
        rw [h1]
        exact fun _ => ⟨rfl, c, rfl, (peek_is hp).resolve_left (by omega)⟩
    · rcases brF_head h with ⟨_, h⟩ | ⟨c, _, ⟨_, h⟩ | ⟨_, ⟨a, e, _, h⟩ | ⟨p, m, j, _, _, h⟩ | ⟨p, m, j, c2, hq, _, _, h⟩ | ⟨p, m, j, c2, hq, _, _, h⟩⟩⟩
      · cases h
      · injection h with h1 h2
        injection h1 with h1 h3
        rw [h1]; exact ⟨hk, hw⟩
      · cases h
      · cases h
      · exact hb (acc := .cat _ (.again p c2)) rfl ⟨hk, hw, (show p.WF from ha hq)⟩ h
      · exact hb (acc := .cat _ p) rfl ⟨hk, hw, ha hq⟩ h
    · rcases paF_head h with ⟨a, e, _, h⟩ | ⟨p, m, j, hq, h⟩
      · cases h
      · exact hl (acc := .alt1 p) rfl (hb (acc := .eps) rfl trivial hq).2 h
    · rcases altF_head h with ⟨_, h⟩ | ⟨c, _, _, h⟩ | ⟨_, a, e, _, h⟩ | ⟨_, p, m, j, hq, h⟩
      · cases h
      · injection h with h1 h2
        injection h1 with h1 h3
        rw [h1]; exact ⟨hk, hw⟩
      · cases h
      · exact hl (acc := .alt _ p) rfl ⟨hk, hw, (hb (acc := .eps) rfl trivial hq).2⟩ h
end Go.Proofs.YtmfpikhmeacnbaaDoor.X

/- Patterns by hand: ends, often (mkX15.py). -/
namespace Go.Proofs.YtmfpikhmeacnbaaDoor.X
open Go.RowKit Go.Proofs.YtmfpikhmeacnbaaDoor.Q Go.Proofs.YtmfpikhmeacnbaaDoorW.PrintWords Go.Proofs.YtmfpikhmeacnbaaDoorW.PrintLast Go.Proofs.YtmfpikhmeacnbaaDoorW.PrintMore
set_option linter.unusedVariables false
set_option linter.unusedSimpArgs false
/-- Runes in memory, wherever they lie. -/
def RI (w : World) (A : Option Addr) (n c : Nat) (l : List Int) : Prop := (Kd.int .i32).R 21 w 0 (fun _ => True) (.slice A n c) l
theorem RI.len {w : World} {A : Option Addr} {n c : Nat} {l : List Int} (h : RI w A n c l) : n = l.length := (Kd.R_reads' h).1
theorem RI.below {w w1 : World} {A : Option Addr} {n c : Nat} {l : List Int} (h : RI w A n c l) (hb : Below w.heap.size w w1) : RI w1 A n c l := Kd.R_below h hb
theorem RI.cell {w : World} {A : Option Addr} {n c : Nat} {l : List Int} (h : RI w A n c l) (i : Nat) (hi : i < n) : ∃ g, A = some ⟨g, 0, none⟩ ∧ w.cell? ⟨g, i, none⟩ = some (.int .i32 (l.getD i 0)) := by
  have hn := h.len
  obtain ⟨g, cap, hv, _⟩ := Kd.R_form h (by omega)
  injection hv with hA hn' hc
  subst hA
  refine ⟨g, rfl, ?_⟩
  have := (Kd.R_celln (0 : Int) h (i : Int) (by omega) (by omega)).1
  rw [Int.toNat_natCast] at this
  exact this
theorem kP_cell {w : World} {B : Nat} {ok : Nat → Prop} {A : Option Addr} {n c : Nat} {cs : List Nat} (h : kP.R 41 w B ok (.slice A n c) cs) (i : Nat) (hi : i < cs.length) : ∃ g, A = some ⟨g, 0, none⟩ ∧ w.cell? ⟨g, i, none⟩ = some (.pointer (some ⟨cs[i], 0, none⟩)) := by
  have hn := (Kd.R_reads' h).1
  obtain ⟨g, cap, hv, _⟩ := Kd.R_form h (by omega)
  injection hv with hA hn' hc
  subst hA
  refine ⟨g, rfl, ?_⟩
  have := (Kd.R_celln (0 : Nat) h (i : Int) (by omega) (by omega)).1
  rw [Int.toNat_natCast] at this
  rw [this]
  show some (Value.pointer (some ⟨cs.getD i 0, 0, none⟩)) = _
  rw [List.getD_eq_getElem?_getD, List.getElem?_eq_getElem hi]
  rfl
theorem Nd.below {w w1 : World} {B q : Nat} {ok : Nat → Prop} {p : Pt} {cs : List Nat} (h : Nd w B ok q p cs) (hb : Below w.heap.size w w1) : Nd w1 B ok q p cs := h.turn (Nat.le_refl _) (fun k _ hl ho => ⟨ho, hb.block k hl⟩)
theorem Tr.below {w w1 : World} {B q : Nat} {ok : Nat → Prop} {p : Pt} (h : Tr w B ok q p) (hb : Below w.heap.size w w1) : Tr w1 B ok q p := h.turn (Nat.le_refl _) (fun k _ hl ho => ⟨ho, hb.block k hl⟩)
/-- What ends leaves. -/
def EndsP (w : World) (g n : Nat) (F O : List Bool) : Ending → World → Prop := fun x w' => ∃ g' c', x = .returned (.slice (some ⟨g', 0, none⟩) n c') ∧ BL w' g' n c' O ∧ (w.heap.size ≤ g' ∨ (g' = g ∧ O = F)) ∧ Below w.heap.size w w'
/-- What a part of one rune has done of the first i runes. -/
structure OneI (s : List S86) (but : Bool) (l : List Int) (F O : List Bool) (i : Nat) : Prop where
  len : O.length = l.length + 1
  at_ : ∀ j, j ≤ l.length → O.getD j false = if 1 ≤ j ∧ j ≤ i then (F.getD (j - 1) false && hasF s but (l.getD (j - 1) 0)) else false
theorem OneI.put {s : List S86} {but : Bool} {l : List Int} {F O : List Bool} {i : Nat} (h : OneI s but l F O i) (hi : i < l.length) {y : Bool} (hy : (F.getD i false && hasF s but (l.getD i 0)) = y) : OneI s but l F (O.set (i + 1) y) (i + 1) := by
  refine ⟨by rw [List.length_set]; exact h.len, fun j hj => ?_⟩
  by_cases e : j = i + 1
  · subst e
    rw [if_pos ⟨by omega, by omega⟩, List.getD_eq_getElem?_getD, List.getElem?_set_self (by rw [h.len]; omega)]
    exact hy.symm
  · have : (O.set (i + 1) y).getD j false = O.getD j false := by rw [List.getD_eq_getElem?_getD, List.getD_eq_getElem?_getD, List.getElem?_set_ne (fun h => e h.symm)]
    rw [this, h.at_ j hj]
    by_cases e' : 1 ≤ j ∧ j ≤ i
    · rw [if_pos e', if_pos ⟨e'.1, by omega⟩]
    · rw [if_neg e', if_neg (fun h => e' ⟨h.1, by omega⟩)]
theorem OneI.fin {s : List S86} {but : Bool} {l : List Int} {F O : List Bool} (h : OneI s but l F O l.length) (hF : F.length = l.length + 1) : O = oneF s but l F := by
  have h1 : (oneF s but l F).length = l.length + 1 := by rw [oneF, List.length_cons, List.length_zipWith]; omega
  refine bl_ext (h.len.trans h1.symm) (fun j hj => ?_)
  rw [h.len] at hj
  rw [h.at_ j (by omega)]
  cases j with
  | zero => rw [if_neg (by omega)]; rfl
  | succ j =>
    rw [if_pos ⟨by omega, by omega⟩]
    unfold oneF
    rw [show (false :: List.zipWith (fun c f => f && hasF s but c) l F).getD (j + 1) false = (List.zipWith (fun c f => f && hasF s but c) l F).getD j false from rfl, List.getD_eq_getElem?_getD (l := List.zipWith _ _ _), List.getElem?_zipWith]
    have e1 : j < l.length := by omega
    have e2 : j < F.length := by omega
    simp only [Nat.add_sub_cancel, List.getD_eq_getElem?_getD, List.getElem?_eq_getElem e1, List.getElem?_eq_getElem e2, Option.getD_some]
set_option maxHeartbeats 2000000 in
set_option maxRecDepth 100000 in
theorem ends_one {w : World} {B q : Nat} {ok : Nat → Prop} {s : List S86} {but pl : Bool} (h : Tr w B ok q (.one s but pl)) {A : Option Addr} {m cl : Nat} {l : List Int} (hl : RI w A m cl l) {g n c : Nat} {F : List Bool} (hF : BL w g n c F) (hn : n = l.length + 1) (hs : n ≤ 1000000) :
    Calls Tryd.prog 28 #[.pointer (some ⟨q, 0, none⟩), .slice A m cl, .slice (some ⟨g, 0, none⟩) n c] w (EndsP w g n F (oneF s but l F)) := by
  obtain ⟨cs, _, hnd⟩ := h
  have HND := Aside0.mk hnd
  obtain ⟨_, _, vs, vp, hq, _⟩ := hnd
  obtain ⟨x0, x1, x2, x3, x4, x5⟩ := nd_cell hq
  have x0' : w.cell? ⟨q, 0, none⟩ = some (.int .i64 0) := x0
  clear hq x0 x1 x2 x3 x4 x5
  have HL := Aside0.mk hl
  have HF := Aside0.mk hF
  have HN := Aside0.mk hn
  have HM := Aside0.mk hl.len
  have HFL := Aside0.mk hF.len
  clear hl hF hn
  go_enter Tryd.func28, Tryd.ntmps28
  go_wp2_with ((with_reducible refine gate_dst (N := 23) rfl ?_); refine Kd.R_make Kd.bool (w0 := w) w.heap.size 4 rfl rfl 65 (.tmp 22) (.tmp 22) rfl (n : Int) rfl rfl Tryd.underlying65 (.bool false) 1 info4 rfl (by decide) (by decide) false (ok := fun k => w.heap.size ≤ k) (okp := fun _ => False) rfl (fun _ h => h.elim) (Nat.le_refl _) (by omega) (by simp only [Int.toNat_natCast]; omega) (Below.refl _ _) (Nat.le_refl _) ?_; intro v3 w3 hr3 hb3 hg3 ho3; simp only [Int.toNat_natCast] at hr3; obtain ⟨g3, c3, hv3, hg3l, _⟩ := Kd.R_form hr3 (by rw [List.length_replicate]; have := HN.out; omega); rw [List.length_replicate] at hv3; subst hv3; have HG3 := Aside0.mk hg3l; have HR3 := Aside0.mk (show BL w3 g3 n c3 (List.replicate n false) from Kd.R_lower (Kd.R_mono hr3 (fun _ _ => trivial)) (Nat.zero_le _)); have HB3 := Aside0.mk hb3; clear hr3 hb3 hg3 ho3 hg3l)
  try go_frame
  clear x0'
  go_loopg [26] (m + 1) (fun kq v26 wr => ∃ (i : Nat) (O : List Bool), v26 = .int .i64 i ∧ Aside0 (kq + i = m + 1 ∧ i ≤ m) ∧ Aside0 (BL wr g3 n c3 O) ∧ Aside0 (OneI s but l F O i) ∧ Aside0 (Below w.heap.size w wr))
  case atStart => exact ⟨0, _, rfl, ⟨by omega, by omega⟩, HR3, ⟨⟨by rw [List.length_replicate]; exact HN.out, fun j hj => by rw [if_neg (by omega), List.getD_eq_getElem?_getD, List.getElem?_replicate]; split <;> rfl⟩⟩, HB3⟩
  case round =>
    clear HR3 HB3
    obtain ⟨i, O, rfl, HK, HO, HI, HB⟩ := hrel
    cases gk with
    | zero => have := HK.out; omega
    | succ k1 =>
    by_cases hi : i < m
    · have hi' : (i : Int) < (m : Int) := by omega
      have HIM := Aside0.mk hi
      have hin : i + 1 < n := by have h1 := HN.out; have h2 := HM.out; omega
      obtain ⟨gl, hA, c1⟩ := (HL.out.below HB.out).cell i hi
      subst hA
      obtain ⟨c2, _⟩ := (HF.out.below HB.out).cell i (by omega)
      obtain ⟨ch, hch⟩ : ∃ ch, l.getD i 0 = ch := ⟨_, rfl⟩
      rw [hch] at c1
      have HCH := Aside0.mk hch
      clear hch
      obtain ⟨a, ha⟩ : ∃ a, F.getD i false = a := ⟨_, rfl⟩
      rw [ha] at c2
      have HA := Aside0.mk ha
      clear ha hi
      cases a with
      | false =>
        obtain ⟨c3', f3⟩ := HO.out.cell (i + 1) hin
        go_wp2_with (fail)
        go_roundg k1
        case measure => omega
        case rel => exact ⟨i + 1, O.set (i + 1) false, by first | rfl | (simp; done) | (rw [wrap64_self (n := (i : Int) + 1) (by omega) (by omega)]; first | rfl | (simp; done)), ⟨by have := HK.out; omega, by have := HIM.out; omega⟩, ⟨HO.out.put (i + 1) false⟩, ⟨HI.out.put (by have h1 := HIM.out; have h2 := HM.out; omega) (by rw [HA.out]; rfl)⟩, ⟨Below.far_ HB.out HG3.out _ _⟩⟩
      | true =>
        go_wp2_with (go_at_call 41; (with_reducible refine (has_calls (HND.out.below HB.out) _).mono ?_); rintro e w2 ⟨rfl, hb⟩; have HB2 := Aside0.mk (HB.out.trans (hb.mono HB.out.size)); have HO2 := Aside0.mk (HO.out.below hb); clear hb c1 c2; obtain ⟨c3', f3⟩ := HO2.out.cell (i + 1) hin)
        go_roundg k1
        case measure => omega
        case rel => exact ⟨i + 1, O.set (i + 1) (hasF s but ch), by first | rfl | (simp; done) | (rw [wrap64_self (n := (i : Int) + 1) (by omega) (by omega)]; first | rfl | (simp; done)), ⟨by have := HK.out; omega, by have := HIM.out; omega⟩, ⟨HO2.out.put (i + 1) _⟩, ⟨HI.out.put (by have h1 := HIM.out; have h2 := HM.out; omega) (by rw [HA.out, Bool.true_and, HCH.out])⟩, ⟨Below.far_ HB2.out HG3.out _ _⟩⟩
    · have hi' : ¬ (i : Int) < (m : Int) := by omega
      have HE := Aside0.mk (show i = l.length by have h1 := HK.out; have h2 := HM.out; omega)
      clear hi
      go_wp2_with (fail)
      go_ret
      have hI := HI.out
      rw [HE.out] at hI
      exact ⟨g3, c3, rfl, by rw [← hI.fin (by have h1 := HFL.out; have h2 := HN.out; omega)]; exact HO.out, .inl HG3.out, HB.out⟩
end Go.Proofs.YtmfpikhmeacnbaaDoor.X

/- Patterns by hand: ends of lists of parts, often (mkX16.py). -/
namespace Go.Proofs.YtmfpikhmeacnbaaDoor.X
open Go.RowKit Go.Proofs.YtmfpikhmeacnbaaDoor.Q Go.Proofs.YtmfpikhmeacnbaaDoorW.PrintWords Go.Proofs.YtmfpikhmeacnbaaDoorW.PrintLast Go.Proofs.YtmfpikhmeacnbaaDoorW.PrintMore
set_option linter.unusedVariables false
set_option linter.unusedSimpArgs false
structure EndsOk (N : Nat) : Prop where
  go : ∀ {p : Pt}, p.sz < N → p.WF → ∀ {w : World} {B q : Nat} {ok : Nat → Prop}, Tr w B ok q p → ∀ {A : Option Addr} {m cl : Nat} {l : List Int}, RI w A m cl l → ∀ {g n c : Nat} {F : List Bool}, BL w g n c F → n = l.length + 1 → n ≤ 1000000 →
    Calls Tryd.prog 28 #[.pointer (some ⟨q, 0, none⟩), .slice A m cl, .slice (some ⟨g, 0, none⟩) n c] w (EndsP w g n F (endsF p l F))
/-- A round of a list of parts. -/
theorem kid_step {w : World} {B : Nat} {ok : Nat → Prop} {p : Pt} {cs : List Nat} (h : TT w B ok p cs) (hw : p.WF) {i : Nat} (hi : i < cs.length) : ∃ x, Tr w B ok cs[i] x ∧ x.sz < p.sz ∧ x.WF ∧ ∀ {α : Type} (f : α → Pt → α) (a : α), (p.kids.drop i).foldl f a = (p.kids.drop (i + 1)).foldl f (f a x) := by
  obtain ⟨h1, h2⟩ := kids_at h
  have hi' : i < p.kids.length := by omega
  have hm : p.kids[i] ∈ p.kids := List.getElem_mem hi'
  exact ⟨p.kids[i], h2 i hi hi', kids_sz p _ hm, kids_wf p hw _ hm, fun f a => by rw [List.drop_eq_getElem_cons hi']; rfl⟩
theorem kids_end {w : World} {B : Nat} {ok : Nat → Prop} {p : Pt} {cs : List Nat} (h : TT w B ok p cs) {α : Type} (f : α → Pt → α) (a : α) : (p.kids.drop cs.length).foldl f a = a := by rw [(kids_at h).1, List.drop_length]; rfl
theorem orL_place {n : Nat} {F : List Bool} : True := trivial
set_option maxHeartbeats 2000000 in
set_option maxRecDepth 100000 in
theorem ends_many {N : Nat} (IH : EndsOk N) {p : Pt} (hsz : p.sz ≤ N) (hwf : p.WF) (hk : p.kind = 1) {w : World} {B q : Nat} {ok : Nat → Prop} (h : Tr w B ok q p) {A : Option Addr} {m cl : Nat} {l : List Int} (hl : RI w A m cl l) {g n c : Nat} {F : List Bool} (hF : BL w g n c F) (hn : n = l.length + 1) (hs : n ≤ 1000000) :
    Calls Tryd.prog 28 #[.pointer (some ⟨q, 0, none⟩), .slice A m cl, .slice (some ⟨g, 0, none⟩) n c] w (EndsP w g n F (endsF p l F)) := by
  rw [many_fold p hwf hk l F]
  obtain ⟨OUT, hOUT⟩ : ∃ O, p.kids.foldl (fun F x => endsF x l F) F = O := ⟨_, rfl⟩
  rw [hOUT]
  have IH := Aside0.mk IH
  have HSZ := Aside0.mk hsz
  have HWF := Aside0.mk hwf
  have HL := Aside0.mk hl
  have HF := Aside0.mk hF
  have HN := Aside0.mk hn
  have HS := Aside0.mk hs
  obtain ⟨cs, htt, hok, _, vs, vp, hq, _, hp⟩ := h
  have HTT := Aside0.mk htt
  have HKP := Aside0.mk hp
  have HQ := Aside0.mk hq
  obtain ⟨Ak, ck, rfl⟩ := Kd.R_slice hp
  have HCM := Aside0.mk (R_max hp)
  obtain ⟨x0, x1, x2, x3, x4, x5⟩ := nd_cell hq
  rw [hk] at x0
  have x0' := x0
  clear hsz hwf hl hF hn htt hok hq hp x0 x1 x2 x3 x5 hk
  have HFO := Aside0.mk hOUT
  clear hOUT
  go_enter Tryd.func28, Tryd.ntmps28
  go_wp2_with (fail)
  try go_frame
  clear x0' x4
  go_loopg [2, 53] (cs.length + 1) (fun kq v2 v53 wr => ∃ (i gf cf : Nat) (Fi : List Bool), v2 = .slice (some ⟨gf, 0, none⟩) n cf ∧ v53 = .int .i64 i ∧ Aside0 (kq + i = cs.length + 1 ∧ i ≤ cs.length) ∧ Aside0 (BL wr gf n cf Fi) ∧ Aside0 (w.heap.size ≤ gf ∨ (gf = g ∧ Fi = F)) ∧ Aside0 ((p.kids.drop i).foldl (fun F x => endsF x l F) Fi = OUT) ∧ Aside0 (Below w.heap.size w wr))
  case atStart => exact ⟨0, g, c, F, rfl, rfl, ⟨by omega, by omega⟩, HF, ⟨.inr ⟨rfl, rfl⟩⟩, ⟨by rw [List.drop_zero]; exact HFO.out⟩, ⟨Below.refl _ _⟩⟩
  case round =>
    clear HFO
    obtain ⟨i, gf, cf, Fi, rfl, rfl, HK, HFi, HG, HO, HB⟩ := hrel
    cases gk with
    | zero => have := HK.out; omega
    | succ k1 =>
    by_cases hi : i < cs.length
    · have hi' : (i : Int) < (cs.length : Int) := by omega
      have HIM := Aside0.mk hi
      obtain ⟨x, hx1, hx2, hx3, hx4⟩ := kid_step HTT.out HWF.out hi
      have HX1 := Aside0.mk (hx1.below HB.out)
      have HX2 := Aside0.mk (show x.sz < N from Nat.lt_of_lt_of_le hx2 HSZ.out)
      have HX3 := Aside0.mk hx3
      have HO2 := Aside0.mk ((hx4 (fun F x => endsF x l F) Fi).symm.trans HO.out)
      obtain ⟨gk2, hA, c1⟩ := kP_cell (Kd.R_below HKP.out HB.out) i hi
      subst hA
      generalize cs[i] = qi at *
      clear hx1 hx2 hx3 hx4 hi
      go_wp2_with (go_at_call 28; (with_reducible refine (IH.out.go HX2.out HX3.out HX1.out (HL.out.below HB.out) HFi.out HN.out HS.out).mono ?_); rintro e w2 ⟨g2, c2, rfl, hb2, hg2, hb⟩; have HF2 := Aside0.mk hb2; have HG2 := Aside0.mk hg2; have HB2 := Aside0.mk (HB.out.trans (hb.mono HB.out.size)); clear hb2 hg2 hb)
      go_roundg k1
      case measure => omega
      case rel => exact ⟨i + 1, g2, c2, _, rfl, by first | rfl | (simp; done) | (rw [wrap64_self (n := (i : Int) + 1) (by omega) (by have h1 := HCM.out; have h2 := HIM.out; unfold maxLen at h1; omega)]; first | rfl | (simp; done)), ⟨by have := HK.out; omega, by have := HIM.out; omega⟩, HF2, ⟨by
        rcases HG2.out with h | ⟨h1, h2⟩
        · exact .inl (Nat.le_trans HB.out.size h)
        · rw [h1, h2]; exact HG.out⟩, HO2, HB2⟩
    · have hi' : ¬ (i : Int) < (cs.length : Int) := by omega
      have HE := Aside0.mk (show i = cs.length by have h1 := HK.out; omega)
      clear hi
      go_wp2_with (fail)
      go_ret
      have ho := HO.out
      rw [HE.out, kids_end HTT.out] at ho
      rw [← ho]
      exact ⟨gf, cf, rfl, HFi.out, HG.out, HB.out⟩
set_option maxHeartbeats 2000000 in
set_option maxRecDepth 100000 in
theorem ends_alike {N : Nat} (IH : EndsOk N) {p : Pt} (hsz : p.sz ≤ N) (hwf : p.WF) (hk : p.kind = 2) {w : World} {B q : Nat} {ok : Nat → Prop} (h : Tr w B ok q p) {A : Option Addr} {m cl : Nat} {l : List Int} (hl : RI w A m cl l) {g n c : Nat} {F : List Bool} (hF : BL w g n c F) (hn : n = l.length + 1) (hs : n ≤ 1000000) :
    Calls Tryd.prog 28 #[.pointer (some ⟨q, 0, none⟩), .slice A m cl, .slice (some ⟨g, 0, none⟩) n c] w (EndsP w g n F (endsF p l F)) := by
  rw [alike_fold p hwf hk l F]
  obtain ⟨OUT, hOUT⟩ : ∃ O, p.kids.foldl (fun O x => orL O (endsF x l F)) (List.replicate (l.length + 1) false) = O := ⟨_, rfl⟩
  rw [hOUT]
  rw [← hn] at hOUT
  have IH := Aside0.mk IH
  have HSZ := Aside0.mk hsz
  have HWF := Aside0.mk hwf
  have HL := Aside0.mk hl
  have HF := Aside0.mk hF
  have HN := Aside0.mk hn
  have HS := Aside0.mk hs
  obtain ⟨cs, htt, hok, _, vs, vp, hq, _, hp⟩ := h
  have HTT := Aside0.mk htt
  have HKP := Aside0.mk hp
  have HQ := Aside0.mk hq
  obtain ⟨Ak, ck, rfl⟩ := Kd.R_slice hp
  have HCM := Aside0.mk (R_max hp)
  obtain ⟨x0, x1, x2, x3, x4, x5⟩ := nd_cell hq
  rw [hk] at x0
  have x0' := x0
  clear hsz hwf hl hF hn htt hok hq hp x0 x1 x2 x3 x5 hk
  have HFO := Aside0.mk hOUT
  clear hOUT
  go_enter Tryd.func28, Tryd.ntmps28
  go_wp2_with (first
    | ((with_reducible refine gate_dst (N := 67) rfl ?_); refine Kd.R_make Kd.bool (w0 := w) w.heap.size 4 rfl rfl 65 (.tmp 66) (.tmp 66) rfl (n : Int) rfl rfl Tryd.underlying65 (.bool false) 1 info4 rfl (by decide) (by decide) false (ok := fun k => w.heap.size ≤ k) (okp := fun _ => False) rfl (fun _ h => h.elim) (Nat.le_refl _) (by omega) (by simp only [Int.toNat_natCast]; omega) (Below.refl _ _) (Nat.le_refl _) ?_; intro v3 w3 hr3 hb3 hg3 ho3; simp only [Int.toNat_natCast] at hr3; obtain ⟨g3, c3, hv3, hg3l, _⟩ := Kd.R_form hr3 (by rw [List.length_replicate]; have := HN.out; omega); rw [List.length_replicate] at hv3; subst hv3; have HG3 := Aside0.mk hg3l; have HR3 := Aside0.mk (show BL w3 g3 n c3 (List.replicate n false) from Kd.R_lower (Kd.R_mono hr3 (fun _ _ => trivial)) (Nat.zero_le _)); have HB3 := Aside0.mk hb3; clear hr3 hg3 ho3 hg3l x4; have x4 := (nd_cell ((hb3.block q (blk_lt HQ.out)).trans HQ.out)).2.2.2.2.1; clear hb3))
  try go_frame
  clear x0' x4
  go_loopg [73] (cs.length + 1) (fun kq v73 wr => ∃ (i : Nat) (O : List Bool), v73 = .int .i64 i ∧ Aside0 (kq + i = cs.length + 1 ∧ i ≤ cs.length) ∧ Aside0 (BL wr g3 n c3 O) ∧ Aside0 ((p.kids.drop i).foldl (fun O x => orL O (endsF x l F)) O = OUT) ∧ Aside0 (Below w.heap.size w wr))
  case atStart => exact ⟨0, _, rfl, ⟨by omega, by omega⟩, HR3, ⟨by rw [List.drop_zero]; exact HFO.out⟩, HB3⟩
  case round =>
    clear HFO HR3 HB3
    obtain ⟨i, O, rfl, HK, HO3, HO, HB⟩ := hrel
    cases gk with
    | zero => have := HK.out; omega
    | succ k1 =>
    by_cases hi : i < cs.length
    · have hi' : (i : Int) < (cs.length : Int) := by omega
      have HIM := Aside0.mk hi
      obtain ⟨x, hx1, hx2, hx3, hx4⟩ := kid_step HTT.out HWF.out hi
      have HX1 := Aside0.mk (hx1.below HB.out)
      have HX2 := Aside0.mk (show x.sz < N from Nat.lt_of_lt_of_le hx2 HSZ.out)
      have HX3 := Aside0.mk hx3
      have HO2 := Aside0.mk ((hx4 (fun O x => orL O (endsF x l F)) O).symm.trans HO.out)
      obtain ⟨gk2, hA, c1⟩ := kP_cell (Kd.R_below HKP.out HB.out) i hi
      subst hA
      generalize cs[i] = qi at *
      clear hx1 hx2 hx3 hx4 hi
      go_wp2_with (first
        | (go_at_call 28; (with_reducible refine (IH.out.go HX2.out HX3.out HX1.out (HL.out.below HB.out) (HF.out.below HB.out) HN.out HS.out).mono ?_); rintro e w2 ⟨g2, c2, rfl, hb2, hg2, hb⟩; have HF2 := Aside0.mk hb2; have HB2 := Aside0.mk (HB.out.trans (hb.mono HB.out.size)); have HO4 := Aside0.mk (HO3.out.below hb); clear hb2 hg2 hb)
        | (go_at_call 42; (with_reducible refine (join_calls HO4.out HF2.out HS.out).mono ?_); rintro e w4 ⟨more, rfl, hm, hb4, hs4⟩; have HO5 := Aside0.mk hb4; have HB5 := Aside0.mk (below_stp HB2.out hs4 HG3.out); clear hm hb4 hs4))
      go_roundg k1
      case measure => omega
      case rel => exact ⟨i + 1, _, by first | rfl | (simp; done) | (rw [wrap64_self (n := (i : Int) + 1) (by omega) (by have h1 := HCM.out; have h2 := HIM.out; unfold maxLen at h1; omega)]; first | rfl | (simp; done)), ⟨by have := HK.out; omega, by have := HIM.out; omega⟩, HO5, HO2, HB5⟩
    · have hi' : ¬ (i : Int) < (cs.length : Int) := by omega
      have HE := Aside0.mk (show i = cs.length by have h1 := HK.out; omega)
      clear hi
      go_wp2_with (fail)
      go_ret
      have ho := HO.out
      rw [HE.out, kids_end HTT.out] at ho
      rw [← ho]
      exact ⟨g3, c3, rfl, HO3.out, .inl HG3.out, HB.out⟩
/-- What comes of a part that comes again, for the first time. -/
def onceF (p : Pt) (s : Int) (l : List Int) (F : List Bool) : List Bool := if s = 43 then endsF p l F else orL (endsF p l F) F
theorem BL.keep {w w1 : World} {g n c b : Nat} {L : List Bool} (h : BL w g n c L) (hs : Stp b w w1) (hb : g ≠ b) : BL w1 g n c L := h.step (hs.block g h.lt hb)
set_option maxHeartbeats 2000000 in
set_option maxRecDepth 100000 in
theorem often_calls {N : Nat} (IH : EndsOk N) {p : Pt} {sg : Int} (hsz : (Pt.again p sg).sz ≤ N) (hwf : p.WF) {w : World} {B q : Nat} {ok : Nat → Prop} (h : Tr w B ok q (.again p sg)) {A : Option Addr} {m cl : Nat} {l : List Int} (hl : RI w A m cl l) {g n c : Nat} {F : List Bool} (hF : BL w g n c F) (hn : n = l.length + 1) (hs : n ≤ 1000000) :
    Calls Tryd.prog 43 #[.pointer (some ⟨q, 0, none⟩), .slice A m cl, .slice (some ⟨g, 0, none⟩) n c] w (EndsP w g n F (endsF (.again p sg) l F)) := by
  have HSZ := Aside0.mk (show p.sz < N from Nat.lt_of_lt_of_le (Nat.lt_succ_self _) hsz)
  have IH := Aside0.mk IH
  have HWF := Aside0.mk hwf
  have HL := Aside0.mk hl
  have HF := Aside0.mk hF
  have HN := Aside0.mk hn
  have HS := Aside0.mk hs
  have HFL := Aside0.mk hF.len
  obtain ⟨cs, ⟨b, cb, ecs, htt, hnd⟩, hok, _, vs, vp, hq, _, hp⟩ := h
  subst ecs
  have HT := Aside0.mk (show Tr w B ok b p from ⟨cb, htt, hnd⟩)
  obtain ⟨Ak, ck, rfl⟩ := Kd.R_slice hp
  obtain ⟨x0, x1, x2, x3, x4, x5⟩ := nd_cell hq
  have HQ := Aside0.mk (show w.heap[q]? = some (.cells (ndL 3 vs false false (.slice Ak 1 ck) sg).toArray 74 (0, 0)) from hq)
  obtain ⟨gk2, hA, y0⟩ := kP_cell hp 0 (by simp)
  subst hA
  have y0' : w.cell? ⟨gk2, 0, none⟩ = some (.pointer (some ⟨b, 0, none⟩)) := y0
  have x5' : w.cell? ⟨q, 5, none⟩ = some (.int .i32 sg) := x5
  have x4' : w.cell? ⟨q, 4, none⟩ = some (.slice (some ⟨gk2, 0, none⟩) 1 ck) := x4
  obtain ⟨OUT, hOUT⟩ : ∃ O, endsF (.again p sg) l F = O := ⟨_, rfl⟩
  rw [hOUT]
  have HOUT := Aside0.mk hOUT
  have hn0 : 0 < n := by omega
  clear hsz hwf hl hF hn htt hnd hok hq hp y0 x0 x1 x2 x3 x4 x5 hOUT
  have hcs : (sg = 43) ∨ (sg = 63) ∨ ((sg != 43) = true ∧ (sg == 63) = false) := by
    by_cases e : sg = 43
    · exact .inl e
    · by_cases e2 : sg = 63
      · exact .inr (.inl e2)
      · exact .inr (.inr ⟨bne_iff_ne.2 e, beq_eq_false_iff_ne.2 e2⟩)
  rcases hcs with rfl | rfl | ⟨s1, s2⟩
  · have HOUT2 := Aside0.mk (show clo (endsF p l) (l.length + 2) (endsF p l F) = OUT by rw [← HOUT.out, endsF, if_neg (by decide), if_pos rfl])
    go_enter Tryd.func43, Tryd.ntmps43
    go_wp2_with (first
      | (go_at_call 28; (with_reducible refine (IH.out.go HSZ.out HWF.out HT.out HL.out HF.out HN.out HS.out).mono ?_); rintro e w2 ⟨g2, c2, rfl, hb2, hg2, hb⟩; have HE2 := Aside0.mk hb2; have HB2 := Aside0.mk hb; have x5'' := (nd_cell ((hb.block q (blk_lt HQ.out)).trans HQ.out)).2.2.2.2.2; clear hb2 hg2 hb)
      | (go_at_call 50; (with_reducible refine (clone_calls HE2.out hn0 HS.out).mono ?_); rintro e w3 ⟨v3, rfl, ⟨g9, c9, hv, hg9, hbl⟩, hb⟩; rw [← HE2.out.len.1] at hv hbl; subst hv; have HC3 := Aside0.mk hbl; have HG9 := Aside0.mk (Nat.le_trans HB2.out.size hg9); have HB3 := Aside0.mk (HB2.out.trans (hb.mono HB2.out.size)); have HQ3 := Aside0.mk ((hb.block q (Nat.lt_of_lt_of_le (blk_lt HQ.out) HB2.out.size)).trans ((HB2.out.block q (blk_lt HQ.out)).trans HQ.out)); have z5 := (nd_cell HQ3.out).2.2.2.2.2; clear hb hg9 hbl x5''))
    have HO9 := Aside0.mk HC3.out
    have HB9 := Aside0.mk HB3.out
    clear HC3 HB3 HE2 HB2
    try go_frame
    clear y0' x5' x4'
    go_loopg [] (l.length + 2) (fun kq wr => ∃ (O : List Bool), Aside0 (clo (endsF p l) kq O = OUT ∧ l.length + 2 ≤ kq + cnt O) ∧ Aside0 (BL wr g9 n c9 O) ∧ Aside0 (Below w.heap.size w wr))
    case atStart => exact ⟨_, ⟨HOUT2.out, by omega⟩, HO9, HB9⟩
    case round =>
      clear HOUT2 HO9 HB9
      obtain ⟨O, HO, HBL, HB⟩ := hrel
      have HOL := Aside0.mk (show O.length = l.length + 1 from by rw [← HN.out]; exact HBL.out.len.1.symm)
      cases gk with
      | zero => have h1 := HO.out.2; have h2 := cnt_le O; have h3 := HOL.out; omega
      | succ k1 =>
      have HOE := Aside0.mk (orL_more O (endsF p l O) (by rw [HOL.out, ends_len p l O HOL.out]))
      by_cases he : orL O (endsF p l O) = O
      · have HX := Aside0.mk (show O = OUT by have h := HO.out.1; rw [clo, if_pos he] at h; exact h)
        have HE := Aside0.mk he
        clear he
        go_wp2_with (first
          | (go_at_call 28; (with_reducible refine (IH.out.go HSZ.out HWF.out (HT.out.below HB.out) (HL.out.below HB.out) HBL.out HN.out HS.out).mono ?_); rintro e w5 ⟨g5, c5, rfl, hb5, hg5, hb⟩; have HF5 := Aside0.mk hb5; have HB5 := Aside0.mk (HB.out.trans (hb.mono HB.out.size)); have HO5 := Aside0.mk (HBL.out.below hb); clear hb5 hg5 hb)
          | (go_at_call 42; (with_reducible refine (join_calls HO5.out HF5.out HS.out).mono ?_); rintro e w6 ⟨more, rfl, hm, hb6, hs6⟩; have hm' := hm.2 HE.out; subst hm'; have HO6 := Aside0.mk hb6; have HB6 := Aside0.mk (below_stp HB5.out hs6 HG9.out); clear hm hb6 hs6))
        go_ret
        rw [← HX.out]
        exact ⟨g9, c9, rfl, by have := HO6.out; rw [HE.out] at this; exact this, .inl HG9.out, HB6.out⟩
      · have HX := Aside0.mk (show clo (endsF p l) k1 (orL O (endsF p l O)) = OUT by have h := HO.out.1; rw [clo, if_neg he] at h; exact h)
        have HE := Aside0.mk he
        clear he
        go_wp2_with (first
          | (go_at_call 28; (with_reducible refine (IH.out.go HSZ.out HWF.out (HT.out.below HB.out) (HL.out.below HB.out) HBL.out HN.out HS.out).mono ?_); rintro e w5 ⟨g5, c5, rfl, hb5, hg5, hb⟩; have HF5 := Aside0.mk hb5; have HB5 := Aside0.mk (HB.out.trans (hb.mono HB.out.size)); have HO5 := Aside0.mk (HBL.out.below hb); clear hb5 hg5 hb)
          | (go_at_call 42; (with_reducible refine (join_calls HO5.out HF5.out HS.out).mono ?_); rintro e w6 ⟨more, rfl, hm, hb6, hs6⟩; have hm' : more = true := (by cases more; exact absurd (hm.1 rfl) HE.out; rfl); subst hm'; have HO6 := Aside0.mk hb6; have HB6 := Aside0.mk (below_stp HB5.out hs6 HG9.out); clear hm hb6 hs6))
        go_roundg k1
        case measure => omega
        case rel => exact ⟨_, ⟨HX.out, by have h1 := HO.out.2; have h2 := HOE.out.2 HE.out; omega⟩, HO6, HB6⟩
  · have HOUT2 := Aside0.mk (show orL (endsF p l F) F = OUT by rw [← HOUT.out, endsF, if_pos rfl, if_neg (by decide)])
    go_enter Tryd.func43, Tryd.ntmps43
    go_wp2_with (first
      | (go_at_call 28; (with_reducible refine (IH.out.go HSZ.out HWF.out HT.out HL.out HF.out HN.out HS.out).mono ?_); rintro e w2 ⟨g2, c2, rfl, hb2, hg2, hb⟩; have HE2 := Aside0.mk hb2; have HB2 := Aside0.mk hb; have x5'' := (nd_cell ((hb.block q (blk_lt HQ.out)).trans HQ.out)).2.2.2.2.2; clear hb2 hg2 hb)
      | (go_at_call 50; (with_reducible refine (clone_calls HE2.out hn0 HS.out).mono ?_); rintro e w3 ⟨v3, rfl, ⟨g9, c9, hv, hg9, hbl⟩, hb⟩; rw [← HE2.out.len.1] at hv hbl; subst hv; have HC3 := Aside0.mk hbl; have HG9 := Aside0.mk (Nat.le_trans HB2.out.size hg9); have HB3 := Aside0.mk (HB2.out.trans (hb.mono HB2.out.size)); have HQ3 := Aside0.mk ((hb.block q (Nat.lt_of_lt_of_le (blk_lt HQ.out) HB2.out.size)).trans ((HB2.out.block q (blk_lt HQ.out)).trans HQ.out)); have z5 := (nd_cell HQ3.out).2.2.2.2.2; clear hb hg9 hbl x5'')
      | (go_at_call 42; (with_reducible refine (join_calls HC3.out (HF.out.below HB3.out) HS.out).mono ?_); rintro e w4 ⟨more, rfl, hm, hb4, hs4⟩; have HC4 := Aside0.mk hb4; have HB4 := Aside0.mk (below_stp HB3.out hs4 HG9.out); have z6 := (nd_cell ((HB4.out.block q (blk_lt HQ.out)).trans HQ.out)).2.2.2.2.2; clear hm hb4 hs4 z5))
    go_ret
    rw [← HOUT2.out]
    exact ⟨g9, _, rfl, HC4.out, .inl HG9.out, HB4.out⟩
  · have HOUT2 := Aside0.mk (show clo (endsF p l) (l.length + 2) (orL (endsF p l F) F) = OUT by rw [← HOUT.out, endsF, if_neg (beq_eq_false_iff_ne.1 s2), if_neg (bne_iff_ne.1 s1)])
    go_enter Tryd.func43, Tryd.ntmps43
    go_wp2_with (first
      | (go_at_call 28; (with_reducible refine (IH.out.go HSZ.out HWF.out HT.out HL.out HF.out HN.out HS.out).mono ?_); rintro e w2 ⟨g2, c2, rfl, hb2, hg2, hb⟩; have HE2 := Aside0.mk hb2; have HB2 := Aside0.mk hb; have x5'' := (nd_cell ((hb.block q (blk_lt HQ.out)).trans HQ.out)).2.2.2.2.2; clear hb2 hg2 hb)
      | (go_at_call 50; (with_reducible refine (clone_calls HE2.out hn0 HS.out).mono ?_); rintro e w3 ⟨v3, rfl, ⟨g9, c9, hv, hg9, hbl⟩, hb⟩; rw [← HE2.out.len.1] at hv hbl; subst hv; have HC3 := Aside0.mk hbl; have HG9 := Aside0.mk (Nat.le_trans HB2.out.size hg9); have HB3 := Aside0.mk (HB2.out.trans (hb.mono HB2.out.size)); have HQ3 := Aside0.mk ((hb.block q (Nat.lt_of_lt_of_le (blk_lt HQ.out) HB2.out.size)).trans ((HB2.out.block q (blk_lt HQ.out)).trans HQ.out)); have z5 := (nd_cell HQ3.out).2.2.2.2.2; clear hb hg9 hbl x5'')
      | (go_at_call 42; (with_reducible refine (join_calls HC3.out (HF.out.below HB3.out) HS.out).mono ?_); rintro e w4 ⟨more, rfl, hm, hb4, hs4⟩; have HC4 := Aside0.mk hb4; have HB4 := Aside0.mk (below_stp HB3.out hs4 HG9.out); have z6 := (nd_cell ((HB4.out.block q (blk_lt HQ.out)).trans HQ.out)).2.2.2.2.2; clear hm hb4 hs4 z5))
    have HO9 := Aside0.mk HC4.out
    have HB9 := Aside0.mk HB4.out
    clear HC4 HB4 HE2 HB2
    try go_frame
    clear y0' x5' x4'
    go_loopg [] (l.length + 2) (fun kq wr => ∃ (O : List Bool), Aside0 (clo (endsF p l) kq O = OUT ∧ l.length + 2 ≤ kq + cnt O) ∧ Aside0 (BL wr g9 n c9 O) ∧ Aside0 (Below w.heap.size w wr))
    case atStart => exact ⟨_, ⟨HOUT2.out, by omega⟩, HO9, HB9⟩
    case round =>
      clear HOUT2 HO9 HB9
      obtain ⟨O, HO, HBL, HB⟩ := hrel
      have HOL := Aside0.mk (show O.length = l.length + 1 from by rw [← HN.out]; exact HBL.out.len.1.symm)
      cases gk with
      | zero => have h1 := HO.out.2; have h2 := cnt_le O; have h3 := HOL.out; omega
      | succ k1 =>
      have HOE := Aside0.mk (orL_more O (endsF p l O) (by rw [HOL.out, ends_len p l O HOL.out]))
      by_cases he : orL O (endsF p l O) = O
      · have HX := Aside0.mk (show O = OUT by have h := HO.out.1; rw [clo, if_pos he] at h; exact h)
        have HE := Aside0.mk he
        clear he
        go_wp2_with (first
          | (go_at_call 28; (with_reducible refine (IH.out.go HSZ.out HWF.out (HT.out.below HB.out) (HL.out.below HB.out) HBL.out HN.out HS.out).mono ?_); rintro e w5 ⟨g5, c5, rfl, hb5, hg5, hb⟩; have HF5 := Aside0.mk hb5; have HB5 := Aside0.mk (HB.out.trans (hb.mono HB.out.size)); have HO5 := Aside0.mk (HBL.out.below hb); clear hb5 hg5 hb)
          | (go_at_call 42; (with_reducible refine (join_calls HO5.out HF5.out HS.out).mono ?_); rintro e w6 ⟨more, rfl, hm, hb6, hs6⟩; have hm' := hm.2 HE.out; subst hm'; have HO6 := Aside0.mk hb6; have HB6 := Aside0.mk (below_stp HB5.out hs6 HG9.out); clear hm hb6 hs6))
        go_ret
        rw [← HX.out]
        exact ⟨g9, c9, rfl, by have := HO6.out; rw [HE.out] at this; exact this, .inl HG9.out, HB6.out⟩
      · have HX := Aside0.mk (show clo (endsF p l) k1 (orL O (endsF p l O)) = OUT by have h := HO.out.1; rw [clo, if_neg he] at h; exact h)
        have HE := Aside0.mk he
        clear he
        go_wp2_with (first
          | (go_at_call 28; (with_reducible refine (IH.out.go HSZ.out HWF.out (HT.out.below HB.out) (HL.out.below HB.out) HBL.out HN.out HS.out).mono ?_); rintro e w5 ⟨g5, c5, rfl, hb5, hg5, hb⟩; have HF5 := Aside0.mk hb5; have HB5 := Aside0.mk (HB.out.trans (hb.mono HB.out.size)); have HO5 := Aside0.mk (HBL.out.below hb); clear hb5 hg5 hb)
          | (go_at_call 42; (with_reducible refine (join_calls HO5.out HF5.out HS.out).mono ?_); rintro e w6 ⟨more, rfl, hm, hb6, hs6⟩; have hm' : more = true := (by cases more; exact absurd (hm.1 rfl) HE.out; rfl); subst hm'; have HO6 := Aside0.mk hb6; have HB6 := Aside0.mk (below_stp HB5.out hs6 HG9.out); clear hm hb6 hs6))
        go_roundg k1
        case measure => omega
        case rel => exact ⟨_, ⟨HX.out, by have h1 := HO.out.2; have h2 := HOE.out.2 HE.out; omega⟩, HO6, HB6⟩
end Go.Proofs.YtmfpikhmeacnbaaDoor.X
