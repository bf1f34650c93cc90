import Derived.Test.YtlnipfmgdkiboaaNA
import Derived.Laws.RangeAny
import Derived.Maps.RangeWalk
/- The network by hand: which texts are a tenant's name. -/
namespace Go.Proofs.Ytlnipfmgdkiboaa.N
open Go.RowKit Go.Proofs.Ytlnipfmgdkiboaa.Q Go.Proofs.YtlnipfmgdkiboaaW.PrintWords Go.Proofs.YtlnipfmgdkiboaaW.PrintLast Go.Proofs.YtlnipfmgdkiboaaW.PrintMore
set_option linter.unusedVariables false
set_option linter.unusedSimpArgs false
theorem letter_some (c : Int) : ∃ a b, labels_letter.f c = some (a, b) := by
  unfold labels_letter.f
  repeat' split
  all_goals exact ⟨_, _, rfl⟩
/-- Is what stands from a place on of letters? -/
def nameGo (s : ByteArray) : Nat → Nat → Bool
  | 0, _ => true
  | k + 1, pos => if pos < s.size then (match labels_letter.f (Utf8.decode s pos).1 with
      | some (a, b) => if a = true ∧ ¬(pos = 0 ∧ b = false) then nameGo s k (pos + (Utf8.decode s pos).2) else false
      | none => false) else true
def named (s : ByteArray) : Bool := if s.toList = [] ∨ 64 < s.size then false else nameGo s (s.size + 1) 0
def tenant (s : ByteArray) : Bool := if s.size ≤ 32 then named s else false
theorem decode_wide (s : ByteArray) (pos : Nat) (h : pos < s.size) : 1 ≤ (Utf8.decode s pos).2 := by
  by_cases ha : (s[pos]'h).toNat < 128
  · rw [decode_ascii s pos h ha]; exact Nat.le_refl _
  · exact (decode_high s pos h (by omega)).2
theorem next_str {P : Program} {w : World} {r : Nat} {s : ByteArray} {pos : Nat} (hr : w.heap[r]? = some (.stringIter s pos)) (h : pos < s.size) (ty : TypeId) :
    (Instr.next (.pointer (some ⟨r, 0, none⟩)) true ty).run P w = .ok (.tuple #[.bool true, .int .i64 pos, .int .i32 (Utf8.decode s pos).1]) (Go.ChangeMaps.setBlock w r (.stringIter s (pos + (Utf8.decode s pos).2))) := by
  simp only [Instr.next, getObj, setObj, Sem.run_bind, Sem.run, hr, Result.andThen, h, if_true]
  simp [goInt, Go.ChangeMaps.setBlock]
theorem next_str_end {P : Program} {w : World} {r : Nat} {s : ByteArray} {pos : Nat} (hr : w.heap[r]? = some (.stringIter s pos)) (h : ¬ pos < s.size) (ty : TypeId) :
    (Instr.next (.pointer (some ⟨r, 0, none⟩)) true ty).run P w = .ok (.tuple #[.bool false]) w := by
  simp [Instr.next, getObj, Sem.run, hr, h]
theorem wpList_next_str {P : Program} (w : World) {ops : Array Oper} {rest : List Oper} {o : Oper} {a : Act} {Q : Exit → Act → World → Prop}
    (hg : o.guard = none) (it : Operand) (hop : o.op = Op.next it true) (M V : Value) (hm : a.eval it = M) (w1 : World)
    (hrun : (Instr.next M true o.type).run P w = .ok V w1) (hK : wpList P ops Q rest (a.put o.dst V) w1) : wpList P ops Q (o :: rest) a w := by
  refine wpList_plain hg fun K' hK' => ?_
  unfold Oper.wp
  simp [execOp, hop, hm, hrun, Result.andThen]
  exact hK' _ _ hK
set_option maxHeartbeats 1000000 in
set_option maxRecDepth 100000 in
theorem named_calls (s : ByteArray) (w : World) : Calls Try.prog 40 #[.string s] w fun e w' => e = .returned (.bool (named s)) ∧ Below w.heap.size w w' := by
  by_cases he : s.toList = []
  · have HR := Aside0.mk (show named s = false by unfold named; rw [if_pos (.inl he)])
    generalize named s = r at *
    have HR' := HR.out
    clear HR
    subst HR'
    go_enter Try.func40, Try.ntmps40
    go_wp2
    go_ret
    exact ⟨rfl, Below.refl _ _⟩
  by_cases hl : 64 < s.size
  · have HR := Aside0.mk (show named s = false by unfold named; rw [if_pos (.inr hl)])
    have hl' : (s.size : Int) > 64 := by omega
    generalize named s = r at *
    have HR' := HR.out
    clear HR
    subst HR'
    go_enter Try.func40, Try.ntmps40
    go_wp2
    go_ret
    exact ⟨rfl, Below.refl _ _⟩
  have HR := Aside0.mk (show named s = nameGo s (s.size + 1) 0 by unfold named; rw [if_neg (fun h => h.elim he hl)])
  have hl' : ¬ (s.size : Int) > 64 := by omega
  generalize named s = r at *
  obtain ⟨w1, hw1⟩ : ∃ w1, w1 = w.iter s 0 := ⟨_, rfl⟩
  have hrg : (Instr.range 9 (.string s)).run Try.prog w = .ok (.pointer (some ⟨w.heap.size, 0, none⟩)) w1 := by rw [hw1]; exact run_range_string w 9 s Try.underlying9
  have HI := Aside0.mk (show w1.heap[w.heap.size]? = some (.stringIter s 0) by rw [hw1]; exact World.iter_heap w s 0)
  have HB := Aside0.mk (show Below w.heap.size w w1 by rw [hw1]; exact below_alloc (Below.refl _ _) _)
  clear hw1
  have HE := Aside0.mk he
  have hemp : s.toList.isEmpty = false := by
    cases h : s.toList with
    | nil => exact absurd h he
    | cons _ _ => rfl
  have HL := Aside0.mk hl
  go_enter Try.func40, Try.ntmps40
  go_wp2
  clear hrg he hl hl' hemp
  try go_frame
  go_loopg [3] (s.size + 1) (fun kq v3 wr => ∃ (pos : Nat), Aside0 (nameGo s kq pos = r) ∧ Aside0 (s.size < kq + pos ∧ 0 < kq) ∧ Aside0 (wr.heap[w.heap.size]? = some (.stringIter s pos)) ∧ Aside0 (Below w.heap.size w wr))
  case atStart => exact ⟨0, ⟨HR.out.symm⟩, ⟨by omega⟩, HI, HB⟩
  case round =>
    obtain ⟨pos, HA, HK, HI1, HB1⟩ := hrel
    cases gk with
    | zero => have := HK.out; omega
    | succ k1 =>
    by_cases hp : pos < s.size
    · have hnx := next_str (P := Try.prog) HI1.out hp 0
      have HW := Aside0.mk (decode_wide s pos hp)
      obtain ⟨a, b, hf⟩ := letter_some ((Utf8.decode s pos).1 : Int)
      have hA := HA.out
      unfold nameGo at hA
      rw [if_pos hp, hf] at hA
      dsimp only at hA
      have HF := Aside0.mk hf
      have HA' := Aside0.mk hA
      have hrl : w.heap.size < wr.heap.size := (Array.getElem?_eq_some_iff.1 HI1.out).1
      have HS := Aside0.mk (MapKept.heap_set (o' := .stringIter s (pos + (Utf8.decode s pos).2)) HI1.out)
      have HBS := Aside0.mk (show Below w.heap.size w (Go.ChangeMaps.setBlock wr w.heap.size (.stringIter s (pos + (Utf8.decode s pos).2))) from ⟨HB1.out.os, HB1.out.tape, HB1.out.output, by simpa [Go.ChangeMaps.setBlock] using HB1.out.size, fun k hk => ((MapKept.heap_set HI1.out).2 k (by omega)).trans (HB1.out.block k hk)⟩)
      have HS1 := Aside0.mk (show (Go.ChangeMaps.setBlock wr w.heap.size (.stringIter s (pos + (Utf8.decode s pos).2))).heap[w.heap.size]? = some (.stringIter s (pos + (Utf8.decode s pos).2)) from HS.out.1)
      clear hA hf HA HS hrl
      generalize Go.ChangeMaps.setBlock wr w.heap.size (.stringIter s (pos + (Utf8.decode s pos).2)) = w2 at *
      generalize (Utf8.decode s pos).2 = n at *
      generalize (Utf8.decode s pos).1 = c at *
      have HX := Aside0.mk (show ∀ (nd : Nat), (s.size < k1 + (pos + n) ∧ 0 < k1) ∧ (w2.drewN nd).heap[w.heap.size]? = some (.stringIter s (pos + n)) ∧ Below w.heap.size w (w2.drewN nd) from fun nd => ⟨by have h1 := HK.out; have h2 := HW.out; exact ⟨by omega, by omega⟩, HS1.out, pw_below_drewN HBS.out nd⟩)
      rcases Nat.eq_zero_or_pos pos with hz | hz
      · have hz1 : (pos : Int) = 0 := by omega
        have HZ := Aside0.mk hz
        clear hz hp
        rcases a with _ | _
        · have hr : r = false := by
            have := HA'.out
            simp at this
            exact this
          subst hr
          go_wp2_with (first
            | (at_next; refine wpList_next_str _ rfl (.tmp 15) rfl _ _ rfl _ hnx ?_)
            | (go_at_call 46; (with_reducible refine (labels_letter.calls _ _ _ _ HF.out).mono ?_); rintro e w' ⟨rfl, ⟨nd, rfl⟩⟩))
          go_ret
          exact ⟨rfl, (HX.out nd).2.2⟩
        rcases b with _ | _
        · have hr : r = false := by
            have := HA'.out
            simp [HZ.out] at this
            exact this
          subst hr
          go_wp2_with (first
            | (at_next; refine wpList_next_str _ rfl (.tmp 15) rfl _ _ rfl _ hnx ?_)
            | (go_at_call 46; (with_reducible refine (labels_letter.calls _ _ _ _ HF.out).mono ?_); rintro e w' ⟨rfl, ⟨nd, rfl⟩⟩))
          go_ret
          exact ⟨rfl, (HX.out nd).2.2⟩
        · have hA2 : nameGo s k1 (pos + n) = r := by
            have h1 := HA'.out
            rwa [if_pos ⟨rfl, fun h => by cases h.2⟩] at h1
          have HA2 := Aside0.mk hA2
          clear hA2
          go_wp2_with (first
            | (at_next; refine wpList_next_str _ rfl (.tmp 15) rfl _ _ rfl _ hnx ?_)
            | (go_at_call 46; (with_reducible refine (labels_letter.calls _ _ _ _ HF.out).mono ?_); rintro e w' ⟨rfl, ⟨nd, rfl⟩⟩))
          go_roundg k1
          case measure => omega
          case rel => exact ⟨pos + n, HA2, ⟨(HX.out nd).1⟩, ⟨(HX.out nd).2.1⟩, ⟨(HX.out nd).2.2⟩⟩
      · have hz1 : ¬ (pos : Int) = 0 := by omega
        have HZ := Aside0.mk hz
        clear hz hp
        cases a
        · have hr : r = false := by
            have := HA'.out
            simp at this
            exact this
          subst hr
          go_wp2_with (first
            | (at_next; refine wpList_next_str _ rfl (.tmp 15) rfl _ _ rfl _ hnx ?_)
            | (go_at_call 46; (with_reducible refine (labels_letter.calls _ _ _ _ HF.out).mono ?_); rintro e w' ⟨rfl, ⟨nd, rfl⟩⟩))
          go_ret
          exact ⟨rfl, (HX.out nd).2.2⟩
        · have hA2 : nameGo s k1 (pos + n) = r := by
            have h1 := HA'.out
            have h2 := HZ.out
            rwa [if_pos ⟨rfl, fun h => by omega⟩] at h1
          have HA2 := Aside0.mk hA2
          clear hA2
          go_wp2_with (first
            | (at_next; refine wpList_next_str _ rfl (.tmp 15) rfl _ _ rfl _ hnx ?_)
            | (go_at_call 46; (with_reducible refine (labels_letter.calls _ _ _ _ HF.out).mono ?_); rintro e w' ⟨rfl, ⟨nd, rfl⟩⟩))
          go_roundg k1
          case measure => omega
          case rel => exact ⟨pos + n, HA2, ⟨(HX.out nd).1⟩, ⟨(HX.out nd).2.1⟩, ⟨(HX.out nd).2.2⟩⟩
    · have hr : r = true := by
        have := HA.out
        unfold nameGo at this
        rw [if_neg hp] at this
        exact this.symm
      subst hr
      have hnx := next_str_end (P := Try.prog) HI1.out hp 0
      go_wp2_with (at_next; refine wpList_next_str _ rfl (.tmp 15) rfl _ _ rfl _ hnx ?_)
      go_ret
      exact ⟨rfl, HB1.out⟩
set_option maxHeartbeats 1000000 in
set_option maxRecDepth 100000 in
theorem tenant_calls (s : ByteArray) (w : World) : Calls Try.prog 26 #[.string s] w fun e w' => e = .returned (.bool (tenant s)) ∧ Below w.heap.size w w' := by
  by_cases hl : s.size ≤ 32
  · have HT := Aside0.mk (show tenant s = named s from if_pos hl)
    have hl' : (s.size : Int) ≤ 32 := by omega
    rw [HT.out]
    generalize hn : named s = r
    have HN := Aside0.mk hn
    clear hn HT
    go_enter Try.func26, Try.ntmps26
    go_wp2_with (go_at_call 40; (with_reducible refine (named_calls s _).mono ?_); rw [HN.out]; rintro e w1 ⟨rfl, hb⟩)
    go_ret
    exact ⟨rfl, hb⟩
  · have HT := Aside0.mk (show tenant s = false from if_neg hl)
    have hl' : ¬ (s.size : Int) ≤ 32 := by omega
    rw [HT.out]
    clear HT
    go_enter Try.func26, Try.ntmps26
    go_wp2
    go_ret
    exact ⟨rfl, Below.refl _ _⟩
theorem tenant_a : tenant ⟨#[97]⟩ = true := by decide +kernel
end Go.Proofs.Ytlnipfmgdkiboaa.N
/- The network by hand: Send. -/
namespace Go.Proofs.Ytlnipfmgdkiboaa.N
open Go.RowKit Go.Proofs.Ytlnipfmgdkiboaa.Q Go.Proofs.YtlnipfmgdkiboaaW.PrintWords Go.Proofs.YtlnipfmgdkiboaaW.PrintLast Go.Proofs.YtlnipfmgdkiboaaW.PrintMore
set_option linter.unusedVariables false
set_option linter.unusedSimpArgs false
theorem ps_of {w' : World} {N M L : Nat} {room : Int} {G : ByteArray → Option Value} {s : ByteArray} {v a b : Value} (hN : w'.heap[N]? = some (.cells #[.int .i64 room, .map (some M)] 62 (0, 0))) (hM : MapF w' M G) (hG : (G s).getD (.slice none 0 0) = v) (hL : w'.heap[L]? = some (.cells #[a, b] 34 (0, 0))) :
    w'.cell? ⟨N, 1, none⟩ = some (.map (some M)) ∧ (Instr.lookup 60 (.map (some M)) (.string s) false).run Try.prog w' = .ok v w' ∧ w'.cell? ⟨L, 0, none⟩ = some a ∧ w'.cell? ⟨L, 1, none⟩ = some b :=
  ⟨(blk_cell hN 1).trans rfl, by rw [← hG]; exact hM.look Try.underlying60 Try.underlying9 (zero29 w') s, (blk_cell hL 0).trans rfl, (blk_cell hL 1).trans rfl⟩
theorem own_f (x : Int) (l : List Int) (h : l.length < 140737488355328) : net_own.f x l = some (x, l) := by
  unfold net_own.f
  simp [h]
theorem wrap64_self {n : Int} (h0 : -9223372036854775808 ≤ n) (h1 : n ≤ 9223372036854775807) : wrap64 n = n := by unfold wrap64; omega
theorem setQ_self (Q : ByteArray → List S34) (s : ByteArray) (l : List S34) : setQ Q s l s = l := if_pos rfl
theorem setQ_set (Q : ByteArray → List S34) (s : ByteArray) (l l' : List S34) : setQ (setQ Q s l) s l' = setQ Q s l' := by
  funext t
  unfold setQ
  split <;> rfl
theorem setQ_same (Q : ByteArray → List S34) (s : ByteArray) : setQ Q s (Q s) = Q := by
  funext t
  unfold setQ
  split
  · rename_i h; rw [h]
  · rfl
def send.T9 : Bool × List (List Nat × List Nat) := (true, [([], []), ([0], [0]), ([1], [1]), ([2], [2]), ([], []), ([], []), ([5], [5]), ([6], [6]), ([7], [7]), ([], []), ([8, 9], [8, 9]), ([], []), ([11], [11]), ([12], [12]), ([10, 13, 12], [10, 13]), ([3, 4, 14, 14, 0, 1, 2, 3, 4, 5, 6, 7, 8, 9, 10, 11, 12, 13, 14], [3, 4, 14])])
def send.B9 : List Nat := [0, 1, 3, 7, 0, 0, 32, 96, 224, 0, 992, 0, 2048, 6144, 16352, 32767]
theorem send.tab9 : rtab .any (opsOf Try.f10 9) = send.T9 := by kernel_rfl
theorem send.bits9 : waitsOk send.T9.2 send.B9 = true := by kernel_rfl
section
variable {w : World} {N M : Nat} {room : Int} {B : Nat} {own : Nat → Option ByteArray} {G : ByteArray → Option Value} {Q : ByteArray → List S34}
set_option maxHeartbeats 1000000 in
set_option maxRecDepth 100000 in
theorem send_bad (h : NetG w N M room B own G Q) (s : ByteArray) (v : Value) (ht : tenant s = false) :
    Calls Try.prog 10 #[.pointer (some ⟨N, 0, none⟩), .string s, v] w fun e w' => e = .returned (.tuple #[.int .i64 0, .int .i64 180]) ∧ Below w.heap.size w w' := by
  obtain ⟨c0, c1⟩ := h.cell
  have HT := Aside0.mk ht
  clear ht
  go_enter Try.func10, Try.ntmps10
  go_wp2_with (first
    | (go_at_call 25; (with_reducible refine (ok_calls N M _ c1).mono ?_); rintro e w' ⟨rfl, rfl⟩)
    | (go_at_call 26; (with_reducible refine (tenant_calls s _).mono ?_); rw [HT.out]; rintro e w1 ⟨rfl, hb⟩))
  go_ret2
  exact ⟨rfl, hb⟩
set_option maxHeartbeats 1000000 in
set_option maxRecDepth 100000 in
theorem send_calls (h : NetG w N M room B own G Q) (s : ByteArray) (A : Option Addr) (c : Nat) (ls : List S34) (ht : tenant s = true)
    (hl : ∀ w', Chg (fun k => k = M ∨ own k = some s) w w' → Kd.C k34 w' A ls.length ls) (hc : ls.length ≤ c) (hsh : ∀ x ∈ ls, x.f1.length < 140737488355328) (kk : Nat) (hk1 : kk ≤ ls.length) (hk2 : (kk : Int) + (Q s).length ≤ room) (hk3 : kk = ls.length ∨ (kk : Int) + (Q s).length = room) :
    Calls Try.prog 10 #[.pointer (some ⟨N, 0, none⟩), .string s, .slice A ls.length c] w fun e w' => ∃ own' G', e = .returned (.tuple #[.int .i64 kk, .int .i64 0]) ∧ NetG w' N M room B own' G' (setQ Q s (Q s ++ ls.take kk)) ∧ Chg (fun k => k = M ∨ own k = some s) w w' ∧ ∀ k, k < w.heap.size → own' k = own k := by
  obtain ⟨c0, c1⟩ := h.cell
  obtain ⟨Av, cv, hv, hcv, _⟩ := Kd.R_reads (h.rrows s)
  have HT := Aside0.mk ht
  have HV := Aside0.mk hv
  have HH0 := Aside0.mk h
  clear ht hv hcv h
  go_enter Try.func10, Try.ntmps10
  go_wp2_with (first
    | (go_at_call 25; (with_reducible refine (ok_calls N M _ c1).mono ?_); rintro e w' ⟨rfl, rfl⟩)
    | (go_at_call 26; (with_reducible refine (tenant_calls s _).mono ?_); rw [HT.out]; rintro e w1 ⟨rfl, hb⟩; have HB1 := Aside0.mk hb; have hN1 := HH0.out.below hb; clear hb))
  have hlk : ∀ nd, (Instr.lookup 60 (.map (some M)) (.string s) false).run Try.prog (w1.drewN nd) = .ok (.slice Av (Q s).length cv) (w1.drewN nd) := fun nd => by rw [← HV.out]; exact (hN1.below (pw_below_drewN (Below.refl _ _) nd)).look s
  have hlk0 := hlk 0
  obtain ⟨d0, d1⟩ := hN1.cell
  have h := hN1
  go_quiet (fail)
  have hK : (if wrap64 (room - ((Q s).length : Int)) < (ls.length : Int) then wrap64 (room - ((Q s).length : Int)) else (ls.length : Int)) = (kk : Int) := by
    have r1 := h.room1
    have r2 := h.room2
    rw [wrap64_self (by omega) (by omega)]
    split <;> omega
  rw [hK]
  have hW : Chg (fun _ => False) w' (w1.drewN nq) := Chg.of_below _ (pw_below_drewN HB1.out _)
  replace h : NetG (w1.drewN nq) N M room B own G Q := h.below (pw_below_drewN (Below.refl _ _) _)
  clear hN1 hlk hlk0 d0 d1
  generalize (w1.drewN nq) = W at *
  have HW := Aside0.mk hW
  have HL := Aside0.mk hl
  have HH := Aside0.mk h
  have HK2 := Aside0.mk hk2
  have hkc : kk ≤ c := Nat.le_trans hk1 hc
  clear hK hW hl h c0 c1 hk2 hk3
  go_wp2_with (fail)
  go_loopg [36] (kk + 1) (fun kq v36 wr => ∃ (j : Nat) (own1 : Nat → Option ByteArray) (G1 : ByteArray → Option Value), v36 = .int .i64 j ∧ Aside0 (kq + j = kk + 1 ∧ j ≤ kk) ∧ Aside0 (NetG wr N M room B own1 G1 (setQ Q s (Q s ++ ls.take j))) ∧ Aside0 (Chg (fun k => k = M ∨ own k = some s) w' wr) ∧ Aside0 (∀ k, k < w'.heap.size → own1 k = own k))
  case atStart => exact ⟨0, own, G, rfl, ⟨by omega⟩, ⟨by rw [List.take_zero, List.append_nil, setQ_same]; exact HH.out⟩, ⟨HW.out.trans (Chg.refl (fun _ => False) _) (fun _ _ e => e.elim) (fun _ _ e => e.elim)⟩, ⟨fun _ _ => rfl⟩⟩
  case round =>
    obtain ⟨j, own1, G1, rfl, HJ, HNr, HC, HO⟩ := hrel
    cases gk with
    | zero => have := HJ.out; omega
    | succ k1 =>
    by_cases hlt : j < kk
    · have hi0 : (0 : Int) ≤ (j : Int) := by omega
      have hi1 : (j : Int) < ((ls.length : Nat) : Int) := by omega
      obtain ⟨ad, A1, c1, hAe, x0, x1, hc1, hd1⟩ := at_T34 (HL.out wr HC.out) (j : Int) hi0 hi1
      subst hAe
      simp only [Int.toNat_natCast] at x0 x1
      have hx : rd_T34 ls (j : Int) = ls.getD j z34 := rfl
      have hD2 : (rd_T34 ls (j : Int)).f1.length < 140737488355328 := hsh _ (by rw [hx, List.getD_eq_getElem?_getD, List.getElem?_eq_getElem (by omega)]; exact List.getElem_mem _)
      have HTK := Aside0.mk (show (Q s ++ ls.take j) ++ [rd_T34 ls (j : Int)] = Q s ++ ls.take (j + 1) by
        rw [List.append_assoc]
        congr 1
        rw [hx, List.getD_eq_getElem?_getD, List.getElem?_eq_getElem (show j < ls.length by omega), List.take_add_one, List.getElem?_eq_getElem (show j < ls.length by omega)]
        rfl)
      have HSHX := Aside0.mk hD2
      generalize rd_T34 ls (j : Int) = x at *
      have HD0' := Aside0.mk hd1
      have HD1 := Aside0.mk hc1
      have HD2 := Aside0.mk hD2
      clear hx hd1 hc1 hD2
      have hltk : (j : Int) < (kk : Int) := by omega
      go_wp2_with (fail)
      obtain ⟨Aw, cw, hvw, hcw, _⟩ := Kd.R_reads (HNr.out.rrows s)
      rw [setQ_self] at hvw
      have HQ' := setQ_self Q s (Q s ++ ls.take j)
      have HQLo := HNr.out.few s
      have HSH0 := HNr.out.short s
      have HLEN := Aside0.mk (show (Q s ++ ls.take j).length = (Q s).length + j by rw [List.length_append, List.length_take]; omega)
      rw [setQ_self] at HQLo HSH0
      generalize Q s ++ ls.take j = Qs at *
      have HG := Aside0.mk hvw
      have HQ := Aside0.mk HQ'
      have HQL := Aside0.mk (show Qs.length + 1 ≤ 257 by have := HNr.out.room2; omega)
      have HQR := Aside0.mk HQLo
      have HSH := Aside0.mk HSH0
      have HV := Aside0.mk (show ∀ k, (Value.slice Aw Qs.length cw).ownBlock = some k → k < wr.heap.size from fun k hk => by have hr := HNr.out.rrows s; rw [hvw] at hr; exact (HNr.out.lt k s (hr.1 k hk)).2)
      have HLO := Aside0.mk (show ¬ own1 wr.heap.size = some s from fun e => by have := (HNr.out.lt _ _ e).2; omega)
      have HN0 := Aside0.mk (HNr.out.below (below_drew1 (below_alloc (Below.refl _ _) (.cells #[.int .i64 x.f0, .slice A1 x.f1.length c1] 34))))
      have HL0 := Aside0.mk (blk_drew (blk_new wr (.cells #[.int .i64 x.f0, .slice A1 x.f1.length c1] 34)))
      have HB0 := Aside0.mk (below_drew1 (below_alloc (Below.refl wr.heap.size wr) (.cells #[.int .i64 x.f0, .slice A1 x.f1.length c1] 34)))
      have HBS := Aside0.mk (show B ≤ ((wr.alloc (.cells #[.int .i64 x.f0, .slice A1 x.f1.length c1] 34)).drew).heap.size from Nat.le_trans (Nat.le_trans HNr.out.baseM (Nat.le_of_lt HNr.out.map.lt)) HB0.out.size)
      have HD0 := Aside0.mk (Kd.C_below HD0'.out HB0.out)
      clear hvw hcw HQ' HQLo HSH0 HD0'
      refine start_ (n := 16) (S := fun w' => w'.cell? ⟨N, 1, none⟩ = some (.map (some M)) ∧ (Instr.lookup 60 (.map (some M)) (.string s) false).run Try.prog w' = .ok (.slice Aw Qs.length cw) w' ∧ w'.cell? ⟨wr.heap.size, 0, none⟩ = some (.int .i64 x.f0) ∧ w'.cell? ⟨wr.heap.size, 1, none⟩ = some (.slice A1 x.f1.length c1)) (ds := [15]) #[false, false, false, false, false, false, false, false, false, false, false, false, false, false, false, false] (by kernel_rfl) rfl rfl (ps_of HN0.out.cells HN0.out.map HG.out HL0.out) (fun hHeld => ?_); refine with_tabW send.tab9 send.bits9 (fun HT_ HW_ => ?_)
      generalize hW0 : (wr.alloc (.cells #[.int .i64 x.f0, .slice A1 x.f1.length c1] 34)).drew = W0 at *
      clear hW0
      refine pure_ (i := 0) (N := some 40) (v := ?_) (a' := ?_) #[true, false, false, false, false, false, false, false, false, false, false, false, false, false, false, false] rfl rfl (any_of HT_.out (by kernel_rfl)) (fun _ _ _ h => h) (Or.inl ⟨by rfl, ?_⟩) ?_ ?_
      rotate_left
      · intro w'
        go_simp
        with_reducible rfl
      rotate_left
      · simp only [Act.put, List.setIfInBounds_toArray, List.set_cons_zero, List.set_cons_succ, i64_w, i32_w, xu32_w, xu8_w]
        rfl
      refine pure_ (i := 1) (N := some 41) (v := ?_) (a' := ?_) #[true, true, false, false, false, false, false, false, false, false, false, false, false, false, false, false] rfl rfl (any_of HT_.out (by kernel_rfl)) (fun _ _ _ h => h) (Or.inl ⟨by rfl, ?_⟩) ?_ ?_
      rotate_left
      · intro w'
        go_simp
        with_reducible rfl
      rotate_left
      · simp only [Act.put, List.setIfInBounds_toArray, List.set_cons_zero, List.set_cons_succ, i64_w, i32_w, xu32_w, xu8_w]
        rfl
      refine pure_ (i := 2) (N := some 42) (v := ?_) (a' := ?_) #[true, true, true, false, false, false, false, false, false, false, false, false, false, false, false, false] rfl rfl (any_of HT_.out (by kernel_rfl)) (fun _ _ _ h => h) (Or.inl ⟨by rfl, ?_⟩) ?_ ?_
      rotate_left
      · intro w'
        go_simp
        with_reducible rfl
      rotate_left
      · simp only [Act.put, List.setIfInBounds_toArray, List.set_cons_zero, List.set_cons_succ, i64_w, i32_w, xu32_w, xu8_w]
        rfl
      refine pure_ (i := 4) (N := some 44) (v := ?_) (a' := ?_) #[true, true, true, false, true, false, false, false, false, false, false, false, false, false, false, false] rfl rfl (any_of HT_.out (by kernel_rfl)) (fun _ _ _ h => h) (Or.inl ⟨by rfl, ?_⟩) ?_ ?_
      rotate_left
      · intro w'
        go_simp
        with_reducible rfl
      rotate_left
      · simp only [Act.put, List.setIfInBounds_toArray, List.set_cons_zero, List.set_cons_succ, i64_w, i32_w, xu32_w, xu8_w]
        rfl
      refine pure_ (i := 5) (N := some 45) (v := ?_) (a' := ?_) #[true, true, true, false, true, true, false, false, false, false, false, false, false, false, false, false] rfl rfl (any_of HT_.out (by kernel_rfl)) (fun _ _ _ h => h) (Or.inl ⟨by rfl, ?_⟩) ?_ ?_
      rotate_left
      · intro w'
        go_simp
        with_reducible rfl
      rotate_left
      · simp only [Act.put, List.setIfInBounds_toArray, List.set_cons_zero, List.set_cons_succ, i64_w, i32_w, xu32_w, xu8_w]
        rfl
      refine pure_ (i := 6) (N := some 46) (v := ?_) (a' := ?_) #[true, true, true, false, true, true, true, false, false, false, false, false, false, false, false, false] rfl rfl (any_of HT_.out (by kernel_rfl)) (fun _ _ _ h => h) (Or.inl ⟨by rfl, ?_⟩) ?_ ?_
      rotate_left
      · intro w'
        go_simp
        with_reducible rfl
      rotate_left
      · simp only [Act.put, List.setIfInBounds_toArray, List.set_cons_zero, List.set_cons_succ, i64_w, i32_w, xu32_w, xu8_w]
        rfl
      refine pure_ (i := 7) (N := some 47) (v := ?_) (a' := ?_) #[true, true, true, false, true, true, true, true, false, false, false, false, false, false, false, false] rfl rfl (any_of HT_.out (by kernel_rfl)) (fun _ _ _ h => h) (Or.inl ⟨by rfl, ?_⟩) ?_ ?_
      rotate_left
      · intro w'
        go_simp
        with_reducible rfl
      rotate_left
      · simp only [Act.put, List.setIfInBounds_toArray, List.set_cons_zero, List.set_cons_succ, i64_w, i32_w, xu32_w, xu8_w]
        rfl
      refine pure_ (i := 9) (N := some 49) (v := ?_) (a' := ?_) #[true, true, true, false, true, true, true, true, false, true, false, false, false, false, false, false] rfl rfl (any_of HT_.out (by kernel_rfl)) (fun _ _ _ h => h) (Or.inl ⟨by rfl, ?_⟩) ?_ ?_
      rotate_left
      · intro w'
        go_simp
        with_reducible rfl
      rotate_left
      · simp only [Act.put, List.setIfInBounds_toArray, List.set_cons_zero, List.set_cons_succ, i64_w, i32_w, xu32_w, xu8_w]
        rfl
      refine take_ (i := 3) (N := some 43) (v := ?_) (a' := ?_) #[true, true, true, true, true, true, true, true, false, true, false, false, false, false, false, false] rfl rfl (take_ofW HT_.out HW_.out (by kernel_rfl)) (fun _ _ _ h => h) (Or.inl ⟨by rfl, ?_⟩) hHeld ?_ ?_
      rotate_left
      · rintro w' ⟨s0, s1, s2, s3⟩
        go_simp
        with_reducible rfl
      rotate_left
      · simp only [Act.put, List.setIfInBounds_toArray, List.set_cons_zero, List.set_cons_succ, i64_w, i32_w, xu32_w, xu8_w]
        rfl
      refine take_ (i := 8) (N := some 48) (v := ?_) (a' := ?_) #[true, true, true, true, true, true, true, true, true, true, false, false, false, false, false, false] rfl rfl (take_ofW HT_.out HW_.out (by kernel_rfl)) (fun _ _ _ h => h) (Or.inl ⟨by rfl, ?_⟩) hHeld ?_ ?_
      rotate_left
      · rintro w' ⟨s0, s1, s2, s3⟩
        go_simp
        with_reducible rfl
      rotate_left
      · simp only [Act.put, List.setIfInBounds_toArray, List.set_cons_zero, List.set_cons_succ, i64_w, i32_w, xu32_w, xu8_w]
        rfl
      refine take_ (i := 10) (N := some 50) (v := ?_) (a' := ?_) #[true, true, true, true, true, true, true, true, true, true, true, false, false, false, false, false] rfl rfl (take_ofW HT_.out HW_.out (by kernel_rfl)) (fun _ _ _ h => h) (Or.inl ⟨by rfl, ?_⟩) hHeld ?_ ?_
      rotate_left
      · rintro w' ⟨s0, s1, s2, s3⟩
        go_simp
        with_reducible rfl
      rotate_left
      · simp only [Act.put, List.setIfInBounds_toArray, List.set_cons_zero, List.set_cons_succ, i64_w, i32_w, xu32_w, xu8_w]
        rfl
      refine take_ (i := 11) (N := some 51) (v := ?_) (a' := ?_) #[true, true, true, true, true, true, true, true, true, true, true, true, false, false, false, false] rfl rfl (take_ofW HT_.out HW_.out (by kernel_rfl)) (fun _ _ _ h => h) (Or.inl ⟨by rfl, ?_⟩) hHeld ?_ ?_
      rotate_left
      · rintro w' ⟨s0, s1, s2, s3⟩
        go_simp
        with_reducible rfl
      rotate_left
      · simp only [Act.put, List.setIfInBounds_toArray, List.set_cons_zero, List.set_cons_succ, i64_w, i32_w, xu32_w, xu8_w]
        rfl
      refine one_ (i := 12) (N := some 52) #[true, true, true, true, true, true, true, true, true, true, true, true, true, false, false, false] rfl rfl (one_of HT_.out (by kernel_rfl)) (by decide) (fun K hK => ?_)
      refine goes_ Try.func27 (by kernel_rfl) rfl #[.agg #[.int .i64 x.f0, .slice A1 x.f1.length c1]] (by rfl) rfl rfl (by (try simp only [List.map_toArray, List.map_cons, List.map_nil]); first | done | rfl) ?_
      with_reducible refine (net_own.calls x.f0 A1 c1 x.f1 x.f0 x.f1 _ ?side1 ?side2 ?side3).mono ?_
      (case side1 => exact HD0.out)
      (case side2 => exact HD1.out)
      (case side3 => exact own_f _ _ HD2.out)
      rintro e w1 ⟨v1, rfl, hR1, hb1⟩
      refine ⟨_, rfl, ?_⟩
      obtain ⟨A2, c2, rfl⟩ := Kd.R_slice hR1
      have HN1 := Aside0.mk (HN0.out.below hb1)
      have HL1 := Aside0.mk (blk_below HL0.out hb1)
      have HR1 := Aside0.mk (Kd.R_bound hR1)
      have HS1 := Aside0.mk hb1.size
      have HB1 := Aside0.mk (HB0.out.trans (hb1.mono HB0.out.size))
      clear hR1 hb1
      refine hK.out _ _ (ps_of HN1.out.cells HN1.out.map HG.out HL1.out) (fun hHeld => ?_)
      clear hK K
      refine norm_ (a' := ?_) ?_ ?_
      rotate_left
      · show Act.put _ (some 52) _ = _
        simp only [Act.put, List.setIfInBounds_toArray, List.set_cons_zero, List.set_cons_succ, i64_w, i32_w, xu32_w, xu8_w]
        rfl
      refine one_ (i := 13) (N := some 53) #[true, true, true, true, true, true, true, true, true, true, true, true, true, true, false, false] rfl rfl (one_of HT_.out (by kernel_rfl)) (by decide) (fun K hK => ?_)
      refine value_ (v := .slice (some ⟨w1.heap.size, 0, none⟩) 1 1) (w1 := w1.alloc (.cells #[.int .i64 x.f0, .slice A2 x.f1.length c2] 34)) (by rfl) rfl (by first | (go_simp; done) | (go_simp; rfl)) ?_
      refine hK.out _ _ (ps_of (HN1.out.below (below_alloc (Below.refl _ _) _)).cells (HN1.out.below (below_alloc (Below.refl _ _) _)).map HG.out (blk_alloc HL1.out _)) (fun hHeld => ?_)
      clear hK K
      refine norm_ (a' := ?_) ?_ ?_
      rotate_left
      · show Act.put _ (some 53) _ = _
        simp only [Act.put, List.setIfInBounds_toArray, List.set_cons_zero, List.set_cons_succ, i64_w, i32_w, xu32_w, xu8_w]
        rfl
      refine one_ (i := 14) (N := some 54) #[true, true, true, true, true, true, true, true, true, true, true, true, true, true, true, false] rfl rfl (one_of HT_.out (by kernel_rfl)) (by decide) (fun K hK => ?_)
      refine Kd.S_append_step k34 (w0 := w1) B (by rfl) (.tmp 50) (.tmp 53) 29 34 (.agg #[.int .i64 0, .slice none 0 0]) 32 rfl Try.underlying29 info34 rfl (by decide) (by omega) (.slice Aw Qs.length cw) Qs x [.int .i64 x.f0, .slice A2 x.f1.length c2] (fun k => own1 k = some s ∨ wr.heap.size ≤ k) (fun k => W0.heap.size ≤ k) rfl rfl ?aP ?aK ?aF ?aO ?aB ?aS ?aL ?_
      (case aP => exact k34_mkM w1 B _ x (Kd.R_lower (Kd.R_mono HR1.out (fun k hk => hk.2.1)) HBS.out))
      (case aK => exact fun k hk => ⟨.inr (Nat.le_trans HB0.out.size hk), fun e => by have := HV.out k e.symm; have := HB0.out.size; omega⟩)
      (case aF => exact fun k hk => .inr (Nat.le_trans HB1.out.size hk))
      (case aO => have hr := HN1.out.rows s; rw [HG.out, HQ.out] at hr; exact Kd.S_mono hr (fun k hk => ⟨.inl hk, fun e => by have h1 := (HNr.out.lt k s hk).2; have h2 := HB0.out.size; omega⟩))
      (case aB => exact Below.refl _ _)
      (case aS => exact Nat.le_trans HBS.out HS1.out)
      (case aL => have := HQL.out; omega)
      intro v2 w3 ho hbB hg hat
      obtain ⟨A3, c3, rfl⟩ := Kd.S_slice ho
      rw [show (Qs ++ [x]).length = Qs.length + 1 from List.length_append] at ho ⊢
      have HC3 := Aside0.mk ((Chg.of_below (fun _ => False) HB1.out).trans (Chg.of_grown hg (fun k cells e hk => by have hr := HN1.out.rrows s; rw [HG.out] at hr; exact typed_ne hr e (by decide) hk)) (U := fun k => own1 k = some s) (fun _ _ e => e.elim) (fun k _ e => by have hr := HN1.out.rrows s; rw [HG.out] at hr; exact hr.1 k e.symm))
      have HGR := Aside0.mk hg
      have HR3 := Aside0.mk ho
      clear ho hbB hg hat
      have HM3 := Aside0.mk (HN1.out.map.move (w' := w3) ((HC3.out.block M HNr.out.map.lt (fun e => by rw [HNr.out.notM] at e; cases e)).trans ((HB1.out.block M HNr.out.map.lt).symm)))
      have HC3N : w3.heap[N]? = some (.cells #[.int .i64 room, .map (some M)] 62 (0, 0)) := (HC3.out.block N (heap_lt HNr.out.cells) (fun e => by rw [HNr.out.notN] at e; cases e)).trans HNr.out.cells
      have HL3 : w3.heap[wr.heap.size]? = some (.cells #[.int .i64 x.f0, .slice A1 x.f1.length c1] 34 (0, 0)) := (HGR.out.block wr.heap.size (heap_lt HL1.out) (fun e => by have hr := HN1.out.rrows s; rw [HG.out] at hr; have h1 := hr.1 wr.heap.size e.symm; exact absurd h1 HLO.out)).trans HL1.out
      refine hK.out _ _ (ps_of HC3N HM3.out HG.out HL3) (fun hHeld => ?_)
      clear hK K
      refine norm_ (a' := ?_) ?_ ?_
      rotate_left
      · show Act.put _ (some 54) _ = _
        simp only [Act.put, List.setIfInBounds_toArray, List.set_cons_zero, List.set_cons_succ, i64_w, i32_w, xu32_w, xu8_w]
        rfl
      refine last_ (i := 15) (N := none) #[true, true, true, true, true, true, true, true, true, true, true, true, true, true, true, true] rfl rfl (one_of HT_.out (by kernel_rfl)) (by decide) (fun K hK => ?_)
      obtain ⟨w4, hrun4, hM4, e1, e2, e3, e4, e5⟩ := HM3.out.put (P := Try.prog) Try.underlying60 Try.underlying9 s (.slice A3 (Qs.length + 1) c3)
      refine skip_ (w1 := w4) (by rfl) rfl (by first | (go_simp; done) | (go_simp; rfl)) ?_
      refine hK.out _ _ ?_
      clear hK K
      refine done_ (done_of HT_.out (by kernel_rfl)) ?_
      try go_wp2
      go_roundg k1
      case measure => omega
      case rel =>
        obtain ⟨hN4, hC4⟩ := turned HNr.out s (.slice A3 (Qs.length + 1) c3) (Qs ++ [x]) _ HC3.out HR3.out (by rw [List.length_append, List.length_singleton]; have e1 := HLEN.out; have e2 := HK2.out; omega) (fun y hy => by
          rcases List.mem_append.1 hy with h | h
          · exact HSH.out y h
          · rw [List.mem_singleton.1 h]; exact HSHX.out) hM4 (fun t => by by_cases h : t = s <;> simp [h]) e1 e2 e3 e4 e5
        rw [setQ_set, HTK.out] at hN4
        have hos : ∀ k, k < w'.heap.size → own1 k = some s → own k = some s := fun k hk e => (HO.out k hk).symm.trans e
        refine ⟨j + 1, _, _, ?_, ⟨by have := HJ.out; omega⟩, ⟨hN4⟩, ⟨HC.out.trans hC4 (fun _ _ e => e) (fun k hk e => e.imp id (hos k hk))⟩, ⟨fun k hk => ?_⟩⟩
        · have hsm : (kk : Int) ≤ 256 := by have h1 := HK2.out; have h2 := HNr.out.room2; omega
          first | rfl | (rw [wrap64_self (by omega) (by omega)]; rfl) | (simp; done) | (simp; omega)
        · have := HC.out.size
          unfold ownNew
          rw [if_neg (by omega)]
          exact HO.out k hk
    · have hj : j = kk := by have := HJ.out; omega
      subst hj
      go_wp2_with (fail)
      go_ret2
      exact ⟨_, _, rfl, HNr.out, HC.out, HO.out⟩
end
end Go.Proofs.Ytlnipfmgdkiboaa.N
