/- Patterns by hand: value, Values (mkX18.py). -/
import Derived.Test.YtmfpikhmeacnbaaDoorX17
namespace Go.Proofs.YtmfpikhmeacnbaaDoor.X
open Go.RowKit Go.Proofs.YtmfpikhmeacnbaaDoor.Q Go.Proofs.YtmfpikhmeacnbaaDoorW.PrintWords Go.Proofs.YtmfpikhmeacnbaaDoorW.PrintLast Go.Proofs.YtmfpikhmeacnbaaDoorW.PrintMore
set_option linter.unusedVariables false
set_option linter.unusedSimpArgs false
/-- Whether a text is among some. -/
def among (l : List ByteArray) (s : ByteArray) : Bool := l.any fun y => decide (s.toList = y.toList)
theorem index_any (l : List ByteArray) (a : ByteArray) (hl : l.length ≤ 1000000) : ∀ n i : Nat, n + i = l.length → ∃ r, slices_Index_string_string.l0 (n + 1) l a (l.length : Int) i = some r ∧ decide (r ≥ 0) = among (l.drop i) a
  | 0, i, h => by
    refine ⟨-1, ?_, ?_⟩
    · rw [slices_Index_string_string.l0, if_neg (by omega)]
    · rw [List.drop_eq_nil_of_le (by omega)]; rfl
  | n + 1, i, h => by
    have hi : i < l.length := by omega
    rw [slices_Index_string_string.l0, if_pos (by omega), if_pos (by omega), if_pos (by omega)]
    have hr : rdOf ByteArray.empty l (i : Int) = l[i] := by
      show l.getD (i : Int).toNat _ = _
      rw [Int.toNat_natCast, List.getD_eq_getElem?_getD, List.getElem?_eq_getElem hi]; rfl
    rw [hr]
    have hd : among (l.drop i) a = (decide (a.toList = l[i].toList) || among (l.drop (i + 1)) a) := by unfold among; rw [List.drop_eq_getElem_cons hi, List.any_cons]
    by_cases e : a.toList = l[i].toList
    · rw [if_pos e]
      exact ⟨_, rfl, by rw [hd, decide_eq_true e, Bool.true_or]; exact decide_eq_true (by omega)⟩
    · rw [if_neg e]
      obtain ⟨r, h1, h2⟩ := index_any l a hl n (i + 1) (by omega)
      refine ⟨r, ?_, by rw [hd, decide_eq_false e, Bool.false_or]; exact h2⟩
      rw [wrap64_self (by omega) (by omega)]
      exact h1
theorem contains_f (l : List ByteArray) (a : ByteArray) (hl : l.length ≤ 1000000) : slices_Contains_string_string.f (l.length + 1) l a = some (among l a) := by
  obtain ⟨r, h1, h2⟩ := index_any l a hl l.length 0 rfl
  unfold slices_Contains_string_string.f slices_Index_string_string.f
  have h1' : slices_Index_string_string.l0 (l.length + 1) l a (l.length : Int) 0 = some r := h1
  rw [h1', Option.bind_some, h2, List.drop_zero]
/-- What a branch of runes alone is. -/
def valK : List Pt → ByteArray → Option ByteArray
  | [], s => some s
  | x :: r, s => if x.kind = 0 ∧ x.plain = true then valK r (s ++ Utf8.encode (x.set.getD 0 z86).f0) else none
def valsK : List Pt → List ByteArray → Option (List ByteArray)
  | [], out => some out
  | x :: r, out => match valK x.kids ⟨#[]⟩ with
    | none => none
    | some s => valsK r (if among out s = true then out else out ++ [s])
/-- What a pattern of texts alone lets be. -/
def valuesF (p : Pt) : Option (List ByteArray) := valsK p.kids []
theorem clsF_sz {s : ByteArray} {k i m j : Nat} {p : Pt} (h : clsF k s i = some (.ok (p, m) j)) : p.sz = 1 := by
  unfold clsF at h
  cases hp : peekF s i with
  | none => rw [hp] at h; cases h
  | some c =>
    rw [hp] at h
    dsimp only at h
    cases hL : clsL k s (if c = 94 then i + 1 else i) [] true with
    | none => rw [hL] at h; cases h
    | some RL =>
      rw [hL] at h
      cases RL with
      | bad a e => cases h
      | ok l j1 =>
        have h3 := Option.some.inj h
        injection h3 with h4 h5
        injection h4 with h4 h6
        subst h4
        rfl
/-- How great a tree is. -/
theorem sz_ok {s : ByteArray} : ∀ k, (∀ {d i p m j}, atF k s d i = some (.ok (p, m) j) → i + 1 ≤ j ∧ p.sz + 2 ≤ 3 * (j - i)) ∧ (∀ {d i acc n p m j}, brF k s d i acc n = some (.ok (p, m) j) → i ≤ j ∧ p.sz ≤ acc.sz + 3 * (j - i)) ∧ (∀ {d i p m j}, paF k s d i = some (.ok (p, m) j) → i ≤ j ∧ p.sz ≤ 2 + 3 * (j - i)) ∧ (∀ {d i acc n p m j}, altF k s d i acc n = some (.ok (p, m) j) → i ≤ j ∧ p.sz ≤ acc.sz + 3 * (j - i))
  | 0 => ⟨fun h => by simp [atF] at h, fun h => by simp [brF] at h, fun h => by simp [paF] at h, fun h => by simp [altF] at h⟩
  | k + 1 => by
    obtain ⟨ha, hb, hp, hl⟩ := sz_ok (s := s) k
    refine ⟨fun h => ?_, fun h => ?_, fun h => ?_, fun h => ?_⟩
    · have hlg := ((long (k + 1)).1 h).2
      refine ⟨hlg, ?_⟩
      rcases atF_head h with ⟨_, h⟩ | ⟨_, h⟩ | ⟨_, h⟩ | ⟨_, h⟩ | ⟨_, a, e, _, h⟩ | ⟨_, l, sg, j, he, h⟩ | ⟨c, _, _, _, _, _, _, h⟩ | ⟨c, _, _, _, _, _, _, _, h⟩
      · cases h
      · rcases grF_head h with ⟨_, h⟩ | ⟨_, ⟨a, e, _, h⟩ | ⟨p, m, j, hq, ⟨_, h⟩ | ⟨c, _, _, h⟩ | ⟨_, h⟩⟩⟩
        · cases h
        · cases h
        · cases h
        · cases h
        · have := hp hq
          injection h with h1 h2
          injection h1 with h1 h3
          rw [h1]
          omega
      · rw [clsF_sz h]; omega
      · injection h with h1 h2
        injection h1 with h1 h3
        rw [h1]
        show 1 + 2 ≤ _
        omega
      · cases h
      · injection h with h1 h2
        injection h1 with h1 h3
        rw [h1]
        show 1 + 2 ≤ _
        omega
      · cases h
      · injection h with h1 h2
        injection h1 with h1 h3
        rw [h1]
        show 1 + 2 ≤ _
        omega
    · rcases brF_head h with ⟨_, h⟩ | ⟨c, _, ⟨_, h⟩ | ⟨_, ⟨a, e, _, h⟩ | ⟨p, m, j, _, _, h⟩ | ⟨p, m, j, c2, hq, _, _, h⟩ | ⟨p, m, j, c2, hq, _, _, h⟩⟩⟩
      · cases h
      · injection h with h1 h2
        injection h1 with h1 h3
        rw [h1]
        omega
      · cases h
      · cases h
      · have h1 := ha hq; have h2 := hb h; simp only [Pt.sz] at h2; omega
      · have h1 := ha hq; have h2 := hb h; simp only [Pt.sz] at h2; omega
    · rcases paF_head h with ⟨a, e, _, h⟩ | ⟨p, m, j, hq, h⟩
      · cases h
      · have h1 := hb hq; have h2 := hl h; simp only [Pt.sz] at h1 h2; omega
    · rcases altF_head h with ⟨_, h⟩ | ⟨c, _, _, h⟩ | ⟨_, a, e, _, h⟩ | ⟨_, p, m, j, hq, h⟩
      · cases h
      · injection h with h1 h2
        injection h1 with h1 h3
        rw [h1]
        omega
      · cases h
      · have h1 := hb hq; have h2 := hl h; simp only [Pt.sz] at h1 h2; omega
theorem kids_le : ∀ p : Pt, p.kids.length ≤ p.sz
  | .one _ _ _ => by simp [Pt.kids]
  | .eps => by simp [Pt.kids]
  | .cat q p => by have := kids_le q; simp only [Pt.kids, Pt.sz, List.length_append, List.length_singleton]; omega
  | .alt1 p => by simp only [Pt.kids, Pt.sz, List.length_singleton]; omega
  | .alt q p => by have := kids_le q; simp only [Pt.kids, Pt.sz, List.length_append, List.length_singleton]; omega
  | .again p _ => by simp only [Pt.kids, Pt.sz, List.length_singleton]; omega
theorem one_of_kind {x : Pt} (h : x.kind = 0) : ∃ l b pl, x = .one l b pl := by
  cases x <;> simp [Pt.kind] at h
  exact ⟨_, _, _, rfl⟩
def ValP (w : World) : Option ByteArray → Ending → World → Prop
  | some s, x, w' => x = .returned (.tuple #[.string s, .bool true]) ∧ w' = w
  | none, x, w' => x = .returned (.tuple #[.string ⟨#[]⟩, .bool false]) ∧ w' = w
set_option maxHeartbeats 2000000 in
set_option maxRecDepth 100000 in
theorem value_calls {w : World} {B q : Nat} {ok : Nat → Prop} {p : Pt} (h : Tr w B ok q p) (hwf : p.WF) (hsz : p.sz ≤ 100000) : Calls Tryd.prog 33 #[.pointer (some ⟨q, 0, none⟩)] w (ValP w (valK p.kids ⟨#[]⟩)) := by
  obtain ⟨R, hR⟩ : ∃ R, valK p.kids ⟨#[]⟩ = R := ⟨_, rfl⟩
  rw [hR]
  have HWF := Aside0.mk hwf
  obtain ⟨cs, htt, hok, _, vs, vp, hq, _, hp⟩ := h
  have HTT := Aside0.mk htt
  have HKP := Aside0.mk hp
  have HCL := Aside0.mk (show cs.length ≤ 100000 from by rw [(kids_at htt).1]; exact Nat.le_trans (kids_le p) hsz)
  have HKL := Aside0.mk (kids_at htt)
  obtain ⟨Ak, ck, rfl⟩ := Kd.R_slice hp
  have x4 := (nd_cell hq).2.2.2.2.1
  have HR0 := Aside0.mk hR
  clear hwf hsz htt hok hq hp hR
  go_enter Tryd.func33, Tryd.ntmps33
  go_wp2_with (fail)
  try go_frame
  clear x4
  go_loopg [4, 12] (cs.length + 1) (fun kq v4 v12 wr => ∃ (i : Nat) (acc : ByteArray), v4 = .string acc ∧ v12 = .int .i64 i ∧ Aside0 (kq + i = cs.length + 1 ∧ i ≤ cs.length ∧ acc.size ≤ 4 * i) ∧ Aside0 (valK (p.kids.drop i) acc = R) ∧ wr = w)
  case atStart => exact ⟨0, ⟨#[]⟩, rfl, rfl, ⟨by omega, by omega, Nat.le_refl _⟩, HR0, rfl⟩
  case round =>
    clear HR0
    obtain ⟨i, acc, rfl, rfl, HK, HV, e⟩ := hrel
    subst wr
    cases gk with
    | zero => have := HK.out; omega
    | succ k1 =>
    by_cases hi : i < cs.length
    · have hi' : (i : Int) < (cs.length : Int) := by omega
      have HIM := Aside0.mk hi
      have hi2 : i < p.kids.length := by rw [← HKL.out.1]; exact hi
      obtain ⟨x, hx⟩ : ∃ x, p.kids[i] = x := ⟨_, rfl⟩
      have hxt : Tr w B ok cs[i] x := by rw [← hx]; exact HKL.out.2 i hi hi2
      have hxw : x.WF := by rw [← hx]; exact kids_wf p HWF.out _ (List.getElem_mem hi2)
      have hxv : valK (x :: p.kids.drop (i + 1)) acc = R := by rw [← hx]; have h := HV.out; rw [List.drop_eq_getElem_cons hi2] at h; exact h
      obtain ⟨gk2, hA, c1⟩ := kP_cell HKP.out i hi
      subst hA
      generalize cs[i] = qi at *
      obtain ⟨ci, _, _, _, vsi, vpi, hqi, hsi, _⟩ := hxt
      obtain ⟨x0, x1, x2, x3, x4, x5⟩ := nd_cell hqi
      rw [valK] at hxv
      have hcs : ((x.kind != 0) = true ∧ ¬ (x.kind = 0 ∧ x.plain = true)) ∨ ((x.kind != 0) = false ∧ x.plain = false ∧ ¬ (x.kind = 0 ∧ x.plain = true)) ∨ (x.kind = 0 ∧ x.plain = true) := by
        by_cases e : x.kind = 0
        · cases hpl : x.plain
          · exact .inr (.inl ⟨by simp [e], rfl, fun h => by cases h.2⟩)
          · exact .inr (.inr ⟨e, rfl⟩)
        · exact .inl ⟨bne_iff_ne.2 e, fun h => e h.1⟩
      clear hx hi2 hi
      rcases hcs with ⟨e1, e2⟩ | ⟨e1, e2, e3⟩ | ⟨e1, e2⟩
      · rw [if_neg e2] at hxv
        subst hxv
        clear hsi hqi hxw e2
        go_wp2_with (fail)
        go_ret2
        exact ⟨rfl, rfl⟩
      · rw [if_neg e3] at hxv
        subst hxv
        rw [e2] at x3
        clear hsi hqi hxw e3
        go_wp2_with (fail)
        go_ret2
        exact ⟨rfl, rfl⟩
      · rw [if_pos ⟨e1, e2⟩] at hxv
        obtain ⟨l, b, pl, rfl⟩ := one_of_kind e1
        have e2' : pl = true := e2
        subst e2'
        obtain ⟨_, c, hl, _⟩ := hxw rfl
        subst hl
        obtain ⟨gs, cap, hv, _⟩ := Kd.R_form hsi (by show 0 < 1; decide)
        subst hv
        obtain ⟨cse, hl2, hM, hcell, _⟩ := Kd.R_elem hsi z86 0 (by decide) (by simp [Pt.set])
        have hkk := k86_openM hM
        subst hkk
        have y0 : w.cell? ⟨gs, 0, none⟩ = some (.int .i32 c) := hcell 0 _ rfl
        have x0' : w.cell? ⟨qi, 0, none⟩ = some (.int .i64 0) := x0
        have x1' : w.cell? ⟨qi, 1, none⟩ = some (.slice (some ⟨gs, 0, none⟩) 1 cap) := x1
        have x3' : w.cell? ⟨qi, 3, none⟩ = some (.bool true) := x3
        have HXV := Aside0.mk (show valK (p.kids.drop (i + 1)) (acc ++ Utf8.encode c) = R from hxv)
        obtain ⟨en, hen⟩ : ∃ en, Utf8.encode c = en := ⟨_, rfl⟩
        have HEN := Aside0.mk hen
        have hen4 : en.size ≤ 4 := by rw [← hen]; exact encode_size_le _
        have hacc : acc.size ≤ 400000 := by have h1 := HK.out; have h2 := HCL.out; omega
        have HE4 := Aside0.mk hen4
        clear hsi hqi hM hcell hl2 x0 x1 x2 x3 x4 x5 hxw e1 e2 hxv hen
        go_wp2_with ((with_reducible refine gate_dst (N := 37) rfl ?_); rw [HEN.out])
        go_roundg k1
        case measure => omega
        case rel => exact ⟨i + 1, _, rfl, by first | rfl | (simp; done) | (rw [wrap64_self (n := (i : Int) + 1) (by omega) (by have h1 := HCL.out; have h2 := HIM.out; omega)]; first | rfl | (simp; done)), ⟨by have := HK.out; omega, by have := HIM.out; omega, by have h1 := HK.out; have h3 := HE4.out; simp only [ByteArray.size_append]; omega⟩, ⟨by rw [← HEN.out]; exact HXV.out⟩, rfl⟩
    · have hi' : ¬ (i : Int) < (cs.length : Int) := by omega
      have HE := Aside0.mk (show some acc = R by have h := HV.out; rw [List.drop_eq_nil_of_le (by rw [← HKL.out.1]; omega)] at h; exact h)
      clear hi
      go_wp2_with (fail)
      go_ret2
      rw [← HE.out]
      exact ⟨rfl, rfl⟩
/-- Values, and whether there are some. -/
def ValsP (w : World) : Option (List ByteArray) → Ending → World → Prop
  | some l, x, w' => ∃ v, x = .returned (.tuple #[v, .bool true]) ∧ Kd.string.R 9 w' w.heap.size (fun k => w.heap.size ≤ k) v l ∧ Below w.heap.size w w'
  | none, x, w' => x = .returned (.tuple #[.slice none 0 0, .bool false]) ∧ Below w.heap.size w w'
theorem info9 : (Tryd.prog.info? 9).map (fun i => (i.zero, i.size, i.bytes)) = some (some (.string ⟨#[]⟩), 1, 16) := by kernel_rfl
set_option maxHeartbeats 2000000 in
set_option maxRecDepth 100000 in
theorem values_calls {w : World} {B Q : Nat} {s0 : ByteArray} {p : Pt} {m0 : Nat} (h : Rx w B Q s0 p m0) (hwf : p.WF) (hsz : p.sz ≤ 100000) : Calls Tryd.prog 18 #[.pointer (some ⟨Q, 0, none⟩)] w (ValsP w (valuesF p)) := by
  unfold valuesF
  obtain ⟨R, hR⟩ : ∃ R, valsK p.kids [] = R := ⟨_, rfl⟩
  rw [hR]
  have HWF := Aside0.mk hwf
  have HSZ := Aside0.mk hsz
  obtain ⟨hBQ, q, hQ, cs, htt, hok, _, vs, vp, hq, _, hp⟩ := h
  have HTT := Aside0.mk htt
  have HKP := Aside0.mk hp
  have HCL := Aside0.mk (show cs.length ≤ 100000 from by rw [(kids_at htt).1]; exact Nat.le_trans (kids_le p) hsz)
  have HKL := Aside0.mk (kids_at htt)
  obtain ⟨Ak, ck, rfl⟩ := Kd.R_slice hp
  have x4 := (nd_cell hq).2.2.2.2.1
  have z1 : w.cell? ⟨Q, 1, none⟩ = some (.pointer (some ⟨q, 0, none⟩)) := (blk_cell hQ 1).trans rfl
  have HR0 := Aside0.mk hR
  clear hwf hsz htt hok hq hp hR hQ hBQ
  go_enter Tryd.func18, Tryd.ntmps18
  go_wp2_with (fail)
  try go_frame
  clear x4 z1
  go_loopg [4, 26] (cs.length + 1) (fun kq v4 v26 wr => ∃ (i : Nat) (out : List ByteArray) (A : Option Addr) (cc : Nat), v4 = .slice A out.length cc ∧ v26 = .int .i64 i ∧ Aside0 (kq + i = cs.length + 1 ∧ i ≤ cs.length ∧ out.length ≤ i) ∧ Aside0 (valsK (p.kids.drop i) out = R) ∧ Aside0 (Kd.string.R 9 wr w.heap.size (fun k => w.heap.size ≤ k) (.slice A out.length cc) out) ∧ Aside0 (Below w.heap.size w wr))
  case atStart => exact ⟨0, [], none, 0, rfl, rfl, ⟨by omega, by omega, Nat.le_refl _⟩, HR0, ⟨Kd.R_nil _ _ _ _ _⟩, ⟨Below.refl _ _⟩⟩
  case round =>
    clear HR0
    obtain ⟨i, out, A, cc, rfl, rfl, HK, HV, HO, HB⟩ := hrel
    cases gk with
    | zero => have := HK.out; omega
    | succ k1 =>
    by_cases hi : i < cs.length
    · have hi' : (i : Int) < (cs.length : Int) := by omega
      have HIM := Aside0.mk hi
      have hi2 : i < p.kids.length := by rw [← HKL.out.1]; exact hi
      obtain ⟨x, hx⟩ : ∃ x, p.kids[i] = x := ⟨_, rfl⟩
      have hxm : x ∈ p.kids := by rw [← hx]; exact List.getElem_mem hi2
      have HXT := Aside0.mk (show Tr wr B (fun k => B ≤ k) cs[i] x from Tr.below (by rw [← hx]; exact HKL.out.2 i hi hi2) HB.out)
      have HXW := Aside0.mk (kids_wf p HWF.out _ hxm)
      have HXS := Aside0.mk (show x.sz ≤ 100000 by have h1 := kids_sz p _ hxm; have h2 := HSZ.out; omega)
      have hxv : valsK (x :: p.kids.drop (i + 1)) out = R := by rw [← hx]; have h := HV.out; rw [List.drop_eq_getElem_cons hi2] at h; exact h
      obtain ⟨gk2, hA, c1⟩ := kP_cell (Kd.R_below HKP.out HB.out) i hi
      subst hA
      generalize cs[i] = qi at *
      rw [valsK] at hxv
      cases hvl : valK x.kids ⟨#[]⟩ with
      | none =>
        rw [hvl] at hxv
        dsimp only at hxv
        subst hxv
        have HVL := Aside0.mk hvl
        clear hx hxm hi2 hi hvl
        go_wp2_with (go_at_call 33; (with_reducible refine (value_calls HXT.out HXW.out HXS.out).mono ?_); rw [HVL.out]; rintro e w1 ⟨rfl, h1⟩; subst w1)
        go_ret2
        exact ⟨rfl, HB.out⟩
      | some sv =>
        rw [hvl] at hxv
        dsimp only at hxv
        have HVL := Aside0.mk hvl
        have HCF := Aside0.mk (contains_f out sv (by have h1 := HK.out; have h2 := HCL.out; omega))
        have HRD := Aside0.mk (Kd.R_reads' HO.out).2
        clear hx hxm hi2 hi hvl
        cases ham : among out sv with
        | true =>
          rw [ham, if_pos rfl] at hxv
          rw [ham] at HCF
          have HXV := Aside0.mk hxv
          clear hxv ham
          go_wp2_with (first
            | (go_at_call 33; (with_reducible refine (value_calls HXT.out HXW.out HXS.out).mono ?_); rw [HVL.out]; rintro e w1 ⟨rfl, h1⟩; subst w1)
            | (go_at_call 34; (with_reducible refine (slices_Contains_string_string.calls _ _ _ _ _ _ _ HRD.out.2 HRD.out.1 HCF.out).mono ?_); rintro e w2 ⟨rfl, ⟨nd, rfl⟩⟩))
          go_roundg k1
          case measure => omega
          case rel => exact ⟨i + 1, out, A, cc, rfl, by first | rfl | (simp; done) | (rw [wrap64_self (n := (i : Int) + 1) (by omega) (by have h1 := HCL.out; have h2 := HIM.out; omega)]; first | rfl | (simp; done)), ⟨by have := HK.out; omega, by have := HIM.out; omega, by have := HK.out; omega⟩, HXV, ⟨Kd.R_drewN HO.out _⟩, ⟨pw_below_drewN HB.out _⟩⟩
        | false =>
          rw [ham, if_neg (by decide)] at hxv
          rw [ham] at HCF
          have HXV := Aside0.mk hxv
          clear hxv ham
          go_wp2_with (first
            | (go_at_call 33; (with_reducible refine (value_calls HXT.out HXW.out HXS.out).mono ?_); rw [HVL.out]; rintro e w1 ⟨rfl, h1⟩; subst w1)
            | (go_at_call 34; (with_reducible refine (slices_Contains_string_string.calls _ _ _ _ _ _ _ HRD.out.2 HRD.out.1 HCF.out).mono ?_); rintro e w2 ⟨rfl, ⟨nd, rfl⟩⟩; have HO2 := Aside0.mk (Kd.R_drewN HO.out nd); have HB2 := Aside0.mk (pw_below_drewN HB.out nd); generalize wr.drewN nd = w2 at *)
            | ((with_reducible refine gate_builtin (b := .append) (xs := #[.tmp 41, .tmp 43]) rfl ?_); at_builtin; refine Kd.R_append Kd.string (w0 := w) w.heap.size rfl (.tmp 41) (.tmp 43) 22 9 (.string ⟨#[]⟩) 16 rfl Tryd.underlying22 info9 rfl (by decide) (by omega) (.slice A out.length cc) out sv [.string sv] (fun k => w.heap.size ≤ k) (fun _ => False) rfl rfl ?aP (fun _ h => h.elim) ?aF ?aO ?aB ?aS ?aL ?_; (case aP => exact rfl); (case aF => exact (fun k hk => Nat.le_trans HB2.out.size hk)); (case aO => exact HO2.out); (case aB => exact HB2.out); (case aS => exact HB2.out.size); (case aL => have h1 := HK.out; have h2 := HCL.out; omega); intro v5 w5 ho hb5 hg5 hat5; obtain ⟨A5, c5, rfl⟩ := Kd.R_slice ho; have HO5 := Aside0.mk ho; have HB5 := Aside0.mk hb5; clear ho hb5 hg5 hat5))
          go_roundg k1
          case measure => omega
          case rel => exact ⟨i + 1, out ++ [sv], A5, c5, by rw [List.length_append]; rfl, by first | rfl | (simp; done) | (rw [wrap64_self (n := (i : Int) + 1) (by omega) (by have h1 := HCL.out; have h2 := HIM.out; omega)]; first | rfl | (simp; done)), ⟨by have := HK.out; omega, by have := HIM.out; omega, by have := HK.out; rw [List.length_append, List.length_singleton]; omega⟩, HXV, HO5, HB5⟩
    · have hi' : ¬ (i : Int) < (cs.length : Int) := by omega
      have HE := Aside0.mk (show some out = R by have h := HV.out; rw [List.drop_eq_nil_of_le (by rw [← HKL.out.1]; omega)] at h; exact h)
      clear hi
      go_wp2_with (fail)
      go_ret2
      rw [← HE.out]
      exact ⟨_, rfl, HO.out, HB.out⟩
theorem values_none (w : World) : Calls Tryd.prog 18 #[.pointer none] w fun x w' => x = .returned (.tuple #[.slice none 0 0, .bool false]) ∧ w' = w := by
  go_enter Tryd.func18, Tryd.ntmps18
  go_wp2_with (fail)
  go_ret2
  exact ⟨rfl, rfl⟩
theorem values_zero {w : World} {Q : Nat} {s0 : ByteArray} {m0 : Int} (h : w.heap[Q]? = some (.cells #[.string s0, .pointer none, .int .i64 m0] 43 (0, 0))) : Calls Tryd.prog 18 #[.pointer (some ⟨Q, 0, none⟩)] w fun x w' => x = .returned (.tuple #[.slice none 0 0, .bool false]) ∧ w' = w := by
  have x1 : w.cell? ⟨Q, 1, none⟩ = some (.pointer none) := (blk_cell h 1).trans rfl
  clear h
  go_enter Tryd.func18, Tryd.ntmps18
  go_wp2_with (fail)
  go_ret2
  exact ⟨rfl, rfl⟩
end Go.Proofs.YtmfpikhmeacnbaaDoor.X
