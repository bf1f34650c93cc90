import Derived.Test.YtlnipfmgdkiboaaNB
import Derived.Laws.Cover1
import Derived.Test.YtlnipfmgdkiboaaN18
/- The document's network by hand: set. -/
namespace Go.Proofs.Ytlnipfmgdkiboaa.N
open Go.RowKit Go.Proofs.Ytlnipfmgdkiboaa.Q Go.Proofs.YtlnipfmgdkiboaaW.PrintWords Go.Proofs.YtlnipfmgdkiboaaW.PrintLast Go.Proofs.YtlnipfmgdkiboaaW.PrintMore
set_option linter.unusedVariables false
set_option linter.unusedSimpArgs false
def lessB (s : ByteArray) (f : Qu) : Bool := Op.bytesLess f.f0.toList s.toList
def moreB (s : ByteArray) (f : Qu) : Bool := !(Op.bytesLess f.f0.toList s.toList || f.f0.toList == s.toList)
theorem lessB_iff {s : ByteArray} {f : Qu} : lessB s f = true ↔ Lt f.f0 s := bytesLess_iff _ _
theorem moreB_iff {s : ByteArray} {f : Qu} : moreB s f = true ↔ Lt s f.f0 := by
  unfold moreB
  rw [Bool.not_eq_true', Bool.or_eq_false_iff]
  constructor
  · rintro ⟨h1, h2⟩
    rcases Lt.total f.f0 s with h | h | h
    · have := (bytesLess_iff f.f0.toList s.toList).2 h; rw [h1] at this; cases this
    · rw [h] at h2; simp at h2
    · exact h
  · intro h
    refine ⟨?_, ?_⟩
    · cases hb : Op.bytesLess f.f0.toList s.toList with
      | false => rfl
      | true => exact (Lt.asymm (show Lt f.f0 s from (bytesLess_iff _ _).1 hb) h).elim
    · have : f.f0.toList ≠ s.toList := fun e => (h.ne (str_inj e.symm)).elim
      simpa using this
theorem set_eq : ∀ {st : St} (s : ByteArray) (l : List S34), Sorted st → (st.filter (lessB s) ++ (if l = [] then [] else [⟨s, l⟩])) ++ st.filter (moreB s) = setS st s l := by
  intro st s l
  induction st with
  | nil => intro _; unfold setS; split <;> rfl
  | cons f r ih =>
    intro hs
    obtain ⟨h1, h2⟩ := List.pairwise_cons.1 hs
    have ih := ih h2
    rcases Lt.total f.f0 s with h | h | h
    · rw [List.filter_cons_of_pos (lessB_iff.2 h), List.filter_cons_of_neg (fun e => (moreB_iff.1 e).asymm h), List.cons_append, List.cons_append, ih]
      unfold setS
      split
      · unfold drop; rw [List.filter_cons_of_pos (by simpa using h.ne)]
      · show f :: put r ⟨s, l⟩ = put (f :: r) ⟨s, l⟩
        unfold put
        rw [if_neg (fun e => h.ne e.symm), if_neg (fun e => h.asymm e)]
        cases r <;> rfl
    · subst h
      have hr1 : r.filter (lessB f.f0) = [] := List.filter_eq_nil_iff.2 (fun g hg e => (h1 g hg).asymm (lessB_iff.1 e))
      have hr2 : r.filter (moreB f.f0) = r := List.filter_eq_self.2 (fun g hg => moreB_iff.2 (h1 g hg))
      rw [List.filter_cons_of_neg (fun e => (lessB_iff.1 e).ne rfl), List.filter_cons_of_neg (fun e => (moreB_iff.1 e).ne rfl), hr1, hr2, List.nil_append]
      unfold setS
      split
      · unfold drop; rw [List.filter_cons_of_neg (by simp), List.nil_append]
        exact (List.filter_eq_self.2 (fun g hg => by simpa using fun e => (h1 g hg).ne e.symm)).symm
      · show ⟨f.f0, l⟩ :: r = put (f :: r) ⟨f.f0, l⟩
        unfold put; rw [if_pos rfl]
    · have hr1 : r.filter (lessB s) = [] := List.filter_eq_nil_iff.2 (fun g hg e => (h.trans (h1 g hg)).asymm (lessB_iff.1 e))
      have hr2 : r.filter (moreB s) = r := List.filter_eq_self.2 (fun g hg => moreB_iff.2 (h.trans (h1 g hg)))
      rw [List.filter_cons_of_neg (fun e => (lessB_iff.1 e).asymm h), List.filter_cons_of_pos (moreB_iff.2 h), hr1, hr2, List.nil_append]
      unfold setS
      split
      · unfold drop; rw [List.nil_append, List.filter_cons_of_pos (by simpa using fun e => h.ne e.symm)]
        congr 1
        exact (List.filter_eq_self.2 (fun g hg => by simpa using fun e => (h.trans (h1 g hg)).ne e.symm)).symm
      · show ⟨s, l⟩ :: f :: r = put (f :: r) ⟨s, l⟩
        unfold put; rw [if_neg h.ne, if_pos h]
theorem take_filter {st : St} {i : Nat} (p : Qu → Bool) (hi : i < st.length) : (st.take (i + 1)).filter p = (st.take i).filter p ++ (if p st[i] = true then [st[i]] else []) := by
  rw [List.take_succ_eq_append_getElem hi, List.filter_append]
  congr 1
  by_cases h : p st[i] = true
  · rw [if_pos h, List.filter_cons_of_pos h]; rfl
  · rw [if_neg h, List.filter_cons_of_neg h]; rfl
section
variable {w : World} {B g : Nat} {room : Int} {ok : Nat → Prop} {v : Value} {st : St}
theorem chg_set55 {w : World} {g : Nat} {cs : Array Value} (h : w.heap[g]? = some (.cells cs 55 (0, 0))) (i : Nat) (u : Value) : Chg (fun k => k = g) w (w.setCell ⟨g, i, none⟩ u) :=
  ⟨rfl, rfl, rfl, Nat.le_of_eq (by simp [World.setCell]), fun k _ hn => Below.heap_setCell w ⟨g, i, none⟩ u k hn, fun k cells hk => Below.heap_setCell w ⟨g, i, none⟩ u k (fun e => by
    subst e
    have e2 : (⟨k, i, none⟩ : Addr).block = k := rfl
    rw [show w.heap[k]? = _ from h] at hk
    injection hk with hk
    injection hk with _ hk
    exact absurd hk (by decide))⟩
theorem N_slice3 {α : Type} {d : Kd α} {e base : Nat} {w : World} {ok : Nat → Prop} {v : Value} {xs : List α} (h : Kd.N d e w base ok v xs) : ∃ A n c, v = .slice A n c := by
  obtain ⟨A, c, hv⟩ := Kd.N_slice h
  exact ⟨A, _, c, hv⟩
set_option maxHeartbeats 4000000 in
set_option maxRecDepth 100000 in
theorem rset_calls (h : RefG w B g room ok v st) (hfr : ∀ k, w.heap.size ≤ k → ok k) (hs : Sorted st) (hf : st.length ≤ 1000) (s : ByteArray) {A : Option Addr} {n c : Nat} {ls : List S34} (hF : Kd.F k34 w (fun k => ok k ∧ k ≠ g) A n ls) (hn : n = ls.length) (hc : n ≤ c) :
    Calls Try.prog 45 #[.pointer (some ⟨g, 0, none⟩), .string s, .slice A n c] w fun e w' => e = .returned (.tuple #[]) ∧ ∃ v', RefG w' B g room ok v' (setS st s ls) ∧ Chg (fun k => k = g) w w' := by
  have HSE := Aside0.mk (set_eq s ls hs)
  obtain ⟨c0, c1⟩ := h.cell
  obtain ⟨Ar, cr, hv, _, _⟩ := Kd.N_reads h.row
  subst hv
  have HG := Aside0.mk h
  obtain ⟨q, hq⟩ : ∃ q : Nat, q = st.length := ⟨_, rfl⟩
  rw [← hq] at c1 HG hf
  have HQ := Aside0.mk hq
  have HSM := Aside0.mk hf
  have HFR := Aside0.mk (show ∀ k, w.heap.size ≤ k → ok k ∧ k ≠ g from fun k hk => ⟨hfr k hk, fun e => by have := heap_lt h.cells; omega⟩)
  have HFL := Aside0.mk (Kd.F_bound hF)
  have HNL := Aside0.mk (And.intro hn hc)
  have HBL := Aside0.mk (show B ≤ w.heap.size from Nat.le_trans h.gB (Nat.le_of_lt (heap_lt h.cells)))
  have C1 := Aside0.mk c1
  clear h hfr hs hf hF hn hc hq c0
  go_enter Try.func45, Try.ntmps45
  go_wp2_with ((with_reducible refine gate_dst (N := 11) rfl ?_); refine Kd.R_lit kQu w.heap.size 74 ?hg (N := 11) ?hd (xs := ([] : List Qu)) (inner := []) (ok := fun k => ok k ∧ k ≠ g) (okp := fun _ => False) ?hr ?hp (fun _ hk => hk.elim) (HFR.out _ (Nat.le_refl _)) (Below.refl _ _) (Nat.le_refl _) (by simp) ?_; (case hd => rfl); (case hg => rfl); (case hr => first | (go_simp; done) | (go_simp; rfl)); (case hp => exact (Reps.none _ _)); intro v0 w0 ho1 hb1 hg1 hn1; have HR0 := Aside0.mk (Kd.R_N ho1); have HB0 := Aside0.mk hb1; clear c1; have c1 := pw_cell_below hb1 C1.out; clear ho1 hb1 hg1 hn1)
  clear c1
  go_loopg [6, 17] (q + 1) (fun kq v6 v17 wr => ∃ i : Nat, v17 = .int .i64 i ∧ Aside0 (kq + i = q + 1 ∧ i ≤ q) ∧ Aside0 (Below w.heap.size w wr) ∧ Aside0 (Kd.N kQu 74 wr w.heap.size (fun k => ok k ∧ k ≠ g) v6 ((st.take i).filter (lessB s))))
  case atStart => exact ⟨0, rfl, ⟨by omega⟩, HB0, ⟨by rw [List.take_zero, List.filter_nil]; exact HR0.out⟩⟩
  case round =>
    obtain ⟨i, rfl, HI, HB, HO⟩ := hrel
    cases gk with
    | zero => have := HI.out; omega
    | succ k1 =>
    by_cases hi : i < q
    · have hi0 : (0 : Int) ≤ (i : Int) := by omega
      have hi1 : (i : Int) < (q : Int) := by omega
      have hi2 : (i : Int) + 1 ≤ 9223372036854775807 := by have := HSM.out; omega
      have hil : i < st.length := by have := HQ.out; omega
      obtain ⟨ad, A1, c1, m, hA, x0, x1, hm, hmc, hF⟩ := queue_at (Kd.N_old HG.out.row HB.out) hil
      have HTK := Aside0.mk (take_filter (lessB s) hil)
      have HOL := Aside0.mk (show ((st.take i).filter (lessB s)).length ≤ 2000 by have h1 := List.length_filter_le (lessB s) (st.take i); have h2 := HSM.out; have h3 := HQ.out; rw [List.length_take] at h1; omega)
      subst hA
      generalize st[i] = x at *
      obtain ⟨xs, xl⟩ := x
      dsimp only at x0 hm hF
      have HFX := Aside0.mk (kQu_mkF' wr _ ⟨xs, xl⟩ hm hmc hF)
      clear hi hil hm hF hmc
      by_cases hp : lessB s ⟨xs, xl⟩ = true
      · have HP := Aside0.mk hp
        have hpb : Op.bytesLess xs.toList s.toList = true := hp
        clear hp
        go_wp2_with (first
          | ((with_reducible refine gate_dst (N := 8) rfl ?_); refine box_event ?hg (N := 8) ?hd (cs := (quL ⟨#[]⟩ none 0 0).toArray) (t := 74) ?hr ?_; (case hd => rfl); (case hg => rfl); (case hr => first | (go_simp; done) | (go_simp; rfl)); intro X hX w1 hx1 hb1; have H1 := Aside0.mk (And.intro hx1 (And.intro hb1 (show wr.heap.size ≤ X by omega))); clear hX hx1 hb1)
          | ((with_reducible refine gate_ (.store 74 (.tmp 8) (.tmp 20)) rfl ?_); refine store_blk rfl 74 (.tmp 8) (.tmp 20) rfl X (quL ⟨#[]⟩ none 0 0) (quL xs A1 m c1) rfl rfl H1.out.1 rfl size74 (quL_one _ _ _ _) ?_; intro w2 ha hka hba; have H2 := Aside0.mk (hba wr H1.out.2.2 H1.out.2.1); clear x0 x1; obtain ⟨y0, y1⟩ := cellsQ ha; clear ha hka hba)
          | ((with_reducible refine gate_builtin (b := .append) (xs := #[.tmp 25, .tmp 27]) rfl ?_); at_builtin; refine Kd.N_append kQu (w0 := w) w.heap.size rfl (.tmp 25) (.tmp 27) 53 74 (.agg #[.string ⟨#[]⟩, .slice none 0 0]) 40 rfl Try.underlying53 info74 rfl (by decide) (by omega) u6 ((st.take i).filter (lessB s)) ⟨xs, xl⟩ [.string xs, .slice A1 m c1] _ (fun k => (ok k ∧ k ≠ g) ∧ k < w.heap.size) rfl rfl (Kd.FK_below HFX.out H2.out) (fun k hk => ⟨hk.1, fun e => by have h1 := Kd.N_base HO.out k e.symm; have h2 := hk.2; omega⟩) (fun k hk => HFR.out k (by have h1 := (HB.out.trans (H2.out.mono HB.out.size)).size; omega)) (Kd.N_below HO.out H2.out) (HB.out.trans (H2.out.mono HB.out.size)) (HB.out.trans (H2.out.mono HB.out.size)).size (by have h1 := HOL.out; omega) ?_; intro v5 w5 ho hb hg hat; have HO5 := Aside0.mk ho; have HB5 := Aside0.mk hb; clear ho hb hg hat; clear y0 y1))
        go_roundg k1
        case measure => omega
        case rel => exact ⟨i + 1, by first | rfl | (simp; done) | (rw [wrap64_self (n := (i : Int) + 1) (by omega) (by omega)]; first | rfl | (simp; done)), ⟨by have := HI.out; omega⟩, HB5, ⟨by rw [HTK.out, if_pos HP.out]; exact HO5.out⟩⟩
      · have HP := Aside0.mk hp
        have hpb : Op.bytesLess xs.toList s.toList = false := by simpa [lessB] using hp
        clear hp
        go_wp2_with (first
          | ((with_reducible refine gate_dst (N := 8) rfl ?_); refine box_event ?hg (N := 8) ?hd (cs := (quL ⟨#[]⟩ none 0 0).toArray) (t := 74) ?hr ?_; (case hd => rfl); (case hg => rfl); (case hr => first | (go_simp; done) | (go_simp; rfl)); intro X hX w1 hx1 hb1; have H1 := Aside0.mk (And.intro hx1 (And.intro hb1 (show wr.heap.size ≤ X by omega))); clear hX hx1 hb1)
          | ((with_reducible refine gate_ (.store 74 (.tmp 8) (.tmp 20)) rfl ?_); refine store_blk rfl 74 (.tmp 8) (.tmp 20) rfl X (quL ⟨#[]⟩ none 0 0) (quL xs A1 m c1) rfl rfl H1.out.1 rfl size74 (quL_one _ _ _ _) ?_; intro w2 ha hka hba; have H2 := Aside0.mk (hba wr H1.out.2.2 H1.out.2.1); clear x0 x1; obtain ⟨y0, y1⟩ := cellsQ ha; clear ha hka hba))
        go_roundg k1
        case measure => omega
        case rel => exact ⟨i + 1, by first | rfl | (simp; done) | (rw [wrap64_self (n := (i : Int) + 1) (by omega) (by omega)]; first | rfl | (simp; done)), ⟨by have := HI.out; omega⟩, ⟨HB.out.trans (H2.out.mono HB.out.size)⟩, ⟨by rw [HTK.out, if_neg HP.out, List.append_nil]; exact Kd.N_below HO.out H2.out⟩⟩
    · have hi1 : ¬ (i : Int) < (q : Int) := by omega
      have hiq : q = i := by have := HI.out; omega
      subst hiq
      have hg1 := pw_cell_below HB.out C1.out
      have ho := HO.out
      rw [List.take_of_length_le (by have := HQ.out; omega)] at ho
      have HO1 := Aside0.mk ho
      have HL1 := Aside0.mk (show (st.filter (lessB s)).length ≤ 1000 by have h1 := List.length_filter_le (lessB s) st; have h2 := HSM.out; have h3 := HQ.out; omega)
      clear hi ho HO HI
      by_cases hn0 : n = 0
      · have hls : ls = [] := List.eq_nil_of_length_eq_zero (by rw [← HNL.out.1]; exact hn0)
        have hse := HSE.out
        rw [if_pos hls, List.append_nil] at hse
        have HSE := Aside0.mk hse
        clear hse hls
        subst hn0
        go_wp2_with (fail)
        clear hg1
        have HBa := HB
        clear HB
        rename World => wo
        go_loopg [6, 44] (q + 1) (fun kq v6 v44 wr => ∃ i : Nat, v44 = .int .i64 i ∧ Aside0 (kq + i = q + 1 ∧ i ≤ q) ∧ Aside0 (Below w.heap.size w wr) ∧ Aside0 (Kd.N kQu 74 wr w.heap.size (fun k => ok k ∧ k ≠ g) v6 ((st.filter (lessB s)) ++ (st.take i).filter (moreB s))))
        case atStart => exact ⟨0, rfl, ⟨by omega⟩, HBa, ⟨by rw [List.take_zero, List.filter_nil, List.append_nil]; exact HO1.out⟩⟩
        case round =>
          obtain ⟨i, rfl, HI, HB, HO⟩ := hrel
          cases gk with
          | zero => have := HI.out; omega
          | succ k1 =>
          by_cases hi : i < q
          · have hi0 : (0 : Int) ≤ (i : Int) := by omega
            have hi1 : (i : Int) < (q : Int) := by omega
            have hi2 : (i : Int) + 1 ≤ 9223372036854775807 := by have := HSM.out; omega
            have hil : i < st.length := by have := HQ.out; omega
            obtain ⟨ad, A1, c1, m, hA, x0, x1, hm, hmc, hF⟩ := queue_at (Kd.N_old HG.out.row HB.out) hil
            have HTK := Aside0.mk (take_filter (moreB s) hil)
            have HOL := Aside0.mk (show ((st.filter (lessB s)) ++ (st.take i).filter (moreB s)).length ≤ 2000 by have h1 := List.length_filter_le (moreB s) (st.take i); have h2 := HSM.out; have h3 := HQ.out; rw [List.length_take] at h1; rw [List.length_append]; have h4 := HL1.out; omega)
            subst hA
            generalize st[i] = x at *
            obtain ⟨xs, xl⟩ := x
            dsimp only at x0 hm hF
            have HFX := Aside0.mk (kQu_mkF' wr _ ⟨xs, xl⟩ hm hmc hF)
            clear hi hil hm hF hmc
            by_cases hp : moreB s ⟨xs, xl⟩ = true
            · have HP := Aside0.mk hp
              have hpb0 : (Op.bytesLess xs.toList s.toList || xs.toList == s.toList) = false := by simpa [moreB] using hp
              obtain ⟨hpb, hpc⟩ := Bool.or_eq_false_iff.1 hpb0
              clear hpb0
              clear hp
              go_wp2_with (first
                | ((with_reducible refine gate_dst (N := 10) rfl ?_); refine box_event ?hg (N := 10) ?hd (cs := (quL ⟨#[]⟩ none 0 0).toArray) (t := 74) ?hr ?_; (case hd => rfl); (case hg => rfl); (case hr => first | (go_simp; done) | (go_simp; rfl)); intro X hX w1 hx1 hb1; have H1 := Aside0.mk (And.intro hx1 (And.intro hb1 (show wr.heap.size ≤ X by omega))); clear hX hx1 hb1)
                | ((with_reducible refine gate_ (.store 74 (.tmp 10) (.tmp 47)) rfl ?_); refine store_blk rfl 74 (.tmp 10) (.tmp 47) rfl X (quL ⟨#[]⟩ none 0 0) (quL xs A1 m c1) rfl rfl H1.out.1 rfl size74 (quL_one _ _ _ _) ?_; intro w2 ha hka hba; have H2 := Aside0.mk (hba wr H1.out.2.2 H1.out.2.1); clear x0 x1; obtain ⟨y0, y1⟩ := cellsQ ha; clear ha hka hba)
                | ((with_reducible refine gate_builtin (b := .append) (xs := #[.tmp 52, .tmp 54]) rfl ?_); at_builtin; refine Kd.N_append kQu (w0 := w) w.heap.size rfl (.tmp 52) (.tmp 54) 53 74 (.agg #[.string ⟨#[]⟩, .slice none 0 0]) 40 rfl Try.underlying53 info74 rfl (by decide) (by omega) u6 ((st.filter (lessB s)) ++ (st.take i).filter (moreB s)) ⟨xs, xl⟩ [.string xs, .slice A1 m c1] _ (fun k => (ok k ∧ k ≠ g) ∧ k < w.heap.size) rfl rfl (Kd.FK_below HFX.out H2.out) (fun k hk => ⟨hk.1, fun e => by have h1 := Kd.N_base HO.out k e.symm; have h2 := hk.2; omega⟩) (fun k hk => HFR.out k (by have h1 := (HB.out.trans (H2.out.mono HB.out.size)).size; omega)) (Kd.N_below HO.out H2.out) (HB.out.trans (H2.out.mono HB.out.size)) (HB.out.trans (H2.out.mono HB.out.size)).size (by have h1 := HOL.out; omega) ?_; intro v5 w5 ho hb hg hat; have HO5 := Aside0.mk ho; have HB5 := Aside0.mk hb; clear ho hb hg hat; clear y0 y1))
              go_roundg k1
              case measure => omega
              case rel => exact ⟨i + 1, by first | rfl | (simp; done) | (rw [wrap64_self (n := (i : Int) + 1) (by omega) (by omega)]; first | rfl | (simp; done)), ⟨by have := HI.out; omega⟩, HB5, ⟨by rw [HTK.out, if_pos HP.out, ← List.append_assoc]; exact HO5.out⟩⟩
            · have HP := Aside0.mk hp
              have hpb : (Op.bytesLess xs.toList s.toList || xs.toList == s.toList) = true := by
                cases hq : (Op.bytesLess xs.toList s.toList || xs.toList == s.toList) with
                | true => rfl
                | false => exact absurd (show (!(Op.bytesLess xs.toList s.toList || xs.toList == s.toList)) = true by rw [hq]; rfl) hp
              cases hpc : Op.bytesLess xs.toList s.toList with
              | true =>
                clear hpb
                clear hp
                go_wp2_with (first
                  | ((with_reducible refine gate_dst (N := 10) rfl ?_); refine box_event ?hg (N := 10) ?hd (cs := (quL ⟨#[]⟩ none 0 0).toArray) (t := 74) ?hr ?_; (case hd => rfl); (case hg => rfl); (case hr => first | (go_simp; done) | (go_simp; rfl)); intro X hX w1 hx1 hb1; have H1 := Aside0.mk (And.intro hx1 (And.intro hb1 (show wr.heap.size ≤ X by omega))); clear hX hx1 hb1)
                  | ((with_reducible refine gate_ (.store 74 (.tmp 10) (.tmp 47)) rfl ?_); refine store_blk rfl 74 (.tmp 10) (.tmp 47) rfl X (quL ⟨#[]⟩ none 0 0) (quL xs A1 m c1) rfl rfl H1.out.1 rfl size74 (quL_one _ _ _ _) ?_; intro w2 ha hka hba; have H2 := Aside0.mk (hba wr H1.out.2.2 H1.out.2.1); clear x0 x1; obtain ⟨y0, y1⟩ := cellsQ ha; clear ha hka hba))
                go_roundg k1
                case measure => omega
                case rel => exact ⟨i + 1, by first | rfl | (simp; done) | (rw [wrap64_self (n := (i : Int) + 1) (by omega) (by omega)]; first | rfl | (simp; done)), ⟨by have := HI.out; omega⟩, ⟨HB.out.trans (H2.out.mono HB.out.size)⟩, ⟨by rw [HTK.out, if_neg HP.out, List.append_nil]; exact Kd.N_below HO.out H2.out⟩⟩
              | false =>
                rw [hpc, Bool.false_or] at hpb
                clear hp
                go_wp2_with (first
                  | ((with_reducible refine gate_dst (N := 10) rfl ?_); refine box_event ?hg (N := 10) ?hd (cs := (quL ⟨#[]⟩ none 0 0).toArray) (t := 74) ?hr ?_; (case hd => rfl); (case hg => rfl); (case hr => first | (go_simp; done) | (go_simp; rfl)); intro X hX w1 hx1 hb1; have H1 := Aside0.mk (And.intro hx1 (And.intro hb1 (show wr.heap.size ≤ X by omega))); clear hX hx1 hb1)
                  | ((with_reducible refine gate_ (.store 74 (.tmp 10) (.tmp 47)) rfl ?_); refine store_blk rfl 74 (.tmp 10) (.tmp 47) rfl X (quL ⟨#[]⟩ none 0 0) (quL xs A1 m c1) rfl rfl H1.out.1 rfl size74 (quL_one _ _ _ _) ?_; intro w2 ha hka hba; have H2 := Aside0.mk (hba wr H1.out.2.2 H1.out.2.1); clear x0 x1; obtain ⟨y0, y1⟩ := cellsQ ha; clear ha hka hba))
                go_roundg k1
                case measure => omega
                case rel => exact ⟨i + 1, by first | rfl | (simp; done) | (rw [wrap64_self (n := (i : Int) + 1) (by omega) (by omega)]; first | rfl | (simp; done)), ⟨by have := HI.out; omega⟩, ⟨HB.out.trans (H2.out.mono HB.out.size)⟩, ⟨by rw [HTK.out, if_neg HP.out, List.append_nil]; exact Kd.N_below HO.out H2.out⟩⟩
          · have hi1 : ¬ (i : Int) < (q : Int) := by omega
            have hiq : q = i := by have := HI.out; omega
            subst hiq
            have hg1 := pw_cell_below HB.out C1.out
            have hgf := blk_frozen' (blk_below HG.out.cells HB.out) 1
            clear hi
            obtain ⟨A6, n6, c6, hv6⟩ := N_slice3 HO.out
            subst hv6
            go_wp2_with (fail)
            (first | go_end0 | ((try simp only [Exit.inBlock, Exit.then]); refine bodyPost_ret (results_none rfl _ _ _) rfl ?_))
            have ho := HO.out
            rw [List.take_of_length_le (by have := HQ.out; omega)] at ho
            rw [← HSE.out]
            exact ⟨rfl, ⟨_, ⟨blk_put (blk_below HG.out.cells HB.out) 1 _ rfl, Kd.N_far (p := ⟨g, 1, none⟩) (Kd.N_lower ho HBL.out) (fun k hk => hk.2) _, HG.out.gB, HG.out.okg⟩⟩, (Chg.of_below (fun _ => False) HB.out).trans (chg_set55 (blk_below HG.out.cells HB.out) 1 _) (fun _ _ e => e.elim) (fun _ _ e => e)⟩
      · have hpos : 0 < n := by omega
        have hls : ¬ ls = [] := fun e => hn0 (by rw [HNL.out.1, e]; rfl)
        have hse := HSE.out
        rw [if_neg hls] at hse
        have HSE := Aside0.mk hse
        clear hse hls hn0
        have HO := HO1
        go_wp2_with (first
          | ((with_reducible refine gate_builtin (b := .append) (xs := #[.tmp 33, .tmp 37]) rfl ?_); at_builtin; refine Kd.N_append kQu (w0 := w) w.heap.size rfl (.tmp 33) (.tmp 37) 53 74 (.agg #[.string ⟨#[]⟩, .slice none 0 0]) 40 rfl Try.underlying53 info74 rfl (by decide) (by omega) u6 (st.filter (lessB s)) (⟨s, ls⟩ : Qu) [.string s, .slice A n c] _ (fun k => (ok k ∧ k ≠ g) ∧ k < w.heap.size) rfl rfl (kQu_mkF' wr _ (⟨s, ls⟩ : Qu) HNL.out.1 HNL.out.2 (Kd.F_below HFL.out HB.out)) (fun k hk => ⟨hk.1, fun e => by have h1 := Kd.N_base HO.out k e.symm; have h2 := hk.2; omega⟩) (fun k hk => HFR.out k (by have h1 := (HB.out).size; omega)) (HO.out) (HB.out) (HB.out).size (by have h1 := HL1.out; omega) ?_; intro v5 w5 ho hb hg hat; have HO5 := Aside0.mk ho; have HB5 := Aside0.mk hb; clear ho hb hg hat; clear hg1; have hg1 := pw_cell_below HB5.out C1.out))
        clear hg1
        rename World => wo
        go_loopg [6, 44] (q + 1) (fun kq v6 v44 wr => ∃ i : Nat, v44 = .int .i64 i ∧ Aside0 (kq + i = q + 1 ∧ i ≤ q) ∧ Aside0 (Below w.heap.size w wr) ∧ Aside0 (Kd.N kQu 74 wr w.heap.size (fun k => ok k ∧ k ≠ g) v6 ((st.filter (lessB s) ++ [(⟨s, ls⟩ : Qu)]) ++ (st.take i).filter (moreB s))))
        case atStart => exact ⟨0, rfl, ⟨by omega⟩, HB5, ⟨by rw [List.take_zero, List.filter_nil, List.append_nil]; exact HO5.out⟩⟩
        case round =>
          obtain ⟨i, rfl, HI, HB, HO⟩ := hrel
          cases gk with
          | zero => have := HI.out; omega
          | succ k1 =>
          by_cases hi : i < q
          · have hi0 : (0 : Int) ≤ (i : Int) := by omega
            have hi1 : (i : Int) < (q : Int) := by omega
            have hi2 : (i : Int) + 1 ≤ 9223372036854775807 := by have := HSM.out; omega
            have hil : i < st.length := by have := HQ.out; omega
            obtain ⟨ad, A1, c1, m, hA, x0, x1, hm, hmc, hF⟩ := queue_at (Kd.N_old HG.out.row HB.out) hil
            have HTK := Aside0.mk (take_filter (moreB s) hil)
            have HOL := Aside0.mk (show ((st.filter (lessB s) ++ [(⟨s, ls⟩ : Qu)]) ++ (st.take i).filter (moreB s)).length ≤ 2000 by have h1 := List.length_filter_le (moreB s) (st.take i); have h2 := HSM.out; have h3 := HQ.out; rw [List.length_take] at h1; rw [List.length_append, List.length_append, List.length_singleton]; have h4 := HL1.out; omega)
            subst hA
            generalize st[i] = x at *
            obtain ⟨xs, xl⟩ := x
            dsimp only at x0 hm hF
            have HFX := Aside0.mk (kQu_mkF' wr _ ⟨xs, xl⟩ hm hmc hF)
            clear hi hil hm hF hmc
            by_cases hp : moreB s ⟨xs, xl⟩ = true
            · have HP := Aside0.mk hp
              have hpb0 : (Op.bytesLess xs.toList s.toList || xs.toList == s.toList) = false := by simpa [moreB] using hp
              obtain ⟨hpb, hpc⟩ := Bool.or_eq_false_iff.1 hpb0
              clear hpb0
              clear hp
              go_wp2_with (first
                | ((with_reducible refine gate_dst (N := 10) rfl ?_); refine box_event ?hg (N := 10) ?hd (cs := (quL ⟨#[]⟩ none 0 0).toArray) (t := 74) ?hr ?_; (case hd => rfl); (case hg => rfl); (case hr => first | (go_simp; done) | (go_simp; rfl)); intro X hX w1 hx1 hb1; have H1 := Aside0.mk (And.intro hx1 (And.intro hb1 (show wr.heap.size ≤ X by omega))); clear hX hx1 hb1)
                | ((with_reducible refine gate_ (.store 74 (.tmp 10) (.tmp 47)) rfl ?_); refine store_blk rfl 74 (.tmp 10) (.tmp 47) rfl X (quL ⟨#[]⟩ none 0 0) (quL xs A1 m c1) rfl rfl H1.out.1 rfl size74 (quL_one _ _ _ _) ?_; intro w2 ha hka hba; have H2 := Aside0.mk (hba wr H1.out.2.2 H1.out.2.1); clear x0 x1; obtain ⟨y0, y1⟩ := cellsQ ha; clear ha hka hba)
                | ((with_reducible refine gate_builtin (b := .append) (xs := #[.tmp 52, .tmp 54]) rfl ?_); at_builtin; refine Kd.N_append kQu (w0 := w) w.heap.size rfl (.tmp 52) (.tmp 54) 53 74 (.agg #[.string ⟨#[]⟩, .slice none 0 0]) 40 rfl Try.underlying53 info74 rfl (by decide) (by omega) u6 ((st.filter (lessB s) ++ [(⟨s, ls⟩ : Qu)]) ++ (st.take i).filter (moreB s)) ⟨xs, xl⟩ [.string xs, .slice A1 m c1] _ (fun k => (ok k ∧ k ≠ g) ∧ k < w.heap.size) rfl rfl (Kd.FK_below HFX.out H2.out) (fun k hk => ⟨hk.1, fun e => by have h1 := Kd.N_base HO.out k e.symm; have h2 := hk.2; omega⟩) (fun k hk => HFR.out k (by have h1 := (HB.out.trans (H2.out.mono HB.out.size)).size; omega)) (Kd.N_below HO.out H2.out) (HB.out.trans (H2.out.mono HB.out.size)) (HB.out.trans (H2.out.mono HB.out.size)).size (by have h1 := HOL.out; omega) ?_; intro v5 w5 ho hb hg hat; have HO5 := Aside0.mk ho; have HB5 := Aside0.mk hb; clear ho hb hg hat; clear y0 y1))
              go_roundg k1
              case measure => omega
              case rel => exact ⟨i + 1, by first | rfl | (simp; done) | (rw [wrap64_self (n := (i : Int) + 1) (by omega) (by omega)]; first | rfl | (simp; done)), ⟨by have := HI.out; omega⟩, HB5, ⟨by rw [HTK.out, if_pos HP.out, ← List.append_assoc]; exact HO5.out⟩⟩
            · have HP := Aside0.mk hp
              have hpb : (Op.bytesLess xs.toList s.toList || xs.toList == s.toList) = true := by
                cases hq : (Op.bytesLess xs.toList s.toList || xs.toList == s.toList) with
                | true => rfl
                | false => exact absurd (show (!(Op.bytesLess xs.toList s.toList || xs.toList == s.toList)) = true by rw [hq]; rfl) hp
              cases hpc : Op.bytesLess xs.toList s.toList with
              | true =>
                clear hpb
                clear hp
                go_wp2_with (first
                  | ((with_reducible refine gate_dst (N := 10) rfl ?_); refine box_event ?hg (N := 10) ?hd (cs := (quL ⟨#[]⟩ none 0 0).toArray) (t := 74) ?hr ?_; (case hd => rfl); (case hg => rfl); (case hr => first | (go_simp; done) | (go_simp; rfl)); intro X hX w1 hx1 hb1; have H1 := Aside0.mk (And.intro hx1 (And.intro hb1 (show wr.heap.size ≤ X by omega))); clear hX hx1 hb1)
                  | ((with_reducible refine gate_ (.store 74 (.tmp 10) (.tmp 47)) rfl ?_); refine store_blk rfl 74 (.tmp 10) (.tmp 47) rfl X (quL ⟨#[]⟩ none 0 0) (quL xs A1 m c1) rfl rfl H1.out.1 rfl size74 (quL_one _ _ _ _) ?_; intro w2 ha hka hba; have H2 := Aside0.mk (hba wr H1.out.2.2 H1.out.2.1); clear x0 x1; obtain ⟨y0, y1⟩ := cellsQ ha; clear ha hka hba))
                go_roundg k1
                case measure => omega
                case rel => exact ⟨i + 1, by first | rfl | (simp; done) | (rw [wrap64_self (n := (i : Int) + 1) (by omega) (by omega)]; first | rfl | (simp; done)), ⟨by have := HI.out; omega⟩, ⟨HB.out.trans (H2.out.mono HB.out.size)⟩, ⟨by rw [HTK.out, if_neg HP.out, List.append_nil]; exact Kd.N_below HO.out H2.out⟩⟩
              | false =>
                rw [hpc, Bool.false_or] at hpb
                clear hp
                go_wp2_with (first
                  | ((with_reducible refine gate_dst (N := 10) rfl ?_); refine box_event ?hg (N := 10) ?hd (cs := (quL ⟨#[]⟩ none 0 0).toArray) (t := 74) ?hr ?_; (case hd => rfl); (case hg => rfl); (case hr => first | (go_simp; done) | (go_simp; rfl)); intro X hX w1 hx1 hb1; have H1 := Aside0.mk (And.intro hx1 (And.intro hb1 (show wr.heap.size ≤ X by omega))); clear hX hx1 hb1)
                  | ((with_reducible refine gate_ (.store 74 (.tmp 10) (.tmp 47)) rfl ?_); refine store_blk rfl 74 (.tmp 10) (.tmp 47) rfl X (quL ⟨#[]⟩ none 0 0) (quL xs A1 m c1) rfl rfl H1.out.1 rfl size74 (quL_one _ _ _ _) ?_; intro w2 ha hka hba; have H2 := Aside0.mk (hba wr H1.out.2.2 H1.out.2.1); clear x0 x1; obtain ⟨y0, y1⟩ := cellsQ ha; clear ha hka hba))
                go_roundg k1
                case measure => omega
                case rel => exact ⟨i + 1, by first | rfl | (simp; done) | (rw [wrap64_self (n := (i : Int) + 1) (by omega) (by omega)]; first | rfl | (simp; done)), ⟨by have := HI.out; omega⟩, ⟨HB.out.trans (H2.out.mono HB.out.size)⟩, ⟨by rw [HTK.out, if_neg HP.out, List.append_nil]; exact Kd.N_below HO.out H2.out⟩⟩
          · have hi1 : ¬ (i : Int) < (q : Int) := by omega
            have hiq : q = i := by have := HI.out; omega
            subst hiq
            have hg1 := pw_cell_below HB.out C1.out
            have hgf := blk_frozen' (blk_below HG.out.cells HB.out) 1
            clear hi
            obtain ⟨A6, n6, c6, hv6⟩ := N_slice3 HO.out
            subst hv6
            go_wp2_with (fail)
            (first | go_end0 | ((try simp only [Exit.inBlock, Exit.then]); refine bodyPost_ret (results_none rfl _ _ _) rfl ?_))
            have ho := HO.out
            rw [List.take_of_length_le (by have := HQ.out; omega)] at ho
            rw [← HSE.out]
            exact ⟨rfl, ⟨_, ⟨blk_put (blk_below HG.out.cells HB.out) 1 _ rfl, Kd.N_far (p := ⟨g, 1, none⟩) (Kd.N_lower ho HBL.out) (fun k hk => hk.2) _, HG.out.gB, HG.out.okg⟩⟩, (Chg.of_below (fun _ => False) HB.out).trans (chg_set55 (blk_below HG.out.cells HB.out) 1 _) (fun _ _ e => e.elim) (fun _ _ e => e)⟩
end
end Go.Proofs.Ytlnipfmgdkiboaa.N
/- The document's network by hand: Send. -/
namespace Go.Proofs.Ytlnipfmgdkiboaa.N
open Go.RowKit Go.Proofs.Ytlnipfmgdkiboaa.Q Go.Proofs.YtlnipfmgdkiboaaW.PrintWords Go.Proofs.YtlnipfmgdkiboaaW.PrintLast Go.Proofs.YtlnipfmgdkiboaaW.PrintMore
set_option linter.unusedVariables false
set_option linter.unusedSimpArgs false
attribute [local go_sem] min2_int min_two
def rsend.T8 : Bool × List (List Nat × List Nat) := (true, [([], []), ([], []), ([1], [1]), ([], []), ([3], [3]), ([4], [4]), ([5], [5]), ([2, 6], [2, 6]), ([7], [7]), ([0, 8, 6], [0, 8]), ([9, 9, 0, 1, 2, 3, 4, 5, 6, 7, 8, 9], [0, 9])])
def rsend.B8 : List Nat := [0, 0, 2, 0, 8, 24, 56, 126, 254, 511, 1023]
theorem rsend.tab8 : rtab .any (opsOf Try.f34 8) = rsend.T8 := by kernel_rfl
theorem rsend.bits8 : waitsOk rsend.T8.2 rsend.B8 = true := by kernel_rfl
theorem k34_mkF' (W : World) (ok : Nat → Prop) (x : S34) {A1 : Option Addr} {m c1 : Nat} (hm : m = x.f1.length) (l1 : m ≤ c1) (g1 : Kd.F (Kd.int .u8) W ok A1 m x.f1) : Kd.FK k34 W ok x [.int .i64 x.f0, .slice A1 m c1] := by
  subst hm
  exact k34_mkF W ok x l1 g1
section
variable {w : World} {B g : Nat} {room : Int} {ok : Nat → Prop} {v : Value} {st : St}
set_option maxHeartbeats 1000000 in
set_option maxRecDepth 100000 in
theorem rsend_bad (s : ByteArray) (hss : s.size ≤ 9223372036854775807) (ht : tenant s = false) (V : Value) (A : Option Addr) (n c : Nat) (w : World) :
    Calls Try.prog 34 #[V, .string s, .slice A n c] w fun e w' => e = .returned (.tuple #[.int .i64 0, .int .i64 180]) ∧ Below w.heap.size w w' := by
  go_enter Try.func34, Try.ntmps34
  go_wp2_with (go_at_call 18; (with_reducible refine (rtenant_calls s hss _).mono ?_); rw [ht]; rintro e w3 ⟨rfl, hb⟩)
  go_ret2
  exact ⟨rfl, hb⟩
set_option maxHeartbeats 4000000 in
set_option maxRecDepth 100000 in
theorem rsend_calls (h : RefG w B g room ok v st) (hfr : ∀ k, w.heap.size ≤ k → ok k) (hs : Sorted st) (hf : st.length ≤ 1000) (h1 : 1 ≤ room) (h2 : room ≤ 256) (s : ByteArray) (hss : s.size ≤ 9223372036854775807) (ht : tenant s = true) (hfew : ((ofSt st s).length : Int) ≤ room) {A : Option Addr} {n c : Nat} {ls : List S34} (hC : Kd.C k34 w A n ls) (hn : n = ls.length) (hc : n ≤ c) (hsh : ∀ x ∈ ls, x.f1.length < 140737488355328) {kk : Nat} (hkk : kk = min n (room - (ofSt st s).length).toNat) :
    Calls Try.prog 34 #[.pointer (some ⟨g, 0, none⟩), .string s, .slice A n c] w fun e w' => e = .returned (.tuple #[.int .i64 kk, .int .i64 0]) ∧ ∃ v', RefG w' B g room ok v' (setS st s (ofSt st s ++ ls.take kk)) ∧ Chg (fun k => k = g) w w' := by
  have HG := Aside0.mk h
  have HSS := Aside0.mk hss
  have HT := Aside0.mk ht
  have HST := Aside0.mk hs
  have HSM := Aside0.mk hf
  have HC := Aside0.mk hC
  have HNL := Aside0.mk (And.intro hn hc)
  have HSH := Aside0.mk hsh
  have HOKF := Aside0.mk hfr
  have HFR := Aside0.mk (show ∀ k, w.heap.size ≤ k → ok k ∧ k ≠ g from fun k hk => ⟨hfr k hk, fun e => by have := heap_lt h.cells; omega⟩)
  obtain ⟨m0, hm0⟩ : ∃ m : Nat, m = (ofSt st s).length := ⟨_, rfl⟩
  have HM0 := Aside0.mk hm0
  rw [← hm0] at hfew hkk
  have hk1 : kk ≤ n := by omega
  have hK : (if room - (m0 : Int) < (n : Int) then room - (m0 : Int) else (n : Int)) = (kk : Int) := by split <;> omega
  have hk3 : kk ≤ c := by omega
  have hk0 : (0 : Int) ≤ (kk : Int) := by omega
  have HKS := Aside0.mk (And.intro (show kk ≤ 256 by omega) (And.intro (show m0 ≤ 256 by omega) hk1))
  have hm2 : (m0 : Int) ≤ 256 := by omega
  have hm3 : (0 : Int) ≤ (m0 : Int) := by omega
  clear h hfr hs hf hss ht hC hn hc hsh hm0 hkk hfew
  go_enter Try.func34, Try.ntmps34
  go_wp2_with (first
    | (go_at_call 18; (with_reducible refine (rtenant_calls s HSS.out _).mono ?_); rw [HT.out]; rintro e w3 ⟨rfl, hb⟩; have HB0 := Aside0.mk hb; clear hb)
    | ((with_reducible refine gate_dst (N := 15) rfl ?_); refine Kd.R_lit k34 w3.heap.size 34 ?hg (N := 15) ?hd (xs := ([] : List S34)) (inner := []) (ok := fun k => ok k ∧ k ≠ g) (okp := fun _ => False) ?hr ?hp (fun _ hk => hk.elim) (HFR.out _ HB0.out.size) (Below.refl _ _) (Nat.le_refl _) (by simp) ?_; (case hd => rfl); (case hg => rfl); (case hr => first | (go_simp; done) | (go_simp; rfl)); (case hp => exact (Reps.none _ _)); intro v0 w4 ho1 hb1 hg1 hn1; obtain ⟨Al, cl, rfl⟩ := Kd.R_slice ho1; rw [List.length_nil] at ho1; have HR0 := Aside0.mk (Kd.N_lower (Kd.R_N ho1) HB0.out.size); have HB1 := Aside0.mk (HB0.out.trans (hb1.mono HB0.out.size)); have HAL := Aside0.mk (show ∀ k, (Value.slice Al 0 cl).ownBlock = some k → w.heap.size ≤ k from fun k hk => Nat.le_trans HB0.out.size (Kd.R_base ho1 k hk)); clear ho1 hb1 hg1 hn1)
    | (go_at_call 39; (with_reducible refine (rof_calls (HG.out.move (ok' := fun k => ok k ∧ k < w.heap.size) (fun k _ hk => HB1.out.block k hk) (fun k hk hlt => ⟨hk, hlt⟩)) HSM.out s HM0.out).mono ?_); rintro e w5 ⟨Ao, co, rfl, hco, hF, hb⟩; have HB2 := Aside0.mk (HB1.out.trans (hb.mono HB1.out.size)); have HR1 := Aside0.mk (Kd.N_below HR0.out hb); have HFO2 := Aside0.mk hF; clear hco hF hb)
    | ((with_reducible refine gate_builtin (b := .append) (xs := #[.tmp 15, .tmp 18]) rfl ?_); at_builtin; refine Kd.N_append_rows k34 (w0 := w) w.heap.size rfl (.tmp 15) (.tmp 18) 29 34 (.agg #[.int .i64 0, .slice none 0 0]) 32 rfl Try.underlying29 info34 rfl (by decide) (by omega) (.slice Al 0 cl) [] (ofSt st s) Ao m0 co _ _ rfl rfl HR1.out HFO2.out (fun k hk => ⟨⟨hk.1.1, hk.2⟩, fun e => by have h1 := HAL.out k e.symm; have h2 := hk.1.2; omega⟩) (fun k hk => HFR.out k (by have h1 := HB2.out.size; omega)) HB2.out HB2.out.size (by have h1 := HKS.out; simp only [List.length_nil]; omega) ?_; intro v5 w6 ho hb hg hat; obtain ⟨Aq, cq, rfl⟩ := Kd.N_slice ho; rw [List.nil_append] at ho ⊢; rw [← HM0.out] at ho ⊢; have HRQ0 := Aside0.mk ho; have HBQ0 := Aside0.mk hb; obtain ⟨c0, c1⟩ := (HG.out.below hb).cell; clear ho hb hg hat))
  clear c0 c1
  rename World => wo
  generalize hQo : ofSt st s = Qo at *
  have HQO := Aside0.mk hQo
  clear hQo
  go_loopg [8, 34] (kk + 1) (fun kq v8 v34 wr => ∃ (j mj : Nat) (Aq : Option Addr) (cq : Nat), v34 = .int .i64 j ∧ v8 = .slice Aq mj cq ∧ Aside0 (kq + j = kk + 1 ∧ j ≤ kk ∧ mj = m0 + j) ∧ Aside0 (Kd.N k34 34 wr w.heap.size (fun k => ok k ∧ k ≠ g) (.slice Aq mj cq) (Qo ++ ls.take j)) ∧ Aside0 (Below w.heap.size w wr))
  case atStart => exact ⟨0, m0, _, _, rfl, rfl, ⟨by omega⟩, ⟨by rw [List.take_zero, List.append_nil]; exact HRQ0.out⟩, HBQ0⟩
  case round =>
    obtain ⟨j, mj, Aq, cq, rfl, rfl, HJ, HRQ, HB⟩ := hrel
    cases gk with
    | zero => have := HJ.out; omega
    | succ k1 =>
    by_cases hlt : j < kk
    · have hi0 : (0 : Int) ≤ (j : Int) := by omega
      have hi1 : (j : Int) < (kk : Int) := by omega
      have hi2 : (j : Int) + 1 ≤ 9223372036854775807 := by have := HKS.out; omega
      have hjl : j < ls.length := by have := HNL.out; have := HKS.out; omega
      obtain ⟨ad, A1, c1, hA, x0, x1, hc1, hd1⟩ := at_T34 (Kd.C_below HC.out HB.out) (j : Int) hi0 (by have := HKS.out; omega)
      simp only [Int.toNat_natCast] at x0 x1
      subst hA
      have hx : rd_T34 ls (j : Int) = ls[j] := by unfold rd_T34; rw [Int.toNat_natCast, List.getD_eq_getElem?_getD, List.getElem?_eq_getElem hjl]; rfl
      have HTK := Aside0.mk (show ls.take j ++ [rd_T34 ls (j : Int)] = ls.take (j + 1) by rw [hx]; exact (List.take_succ_eq_append_getElem hjl).symm)
      have HTL := Aside0.mk (show (Qo ++ ls.take (j + 1)).length = mj + 1 by rw [List.length_append, List.length_take, HM0.out.symm]; have := HJ.out; omega)
      have hD2 : (rd_T34 ls (j : Int)).f1.length < 140737488355328 := by rw [hx]; exact HSH.out _ (List.getElem_mem _)
      generalize rd_T34 ls (j : Int) = x at *
      obtain ⟨nx, hnx⟩ : ∃ m : Nat, m = x.f1.length := ⟨_, rfl⟩
      rw [← hnx] at x1 hc1 hd1 hD2
      have HNX := Aside0.mk hnx
      have HD1 := Aside0.mk hc1
      have HD2 := Aside0.mk hD2
      have HV := Aside0.mk (show ∀ k, (Value.slice Aq mj cq).ownBlock = some k → k < wr.heap.size from Kd.N_lt HRQ.out)
      have hbd := below_drew1 (below_alloc (Below.refl wr.heap.size wr) (.cells #[.int .i64 x.f0, .slice A1 nx c1] 34))
      have HB0 := Aside0.mk hbd
      have HL0 := Aside0.mk (blk_drew (blk_new wr (.cells #[.int .i64 x.f0, .slice A1 nx c1] 34)))
      have HD0 := Aside0.mk (Kd.C_below hd1 hbd)
      have HS0 := Aside0.mk (Nat.le_trans HB.out.size hbd.size)
      clear hlt hjl hx hD2 hnx hc1 hd1 hbd
      go_wp2_with (fail)
      refine start_ (n := 11) (S := fun w' => w'.cell? ⟨wr.heap.size, 0, none⟩ = some (.int .i64 x.f0) ∧ w'.cell? ⟨wr.heap.size, 1, none⟩ = some (.slice A1 nx c1)) (ds := []) #[false, false, false, false, false, false, false, false, false, false, false] (by kernel_rfl) rfl rfl (ps2 HL0.out) (fun hHeld => ?_); refine with_tabW rsend.tab8 rsend.bits8 (fun HT_ HW_ => ?_)
      generalize hW0 : (wr.alloc (.cells #[.int .i64 x.f0, .slice A1 nx c1] 34)).drew = W0 at *
      clear hW0
      refine pure_ (i := 0) (N := some 38) (v := ?_) (a' := ?_) #[true, false, false, false, false, false, false, false, false, false, false] rfl rfl (any_of HT_.out (by kernel_rfl)) (fun _ _ _ h => h) (Or.inl ⟨by rfl, ?_⟩) ?_ ?_
      rotate_left
      · intro w'
        go_simp
        with_reducible rfl
      rotate_left
      · simp only [Act.put, List.setIfInBounds_toArray, List.set_cons_zero, List.set_cons_succ, i64_w, i32_w, xu32_w, xu8_w]
        rfl
      refine pure_ (i := 1) (N := some 39) (v := ?_) (a' := ?_) #[true, true, false, false, false, false, false, false, false, false, false] rfl rfl (any_of HT_.out (by kernel_rfl)) (fun _ _ _ h => h) (Or.inl ⟨by rfl, ?_⟩) ?_ ?_
      rotate_left
      · intro w'
        go_simp
        with_reducible rfl
      rotate_left
      · simp only [Act.put, List.setIfInBounds_toArray, List.set_cons_zero, List.set_cons_succ, i64_w, i32_w, xu32_w, xu8_w]
        rfl
      refine pure_ (i := 3) (N := some 41) (v := ?_) (a' := ?_) #[true, true, false, true, false, false, false, false, false, false, false] rfl rfl (any_of HT_.out (by kernel_rfl)) (fun _ _ _ h => h) (Or.inl ⟨by rfl, ?_⟩) ?_ ?_
      rotate_left
      · intro w'
        go_simp
        with_reducible rfl
      rotate_left
      · simp only [Act.put, List.setIfInBounds_toArray, List.set_cons_zero, List.set_cons_succ, i64_w, i32_w, xu32_w, xu8_w]
        rfl
      refine take_ (i := 2) (N := some 40) (v := ?_) (a' := ?_) #[true, true, true, true, false, false, false, false, false, false, false] rfl rfl (take_ofW HT_.out HW_.out (by kernel_rfl)) (fun _ _ _ h => h) (Or.inl ⟨by rfl, ?_⟩) hHeld ?_ ?_
      rotate_left
      · rintro w' ⟨s0, s1⟩
        go_simp
        with_reducible rfl
      rotate_left
      · simp only [Act.put, List.setIfInBounds_toArray, List.set_cons_zero, List.set_cons_succ, i64_w, i32_w, xu32_w, xu8_w]
        rfl
      refine take_ (i := 4) (N := some 42) (v := ?_) (a' := ?_) #[true, true, true, true, true, false, false, false, false, false, false] rfl rfl (take_ofW HT_.out HW_.out (by kernel_rfl)) (fun _ _ _ h => h) (Or.inl ⟨by rfl, ?_⟩) hHeld ?_ ?_
      rotate_left
      · rintro w' ⟨s0, s1⟩
        go_simp
        with_reducible rfl
      rotate_left
      · simp only [Act.put, List.setIfInBounds_toArray, List.set_cons_zero, List.set_cons_succ, i64_w, i32_w, xu32_w, xu8_w]
        rfl
      refine one_ (i := 5) (N := some 43) #[true, true, true, true, true, true, false, false, false, false, false] rfl rfl (one_of HT_.out (by kernel_rfl)) (by decide) (fun K hK => ?_)
      refine value_ (v := .slice (some ⟨W0.heap.size, 0, none⟩) 1 1) (w1 := W0.alloc (.cells #[.slice A1 nx c1] 32)) (by rfl) rfl (by first | (go_simp; done) | (go_simp; rfl)) ?_
      refine hK.out _ _ (ps2 (blk_alloc HL0.out _)) (fun hHeld => ?_)
      clear hK K
      refine norm_ (a' := ?_) ?_ ?_
      rotate_left
      · show Act.put _ (some 43) _ = _
        simp only [Act.put, List.setIfInBounds_toArray, List.set_cons_zero, List.set_cons_succ, i64_w, i32_w, xu32_w, xu8_w]
        rfl
      refine one_ (i := 6) (N := some 44) #[true, true, true, true, true, true, true, false, false, false, false] rfl rfl (one_of HT_.out (by kernel_rfl)) (by decide) (fun K hK => ?_)
      refine goes_ Try.func44 (by kernel_rfl) rfl #[.slice (some ⟨W0.heap.size, 0, none⟩) 1 1] (by rfl) rfl rfl (by (try simp only [List.map_toArray, List.map_cons, List.map_nil]); first | done | rfl) ?_
      with_reducible refine (join_lit HD0.out HD1.out HNX.out HD2.out).mono ?_
      rintro e w1 ⟨A2, c2, rfl, hR1, hb1⟩
      refine ⟨_, rfl, ?_⟩
      have HL1 := Aside0.mk (blk_below HL0.out hb1)
      have HR1 := Aside0.mk hR1
      have HB1 := Aside0.mk hb1
      clear hR1 hb1
      refine hK.out _ _ (ps2 HL1.out) (fun hHeld => ?_)
      clear hK K
      refine norm_ (a' := ?_) ?_ ?_
      rotate_left
      · show Act.put _ (some 44) _ = _
        simp only [Act.put, List.setIfInBounds_toArray, List.set_cons_zero, List.set_cons_succ, i64_w, i32_w, xu32_w, xu8_w]
        rfl
      refine pure_ (i := 7) (N := some 45) (v := ?_) (a' := ?_) #[true, true, true, true, true, true, true, true, false, false, false] rfl rfl (any_of HT_.out (by kernel_rfl)) (fun _ _ _ h => h) (Or.inl ⟨by rfl, ?_⟩) ?_ ?_
      rotate_left
      · intro w'
        go_simp
        with_reducible rfl
      rotate_left
      · simp only [Act.put, List.setIfInBounds_toArray, List.set_cons_zero, List.set_cons_succ, i64_w, i32_w, xu32_w, xu8_w]
        rfl
      refine one_ (i := 8) (N := some 46) #[true, true, true, true, true, true, true, true, true, false, false] rfl rfl (one_of HT_.out (by kernel_rfl)) (by decide) (fun K hK => ?_)
      refine value_ (v := .slice (some ⟨w1.heap.size, 0, none⟩) 1 1) (w1 := w1.alloc (.cells #[.int .i64 x.f0, .slice A2 nx c2] 34)) (by rfl) rfl (by first | (go_simp; done) | (go_simp; rfl)) ?_
      refine hK.out _ _ (ps2 (blk_alloc HL1.out _)) (fun hHeld => ?_)
      clear hK K
      refine norm_ (a' := ?_) ?_ ?_
      rotate_left
      · show Act.put _ (some 46) _ = _
        simp only [Act.put, List.setIfInBounds_toArray, List.set_cons_zero, List.set_cons_succ, i64_w, i32_w, xu32_w, xu8_w]
        rfl
      refine one_ (i := 9) (N := some 47) #[true, true, true, true, true, true, true, true, true, true, false] rfl rfl (one_of HT_.out (by kernel_rfl)) (by decide) (fun K hK => ?_)
      refine Kd.N_append_step k34 (w0 := w1) w.heap.size (by rfl) (.tmp 38) (.tmp 46) 29 34 (.agg #[.int .i64 0, .slice none 0 0]) 32 rfl Try.underlying29 info34 rfl (by decide) (by omega) (.slice Aq mj cq) (Qo ++ ls.take j) x [.int .i64 x.f0, .slice A2 nx c2] (fun k => ok k ∧ k ≠ g) (fun k => W0.heap.size ≤ k) rfl rfl ?aP ?aK ?aF ?aO ?aB ?aS ?aL ?_
      (case aP => exact k34_mkF' w1 _ x HNX.out (Kd.R_reads' HR1.out).2.1 (Kd.R_F HR1.out))
      (case aK => exact fun k hk => ⟨HFR.out k (Nat.le_trans HS0.out hk), fun e => by have h1 := HV.out k e.symm; have h2 := HB0.out.size; omega⟩)
      (case aF => exact fun k hk => HFR.out k (by have h1 := HS0.out; have h2 := HB1.out.size; omega))
      (case aO => exact Kd.N_below HRQ.out (HB0.out.trans (HB1.out.mono HB0.out.size)))
      (case aB => exact Below.refl _ _)
      (case aS => have h1 := HS0.out; have h2 := HB1.out.size; omega)
      (case aL => have h1 := HKS.out; have h2 := HJ.out; have h4 := HM0.out; rw [List.length_append, List.length_take]; omega)
      intro v2 w3 ho hbB hg hat
      obtain ⟨A3, c3, rfl⟩ := Kd.N_slice ho
      rw [List.append_assoc, HTK.out] at ho ⊢
      rw [HTL.out] at ho ⊢
      have HL3 := Aside0.mk ((hg.block wr.heap.size (heap_lt HL1.out) (fun e => by have h1 := HV.out _ e.symm; omega)).trans HL1.out)
      have HR3 := Aside0.mk ho
      have HB3 := Aside0.mk (below_trans_grown (B := w.heap.size) (HB.out.trans ((HB0.out.trans (HB1.out.mono HB0.out.size)).mono HB.out.size)) hg (fun k e => Kd.N_base HRQ.out k e.symm) (by have h1 := HS0.out; have h2 := HB1.out.size; omega))
      clear ho hbB hg hat
      refine hK.out _ _ (ps2 HL3.out) (fun hHeld => ?_)
      clear hK K
      refine norm_ (a' := ?_) ?_ ?_
      rotate_left
      · show Act.put _ (some 47) _ = _
        simp only [Act.put, List.setIfInBounds_toArray, List.set_cons_zero, List.set_cons_succ, i64_w, i32_w, xu32_w, xu8_w]
        rfl
      refine pure_ (i := 10) (N := some 8) (v := ?_) (a' := ?_) #[true, true, true, true, true, true, true, true, true, true, true] rfl rfl (any_of HT_.out (by kernel_rfl)) (fun _ _ _ h => h) (Or.inl ⟨by rfl, ?_⟩) ?_ ?_
      rotate_left
      · intro w'
        go_simp
        with_reducible rfl
      rotate_left
      · simp only [Act.put, List.setIfInBounds_toArray, List.set_cons_zero, List.set_cons_succ, i64_w, i32_w, xu32_w, xu8_w]
        rfl
      refine done_ (done_of HT_.out (by kernel_rfl)) ?_
      try go_wp2
      go_roundg k1
      case measure => omega
      case rel => exact ⟨j + 1, mj + 1, A3, c3, by first | rfl | (simp; done) | (rw [wrap64_self (n := (j : Int) + 1) (by omega) (by omega)]; first | rfl | (simp; done)), rfl, ⟨by have := HJ.out; omega⟩, HR3, HB3⟩
    · have hj : kk = j := by have := HJ.out; omega
      subst hj
      have hjj : ¬ (kk : Int) < (kk : Int) := by omega
      clear hlt
      go_wp2_with (go_at_call 45; (with_reducible refine (rset_calls (HG.out.below HB.out) (fun k hk => HOKF.out k (Nat.le_trans HB.out.size hk)) HST.out HSM.out s (Kd.N_F HRQ.out) (by rw [List.length_append, List.length_take, HM0.out.symm]; have h1 := HJ.out; have h2 := HKS.out; have h3 := HNL.out; omega) (Kd.N_reads' HRQ.out).2.1).mono ?_); rintro e w7 ⟨rfl, v7, hR7, hC7⟩; have HR7 := Aside0.mk hR7; have HC7 := Aside0.mk hC7; clear hR7 hC7)
      go_ret2
      exact ⟨rfl, v7, by rw [HQO.out]; exact HR7.out, (Chg.of_below (fun _ => False) HB.out).trans HC7.out (fun _ _ e => e.elim) (fun _ _ e => e)⟩
end
end Go.Proofs.Ytlnipfmgdkiboaa.N
