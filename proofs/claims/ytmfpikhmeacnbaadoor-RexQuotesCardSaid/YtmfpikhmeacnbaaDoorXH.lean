import Derived.Test.YtmfpikhmeacnbaaDoorXG
import Derived.Lib.MapLaws
import Derived.Stop.FmtQuoteTie
/- Patterns, plain: which texts a pattern matches (mkX22.py). -/
namespace Go.Proofs.YtmfpikhmeacnbaaDoor.X
open Go.RowKit Go.Proofs.YtmfpikhmeacnbaaDoor.Q
set_option linter.unusedVariables false
set_option linter.unusedSimpArgs false
/-- Once or more. -/
inductive Plus (P : List Int → Prop) : List Int → Prop where
  | one {u : List Int} : P u → Plus P u
  | more {a b : List Int} : Plus P a → P b → Plus P (a ++ b)
/-- What a part matches. -/
def Lg : Pt → List Int → Prop
  | .one s but _, u => ∃ c, u = [c] ∧ hasF s but c = true
  | .eps, u => u = []
  | .cat q p, u => ∃ a b, u = a ++ b ∧ Lg q a ∧ Lg p b
  | .alt1 p, u => Lg p u
  | .alt q p, u => Lg q u ∨ Lg p u
  | .again p s, u => (s ≠ 43 ∧ u = []) ∨ (if s = 63 then Lg p u else Plus (Lg p) u)
/-- The runes between two places. -/
def cut (l : List Int) (i j : Nat) : List Int := (l.drop i).take (j - i)
theorem cut_self (l : List Int) (i : Nat) : cut l i i = [] := by unfold cut; rw [Nat.sub_self, List.take_zero]
theorem cut_all (l : List Int) : cut l 0 l.length = l := by unfold cut; rw [List.drop_zero, Nat.sub_zero, List.take_length]
theorem cut_len {l : List Int} {i j : Nat} (hij : i ≤ j) (hj : j ≤ l.length) : (cut l i j).length = j - i := by unfold cut; rw [List.length_take, List.length_drop]; omega
theorem cut_app {l : List Int} {i m j : Nat} (h1 : i ≤ m) (h2 : m ≤ j) : cut l i j = cut l i m ++ cut l m j := by
  unfold cut
  have e : l.drop m = (l.drop i).drop (m - i) := by rw [List.drop_drop]; congr 1; omega
  rw [e, show j - i = (m - i) + (j - m) by omega, List.take_add]
theorem cut_split {l : List Int} {i j : Nat} (hij : i ≤ j) (hj : j ≤ l.length) {a b : List Int} (h : cut l i j = a ++ b) : ∃ m, i ≤ m ∧ m ≤ j ∧ cut l i m = a ∧ cut l m j = b := by
  have hl := cut_len hij hj
  rw [h, List.length_append] at hl
  refine ⟨i + a.length, by omega, by omega, ?_⟩
  have h2 := cut_app (l := l) (i := i) (m := i + a.length) (j := j) (by omega) (by omega)
  rw [h] at h2
  have h3 := List.append_inj h2 (by rw [cut_len (by omega) (by omega)]; omega)
  exact ⟨h3.1.symm, h3.2.symm⟩
theorem cut_one {l : List Int} {i : Nat} (hi : i < l.length) : cut l i (i + 1) = [l[i]] := by
  unfold cut
  rw [List.drop_eq_getElem_cons hi, show i + 1 - i = 1 by omega, List.take_succ_cons, List.take_zero]
/-- A list of places is reached from others by a set of texts. -/
def Reach (P : List Int → Prop) (l : List Int) (F O : List Bool) : Prop := ∀ j, j ≤ l.length → (O.getD j false = true ↔ ∃ i, i ≤ j ∧ F.getD i false = true ∧ P (cut l i j))
theorem Reach.seq {P Q : List Int → Prop} {l : List Int} {F G O : List Bool} (h1 : Reach P l F G) (h2 : Reach Q l G O) : Reach (fun u => ∃ a b, u = a ++ b ∧ P a ∧ Q b) l F O := by
  intro j hj
  rw [h2 j hj]
  constructor
  · rintro ⟨m, hm, hg, hq⟩
    obtain ⟨i, hi, hf, hp⟩ := (h1 m (by omega)).1 hg
    exact ⟨i, by omega, hf, _, _, cut_app hi hm, hp, hq⟩
  · rintro ⟨i, hi, hf, a, b, he, hp, hq⟩
    obtain ⟨m, h3, h4, rfl, rfl⟩ := cut_split hi hj he
    exact ⟨m, h4, (h1 m (by omega)).2 ⟨i, h3, hf, hp⟩, hq⟩
theorem Reach.or_ {P Q : List Int → Prop} {l : List Int} {F G O : List Bool} (h1 : Reach P l F G) (h2 : Reach Q l F O) (hl : G.length = O.length) : Reach (fun u => P u ∨ Q u) l F (orL G O) := by
  intro j hj
  rw [orL_at hl, Bool.or_eq_true, h1 j hj, h2 j hj]
  constructor
  · rintro (⟨i, a, b, c⟩ | ⟨i, a, b, c⟩)
    · exact ⟨i, a, b, .inl c⟩
    · exact ⟨i, a, b, .inr c⟩
  · rintro ⟨i, a, b, c | c⟩
    · exact .inl ⟨i, a, b, c⟩
    · exact .inr ⟨i, a, b, c⟩
theorem Reach.stay (l : List Int) (F : List Bool) : Reach (fun u => u = []) l F F := by
  intro j hj
  constructor
  · intro h
    exact ⟨j, Nat.le_refl _, h, cut_self l j⟩
  · rintro ⟨i, hi, hf, hc⟩
    have := cut_len hi hj
    rw [hc] at this
    have e : i = j := by simp at this; omega
    rw [← e]; exact hf
theorem Reach.none (l : List Int) (F : List Bool) (n : Nat) : Reach (fun _ => False) l F (List.replicate n false) := by
  intro j hj
  constructor
  · intro h
    rw [List.getD_eq_getElem?_getD, List.getElem?_replicate] at h
    split at h <;> cases h
  · rintro ⟨_, _, _, h⟩; exact h.elim
theorem Reach.imp {P Q : List Int → Prop} {l : List Int} {F O : List Bool} (h : Reach P l F O) (hpq : ∀ u, P u ↔ Q u) : Reach Q l F O := by
  intro j hj
  rw [h j hj]
  exact exists_congr fun i => and_congr_right fun _ => and_congr_right fun _ => hpq _
theorem Reach.one {s : List S86} {but : Bool} {l : List Int} {F : List Bool} (hF : F.length = l.length + 1) : Reach (fun u => ∃ c, u = [c] ∧ hasF s but c = true) l F (oneF s but l F) := by
  intro j hj
  cases j with
  | zero =>
    constructor
    · intro h; cases h
    · rintro ⟨i, hi, _, c, hc, _⟩
      have := cut_len hi hj
      rw [hc] at this
      simp at this
  | succ j =>
    have hjl : j < l.length := hj
    have e : (oneF s but l F).getD (j + 1) false = (F.getD j false && hasF s but l[j]) := by
      unfold oneF
      rw [show (false :: List.zipWith (fun c f => f && hasF s but c) l F).getD (j + 1) false = (List.zipWith (fun c f => f && hasF s but c) l F).getD j false from rfl, List.getD_eq_getElem?_getD (l := List.zipWith _ _ _), List.getElem?_zipWith]
      have e2 : j < F.length := by omega
      simp only [List.getD_eq_getElem?_getD, List.getElem?_eq_getElem hjl, List.getElem?_eq_getElem e2, Option.getD_some]
    rw [e, Bool.and_eq_true]
    constructor
    · rintro ⟨h1, h2⟩
      exact ⟨j, by omega, h1, l[j], cut_one hjl, h2⟩
    · rintro ⟨i, hi, hf, c, hc, hh⟩
      have hlen := cut_len hi hj
      rw [hc] at hlen
      have ei : i = j := by simp at hlen; omega
      subst ei
      rw [cut_one hjl] at hc
      injection hc with hc _
      rw [hc]
      exact ⟨hf, hh⟩
/-- The closure: what is reached from O again and again. -/
theorem clo_spec {P : List Int → Prop} {l : List Int} {f : List Bool → List Bool} (hf : ∀ F, F.length = l.length + 1 → Reach P l F (f F)) (hlen : ∀ F, F.length = l.length + 1 → (f F).length = l.length + 1) :
    ∀ k O, O.length = l.length + 1 → l.length + 2 ≤ k + cnt O → Reach (fun u => u = [] ∨ Plus P u) l O (clo f k O)
  | 0, O, hO, hk => by have := cnt_le O; omega
  | k + 1, O, hO, hk => by
    have hfO := hlen O hO
    rw [clo]
    by_cases he : orL O (f O) = O
    · rw [if_pos he]
      intro j hj
      constructor
      · intro h; exact ⟨j, Nat.le_refl _, h, .inl (cut_self l j)⟩
      · rintro ⟨i, hi, ho, hu⟩
        have step : ∀ {i j : Nat}, i ≤ j → j ≤ l.length → O.getD i false = true → P (cut l i j) → O.getD j false = true := by
          intro i j hij hj ho hp
          have h1 := (hf O hO j hj).2 ⟨i, hij, ho, hp⟩
          have h2 := orL_at (hO.trans hfO.symm) j
          rw [he, h1, Bool.or_true] at h2
          exact h2
        rcases hu with hu | hu
        · have := cut_len hi hj
          rw [hu] at this
          have e : i = j := by simp at this; omega
          rw [← e]; exact ho
        · have key : ∀ u, Plus P u → ∀ i j, i ≤ j → j ≤ l.length → O.getD i false = true → cut l i j = u → O.getD j false = true := by
            intro u hu
            induction hu with
            | one hp => intro i j h1 h2 h3 h4; exact step h1 h2 h3 (by rw [h4]; exact hp)
            | more _ hp ih =>
              intro i j h1 h2 h3 h4
              obtain ⟨m, h5, h6, h7, h8⟩ := cut_split h1 h2 h4
              exact step h6 h2 (ih i m h5 (by omega) h3 h7) (by rw [h8]; exact hp)
          exact key _ hu i j hi hj ho rfl
    · rw [if_neg he]
      have hm := (orL_more O (f O) (hO.trans hfO.symm)).2 he
      have ih := clo_spec hf hlen k (orL O (f O)) (by rw [orL_len (hO.trans hfO.symm)]; exact hO) (by omega)
      intro j hj
      rw [ih j hj]
      constructor
      · rintro ⟨i, hi, ho, hu⟩
        rw [orL_at (hO.trans hfO.symm), Bool.or_eq_true] at ho
        rcases ho with ho | ho
        · exact ⟨i, hi, ho, hu⟩
        · obtain ⟨m, hm1, hm2, hm3⟩ := (hf O hO i (by omega)).1 ho
          refine ⟨m, by omega, hm2, .inr ?_⟩
          rw [cut_app hm1 hi]
          rcases hu with hu | hu
          · rw [hu, List.append_nil]; exact .one hm3
          · have key : ∀ b, Plus P b → Plus P (cut l m i ++ b) := by
              intro b hb
              induction hb with
              | one hp => exact .more (.one hm3) hp
              | more _ hp ih => rw [← List.append_assoc]; exact .more ih hp
            exact key _ hu
      · rintro ⟨i, hi, ho, hu⟩
        exact ⟨i, hi, by rw [orL_at (hO.trans hfO.symm), ho, Bool.true_or], hu⟩
/-- What ends answers, in words. -/
theorem ends_spec : ∀ (p : Pt) (l : List Int) (F : List Bool), F.length = l.length + 1 → Reach (Lg p) l F (endsF p l F)
  | .one s but _, l, F, h => Reach.one h
  | .eps, l, F, h => Reach.stay l F
  | .cat q p, l, F, h => (ends_spec q l F h).seq (ends_spec p l _ (ends_len q l F h))
  | .alt1 p, l, F, h => ((Reach.none l F (l.length + 1)).or_ (ends_spec p l F h) (by rw [List.length_replicate, ends_len p l F h])).imp fun u => by simp [Lg]
  | .alt q p, l, F, h => (ends_spec q l F h).or_ (ends_spec p l F h) (by rw [ends_len q l F h, ends_len p l F h])
  | .again p s, l, F, h => by
    have h1 := ends_spec p l F h
    have hl1 := ends_len p l F h
    have h2 : Reach (fun u => (s ≠ 43 ∧ u = []) ∨ Lg p u) l F (if s = 43 then endsF p l F else orL (endsF p l F) F) := by
      by_cases e : s = 43
      · rw [if_pos e]; exact h1.imp fun u => by simp [e]
      · rw [if_neg e]; exact (h1.or_ (Reach.stay l F) (hl1.trans h.symm)).imp fun u => by constructor <;> (intro h; rcases h with h | h) <;> simp_all
    have hl2 : (if s = 43 then endsF p l F else orL (endsF p l F) F).length = l.length + 1 := by
      by_cases e : s = 43
      · rw [if_pos e]; exact hl1
      · rw [if_neg e, orL_len (hl1.trans h.symm)]; exact hl1
    rw [endsF]
    by_cases e : s = 63
    · rw [if_pos e]
      exact h2.imp fun u => by simp [Lg, e]
    · rw [if_neg e]
      have h3 := clo_spec (P := Lg p) (l := l) (f := endsF p l) (fun F hF => ends_spec p l F hF) (fun F hF => ends_len p l F hF) (l.length + 2) _ hl2 (by omega)
      refine (h2.seq h3).imp fun u => ?_
      have key : ∀ {a b : List Int}, Lg p a → Plus (Lg p) b → Plus (Lg p) (a ++ b) := by
        intro a b ha hb
        induction hb with
        | one hp => exact .more (.one ha) hp
        | more _ hp ih => rw [← List.append_assoc]; exact .more ih hp
      constructor
      · rintro ⟨a, b, rfl, (⟨h4, rfl⟩ | ha), (rfl | hb)⟩
        · exact .inl ⟨h4, rfl⟩
        · exact .inr (by rw [if_neg e]; exact hb)
        · exact .inr (by rw [if_neg e, List.append_nil]; exact .one ha)
        · exact .inr (by rw [if_neg e]; exact key ha hb)
      · rintro (⟨h4, rfl⟩ | hb)
        · exact ⟨[], [], rfl, .inl ⟨h4, rfl⟩, .inl rfl⟩
        · rw [if_neg e] at hb
          have key2 : ∀ u, Plus (Lg p) u → ∃ a b, u = a ++ b ∧ Lg p a ∧ (b = [] ∨ Plus (Lg p) b) := by
            intro u hu
            induction hu with
            | one hp => exact ⟨_, [], (List.append_nil _).symm, hp, .inl rfl⟩
            | more _ hp ih =>
              obtain ⟨a, b, rfl, h5, h6⟩ := ih
              refine ⟨a, b ++ _, List.append_assoc _ _ _, h5, .inr ?_⟩
              rcases h6 with rfl | h6
              · exact .one hp
              · exact .more h6 hp
          obtain ⟨a, b, h5, h6, h7⟩ := key2 u hb
          exact ⟨a, b, h5, .inr h6, h7⟩
theorem match_iff (p : Pt) (s : ByteArray) : matchF p s = true ↔ Lg p (runesF s) := by
  unfold matchF
  rw [ends_spec p (runesF s) _ (by simp) _ (Nat.le_refl _)]
  constructor
  · rintro ⟨i, hi, hf, h⟩
    have e : i = 0 := by
      cases i with
      | zero => rfl
      | succ i =>
        rw [show (true :: List.replicate (runesF s).length false).getD (i + 1) false = (List.replicate (runesF s).length false).getD i false from rfl, List.getD_eq_getElem?_getD, List.getElem?_replicate] at hf
        split at hf <;> cases hf
    subst e
    rw [cut_all] at h
    exact h
  · intro h
    exact ⟨0, Nat.zero_le _, rfl, by rw [cut_all]; exact h⟩
end Go.Proofs.YtmfpikhmeacnbaaDoor.X

/- Patterns, plain: texts as runes (mkX23.py). -/
namespace Go.Proofs.YtmfpikhmeacnbaaDoor.X
open Go.RowKit Go.Lib Go.Extern.FmtText Go.Proofs.YtmfpikhmeacnbaaDoor.Q
set_option linter.unusedVariables false
set_option linter.unusedSimpArgs false
/-- A rune's bytes. -/
def encB (c : Int) : List UInt8 := (Utf8.encode c).data.toList
def encL (cs : List Int) : List UInt8 := cs.flatMap encB
theorem ofNat_toNat (n : Nat) : (UInt8.ofNat n).toNat = n % 256 := UInt8.toNat_ofNat'
set_option maxRecDepth 1000000 in
/-- What was encoded is decoded. -/
theorem dec_enc {c : Int} (hc : Rune c) (t : List UInt8) : decodeL (encB c ++ t) = (c.toNat, (encB c).length) := by
  obtain ⟨h0, h1, h2⟩ := hc
  obtain ⟨r, rfl⟩ := Int.eq_ofNat_of_zero_le h0
  rw [Int.toNat_natCast]
  unfold encB
  by_cases c1 : r < 128
  · rw [enc1 r c1, decodeL_N]
    show decodeN (t.length + 1) (UInt8.ofNat r).toNat _ _ _ = (r, 1)
    rw [ofNat_toNat, decodeN, if_pos (by omega), Nat.mod_eq_of_lt (by omega)]
  by_cases c2 : r < 2048
  · rw [enc2 r c1 c2, decodeL_N]
    show decodeN (t.length + 2) (UInt8.ofNat (192 + r / 64)).toNat (UInt8.ofNat (128 + r % 64)).toNat _ _ = (r, 2)
    rw [ofNat_toNat, ofNat_toNat, decodeN, if_neg (by omega), if_pos ⟨by omega, by omega, by omega⟩, if_pos (by omega)]
    congr 1
    omega
  by_cases c3 : r < 65536
  · rw [enc3 r c2 c3 (by omega), decodeL_N]
    show decodeN (t.length + 3) (UInt8.ofNat (224 + r / 4096)).toNat (UInt8.ofNat (128 + r / 64 % 64)).toNat (UInt8.ofNat (128 + r % 64)).toNat _ = (r, 3)
    rw [ofNat_toNat, ofNat_toNat, ofNat_toNat, decodeN, if_neg (by omega), if_neg (by omega), if_pos ⟨by omega, ⟨by omega, by omega⟩, by omega, by omega⟩, if_pos ⟨by omega, by omega⟩]
    congr 1
    omega
  · rw [enc4 r c3 (by omega), decodeL_N]
    show decodeN (t.length + 4) (UInt8.ofNat (240 + r / 262144)).toNat (UInt8.ofNat (128 + r / 4096 % 64)).toNat (UInt8.ofNat (128 + r / 64 % 64)).toNat (UInt8.ofNat (128 + r % 64)).toNat = (r, 4)
    rw [ofNat_toNat, ofNat_toNat, ofNat_toNat, ofNat_toNat, decodeN, if_neg (by omega), if_neg (by omega), if_neg (by omega), if_pos ⟨by omega, ⟨by omega, by omega⟩, ⟨by omega, by omega⟩, by omega, by omega⟩, if_pos ⟨by omega, by omega⟩]
    congr 1
    omega
theorem encB_pos (c : Int) : 1 ≤ (encB c).length := by
  unfold encB Utf8.encode
  dsimp only
  generalize (if Utf8.valid c = true then c.toNat else Utf8.runeError) = n
  split
  · exact Nat.le_refl _
  · split
    · exact Nat.le_succ _
    · split
      · exact Nat.succ_le_succ (Nat.zero_le _)
      · exact Nat.succ_le_succ (Nat.zero_le _)
theorem encB_bad : encB 65533 = [239, 191, 189] := by rfl
set_option maxRecDepth 1000000 in
/-- A rune that was decoded of valid bytes stands there. -/
theorem enc_dec (l : List UInt8) (hne : l ≠ []) (hv : ¬ ((decodeL l).1 = 65533 ∧ (decodeL l).2 = 1)) : encB ((decodeL l).1 : Nat) = l.take (decodeL l).2 := by
  have h1 := encode_decode l hne hv
  have h2 := encode_eq (decodeL l).1
  unfold encodeRune at h1
  rw [← h2] at h1
  rw [← h1]
  unfold encB nums
  rw [List.map_map]
  symm
  conv => rhs; rw [← List.map_id (Utf8.encode ((decodeL l).1 : Int)).data.toList]
  apply List.map_congr_left
  intro x _
  simp
/-- The runes of bytes. -/
def runesU : Nat → List UInt8 → List Int
  | 0, _ => []
  | k + 1, l => if l = [] then [] else ((decodeL l).1 : Int) :: runesU k (l.drop (decodeL l).2)
theorem runes_eq (s : ByteArray) : ∀ k pos, pos ≤ s.size → runesK s k pos = runesU k (s.data.toList.drop pos)
  | 0, _, _ => rfl
  | k + 1, pos, hp => by
    have hl : s.data.toList.length = s.size := rfl
    rw [runesK, runesU]
    by_cases h : pos < s.size
    · have h1 := decode_size s pos h
      rw [if_pos h, if_neg (by intro e; have := congrArg List.length e; rw [List.length_drop] at this; simp at this; omega), decodeL_drop, runes_eq s k _ h1.2.1, List.drop_drop]
    · rw [if_neg h, if_pos (List.drop_eq_nil_of_le (by omega))]
theorem runesF_eq (s : ByteArray) : runesF s = runesU (s.data.toList.length + 1) s.data.toList := runes_eq s (s.size + 1) 0 (Nat.zero_le _)
theorem runesU_enc : ∀ (cs : List Int) (k : Nat), (∀ c ∈ cs, Rune c) → (encL cs).length < k → runesU k (encL cs) = cs
  | [], k, _, hk => by
    cases k with
    | zero => omega
    | succ k => rfl
  | c :: cs, k, hc, hk => by
    cases k with
    | zero => omega
    | succ k =>
      have hr := hc c List.mem_cons_self
      have e : encL (c :: cs) = encB c ++ encL cs := rfl
      have hp := encB_pos c
      rw [e] at hk ⊢
      rw [List.length_append] at hk
      rw [runesU, if_neg (by intro h; have h1 := (List.append_eq_nil_iff.1 h).1; rw [h1] at hp; simp at hp), dec_enc hr, List.drop_left, runesU_enc cs k (fun x hx => hc x (List.mem_cons_of_mem _ hx)) (by omega)]
      congr 1
      have := hr.1
      omega
/-- The runes of a text that was put together of runes. -/
theorem runes_enc {cs : List Int} (hc : ∀ c ∈ cs, Rune c) {s : ByteArray} (hs : s.data.toList = encL cs) : runesF s = cs := by
  rw [runesF_eq, hs]
  exact runesU_enc cs _ hc (Nat.lt_succ_self _)
theorem extract_list (s : ByteArray) (a b : Nat) : (s.extract a b).data.toList = (s.data.toList.drop a).take (b - a) := by
  rw [ByteArray.data_extract, Array.toList_extract, List.extract_eq_take_drop]
theorem toList_data (s : ByteArray) : s.toList = s.data.toList := by
  rw [ByteArray.toList_eq]
/-- Bytes that are no rune are told so. -/
theorem err_iff (s : ByteArray) {pos : Nat} (hp : pos < s.size) : errB s pos = true ↔ (Utf8.decode s pos).1 = 65533 ∧ (Utf8.decode s pos).2 = 1 := by
  have hl : s.data.toList.length = s.size := rfl
  have hne : s.data.toList.drop pos ≠ [] := by intro e; have := congrArg List.length e; rw [List.length_drop] at this; simp at this; omega
  have hD : decodeL (s.data.toList.drop pos) = Utf8.decode s pos := decodeL_drop s pos
  unfold errB
  rw [Bool.and_eq_true, decide_eq_true_eq, Bool.or_eq_true, decide_eq_true_eq, Bool.not_eq_true', beq_eq_false_iff_ne, toList_data, extract_list, show pos + 3 - pos = 3 by omega]
  constructor
  · rintro ⟨h1, h2⟩
    refine ⟨h1, Classical.byContradiction fun h3 => ?_⟩
    have h4 := enc_dec _ hne (by rw [hD]; exact fun h => h3 h.2)
    rw [hD, h1] at h4
    have h4' : [239, 191, 189] = (s.data.toList.drop pos).take (Utf8.decode s pos).2 := h4
    have h5 := congrArg List.length h4'
    rw [List.length_take, List.length_drop] at h5
    have h6 : (Utf8.decode s pos).2 = 3 := by
      have h7 := decode_size s pos hp
      simp at h5
      omega
    rw [h6] at h4'
    rcases h2 with h2 | h2
    · simp at h5; omega
    · exact h2 h4'.symm
  · rintro ⟨h1, h2⟩
    refine ⟨h1, Classical.byContradiction fun h3 => ?_⟩
    have h4 : (s.data.toList.drop pos).take 3 = [239, 191, 189] := Classical.byContradiction fun h => h3 (.inr h)
    have h5 : s.data.toList.drop pos = encB 65533 ++ (s.data.toList.drop pos).drop 3 := by
      conv => lhs; rw [← List.take_append_drop 3 (s.data.toList.drop pos), h4]
      rfl
    have h6 := dec_enc (c := 65533) ⟨by decide, by decide, by decide⟩ ((s.data.toList.drop pos).drop 3)
    rw [← h5, hD] at h6
    rw [h6] at h2
    cases h2
theorem valid_runes (s : ByteArray) : ∀ k pos, pos ≤ s.size → s.size - pos < k → ((charsK s k pos).all fun x => decide (0 ≤ x.c)) = true → encL (runesK s k pos) = s.data.toList.drop pos ∧ ∀ c ∈ runesK s k pos, Rune c
  | 0, _, _, h, _ => by omega
  | k + 1, pos, hp, hk, hv => by
    have hl : s.data.toList.length = s.size := rfl
    rw [charsK] at hv
    rw [runesK]
    by_cases h : pos < s.size
    · rw [if_pos h] at hv ⊢
      have h1 := decode_size s pos h
      rw [List.all_cons, Bool.and_eq_true] at hv
      have hne : s.data.toList.drop pos ≠ [] := by intro e; have := congrArg List.length e; rw [List.length_drop] at this; simp at this; omega
      have hD : decodeL (s.data.toList.drop pos) = Utf8.decode s pos := decodeL_drop s pos
      have he : ¬ ((Utf8.decode s pos).1 = 65533 ∧ (Utf8.decode s pos).2 = 1) := fun e => by
        have h2 := hv.1
        unfold charF at h2
        rw [if_pos ((err_iff s h).2 e)] at h2
        simp at h2
      obtain ⟨i1, i2⟩ := valid_runes s k (pos + (Utf8.decode s pos).2) h1.2.1 (by omega) hv.2
      have h3 := enc_dec _ hne (by rw [hD]; exact he)
      rw [hD] at h3
      refine ⟨?_, fun c hc => ?_⟩
      · rw [show encL (((Utf8.decode s pos).1 : Int) :: runesK s k (pos + (Utf8.decode s pos).2)) = encB ((Utf8.decode s pos).1 : Nat) ++ encL (runesK s k (pos + (Utf8.decode s pos).2)) from rfl, i1, h3]
        rw [show s.data.toList.drop (pos + (Utf8.decode s pos).2) = (s.data.toList.drop pos).drop (Utf8.decode s pos).2 from by rw [List.drop_drop]]
        exact List.take_append_drop _ _
      · rcases List.mem_cons.1 hc with rfl | hc
        · have h4 := decode_rune (subS s pos) (by unfold subS; rw [ByteArray.size_extract]; omega)
          have h5 : Utf8.decode (subS s pos) 0 = Utf8.decode s pos := by
            have a1 := decodeL_drop (subS s pos) 0
            rw [List.drop_zero] at a1
            rw [← a1, ← hD]
            unfold subS
            rw [extract_list, List.take_of_length_le (by rw [List.length_drop]; omega)]
          rw [h5] at h4
          rcases h4 with h4 | h4
          · exact absurd ⟨h4.1, by have := h4.2; omega⟩ he
          · exact h4.1
        · exact i2 c hc
    · rw [if_neg h]
      exact ⟨by rw [List.drop_eq_nil_of_le (by omega)]; rfl, fun c hc => by cases hc⟩
/-- A text of runes is what its runes are put together. -/
theorem valid_enc {s : ByteArray} (h : validF s = true) : encL (runesF s) = s.data.toList ∧ ∀ c ∈ runesF s, Rune c := by
  have := valid_runes s (s.size + 1) 0 (Nat.zero_le _) (by omega) h
  exact this
theorem ba_ext {s t : ByteArray} (h : s.data.toList = t.data.toList) : s = t := by
  cases s; cases t
  simp only [ByteArray.mk.injEq]
  exact Array.toList_inj.1 h
/-- Two texts of runes are the same if their runes are. -/
theorem valid_inj {s t : ByteArray} (hs : validF s = true) (ht : validF t = true) (h : runesF s = runesF t) : s = t :=
  ba_ext (by rw [← (valid_enc hs).1, ← (valid_enc ht).1, h])
end Go.Proofs.YtmfpikhmeacnbaaDoor.X
