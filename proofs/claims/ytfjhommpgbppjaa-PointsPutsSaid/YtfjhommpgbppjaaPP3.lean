/- Plain laws of points, on: merging. -/
import Derived.Test.YtfjhommpgbppjaaQ0
import Derived.Test.YtfjhommpgbppjaaV15
import Derived.Test.YtfjhommpgbppjaaPP2
namespace Go.Proofs.Ytfjhommpgbppjaa.PP
open Go.RowKit Go.Proofs.Ytfjhommpgbppjaa.Q Go.Proofs.YtfjhommpgbppjaaW.PrintWords Go.Proofs.YtfjhommpgbppjaaW.PrintLast Go.Proofs.YtfjhommpgbppjaaW.PrintMore
set_option linter.unusedVariables false

/-- The one of two that counts. -/
def least (p q : S25) : S25 := if ah p q = true then p else q
theorem ah_iff (p q : S25) : ah p q = true ↔ p.f2 < q.f2 ∨ (p.f2 = q.f2 ∧ p.f1 < q.f1) := by simp [ah]
theorem s25_ext {p q : S25} (h0 : p.f0 = q.f0) (h1 : p.f1 = q.f1) (h2 : p.f2 = q.f2) : p = q := by
  cases p; cases q; simp_all
theorem least_comm {p q : S25} (h : p.f0 = q.f0) : least p q = least q p := by
  unfold least
  by_cases h1 : ah p q = true <;> by_cases h2 : ah q p = true <;> simp only [h1, h2, if_true, if_false, Bool.false_eq_true]
  · rw [ah_iff] at h1 h2; omega
  · rw [ah_iff] at h1 h2; exact s25_ext h.symm (by omega) (by omega)
theorem least_self (p : S25) : least p p = p := by unfold least; split <;> rfl
theorem least_assoc (p q r : S25) : least (least p q) r = least p (least q r) := by
  unfold least
  by_cases h1 : ah p q = true <;> by_cases h2 : ah q r = true <;> by_cases h3 : ah p r = true <;> simp only [h1, h2, h3, if_true, if_false, Bool.false_eq_true] <;>
    (rw [ah_iff] at h1 h2 h3; omega)
theorem least_or (p q : S25) : least p q = p ∨ least p q = q := by unfold least; split <;> simp
theorem least_f0 {p q : S25} (h : p.f0 = q.f0) : (least p q).f0 = p.f0 := by rcases least_or p q with e | e <;> rw [e]; exact h.symm

/-- Two lists as one. -/
def mg : List S25 → List S25 → List S25
  | [], b => b
  | p :: a, [] => p :: a
  | p :: a, q :: b => if p.f0 < q.f0 then p :: mg a (q :: b) else if q.f0 < p.f0 then q :: mg (p :: a) b else least p q :: mg a b
termination_by a b => a.length + b.length
theorem mg_nil (a : List S25) : mg a [] = a := by cases a <;> simp [mg]
theorem nil_mg (a : List S25) : mg [] a = a := by simp [mg]
theorem mg_len (n : Nat) : ∀ a b : List S25, a.length + b.length ≤ n → (mg a b).length ≤ a.length + b.length := by
  induction n with
  | zero => intro a b h; cases a <;> cases b <;> simp_all [mg]
  | succ n ih =>
    intro a b h
    match a, b with
    | [], b => simp [mg]
    | p :: a, [] => simp [mg]
    | p :: a, q :: b =>
      simp only [List.length_cons] at h
      unfold mg
      split
      · have := ih a (q :: b) (by simp only [List.length_cons]; omega); simp only [List.length_cons] at *; omega
      · split
        · have := ih (p :: a) b (by simp only [List.length_cons]; omega); simp only [List.length_cons] at *; omega
        · have := ih a b (by omega); simp only [List.length_cons]; omega
theorem mg_mem (n : Nat) : ∀ a b : List S25, a.length + b.length ≤ n → ∀ x, x ∈ mg a b → x ∈ a ∨ x ∈ b := by
  induction n with
  | zero => intro a b h x; cases a <;> cases b <;> simp_all [mg]
  | succ n ih =>
    intro a b h x hx
    match a, b with
    | [], b => simp [mg] at hx; exact .inr hx
    | p :: a, [] => rw [mg_nil] at hx; exact .inl hx
    | p :: a, q :: b =>
      simp only [List.length_cons] at h
      unfold mg at hx
      split at hx
      · rcases List.mem_cons.1 hx with e | e
        · exact .inl (by simp [e])
        · rcases ih a (q :: b) (by simp only [List.length_cons]; omega) x e with e | e
          · exact .inl (List.mem_cons_of_mem _ e)
          · exact .inr e
      · split at hx
        · rcases List.mem_cons.1 hx with e | e
          · exact .inr (by simp [e])
          · rcases ih (p :: a) b (by simp only [List.length_cons]; omega) x e with e | e
            · exact .inl e
            · exact .inr (List.mem_cons_of_mem _ e)
        · rcases List.mem_cons.1 hx with e | e
          · rcases least_or p q with e2 | e2
            · exact .inl (by simp [e, e2])
            · exact .inr (by simp [e, e2])
          · rcases ih a b (by omega) x e with e | e
            · exact .inl (List.mem_cons_of_mem _ e)
            · exact .inr (List.mem_cons_of_mem _ e)

/-- The times rise. -/
def Srt (l : List S25) : Prop := l.Pairwise fun p q => p.f0 < q.f0
theorem srt_cons {p : S25} {l : List S25} : Srt (p :: l) ↔ (∀ x ∈ l, p.f0 < x.f0) ∧ Srt l := List.pairwise_cons
theorem srt_nil : Srt [] := List.Pairwise.nil
theorem srt_mg (n : Nat) : ∀ a b : List S25, a.length + b.length ≤ n → Srt a → Srt b → Srt (mg a b) := by
  induction n with
  | zero => intro a b h h1 h2; cases a <;> cases b <;> simp_all [mg]
  | succ n ih =>
    intro a b h h1 h2
    match a, b with
    | [], b => simpa [mg] using h2
    | p :: a, [] => rw [mg_nil]; exact h1
    | p :: a, q :: b =>
      simp only [List.length_cons] at h
      have k1 := srt_cons.1 h1
      have k2 := srt_cons.1 h2
      unfold mg
      split
      · rename_i hlt
        refine srt_cons.2 ⟨fun x hx => ?_, ih _ _ (by simp only [List.length_cons]; omega) k1.2 h2⟩
        rcases mg_mem _ _ _ (Nat.le_refl _) x hx with e | e
        · exact k1.1 x e
        · rcases List.mem_cons.1 e with e | e
          · rw [e]; exact hlt
          · exact Int.lt_trans hlt (k2.1 x e)
      · split
        · rename_i hlt
          refine srt_cons.2 ⟨fun x hx => ?_, ih _ _ (by simp only [List.length_cons]; omega) h1 k2.2⟩
          rcases mg_mem _ _ _ (Nat.le_refl _) x hx with e | e
          · rcases List.mem_cons.1 e with e | e
            · rw [e]; exact hlt
            · exact Int.lt_trans hlt (k1.1 x e)
          · exact k2.1 x e
        · rename_i hlt1 hlt2
          have he : p.f0 = q.f0 := by omega
          refine srt_cons.2 ⟨fun x hx => ?_, ih _ _ (by omega) k1.2 k2.2⟩
          rw [least_f0 he]
          rcases mg_mem _ _ _ (Nat.le_refl _) x hx with e | e
          · exact k1.1 x e
          · rw [he]; exact k2.1 x e

/-- The point of a time. -/
def look : List S25 → Int → Option S25
  | [], _ => none
  | p :: l, t => if p.f0 = t then some p else look l t
theorem look_none {l : List S25} {t : Int} (h : ∀ x ∈ l, x.f0 ≠ t) : look l t = none := by
  induction l with
  | nil => rfl
  | cons p l ih => unfold look; rw [if_neg (h p (by simp))]; exact ih fun x hx => h x (List.mem_cons_of_mem _ hx)
theorem look_some {l : List S25} {t : Int} {p : S25} (h : look l t = some p) : p ∈ l ∧ p.f0 = t := by
  induction l with
  | nil => cases h
  | cons q l ih =>
    unfold look at h
    split at h
    · rename_i he; cases h; exact ⟨by simp, he⟩
    · exact ⟨List.mem_cons_of_mem _ (ih h).1, (ih h).2⟩
theorem look_mem {l : List S25} (hs : Srt l) {p : S25} (h : p ∈ l) : look l p.f0 = some p := by
  induction l with
  | nil => cases h
  | cons q l ih =>
    have k := srt_cons.1 hs
    unfold look
    rcases List.mem_cons.1 h with e | e
    · rw [if_pos (by rw [e]), e]
    · rw [if_neg (by have := k.1 p e; omega)]; exact ih k.2 e
theorem look_ext : ∀ a b : List S25, Srt a → Srt b → (∀ t, look a t = look b t) → a = b := by
  intro a
  induction a with
  | nil =>
    intro b _ hb h
    cases b with
    | nil => rfl
    | cons q b => have := h q.f0; simp [look] at this
  | cons p a ih =>
    intro b ha hb h
    cases b with
    | nil => have := h p.f0; simp [look] at this
    | cons q b =>
      have k1 := srt_cons.1 ha
      have k2 := srt_cons.1 hb
      have hpq : p = q := by
        have h1 := h p.f0
        have h2 := h q.f0
        rw [look, if_pos rfl] at h1
        rw [look.eq_2 q.f0 q b, if_pos rfl] at h2
        have m1 := (look_some h1.symm).1
        have m2 := (look_some h2).1
        rcases List.mem_cons.1 m1 with e | e
        · exact e
        · rcases List.mem_cons.1 m2 with e2 | e2
          · exact e2.symm
          · have := k1.1 _ e2; have := k2.1 _ e; omega
      subst hpq
      refine congrArg _ (ih b k1.2 k2.2 fun t => ?_)
      by_cases e : p.f0 = t
      · rw [look_none fun x hx => by have := k1.1 x hx; omega, look_none fun x hx => by have := k2.1 x hx; omega]
      · have := h t
        rwa [look, if_neg e, look.eq_2, if_neg e] at this
/-- What two points of a time come to. -/
def cmb : Option S25 → Option S25 → Option S25
  | none, y => y
  | some p, none => some p
  | some p, some q => some (least p q)
theorem cmb_none (x : Option S25) : cmb x none = x := by cases x <;> rfl
theorem cmb_assoc (x y z : Option S25) : cmb (cmb x y) z = cmb x (cmb y z) := by
  cases x <;> cases y <;> cases z <;> simp [cmb, least_assoc]
theorem cmb_comm {x y : Option S25} {t : Int} (hx : ∀ p, x = some p → p.f0 = t) (hy : ∀ p, y = some p → p.f0 = t) : cmb x y = cmb y x := by
  cases x <;> cases y <;> simp [cmb]
  exact least_comm ((hx _ rfl).trans (hy _ rfl).symm)
theorem cmb_self (x : Option S25) : cmb x x = x := by cases x <;> simp [cmb, least_self]
theorem look_mg (n : Nat) (t : Int) : ∀ a b : List S25, a.length + b.length ≤ n → Srt a → Srt b → look (mg a b) t = cmb (look a t) (look b t) := by
  induction n with
  | zero => intro a b h h1 h2; cases a <;> cases b <;> simp_all [mg, look, cmb]
  | succ n ih =>
    intro a b h h1 h2
    match a, b with
    | [], b => simp [mg, look, cmb]
    | p :: a, [] => rw [mg_nil]; exact (cmb_none _).symm
    | p :: a, q :: b =>
      simp only [List.length_cons] at h
      have k1 := srt_cons.1 h1
      have k2 := srt_cons.1 h2
      unfold mg
      split
      · rename_i hlt
        rw [look.eq_2, look.eq_2 t p a]
        by_cases e : p.f0 = t
        · rw [if_pos e, if_pos e, look_none (l := q :: b), cmb_none]
          intro x hx
          rcases List.mem_cons.1 hx with e2 | e2
          · rw [e2]; omega
          · have := k2.1 x e2; omega
        · rw [if_neg e, if_neg e, ih _ _ (by simp only [List.length_cons]; omega) k1.2 h2]
      · split
        · rename_i hlt
          rw [look.eq_2, look.eq_2 t q b]
          by_cases e : q.f0 = t
          · rw [if_pos e, if_pos e, look_none (l := p :: a)]
            · rfl
            · intro x hx
              rcases List.mem_cons.1 hx with e2 | e2
              · rw [e2]; omega
              · have := k1.1 x e2; omega
          · rw [if_neg e, if_neg e, ih _ _ (by simp only [List.length_cons]; omega) h1 k2.2]
        · rename_i hlt1 hlt2
          have he : p.f0 = q.f0 := by omega
          rw [look.eq_2, look.eq_2 t p a, look.eq_2 t q b, least_f0 he]
          by_cases e : p.f0 = t
          · rw [if_pos e, if_pos e, if_pos (by omega)]; rfl
          · rw [if_neg e, if_neg e, if_neg (by omega), ih _ _ (by omega) k1.2 k2.2]

theorem mg_comm {a b : List S25} (ha : Srt a) (hb : Srt b) : mg a b = mg b a :=
  look_ext _ _ (srt_mg _ _ _ (Nat.le_refl _) ha hb) (srt_mg _ _ _ (Nat.le_refl _) hb ha) fun t => by
    rw [look_mg _ t _ _ (Nat.le_refl _) ha hb, look_mg _ t _ _ (Nat.le_refl _) hb ha]
    exact cmb_comm (t := t) (fun p h => (look_some h).2) (fun p h => (look_some h).2)
theorem mg_assoc {a b c : List S25} (ha : Srt a) (hb : Srt b) (hc : Srt c) : mg (mg a b) c = mg a (mg b c) := by
  have hab := srt_mg _ _ _ (Nat.le_refl _) ha hb
  have hbc := srt_mg _ _ _ (Nat.le_refl _) hb hc
  refine look_ext _ _ (srt_mg _ _ _ (Nat.le_refl _) hab hc) (srt_mg _ _ _ (Nat.le_refl _) ha hbc) fun t => ?_
  rw [look_mg _ t _ _ (Nat.le_refl _) hab hc, look_mg _ t _ _ (Nat.le_refl _) ha hb, look_mg _ t _ _ (Nat.le_refl _) ha hbc, look_mg _ t _ _ (Nat.le_refl _) hb hc, cmb_assoc]
theorem mg_self {a : List S25} (ha : Srt a) : mg a a = a :=
  look_ext _ _ (srt_mg _ _ _ (Nat.le_refl _) ha ha) ha fun t => by rw [look_mg _ t _ _ (Nat.le_refl _) ha ha, cmb_self]

theorem srt_filter {P : S25 → Bool} {l : List S25} (h : Srt l) : Srt (l.filter P) := List.Pairwise.filter P h
theorem look_filter {P : S25 → Bool} {l : List S25} (h : Srt l) (t : Int) : look (l.filter P) t = (look l t).filter P := by
  induction l with
  | nil => rfl
  | cons p l ih =>
    have k := srt_cons.1 h
    rw [List.filter_cons]
    by_cases e : p.f0 = t
    · have hn : look (l.filter P) t = none := look_none fun x hx => by have := k.1 x (List.mem_filter.1 hx).1; omega
      rw [look.eq_2 t p l, if_pos e]
      by_cases hp : P p = true
      · rw [if_pos hp, look.eq_2, if_pos e]; simp [Option.filter, hp]
      · rw [if_neg hp, hn]; simp [Option.filter, hp]
    · rw [look.eq_2 t p l, if_neg e, ← ih k.2]
      by_cases hp : P p = true
      · rw [if_pos hp, look.eq_2, if_neg e]
      · rw [if_neg hp]
/-- What is asked of a merge is the merge of what is asked of both. -/
theorem filter_mg {P : S25 → Bool} (hP : ∀ p q, p.f0 = q.f0 → cmb ((some p).filter P) ((some q).filter P) = (some (least p q)).filter P) {a b : List S25} (ha : Srt a) (hb : Srt b) :
    (mg a b).filter P = mg (a.filter P) (b.filter P) := by
  have hab := srt_mg _ _ _ (Nat.le_refl _) ha hb
  refine look_ext _ _ (srt_filter hab) (srt_mg _ _ _ (Nat.le_refl _) (srt_filter ha) (srt_filter hb)) fun t => ?_
  rw [look_filter hab, look_mg _ t _ _ (Nat.le_refl _) ha hb, look_mg _ t _ _ (Nat.le_refl _) (srt_filter ha) (srt_filter hb), look_filter ha, look_filter hb]
  cases h1 : look a t with
  | none => simp [cmb]
  | some p => cases h2 : look b t with
    | none => rw [show (none : Option S25).filter P = none from rfl, cmb_none, cmb_none]
    | some q => exact (hP p q ((look_some h1).2.trans (look_some h2).2.symm)).symm

theorem getD_lt {l : List S25} {i : Nat} (h : i < l.length) : l.getD i z25 = l[i] := by simp [List.getD, h]
theorem rt_iff (l : List S25) : Rt l ↔ (∀ x ∈ l, x.f2 ≠ 0) ∧ Srt l ∧ l.length ≤ 65536 := by
  constructor
  · intro h
    refine ⟨fun x hx => ?_, ?_, h.2⟩
    · obtain ⟨i, hi, rfl⟩ := List.getElem_of_mem hx
      have := (h.1 i hi).1
      rwa [getD_lt hi] at this
    · refine List.pairwise_iff_getElem.2 fun i j hi hj hij => ?_
      have := h.up i j hij hj
      rwa [getD_lt hi, getD_lt hj] at this
  · rintro ⟨h1, h2, h3⟩
    refine ⟨fun i hi => ⟨?_, fun h0 => ?_⟩, h3⟩
    · rw [getD_lt hi]; exact h1 _ (List.getElem_mem _)
    · have hi' : i - 1 < l.length := by omega
      have := List.pairwise_iff_getElem.1 h2 (i - 1) i hi' hi (by omega)
      rwa [getD_lt hi, getD_lt hi']
theorem rt_mg {a b : List S25} (ha : Rt a) (hb : Rt b) (hl : a.length + b.length ≤ 65536) : Rt (mg a b) := by
  rw [rt_iff] at *
  refine ⟨fun x hx => ?_, srt_mg _ _ _ (Nat.le_refl _) ha.2.1 hb.2.1, Nat.le_trans (mg_len _ _ _ (Nat.le_refl _)) hl⟩
  rcases mg_mem _ _ _ (Nat.le_refl _) x hx with e | e
  · exact ha.1 x e
  · exact hb.1 x e
theorem rt_filter {P : S25 → Bool} {l : List S25} (h : Rt l) : Rt (l.filter P) := by
  rw [rt_iff] at *
  exact ⟨fun x hx => h.1 x (List.mem_filter.1 hx).1, srt_filter h.2.1, Nat.le_trans (List.length_filter_le _ _) h.2.2⟩

theorem same_loop (l : List S25) (hn : l.length ≤ 9223372036854775807) (d : Nat) : ∀ (k i : Nat), i ≤ l.length → l.length - i = d → d < k → manometerref09_Same.l0 k l l (l.length : Int) (i : Int) = some true := by
  induction d with
  | zero =>
    intro k i hi hd hk
    obtain ⟨k, rfl⟩ : ∃ m, k = m + 1 := ⟨k - 1, by omega⟩
    simp only [manometerref09_Same.l0]; rw [if_neg (by omega)]
  | succ d ih =>
    intro k i hi hd hk
    obtain ⟨k, rfl⟩ : ∃ m, k = m + 1 := ⟨k - 1, by omega⟩
    simp only [manometerref09_Same.l0]
    have hw : wrap64 ((i : Int) + 1) = ((i + 1 : Nat) : Int) := by rw [wrap_in (by omega) (by omega)]; omega
    simp only [if_true]
    have h1 : (i : Int) < (l.length : Int) := by omega
    have h0 : (0 : Int) ≤ (i : Int) := by omega
    simp only [h1, h0, if_true, hw]
    exact ih k (i + 1) (by omega) (by omega) (by omega)
theorem same (l : List S25) (hn : l.length ≤ 9223372036854775807) (k : Nat) (hk : l.length < k) : manometerref09_Same.f k l l = some true := by
  unfold manometerref09_Same.f
  rw [if_pos rfl]
  exact same_loop l hn l.length k 0 (by omega) (by omega) hk

end Go.Proofs.Ytfjhommpgbppjaa.PP
