/- Patterns by hand: what ends answers, as plain functions (mkX14.py). -/
import Derived.Test.YtmfpikhmeacnbaaDoorX13
namespace Go.Proofs.YtmfpikhmeacnbaaDoor.X
open Go.RowKit Go.Proofs.YtmfpikhmeacnbaaDoor.Q Go.Proofs.YtmfpikhmeacnbaaDoorW.PrintWords Go.Proofs.YtmfpikhmeacnbaaDoorW.PrintLast Go.Proofs.YtmfpikhmeacnbaaDoorW.PrintMore
set_option linter.unusedVariables false
set_option linter.unusedSimpArgs false
def Pt.sz : Pt → Nat
  | .one _ _ _ => 1
  | .eps => 1
  | .cat q p => q.sz + p.sz + 1
  | .alt1 p => p.sz + 1
  | .alt q p => q.sz + p.sz + 1
  | .again p _ => p.sz + 1
def Pt.kids : Pt → List Pt
  | .one _ _ _ => []
  | .eps => []
  | .cat q p => q.kids ++ [p]
  | .alt1 p => [p]
  | .alt q p => q.kids ++ [p]
  | .again p _ => [p]
/-- Lists of parts are of one kind. -/
def Pt.WF : Pt → Prop
  | .one l b pl => pl = true → b = false ∧ ∃ c, l = [⟨c, c⟩] ∧ Rune c
  | .eps => True
  | .cat q p => q.kind = 1 ∧ q.WF ∧ p.WF
  | .alt1 p => p.WF
  | .alt q p => q.kind = 2 ∧ q.WF ∧ p.WF
  | .again p _ => p.WF
theorem kids_sz : ∀ (p : Pt) (x : Pt), x ∈ p.kids → x.sz < p.sz
  | .one _ _ _, x, h => by simp [Pt.kids] at h
  | .eps, x, h => by simp [Pt.kids] at h
  | .cat q p, x, h => by
    rw [Pt.kids, List.mem_append, List.mem_singleton] at h
    rw [Pt.sz]
    rcases h with h | rfl
    · have := kids_sz q x h; omega
    · omega
  | .alt1 p, x, h => by
    rw [Pt.kids, List.mem_singleton] at h
    subst h
    rw [Pt.sz]; omega
  | .alt q p, x, h => by
    rw [Pt.kids, List.mem_append, List.mem_singleton] at h
    rw [Pt.sz]
    rcases h with h | rfl
    · have := kids_sz q x h; omega
    · omega
  | .again p _, x, h => by
    rw [Pt.kids, List.mem_singleton] at h
    subst h
    rw [Pt.sz]; omega
theorem kids_wf : ∀ (p : Pt), p.WF → ∀ x ∈ p.kids, x.WF
  | .one _ _ _, _, x, h => by simp [Pt.kids] at h
  | .eps, _, x, h => by simp [Pt.kids] at h
  | .cat q p, hw, x, h => by
    rw [Pt.kids, List.mem_append, List.mem_singleton] at h
    rcases h with h | rfl
    · exact kids_wf q hw.2.1 x h
    · exact hw.2.2
  | .alt1 p, hw, x, h => by
    rw [Pt.kids, List.mem_singleton] at h
    subst h
    exact hw
  | .alt q p, hw, x, h => by
    rw [Pt.kids, List.mem_append, List.mem_singleton] at h
    rcases h with h | rfl
    · exact kids_wf q hw.2.1 x h
    · exact hw.2.2
  | .again p _, hw, x, h => by
    rw [Pt.kids, List.mem_singleton] at h
    subst h
    exact hw
theorem kids_at {w : World} {B : Nat} {ok : Nat → Prop} : ∀ {p : Pt} {cs : List Nat}, TT w B ok p cs → cs.length = p.kids.length ∧ ∀ j (h : j < cs.length) (h' : j < p.kids.length), Tr w B ok cs[j] p.kids[j]
  | .one _ _ _, cs, h => by
    have h : cs = [] := h
    subst h
    exact ⟨rfl, fun j h => absurd h (Nat.not_lt_zero _)⟩
  | .eps, cs, h => by
    have h : cs = [] := h
    subst h
    exact ⟨rfl, fun j h => absurd h (Nat.not_lt_zero _)⟩
  | .cat q p, cs, ⟨bs, b, c, e, h1, h2, h3⟩ => by
    subst e
    obtain ⟨i1, i2⟩ := kids_at h1
    refine ⟨by simp [Pt.kids, i1], fun j hj hj' => ?_⟩
    simp only [Pt.kids]
    by_cases e : j < bs.length
    · rw [List.getElem_append_left e, List.getElem_append_left (by omega)]
      exact i2 j e (by omega)
    · have e' : j = bs.length := by simp at hj; omega
      subst e'
      rw [List.getElem_append_right (Nat.le_refl _), List.getElem_append_right (by omega)]
      simp only [Nat.sub_self, i1]
      exact ⟨c, h2, h3⟩
  | .alt1 p, cs, ⟨b, c, e, h2, h3⟩ => by
    subst e
    refine ⟨rfl, fun j hj hj' => ?_⟩
    have : j = 0 := by simpa using hj
    subst this
    exact ⟨c, h2, h3⟩
  | .alt q p, cs, ⟨bs, b, c, e, h1, h2, h3⟩ => by
    subst e
    obtain ⟨i1, i2⟩ := kids_at h1
    refine ⟨by simp [Pt.kids, i1], fun j hj hj' => ?_⟩
    simp only [Pt.kids]
    by_cases e : j < bs.length
    · rw [List.getElem_append_left e, List.getElem_append_left (by omega)]
      exact i2 j e (by omega)
    · have e' : j = bs.length := by simp at hj; omega
      subst e'
      rw [List.getElem_append_right (Nat.le_refl _), List.getElem_append_right (by omega)]
      simp only [Nat.sub_self, i1]
      exact ⟨c, h2, h3⟩
  | .again p _, cs, ⟨b, c, e, h2, h3⟩ => by
    subst e
    refine ⟨rfl, fun j hj hj' => ?_⟩
    have : j = 0 := by simpa using hj
    subst this
    exact ⟨c, h2, h3⟩
/-- Until nothing is new. -/
def clo (f : List Bool → List Bool) : Nat → List Bool → List Bool
  | 0, out => out
  | k + 1, out => if orL out (f out) = out then out else clo f k (orL out (f out))
def oneF (s : List S86) (but : Bool) (l : List Int) (F : List Bool) : List Bool := false :: List.zipWith (fun c f => f && hasF s but c) l F
/-- What ends answers. -/
def endsF : Pt → List Int → List Bool → List Bool
  | .one s but _, l, F => oneF s but l F
  | .eps, _, F => F
  | .cat q p, l, F => endsF p l (endsF q l F)
  | .alt1 p, l, F => orL (List.replicate (l.length + 1) false) (endsF p l F)
  | .alt q p, l, F => orL (endsF q l F) (endsF p l F)
  | .again p s, l, F =>
    if s = 63 then (if s = 43 then endsF p l F else orL (endsF p l F) F) else clo (endsF p l) (l.length + 2) (if s = 43 then endsF p l F else orL (endsF p l F) F)
theorem clo_len {f : List Bool → List Bool} {n : Nat} (hf : ∀ F, F.length = n → (f F).length = n) : ∀ k out, out.length = n → (clo f k out).length = n
  | 0, out, h => h
  | k + 1, out, h => by
    rw [clo]
    split
    · exact h
    · exact clo_len hf k _ (by rw [orL_len (by rw [h, hf out h])]; exact h)
theorem ends_len : ∀ (p : Pt) (l : List Int) (F : List Bool), F.length = l.length + 1 → (endsF p l F).length = l.length + 1
  | .one s but _, l, F, h => by rw [endsF, oneF, List.length_cons, List.length_zipWith]; omega
  | .eps, l, F, h => h
  | .cat q p, l, F, h => ends_len p l _ (ends_len q l F h)
  | .alt1 p, l, F, h => by rw [endsF, orL_len (by rw [List.length_replicate, ends_len p l F h])]; exact List.length_replicate
  | .alt q p, l, F, h => by rw [endsF, orL_len (by rw [ends_len q l F h, ends_len p l F h])]; exact ends_len q l F h
  | .again p s, l, F, h => by
    have h1 := ends_len p l F h
    have h2 : (if s = 43 then endsF p l F else orL (endsF p l F) F).length = l.length + 1 := by
      split
      · exact h1
      · rw [orL_len (by rw [h1, h])]; exact h1
    rw [endsF]
    split
    · exact h2
    · exact clo_len (fun F hF => ends_len p l F hF) _ _ h2
theorem many_fold : ∀ (p : Pt), p.WF → p.kind = 1 → ∀ (l : List Int) (F : List Bool), endsF p l F = p.kids.foldl (fun F x => endsF x l F) F
  | .one _ _ _, _, h, _, _ => by simp [Pt.kind] at h
  | .eps, _, _, l, F => rfl
  | .cat q p, hw, _, l, F => by rw [endsF, Pt.kids, List.foldl_append, ← many_fold q hw.2.1 hw.1 l F]; rfl
  | .alt1 _, _, h, _, _ => by simp [Pt.kind] at h
  | .alt _ _, _, h, _, _ => by simp [Pt.kind] at h
  | .again _ _, _, h, _, _ => by simp [Pt.kind] at h
theorem alike_fold : ∀ (p : Pt), p.WF → p.kind = 2 → ∀ (l : List Int) (F : List Bool), endsF p l F = p.kids.foldl (fun O x => orL O (endsF x l F)) (List.replicate (l.length + 1) false)
  | .one _ _ _, _, h, _, _ => by simp [Pt.kind] at h
  | .eps, _, h, _, _ => by simp [Pt.kind] at h
  | .cat _ _, _, h, _, _ => by simp [Pt.kind] at h
  | .alt1 p, _, _, l, F => rfl
  | .alt q p, hw, _, l, F => by rw [endsF, Pt.kids, List.foldl_append, ← alike_fold q hw.2.1 hw.1 l F]; rfl
  | .again _ _, _, h, _, _ => by simp [Pt.kind] at h
/-- How many places there are. -/
def cnt (l : List Bool) : Nat := l.countP id
theorem orL_more : ∀ (a b : List Bool), a.length = b.length → cnt a ≤ cnt (orL a b) ∧ (orL a b ≠ a → cnt a < cnt (orL a b))
  | [], [], _ => ⟨Nat.le_refl _, fun h => absurd rfl h⟩
  | [], _ :: _, h => by simp at h
  | _ :: _, [], h => by simp at h
  | x :: a, y :: b, h => by
    have ih := orL_more a b (by simpa using h)
    have e : orL (x :: a) (y :: b) = (x || y) :: orL a b := rfl
    rw [e]
    unfold cnt at ih ⊢
    rw [List.countP_cons, List.countP_cons]
    cases x <;> cases y <;> simp only [Bool.false_or, Bool.true_or, Bool.or_false, Bool.or_true, id, if_true, if_false, Bool.false_eq_true] <;> refine ⟨by omega, fun hn => ?_⟩
    · have := ih.2 (fun e => hn (by rw [e])); omega
    · omega
    · have := ih.2 (fun e => hn (by rw [e])); omega
    · have := ih.2 (fun e => hn (by rw [e])); omega
theorem cnt_le (l : List Bool) : cnt l ≤ l.length := List.countP_le_length
theorem peek_is {s : ByteArray} {i : Nat} {c : Int} (h : peekF s i = some c) : c = -1 ∨ Rune c := by
  by_cases hi : i ≤ s.size
  · rcases peek_rune hi h with h | h
    · exact .inl h
    · exact .inr h.1
  · unfold peekF at h
    rw [if_pos (by omega)] at h
    exact .inl (Option.some.inj h).symm
theorem esc_plain {s : ByteArray} {i j : Nat} {l : List S86} (h : escF s i = .ok (l, true) j) : ∃ c, l = [⟨c, c⟩] ∧ Rune c := by
  unfold escF at h
  cases hp : peekF s i with
  | none => rw [hp] at h; cases h
  | some c =>
    rw [hp] at h
    dsimp only at h
    split at h
    · injection h with h1 h2
      injection h1 with h1 h3
      cases h3
    · split at h
      · cases h
      · rename_i hn
        injection h with h1 h2
        injection h1 with h1 h3
        refine ⟨c, h1.symm, (peek_is hp).resolve_left (fun e => hn (.inl (by omega)))⟩
/-- The parser's trees are well formed. -/
theorem wf_ok {s : ByteArray} : ∀ k, (∀ {d i p m j}, atF k s d i = some (.ok (p, m) j) → p.WF) ∧ (∀ {d i acc n p m j}, acc.kind = 1 → acc.WF → brF k s d i acc n = some (.ok (p, m) j) → p.kind = 1 ∧ p.WF) ∧ (∀ {d i p m j}, paF k s d i = some (.ok (p, m) j) → p.kind = 2 ∧ p.WF) ∧ (∀ {d i acc n p m j}, acc.kind = 2 → acc.WF → altF k s d i acc n = some (.ok (p, m) j) → p.kind = 2 ∧ p.WF)
  | 0 => ⟨fun h => by simp [atF] at h, fun _ _ h => by simp [brF] at h, fun h => by simp [paF] at h, fun _ _ h => by simp [altF] at h⟩
  | k + 1 => by
    obtain ⟨ha, hb, hp, hl⟩ := wf_ok (s := s) k
    have hc : ∀ {i p m j}, clsF k s i = some (.ok (p, m) j) → p.WF := by
      intro i p m j h
      unfold clsF at h
      cases hp : peekF s i with
      | none => rw [hp] at h; cases h
      | some c =>
        rw [hp] at h
        dsimp only at h
        cases hL : clsL k s (if c = 94 then i + 1 else i) [] true with
        | none => rw [hL] at h; cases h
        | some RL =>
          rw [hL] at h
          cases RL with
          | bad a e => cases h
          | ok l j1 =>
            have h3 := Option.some.inj h
            injection h3 with h4 h5
            injection h4 with h4 h6
            subst h4
            intro h; cases h
    refine ⟨fun h => ?_, fun hk hw h => ?_, fun h => ?_, fun hk hw h => ?_⟩
    · rcases atF_head h with ⟨_, h⟩ | ⟨_, h⟩ | ⟨_, h⟩ | ⟨_, h⟩ | ⟨_, a, e, _, h⟩ | ⟨_, l, sg, j, he, h⟩ | ⟨c, _, _, _, _, _, _, h⟩ | ⟨c, _, _, _, _, _, _, _, h⟩
      · cases h
      · rcases grF_head h with ⟨_, h⟩ | ⟨_, ⟨a, e, _, h⟩ | ⟨p, m, j, hq, ⟨_, h⟩ | ⟨c, _, _, h⟩ | ⟨_, h⟩⟩⟩
        · cases h
        · cases h
        · cases h
        · cases h
        · have := hp hq
          injection h with h1 h2
          injection h1 with h1 h3
          rw [h1]; exact this.2
      · exact hc h
      · injection h with h1 h2
        injection h1 with h1 h3
        rw [h1]; intro h; cases h
      · cases h
      · injection h with h1 h2
        injection h1 with h1 h3
        rw [h1]
        intro hsg
        subst hsg
        exact ⟨rfl, esc_plain he⟩
      · cases h
      · rename_i hp _ _ _ _ _ h0
        injection h with h1 h2
        injection h1 with h1 h3
        rw [h1]
        exact fun _ => ⟨rfl, c, rfl, (peek_is hp).resolve_left (by omega)⟩
    · rcases brF_head h with ⟨_, h⟩ | ⟨c, _, ⟨_, h⟩ | ⟨_, ⟨a, e, _, h⟩ | ⟨p, m, j, _, _, h⟩ | ⟨p, m, j, c2, hq, _, _, h⟩ | ⟨p, m, j, c2, hq, _, _, h⟩⟩⟩
      · cases h
      · injection h with h1 h2
        injection h1 with h1 h3
        rw [h1]; exact ⟨hk, hw⟩
      · cases h
      · cases h
      · exact hb (acc := .cat _ (.again p c2)) rfl ⟨hk, hw, (show p.WF from ha hq)⟩ h
      · exact hb (acc := .cat _ p) rfl ⟨hk, hw, ha hq⟩ h
    · rcases paF_head h with ⟨a, e, _, h⟩ | ⟨p, m, j, hq, h⟩
      · cases h
      · exact hl (acc := .alt1 p) rfl (hb (acc := .eps) rfl trivial hq).2 h
    · rcases altF_head h with ⟨_, h⟩ | ⟨c, _, _, h⟩ | ⟨_, a, e, _, h⟩ | ⟨_, p, m, j, hq, h⟩
      · cases h
      · injection h with h1 h2
        injection h1 with h1 h3
        rw [h1]; exact ⟨hk, hw⟩
      · cases h
      · exact hl (acc := .alt _ p) rfl ⟨hk, hw, (hb (acc := .eps) rfl trivial hq).2⟩ h
end Go.Proofs.YtmfpikhmeacnbaaDoor.X
