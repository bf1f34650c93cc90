/- Patterns by hand: trees in memory, what is parsed (mkX4.py). -/
import Derived.Test.YtmfpikhmeacnbaaDoorX3
namespace Go.Proofs.YtmfpikhmeacnbaaDoor.X
open Go.RowKit Go.Proofs.YtmfpikhmeacnbaaDoor.Q Go.Proofs.YtmfpikhmeacnbaaDoorW.PrintWords Go.Proofs.YtmfpikhmeacnbaaDoorW.PrintLast Go.Proofs.YtmfpikhmeacnbaaDoorW.PrintMore
set_option linter.unusedVariables false
set_option linter.unusedSimpArgs false
section
variable {P : Program} {ops : Array Oper} {Q : Exit → Act → World → Prop}
theorem callP_ {oi : Oper} {N : Option Tmp} {a : Act} {w : World} {K : Act → World → Prop} (f : FuncId) (args : Array Value) (hw : Region.wanted oi (yielded ops a.tmps) = true) (hN : oi.dst = N) (hrun : (execOp a.eval oi).run P w = .ok (.enter f args) w)
    (h : Calls P f args w fun e w' => ∃ c, e = .panicked c ∧ Q (.panic c) a w') : if Region.wanted oi (yielded ops a.tmps) = true then Oper.wp P oi a w K Q else K (a.put N undef) w := by
  rw [if_pos hw]
  subst hN
  unfold Oper.wp
  rw [hrun, Oper.upon_enter]
  refine h.mono fun e w'' hh => ?_
  obtain ⟨v, rfl, hk⟩ := hh
  exact hk
/-- A call in a drawn region that panics. -/
theorem goesP_ {oi : Oper} {N : Option Tmp} {a : Act} {w : World} {K : Act → World → Prop} {f : FuncId} {fn : Func} {az : Array Operand} {ts : Array TypeId} (hf : P.funcs[f]? = some fn) (hname : (fn.name == "runtime.NumGoroutine") = false) (hb : fn.body.isSome = true) (args : Array Value)
    (hw : Region.wanted oi (yielded ops a.tmps) = true) (hN : oi.dst = N) (hop : oi.op = .call { callee := .value (.func f), args := az, argTypes := ts }) (hargs : az.map a.eval = args)
    (h : Calls P f args w fun e w' => ∃ c, e = .panicked c ∧ Q (.panic c) a w') : if Region.wanted oi (yielded ops a.tmps) = true then Oper.wp P oi a w K Q else K (a.put N undef) w := by
  refine callP_ f args hw hN ?_ h
  have he := enters_ hf hname hb args w
  unfold execOp
  simp [hop, resolve, Deferred.ofValue, invoke, Act.eval, hargs, he]
end
/-- A pattern's parts: eps, cat are 'many', alt1, alt are 'alike'; lists from the back. -/
inductive Pt where
  | one (l : List S86) (but plain : Bool)
  | eps
  | cat (q p : Pt)
  | alt1 (p : Pt)
  | alt (q p : Pt)
  | again (p : Pt) (s : Int)
def Pt.kind : Pt → Int
  | .one _ _ _ => 0
  | .eps => 1
  | .cat _ _ => 1
  | .alt1 _ => 2
  | .alt _ _ => 2
  | .again _ _ => 3
def Pt.but : Pt → Bool
  | .one _ b _ => b
  | _ => false
def Pt.plain : Pt → Bool
  | .one _ _ p => p
  | _ => false
def Pt.set : Pt → List S86
  | .one l _ _ => l
  | _ => []
def Pt.sign : Pt → Int
  | .again _ s => s
  | _ => 0
/-- A part's block. -/
def ndL (k : Int) (vs : Value) (but plain : Bool) (vp : Value) (sg : Int) : List Value := [.int .i64 k, vs, .bool but, .bool plain, vp, .int .i32 sg]
def kP : Kd Nat := Kd.scalar (fun b : Nat => Value.pointer (some ⟨b, 0, none⟩)) (fun _ => rfl)
/-- The block q is the part p, of the parts at cs. -/
def Nd (w : World) (B : Nat) (ok : Nat → Prop) (q : Nat) (p : Pt) (cs : List Nat) : Prop := ok q ∧ B ≤ q ∧ ∃ vs vp, w.heap[q]? = some (.cells (ndL p.kind vs p.but p.plain vp p.sign).toArray 74 (0, 0)) ∧ k86.R 86 w B ok vs p.set ∧ kP.R 41 w B ok vp cs
/-- The parts at bs are those of p. -/
def TT (w : World) (B : Nat) (ok : Nat → Prop) : Pt → List Nat → Prop
  | .one _ _ _, bs => bs = []
  | .eps, bs => bs = []
  | .cat q p, bs => ∃ bs' b cs, bs = bs' ++ [b] ∧ TT w B ok q bs' ∧ TT w B ok p cs ∧ Nd w B ok b p cs
  | .alt1 p, bs => ∃ b cs, bs = [b] ∧ TT w B ok p cs ∧ Nd w B ok b p cs
  | .alt q p, bs => ∃ bs' b cs, bs = bs' ++ [b] ∧ TT w B ok q bs' ∧ TT w B ok p cs ∧ Nd w B ok b p cs
  | .again p _, bs => ∃ b cs, bs = [b] ∧ TT w B ok p cs ∧ Nd w B ok b p cs
/-- The block q is the root of the tree p. -/
def Tr (w : World) (B : Nat) (ok : Nat → Prop) (q : Nat) (p : Pt) : Prop := ∃ cs, TT w B ok p cs ∧ Nd w B ok q p cs
section
variable {w w1 : World} {B B' q : Nat} {ok ok' : Nat → Prop} {p : Pt} {cs : List Nat}
theorem Nd.lt (h : Nd w B ok q p cs) : q < w.heap.size := by
  obtain ⟨_, _, vs, vp, hq, _⟩ := h
  exact (Array.getElem?_eq_some_iff.1 hq).1
theorem Nd.turn (h : Nd w B ok q p cs) (hB : B' ≤ B) (hm : ∀ k, B ≤ k → k < w.heap.size → ok k → ok' k ∧ w1.heap[k]? = w.heap[k]?) : Nd w1 B' ok' q p cs := by
  have hlt := h.lt
  obtain ⟨h1, h2, vs, vp, hq, hs, hp⟩ := h
  obtain ⟨g1, g2⟩ := hm q h2 hlt h1
  refine ⟨g1, by omega, vs, vp, g2.trans hq, ?_, ?_⟩
  · refine Kd.R_lower (Kd.R_mono (Kd.R_step (Kd.R_bound hs) (fun k hk _ => (hm k hk.2.1 hk.2.2.1 hk.1).2)) (fun k hk => (hm k hk.2.1 hk.2.2.1 hk.1).1)) hB
  · refine Kd.R_lower (Kd.R_mono (Kd.R_step (Kd.R_bound hp) (fun k hk _ => (hm k hk.2.1 hk.2.2.1 hk.1).2)) (fun k hk => (hm k hk.2.1 hk.2.2.1 hk.1).1)) hB
theorem TT.turn (hB : B' ≤ B) (hm : ∀ k, B ≤ k → k < w.heap.size → ok k → ok' k ∧ w1.heap[k]? = w.heap[k]?) : ∀ {p : Pt} {cs : List Nat}, TT w B ok p cs → TT w1 B' ok' p cs
  | .one _ _ _, _, h => h
  | .eps, _, h => h
  | .cat q p, _, ⟨bs', b, c, e, h1, h2, h3⟩ => ⟨bs', b, c, e, TT.turn hB hm h1, TT.turn hB hm h2, h3.turn hB hm⟩
  | .alt1 p, _, ⟨b, c, e, h2, h3⟩ => ⟨b, c, e, TT.turn hB hm h2, h3.turn hB hm⟩
  | .alt q p, _, ⟨bs', b, c, e, h1, h2, h3⟩ => ⟨bs', b, c, e, TT.turn hB hm h1, TT.turn hB hm h2, h3.turn hB hm⟩
  | .again p _, _, ⟨b, c, e, h2, h3⟩ => ⟨b, c, e, TT.turn hB hm h2, h3.turn hB hm⟩
theorem Tr.turn (h : Tr w B ok q p) (hB : B' ≤ B) (hm : ∀ k, B ≤ k → k < w.heap.size → ok k → ok' k ∧ w1.heap[k]? = w.heap[k]?) : Tr w1 B' ok' q p := by
  obtain ⟨cs, h1, h2⟩ := h
  exact ⟨cs, TT.turn hB hm h1, h2.turn hB hm⟩
end
/-- The rounds of a class. -/
def clsL : Nat → ByteArray → Nat → List S86 → Bool → Option (Res (List S86))
  | 0, _, _, _, _ => none
  | k + 1, s, i, acc, first =>
    match (if first = true then some 0 else peekF s i) with
    | none => some (.bad i 8)
    | some c => if c = 93 then some (.ok acc i) else
      match memF s i with
      | .bad a e => some (.bad a e)
      | .ok (l, sg) j => if sg = true then
          match peekF s j with
          | none => some (.bad j 8)
          | some c2 => if c2 = 45 then
              match upF s (l.getD 0 z86).f0 (j + 1) with
              | .bad a e => some (.bad a e)
              | .ok hi j2 => clsL k s j2 (acc ++ [⟨(l.getD 0 z86).f0, hi⟩]) false
            else clsL k s j (acc ++ l) false
        else clsL k s j (acc ++ l) false
/-- A class. -/
def clsF (k : Nat) (s : ByteArray) (i : Nat) : Option (Res (Pt × Nat)) := match peekF s i with
  | none => some (.bad i 8)
  | some c => match clsL k s (if c = 94 then i + 1 else i) [] true with
    | none => none
    | some (.bad a e) => some (.bad a e)
    | some (.ok l j) => some (.ok (.one l (decide (c = 94)) false, 1) (j + 1))
mutual
/-- Branches behind one, pieces, an atom, a pattern. -/
def altF : Nat → ByteArray → Nat → Nat → Pt → Nat → Option (Res (Pt × Nat))
  | 0, _, _, _, _, _ => none
  | k + 1, s, d, i, acc, n => match peekF s i with
    | none => some (.bad i 8)
    | some c => if c = 124 then
        match brF k s d (i + 1) .eps 0 with
        | none => none
        | some (.bad a e) => some (.bad a e)
        | some (.ok (p, m) j) => altF k s d j (.alt acc p) (n + m)
      else some (.ok (acc, n) i)
def brF : Nat → ByteArray → Nat → Nat → Pt → Nat → Option (Res (Pt × Nat))
  | 0, _, _, _, _, _ => none
  | k + 1, s, d, i, acc, n => match peekF s i with
    | none => some (.bad i 8)
    | some c => if c < 0 ∨ c = 124 ∨ c = 41 then some (.ok (acc, n) i) else
      match atF k s d i with
      | none => none
      | some (.bad a e) => some (.bad a e)
      | some (.ok (p, m) j) => match peekF s j with
        | none => some (.bad j 8)
        | some c2 => if c2 = 42 ∨ c2 = 43 ∨ c2 = 63 then brF k s d (j + 1) (.cat acc (.again p c2)) (n + m) else brF k s d j (.cat acc p) (n + m)
def atF : Nat → ByteArray → Nat → Nat → Option (Res (Pt × Nat))
  | 0, _, _, _ => none
  | k + 1, s, d, i => match peekF s i with
    | none => some (.bad i 8)
    | some c => if c = 40 then
        if 20 ≤ d then some (.bad i 60) else
        match paF k s (d + 1) (i + 1) with
        | none => none
        | some (.bad a e) => some (.bad a e)
        | some (.ok (p, m) j) => match peekF s j with
          | none => some (.bad j 8)
          | some c2 => if c2 = 41 then some (.ok (p, m) (j + 1)) else some (.bad j 8)
      else if c = 91 then clsF k s (i + 1)
      else if c = 46 then some (.ok (.one [] true false, 1) (i + 1))
      else if c = 92 then
        match escF s (i + 1) with
        | .bad a e => some (.bad a e)
        | .ok (l, sg) j => some (.ok (.one l false sg, 1) j)
      else if special c = true ∨ c < 0 then some (.bad i 8)
      else some (.ok (.one [⟨c, c⟩] false true, 1) (i + rl c))
def paF : Nat → ByteArray → Nat → Nat → Option (Res (Pt × Nat))
  | 0, _, _, _ => none
  | k + 1, s, d, i => match brF k s d i .eps 0 with
    | none => none
    | some (.bad a e) => some (.bad a e)
    | some (.ok (p, m) j) => altF k s d j (.alt1 p) m
end
end Go.Proofs.YtmfpikhmeacnbaaDoor.X
