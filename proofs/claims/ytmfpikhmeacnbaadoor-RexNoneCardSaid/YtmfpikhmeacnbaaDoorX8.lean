/- Patterns by hand: branch (mkX8.py). -/
import Derived.Test.YtmfpikhmeacnbaaDoorX7
namespace Go.Proofs.YtmfpikhmeacnbaaDoor.X
open Go.RowKit Go.Proofs.YtmfpikhmeacnbaaDoor.Q Go.Proofs.YtmfpikhmeacnbaaDoorW.PrintWords Go.Proofs.YtmfpikhmeacnbaaDoorW.PrintLast Go.Proofs.YtmfpikhmeacnbaaDoorW.PrintMore
set_option linter.unusedVariables false
set_option linter.unusedSimpArgs false
theorem info41 : (Tryd.prog.info? 41).map (fun i => (i.zero, i.size, i.bytes)) = some (some (.pointer none), 1, 8) := by kernel_rfl
/-- A part with a list of parts that is being built: X is its block. -/
structure Bld (B : Nat) (wr : World) (X : Nat) (k : Int) (acc : Pt) (bs : List Nat) (A : Option Addr) (m cc : Nat) : Prop where
  blk : wr.heap[X]? = some (.cells (ndL k (.slice none 0 0) false false (.slice A m cc) 0).toArray 74 (0, 0))
  row : kP.R 41 wr B (fun q => B ≤ q ∧ q ≠ X) (.slice A m cc) bs
  tree : TT wr B (fun q => B ≤ q ∧ q ≠ X ∧ some q ≠ (Value.slice A m cc).ownBlock) acc bs
  kind : acc.kind = k ∧ acc.set = [] ∧ acc.but = false ∧ acc.plain = false ∧ acc.sign = 0
  le : B ≤ X
section
variable {B : Nat} {wr w1 : World} {X : Nat} {k : Int} {acc : Pt} {bs : List Nat} {A : Option Addr} {m cc : Nat}
theorem Bld.len (h : Bld B wr X k acc bs A m cc) : m = bs.length := (Kd.R_reads' h.row).1
theorem Bld.step (h : Bld B wr X k acc bs A m cc) (hm : ∀ q, B ≤ q → q < wr.heap.size → w1.heap[q]? = wr.heap[q]?) : Bld B w1 X k acc bs A m cc :=
  ⟨(hm X h.le (blk_lt h.blk)).trans h.blk, Kd.R_step h.row (fun q hq hl => hm q hq.1 hl), TT.turn (Nat.le_refl _) (fun q hq hl ho => ⟨ho, hm q hq hl⟩) h.tree, h.kind, h.le⟩
theorem Bld.stp (h : Bld B wr X k acc bs A m cc) {b : Nat} (hs : Stp b wr w1) (hb : b < B) : Bld B w1 X k acc bs A m cc := h.step (fun q hq hl => hs.block q hl (by omega))
theorem Bld.below (h : Bld B wr X k acc bs A m cc) (hs : Below wr.heap.size wr w1) : Bld B w1 X k acc bs A m cc := h.step (fun q _ hl => hs.block q hl)
theorem Bld.tr (h : Bld B wr X k acc bs A m cc) : Tr wr B (fun q => B ≤ q) X acc := by
  obtain ⟨h1, h2, h3, h4, h5⟩ := h.kind
  refine ⟨bs, TT.turn (Nat.le_refl _) (fun q hq hl ho => ⟨hq, rfl⟩) h.tree, h.le, h.le, .slice none 0 0, .slice A m cc, ?_, ?_, Kd.R_mono h.row (fun q hq => hq.1)⟩
  · rw [h1, h3, h4, h5]; exact h.blk
  · rw [h2]; exact Kd.R_nil _ _ _ _ _
/-- One part more. -/
theorem Bld.push (h : Bld B wr X k acc bs A m cc) {p acc' : Pt} {q N A5 m5 c5} {w5 : World} (hk : acc'.kind = k ∧ acc'.set = [] ∧ acc'.but = false ∧ acc'.plain = false ∧ acc'.sign = 0)
    (hT : ∀ {w : World} {ok : Nat → Prop} {cs : List Nat}, TT w B ok acc bs → TT w B ok p cs → Nd w B ok q p cs → TT w B ok acc' (bs ++ [q]))
    (ht : Tr wr N (fun q => N ≤ q) q p) (hN : B ≤ N) (hX : X < N) (hv : ∀ g, (Value.slice A m cc).ownBlock = some g → g < N)
    (ho : kP.R 41 w5 B (fun q => B ≤ q ∧ q ≠ X) (.slice A5 (bs ++ [q]).length c5) (bs ++ [q])) (hg : wr.grownBy w5 (Value.slice A m cc).ownBlock) (hat : (Value.slice A5 (bs ++ [q]).length c5).ownBlock = (Value.slice A m cc).ownBlock ∨ ∃ b, (Value.slice A5 (bs ++ [q]).length c5).ownBlock = some b ∧ wr.heap.size ≤ b) (hm : m5 = (bs ++ [q]).length) :
    Bld B (w5.setCell ⟨X, 4, none⟩ (.slice A5 m5 c5)) X k acc' (bs ++ [q]) A5 m5 c5 := by
  subst hm
  have hne : ∀ q', q' < wr.heap.size → some q' ≠ (Value.slice A m cc).ownBlock → some q' ≠ (Value.slice A5 (bs ++ [q]).length c5).ownBlock := by
    intro q' hl hq e
    rcases hat with hat | ⟨b, hb, hle⟩
    · exact hq (e.trans hat)
    · rw [hb] at e; injection e with e; omega
  have hmv : ∀ q', q' < wr.heap.size → q' ≠ X → some q' ≠ (Value.slice A m cc).ownBlock → (w5.setCell ⟨X, 4, none⟩ (.slice A5 (bs ++ [q]).length c5)).heap[q']? = wr.heap[q']? :=
    fun q' hl hx hq => (Below.heap_setCell _ _ _ q' (fun e => hx e)).trans (hg.block q' hl hq)
  have hXv : some X ≠ (Value.slice A m cc).ownBlock := fun e => (h.row.1 X e.symm).2 rfl
  obtain ⟨cs, ht1, ht2⟩ := ht
  have hpv : ∀ q', N ≤ q' → some q' ≠ (Value.slice A m cc).ownBlock := fun q' hq e => by have := hv q' e.symm; omega
  refine ⟨?_, Kd.R_far ho (fun q hq => hq.2) _, hT (cs := cs) ?_ ?_ ?_, hk, h.le⟩
  · exact blk_put ((hg.block X (blk_lt h.blk) hXv).trans h.blk) 4 _ rfl
  · exact TT.turn (Nat.le_refl _) (fun q' hq hl hok => ⟨⟨hok.1, hok.2.1, hne q' hl hok.2.2⟩, hmv q' hl hok.2.1 hok.2.2⟩) h.tree
  · exact TT.turn hN (fun q' hq hl hok => ⟨⟨by omega, by omega, hne q' hl (hpv q' hq)⟩, hmv q' hl (by omega) (hpv q' hq)⟩) ht1
  · exact ht2.turn hN (fun q' hq hl hok => ⟨⟨by omega, by omega, hne q' hl (hpv q' hq)⟩, hmv q' hl (by omega) (hpv q' hq)⟩)
theorem Bld.new (hX : B ≤ X) (h : w1.heap[X]? = some (.cells (ndL 1 (.slice none 0 0) false false (.slice none 0 0) 0).toArray 74 (0, 0))) : Bld B w1 X 1 .eps [] none 0 0 :=
  ⟨h, Kd.R_nil _ _ _ _ _, rfl, ⟨rfl, rfl, rfl, rfl, rfl⟩, hX⟩
theorem kP_mk1 {w w1 : World} {q b : Nat} (hb : w.heap.size ≤ b) (h : w1.heap[b]? = some (.cells #[.pointer (some ⟨q, 0, none⟩)] 41 (0, 0))) : kP.R 41 w1 w.heap.size (fun k => w.heap.size ≤ k) (.slice (some ⟨b, 0, none⟩) 1 1) [q] := by
  refine ⟨fun k hk => by have e : b = k := by simpa [Value.ownBlock] using hk
                         omega, [.pointer (some ⟨q, 0, none⟩)], ?_, ?_⟩
  · exact ⟨rfl, .inr ⟨b, 1, _, rfl, hb, h, Nat.le_refl _, by unfold maxLen; omega, rfl, rfl⟩⟩
  · exact ⟨rfl, fun j p hj => by
      match j, hj with
      | 0, hj => cases hj; rfl⟩
end
/-- A part that comes again. -/
theorem Tr.again {w4 w5 : World} {n q Y : Nat} {p : Pt} {c : Int} (h : Tr w4 n (fun k => n ≤ k) q p) (hn : n ≤ w4.heap.size) (hb : Below w4.heap.size w4 w5) (hY : w4.heap.size ≤ Y)
    (hS : w5.heap[w4.heap.size]? = some (.cells #[.pointer (some ⟨q, 0, none⟩)] 41 (0, 0))) (hx : w5.heap[Y]? = some (.cells (ndL 3 (.slice none 0 0) false false (.slice (some ⟨w4.heap.size, 0, none⟩) 1 1) c).toArray 74 (0, 0))) :
    Tr w5 n (fun k => n ≤ k) Y (.again p c) := by
  obtain ⟨cs, h1, h2⟩ := h
  have hm : ∀ k, n ≤ k → k < w4.heap.size → n ≤ k → n ≤ k ∧ w5.heap[k]? = w4.heap[k]? := fun k hk hl ho => ⟨ho, hb.block k hl⟩
  refine ⟨[q], ⟨q, cs, rfl, TT.turn (Nat.le_refl _) hm h1, h2.turn (Nat.le_refl _) hm⟩, by omega, by omega, .slice none 0 0, .slice (some ⟨w4.heap.size, 0, none⟩) 1 1, hx, Kd.R_nil _ _ _ _ _, ?_⟩
  exact Kd.R_lower (Kd.R_mono (kP_mk1 (w := w4) (Nat.le_refl _) hS) (fun k hk => Nat.le_trans hn hk)) hn
set_option maxHeartbeats 4000000 in
set_option maxRecDepth 100000 in
theorem branch_calls {s : ByteArray} {k : Nat} (AT : ∀ k', k' < k → AtOk s k') {w : World} {b i d sz : Nat} (h : Rd w b s i d sz) (hz : sz ≤ i) {R : Res (Pt × Nat)} (hf : brF k s d i .eps 0 = some R) : Calls Tryd.prog 35 #[.pointer (some ⟨b, 0, none⟩)] w (PostP b s d sz w R) := by
  have AT := Aside0.mk AT
  have HH := Aside0.mk h
  have HSZ := Aside0.mk hz
  have HBT := Aside0.mk (show b < w.heap.size from h.lt)
  cases hp : peekF s i with
  | none =>
    have hR : R = .bad i 8 := by
      cases k with
      | zero => simp [brF] at hf
      | succ k => rcases brF_head hf with ⟨_, h⟩ | ⟨c, h, _⟩; exact h; rw [hp] at h; cases h
    subst hR
    have HP := Aside0.mk hp
    clear hp hf h hz
    go_enter Tryd.func35, Tryd.ntmps35
    go_wp2_with (first
      | ((with_reducible refine gate_dst (N := 8) rfl ?_); refine box_event ?hg (N := 8) ?hd (cs := (ndL 1 (.slice none 0 0) false false (.slice none 0 0) 0).toArray) (t := 74) ?hr ?_; (case hd => rfl); (case hg => rfl); (case hr => first | (go_simp; done) | (go_simp; rfl)); intro X hX w1 hx5 hb5; have HXL := Aside0.mk (show w.heap.size ≤ X by omega); have HXB1 := Aside0.mk hx5; have H1 := Aside0.mk (HH.out.below hb5); have HS1 := Aside0.mk (Stp.of (b := b) hb5); clear hX hx5 hb5)
      | (go_at_call 36; (with_reducible refine (peek_no H1.out HP.out).mono ?_); rintro e w2 ⟨rfl, hb⟩; have HS2 := Aside0.mk (HS1.out.trans (Stp.of (b := b) hb)); clear hb))
    exact ⟨rfl, rfl, HS2.out⟩
  | some c =>
  have HP := Aside0.mk hp
  have HF0 := Aside0.mk hf
  clear hp hf h hz
  go_enter Tryd.func35, Tryd.ntmps35
  go_wp2_with (first
    | ((with_reducible refine gate_dst (N := 8) rfl ?_); refine box_event ?hg (N := 8) ?hd (cs := (ndL 1 (.slice none 0 0) false false (.slice none 0 0) 0).toArray) (t := 74) ?hr ?_; (case hd => rfl); (case hg => rfl); (case hr => first | (go_simp; done) | (go_simp; rfl)); intro X hX w1 hx5 hb5; have HXL := Aside0.mk (show w.heap.size ≤ X by omega); have HXB1 := Aside0.mk hx5; have H1 := Aside0.mk (HH.out.below hb5); have HS1 := Aside0.mk (Stp.of (b := b) hb5); clear hX hx5 hb5)
    | (go_at_call 36; (with_reducible refine (peek_ok H1.out HP.out).mono ?_); rintro e w2 ⟨rfl, hb⟩; have H2 := Aside0.mk (H1.out.below hb); have HS2 := Aside0.mk (HS1.out.trans (Stp.of (b := b) hb)); have HB2 := Aside0.mk ((Bld.new HXL.out HXB1.out).below hb); clear hb))
  try go_frame
  clear HXB1 H1 HS1
  go_loopg [4] k (fun kq v4 wr => ∃ (i2 : Nat) (c : Int) (acc : Pt) (n : Nat) (bs : List Nat) (A : Option Addr) (m cc : Nat), v4 = .int .i32 c ∧ Aside0 (peekF s i2 = some c) ∧ Aside0 (brF kq s d i2 acc n = some R ∧ kq ≤ k) ∧ Aside0 (Rd wr b s i2 d (sz + n)) ∧ Aside0 (Stp b w wr) ∧ Aside0 (Bld w.heap.size wr X 1 acc bs A m cc) ∧ Aside0 (sz + n ≤ i2 ∧ m ≤ i2))
  case atStart => exact ⟨i, c, .eps, 0, [], none, 0, 0, rfl, HP, ⟨HF0.out, Nat.le_refl _⟩, ⟨H2.out⟩, ⟨HS2.out⟩, ⟨HB2.out⟩, ⟨by have := HSZ.out; omega, by omega⟩⟩
  case round =>
    clear H2 HS2 HB2 HP HF0
    obtain ⟨i2, c, acc, n, bs, A, m, cc, rfl, HP, HF, HR, HS, HB, HZ⟩ := hrel
    cases gk with
    | zero => exact absurd HF.out.1 (by simp [brF])
    | succ k1 =>
    have hd : BrB k1 s d i2 acc n c R := by
      rcases brF_head HF.out.1 with ⟨h, _⟩ | ⟨c', h, hB⟩
      · rw [HP.out] at h; cases h
      · rw [HP.out] at h; cases h; exact hB
    have HAT := Aside0.mk (AT.out k1 (by have := HF.out.2; omega))
    have HX2 := Aside0.mk (show 2 ≤ X by have h1 := HR.out.two; have h2 := HB.out.le; have h3 := HBT.out; omega)
    have HXb := Aside0.mk (show X ≠ b by have h2 := HB.out.le; have h3 := HBT.out; omega)
    rcases hd with ⟨hx, rfl⟩ | ⟨⟨h0, h124, h41⟩, hd⟩
    · have hx' : c < 0 ∨ c = 124 ∨ c = 41 := hx
      clear hx
      rcases hx' with hx | rfl | rfl
      all_goals
        go_wp2_with (fail)
        go_ret
        exact ⟨X, rfl, HR.out, HS.out, HB.out.tr⟩
    · have HC0 := Aside0.mk (show ∀ c', peekF s i2 = some c' → 0 ≤ c' from fun c' h => by rw [HP.out] at h; cases h; omega)
      have h0' : c ≥ 0 := by omega
      have g124 : (c != 124) = true := bne_iff_ne.2 h124
      have g41 : (c != 41) = true := bne_iff_ne.2 h41
      clear h0 h124 h41
      rcases hd with ⟨a1, e1, hq, rfl⟩ | ⟨p, m1, j, hq, hp2, rfl⟩ | ⟨p, m1, j, c2, hq, hp2, hsg, hN⟩ | ⟨p, m1, j, c2, hq, hp2, ⟨s1, s2, s3⟩, hN⟩
      · have HQ := Aside0.mk hq
        clear hq
        go_wp2_with (go_at_call 46; (with_reducible refine (HAT.out.go HR.out HZ.out.1 HC0.out HQ.out).mono ?_); rintro e w1 ⟨rfl, hs⟩; have HS1 := Aside0.mk (HS.out.trans hs); clear hs)
        exact ⟨rfl, rfl, HS1.out⟩
      · have HQ := Aside0.mk hq
        have HP2 := Aside0.mk hp2
        clear hq hp2
        go_wp2_with (first
          | (go_at_call 46; (with_reducible refine (HAT.out.go HR.out HZ.out.1 HC0.out HQ.out).mono ?_); rintro e w1 ⟨q, rfl, h1, hs, ht⟩; have H1 := Aside0.mk ((Nat.add_assoc sz n m1) ▸ h1); have HS1 := Aside0.mk (HS.out.trans hs); have HT1 := Aside0.mk ht; have HB1 := Aside0.mk (HB.out.stp hs HBT.out); have HW1 := Aside0.mk (show wr.heap.size ≤ w1.heap.size from hs.size); clear h1 hs ht)
          | (go_at_call 36; (with_reducible refine (peek_no H1.out HP2.out).mono ?_); rintro e w3 ⟨rfl, hb⟩; have HS3 := Aside0.mk (HS1.out.trans (Stp.of (b := b) hb)); clear hb))
        exact ⟨rfl, rfl, HS3.out⟩
      · have HQ := Aside0.mk hq
        have HP2 := Aside0.mk hp2
        have HN := Aside0.mk hN
        have HLG := Aside0.mk ((long k1).1 hq)
        have HSG := Aside0.mk (show Rune c2 ∧ rl c2 = 1 from by rcases hsg with rfl | rfl | rfl <;> exact ⟨⟨by decide, by decide, by decide⟩, rfl⟩)
        have HSK := Aside0.mk (show j ≤ s.size → j + rl c2 ≤ s.size from fun hj => ((peek_rune hj hp2).resolve_left (by rcases hsg with rfl | rfl | rfl <;> decide)).2)
        have hsg' : (c2 == 42) = true ∨ ((c2 == 42) = false ∧ (c2 == 43) = true) ∨ ((c2 == 42) = false ∧ (c2 == 43) = false ∧ (c2 == 63) = true) := by rcases hsg with rfl | rfl | rfl <;> decide
        clear hq hp2 hN hsg
        cases hp3 : peekF s (j + 1) with
        | none =>
          have hR : R = .bad (j + 1) 8 := by
            cases k1 with
            | zero => exact absurd HN.out (by simp [brF])
            | succ k2 => rcases brF_head HN.out with ⟨_, h⟩ | ⟨c, h, _⟩; exact h; rw [hp3] at h; cases h
          subst hR
          have HP3 := Aside0.mk hp3
          clear hp3
          rcases hsg' with s1 | ⟨s1, s2⟩ | ⟨s1, s2, s3⟩
          all_goals
            go_wp2_with (first
              | (go_at_call 46; (with_reducible refine (HAT.out.go HR.out HZ.out.1 HC0.out HQ.out).mono ?_); rintro e w1 ⟨q, rfl, h1, hs, ht⟩; have H1 := Aside0.mk ((Nat.add_assoc sz n m1) ▸ h1); have HS1 := Aside0.mk (HS.out.trans hs); have HT1 := Aside0.mk ht; have HB1 := Aside0.mk (HB.out.stp hs HBT.out); have HW1 := Aside0.mk (show wr.heap.size ≤ w1.heap.size from hs.size); clear h1 hs ht)
              | (go_at_call 36; (with_reducible refine (peek_ok H1.out HP2.out).mono ?_); rintro e w2 ⟨rfl, hb⟩; have H2 := Aside0.mk (H1.out.below hb); have HS2 := Aside0.mk (HS1.out.trans (Stp.of (b := b) hb)); have HT2 := Aside0.mk (HT1.out.stp (Stp.of (b := b) hb) (Nat.lt_of_lt_of_le HBT.out HS.out.size)); have HB2 := Aside0.mk (HB1.out.below hb); have HW2 := Aside0.mk (Nat.le_trans HW1.out hb.size); clear hb)
              | (go_at_call 37; (with_reducible refine (skip_calls H2.out HSG.out.1 (HSK.out H2.out.le)).mono ?_); rintro e w3 ⟨rfl, h3, hs⟩; rw [HSG.out.2] at h3; have H3 := Aside0.mk h3; have HS3 := Aside0.mk (HS2.out.trans hs); have HT3 := Aside0.mk (HT2.out.stp hs (Nat.lt_of_lt_of_le HBT.out HS.out.size)); have HB3 := Aside0.mk (HB2.out.stp hs HBT.out); have HW13 := Aside0.mk (Nat.le_trans HW2.out hs.size); clear h3 hs)
              | ((with_reducible refine gate_dst (N := 44) rfl ?_); refine box_event ?hg (N := 44) ?hd (cs := (ndL 3 (.slice none 0 0) false false (.slice (some ⟨w3.heap.size, 0, none⟩) 1 1) c2).toArray) (t := 74) ?hr ?_; (case hd => rfl); (case hg => rfl); (case hr => first | (go_simp; done) | (go_simp; rfl)); intro Y hX w5 hx5 hb5; have HBA := below_alloc (Below.refl w3.heap.size w3) (.cells #[.pointer (some ⟨q, 0, none⟩)] 41); have HBB := HBA.trans (hb5.mono HBA.size); have H5 := Aside0.mk (H3.out.below HBB); have HS5 := Aside0.mk (HS3.out.trans (Stp.of (b := b) HBB)); have HT5 := Aside0.mk (HT3.out.again HW13.out HBB (by rw [hX]; exact HBA.size) ((hb5.block _ (blk_lt (blk_new _ _))).trans (blk_new _ _)) hx5); have HB5 := Aside0.mk (HB3.out.below HBB); clear HBA HBB; obtain ⟨x0, x1, x2, x3, x4, x5⟩ := nd_cell HB5.out.blk; have xf := nd_frozen HB5.out.blk 4; clear hX hx5 hb5)
              | ((with_reducible refine gate_builtin (b := .append) (xs := #[.tmp 49, .tmp 51]) rfl ?_); at_builtin; refine Kd.R_append kP (w0 := w5) w.heap.size rfl (.tmp 49) (.tmp 51) 72 41 (.pointer none) 8 rfl Tryd.underlying72 info41 rfl (by decide) (by omega) (.slice A m cc) bs Y [.pointer (some ⟨Y, 0, none⟩)] (fun q => w.heap.size ≤ q ∧ q ≠ X) (fun _ => False) rfl rfl ?aP (fun _ h => h.elim) ?aF ?aO ?aB ?aS ?aL ?_; (case aP => exact rfl); (case aF => exact (fun q hq => ⟨Nat.le_trans HS5.out.size hq, fun e => by have := blk_lt HB5.out.blk; omega⟩)); (case aO => exact HB5.out.row); (case aB => exact Below.refl _ _); (case aS => exact HS5.out.size); (case aL => have h1 := HZ.out; have h2 := H5.out.short; have h3 := HR.out.le; have h4 := HB.out.len; omega); intro v6 w6 ho hb6 hg6 hat6; obtain ⟨A6, c6, rfl⟩ := Kd.R_slice ho; have H6 := Aside0.mk (Rd.grown H5.out (fun q hq hq2 => hb6.block q (by have h1 := HBT.out; have h2 := HH.out.two; omega))); have HS6 := Aside0.mk (HS5.out.grown hb6 (Nat.le_refl _)); have HB6 := Aside0.mk (HB5.out.push (acc' := (.cat acc (.again p c2))) (m5 := bs.length + 1) ⟨rfl, rfl, rfl, rfl, rfl⟩ (fun h1 h2 h3 => ⟨_, _, _, rfl, h1, h2, h3⟩) HT5.out HS.out.size (blk_lt HB.out.blk) (fun g hg => Kd.R_lt HB.out.row g hg) ho hg6 hat6 (by rw [List.length_append, List.length_singleton])); clear x0 x1 x2 x3 x4 x5 xf; have x4 := (nd_cell (w := w6) (X := X) ((hg6.block X (blk_lt HB5.out.blk) (fun e => (HB5.out.row.1 X e.symm).2 rfl)).trans HB5.out.blk)).2.2.2.2.1; have xf := nd_frozen (w := w6) (X := X) ((hg6.block X (blk_lt HB5.out.blk) (fun e => (HB5.out.row.1 X e.symm).2 rfl)).trans HB5.out.blk) 4; clear ho hb6 hg6 hat6)
              | (go_at_call 36; (with_reducible refine (peek_no (Rd.far H6.out HXb.out HX2.out 4 _) HP3.out).mono ?_); rintro e w7 ⟨rfl, hb⟩; have HS7 := Aside0.mk ((HS6.out.far HB.out.le 4 _).trans (Stp.of (b := b) hb)); clear hb))
            exact ⟨rfl, rfl, HS7.out⟩
        | some c3 =>
          have HP3 := Aside0.mk hp3
          clear hp3
          rcases hsg' with s1 | ⟨s1, s2⟩ | ⟨s1, s2, s3⟩
          all_goals
            go_wp2_with (first
              | (go_at_call 46; (with_reducible refine (HAT.out.go HR.out HZ.out.1 HC0.out HQ.out).mono ?_); rintro e w1 ⟨q, rfl, h1, hs, ht⟩; have H1 := Aside0.mk ((Nat.add_assoc sz n m1) ▸ h1); have HS1 := Aside0.mk (HS.out.trans hs); have HT1 := Aside0.mk ht; have HB1 := Aside0.mk (HB.out.stp hs HBT.out); have HW1 := Aside0.mk (show wr.heap.size ≤ w1.heap.size from hs.size); clear h1 hs ht)
              | (go_at_call 36; (with_reducible refine (peek_ok H1.out HP2.out).mono ?_); rintro e w2 ⟨rfl, hb⟩; have H2 := Aside0.mk (H1.out.below hb); have HS2 := Aside0.mk (HS1.out.trans (Stp.of (b := b) hb)); have HT2 := Aside0.mk (HT1.out.stp (Stp.of (b := b) hb) (Nat.lt_of_lt_of_le HBT.out HS.out.size)); have HB2 := Aside0.mk (HB1.out.below hb); have HW2 := Aside0.mk (Nat.le_trans HW1.out hb.size); clear hb)
              | (go_at_call 37; (with_reducible refine (skip_calls H2.out HSG.out.1 (HSK.out H2.out.le)).mono ?_); rintro e w3 ⟨rfl, h3, hs⟩; rw [HSG.out.2] at h3; have H3 := Aside0.mk h3; have HS3 := Aside0.mk (HS2.out.trans hs); have HT3 := Aside0.mk (HT2.out.stp hs (Nat.lt_of_lt_of_le HBT.out HS.out.size)); have HB3 := Aside0.mk (HB2.out.stp hs HBT.out); have HW13 := Aside0.mk (Nat.le_trans HW2.out hs.size); clear h3 hs)
              | ((with_reducible refine gate_dst (N := 44) rfl ?_); refine box_event ?hg (N := 44) ?hd (cs := (ndL 3 (.slice none 0 0) false false (.slice (some ⟨w3.heap.size, 0, none⟩) 1 1) c2).toArray) (t := 74) ?hr ?_; (case hd => rfl); (case hg => rfl); (case hr => first | (go_simp; done) | (go_simp; rfl)); intro Y hX w5 hx5 hb5; have HBA := below_alloc (Below.refl w3.heap.size w3) (.cells #[.pointer (some ⟨q, 0, none⟩)] 41); have HBB := HBA.trans (hb5.mono HBA.size); have H5 := Aside0.mk (H3.out.below HBB); have HS5 := Aside0.mk (HS3.out.trans (Stp.of (b := b) HBB)); have HT5 := Aside0.mk (HT3.out.again HW13.out HBB (by rw [hX]; exact HBA.size) ((hb5.block _ (blk_lt (blk_new _ _))).trans (blk_new _ _)) hx5); have HB5 := Aside0.mk (HB3.out.below HBB); clear HBA HBB; obtain ⟨x0, x1, x2, x3, x4, x5⟩ := nd_cell HB5.out.blk; have xf := nd_frozen HB5.out.blk 4; clear hX hx5 hb5)
              | ((with_reducible refine gate_builtin (b := .append) (xs := #[.tmp 49, .tmp 51]) rfl ?_); at_builtin; refine Kd.R_append kP (w0 := w5) w.heap.size rfl (.tmp 49) (.tmp 51) 72 41 (.pointer none) 8 rfl Tryd.underlying72 info41 rfl (by decide) (by omega) (.slice A m cc) bs Y [.pointer (some ⟨Y, 0, none⟩)] (fun q => w.heap.size ≤ q ∧ q ≠ X) (fun _ => False) rfl rfl ?aP (fun _ h => h.elim) ?aF ?aO ?aB ?aS ?aL ?_; (case aP => exact rfl); (case aF => exact (fun q hq => ⟨Nat.le_trans HS5.out.size hq, fun e => by have := blk_lt HB5.out.blk; omega⟩)); (case aO => exact HB5.out.row); (case aB => exact Below.refl _ _); (case aS => exact HS5.out.size); (case aL => have h1 := HZ.out; have h2 := H5.out.short; have h3 := HR.out.le; have h4 := HB.out.len; omega); intro v6 w6 ho hb6 hg6 hat6; obtain ⟨A6, c6, rfl⟩ := Kd.R_slice ho; have H6 := Aside0.mk (Rd.grown H5.out (fun q hq hq2 => hb6.block q (by have h1 := HBT.out; have h2 := HH.out.two; omega))); have HS6 := Aside0.mk (HS5.out.grown hb6 (Nat.le_refl _)); have HB6 := Aside0.mk (HB5.out.push (acc' := (.cat acc (.again p c2))) (m5 := bs.length + 1) ⟨rfl, rfl, rfl, rfl, rfl⟩ (fun h1 h2 h3 => ⟨_, _, _, rfl, h1, h2, h3⟩) HT5.out HS.out.size (blk_lt HB.out.blk) (fun g hg => Kd.R_lt HB.out.row g hg) ho hg6 hat6 (by rw [List.length_append, List.length_singleton])); clear x0 x1 x2 x3 x4 x5 xf; have x4 := (nd_cell (w := w6) (X := X) ((hg6.block X (blk_lt HB5.out.blk) (fun e => (HB5.out.row.1 X e.symm).2 rfl)).trans HB5.out.blk)).2.2.2.2.1; have xf := nd_frozen (w := w6) (X := X) ((hg6.block X (blk_lt HB5.out.blk) (fun e => (HB5.out.row.1 X e.symm).2 rfl)).trans HB5.out.blk) 4; clear ho hb6 hg6 hat6)
              | (go_at_call 36; (with_reducible refine (peek_ok (Rd.far H6.out HXb.out HX2.out 4 _) HP3.out).mono ?_); rintro e w7 ⟨rfl, hb⟩; have H7 := Aside0.mk ((Rd.far H6.out HXb.out HX2.out 4 _).below hb); have HS7 := Aside0.mk ((HS6.out.far HB.out.le 4 _).trans (Stp.of (b := b) hb)); have HB7 := Aside0.mk (Bld.below HB6.out (by first | exact hb | (rw [HLN.out]; exact hb))); clear hb x4 xf))
            go_roundg k1
            case measure => omega
            case rel => exact ⟨j + 1, c3, _, n + m1, _, A6, bs.length + 1, c6, rfl, HP3, ⟨HN.out, by have := HF.out.2; omega⟩, ⟨H7.out⟩, ⟨HS7.out⟩, ⟨HB7.out⟩, ⟨by have h1 := HZ.out; have h2 := HLG.out; omega, by have h1 := HZ.out; have h2 := HLG.out; have h3 := HB.out.len; omega⟩⟩
      · have HQ := Aside0.mk hq
        have HP2 := Aside0.mk hp2
        have HN := Aside0.mk hN
        have HLG := Aside0.mk ((long k1).1 hq)
        clear hq hp2 hN
        go_wp2_with (first
          | (go_at_call 46; (with_reducible refine (HAT.out.go HR.out HZ.out.1 HC0.out HQ.out).mono ?_); rintro e w1 ⟨q, rfl, h1, hs, ht⟩; have H1 := Aside0.mk ((Nat.add_assoc sz n m1) ▸ h1); have HS1 := Aside0.mk (HS.out.trans hs); have HT1 := Aside0.mk ht; have HB1 := Aside0.mk (HB.out.stp hs HBT.out); have HW1 := Aside0.mk (show wr.heap.size ≤ w1.heap.size from hs.size); clear h1 hs ht)
          | (go_at_call 36; (with_reducible refine (peek_ok H1.out HP2.out).mono ?_); rintro e w2 ⟨rfl, hb⟩; have H2 := Aside0.mk (H1.out.below hb); have HS2 := Aside0.mk (HS1.out.trans (Stp.of (b := b) hb)); have HT2 := Aside0.mk (HT1.out.stp (Stp.of (b := b) hb) (Nat.lt_of_lt_of_le HBT.out HS.out.size)); have HB2 := Aside0.mk (HB1.out.below hb); have HW2 := Aside0.mk (Nat.le_trans HW1.out hb.size); clear hb; obtain ⟨x0, x1, x2, x3, x4, x5⟩ := nd_cell HB2.out.blk; have xf := nd_frozen HB2.out.blk 4)
          | ((with_reducible refine gate_builtin (b := .append) (xs := #[.tmp 49, .tmp 51]) rfl ?_); at_builtin; refine Kd.R_append kP (w0 := w2) w.heap.size rfl (.tmp 49) (.tmp 51) 72 41 (.pointer none) 8 rfl Tryd.underlying72 info41 rfl (by decide) (by omega) (.slice A m cc) bs q [.pointer (some ⟨q, 0, none⟩)] (fun q => w.heap.size ≤ q ∧ q ≠ X) (fun _ => False) rfl rfl ?aP (fun _ h => h.elim) ?aF ?aO ?aB ?aS ?aL ?_; (case aP => exact rfl); (case aF => exact (fun q hq => ⟨Nat.le_trans HS2.out.size hq, fun e => by have := blk_lt HB2.out.blk; omega⟩)); (case aO => exact HB2.out.row); (case aB => exact Below.refl _ _); (case aS => exact HS2.out.size); (case aL => have h1 := HZ.out; have h2 := H2.out.short; have h3 := HR.out.le; have h4 := HB.out.len; omega); intro v6 w6 ho hb6 hg6 hat6; obtain ⟨A6, c6, rfl⟩ := Kd.R_slice ho; have H6 := Aside0.mk (Rd.grown H2.out (fun q hq hq2 => hb6.block q (by have h1 := HBT.out; have h2 := HH.out.two; omega))); have HS6 := Aside0.mk (HS2.out.grown hb6 (Nat.le_refl _)); have HB6 := Aside0.mk (HB2.out.push (acc' := (.cat acc p)) (m5 := bs.length + 1) ⟨rfl, rfl, rfl, rfl, rfl⟩ (fun h1 h2 h3 => ⟨_, _, _, rfl, h1, h2, h3⟩) HT2.out HS.out.size (blk_lt HB.out.blk) (fun g hg => Kd.R_lt HB.out.row g hg) ho hg6 hat6 (by rw [List.length_append, List.length_singleton])); clear x0 x1 x2 x3 x4 x5 xf; have x4 := (nd_cell (w := w6) (X := X) ((hg6.block X (blk_lt HB2.out.blk) (fun e => (HB2.out.row.1 X e.symm).2 rfl)).trans HB2.out.blk)).2.2.2.2.1; have xf := nd_frozen (w := w6) (X := X) ((hg6.block X (blk_lt HB2.out.blk) (fun e => (HB2.out.row.1 X e.symm).2 rfl)).trans HB2.out.blk) 4; clear ho hb6 hg6 hat6)
          | (go_at_call 36; (with_reducible refine (peek_ok (Rd.far H6.out HXb.out HX2.out 4 _) HP2.out).mono ?_); rintro e w7 ⟨rfl, hb⟩; have H7 := Aside0.mk ((Rd.far H6.out HXb.out HX2.out 4 _).below hb); have HS7 := Aside0.mk ((HS6.out.far HB.out.le 4 _).trans (Stp.of (b := b) hb)); have HB7 := Aside0.mk (Bld.below HB6.out (by first | exact hb | (rw [HLN.out]; exact hb))); clear hb x4 xf))
        go_roundg k1
        case measure => omega
        case rel => exact ⟨j, c2, _, n + m1, _, A6, bs.length + 1, c6, rfl, HP2, ⟨HN.out, by have := HF.out.2; omega⟩, ⟨H7.out⟩, ⟨HS7.out⟩, ⟨HB7.out⟩, ⟨by have h1 := HZ.out; have h2 := HLG.out; omega, by have h1 := HZ.out; have h2 := HLG.out; have h3 := HB.out.len; omega⟩⟩
end Go.Proofs.YtmfpikhmeacnbaaDoor.X
