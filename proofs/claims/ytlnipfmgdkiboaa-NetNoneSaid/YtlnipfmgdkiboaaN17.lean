/- The network by hand: a network that no call made. -/
import Derived.Test.YtlnipfmgdkiboaaN14
import Derived.LoopN
namespace Go.Proofs.Ytlnipfmgdkiboaa.N
open Go.RowKit Go.Proofs.Ytlnipfmgdkiboaa.Q Go.Proofs.YtlnipfmgdkiboaaW.PrintWords Go.Proofs.YtlnipfmgdkiboaaW.PrintLast Go.Proofs.YtlnipfmgdkiboaaW.PrintMore
set_option linter.unusedVariables false
set_option linter.unusedSimpArgs false

/-- A network that no call made. -/
def Bad (w : World) (V : Value) : Prop := V = .pointer none ∨ ∃ Z, V = .pointer (some ⟨Z, 0, none⟩) ∧ w.cell? ⟨Z, 1, none⟩ = some (.map none)
theorem Bad.below {w w' : World} {V : Value} (h : Bad w V) (hb : Below w.heap.size w w') : Bad w' V := by
  rcases h with rfl | ⟨Z, rfl, h⟩
  · exact .inl rfl
  · exact .inr ⟨Z, rfl, pw_cell_below hb h⟩
set_option maxHeartbeats 400000 in
set_option maxRecDepth 100000 in
theorem ok_bad (V : Value) (w : World) (h : Bad w V) : Calls Try.prog 25 #[V] w fun e w' => e = .returned (.bool false) ∧ w' = w := by
  rcases h with rfl | ⟨Z, rfl, h⟩
  · go_enter Try.func25, Try.ntmps25
    go_wp2
    go_ret
    exact ⟨rfl, rfl⟩
  · have hne := map_ne0
    go_enter Try.func25, Try.ntmps25
    go_wp2
    go_ret
    exact ⟨rfl, rfl⟩
set_option maxHeartbeats 1000000 in
set_option maxRecDepth 100000 in
theorem send_no (V : Value) (s : ByteArray) (v : Value) (w : World) (h : Bad w V) : Calls Try.prog 10 #[V, .string s, v] w fun e w' => e = .returned (.tuple #[.int .i64 0, .int .i64 2]) ∧ Below w.heap.size w w' := by
  have HBAD := Aside0.mk h
  clear h
  have HB := Aside0.mk (Below.refl w.heap.size w)
  go_enter Try.func10, Try.ntmps10
  go_wp2_with (first
    | (go_at_call 25; (with_reducible refine (ok_bad _ _ (HBAD.out.below (Below.refl _ _))).mono ?_); rintro e w' ⟨rfl, rfl⟩))
  go_ret2
  exact ⟨rfl, Below.refl _ _⟩
set_option maxHeartbeats 1000000 in
set_option maxRecDepth 100000 in
theorem find_no (V : Value) (s : ByteArray) (i : Int) (w : World) (h : Bad w V) : Calls Try.prog 28 #[V, .string s, .int .i64 i] w fun e w' => e = .returned (.tuple #[.agg #[.int .i64 0, .slice none 0 0], .int .i64 2]) ∧ Below w.heap.size w w' := by
  have HBAD := Aside0.mk h
  clear h
  have HB := Aside0.mk (Below.refl w.heap.size w)
  go_enter Try.func28, Try.ntmps28
  go_wp2_with (first
    | (go_at_call 25; (with_reducible refine (ok_bad _ _ (HBAD.out.below (below_alloc (Below.refl _ _) _))).mono ?_); rintro e w' ⟨rfl, rfl⟩))
  refine bodyPost_ret (results_ct rfl _ _ w.heap.size 34 #[.int .i64 0, .slice none 0 0] (0, 0) _ rfl (blk_new w _) Try.underlying34 rfl (by kernel_rfl)) rfl ?_
  exact ⟨rfl, below_alloc (Below.refl _ _) _⟩
set_option maxHeartbeats 1000000 in
set_option maxRecDepth 100000 in
theorem take_no (V : Value) (s : ByteArray) (i : Int) (w : World) (h : Bad w V) :
    Calls Try.prog 11 #[V, .string s, .int .i64 i] w fun e w' => e = .returned (.tuple #[.agg #[.int .i64 0, .slice none 0 0], .int .i64 2]) ∧ Below w.heap.size w w' := by
  have HH := Aside0.mk h
  clear h
  go_enter Try.func11, Try.ntmps11
  go_wp2_with (first
    | (go_at_call 28; (with_reducible refine (find_no _ s i _ (HH.out.below HB6.out)).mono ?_); rintro e w1 ⟨rfl, hb⟩; have HB1 := Aside0.mk hb; clear hb)
    | ((with_reducible refine gate_dst (N := 6) rfl ?_); refine box_event ?hg (N := 6) ?hd (cs := #[.int .i64 0, .slice none 0 0]) (t := 34) ?hr ?_; (case hd => rfl); (case hg => rfl); (case hr => first | (go_simp; done) | (go_simp; rfl)); intro b6 hg w6 hbox hb; have HG6 := Aside0.mk hg; have HB6 := Aside0.mk hb; have HX6 := Aside0.mk hbox; clear hg hb hbox)
    | ((with_reducible refine gate_dst (N := 8) rfl ?_); refine box_event ?hg (N := 8) ?hd (cs := #[.int .i64 0, .slice none 0 0]) (t := 34) ?hr ?_; (case hd => rfl); (case hg => rfl); (case hr => first | (go_simp; done) | (go_simp; rfl)); intro b8 hg w8 hbox hb; have HG8 := Aside0.mk hg; have HB8 := Aside0.mk hb; have HX8 := Aside0.mk hbox; clear hg hb hbox; obtain ⟨e0, e1, e2, e3, g0, g1, g2, g3⟩ := two_boxes HX6.out HB6.out HB1.out HG8.out HB8.out HX8.out))
  have hne : b6 ≠ b8 := by have h1 := heap_lt HX6.out; have h2 := HB1.out.size; have h3 := HG8.out; omega
  have hb1 : Below w.heap.size w w8 := below_step (below_step HB6.out HB1.out) HB8.out
  have hb2 : w.heap.size ≤ b6 := Nat.le_of_eq HG6.out.symm
  have hb3 : w.heap.size ≤ b8 := by rw [HG8.out]; exact Nat.le_trans HB6.out.size HB1.out.size
  have hx6 : w8.heap[b6]? = some (.cells #[.int .i64 0, .slice none 0 0] 34 (0, 0)) := blk_below (blk_below HX6.out HB1.out) HB8.out
  refine bodyPost_ret (results_ct rfl _ _ b6 34 #[.int .i64 0, .slice none 0 0] (0, 0) _ rfl (blk_put (cs := #[.int .i64 0, .slice none 0 0]) (blk_put (cs := #[.int .i64 0, .slice none 0 0]) ((Below.heap_setCell _ ⟨b8, 1, none⟩ _ b6 hne).trans ((Below.heap_setCell _ ⟨b8, 0, none⟩ _ b6 hne).trans hx6)) 0 _ rfl) 1 _ rfl) Try.underlying34 rfl (by kernel_rfl)) rfl ?_
  exact ⟨rfl, below_set (below_set (below_set (below_set hb1 hb3) hb3) hb2) hb2⟩
set_option maxHeartbeats 1000000 in
set_option maxRecDepth 100000 in
theorem drop_no (V : Value) (s : ByteArray) (i : Int) (w : World) (h : Bad w V) : Calls Try.prog 12 #[V, .string s, .int .i64 i] w fun e w' => e = .returned (.int .i64 2) ∧ Below w.heap.size w w' := by
  have HBAD := Aside0.mk h
  clear h
  have HB := Aside0.mk (Below.refl w.heap.size w)
  go_enter Try.func12, Try.ntmps12
  go_wp2_with (first
    | (go_at_call 11; (with_reducible refine (take_no _ s i _ HBAD.out).mono ?_); rintro e w1 ⟨rfl, hb⟩; have HBn := Aside0.mk hb; clear HB hb; have HB := HBn; clear HBn))
  go_ret
  exact ⟨rfl, below_alloc HB.out _⟩
set_option maxHeartbeats 1000000 in
set_option maxRecDepth 100000 in
theorem double_no (V : Value) (s : ByteArray) (i : Int) (w : World) (h : Bad w V) : Calls Try.prog 13 #[V, .string s, .int .i64 i] w fun e w' => e = .returned (.int .i64 2) ∧ Below w.heap.size w w' := by
  have HBAD := Aside0.mk h
  clear h
  have HB := Aside0.mk (Below.refl w.heap.size w)
  go_enter Try.func13, Try.ntmps13
  go_wp2_with (first
    | (go_at_call 28; (with_reducible refine (find_no _ s i _ (HBAD.out.below (Below.refl _ _))).mono ?_); rintro e w1 ⟨rfl, hb⟩; have HBn := Aside0.mk hb; clear HB hb; have HB := HBn; clear HBn))
  go_ret
  exact ⟨rfl, by repeat (first | exact HB.out | refine below_alloc ?_ _)⟩
set_option maxHeartbeats 1000000 in
set_option maxRecDepth 100000 in
theorem len_no (V : Value) (s : ByteArray) (w : World) (h : Bad w V) : Calls Try.prog 15 #[V, .string s] w fun e w' => e = .returned (.int .i64 0) ∧ Below w.heap.size w w' := by
  have HBAD := Aside0.mk h
  clear h
  have HB := Aside0.mk (Below.refl w.heap.size w)
  go_enter Try.func15, Try.ntmps15
  go_wp2_with (first
    | (go_at_call 25; (with_reducible refine (ok_bad _ _ (HBAD.out.below (Below.refl _ _))).mono ?_); rintro e w' ⟨rfl, rfl⟩))
  go_ret
  exact ⟨rfl, Below.refl _ _⟩
set_option maxHeartbeats 1000000 in
set_option maxRecDepth 100000 in
theorem tenants_no (V : Value) (w : World) (h : Bad w V) : Calls Try.prog 19 #[V] w fun e w' => e = .returned (.slice none 0 0) ∧ Below w.heap.size w w' := by
  have HBAD := Aside0.mk h
  clear h
  have HB := Aside0.mk (Below.refl w.heap.size w)
  go_enter Try.func19, Try.ntmps19
  go_wp2_with (first
    | (go_at_call 25; (with_reducible refine (ok_bad _ _ (HBAD.out.below (Below.refl _ _))).mono ?_); rintro e w' ⟨rfl, rfl⟩))
  go_ret
  exact ⟨rfl, Below.refl _ _⟩
set_option maxHeartbeats 1000000 in
set_option maxRecDepth 100000 in
theorem room_no (V : Value) (w : World) (h : Bad w V) : Calls Try.prog 24 #[V] w fun e w' => e = .returned (.int .i64 0) ∧ Below w.heap.size w w' := by
  have HBAD := Aside0.mk h
  clear h
  have HB := Aside0.mk (Below.refl w.heap.size w)
  go_enter Try.func24, Try.ntmps24
  go_wp2_with (first
    | (go_at_call 25; (with_reducible refine (ok_bad _ _ (HBAD.out.below (Below.refl _ _))).mono ?_); rintro e w' ⟨rfl, rfl⟩))
  go_ret
  exact ⟨rfl, Below.refl _ _⟩
set_option maxHeartbeats 1000000 in
set_option maxRecDepth 100000 in
theorem clone_no (V : Value) (w : World) (h : Bad w V) : Calls Try.prog 20 #[V] w fun e w' => e = .returned (.pointer none) ∧ Below w.heap.size w w' := by
  have HBAD := Aside0.mk h
  clear h
  have HB := Aside0.mk (Below.refl w.heap.size w)
  go_enter Try.func20, Try.ntmps20
  go_wp2_with (first
    | (go_at_call 25; (with_reducible refine (ok_bad _ _ (HBAD.out.below (Below.refl _ _))).mono ?_); rintro e w' ⟨rfl, rfl⟩))
  go_ret
  exact ⟨rfl, Below.refl _ _⟩
set_option maxHeartbeats 1000000 in
set_option maxRecDepth 100000 in
theorem all_no (V : Value) (s : ByteArray) (w : World) (h : Bad w V) : Calls Try.prog 17 #[V, .string s] w (Told w []) := by
  have HBAD := Aside0.mk h
  clear h
  go_enter Try.func17, Try.ntmps17
  go_wp2_with (go_at_call 25; (with_reducible refine (ok_bad _ _ (HBAD.out.below (below_alloc (Below.refl _ _) _))).mono ?_); rintro e w' ⟨rfl, rfl⟩)
  go_ret
  exact ⟨_, _, rfl, blk_new w _, Nat.le_refl _, Kd.R_nil _ _ _ _ _, below_alloc (Below.refl _ _) _⟩
theorem told_none {w : World} {Bs : Nat} {v : Value} {base : Nat} {ok : Nat → Prop} (hb : w.heap[Bs]? = some (.cells #[v] 29 (0, 0))) (hR : k34.R 34 w base ok v []) (hbase : base ≤ w.heap.size) :
    Calls Try.prog 16 #[.func (.func 30) #[] #[.pointer (some ⟨Bs, 0, none⟩)], .int .i64 9] w fun e W' => ∃ A c, e = .returned (.tuple #[.slice A 0 c, .bool true]) ∧ Below w.heap.size w W' :=
  (callsIn_wide.1 (told_in hb hR (by simp) hbase 9 (by decide) (by decide))).mono fun e W' ⟨v', he, hR', hB⟩ => by
    obtain ⟨A, c, rfl, hc, _⟩ := Kd.R_reads hR'
    exact ⟨A, c, he, hB⟩
end Go.Proofs.Ytlnipfmgdkiboaa.N
