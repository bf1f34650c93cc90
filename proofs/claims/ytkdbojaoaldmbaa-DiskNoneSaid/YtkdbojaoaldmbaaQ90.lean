/- The law DiskNone by hand. -/
import Derived.Test.YtkdbojaoaldmbaaD11
import Derived.LoopN
namespace Go.Proofs.Ytkdbojaoaldmbaa.Q
open Go.RowKit Go.Proofs.Ytkdbojaoaldmbaa.D Go.Proofs.YtkdbojaoaldmbaaW.PrintWords Go.Proofs.YtkdbojaoaldmbaaW.PrintLast Go.Proofs.YtkdbojaoaldmbaaW.PrintMore
set_option linter.unusedVariables false
set_option linter.unusedSimpArgs false

theorem three_laid (w : World) (a b c : Array Value) (ta tb tc : TypeId) : ∀ W : World, W = ((w.alloc (.cells a ta)).alloc (.cells b tb)).alloc (.cells c tc) →
    (∀ i, W.cell? ⟨w.heap.size, i, none⟩ = a[i]?) ∧ (∀ i, W.cell? ⟨w.heap.size + 1, i, none⟩ = b[i]?) ∧ (∀ i, W.cell? ⟨w.heap.size + 1 + 1, i, none⟩ = c[i]?) ∧ Below w.heap.size w W := by
  rintro W rfl
  have hp : (((w.alloc (.cells a ta)).alloc (.cells b tb)).alloc (.cells c tc)).heap = ((w.heap.push (.cells a ta)).push (.cells b tb)).push (.cells c tc) := rfl
  have h0 : (((w.alloc (.cells a ta)).alloc (.cells b tb)).alloc (.cells c tc)).heap[w.heap.size]? = some (.cells a ta) := by rw [hp, Array.getElem?_push, if_neg (by simp; omega), Array.getElem?_push, if_neg (by simp), Array.getElem?_push, if_pos rfl]
  have h1 : (((w.alloc (.cells a ta)).alloc (.cells b tb)).alloc (.cells c tc)).heap[w.heap.size + 1]? = some (.cells b tb) := by rw [hp, Array.getElem?_push, if_neg (by simp), Array.getElem?_push, if_pos (by simp)]
  have h2 : (((w.alloc (.cells a ta)).alloc (.cells b tb)).alloc (.cells c tc)).heap[w.heap.size + 1 + 1]? = some (.cells c tc) := by rw [hp, Array.getElem?_push, if_pos (by simp)]
  refine ⟨fun i => ?_, fun i => ?_, fun i => ?_, below_alloc (below_alloc (below_alloc (Below.refl _ _) _) _) _⟩
  · unfold World.cell?; rw [h0]; simp
  · unfold World.cell?; rw [h1]; simp
  · unfold World.cell?; rw [h2]; simp
def manometerlaw11_DiskNone.f (a0_0 : Int) (a0_1 : ByteArray) (a0_2 : ByteArray) (a0_3 : List Int) (a0_4 : Int) : Option Bool := some true
set_option maxHeartbeats 4000000 in
set_option maxRecDepth 100000 in
theorem manometerlaw11_DiskNone.calls (a0_0 : Int) (a0_1 : ByteArray) (a0_2 : ByteArray) (A0_3 : Option Addr) (c0_3 : Nat) (a0_3 : List Int) (a0_4 : Int) (r : Bool) (w : World) (hr0 : Kd.C (Kd.int .u8) w A0_3 a0_3.length a0_3) (hc0 : a0_3.length ≤ c0_3) (hT : r = true) (h : manometerlaw11_DiskNone.f a0_0 a0_1 a0_2 a0_3 a0_4 = some r) :
    Calls Try.prog 7 #[.agg #[.int .i64 a0_0, .string a0_1, .string a0_2, .slice A0_3 a0_3.length c0_3, .int .i64 a0_4]] w fun e w' => e = .returned (.bool r) ∧ Below w.heap.size w w' := by
  subst hT
  clear h
  generalize a0_3.length = n3 at *
  clear hr0 hc0
  go_enter Try.func7, Try.ntmps7
  go_wp2_with (fail)
  have hgr := three_laid w #[.int .i64 a0_0, .string a0_1, .string a0_2, .slice A0_3 n3 c0_3, .int .i64 a0_4] #[.map none, .int .i64 0, .int .i64 0] #[.pointer none, .pointer (some ⟨w.heap.size + 1, 0, none⟩)] 31 57 23 _ rfl
  generalize (((w.alloc (.cells #[.int .i64 a0_0, .string a0_1, .string a0_2, .slice A0_3 n3 c0_3, .int .i64 a0_4] 31)).alloc (.cells #[.map none, .int .i64 0, .int .i64 0] 57)).alloc (.cells #[.pointer none, .pointer (some ⟨w.heap.size + 1, 0, none⟩)] 23)) = W at *
  obtain ⟨ho, hz, hs, HB0⟩ := hgr
  have HB := Aside0.mk HB0
  clear HB0
  have o0 := ho 0
  have o1 := ho 1
  have o2 := ho 2
  have o3 := ho 3
  have o4 := ho 4
  have z0 := hz 0
  have s0 := hs 0
  have s1 := hs 1
  simp only [List.getElem?_toArray, List.getElem?_cons_zero, List.getElem?_cons_succ] at o0 o1 o2 o3 o4 z0 s0 s1
  clear ho hz hs
  generalize hBe : w.heap.size = B at *
  have HBe := Aside0.mk hBe
  clear hBe
  have hb0 : Bad W (.pointer none) := .inl rfl
  have hb1 : Bad W (.pointer (some ⟨B + 1, 0, none⟩)) := .inr ⟨_, rfl, z0⟩
  refine wp_loop_rounds 3 ?_
  rw [rounds_succ]
  go_wp2_with (first
      | (go_at_call 13; (with_reducible refine (read_bad _ _ _ ?hb).mono ?_); (case hb => first | exact hb0 | exact hb1); rintro e w' ⟨rfl, rfl⟩)
      | (go_at_call 14; (with_reducible refine (lasts_bad _ _ _ ?hb).mono ?_); (case hb => first | exact hb0 | exact hb1); rintro e w' ⟨rfl, rfl⟩)
      | (go_at_call 17; (with_reducible refine (crash_bad _ _ _ ?hb).mono ?_); (case hb => first | exact hb0 | exact hb1); rintro e w' ⟨rfl, rfl⟩)
      | (go_at_call 20; (with_reducible refine (append_bad _ _ _ _ ?hb).mono ?_); (case hb => first | exact hb0 | exact hb1); rintro e w' ⟨rfl, rfl⟩)
      | (go_at_call 21; (with_reducible refine (sync_bad _ _ _ ?hb).mono ?_); (case hb => first | exact hb0 | exact hb1); rintro e w' ⟨rfl, rfl⟩)
      | (go_at_call 27; (with_reducible refine (cut_bad _ _ _ _ ?hb).mono ?_); (case hb => first | exact hb0 | exact hb1); rintro e w' ⟨rfl, rfl⟩)
      | (go_at_call 22; (with_reducible refine (remove_bad _ _ _ ?hb).mono ?_); (case hb => first | exact hb0 | exact hb1); rintro e w' ⟨rfl, rfl⟩)
      | (go_at_call 28; (with_reducible refine (swap_bad _ _ _ _ ?hb).mono ?_); (case hb => first | exact hb0 | exact hb1); rintro e w' ⟨rfl, rfl⟩)
      | (go_at_call 11; (with_reducible refine (list_bad _ _ ?hb).mono ?_); (case hb => first | exact hb0 | exact hb1); rintro e w' ⟨rfl, rfl⟩)
      | (go_at_call 19; (with_reducible refine (size_bad _ _ ?hb).mono ?_); (case hb => first | exact hb0 | exact hb1); rintro e w' ⟨rfl, rfl⟩)
      | (go_at_call 29; (with_reducible refine (room_bad _ _ ?hb).mono ?_); (case hb => first | exact hb0 | exact hb1); rintro e w' ⟨rfl, rfl⟩)
      | (go_at_call 16; (with_reducible refine (clone_bad _ _ ?hb).mono ?_); (case hb => first | exact hb0 | exact hb1); rintro e w' ⟨rfl, rfl⟩))
  rw [rounds_succ]
  go_wp2_with (first
      | (go_at_call 13; (with_reducible refine (read_bad _ _ _ ?hb).mono ?_); (case hb => first | exact hb0 | exact hb1); rintro e w' ⟨rfl, rfl⟩)
      | (go_at_call 14; (with_reducible refine (lasts_bad _ _ _ ?hb).mono ?_); (case hb => first | exact hb0 | exact hb1); rintro e w' ⟨rfl, rfl⟩)
      | (go_at_call 17; (with_reducible refine (crash_bad _ _ _ ?hb).mono ?_); (case hb => first | exact hb0 | exact hb1); rintro e w' ⟨rfl, rfl⟩)
      | (go_at_call 20; (with_reducible refine (append_bad _ _ _ _ ?hb).mono ?_); (case hb => first | exact hb0 | exact hb1); rintro e w' ⟨rfl, rfl⟩)
      | (go_at_call 21; (with_reducible refine (sync_bad _ _ _ ?hb).mono ?_); (case hb => first | exact hb0 | exact hb1); rintro e w' ⟨rfl, rfl⟩)
      | (go_at_call 27; (with_reducible refine (cut_bad _ _ _ _ ?hb).mono ?_); (case hb => first | exact hb0 | exact hb1); rintro e w' ⟨rfl, rfl⟩)
      | (go_at_call 22; (with_reducible refine (remove_bad _ _ _ ?hb).mono ?_); (case hb => first | exact hb0 | exact hb1); rintro e w' ⟨rfl, rfl⟩)
      | (go_at_call 28; (with_reducible refine (swap_bad _ _ _ _ ?hb).mono ?_); (case hb => first | exact hb0 | exact hb1); rintro e w' ⟨rfl, rfl⟩)
      | (go_at_call 11; (with_reducible refine (list_bad _ _ ?hb).mono ?_); (case hb => first | exact hb0 | exact hb1); rintro e w' ⟨rfl, rfl⟩)
      | (go_at_call 19; (with_reducible refine (size_bad _ _ ?hb).mono ?_); (case hb => first | exact hb0 | exact hb1); rintro e w' ⟨rfl, rfl⟩)
      | (go_at_call 29; (with_reducible refine (room_bad _ _ ?hb).mono ?_); (case hb => first | exact hb0 | exact hb1); rintro e w' ⟨rfl, rfl⟩)
      | (go_at_call 16; (with_reducible refine (clone_bad _ _ ?hb).mono ?_); (case hb => first | exact hb0 | exact hb1); rintro e w' ⟨rfl, rfl⟩))
  rw [rounds_succ]
  go_wp2_with (go_at_call 9; (with_reducible refine (live_calls _).mono ?_); rintro e w' ⟨rfl, HB2⟩)
  go_ret
  have e := HBe.out
  subst e
  exact ⟨rfl, below_step HB.out HB2⟩
end Go.Proofs.Ytkdbojaoaldmbaa.Q
