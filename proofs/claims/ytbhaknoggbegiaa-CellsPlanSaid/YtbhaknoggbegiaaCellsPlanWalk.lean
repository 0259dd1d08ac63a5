/- The walk of CellsPlan: it returns true, whatever the numbers. -/
import Derived.Test.YtbhaknoggbegiaaAwake10
import Derived.Deep.RegionWith
import Derived.Test.YtbhaknoggbegiaaBase2
import Derived.Deep.DrawnRows
namespace Go.Proofs.Ytbhaknoggbegiaa
open Go.RowKit
attribute [local go_sem ↓] Go.wp_at_zero Go.wp_at_succ
theorem plan_fit {v a k : Int} (h : May v a k) {j : Int} (h0 : 0 ≤ j) (h1 : j ≤ 64) : Fit (planOf v a k) j := by
  obtain ⟨h1, h2, h3, h4, h5, h6⟩ := h
  exact ⟨by show (0 : Int) ≤ a + 3 * v + 4; omega, by show a + 3 * v + 4 ≤ (50000 : Int); omega, room_pow v, h0, by assumption⟩
set_option maxHeartbeats 4000000 in
set_option maxRecDepth 100000 in
theorem walk3_yes (v a k w0 at_ : Int) (hw0 : 0 ≤ w0) (hw1 : w0 ≤ 255) (ha0 : 0 ≤ at_) (ha1 : at_ ≤ 4294967295) (hm : May v a k) (w : World) :
    Calls Try.prog 3 #[.int .i64 v, .int .i64 a, .int .i64 k, .int .u8 w0, .int .u32 at_] w fun e w' => e = .returned (.bool true) ∧ Kept [] w w' := by
  obtain ⟨l, hl⟩ : ∃ l, l = planOf v a k := ⟨_, rfl⟩
  have H29 : ∀ w, _ := fun w => c29_yes v a k w hm
  have H32 : ∀ w, _ := fun w => c32 v a k w hm
  rw [← hl] at H29 H32
  have hk0 : ¬ k = 0 := by have := hm.2.2.2.2.1; omega
  have hk1 : 1 ≤ k := hm.2.2.2.2.1
  have hk64 : k ≤ 64 := hm.2.2.2.2.2
  have hz : (k == 0) = false := by rw [beq_eq_false_iff_ne]; omega
  have j0 : 0 ≤ w0.tmod k := by rw [Int.tmod_eq_emod_of_nonneg hw0]; exact Int.emod_nonneg _ hk0
  have j1 : w0.tmod k ≤ 64 := by rw [Int.tmod_eq_emod_of_nonneg hw0]; have := Int.emod_lt_of_pos w0 (show 0 < k by omega); omega
  have e0 : IntKind.i64.wrap w0 = w0 := IntWalk.i64_in _ (by omega)
  have e1 : IntKind.i64.wrap (w0.tmod k) = w0.tmod k := IntWalk.i64_in _ (by omega)
  have hf : Fit l (w0.tmod k) := by rw [hl]; exact plan_fit hm j0 j1
  rw [Int.tmod_eq_emod_of_nonneg hw0] at hf
  have HF := hid hf
  have HA : Hid (at_ ≤ 9223372036854775807) := hid (by omega)
  have HM := hid hm
  have G29 := hid H29
  have G32 := hid H32
  clear hf hm H29 H32 hl
  go_enter Try.func3, Try.ntmps3
  go_wp2_with fail
  refine (G29.out _).mono ?_
  rintro e w1 ⟨rfl, hk1⟩
  go_wp2_with fail
  refine (c30_yes v a k _ HM.out).mono ?_
  rintro e w2 ⟨rfl, rfl⟩
  go_wp2_with fail
  go_region_with (go_at_call 12; refine (G32.out _).mono ?_; rintro e w3 ⟨rfl, rfl⟩)
  all_goals
    as_aux_lemma =>
      go_wp2_with fail
      refine wp_region_at (by as_aux_lemma => kernel_rfl) (by as_aux_lemma => kernel_rfl) (fun W hW => ?_)
      have hP : W.heap[w1.heap.size]? = some (.cells l.cells 24) := by
        rw [hW.out]
        simp only [heap_drew, heap_alloc_at, World.size_alloc]
        repeat (first | rw [if_pos trivial] | rw [if_pos (by omega)] | rw [if_neg (by omega)])
      have hcP := later_cells hP
      have hQ : W.heap[w1.heap.size + 1]? = some (.cells l.cells 24) := by
        rw [hW.out]
        simp only [heap_drew, heap_alloc_at, World.size_alloc]
        repeat (first | rw [if_pos trivial] | rw [if_pos (by omega)] | rw [if_neg (by omega)])
      have hcQ := later_cells hQ
      have hQ3 : W.heap[w1.heap.size + 1 + 1 + 1]? = some (.cells l.cells 24) := by
        rw [hW.out]
        simp only [heap_drew, heap_alloc_at, World.size_alloc]
        repeat (first | rw [if_pos trivial] | rw [if_pos (by omega)] | rw [if_neg (by omega)])
      have hcQ3 := later_cells hQ3
      clear hP hQ hQ3
      repeat (go_big_quiet_step (first | (go_at_call 13; exact later_of (c33 l _ _ HF.out)) | (go_at_call 14; exact later_of (c34 l _ _ HF.out)) | (go_at_call 15; exact later_of (c35 l _ _ HF.out)) | (go_at_call 16; exact later_of (c36 l _ _ HF.out)) | (go_at_call 17; exact later_of (c37 l _ _ _ HF.out ha0 HA.out)) | (go_at_call 18; exact later_of (c38 l _ _ _ HF.out ha0)) | (go_at_call 11; exact later_of (awake10 _))))
      refine wpQuiet_nil ?_
      rintro _ ⟨⟨w5, hk5⟩, rfl⟩
      go_wp2
      go_ret
      have k4 : Kept [] w1 W := by
        rw [hW.out]
        exact (((((Kept.refl _ _).alloc _).alloc _).alloc _).alloc _).drew
      exact ⟨by simp, (hk1.trans k4).trans hk5⟩
end Go.Proofs.Ytbhaknoggbegiaa
