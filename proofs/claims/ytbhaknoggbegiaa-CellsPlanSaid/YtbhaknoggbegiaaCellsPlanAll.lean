/- The walk of CellsPlan, all inputs. -/
import Derived.Test.YtbhaknoggbegiaaCellsPlanWalk
import Derived.OpenShut
namespace Go.Proofs.Ytbhaknoggbegiaa
open Go.RowKit
set_option maxHeartbeats 4000000 in
set_option maxRecDepth 100000 in
theorem plan_no (v a k w0 at_ : Int) (hm : ¬ May v a k) (w : World) :
    Calls Try.prog 3 #[.int .i64 v, .int .i64 a, .int .i64 k, .int .u8 w0, .int .u32 at_] w fun e w' => e = .returned (.bool true) ∧ Kept [] w w' := by
  have HM := hid hm
  clear hm
  go_enter Try.func3, Try.ntmps3
  go_wp2_with fail
  refine (c29_no v a k _ HM.out).mono ?_
  rintro e w1 ⟨rfl, hk1⟩
  go_wp2_with fail
  refine (c30_no v a k _ HM.out).mono ?_
  rintro e w2 ⟨rfl, rfl⟩
  go_wp2_with fail
  refine (awake10 _).mono ?_
  rintro e w2 ⟨rfl, hk2⟩
  go_wp2_with fail
  go_ret
  exact ⟨rfl, (hk1.alloc _).trans hk2⟩
theorem plan_all (a0 : Int) (a1 : Int) (a2 : Int) (a3 : Int) (a4 : Int) (_ : (Lit.int .i64 a0).wf = true) (_ : (Lit.int .i64 a1).wf = true) (_ : (Lit.int .i64 a2).wf = true) (w3 : (Lit.int .u8 a3).wf = true) (w4 : (Lit.int .u32 a4).wf = true) (w : World) :
    Calls Try.prog 3 #[.int .i64 a0, .int .i64 a1, .int .i64 a2, .int .u8 a3, .int .u32 a4] w fun e w' => e = .returned (.bool true) ∧ Below w.heap.size w w' := by
  have b3 := bounds_u8 w3
  have b4 := bounds_u32 w4
  by_cases hm : May a0 a1 a2
  · exact (walk3_yes a0 a1 a2 a3 a4 b3.1 (by omega) b4.1 (by omega) hm w).mono fun e w' ⟨h1, h2⟩ => ⟨h1, h2.below (Nat.le_refl _) (by simp)⟩
  · exact (plan_no a0 a1 a2 a3 a4 hm w).mono fun e w' ⟨h1, h2⟩ => ⟨h1, h2.below (Nat.le_refl _) (by simp)⟩

end Go.Proofs.Ytbhaknoggbegiaa
