/- CellsApart returns true, whatever comes in. -/
import Derived.Test.YtbhaknoggbegiaaApart
import Derived.Test.YtbhaknoggbegiaaInts
namespace Go.Proofs.Ytbhaknoggbegiaa
open Go.RowKit Go.ChangeShapes Go.WideShapes
theorem apart_all {w : World} (a0 a1 a2 : Int) (w0 : (Lit.int .u8 a0).wf = true) (w1 : (Lit.int .u8 a1).wf = true) (w2 : (Lit.int .u8 a2).wf = true) :
    Calls Try.prog 4 #[.int .u8 a0, .int .u8 a1, .int .u8 a2] w fun e w' => e = .returned (.bool true) ∧ Below w.heap.size w w' := by
  have h0 := bounds_u8 w0
  have h1 := bounds_u8 w1
  have h2 := bounds_u8 w2
  exact (apart_main a0 a1 a2 (by omega) (by omega) (by omega) (by omega) (by omega) (by omega) w).mono fun e w' ⟨h1, h2⟩ => ⟨h1, h2.below (Nat.le_refl _) (by simp)⟩
end Go.Proofs.Ytbhaknoggbegiaa
