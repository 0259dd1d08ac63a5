/- DequeAlone returns true, whatever comes in: as the row asks it. -/
import Derived.Test.YtlbhckndejldcaaDqAlone
namespace Go.Proofs.Ytlbhckndejldcaa
open Go.RowKit Go.ChangeShapes Go.WideShapes
set_option linter.unusedVariables false
theorem dalone_all {w : World} (a0 : Int) (a1 : Option Addr) (len cap : Nat) (f : Nat → Op11) (w0 : (Lit.int .u8 a0).wf = true) (w1 : Ops11 w a1 len cap f) :
    Calls Try.prog 6 #[.int .u8 a0, .slice a1 len cap] w fun e w' => e = .returned (.bool true) ∧ Below w.heap.size w w' := by
  have hb := bounds_u8 w0
  exact (dalone_main a0 (by omega) (by omega) a1 len cap f w w1).mono fun e w' ⟨h1, h2⟩ => ⟨h1, h2.below (Nat.le_refl _) (by simp)⟩
end Go.Proofs.Ytlbhckndejldcaa
