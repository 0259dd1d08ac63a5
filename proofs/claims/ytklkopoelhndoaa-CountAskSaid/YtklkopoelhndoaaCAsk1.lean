/- CountAsk returns true, whatever comes in. -/
import Derived.Test.YtklkopoelhndoaaCAsk
namespace Go.Proofs.Ytklkopoelhndoaa
open Go.RowKit Go.ChangeShapes Go.WideShapes
set_option linter.unusedVariables false
theorem cask_all {w : World} (a0 : Option Addr) (len0 cap0 : Nat) (f0 : Nat → Op13) (a1 : Option Addr) (len1 cap1 : Nat) (f1 : Nat → Op13) (w0 : Ops13 w a0 len0 cap0 f0) (w1 : Ops13 w a1 len1 cap1 f1) :
    Calls Try.prog 6 #[.slice a0 len0 cap0, .slice a1 len1 cap1] w fun e w' => e = .returned (.bool true) ∧ Below w.heap.size w w' :=
  (cask_main a0 len0 cap0 f0 a1 len1 cap1 f1 w (.of w0) (.of w1)).mono fun e w' ⟨h1, h2⟩ => ⟨h1, h2.below (Nat.le_refl _) (by simp)⟩
end Go.Proofs.Ytklkopoelhndoaa
