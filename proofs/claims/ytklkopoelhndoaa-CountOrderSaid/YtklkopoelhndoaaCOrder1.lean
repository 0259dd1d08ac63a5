/- CountOrder returns true, whatever comes in. -/
import Derived.Test.YtklkopoelhndoaaCOrder
namespace Go.Proofs.Ytklkopoelhndoaa
open Go.RowKit Go.ChangeShapes Go.WideShapes
set_option linter.unusedVariables false
theorem openB63 {H : Type} {enc : TypeId × Value → H} {W : World} {a : Option Addr} {len cap : Nat} {d : DataW H} {p : List MemPlace}
    (h : DataW.Trod enc Try.prog W 0 (fun _ => true) true 63 (.slice a len cap) d p) : ∃ f, Bools W a len cap f := openBools Try.underlying63 Try.underlying4 (by kernel_rfl) h
theorem corder_all {w : World} (a0 : Int) (a1 : Option Addr) (len cap : Nat) (f : Nat → Bool) (w0 : (Lit.int .u8 a0).wf = true) (w1 : Bools w a1 len cap f) :
    Calls Try.prog 7 #[.int .u8 a0, .slice a1 len cap] w fun e w' => e = .returned (.bool true) ∧ Below w.heap.size w w' := by
  have hb := bounds_u8 w0
  exact (corder_main a0 (by omega) (by omega) a1 len cap f w w1).mono fun e w' ⟨h1, h2⟩ => ⟨h1, h2.below (Nat.le_refl _) (by simp)⟩
end Go.Proofs.Ytklkopoelhndoaa
