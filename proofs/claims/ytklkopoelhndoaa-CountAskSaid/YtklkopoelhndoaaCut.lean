/- l[:L] of a slice that came in, nil or not. -/
import Derived.Test.YtklkopoelhndoaaBase
import Derived.Test.YtklkopoelhndoaaChecked
namespace Go.Proofs.Ytklkopoelhndoaa
open Go.RowKit
set_option linter.unusedVariables false
theorem run_cut {t e : TypeId} (ht : Try.prog.underlying t = some (.slice e)) {n : Nat} (hs : ∀ w : World, (sizeOf e).run Try.prog w = .ok n w) (a : Option Addr) (len cap L : Nat) (h1 : L ≤ cap) (hn : a = none → cap = 0) (w : World) :
    (Instr.slice t (.slice a len cap) none (some (.int .i64 (L : Int))) none).run Try.prog w = .ok (.slice a L cap) w := by
  cases a with
  | some x => 
    simp [Instr.slice, Instr.sliceBounds, Instr.sliceBound, asIntOf, run_underlying ht, h1, hs, go_sem]
  | none =>
    obtain rfl := hn rfl
    obtain rfl : L = 0 := by omega
    simp [Instr.slice, Instr.sliceBounds, Instr.sliceBound, asIntOf, run_underlying ht, hs, go_sem]
theorem size116 (w : World) : (sizeOf 56).run Try.prog w = .ok 3 w := by kernel_rfl
theorem size5 (w : World) : (sizeOf 5).run Try.prog w = .ok 1 w := by kernel_rfl
end Go.Proofs.Ytklkopoelhndoaa
