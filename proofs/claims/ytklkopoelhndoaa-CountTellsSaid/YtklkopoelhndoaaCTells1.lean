/- CountTells returns true, whatever comes in. -/
import Derived.Test.YtklkopoelhndoaaCTells
namespace Go.Proofs.Ytklkopoelhndoaa
open Go.RowKit Go.ChangeShapes Go.WideShapes
set_option linter.unusedVariables false
set_option maxHeartbeats 4000000 in
set_option maxRecDepth 100000 in
theorem ctells_empty (a : Option Addr) (cap : Nat) (w : World) (ha : a = none ∧ cap = 0 ∨ ∃ x, a = some x ∧ cap ≤ maxLen) :
    Calls Try.prog 12 #[.slice a 0 cap] w fun e w' => e = .returned (.bool true) ∧ Kept [] w w' := by
  obtain ⟨i0, hi, hz0, hz1, hz2⟩ := info_parts info2
  have hmk : ∀ W : World, (Instr.makeSlice 76 (.int .i64 15) (.int .i64 15)).run Try.prog W = .ok (.slice (some ⟨W.heap.size, 0, none⟩) 15 15) (W.alloc (.cells (i64s (bk 0 0)) 2)) := by
    intro W
    have := run_make (P := Try.prog) W 76 2 i0 (.int .i64 0) Try.underlying76 hi hz0 .i64 .i64 15 15 (by omega) (by omega) (by rw [hz2]; omega) (by omega)
    rwa [hz1, show (15 : Int).toNat * 1 = 15 from rfl, madeCells_zero1, ← bk_zero] at this
  clear hi hz0 hz1 hz2
  rcases ha with ⟨rfl, rfl⟩ | ⟨y, rfl, hc⟩
  all_goals
    try unfold maxLen at hc
    go_enter Try.func12, Try.ntmps12
    go_wp2_with fail
    refine (c72 _).mono ?_
    rintro e w1 ⟨B, D, rfl, hB, hD, hk1, hb1⟩
    have HK1 := hid ((hk1.alloc (.cells l211.cells 25)).alloc (.cells (i64s (bk 0 0)) 2))
    clear hb1 hk1 hD hB
    go_wp2_with fail
    clear hmk
    go_loopw [29] (fun s wr => s = .int .i64 0 ∧ Kept [] w wr) (fun _ _ => 0)
    case atStart => exact ⟨rfl, HK1.out⟩
    case round =>
      obtain ⟨rfl, hk⟩ := hrel
      have HK := hid hk
      clear hk
      go_wp2_with fail
      refine (awake13 _).mono ?_
      rintro e w5 ⟨rfl, hk5⟩
      go_wp2_with fail
      go_ret
      exact ⟨rfl, HK.out.trans hk5⟩
theorem ctells_all {w : World} (a0 : Option Addr) (len cap : Nat) (f : Nat → Op13) (w0 : Ops13 w a0 len cap f) :
    Calls Try.prog 12 #[.slice a0 len cap] w fun e w' => e = .returned (.bool true) ∧ Below w.heap.size w w' := by
  suffices h : Calls Try.prog 12 #[.slice a0 len cap] w fun e w' => e = .returned (.bool true) ∧ Kept [] w w' from
    h.mono fun e w' ⟨h1, h2⟩ => ⟨h1, h2.below (Nat.le_refl _) (by simp)⟩
  rcases w0 with ⟨rfl, rfl, rfl⟩ | ⟨x, rfl, rfl, hc⟩ | ⟨b, off, rfl, _, hl, hc, hb', hf⟩
  · exact ctells_empty none 0 w (.inl ⟨rfl, rfl⟩)
  · exact ctells_empty (some x) cap w (.inr ⟨x, rfl, hc⟩)
  · exact ctells_main b off len cap f w hl hc hb' hf
end Go.Proofs.Ytklkopoelhndoaa
