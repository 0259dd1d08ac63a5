/- CellsOnce returns true, whatever comes in. -/
import Derived.Test.YtbhaknoggbegiaaOnce
import Derived.Test.YtbhaknoggbegiaaOpen10
namespace Go.Proofs.Ytbhaknoggbegiaa
open Go.RowKit Go.ChangeShapes Go.WideShapes
set_option linter.unusedVariables false
set_option maxHeartbeats 4000000 in
set_option maxRecDepth 100000 in
theorem once_empty (x : Int) (hx0 : 0 ≤ x) (hx1 : x ≤ 255) (a : Option Addr) (cap : Nat) (w : World) (ha : a = none ∧ cap = 0 ∨ ∃ x, a = some x ∧ cap ≤ maxLen) :
    Calls Try.prog 7 #[.int .u8 x, .slice a 0 cap] w fun e w' => e = .returned (.bool true) ∧ Kept [] w w' := by
  obtain ⟨n, hn⟩ : ∃ n : Nat, 1 + x % 20 = (n : Int) := ⟨(1 + x % 20).toNat, by omega⟩
  have hn0 : 1 ≤ (n : Int) := by omega
  have hn1 : (n : Int) ≤ 20 := by omega
  obtain ⟨i0, hi, hz0, hz1, hz2⟩ := info_parts info2
  have hmk : ∀ W : World, (Instr.makeSlice 42 (.int .i64 n) (.int .i64 n)).run Try.prog W = .ok (.slice (some ⟨W.heap.size, 0, none⟩) n n) (W.alloc (.cells (i64s (List.replicate n 0)) 2)) := by
    intro W
    have := run_make (P := Try.prog) W 42 2 i0 (.int .i64 0) Try.underlying42 hi hz0 .i64 .i64 n n (by omega) (by omega) (by rw [hz2]; omega) (by omega)
    rwa [hz1, Int.toNat_natCast, Nat.mul_one, madeCells_zero1] at this
  clear hi hz0 hz1 hz2
  rcases ha with ⟨rfl, rfl⟩ | ⟨y, rfl, hc⟩
  all_goals
    try unfold maxLen at hc
    go_enter Try.func7, Try.ntmps7
    go_wp2_with fail
    refine (new_ok n (by omega) _).mono ?_
    rintro e w1 ⟨B, D, rfl, hB, hD, hk1, hb1⟩
    clear hb1
    go_wp2_with fail
    have HK0 := hid (hk1.alloc (.cells (i64s (List.replicate n 0)) 2))
    clear hmk hk1
    go_loopw [34] (fun s wr => s = .int .i64 0 ∧ Kept [] w wr) (fun _ _ => 0)
    case atStart => exact ⟨rfl, HK0.out⟩
    case round =>
      obtain ⟨rfl, hk⟩ := hrel
      have HK := hid hk
      clear hk
      go_wp2_with fail
      refine (awake10 _).mono ?_
      rintro e w5 ⟨rfl, hk5⟩
      go_wp2_with fail
      go_ret
      exact ⟨rfl, HK.out.trans hk5⟩
theorem once_all {w : World} (a0 : Int) (a1 : Option Addr) (len cap : Nat) (f : Nat → Op10) (w0 : (Lit.int .u8 a0).wf = true) (w1 : Ops10 w a1 len cap f) :
    Calls Try.prog 7 #[.int .u8 a0, .slice a1 len cap] w fun e w' => e = .returned (.bool true) ∧ Below w.heap.size w w' := by
  suffices h : Calls Try.prog 7 #[.int .u8 a0, .slice a1 len cap] w fun e w' => e = .returned (.bool true) ∧ Kept [] w w' from
    h.mono fun e w' ⟨h1, h2⟩ => ⟨h1, h2.below (Nat.le_refl _) (by simp)⟩
  have hb := bounds_u8 w0
  rcases w1 with ⟨rfl, rfl, rfl⟩ | ⟨x, rfl, rfl, hc⟩ | ⟨b, off, rfl, _, hl, hc, hb', hf⟩
  · exact once_empty a0 (by omega) (by omega) none 0 w (.inl ⟨rfl, rfl⟩)
  · exact once_empty a0 (by omega) (by omega) (some x) cap w (.inr ⟨x, rfl, hc⟩)
  · exact once_main a0 (by omega) (by omega) b off len cap f w hl hc hb' hf
end Go.Proofs.Ytbhaknoggbegiaa
