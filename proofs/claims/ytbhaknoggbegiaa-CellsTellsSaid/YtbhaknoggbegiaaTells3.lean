/- CellsTells returns true, whatever comes in. -/
import Derived.Test.YtbhaknoggbegiaaTells2
import Derived.Test.YtbhaknoggbegiaaOpen10
namespace Go.Proofs.Ytbhaknoggbegiaa
open Go.RowKit
set_option linter.unusedVariables false
set_option maxHeartbeats 4000000 in
set_option maxRecDepth 100000 in
theorem tells_empty (n : Nat) (hn : n ≤ 40) (a : Option Addr) (cap : Nat) (w : World) (ha : a = none ∧ cap = 0 ∨ ∃ x, a = some x ∧ cap ≤ maxLen) :
    Calls Try.prog 5 #[.int .i64 n, .slice a 0 cap] w fun e w' => e = .returned (.bool true) ∧ Kept [] w w' := by
  have h40 : ¬ (40 : Int) < (n : Int) := by omega
  have h2' : ¬ (524288 : Int) < (n : Int) := by omega
  have hne : ((n : Int) != (n : Int)) = false := by simp
  have HN : Hid (n ≤ 40) := hid hn
  obtain ⟨i0, hi, hz0, hz1, hz2⟩ := info_parts info2
  have hmk : ∀ W : World, (Instr.makeSlice 43 (.int .i64 n) (.int .i64 n)).run Try.prog W = .ok (.slice (some ⟨W.heap.size, 0, none⟩) n n) (W.alloc (.cells (i64s (List.replicate n 0)) 2)) := by
    intro W
    have := run_make (P := Try.prog) W 43 2 i0 (.int .i64 0) Try.underlying43 hi hz0 .i64 .i64 n n (by omega) (by omega) (by rw [hz2]; omega) (by omega)
    rwa [hz1, Int.toNat_natCast, Nat.mul_one, madeCells_zero1] at this
  clear hi hz0 hz1 hz2 hn
  rcases ha with ⟨rfl, rfl⟩ | ⟨x, rfl, hc⟩
  all_goals
    try unfold maxLen at hc
    go_enter Try.func5, Try.ntmps5
    go_wp2_with fail
    refine (new_ok n (by have := HN.out; omega) _).mono ?_
    rintro e w1 ⟨B, D, rfl, hB, hD, hk1, hb1⟩
    have H40 := hid (c40 B D _ _ hb1)
    clear hb1
    go_wp2_with fail
    refine H40.out.mono ?_
    rw [List.length_replicate]
    rintro e w2 ⟨rfl, rfl⟩
    go_wp2_with fail
    have HK0 := hid (hk1.alloc (.cells (i64s (List.replicate n 0)) 2))
    clear hmk hk1 H40
    go_loopw [54] (fun s wr => s = .int .i64 0 ∧ Kept [] w wr) (fun _ _ => 0)
    case atStart => exact ⟨rfl, HK0.out⟩
    case round =>
      obtain ⟨rfl, hk⟩ := hrel
      have HK := hid hk
      clear hk
      go_wp2_with fail
      refine (awake10 _).mono ?_
      rintro e w5 ⟨rfl, hk5⟩
      go_wp2_with fail
      go_ret
      exact ⟨rfl, HK.out.trans hk5⟩
theorem tells_all {w : World} (a0 : Int) (a1 : Option Addr) (len cap : Nat) (f : Nat → Op10) (w0 : (Lit.int .i64 a0).wf = true) (w1 : Ops10 w a1 len cap f) :
    Calls Try.prog 5 #[.int .i64 a0, .slice a1 len cap] w fun e w' => e = .returned (.bool true) ∧ Below w.heap.size w w' := by
  suffices h : Calls Try.prog 5 #[.int .i64 a0, .slice a1 len cap] w fun e w' => e = .returned (.bool true) ∧ Kept [] w w' from
    h.mono fun e w' ⟨h1, h2⟩ => ⟨h1, h2.below (Nat.le_refl _) (by simp)⟩
  by_cases h : a0 < 0 ∨ 524288 < a0
  · exact tells_no a0 h a1 len cap w
  · obtain ⟨n, rfl⟩ : ∃ n : Nat, a0 = n := ⟨a0.toNat, by omega⟩
    by_cases h2 : 40 < n
    · exact tells_big n h2 (by omega) a1 len cap w
    · rcases w1 with ⟨rfl, rfl, rfl⟩ | ⟨x, rfl, rfl, hc⟩ | ⟨b, off, rfl, _, hl, hc, hb, hf⟩
      · exact tells_empty n (by omega) none 0 w (.inl ⟨rfl, rfl⟩)
      · exact tells_empty n (by omega) (some x) cap w (.inr ⟨x, rfl, hc⟩)
      · exact tells_main n (by omega) b off len cap f w hl hc hb hf
end Go.Proofs.Ytbhaknoggbegiaa
