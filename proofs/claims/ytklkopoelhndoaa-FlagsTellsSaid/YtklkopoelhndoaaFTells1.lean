/- FlagsTells returns true, whatever comes in. -/
import Derived.Test.YtklkopoelhndoaaFTells
namespace Go.Proofs.Ytklkopoelhndoaa
open Go.RowKit Go.ChangeShapes Go.WideShapes
set_option linter.unusedVariables false
set_option maxHeartbeats 4000000 in
set_option maxRecDepth 100000 in
theorem ftells_empty (x : Int) (hx0 : 0 ≤ x) (hx1 : x ≤ 255) (a : Option Addr) (cap : Nat) (w : World) (ha : a = none ∧ cap = 0 ∨ ∃ x, a = some x ∧ cap ≤ maxLen) :
    Calls Try.prog 10 #[.int .u8 x, .slice a 0 cap] w fun e w' => e = .returned (.bool true) ∧ Kept [] w w' := by
  obtain ⟨n, hn⟩ : ∃ n : Nat, 1 + x % 30 = (n : Int) := ⟨(1 + x % 30).toNat, by omega⟩
  have hn0 : 1 ≤ (n : Int) := by omega
  have hn1 : (n : Int) ≤ 30 := by omega
  have HL := hid (lay12 (n := n) (by omega) (by omega))
  have G := hid (c59 (n : Int) w (by omega) (by omega))
  obtain ⟨l, hl⟩ : ∃ l, planOf (n : Int) 3 2 = l := ⟨_, rfl⟩
  rw [hl] at HL G
  clear hl
  obtain ⟨i0, hi, hz0, hz1, hz2⟩ := info_parts info2
  have hmk : ∀ W : World, (Instr.makeSlice 76 (.int .i64 l.size) (.int .i64 l.size)).run Try.prog W = .ok (.slice (some ⟨W.heap.size, 0, none⟩) l.size.toNat l.size.toNat) (W.alloc (.cells (i64s (List.replicate l.size.toNat 0)) 2)) := by
    intro W
    have h0 := HL.out.s0
    have h1 := HL.out.s1
    have := run_make (P := Try.prog) W 76 2 i0 (.int .i64 0) Try.underlying76 hi hz0 .i64 .i64 l.size l.size h0 (by omega) (by rw [hz2]; omega) (by omega)
    rwa [hz1, Nat.mul_one, madeCells_zero1] at this
  clear hi hz0 hz1 hz2
  rcases ha with ⟨rfl, rfl⟩ | ⟨y, rfl, hc⟩
  all_goals
    try unfold maxLen at hc
    go_enter Try.func10, Try.ntmps10
    go_wp2_with fail
    refine G.out.mono ?_
    rintro e w1 ⟨B, D, rfl, hB, hD, hk1, hb1⟩
    have HK1 := hid ((hk1.alloc (.cells l.cells 25)).alloc (.cells (i64s (List.replicate l.size.toNat 0)) 2))
    clear hb1 hk1 hD hB
    go_wp2_with fail
    clear hmk
    go_loopw [37] (fun s wr => s = .int .i64 0 ∧ Kept [] w wr) (fun _ _ => 0)
    case atStart => exact ⟨rfl, HK1.out⟩
    case round =>
      obtain ⟨rfl, hk⟩ := hrel
      have HK := hid hk
      clear hk
      go_wp2_with fail
      refine (awake12 _).mono ?_
      rintro e w5 ⟨rfl, hk5⟩
      go_wp2_with fail
      go_ret
      exact ⟨rfl, HK.out.trans hk5⟩
theorem ftells_all {w : World} (a0 : Int) (a1 : Option Addr) (len cap : Nat) (f : Nat → Op12) (w0 : (Lit.int .u8 a0).wf = true) (w1 : Ops12 w a1 len cap f) :
    Calls Try.prog 10 #[.int .u8 a0, .slice a1 len cap] w fun e w' => e = .returned (.bool true) ∧ Below w.heap.size w w' := by
  suffices h : Calls Try.prog 10 #[.int .u8 a0, .slice a1 len cap] w fun e w' => e = .returned (.bool true) ∧ Kept [] w w' from
    h.mono fun e w' ⟨h1, h2⟩ => ⟨h1, h2.below (Nat.le_refl _) (by simp)⟩
  have hb := bounds_u8 w0
  rcases w1 with ⟨rfl, rfl, rfl⟩ | ⟨x, rfl, rfl, hc⟩ | ⟨b, off, rfl, _, hl, hc, hb', hf⟩
  · exact ftells_empty a0 (by omega) (by omega) none 0 w (.inl ⟨rfl, rfl⟩)
  · exact ftells_empty a0 (by omega) (by omega) (some x) cap w (.inr ⟨x, rfl, hc⟩)
  · exact ftells_main a0 (by omega) (by omega) b off len cap f w hl hc hb' hf
end Go.Proofs.Ytklkopoelhndoaa
