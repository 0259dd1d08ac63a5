/- CountPending, the row of none too. -/
import Derived.Test.YtklkopoelhndoaaCPend
namespace Go.Proofs.Ytklkopoelhndoaa
open Go.RowKit Go.ChangeShapes Go.WideShapes
set_option linter.unusedVariables false
theorem openU8 {H : Type} {enc : TypeId × Value → H} {W : World} {a : Option Addr} {len cap : Nat} {d : DataW H} {p : List MemPlace}
    (h : DataW.Trod enc Try.prog W 0 (fun _ => true) true 23 (.slice a len cap) d p) : ∃ f, Ints .u8 W a len cap f := openInts Try.underlying23 Try.underlying5 (by kernel_rfl) h
set_option maxHeartbeats 4000000 in
set_option maxRecDepth 100000 in
theorem cpend_empty (a : Option Addr) (cap : Nat) (w : World) (hc : cap ≤ maxLen) (ha : a = none → cap = 0) :
    Calls Try.prog 5 #[.slice a 0 cap] w fun e w' => e = .returned (.bool true) ∧ Kept [] w w' := by
  unfold maxLen at hc
  rcases a with _ | x
  · obtain rfl : cap = 0 := ha rfl
    clear hc ha
    go_enter Try.func5, Try.ntmps5
    go_wp2_with fail
    refine (c72 _).mono ?_
    rintro e w1 ⟨B, D, rfl, hB, hD, hk1, hb1⟩
    have HK1 := hid (hk1.alloc (.cells l211.cells 25))
    clear hb1 hk1 hD hB
    go_wp2_with fail
    go_loopw [24] (fun s wr => s = .int .i64 0 ∧ Kept [] w wr) (fun _ _ => 0)
    case atStart => exact ⟨rfl, HK1.out⟩
    case round =>
      obtain ⟨rfl, hk⟩ := hrel
      have HK := hid hk
      clear hk
      go_wp2_with fail
      refine (awake13 _).mono ?_
      rintro e w5 ⟨rfl, hk5⟩
      go_wp2_with fail
      go_ret
      exact ⟨rfl, HK.out.trans hk5⟩
  · clear ha
    go_enter Try.func5, Try.ntmps5
    go_wp2_with fail
    refine (c72 _).mono ?_
    rintro e w1 ⟨B, D, rfl, hB, hD, hk1, hb1⟩
    have HK1 := hid (hk1.alloc (.cells l211.cells 25))
    clear hb1 hk1 hD hB
    go_wp2_with fail
    go_loopw [24] (fun s wr => s = .int .i64 0 ∧ Kept [] w wr) (fun _ _ => 0)
    case atStart => exact ⟨rfl, HK1.out⟩
    case round =>
      obtain ⟨rfl, hk⟩ := hrel
      have HK := hid hk
      clear hk
      go_wp2_with fail
      refine (awake13 _).mono ?_
      rintro e w5 ⟨rfl, hk5⟩
      go_wp2_with fail
      go_ret
      exact ⟨rfl, HK.out.trans hk5⟩
theorem cpend_all {w : World} (a0 : Option Addr) (len cap : Nat) (f : Nat → Int) (w0 : Ints .u8 w a0 len cap f) :
    Calls Try.prog 5 #[.slice a0 len cap] w fun e w' => e = .returned (.bool true) ∧ Below w.heap.size w w' := by
  suffices h : Calls Try.prog 5 #[.slice a0 len cap] w fun e w' => e = .returned (.bool true) ∧ Kept [] w w' from
    h.mono fun e w' ⟨h1, h2⟩ => ⟨h1, h2.below (Nat.le_refl _) (by simp)⟩
  obtain ⟨hl, hc, hn, hf⟩ := w0
  by_cases h0 : len = 0
  · subst h0
    exact cpend_empty a0 cap w hc (fun h => (hn h).2)
  · obtain ⟨_, b, off, rfl, hb, _⟩ := hf 0 (by omega)
    refine cpend_main b off len cap f w hl hc hb (fun k hk => ?_)
    obtain ⟨hw, b', off', he, hb', hcell⟩ := hf k hk
    cases he
    have := bounds_u8 hw
    exact ⟨by omega, hcell⟩
end Go.Proofs.Ytklkopoelhndoaa
