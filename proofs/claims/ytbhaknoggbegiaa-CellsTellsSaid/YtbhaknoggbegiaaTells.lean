/- The walk of CellsTells. -/
import Derived.Test.YtbhaknoggbegiaaAwake10
import Derived.Test.YtbhaknoggbegiaaOps10
import Derived.Test.YtbhaknoggbegiaaBase2
namespace Go.Proofs.Ytbhaknoggbegiaa
open Go.RowKit
set_option linter.unusedVariables false
set_option maxHeartbeats 1000000 in
set_option maxRecDepth 100000 in
theorem tells_no (n : Int) (hn : n < 0 ∨ 524288 < n) (a : Option Addr) (len cap : Nat) (w : World) :
    Calls Try.prog 5 #[.int .i64 n, .slice a len cap] w fun e w' => e = .returned (.bool true) ∧ Kept [] w w' := by
  have H := hid hn
  have hc : (n < 0) ∨ (¬ n < 0 ∧ 524288 < n) := by omega
  clear hn
  rcases hc with h | ⟨h, h'⟩
  all_goals
    go_enter Try.func5, Try.ntmps5
    go_wp2_with fail
    refine (new_no n H.out _).mono ?_
    rintro e w1 ⟨rfl, rfl⟩
    go_wp2_with fail
    refine (awake10 _).mono ?_
    rintro e w1 ⟨rfl, hk1⟩
    go_wp2_with fail
    go_ret
    exact ⟨rfl, hk1⟩
set_option maxHeartbeats 1000000 in
set_option maxRecDepth 100000 in
theorem tells_big (n : Nat) (h1 : 40 < n) (h2 : n ≤ 524288) (a : Option Addr) (len cap : Nat) (w : World) :
    Calls Try.prog 5 #[.int .i64 n, .slice a len cap] w fun e w' => e = .returned (.bool true) ∧ Kept [] w w' := by
  have H := hid h2
  have h1' : (40 : Int) < (n : Int) := by omega
  have h2' : ¬ (524288 : Int) < (n : Int) := by omega
  have hne : ((n : Int) != (n : Int)) = false := by simp
  clear h1 h2
  go_enter Try.func5, Try.ntmps5
  go_wp2_with fail
  refine (new_ok n H.out _).mono ?_
  rintro e w1 ⟨B, D, rfl, hB, hD, hk1, hb1⟩
  have H40 := hid (c40 B D _ _ hb1)
  clear hb1 hB hD
  go_wp2_with fail
  refine H40.out.mono ?_
  rw [List.length_replicate]
  rintro e w2 ⟨rfl, rfl⟩
  go_wp2_with fail
  refine (awake10 _).mono ?_
  rintro e w2 ⟨rfl, hk2⟩
  go_wp2_with fail
  go_ret
  exact ⟨rfl, hk1.trans hk2⟩
end Go.Proofs.Ytbhaknoggbegiaa
