/- Plan of package cells, and the document's; which plans may be. -/
import Derived.Test.YtbhaknoggbegiaaPlan
namespace Go.Proofs.Ytbhaknoggbegiaa
open Go.RowKit
set_option maxHeartbeats 1000000 in
set_option maxRecDepth 100000 in
theorem c30_yes (v a k : Int) (w : World) (h : May v a k) : Calls Try.prog 10 #[.int .i64 v, .int .i64 a, .int .i64 k] w fun e w' => e = .returned (.bool true) ∧ w = w' := by
  obtain ⟨h1, h2, h3, h4, h5, h6⟩ := h
  go_enter Try.func10, Try.ntmps10
  go_wp2
  go_ret
  exact ⟨rfl, rfl⟩
set_option maxHeartbeats 1000000 in
set_option maxRecDepth 100000 in
theorem c30_no (v a k : Int) (w : World) (h : ¬ May v a k) : Calls Try.prog 10 #[.int .i64 v, .int .i64 a, .int .i64 k] w fun e w' => e = .returned (.bool false) ∧ w = w' := by
  unfold May at h
  by_cases h1 : 0 ≤ v
  · by_cases h2 : v ≤ 4096
    · by_cases h3 : 0 ≤ a
      · by_cases h4 : a ≤ 32768
        · by_cases h5 : 1 ≤ k
          · have h6 : ¬ k ≤ 64 := by omega
            clear h
            go_enter Try.func10, Try.ntmps10
            go_wp2
            go_ret
            exact ⟨rfl, rfl⟩
          · clear h
            go_enter Try.func10, Try.ntmps10
            go_wp2
            go_ret
            exact ⟨rfl, rfl⟩
        · clear h
          go_enter Try.func10, Try.ntmps10
          go_wp2
          go_ret
          exact ⟨rfl, rfl⟩
      · clear h
        go_enter Try.func10, Try.ntmps10
        go_wp2
        go_ret
        exact ⟨rfl, rfl⟩
    · clear h
      go_enter Try.func10, Try.ntmps10
      go_wp2
      go_ret
      exact ⟨rfl, rfl⟩
  · clear h
    go_enter Try.func10, Try.ntmps10
    go_wp2
    go_ret
    exact ⟨rfl, rfl⟩
set_option maxHeartbeats 1000000 in
set_option maxRecDepth 100000 in
theorem c32 (v a k : Int) (w : World) (h : May v a k) : Calls Try.prog 12 #[.int .i64 v, .int .i64 a, .int .i64 k] w fun e w' => e = .returned (planOf v a k).val ∧ (w.alloc (.cells (planOf v a k).cells 24)).alloc (.cells (planOf v a k).cells 24) = w' := by
  obtain ⟨h1, h2, h3, h4, h5, h6⟩ := h
  have hr := (room_pow v).bd
  have hm := mul_bd (k := k) (r := roomOf v + 2) (by omega) h6 (by omega) (by omega)
  go_enter Try.func12, Try.ntmps12
  go_wp2
  go_loop [7] (fun t => ∃ (n : Int) (j : Nat), t = .int .i64 n ∧ Doubled v n j ∧ 1 ≤ n ∧ n ≤ 4096) (fun t => 4096 - (intOf t).toNat)
  case atStart => exact ⟨1, 0, rfl, Doubled.start v, by omega, by omega⟩
  case round =>
    obtain ⟨n, j, rfl, hd, h1, h2⟩ := hrel
    have HD := hid hd
    by_cases hlt : n < v
    · obtain ⟨hj, hd'⟩ := hd.next (by omega) hlt
      have HD' := hid hd'
      clear hd hd'
      go_wp2
      go_round
      case rel => exact ⟨n * 2, j + 1, rfl, HD'.out, HD'.out.bd.1, HD'.out.bd.2⟩
      case measure => simp [intOf]; omega
    · obtain rfl := hd.stop hlt
      clear hd
      go_wp2
      refine bodyPost_ret (v := (planOf v a k).val) ?_ rfl ⟨rfl, ?_⟩
      · simp [results, Try.results12, go_sem, planOf]
      · simp [planOf, Lay.cells]
set_option maxHeartbeats 4000000 in
set_option maxRecDepth 100000 in
theorem c29_yes (v a k : Int) (w : World) (h : May v a k) : Calls Try.prog 9 #[.int .i64 v, .int .i64 a, .int .i64 k] w fun e w' => e = .returned (.tuple #[(planOf v a k).val, .int .i64 0]) ∧ Kept [] w w' := by
  obtain ⟨h1, h2, h3, h4, h5, h6⟩ := h
  have hr := (room_pow v).bd
  have hm := mul_bd (k := k) (r := roomOf v + 2) (by omega) h6 (by omega) (by omega)
  have hmf : ∀ (fn : Fn) (first cap : Array Value) (w : World), (Instr.makeFunc fn first cap).run Try.prog w = .ok (.func fn first cap) w := fun _ _ _ _ => rfl
  go_enter Try.func9, Try.ntmps9
  go_wp2_with (first | (go_at_call 29; refine (c114 v _ h2).mono ?_; rintro e w1 ⟨rfl, rfl⟩) | (go_at_call 30; go_in))
  refine bodyPost_ret (v := .tuple #[(planOf v a k).val, .int .i64 0]) ?_ rfl ⟨rfl, ?_⟩
  · simp [results, Try.results9, go_sem, planOf]
    try omega
  · exact ((Kept.refl _ _).alloc _).alloc _
end Go.Proofs.Ytbhaknoggbegiaa
