/- Plan of package cells, and the document's; which plans may be. -/
import Derived.Test.YtlbhckndejldcaaPlan
namespace Go.Proofs.Ytlbhckndejldcaa
open Go.RowKit
set_option maxHeartbeats 4000000 in
set_option maxRecDepth 100000 in
theorem c29_yes (v a k : Int) (w : World) (h : May v a k) : Calls Try.prog 44 #[.int .i64 v, .int .i64 a, .int .i64 k] w fun e w' => e = .returned (.tuple #[(planOf v a k).val, .int .i64 0]) ∧ Kept [] w w' := by
  obtain ⟨h1, h2, h3, h4, h5, h6⟩ := h
  have hr := (room_pow v).bd
  have hm := mul_bd (k := k) (r := roomOf v + 2) (by omega) h6 (by omega) (by omega)
  have hmf : ∀ (fn : Fn) (first cap : Array Value) (w : World), (Instr.makeFunc fn first cap).run Try.prog w = .ok (.func fn first cap) w := fun _ _ _ _ => rfl
  go_enter Try.func44, Try.ntmps44
  go_wp2_with (first | (go_at_call 82; refine (c114 v _ h2).mono ?_; rintro e w1 ⟨rfl, rfl⟩) | (go_at_call 83; go_in))
  refine bodyPost_ret (v := .tuple #[(planOf v a k).val, .int .i64 0]) ?_ rfl ⟨rfl, ?_⟩
  · simp [results, Try.results44, go_sem, planOf]
    try omega
  · exact ((Kept.refl _ _).alloc _).alloc _
end Go.Proofs.Ytlbhckndejldcaa
