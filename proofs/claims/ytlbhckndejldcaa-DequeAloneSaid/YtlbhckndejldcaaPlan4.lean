/- Plan refuses what may not be. -/
import Derived.Test.YtlbhckndejldcaaPlan3
namespace Go.Proofs.Ytlbhckndejldcaa
open Go.RowKit
def Lay.zero : Lay := ⟨0, 0, 0, 0, 0, 0, 0, 0, 0, 0, 0, 0, 0, 0⟩
set_option maxHeartbeats 4000000 in
set_option maxRecDepth 100000 in
theorem c29_no (v a k : Int) (w : World) (h : ¬ May v a k) : Calls Try.prog 44 #[.int .i64 v, .int .i64 a, .int .i64 k] w fun e w' => e = .returned (.tuple #[Lay.zero.val, .int .i64 2]) ∧ Kept [] w w' := by
  unfold May at h
  by_cases h1 : 0 ≤ v
  · by_cases h2 : v ≤ 4096
    · by_cases h3 : 0 ≤ a
      · by_cases h4 : a ≤ 32768
        · by_cases h5 : 1 ≤ k
          · have h6 : ¬ k ≤ 64 := by omega
            clear h
            go_enter Try.func44, Try.ntmps44
            go_wp2
            refine bodyPost_ret (v := .tuple #[Lay.zero.val, .int .i64 2]) ?_ rfl ⟨rfl, ?_⟩
            · simp [results, Try.results44, go_sem, Lay.zero]
            · exact (Kept.refl _ _).alloc _
          · clear h
            go_enter Try.func44, Try.ntmps44
            go_wp2
            refine bodyPost_ret (v := .tuple #[Lay.zero.val, .int .i64 2]) ?_ rfl ⟨rfl, ?_⟩
            · simp [results, Try.results44, go_sem, Lay.zero]
            · exact (Kept.refl _ _).alloc _
        · clear h
          go_enter Try.func44, Try.ntmps44
          go_wp2
          refine bodyPost_ret (v := .tuple #[Lay.zero.val, .int .i64 2]) ?_ rfl ⟨rfl, ?_⟩
          · simp [results, Try.results44, go_sem, Lay.zero]
          · exact (Kept.refl _ _).alloc _
      · clear h
        go_enter Try.func44, Try.ntmps44
        go_wp2
        refine bodyPost_ret (v := .tuple #[Lay.zero.val, .int .i64 2]) ?_ rfl ⟨rfl, ?_⟩
        · simp [results, Try.results44, go_sem, Lay.zero]
        · exact (Kept.refl _ _).alloc _
    · clear h
      go_enter Try.func44, Try.ntmps44
      go_wp2
      refine bodyPost_ret (v := .tuple #[Lay.zero.val, .int .i64 2]) ?_ rfl ⟨rfl, ?_⟩
      · simp [results, Try.results44, go_sem, Lay.zero]
      · exact (Kept.refl _ _).alloc _
  · clear h
    go_enter Try.func44, Try.ntmps44
    go_wp2
    refine bodyPost_ret (v := .tuple #[Lay.zero.val, .int .i64 2]) ?_ rfl ⟨rfl, ?_⟩
    · simp [results, Try.results44, go_sem, Lay.zero]
    · exact (Kept.refl _ _).alloc _
end Go.Proofs.Ytlbhckndejldcaa
