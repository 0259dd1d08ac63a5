/- Claims from the law's side, banks of a plan, and who is held. -/
import Derived.Test.YtklkopoelhndoaaFlags
import Derived.Test.YtklkopoelhndoaaLayPut
namespace Go.Proofs.Ytklkopoelhndoaa
open Go.RowKit
set_option linter.unusedVariables false
set_option maxHeartbeats 1000000 in
set_option maxRecDepth 100000 in
theorem c59 (n : Int) (w : World) (h0 : 0 ≤ n) (h1 : n ≤ 4096) : Calls Try.prog 15 #[.int .i64 n] w (BankPost (planOf n 3 2) w) := by
  have hm : May n 3 2 := ⟨h0, h1, by omega, by omega, by omega, by omega⟩
  obtain ⟨s0, s1⟩ := plan_size hm
  have G := hid (fun W => c29_yes n 3 2 W hm)
  have GN := hid (fun W => new_int (planOf n 3 2).size s0 s1 W)
  obtain ⟨l, hl⟩ : ∃ l, planOf n 3 2 = l := ⟨_, rfl⟩
  rw [hl] at G GN ⊢
  clear hl hm s0 s1
  go_enter Try.func15, Try.ntmps15
  go_wp2_with fail
  refine (G.out _).mono ?_
  rintro e w1 ⟨rfl, hk1⟩
  have HK1 := hid hk1
  clear hk1
  go_wp2_with fail
  refine (GN.out _).mono ?_
  rintro e w2 ⟨B, D, rfl, hB, hD, hk2, hb2⟩
  have K0 : Kept [] w (w.alloc (.cells Lay.zero.cells 25)) := (Kept.refl _ _).alloc _
  have kx : Kept [] (w.alloc (.cells Lay.zero.cells 25)) w2 := (HK1.out.alloc _).trans hk2
  have h0 := kx.get (new_alloc w _) (by simp)
  have hs1 := HK1.out.size
  have hs2 := hk2.size
  simp only [World.size_alloc] at hs1 hs2 hB hD
  have hR := hk2.get (new_alloc w1 (.cells l.cells 25)) (by simp)
  have HK := hid (K0.trans kx)
  have HB := hid hb2
  have hc0 := cells_of h0
  have hz0 := free_of h0
  have hcR := cells_of hR
  have HB2 : Hid (w.heap.size ≤ B ∧ w.heap.size ≤ D ∧ B ≠ w.heap.size ∧ D ≠ w.heap.size) := hid ⟨by omega, by omega, by omega, by omega⟩
  have H0 := hid h0
  clear hk2 hb2 h0 hR K0 kx hB hD hs1 hs2
  go_wp2_with fail
  show bodyPost Try.prog Try.f15 (BankPost l w) Exit.ret _ (putLay w2 w.heap.size l)
  have hcL := cells_of (putLay_heap H0.out l)
  clear hc0 hz0 hcR
  have kp := putLay_kept w2 w.heap.size l
  refine bodyPost_ret (v := .tuple #[l.val, .pointer (some ⟨B, 0, none⟩), .bool true]) ?_ rfl ⟨B, D, rfl, HB2.out.1, HB2.out.2.1, HK.out.drop kp (by simp), HB.out.keep kp (by simpa using HB2.out.2.2.1) (by simpa using HB2.out.2.2.2)⟩
  simp [results, Try.results15, go_sem, hcL]
end Go.Proofs.Ytklkopoelhndoaa
