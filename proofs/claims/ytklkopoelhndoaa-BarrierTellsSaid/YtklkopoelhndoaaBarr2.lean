/- Law 14's bank: a plan of some workers, its barrier ready. -/
import Derived.Test.YtklkopoelhndoaaBarr1
namespace Go.Proofs.Ytklkopoelhndoaa
open Go.RowKit
set_option linter.unusedVariables false
theorem plan21 (n : Int) : planOf 2 1 n = ⟨2, 1, n, 2, 0, 1, 3, 5, 7, 8, 9, 10, 11, 11 + n * 4⟩ := by simp [planOf, roomOf, rg]
@[reducible] def l21 (n : Int) : Lay := ⟨2, 1, n, 2, 0, 1, 3, 5, 7, 8, 9, 10, 11, 11 + n * 4⟩
/-- the bank at the begin -/
def rdy (l : Lay) : List Int := st (st (List.replicate l.size.toNat 0) l.count l.workers) l.sense 0
theorem rdy_length (l : Lay) : (rdy l).length = l.size.toNat := by simp [rdy, st_length]
def BankPost14 (l : Lay) (w : World) (e : Ending) (w' : World) : Prop :=
  ∃ B D, e = .returned (.tuple #[l.val, .pointer (some ⟨B, 0, none⟩), .bool true]) ∧ w.heap.size ≤ B ∧ w.heap.size ≤ D ∧ Kept [] w w' ∧ BankAt w' B D (rdy l)
set_option maxHeartbeats 2000000 in
set_option maxRecDepth 100000 in
theorem c97 (n : Int) (h0 : 1 ≤ n) (h1 : n ≤ 64) (w : World) : Calls Try.prog 50 #[.int .i64 n] w (BankPost14 (l21 n) w) := by
  have hm : May 2 1 n := ⟨by omega, by omega, by omega, by omega, by omega, by omega⟩
  obtain ⟨s0, s1⟩ := plan_size hm
  have G := hid (fun W => c29_yes 2 1 n W hm)
  have GN := hid (fun W => new_int (planOf 2 1 n).size s0 s1 W)
  rw [plan21] at G GN
  obtain ⟨l, hl⟩ : ∃ l : Lay, l21 n = l := ⟨_, rfl⟩
  rw [show (⟨2, 1, n, 2, 0, 1, 3, 5, 7, 8, 9, 10, 11, 11 + n * 4⟩ : Lay) = l from hl] at G GN
  rw [hl]
  clear hl hm s0 s1
  go_enter Try.func50, Try.ntmps50
  go_wp2_with fail
  refine (G.out _).mono ?_
  rintro e w1 ⟨rfl, hk1⟩
  have HK1 := hid hk1
  clear hk1
  go_wp2_with fail
  refine (GN.out _).mono ?_
  rintro e w2 ⟨B, D, rfl, hB, hD, hk2, hb2⟩
  have K0 : Kept [] w (w.alloc (.cells Lay.zero.cells 25)) := (Kept.refl _ _).alloc _
  have kx : Kept [] (w.alloc (.cells Lay.zero.cells 25)) w2 := (HK1.out.alloc _).trans hk2
  have h0 := kx.get (new_alloc w _) (by simp)
  have hs1 := HK1.out.size
  have hs2 := hk2.size
  simp only [World.size_alloc] at hs1 hs2 hB hD
  have hR := hk2.get (new_alloc w1 (.cells l.cells 25)) (by simp)
  have HK := hid (K0.trans kx)
  have HB := hid hb2
  have hcR := cells_of hR
  have HB2 : Hid (w.heap.size ≤ B ∧ w.heap.size ≤ D ∧ B ≠ w.heap.size ∧ D ≠ w.heap.size ∧ w1.heap.size ≠ D) := hid ⟨by omega, by omega, by omega, by omega, by omega⟩
  have H0 := hid h0
  have HRR := hid hR
  clear hk2 hb2 h0 hR K0 kx hB hD hs1 hs2
  go_wp2_with fail
  refine (c153 l B D _ _ HB.out).mono ?_
  rintro e w3 ⟨rfl, hk3, hb3⟩
  have h0 := hk3.get H0.out (by simpa using Ne.symm HB2.out.2.2.2.1)
  have hR := hk3.get HRR.out (by simpa using HB2.out.2.2.2.2)
  have HK := hid (HK.out.drop hk3 (fun x hx => .inr (by simp at hx; have := HB2.out.2.1; omega)))
  have HB : Hid (BankAt w3 B D (rdy l)) := hid hb3
  have H0 := hid h0
  clear hcR hk3 hb3
  have hcR := cells_of hR
  have hc0 := cells_of h0
  have hz0 := free_of h0
  clear h0 hR
  go_wp2_with fail
  show bodyPost Try.prog Try.f50 (BankPost14 l w) Exit.ret _ (putLay w3 w.heap.size l)
  have hcL := cells_of (putLay_heap H0.out l)
  clear hc0 hz0 hcR
  have kp := putLay_kept w3 w.heap.size l
  refine bodyPost_ret (v := .tuple #[l.val, .pointer (some ⟨B, 0, none⟩), .bool true]) ?_ rfl ⟨B, D, rfl, HB2.out.1, HB2.out.2.1, HK.out.drop kp (by simp), HB.out.keep kp (by simpa using HB2.out.2.2.1) (by simpa using HB2.out.2.2.2.1)⟩
  simp [results, Try.results50, go_sem, hcL]
end Go.Proofs.Ytklkopoelhndoaa
