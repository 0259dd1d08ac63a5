/- Law 11's bank: a plan of some vertices and workers, all cells 0; a machine by itself. -/
import Derived.Test.YtlbhckndejldcaaHeld
namespace Go.Proofs.Ytlbhckndejldcaa
open Go.RowKit
set_option linter.unusedVariables false
def BankPost11 (l : Lay) (w : World) (e : Ending) (w' : World) : Prop :=
  ∃ B D, e = .returned (.tuple #[l.val, .pointer (some ⟨B, 0, none⟩), .bool true]) ∧ w.heap.size ≤ B ∧ w.heap.size ≤ D ∧ Kept [] w w' ∧ BankAt w' B D (List.replicate l.size.toNat 0)
set_option maxHeartbeats 2000000 in
set_option maxRecDepth 100000 in
theorem d103 (v k : Int) (l : Lay) (hl : planOf v 0 k = l) (hm : May v 0 k) (w : World) : Calls Try.prog 29 #[.int .i64 v, .int .i64 k] w (BankPost11 l w) := by
  obtain ⟨s0, s1⟩ := plan_size hm
  have G := hid (fun W => c29_yes v 0 k W hm)
  have GN := hid (fun W => new_int (planOf v 0 k).size s0 s1 W)
  rw [hl] at G GN
  clear hl hm s0 s1
  go_enter Try.func29, Try.ntmps29
  go_wp2_with fail
  refine (G.out _).mono ?_
  rintro e w1 ⟨rfl, hk1⟩
  have HK1 := hid hk1
  clear hk1
  go_wp2_with fail
  refine (GN.out _).mono ?_
  rintro e w2 ⟨B, D, rfl, hB, hD, hk2, hb2⟩
  have K0 : Kept [] w (w.alloc (.cells Lay.zero.cells 31)) := (Kept.refl _ _).alloc _
  have kx : Kept [] (w.alloc (.cells Lay.zero.cells 31)) w2 := (HK1.out.alloc _).trans hk2
  have h0 := kx.get (new_alloc w _) (by simp)
  have hs1 := HK1.out.size
  have hs2 := hk2.size
  simp only [World.size_alloc] at hs1 hs2 hB hD
  have hR := hk2.get (new_alloc w1 (.cells l.cells 31)) (by simp)
  have HK := hid (K0.trans kx)
  have HB := hid hb2
  have hcR := cells_of hR
  have HB2 : Hid (w.heap.size ≤ B ∧ w.heap.size ≤ D ∧ B ≠ w.heap.size ∧ D ≠ w.heap.size ∧ w1.heap.size ≠ D) := hid ⟨by omega, by omega, by omega, by omega, by omega⟩
  have H0 := hid h0
  have hc0 := cells_of h0
  have hz0 := free_of h0
  clear hk2 hb2 h0 hR K0 kx hB hD hs1 hs2
  go_wp2_with fail
  show bodyPost Try.prog Try.f29 (BankPost11 l w) Exit.ret _ (putLay w2 w.heap.size l)
  have hcL := cells_of (putLay_heap H0.out l)
  clear hc0 hz0 hcR
  have kp := putLay_kept w2 w.heap.size l
  refine bodyPost_ret (v := .tuple #[l.val, .pointer (some ⟨B, 0, none⟩), .bool true]) ?_ rfl ⟨B, D, rfl, HB2.out.1, HB2.out.2.1, HK.out.drop kp (by simp), HB.out.keep kp (by simpa using HB2.out.2.2.1) (by simpa using HB2.out.2.2.2.1)⟩
  simp [results, Try.results29, go_sem, hcL]
end Go.Proofs.Ytlbhckndejldcaa
