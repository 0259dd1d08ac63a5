/- A layout stored, number by number, into a block of its own; banks of a plan. -/
import Derived.Test.YtlbhckndejldcaaSmall
import Derived.Test.YtlbhckndejldcaaPlan4
namespace Go.Proofs.Ytlbhckndejldcaa
open Go.RowKit
set_option linter.unusedVariables false
@[reducible] def putLay (w : World) (P : Nat) (l : Lay) : World := ((((((((((((((w.setCell ⟨P, 0, none⟩ (.int .i64 l.verts)).setCell ⟨P, 1, none⟩ (.int .i64 l.arcs)).setCell ⟨P, 2, none⟩ (.int .i64 l.workers)).setCell ⟨P, 3, none⟩ (.int .i64 l.room)).setCell ⟨P, 4, none⟩ (.int .i64 l.res)).setCell ⟨P, 5, none⟩ (.int .i64 l.ex)).setCell ⟨P, 6, none⟩ (.int .i64 l.h)).setCell ⟨P, 7, none⟩ (.int .i64 l.flag)).setCell ⟨P, 8, none⟩ (.int .i64 l.pending)).setCell ⟨P, 9, none⟩ (.int .i64 l.ask)).setCell ⟨P, 10, none⟩ (.int .i64 l.count)).setCell ⟨P, 11, none⟩ (.int .i64 l.sense)).setCell ⟨P, 12, none⟩ (.int .i64 l.deques)).setCell ⟨P, 13, none⟩ (.int .i64 l.size))
theorem putLay_heap {w : World} {P : Nat} {t : TypeId} (h : w.heap[P]? = some (.cells Lay.zero.cells t (0, 0))) (l : Lay) : (putLay w P l).heap[P]? = some (.cells l.cells t (0, 0)) := by
  have := (set_of (set_of (set_of (set_of (set_of (set_of (set_of (set_of (set_of (set_of (set_of (set_of (set_of (set_of h 0 (.int .i64 l.verts)) 1 (.int .i64 l.arcs)) 2 (.int .i64 l.workers)) 3 (.int .i64 l.room)) 4 (.int .i64 l.res)) 5 (.int .i64 l.ex)) 6 (.int .i64 l.h)) 7 (.int .i64 l.flag)) 8 (.int .i64 l.pending)) 9 (.int .i64 l.ask)) 10 (.int .i64 l.count)) 11 (.int .i64 l.sense)) 12 (.int .i64 l.deques)) 13 (.int .i64 l.size))
  simpa [Lay.zero, Lay.cells] using this
theorem putLay_kept (w : World) (P : Nat) (l : Lay) : Kept [P] w (putLay w P l) := ((((((((((((((Kept.refl _ _).setCell (.inl (by simp)) _).setCell (.inl (by simp)) _).setCell (.inl (by simp)) _).setCell (.inl (by simp)) _).setCell (.inl (by simp)) _).setCell (.inl (by simp)) _).setCell (.inl (by simp)) _).setCell (.inl (by simp)) _).setCell (.inl (by simp)) _).setCell (.inl (by simp)) _).setCell (.inl (by simp)) _).setCell (.inl (by simp)) _).setCell (.inl (by simp)) _).setCell (.inl (by simp)) _
theorem new_int (n : Int) (h0 : 0 ≤ n) (h1 : n ≤ 524288) (w : World) : Calls Try.prog 45 #[.int .i64 n] w (NewPost n.toNat w) := by
  obtain ⟨N, rfl⟩ := Int.eq_ofNat_of_zero_le h0
  rw [Int.toNat_natCast]
  exact new_ok N (by omega) w
/-- a plan, its bank -/
def BankPost (l : Lay) (w : World) (e : Ending) (w' : World) : Prop :=
  ∃ B D, e = .returned (.tuple #[l.val, .pointer (some ⟨B, 0, none⟩), .bool true]) ∧ w.heap.size ≤ B ∧ w.heap.size ≤ D ∧ Kept [] w w' ∧ BankAt w' B D (List.replicate l.size.toNat 0)
theorem plan_size {v a k : Int} (h : May v a k) : 0 ≤ (planOf v a k).size ∧ (planOf v a k).size ≤ 524288 := by
  obtain ⟨h1, h2, h3, h4, h5, h6⟩ := h
  have hr := (room_pow v).bd
  have hm := mul_bd (k := k) (r := roomOf v + 2) (by omega) h6 (by omega) (by omega)
  show 0 ≤ a + 3 * v + 4 + k * (roomOf v + 2) ∧ a + 3 * v + 4 + k * (roomOf v + 2) ≤ 524288
  omega
end Go.Proofs.Ytlbhckndejldcaa
