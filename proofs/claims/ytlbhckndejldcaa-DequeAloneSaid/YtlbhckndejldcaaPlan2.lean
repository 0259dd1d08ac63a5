/- Slot and Plan of package cells, and the document's. -/
import Derived.Test.YtlbhckndejldcaaPlan
import Derived.Deep.RegionWith
namespace Go.Proofs.Ytlbhckndejldcaa
open Go.RowKit
theorem slot_bd {l : Lay} {k : Int} (h : Fit l k) (a : Int) : 0 ≤ a % l.room ∧ a % l.room ≤ 4096 := by
  have := h.r.bd
  exact ⟨Int.emod_nonneg _ (by omega), by have := Int.emod_lt_of_pos a (show 0 < l.room by omega); omega⟩
set_option maxHeartbeats 1000000 in
set_option maxRecDepth 100000 in
theorem c37 (l : Lay) (k a : Int) (w : World) (h : Fit l k) (h0 : 0 ≤ a) (h9 : a ≤ 9223372036854775807) : Calls Try.prog 42 #[l.val, .int .i64 k, .int .i64 a] w fun e w' => e = .returned (.int .i64 (l.slot k a)) ∧ Kept [] w w' := by
  obtain ⟨t0, t1⟩ := h.topbd
  have hr := h.r.bd
  obtain ⟨s0, s1⟩ := slot_bd h a
  have H := hid h
  have e1 : IntKind.i64.wrap (l.top k + 2) = l.top k + 2 := IntWalk.i64_in _ (by omega)
  have e2 : IntKind.i64.wrap (l.room - 1) = l.room - 1 := IntWalk.i64_in _ (by omega)
  have e3 : IntKind.i64.wrap (l.top k + 2 + a % l.room) = l.slot k a := IntWalk.i64_in _ (by omega)
  have hand : bits .and .i64 a (l.room - 1) = a % l.room := and_room h.r h0 h9
  clear h h9
  go_enter Try.func42, Try.ntmps42
  go_wp2_with fail
  go_region_with (go_at_call 54; refine (c33 l k _ H.out).mono ?_; rintro e w1 ⟨rfl, hk⟩; have hc1 : ∀ i, w1.cell? ⟨w.heap.size, i, none⟩ = l.cells[i]? := cells_of (t := 31) (hk.get (new_alloc w _) (by simp)))
  all_goals (go_wp2; go_ret; exact ⟨rfl, ((Kept.refl _ _).alloc _).drew.trans hk⟩)
set_option maxHeartbeats 1000000 in
set_option maxRecDepth 100000 in
theorem c38 (l : Lay) (k a : Int) (w : World) (h : Fit l k) (h0 : 0 ≤ a) : Calls Try.prog 80 #[l.val, .int .i64 k, .int .i64 a] w fun e w' => e = .returned (.int .i64 (l.slot k a)) ∧ Kept [] w w' := by
  obtain ⟨t0, t1⟩ := h.topbd
  have hr := h.r.bd
  have hr1 := hr.1
  obtain ⟨s0, s1⟩ := slot_bd h a
  have H := hid h
  have e1 : IntKind.i64.wrap (l.top k + 2) = l.top k + 2 := IntWalk.i64_in _ (by omega)
  have e3 : IntKind.i64.wrap (l.top k + 2 + a % l.room) = l.slot k a := IntWalk.i64_in _ (by omega)
  have hz : (l.room == 0) = false := by rw [beq_eq_false_iff_ne]; omega
  have em : a.tmod l.room = a % l.room := Int.tmod_eq_emod_of_nonneg h0
  clear h
  go_enter Try.func80, Try.ntmps80
  go_wp2_with fail
  go_region_with (go_at_call 78; refine (c34 l k _ H.out).mono ?_; rintro e w1 ⟨rfl, hk⟩; have hc1 : ∀ i, w1.cell? ⟨w.heap.size, i, none⟩ = l.cells[i]? := cells_of (t := 31) (hk.get (new_alloc w _) (by simp)))
  all_goals (go_wp2; go_ret; exact ⟨rfl, ((Kept.refl _ _).alloc _).drew.trans hk⟩)

end Go.Proofs.Ytlbhckndejldcaa
