import Derived.Test.YtlbhckndejldcaaDN0
namespace Go.Proofs.Ytlbhckndejldcaa
open Go.RowKit
attribute [local go_sem ↓] Go.wp_at_zero Go.wp_at_succ
set_option linter.unusedVariables false
set_option maxHeartbeats 2000000 in
set_option maxRecDepth 100000 in
theorem d71 (P : Nat) (ty : TypeId) (c : Array Value) (l : Lay) (p : Pt) (w : World) (h : DBlk w P ty c) (hm : DC c l p) :
    Calls Try.prog 28 #[.pointer (some ⟨P, 0, none⟩)] w fun e w' => e = .returned (.tuple #[.int .i64 (if p.done && p.got then p.x else 0), .bool (p.done && p.got)]) ∧ w = w' := by
  have G := hid (d137 P ty c l p w h hm)
  obtain ⟨x', hx⟩ : ∃ x', (if p.done && p.got then p.x else 0) = x' := ⟨_, rfl⟩
  obtain ⟨r, hr⟩ : ∃ r, (p.done && p.got) = r := ⟨_, rfl⟩
  rw [hx, hr] at G
  rw [hx, hr]
  have hc := cells_of h
  clear h hm hx hr
  go_enter Try.func28, Try.ntmps28
  go_wp2_with fail
  refine G.out.mono ?_
  rintro e w1 ⟨rfl, rfl⟩
  go_wp2_with fail
  go_ret2
  exact ⟨rfl, rfl⟩
set_option maxHeartbeats 2000000 in
set_option maxRecDepth 100000 in
theorem d68 (P : Nat) (ty : TypeId) (c : Array Value) (l : Lay) (p : Pt) (w : World) (h : DBlk w P ty c) (hm : DC c l p) :
    Calls Try.prog 25 #[.pointer (some ⟨P, 0, none⟩)] w fun e w' => e = .returned (.tuple #[.int .i64 (if p.done && p.got then p.x else 0), .bool (p.done && p.got)]) ∧ w = w' := by
  have G := hid (d137 P ty c l p w h hm)
  obtain ⟨x', hx⟩ : ∃ x', (if p.done && p.got then p.x else 0) = x' := ⟨_, rfl⟩
  obtain ⟨r, hr⟩ : ∃ r, (p.done && p.got) = r := ⟨_, rfl⟩
  rw [hx, hr] at G
  rw [hx, hr]
  have hc := cells_of h
  clear h hm hx hr
  go_enter Try.func25, Try.ntmps25
  go_wp2_with fail
  refine G.out.mono ?_
  rintro e w1 ⟨rfl, rfl⟩
  go_wp2_with fail
  go_ret2
  exact ⟨rfl, rfl⟩
set_option maxHeartbeats 2000000 in
set_option maxRecDepth 100000 in
theorem d109 (P : Nat) (ty : TypeId) (c : Array Value) (l : Lay) (p : Pt) (w : World) (h : DBlk w P ty c) (hm : DC c l p) :
    Calls Try.prog 36 #[.pointer (some ⟨P, 0, none⟩)] w fun e w' => e = .returned (.bool (p.done && p.got)) ∧ w = w' := by
  have hc := cells_of h
  have g19 := hm.f19
  have g20 := hm.f20
  clear h hm
  obtain ⟨pw, pa, pt, pb, px, pd, pg⟩ := p
  cases pd
  all_goals
    go_enter Try.func36, Try.ntmps36
    go_wp2_with fail
    go_ret
    exact ⟨rfl, rfl⟩
set_option maxHeartbeats 2000000 in
set_option maxRecDepth 100000 in
theorem d110 (P : Nat) (ty : TypeId) (c : Array Value) (ls : Bool) (w : World) (h : DBlk w P ty c) (hx : c[21]? = some (.bool ls)) :
    Calls Try.prog 37 #[.pointer (some ⟨P, 0, none⟩)] w fun e w' => e = .returned (.bool ls) ∧ w = w' := by
  have hc := cells_of h
  clear h
  go_enter Try.func37, Try.ntmps37
  go_wp2_with fail
  go_ret
  exact ⟨rfl, rfl⟩
end Go.Proofs.Ytlbhckndejldcaa
