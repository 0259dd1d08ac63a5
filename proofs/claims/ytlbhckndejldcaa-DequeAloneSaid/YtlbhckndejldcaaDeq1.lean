/- Package deque: slots, the loads of top and bottom, the end, what was taken. -/
import Derived.Test.YtlbhckndejldcaaDeq
import Derived.Test.YtlbhckndejldcaaPlan2
namespace Go.Proofs.Ytlbhckndejldcaa
open Go.RowKit
attribute [local go_sem ↓] Go.wp_at_zero Go.wp_at_succ
set_option linter.unusedVariables false
set_option maxHeartbeats 1000000 in
set_option maxRecDepth 100000 in
theorem d174 (P : Nat) (ty : TypeId) (c : Array Value) (l : Lay) (m : Pt) (a : Int) (w : World) (h : DBlk w P ty c) (hm : DC c l m) (hf : Fit l m.w) (h0 : 0 ≤ a) (h9 : a ≤ 9223372036854775807) :
    Calls Try.prog 94 #[.pointer (some ⟨P, 0, none⟩), .int .i64 a] w fun e w' => e = .returned (.int .i64 (l.slot m.w a)) ∧ Kept [] w w' := by
  have HF := hid hf
  have HA := hid (And.intro h0 h9)
  have H := hid h
  have HM := hid hm
  clear h hm hf h0 h9
  have hc := cells_of H.out
  have g0 := HM.out.f0
  have g1 := HM.out.f1
  have g2 := HM.out.f2
  have g3 := HM.out.f3
  have g4 := HM.out.f4
  have g5 := HM.out.f5
  have g6 := HM.out.f6
  have g7 := HM.out.f7
  have g8 := HM.out.f8
  have g9 := HM.out.f9
  have g10 := HM.out.f10
  have g11 := HM.out.f11
  have g12 := HM.out.f12
  have g13 := HM.out.f13
  have g14 := HM.out.f14
  go_enter Try.func94, Try.ntmps94
  go_wp2_with fail
  go_region_held3 (fun w' => ∀ i, w'.cell? ⟨P, i, none⟩ = c[i]?) (first | exact hc | exact hc1)
    (first | (go_at_call 42; refine (c37 l m.w a _ HF.out HA.out.1 HA.out.2).mono ?_; rintro e y1 ⟨rfl, hk⟩; have hc1 := cells_of (hk.get ((Kept.refl [] _).drew.get H.out (by simp)) (by simp))))
  have HK := hid hk
  clear hk hc hc1
  go_wp2_with fail
  go_ret
  exact ⟨rfl, (Kept.refl [] w).drew.trans HK.out⟩
set_option maxHeartbeats 1000000 in
set_option maxRecDepth 100000 in
theorem d171 (P B D : Nat) (ty : TypeId) (c : Array Value) (l : Lay) (p : Pt) (m : List Int) (w : World) (h : DBlk w P ty c) (hm : DC c l p) (hf : Fit l p.w) (hb : BankAt w B D m) (hPB : P ≠ B ∧ P ≠ D) :
    Calls Try.prog 91 #[.pointer (some ⟨P, 0, none⟩), .pointer (some ⟨B, 0, none⟩)] w fun e w' => e = .returned (.tuple #[]) ∧ Kept [P] w w' ∧ DPost w' P ty c l { p with t := ld m (l.top p.w) } := by
  have H := hid h
  have HM := hid hm
  have HF := hid hf
  have HB := hid hb
  have HPB := hid hPB
  clear h hm hf hb hPB
  go_enter Try.func91, Try.ntmps91
  go_wp2_with fail
  refine (d175 P ty c l p _ H.out HM.out HF.out).mono ?_
  rintro e w1 ⟨rfl, hk⟩
  have H1 := hid (show DBlk w1 P ty c from hk.get H.out (by simp))
  have HB1 := hid (HB.out.keep hk (by simp) (by simp))
  have HK := hid hk
  clear hk
  have hc := cells_of H1.out
  have hz := free_of H1.out
  have g := HM.out.f16
  have hs : DBlk (w1.setCell ⟨P, 16, none⟩ (.int .i64 (ld m (l.top p.w)))) P ty (c.setIfInBounds 16 (.int .i64 (ld m (l.top p.w)))) := set_of H1.out 16 _
  have HS := hid hs
  clear hs
  go_wp2_with fail
  refine (c42 B D m (l.top p.w) _ HB1.out).mono ?_
  rintro e w2 ⟨rfl, rfl⟩
  go_wp2_with fail
  go_end0
  exact ⟨rfl, (HK.out.of_nil).setCell (.inl (by simp)) _, _, HS.out, HM.out.set16 _, (Past.refl c).set 16 _ (by omega)⟩
set_option maxHeartbeats 1000000 in
set_option maxRecDepth 100000 in
theorem d172 (P B D : Nat) (ty : TypeId) (c : Array Value) (l : Lay) (p : Pt) (m : List Int) (w : World) (h : DBlk w P ty c) (hm : DC c l p) (hf : Fit l p.w) (hb : BankAt w B D m) (hPB : P ≠ B ∧ P ≠ D) :
    Calls Try.prog 92 #[.pointer (some ⟨P, 0, none⟩), .pointer (some ⟨B, 0, none⟩)] w fun e w' => e = .returned (.tuple #[]) ∧ Kept [P] w w' ∧ DPost w' P ty c l { p with b := ld m (l.top p.w + 1) } := by
  have H := hid h
  have HM := hid hm
  have HF := hid hf
  have HB := hid hb
  have HPB := hid hPB
  clear h hm hf hb hPB
  go_enter Try.func92, Try.ntmps92
  go_wp2_with fail
  refine (d176 P ty c l p _ H.out HM.out HF.out).mono ?_
  rintro e w1 ⟨rfl, hk⟩
  have H1 := hid (show DBlk w1 P ty c from hk.get H.out (by simp))
  have HB1 := hid (HB.out.keep hk (by simp) (by simp))
  have HK := hid hk
  clear hk
  have hc := cells_of H1.out
  have hz := free_of H1.out
  have g := HM.out.f17
  have hs : DBlk (w1.setCell ⟨P, 17, none⟩ (.int .i64 (ld m (l.top p.w + 1)))) P ty (c.setIfInBounds 17 (.int .i64 (ld m (l.top p.w + 1)))) := set_of H1.out 17 _
  have HS := hid hs
  clear hs
  go_wp2_with fail
  refine (c42 B D m (l.top p.w + 1) _ HB1.out).mono ?_
  rintro e w2 ⟨rfl, rfl⟩
  go_wp2_with fail
  go_end0
  exact ⟨rfl, (HK.out.of_nil).setCell (.inl (by simp)) _, _, HS.out, HM.out.set17 _, (Past.refl c).set 17 _ (by omega)⟩
set_option maxHeartbeats 1000000 in
set_option maxRecDepth 100000 in
theorem d173 (P : Nat) (ty : TypeId) (c : Array Value) (l : Lay) (p : Pt) (g : Bool) (w : World) (h : DBlk w P ty c) (hm : DC c l p) :
    Calls Try.prog 93 #[.pointer (some ⟨P, 0, none⟩), .bool g] w fun e w' => e = .returned (.tuple #[]) ∧ Kept [P] w w' ∧ DPost w' P ty c l { p with done := true, got := g } := by
  have hc := cells_of h
  have hz := free_of h
  have g19 := hm.f19
  have g20 := hm.f20
  have hs : DBlk (w.setCell ⟨P, 19, none⟩ (.bool true)) P ty (c.setIfInBounds 19 (.bool true)) := set_of h 19 _
  have HS := hid hs
  have HM1 := hid (hm.set19 true)
  have hc1 := cells_of HS.out
  have hz1 := free_of HS.out
  have g20b := HM1.out.f20
  have hs2 : DBlk ((w.setCell ⟨P, 19, none⟩ (.bool true)).setCell ⟨P, 20, none⟩ (.bool g)) P ty ((c.setIfInBounds 19 (.bool true)).setIfInBounds 20 (.bool g)) := set_of HS.out 20 _
  have HS2 := hid hs2
  clear h hm hs hs2
  go_enter Try.func93, Try.ntmps93
  go_wp2_with fail
  go_end0
  exact ⟨rfl, ((Kept.refl _ _).setCell (.inl (by simp)) _).setCell (.inl (by simp)) _, _, HS2.out, HM1.out.set20 g, ((Past.refl c).set 19 _ (by omega)).set 20 _ (by omega)⟩
set_option maxHeartbeats 1000000 in
set_option maxRecDepth 100000 in
theorem d137 (P : Nat) (ty : TypeId) (c : Array Value) (l : Lay) (p : Pt) (w : World) (h : DBlk w P ty c) (hm : DC c l p) :
    Calls Try.prog 65 #[.pointer (some ⟨P, 0, none⟩)] w fun e w' => e = .returned (.tuple #[.int .i64 (if p.done && p.got then p.x else 0), .bool (p.done && p.got)]) ∧ w = w' := by
  have hc := cells_of h
  have g18 := hm.f18
  have g19 := hm.f19
  have g20 := hm.f20
  clear h hm
  obtain ⟨pw, pa, pt, pb, px, pd, pg⟩ := p
  cases pd
  · go_enter Try.func65, Try.ntmps65
    go_wp2_with fail
    go_ret2
    exact ⟨rfl, rfl⟩
  · cases pg
    all_goals
      go_enter Try.func65, Try.ntmps65
      go_wp2_with fail
      go_ret2
      exact ⟨rfl, rfl⟩
end Go.Proofs.Ytlbhckndejldcaa
