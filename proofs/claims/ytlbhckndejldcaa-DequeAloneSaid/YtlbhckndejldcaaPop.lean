/- A pop's stages. -/
import Derived.Test.YtlbhckndejldcaaDeq1
namespace Go.Proofs.Ytlbhckndejldcaa
open Go.RowKit
attribute [local go_sem ↓] Go.wp_at_zero Go.wp_at_succ
set_option linter.unusedVariables false
def bot (l : Lay) (k : Int) : Int := l.top k + 1
set_option maxHeartbeats 1000000 in
set_option maxRecDepth 100000 in
theorem d138 (P B D : Nat) (ty : TypeId) (c : Array Value) (l : Lay) (p : Pt) (m : List Int) (w : World) (h : DBlk w P ty c) (hm : DC c l p) (hf : Fit l p.w) (hb : BankAt w B D m) (hPB : P ≠ B ∧ P ≠ D)
    (h0 : -1000000 ≤ ld m (bot l p.w)) (h1 : ld m (bot l p.w) ≤ 1000000) :
    Calls Try.prog 66 #[.pointer (some ⟨P, 0, none⟩), .pointer (some ⟨B, 0, none⟩)] w fun e w' => e = .returned (.tuple #[]) ∧ Kept [P] w w' ∧ DPost w' P ty c l { p with b := ld m (bot l p.w) - 1 } := by
  have H := hid h
  have HM := hid hm
  have HF := hid hf
  have HB := hid hb
  have HPB := hid hPB
  obtain ⟨v, hv⟩ : ∃ v, ld m (bot l p.w) = v := ⟨_, rfl⟩
  have HV := hid hv
  rw [hv] at h0 h1 ⊢
  clear h hm hf hb hPB hv
  go_enter Try.func66, Try.ntmps66
  go_wp2_with fail
  refine (d172 P B D ty c l p m _ H.out HM.out HF.out HB.out HPB.out).mono ?_
  rw [show ld m (l.top p.w + 1) = v from HV.out]
  rintro e w1 ⟨rfl, hk, c1, h1', hm1, hp1⟩
  have H1 := hid h1'
  have HM1 := hid hm1
  have HP1 := hid hp1
  have HK := hid hk
  clear hm1 hp1 hk
  have hc := cells_of h1'
  have hz := free_of h1'
  have g := HM1.out.f17
  have hs : DBlk (w1.setCell ⟨P, 17, none⟩ (.int .i64 (v - 1))) P ty (c1.setIfInBounds 17 (.int .i64 (v - 1))) := set_of h1' 17 _
  have HS := hid hs
  clear h1' hs
  go_wp2_with fail
  go_end0
  exact ⟨rfl, HK.out.setCell (.inl (by simp)) _, _, HS.out, HM1.out.set17 (v - 1), HP1.out.set 17 _ (by omega)⟩
set_option maxHeartbeats 1000000 in
set_option maxRecDepth 100000 in
theorem d139 (P B D : Nat) (ty : TypeId) (c : Array Value) (l : Lay) (p : Pt) (m : List Int) (w : World) (h : DBlk w P ty c) (hm : DC c l p) (hf : Fit l p.w) (hb : BankAt w B D m) (hPB : P ≠ B ∧ P ≠ D) :
    Calls Try.prog 67 #[.pointer (some ⟨P, 0, none⟩), .pointer (some ⟨B, 0, none⟩)] w fun e w' => e = .returned (.tuple #[]) ∧ Kept [D] w w' ∧ DBlk w' P ty c ∧ BankAt w' B D (st m (bot l p.w) p.b) := by
  have H := hid h
  have HM := hid hm
  have HF := hid hf
  have HB := hid hb
  have HPB := hid hPB
  have hc := cells_of h
  have g17 := hm.f17
  clear h hm hf hb hPB
  go_enter Try.func67, Try.ntmps67
  go_wp2_with fail
  go_region_held3 (fun w' => ∀ i, w'.cell? ⟨P, i, none⟩ = c[i]?) (first | exact hc | exact hc1 | exact hc2)
    (first
      | (go_at_call 97; refine (d176 P ty c l p _ ((Kept.refl [] _).drew.get H.out (by simp)) HM.out HF.out).mono ?_; rintro e y1 ⟨rfl, hk1⟩; have hc1 := cells_of (hk1.get ((Kept.refl [] _).drew.get H.out (by simp)) (by simp)))
      | (go_at_call 46; refine (c43 B D m (bot l p.w) p.b _ (HB.out.keep ((Kept.refl [] _).drew.trans hk1) (by simp) (by simp))).mono ?_; rintro e y2 ⟨rfl, hk2, hb2⟩; have hc2 := cells_of (hk2.get (hk1.get ((Kept.refl [] _).drew.get H.out (by simp)) (by simp)) (by simpa using HPB.out.2))))
  have HK := hid (((Kept.refl [D] w).drew.trans hk1.of_nil).trans hk2)
  have HB2 := hid hb2
  clear hk1 hk2 hb2 hc hc1 hc2
  go_wp2_with fail
  go_end0
  exact ⟨rfl, HK.out, HK.out.get H.out (by simpa using HPB.out.2), HB2.out⟩
set_option maxHeartbeats 1000000 in
set_option maxRecDepth 100000 in
theorem d140 (P B D : Nat) (ty : TypeId) (c : Array Value) (l : Lay) (p : Pt) (m : List Int) (w : World) (h : DBlk w P ty c) (hm : DC c l p) (hf : Fit l p.w) (hb : BankAt w B D m) (hPB : P ≠ B ∧ P ≠ D) :
    Calls Try.prog 68 #[.pointer (some ⟨P, 0, none⟩), .pointer (some ⟨B, 0, none⟩)] w fun e w' => e = .returned (.tuple #[]) ∧ Kept [P] w w' ∧ DPost w' P ty c l { p with t := ld m (l.top p.w) } := by
  have G := hid (d171 P B D ty c l p m w h hm hf hb hPB)
  clear h hm hf hb hPB
  go_enter Try.func68, Try.ntmps68
  go_wp2_with fail
  refine G.out.mono ?_
  rintro e w1 ⟨rfl, hk, hp⟩
  go_wp2_with fail
  go_end0
  exact ⟨rfl, hk, hp⟩
set_option maxHeartbeats 1000000 in
set_option maxRecDepth 100000 in
theorem d143 (P B D : Nat) (ty : TypeId) (c : Array Value) (l : Lay) (p : Pt) (m : List Int) (v : Int) (hv : v = p.b + 1) (w : World) (h : DBlk w P ty c) (hm : DC c l p) (hf : Fit l p.w) (hb : BankAt w B D m) (hPB : P ≠ B ∧ P ≠ D)
    (h0 : -1000000 ≤ p.b) (h1 : p.b ≤ 1000000) :
    Calls Try.prog 71 #[.pointer (some ⟨P, 0, none⟩), .pointer (some ⟨B, 0, none⟩)] w fun e w' => e = .returned (.tuple #[]) ∧ Kept [P, D] w w' ∧ DPost w' P ty c l { p with done := true } ∧ BankAt w' B D (st m (bot l p.w) v) := by
  subst hv
  have H := hid h
  have HM := hid hm
  have HF := hid hf
  have HB := hid hb
  have HPB := hid hPB
  have hc := cells_of h
  have g17 := hm.f17
  have e1 : IntKind.i64.wrap (p.b + 1) = p.b + 1 := IntWalk.i64_in _ (by omega)
  clear h hm hf hb hPB
  go_enter Try.func71, Try.ntmps71
  go_wp2_with fail
  go_region_held3 (fun w' => ∀ i, w'.cell? ⟨P, i, none⟩ = c[i]?) (first | exact hc | exact hc1 | exact hc2)
    (first
      | (go_at_call 97; refine (d176 P ty c l p _ ((Kept.refl [] _).drew.get H.out (by simp)) HM.out HF.out).mono ?_; rintro e y1 ⟨rfl, hk1⟩; have hc1 := cells_of (hk1.get ((Kept.refl [] _).drew.get H.out (by simp)) (by simp)))
      | (go_at_call 46; refine (c43 B D m (bot l p.w) (p.b + 1) _ (HB.out.keep ((Kept.refl [] _).drew.trans hk1) (by simp) (by simp))).mono ?_; rintro e y2 ⟨rfl, hk2, hb2⟩; have hc2 := cells_of (hk2.get (hk1.get ((Kept.refl [] _).drew.get H.out (by simp)) (by simp)) (by simpa using HPB.out.2))))
  have HK := hid (((Kept.refl [D] w).drew.trans hk1.of_nil).trans hk2)
  have HB2 := hid hb2
  have H2 := hid (show DBlk y2 P ty c from HK.out.get H.out (by simpa using HPB.out.2))
  clear hk1 hk2 hb2 hc hc1 e1
  have hz2 := free_of H2.out
  have g19 := HM.out.f19
  have hs : DBlk (y2.setCell ⟨P, 19, none⟩ (.bool true)) P ty (c.setIfInBounds 19 (.bool true)) := set_of H2.out 19 _
  have HS := hid hs
  clear hs
  go_wp2_with fail
  go_end0
  exact ⟨rfl, (HK.out.mono (by simp)).setCell (.inl (by simp)) _, ⟨_, HS.out, HM.out.set19 true, (Past.refl c).set 19 _ (by omega)⟩, HB2.out.keep (L := [P]) ((Kept.refl _ _).setCell (.inl (by simp)) _) (by simpa using Ne.symm HPB.out.1) (by simpa using Ne.symm HPB.out.2)⟩
end Go.Proofs.Ytlbhckndejldcaa
