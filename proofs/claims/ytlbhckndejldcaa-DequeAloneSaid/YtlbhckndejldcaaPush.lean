/- A push's stages. -/
import Derived.Test.YtlbhckndejldcaaSteal
namespace Go.Proofs.Ytlbhckndejldcaa
open Go.RowKit
attribute [local go_sem ↓] Go.wp_at_zero Go.wp_at_succ
set_option linter.unusedVariables false
set_option maxHeartbeats 2000000 in
set_option maxRecDepth 100000 in
theorem d180 (P B D : Nat) (ty : TypeId) (c : Array Value) (l : Lay) (p : Pt) (m : List Int) (w : World) (h : DBlk w P ty c) (hm : DC c l p) (hf : Fit l p.w) (hb : BankAt w B D m) (hPB : P ≠ B ∧ P ≠ D) :
    Calls Try.prog 98 #[.pointer (some ⟨P, 0, none⟩), .pointer (some ⟨B, 0, none⟩)] w fun e w' => e = .returned (.tuple #[]) ∧ Kept [P] w w' ∧ DPost w' P ty c l { p with b := ld m (bot l p.w) } := by
  have G := hid (d172 P B D ty c l p m w h hm hf hb hPB)
  clear h hm hf hb hPB
  go_enter Try.func98, Try.ntmps98
  go_wp2_with fail
  refine G.out.mono ?_
  rintro e w1 ⟨rfl, hk, hp⟩
  go_wp2_with fail
  go_end0
  exact ⟨rfl, hk, hp⟩
set_option maxHeartbeats 2000000 in
set_option maxRecDepth 100000 in
theorem d181_full (P B D : Nat) (ty : TypeId) (c : Array Value) (l : Lay) (p : Pt) (m : List Int) (v : Int) (hv : ld m (l.top p.w) = v) (w : World) (h : DBlk w P ty c) (hm : DC c l p) (hf : Fit l p.w) (hb : BankAt w B D m) (hPB : P ≠ B ∧ P ≠ D) (hlt : l.room ≤ p.b - v) (h0 : -1000000 ≤ v) (h1 : v ≤ 1000000) (h2 : -1000000 ≤ p.b) (h3 : p.b ≤ 1000000) :
    Calls Try.prog 99 #[.pointer (some ⟨P, 0, none⟩), .pointer (some ⟨B, 0, none⟩)] w fun e w' => e = .returned (.tuple #[]) ∧ Kept [P] w w' ∧ DPost w' P ty c l { p with t := v, done := true, got := false } := by
  have H := hid h
  have HM := hid hm
  have HF := hid hf
  have HB := hid hb
  have HPB := hid hPB
  have HV := hid hv
  have HLT := hid hlt
  have e1 : IntKind.i64.wrap (p.b - v) = p.b - v := IntWalk.i64_in _ (by omega)
  have E1 := hid e1
  clear h hm hf hb hPB hv hlt e1
  go_enter Try.func99, Try.ntmps99
  go_wp2_with fail
  refine (d171 P B D ty c l p m _ H.out HM.out HF.out HB.out HPB.out).mono ?_
  rw [HV.out]
  rintro e w1 ⟨rfl, hk, c1, hh1, hm1, hp1⟩
  have H1 := hid hh1
  have HM1 := hid hm1
  have HP1 := hid hp1
  have HK := hid hk
  have hc := cells_of hh1
  have g3 := hm1.f3
  have g16 := hm1.f16
  have g17 := hm1.f17
  have hd : decide (l.room ≤ p.b - v) = true := by have := HLT.out; simp; omega
  have e1 := E1.out
  clear hh1 hm1 hp1 hk
  go_wp2_with fail
  go_region_held3 (fun w' => ∀ i, w'.cell? ⟨P, i, none⟩ = c1[i]?) (first | exact hc) (first | (fail))
  clear hc hd e1
  go_wp2_with fail
  refine (d173 P ty c1 l { p with t := v } false _ ((Kept.refl [] _).drew.get H1.out (by simp)) HM1.out).mono ?_
  rintro e w2 ⟨rfl, hk2, c2, h2, hm2, hp2⟩
  have HK2 := hid hk2
  have HP2 := hid (And.intro h2 (And.intro hm2 hp2))
  clear hk2 h2 hm2 hp2
  go_wp2_with fail
  go_end0
  exact ⟨rfl, (HK.out.drew).trans HK2.out, _, HP2.out.1, HP2.out.2.1, HP1.out.trans HP2.out.2.2⟩
set_option maxHeartbeats 2000000 in
set_option maxRecDepth 100000 in
theorem d181_more (P B D : Nat) (ty : TypeId) (c : Array Value) (l : Lay) (p : Pt) (m : List Int) (v : Int) (hv : ld m (l.top p.w) = v) (w : World) (h : DBlk w P ty c) (hm : DC c l p) (hf : Fit l p.w) (hb : BankAt w B D m) (hPB : P ≠ B ∧ P ≠ D) (hlt : ¬ l.room ≤ p.b - v) (h0 : -1000000 ≤ v) (h1 : v ≤ 1000000) (h2 : -1000000 ≤ p.b) (h3 : p.b ≤ 1000000) :
    Calls Try.prog 99 #[.pointer (some ⟨P, 0, none⟩), .pointer (some ⟨B, 0, none⟩)] w fun e w' => e = .returned (.tuple #[]) ∧ Kept [P] w w' ∧ DPost w' P ty c l { p with t := v } := by
  have H := hid h
  have HM := hid hm
  have HF := hid hf
  have HB := hid hb
  have HPB := hid hPB
  have HV := hid hv
  have HLT := hid hlt
  have e1 : IntKind.i64.wrap (p.b - v) = p.b - v := IntWalk.i64_in _ (by omega)
  have E1 := hid e1
  clear h hm hf hb hPB hv hlt e1
  go_enter Try.func99, Try.ntmps99
  go_wp2_with fail
  refine (d171 P B D ty c l p m _ H.out HM.out HF.out HB.out HPB.out).mono ?_
  rw [HV.out]
  rintro e w1 ⟨rfl, hk, c1, hh1, hm1, hp1⟩
  have H1 := hid hh1
  have HM1 := hid hm1
  have HP1 := hid hp1
  have HK := hid hk
  have hc := cells_of hh1
  have g3 := hm1.f3
  have g16 := hm1.f16
  have g17 := hm1.f17
  have hd : decide (l.room ≤ p.b - v) = false := by have := HLT.out; simp; omega
  have e1 := E1.out
  clear hh1 hm1 hp1 hk
  go_wp2_with fail
  go_region_held3 (fun w' => ∀ i, w'.cell? ⟨P, i, none⟩ = c1[i]?) (first | exact hc) (first | (fail))
  clear hc hd e1
  go_wp2_with fail
  go_end0
  exact ⟨rfl, HK.out.drew, _, (Kept.refl [] _).drew.get H1.out (by simp), HM1.out, HP1.out⟩
set_option maxHeartbeats 2000000 in
set_option maxRecDepth 100000 in
theorem d182 (P B D : Nat) (ty : TypeId) (c : Array Value) (l : Lay) (p : Pt) (m : List Int) (v : Int) (hx : c[21]? = some (.int .i64 v)) (w : World) (h : DBlk w P ty c) (hm : DC c l p) (hf : Fit l p.w) (hb : BankAt w B D m) (hPB : P ≠ B ∧ P ≠ D) (h0 : 0 ≤ p.b) (h1 : p.b ≤ 1000000) :
    Calls Try.prog 100 #[.pointer (some ⟨P, 0, none⟩), .pointer (some ⟨B, 0, none⟩)] w fun e w' => e = .returned (.tuple #[]) ∧ Kept [D] w w' ∧ DBlk w' P ty c ∧ BankAt w' B D (st m (l.slot p.w p.b) v) := by
  have H := hid h
  have HM := hid hm
  have HF := hid hf
  have HB := hid hb
  have HPB := hid hPB
  have HI := hid (And.intro h0 h1)
  have hc := cells_of h
  have g17 := hm.f17
  have g21 := hx
  clear h hm hf hb hPB hx h0 h1
  go_enter Try.func100, Try.ntmps100
  go_wp2_with fail
  go_region_held3 (fun w' => ∀ i, w'.cell? ⟨P, i, none⟩ = c[i]?) (first | exact hc | exact hc1 | exact hc2)
    (first
      | (go_at_call 94; refine (d174 P ty c l p p.b _ ((Kept.refl [] _).drew.get H.out (by simp)) HM.out HF.out HI.out.1 (by have := HI.out.2; omega)).mono ?_; rintro e y1 ⟨rfl, hk1⟩; have hc1 := cells_of (hk1.get ((Kept.refl [] _).drew.get H.out (by simp)) (by simp)))
      | (go_at_call 46; refine (c43 B D m (l.slot p.w p.b) v _ (HB.out.keep ((Kept.refl [] _).drew.trans hk1) (by simp) (by simp))).mono ?_; rintro e y2 ⟨rfl, hk2, hb2⟩; have hc2 := cells_of (hk2.get (hk1.get ((Kept.refl [] _).drew.get H.out (by simp)) (by simp)) (by simpa using HPB.out.2))))
  have HK := hid (((Kept.refl [D] w).drew.trans hk1.of_nil).trans hk2)
  have HB2 := hid hb2
  clear hk1 hk2 hb2 hc hc1 hc2
  go_wp2_with fail
  go_end0
  exact ⟨rfl, HK.out, HK.out.get H.out (by simpa using HPB.out.2), HB2.out⟩
set_option maxHeartbeats 2000000 in
set_option maxRecDepth 100000 in
theorem d183 (P B D : Nat) (ty : TypeId) (c : Array Value) (l : Lay) (p : Pt) (m : List Int) (v : Int) (hv : v = p.b + 1) (w : World) (h : DBlk w P ty c) (hm : DC c l p) (hf : Fit l p.w) (hb : BankAt w B D m) (hPB : P ≠ B ∧ P ≠ D) (h0 : -1000000 ≤ p.b) (h1 : p.b ≤ 1000000) :
    Calls Try.prog 101 #[.pointer (some ⟨P, 0, none⟩), .pointer (some ⟨B, 0, none⟩)] w fun e w' => e = .returned (.tuple #[]) ∧ Kept [P, D] w w' ∧ DPost w' P ty c l { p with done := true, got := true } ∧ BankAt w' B D (st m (bot l p.w) v) := by
  subst hv
  have H := hid h
  have HM := hid hm
  have HF := hid hf
  have HB := hid hb
  have HPB := hid hPB
  have hc := cells_of h
  have g17 := hm.f17
  have e1 : IntKind.i64.wrap (p.b + 1) = p.b + 1 := IntWalk.i64_in _ (by omega)
  clear h hm hf hb hPB
  go_enter Try.func101, Try.ntmps101
  go_wp2_with fail
  go_region_held3 (fun w' => ∀ i, w'.cell? ⟨P, i, none⟩ = c[i]?) (first | exact hc | exact hc1 | exact hc2)
    (first
      | (go_at_call 97; refine (d176 P ty c l p _ ((Kept.refl [] _).drew.get H.out (by simp)) HM.out HF.out).mono ?_; rintro e y1 ⟨rfl, hk1⟩; have hc1 := cells_of (hk1.get ((Kept.refl [] _).drew.get H.out (by simp)) (by simp)))
      | (go_at_call 46; refine (c43 B D m (bot l p.w) (p.b + 1) _ (HB.out.keep ((Kept.refl [] _).drew.trans hk1) (by simp) (by simp))).mono ?_; rintro e y2 ⟨rfl, hk2, hb2⟩; have hc2 := cells_of (hk2.get (hk1.get ((Kept.refl [] _).drew.get H.out (by simp)) (by simp)) (by simpa using HPB.out.2))))
  have HK := hid (((Kept.refl [D] w).drew.trans hk1.of_nil).trans hk2)
  have HB2 := hid hb2
  have H2 := hid (show DBlk y2 P ty c from HK.out.get H.out (by simpa using HPB.out.2))
  clear hk1 hk2 hb2 hc hc1 hc2 e1
  go_wp2_with fail
  refine (d173 P ty c l p true _ H2.out HM.out).mono ?_
  rintro e w3 ⟨rfl, hk3, hp3⟩
  have HK3 := hid hk3
  have HP3 := hid hp3
  clear hk3 hp3
  go_wp2_with fail
  go_end0
  exact ⟨rfl, (HK.out.mono (by simp)).trans (HK3.out.mono (by simp)), HP3.out, HB2.out.keep HK3.out (by simpa using Ne.symm HPB.out.1) (by simpa using Ne.symm HPB.out.2)⟩
end Go.Proofs.Ytlbhckndejldcaa
