/- A pop's last; a steal's stages. -/
import Derived.Test.YtlbhckndejldcaaPop2
namespace Go.Proofs.Ytlbhckndejldcaa
open Go.RowKit
attribute [local go_sem ↓] Go.wp_at_zero Go.wp_at_succ
set_option linter.unusedVariables false
/-- the bank behind a taking of the top -/
def casB (m : List Int) (i t : Int) (r : Bool) : List Int := if r = true then st m i (t + 1) else m
set_option maxHeartbeats 2000000 in
set_option maxRecDepth 100000 in
theorem d142 (P B D : Nat) (ty : TypeId) (c : Array Value) (l : Lay) (p : Pt) (m : List Int) (r : Bool) (hr : hits m (l.top p.w) p.t = r) (w : World) (h : DBlk w P ty c) (hm : DC c l p) (hf : Fit l p.w) (hb : BankAt w B D m) (hPB : P ≠ B ∧ P ≠ D) (h0 : -1000000 ≤ p.t) (h1 : p.t ≤ 1000000) :
    Calls Try.prog 70 #[.pointer (some ⟨P, 0, none⟩), .pointer (some ⟨B, 0, none⟩)] w fun e w' => e = .returned (.tuple #[]) ∧ Kept [P, D] w w' ∧ DPost w' P ty c l { p with got := r } ∧ BankAt w' B D (casB m (l.top p.w) p.t r) := by
  have H := hid h
  have HM := hid hm
  have HF := hid hf
  have HB := hid hb
  have HPB := hid hPB
  have HR := hid hr
  have hq0 : w.drew.cell? ⟨P, 16, none⟩ = some (.int .i64 p.t) := by rw [cells_of ((Kept.refl [] w).drew.get h (by simp))]; exact hm.f16
  have e1 : IntKind.i64.wrap (p.t + 1) = p.t + 1 := IntWalk.i64_in _ (by omega)
  clear h hm hf hb hPB hr
  go_enter Try.func70, Try.ntmps70
  go_wp2_with fail
  go_region_held3 (fun w' => w'.cell? ⟨P, 16, none⟩ = some (.int .i64 p.t)) (first | exact hq0 | exact hq1 | exact hq2 | exact hq3)
    (first
      | (go_at_call 96; refine (d175 P ty c l p _ ((Kept.refl [] _).drew.get H.out (by simp)) HM.out HF.out).mono ?_; rintro e y1 ⟨rfl, hk1⟩; have hh1 : DBlk y1 P ty c := hk1.get ((Kept.refl [] _).drew.get H.out (by simp)) (by simp); have hq1 : y1.cell? ⟨P, 16, none⟩ = some (.int .i64 p.t) := by rw [cells_of hh1]; exact HM.out.f16)
      | (go_at_call 95; refine (c47 B D m (l.top p.w) p.t (p.t + 1) _ (HB.out.keep ((Kept.refl [] _).drew.trans hk1) (by simp) (by simp))).mono ?_; rw [HR.out]; rintro e y2 ⟨rfl, hk2, hb2⟩; have hb2 : BankAt y2 B D (casB m (l.top p.w) p.t r) := hb2; have hh2 : DBlk y2 P ty c := hk2.get hh1 (by simpa using HPB.out.2); have hq2 : y2.cell? ⟨P, 16, none⟩ = some (.int .i64 p.t) := (by rw [cells_of hh2]; exact HM.out.f16); have hc2 := cells_of hh2; have hz2 := free_of hh2; have g20 := HM.out.f20; have hq3 : (y2.setCell ⟨P, 20, none⟩ (.bool r)).cell? ⟨P, 16, none⟩ = some (.int .i64 p.t) := (by rw [cells_of (set_of hh2 20 (.bool r)), Array.getElem?_setIfInBounds_ne (by omega)]; exact HM.out.f16)))
  have HS := hid (show DBlk (y2.setCell ⟨P, 20, none⟩ (.bool r)) P ty (c.setIfInBounds 20 (.bool r)) from set_of hh2 20 _)
  have HK := hid (((Kept.refl [D] w).drew.trans hk1.of_nil).trans hk2)
  have HB2 := hid hb2
  clear hk1 hk2 hb2 hh1 hh2 hq0 hq1 hq2 hq3 hc2 hz2 g20 e1
  go_wp2_with fail
  go_end0
  exact ⟨rfl, (HK.out.mono (by simp)).setCell (.inl (by simp)) _, ⟨_, HS.out, HM.out.set20 r, (Past.refl c).set 20 _ (by omega)⟩, HB2.out.keep (L := [P]) ((Kept.refl _ _).setCell (.inl (by simp)) _) (by simpa using Ne.symm HPB.out.1) (by simpa using Ne.symm HPB.out.2)⟩
set_option maxHeartbeats 2000000 in
set_option maxRecDepth 100000 in
theorem d133 (P B D : Nat) (ty : TypeId) (c : Array Value) (l : Lay) (p : Pt) (m : List Int) (w : World) (h : DBlk w P ty c) (hm : DC c l p) (hf : Fit l p.w) (hb : BankAt w B D m) (hPB : P ≠ B ∧ P ≠ D) :
    Calls Try.prog 61 #[.pointer (some ⟨P, 0, none⟩), .pointer (some ⟨B, 0, none⟩)] w fun e w' => e = .returned (.tuple #[]) ∧ Kept [P] w w' ∧ DPost w' P ty c l { p with t := ld m (l.top p.w) } := by
  have G := hid (d171 P B D ty c l p m w h hm hf hb hPB)
  clear h hm hf hb hPB
  go_enter Try.func61, Try.ntmps61
  go_wp2_with fail
  refine G.out.mono ?_
  rintro e w1 ⟨rfl, hk, hp⟩
  go_wp2_with fail
  go_end0
  exact ⟨rfl, hk, hp⟩
set_option maxHeartbeats 2000000 in
set_option maxRecDepth 100000 in
theorem d134_none (P B D : Nat) (ty : TypeId) (c : Array Value) (l : Lay) (p : Pt) (m : List Int) (v : Int) (hv : ld m (bot l p.w) = v) (w : World) (h : DBlk w P ty c) (hm : DC c l p) (hf : Fit l p.w) (hb : BankAt w B D m) (hPB : P ≠ B ∧ P ≠ D) (hlt : v ≤ p.t) :
    Calls Try.prog 62 #[.pointer (some ⟨P, 0, none⟩), .pointer (some ⟨B, 0, none⟩)] w fun e w' => e = .returned (.tuple #[]) ∧ Kept [P] w w' ∧ DPost w' P ty c l { p with b := v, done := true, got := false } := by
  have H := hid h
  have HM := hid hm
  have HF := hid hf
  have HB := hid hb
  have HPB := hid hPB
  have HV := hid hv
  have HLT := hid hlt
  clear h hm hf hb hPB hv hlt
  go_enter Try.func62, Try.ntmps62
  go_wp2_with fail
  refine (d172 P B D ty c l p m _ H.out HM.out HF.out HB.out HPB.out).mono ?_
  rw [show ld m (l.top p.w + 1) = v from HV.out]
  rintro e w1 ⟨rfl, hk, c1, hh1, hm1, hp1⟩
  have H1 := hid hh1
  have HM1 := hid hm1
  have HP1 := hid hp1
  have HK := hid hk
  have hc := cells_of hh1
  have g16 := hm1.f16
  have g17 := hm1.f17
  have hd : decide (v ≤ p.t) = true := by have := HLT.out; simp; omega
  clear hh1 hm1 hp1 hk
  go_wp2_with fail
  go_region_held3 (fun w' => ∀ i, w'.cell? ⟨P, i, none⟩ = c1[i]?) (first | exact hc) (first | (fail))
  clear hc hd
  go_wp2_with fail
  refine (d173 P ty c1 l { p with b := v } false _ ((Kept.refl [] _).drew.get H1.out (by simp)) HM1.out).mono ?_
  rintro e w2 ⟨rfl, hk2, c2, h2, hm2, hp2⟩
  have HK2 := hid hk2
  have HP2 := hid (And.intro h2 (And.intro hm2 hp2))
  clear hk2 h2 hm2 hp2
  go_wp2_with fail
  go_end0
  exact ⟨rfl, (HK.out.drew).trans HK2.out, _, HP2.out.1, HP2.out.2.1, HP1.out.trans HP2.out.2.2⟩
set_option maxHeartbeats 2000000 in
set_option maxRecDepth 100000 in
theorem d134_more (P B D : Nat) (ty : TypeId) (c : Array Value) (l : Lay) (p : Pt) (m : List Int) (v : Int) (hv : ld m (bot l p.w) = v) (w : World) (h : DBlk w P ty c) (hm : DC c l p) (hf : Fit l p.w) (hb : BankAt w B D m) (hPB : P ≠ B ∧ P ≠ D) (hlt : ¬ v ≤ p.t) :
    Calls Try.prog 62 #[.pointer (some ⟨P, 0, none⟩), .pointer (some ⟨B, 0, none⟩)] w fun e w' => e = .returned (.tuple #[]) ∧ Kept [P] w w' ∧ DPost w' P ty c l { p with b := v } := by
  have H := hid h
  have HM := hid hm
  have HF := hid hf
  have HB := hid hb
  have HPB := hid hPB
  have HV := hid hv
  have HLT := hid hlt
  clear h hm hf hb hPB hv hlt
  go_enter Try.func62, Try.ntmps62
  go_wp2_with fail
  refine (d172 P B D ty c l p m _ H.out HM.out HF.out HB.out HPB.out).mono ?_
  rw [show ld m (l.top p.w + 1) = v from HV.out]
  rintro e w1 ⟨rfl, hk, c1, hh1, hm1, hp1⟩
  have H1 := hid hh1
  have HM1 := hid hm1
  have HP1 := hid hp1
  have HK := hid hk
  have hc := cells_of hh1
  have g16 := hm1.f16
  have g17 := hm1.f17
  have hd : decide (v ≤ p.t) = false := by have := HLT.out; simp; omega
  clear hh1 hm1 hp1 hk
  go_wp2_with fail
  go_region_held3 (fun w' => ∀ i, w'.cell? ⟨P, i, none⟩ = c1[i]?) (first | exact hc) (first | (fail))
  clear hc hd
  go_wp2_with fail
  go_end0
  exact ⟨rfl, HK.out.drew, _, (Kept.refl [] _).drew.get H1.out (by simp), HM1.out, HP1.out⟩
set_option maxHeartbeats 2000000 in
set_option maxRecDepth 100000 in
theorem d135 (P B D : Nat) (ty : TypeId) (c : Array Value) (l : Lay) (p : Pt) (m : List Int) (w : World) (h : DBlk w P ty c) (hm : DC c l p) (hf : Fit l p.w) (hb : BankAt w B D m) (hPB : P ≠ B ∧ P ≠ D) (h0 : 0 ≤ p.t) (h1 : p.t ≤ 1000000) :
    Calls Try.prog 63 #[.pointer (some ⟨P, 0, none⟩), .pointer (some ⟨B, 0, none⟩)] w fun e w' => e = .returned (.tuple #[]) ∧ Kept [P] w w' ∧ DPost w' P ty c l { p with x := ld m (l.slot p.w p.t) } := by
  have H := hid h
  have HM := hid hm
  have HF := hid hf
  have HB := hid hb
  have HPB := hid hPB
  obtain ⟨x', hx'⟩ : ∃ x', ld m (l.slot p.w p.t) = x' := ⟨_, rfl⟩
  have HX := hid hx'
  rw [hx']
  have HI : Hid (0 ≤ p.t ∧ p.t ≤ 9223372036854775807) := hid ⟨h0, by omega⟩
  clear h hm hf hb hPB h0 h1 hx'
  go_enter Try.func63, Try.ntmps63
  have KQ := hid ((Kept.refl [] w).drew)
  have hq0 : w.drew.cell? ⟨P, 16, none⟩ = some (.int .i64 p.t) := by rw [cells_of (KQ.out.get H.out (by simp))]; exact HM.out.f16
  go_wp2_with fail
  go_region_held3 (fun w' => w'.cell? ⟨P, 16, none⟩ = some (.int .i64 p.t)) (first | exact hq0 | exact hq1 | exact hq2)
    (first
      | (go_at_call 94; refine (d174 P ty c l p p.t _ (KQ.out.get H.out (by simp)) HM.out HF.out HI.out.1 HI.out.2).mono ?_; rintro e y1 ⟨rfl, hk1⟩; have hh1 : DBlk y1 P ty c := hk1.get (KQ.out.get H.out (by simp)) (by simp); have hq1 : y1.cell? ⟨P, 16, none⟩ = some (.int .i64 p.t) := by rw [cells_of hh1]; exact HM.out.f16)
      | (go_at_call 16; refine (c42 B D m (l.slot p.w p.t) _ (HB.out.keep (KQ.out.trans hk1) (by simp) (by simp))).mono ?_; rw [HX.out]; rintro e _ ⟨rfl, rfl⟩; have hc1 := cells_of hh1; have hz1 := free_of hh1; have g18 := HM.out.f18; have hq2 : (y1.setCell ⟨P, 18, none⟩ (.int .i64 x')).cell? ⟨P, 16, none⟩ = some (.int .i64 p.t) := by rw [cells_of (set_of hh1 18 (.int .i64 x')), Array.getElem?_setIfInBounds_ne (by omega)]; exact HM.out.f16))
  have HS := hid (show DBlk (y1.setCell ⟨P, 18, none⟩ (.int .i64 x')) P ty (c.setIfInBounds 18 (.int .i64 x')) from set_of hh1 18 _)
  have HK := hid (KQ.out.trans hk1)
  have HM1 := hid (HM.out.set18 x')
  clear hk1 hh1 hc1 hz1 g18 hq0 hq1 hq2
  go_wp2_with fail
  go_end0
  exact ⟨rfl, (HK.out.of_nil).setCell (.inl (by simp)) _, _, HS.out, HM1.out, (Past.refl c).set 18 _ (by omega)⟩
set_option maxHeartbeats 2000000 in
set_option maxRecDepth 100000 in
theorem d136 (P B D : Nat) (ty : TypeId) (c : Array Value) (l : Lay) (p : Pt) (m : List Int) (r ls : Bool) (hr : hits m (l.top p.w) p.t = r) (hx : c[21]? = some (.bool ls)) (w : World) (h : DBlk w P ty c) (hm : DC c l p) (hf : Fit l p.w) (hb : BankAt w B D m) (hPB : P ≠ B ∧ P ≠ D) (h0 : -1000000 ≤ p.t) (h1 : p.t ≤ 1000000) :
    Calls Try.prog 64 #[.pointer (some ⟨P, 0, none⟩), .pointer (some ⟨B, 0, none⟩)] w fun e w' => e = .returned (.tuple #[]) ∧ Kept [P, D] w w' ∧ (∃ c', DBlk w' P ty c' ∧ DC c' l { p with done := true, got := r } ∧ c'[21]? = some (.bool (!r)) ∧ c'.size = c.size) ∧ BankAt w' B D (casB m (l.top p.w) p.t r) := by
  have H := hid h
  have HM := hid hm
  have HF := hid hf
  have HB := hid hb
  have HPB := hid hPB
  have HR := hid hr
  have hq0 : w.drew.cell? ⟨P, 16, none⟩ = some (.int .i64 p.t) := by rw [cells_of ((Kept.refl [] w).drew.get h (by simp))]; exact hm.f16
  have e1 : IntKind.i64.wrap (p.t + 1) = p.t + 1 := IntWalk.i64_in _ (by omega)
  have HX := hid hx
  clear h hm hf hb hPB hr hx
  go_enter Try.func64, Try.ntmps64
  go_wp2_with fail
  go_region_held3 (fun w' => w'.cell? ⟨P, 16, none⟩ = some (.int .i64 p.t)) (first | exact hq0 | exact hq1 | exact hq2 | exact hq3)
    (first
      | (go_at_call 96; refine (d175 P ty c l p _ ((Kept.refl [] _).drew.get H.out (by simp)) HM.out HF.out).mono ?_; rintro e y1 ⟨rfl, hk1⟩; have hh1 : DBlk y1 P ty c := hk1.get ((Kept.refl [] _).drew.get H.out (by simp)) (by simp); have hq1 : y1.cell? ⟨P, 16, none⟩ = some (.int .i64 p.t) := by rw [cells_of hh1]; exact HM.out.f16)
      | (go_at_call 95; refine (c47 B D m (l.top p.w) p.t (p.t + 1) _ (HB.out.keep ((Kept.refl [] _).drew.trans hk1) (by simp) (by simp))).mono ?_; rw [HR.out]; rintro e y2 ⟨rfl, hk2, hb2⟩; have hb2 : BankAt y2 B D (casB m (l.top p.w) p.t r) := hb2; have hh2 : DBlk y2 P ty c := hk2.get hh1 (by simpa using HPB.out.2); have hq2 : y2.cell? ⟨P, 16, none⟩ = some (.int .i64 p.t) := (by rw [cells_of hh2]; exact HM.out.f16); have hc2 := cells_of hh2; have hz2 := free_of hh2; have g20 := HM.out.f20)
      | (go_at_call 93; refine (d173 P ty c l p r _ hh2 HM.out).mono ?_; rintro e y3 ⟨rfl, hk3, c3, hh3, hm3, hp3⟩; have hq3 : y3.cell? ⟨P, 16, none⟩ = some (.int .i64 p.t) := (by rw [cells_of hh3]; exact hm3.f16)))
  have HK := hid ((((Kept.refl [P, D] w).drew.trans hk1.of_nil).trans (hk2.mono (by simp))).trans (hk3.mono (by simp)))
  have HB2 := hid (hb2.keep hk3 (by simpa using Ne.symm HPB.out.1) (by simpa using Ne.symm HPB.out.2))
  have H3 := hid hh3
  have HM3 := hid hm3
  have HP3 := hid hp3
  have hc3 := cells_of hh3
  have hz3 := free_of hh3
  have g20b := hm3.f20
  have g21 : c3[21]? = some (.bool ls) := by rw [hp3.2 21 (by omega)]; exact HX.out
  have HG21 := hid g21
  clear hk1 hk2 hb2 hh1 hh2 hq0 hq1 hq2 hq3 hc2 hz2 g20 e1 hk3 hh3 hm3 hp3
  go_wp2_with fail
  go_end0
  refine ⟨rfl, HK.out.setCell (.inl (by simp)) _, ⟨_, set_of H3.out 21 (.bool (!r)), fun j hj => ?_, ?_, ?_⟩, HB2.out.keep (L := [P]) ((Kept.refl _ _).setCell (.inl (by simp)) _) (by simpa using Ne.symm HPB.out.1) (by simpa using Ne.symm HPB.out.2)⟩
  · rw [Array.getElem?_setIfInBounds_ne (by omega)]; exact HM3.out j hj
  · rw [Array.getElem?_setIfInBounds_self_of_lt (Array.getElem?_eq_some_iff.1 HG21.out).1]
  · rw [Array.size_setIfInBounds]; exact HP3.out.1
end Go.Proofs.Ytlbhckndejldcaa
