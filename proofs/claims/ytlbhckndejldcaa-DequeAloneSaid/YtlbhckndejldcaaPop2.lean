/- A pop's read and last; a steal's stages; a push's. -/
import Derived.Test.YtlbhckndejldcaaPop
namespace Go.Proofs.Ytlbhckndejldcaa
open Go.RowKit
attribute [local go_sem ↓] Go.wp_at_zero Go.wp_at_succ
set_option linter.unusedVariables false
set_option maxHeartbeats 2000000 in
set_option maxRecDepth 100000 in
theorem d141_back (P B D : Nat) (ty : TypeId) (c : Array Value) (l : Lay) (p : Pt) (m : List Int) (w : World) (h : DBlk w P ty c) (hm : DC c l p) (hf : Fit l p.w) (hb : BankAt w B D m) (hPB : P ≠ B ∧ P ≠ D) (hlt : p.b < p.t) (h0 : -1000000 ≤ p.b) (h1 : p.b ≤ 1000000) :
    Calls Try.prog 69 #[.pointer (some ⟨P, 0, none⟩), .pointer (some ⟨B, 0, none⟩)] w fun e w' => e = .returned (.tuple #[]) ∧ Kept [P, D] w w' ∧ DPost w' P ty c l { p with done := true } ∧ BankAt w' B D (st m (bot l p.w) (p.b + 1)) := by
  have H := hid h
  have HM := hid hm
  have HF := hid hf
  have HB := hid hb
  have HPB := hid hPB
  have hc := cells_of h
  have g16 := hm.f16
  have g17 := hm.f17
  have HB0 := hid (And.intro h0 h1)
  have hd : decide (p.b < p.t) = true := decide_eq_true hlt
  clear h hm hf hb hPB h0 h1 hlt
  go_enter Try.func69, Try.ntmps69
  go_wp2_with fail
  go_region_held3 (fun w' => ∀ i, w'.cell? ⟨P, i, none⟩ = c[i]?) (first | exact hc) (first | (fail))
  go_wp2_with fail
  refine (d143 P B D ty c l p m (p.b + 1) rfl _ ((Kept.refl [] _).drew.get H.out (by simp)) HM.out HF.out (HB.out.keep (Kept.refl [] _).drew (by simp) (by simp)) HPB.out HB0.out.1 HB0.out.2).mono ?_
  rintro e w1 ⟨rfl, hk, hp, hb⟩
  have HK := hid ((Kept.refl [P, D] w).drew.trans hk)
  clear hk hc
  go_wp2_with fail
  refine bodyPost_ret (v := .tuple #[]) ?_ rfl ⟨rfl, HK.out, hp, hb⟩
  simp [results, Try.results69, go_sem]
set_option maxHeartbeats 2000000 in
set_option maxRecDepth 100000 in
theorem d141_one (P B D : Nat) (ty : TypeId) (c : Array Value) (l : Lay) (p : Pt) (m : List Int) (w : World) (h : DBlk w P ty c) (hm : DC c l p) (hf : Fit l p.w) (hb : BankAt w B D m) (hPB : P ≠ B ∧ P ≠ D) (hle : ¬ p.b < p.t) (hlt : ¬ p.t < p.b) (h0 : 0 ≤ p.b) (h1 : p.b ≤ 1000000) :
    Calls Try.prog 69 #[.pointer (some ⟨P, 0, none⟩), .pointer (some ⟨B, 0, none⟩)] w fun e w' => e = .returned (.tuple #[]) ∧ Kept [P] w w' ∧ DPost w' P ty c l { p with x := ld m (l.slot p.w p.b) } := by
  have H := hid h
  have HM := hid hm
  have HF := hid hf
  have HB := hid hb
  have HPB := hid hPB
  obtain ⟨x', hx'⟩ : ∃ x', ld m (l.slot p.w p.b) = x' := ⟨_, rfl⟩
  have HX := hid hx'
  rw [hx']
  have HI : Hid (0 ≤ p.b ∧ p.b ≤ 9223372036854775807) := hid ⟨h0, by omega⟩
  have hc := cells_of h
  have g16 := hm.f16
  have g17 := hm.f17
  have hd : decide (p.b < p.t) = false := decide_eq_false hle
  have HLT := hid hlt
  clear h hm hf hb hPB h0 h1 hle hlt hx'
  go_enter Try.func69, Try.ntmps69
  go_wp2_with fail
  go_region_held3 (fun w' => ∀ i, w'.cell? ⟨P, i, none⟩ = c[i]?) (first | exact hc) (first | (fail))
  clear hc hd
  have KQ := hid ((Kept.refl [] w).drew.drew)
  have hq0 : w.drew.drew.cell? ⟨P, 17, none⟩ = some (.int .i64 p.b) := by rw [cells_of (KQ.out.get H.out (by simp))]; exact HM.out.f17
  go_wp2_with fail
  go_region_held3 (fun w' => w'.cell? ⟨P, 17, none⟩ = some (.int .i64 p.b)) (first | exact hq0 | exact hq1 | exact hq2)
    (first
      | (go_at_call 94; refine (d174 P ty c l p p.b _ (KQ.out.get H.out (by simp)) HM.out HF.out HI.out.1 HI.out.2).mono ?_; rintro e y1 ⟨rfl, hk1⟩; have hh1 : DBlk y1 P ty c := hk1.get (KQ.out.get H.out (by simp)) (by simp); have hq1 : y1.cell? ⟨P, 17, none⟩ = some (.int .i64 p.b) := by rw [cells_of hh1]; exact HM.out.f17)
      | (go_at_call 16; refine (c42 B D m (l.slot p.w p.b) _ (HB.out.keep (KQ.out.trans hk1) (by simp) (by simp))).mono ?_; rw [HX.out]; rintro e _ ⟨rfl, rfl⟩; have hc1 := cells_of hh1; have hz1 := free_of hh1; have g18 := HM.out.f18; have hq2 : (y1.setCell ⟨P, 18, none⟩ (.int .i64 x')).cell? ⟨P, 17, none⟩ = some (.int .i64 p.b) := by rw [cells_of (set_of hh1 18 (.int .i64 x')), Array.getElem?_setIfInBounds_ne (by omega)]; exact HM.out.f17))
  have HS := hid (show DBlk (y1.setCell ⟨P, 18, none⟩ (.int .i64 x')) P ty (c.setIfInBounds 18 (.int .i64 x')) from set_of hh1 18 _)
  have HK := hid (KQ.out.trans hk1)
  have HM1 := hid (HM.out.set18 x')
  clear hk1 hh1 hc1 hz1 g18 hq0 hq1 hq2
  have hc := cells_of HS.out
  have g16 := HM1.out.f16
  have g17 := HM1.out.f17
  have hd : decide (p.t < p.b) = false := decide_eq_false (by have := HLT.out; omega)
  go_wp2_with fail
  go_region_held3 (fun w' => ∀ i, w'.cell? ⟨P, i, none⟩ = (c.setIfInBounds 18 (.int .i64 x'))[i]?) (first | exact hc) (first | (fail))
  clear hc hd
  go_wp2_with fail
  go_end0
  exact ⟨rfl, ((HK.out.of_nil).setCell (.inl (by simp)) _).drew, _, (Kept.refl [] _).drew.get HS.out (by simp), HM1.out, (Past.refl c).set 18 _ (by omega)⟩
set_option maxHeartbeats 2000000 in
set_option maxRecDepth 100000 in
theorem d141_more (P B D : Nat) (ty : TypeId) (c : Array Value) (l : Lay) (p : Pt) (m : List Int) (w : World) (h : DBlk w P ty c) (hm : DC c l p) (hf : Fit l p.w) (hb : BankAt w B D m) (hPB : P ≠ B ∧ P ≠ D) (hle : ¬ p.b < p.t) (hlt : p.t < p.b) (h0 : 0 ≤ p.b) (h1 : p.b ≤ 1000000) :
    Calls Try.prog 69 #[.pointer (some ⟨P, 0, none⟩), .pointer (some ⟨B, 0, none⟩)] w fun e w' => e = .returned (.tuple #[]) ∧ Kept [P] w w' ∧ DPost w' P ty c l { p with x := ld m (l.slot p.w p.b), done := true, got := true } := by
  have H := hid h
  have HM := hid hm
  have HF := hid hf
  have HB := hid hb
  have HPB := hid hPB
  obtain ⟨x', hx'⟩ : ∃ x', ld m (l.slot p.w p.b) = x' := ⟨_, rfl⟩
  have HX := hid hx'
  rw [hx']
  have HI : Hid (0 ≤ p.b ∧ p.b ≤ 9223372036854775807) := hid ⟨h0, by omega⟩
  have hc := cells_of h
  have g16 := hm.f16
  have g17 := hm.f17
  have hd : decide (p.b < p.t) = false := decide_eq_false hle
  have HLT := hid hlt
  clear h hm hf hb hPB h0 h1 hle hlt hx'
  go_enter Try.func69, Try.ntmps69
  go_wp2_with fail
  go_region_held3 (fun w' => ∀ i, w'.cell? ⟨P, i, none⟩ = c[i]?) (first | exact hc) (first | (fail))
  clear hc hd
  have KQ := hid ((Kept.refl [] w).drew.drew)
  have hq0 : w.drew.drew.cell? ⟨P, 17, none⟩ = some (.int .i64 p.b) := by rw [cells_of (KQ.out.get H.out (by simp))]; exact HM.out.f17
  go_wp2_with fail
  go_region_held3 (fun w' => w'.cell? ⟨P, 17, none⟩ = some (.int .i64 p.b)) (first | exact hq0 | exact hq1 | exact hq2)
    (first
      | (go_at_call 94; refine (d174 P ty c l p p.b _ (KQ.out.get H.out (by simp)) HM.out HF.out HI.out.1 HI.out.2).mono ?_; rintro e y1 ⟨rfl, hk1⟩; have hh1 : DBlk y1 P ty c := hk1.get (KQ.out.get H.out (by simp)) (by simp); have hq1 : y1.cell? ⟨P, 17, none⟩ = some (.int .i64 p.b) := by rw [cells_of hh1]; exact HM.out.f17)
      | (go_at_call 16; refine (c42 B D m (l.slot p.w p.b) _ (HB.out.keep (KQ.out.trans hk1) (by simp) (by simp))).mono ?_; rw [HX.out]; rintro e _ ⟨rfl, rfl⟩; have hc1 := cells_of hh1; have hz1 := free_of hh1; have g18 := HM.out.f18; have hq2 : (y1.setCell ⟨P, 18, none⟩ (.int .i64 x')).cell? ⟨P, 17, none⟩ = some (.int .i64 p.b) := by rw [cells_of (set_of hh1 18 (.int .i64 x')), Array.getElem?_setIfInBounds_ne (by omega)]; exact HM.out.f17))
  have HS := hid (show DBlk (y1.setCell ⟨P, 18, none⟩ (.int .i64 x')) P ty (c.setIfInBounds 18 (.int .i64 x')) from set_of hh1 18 _)
  have HK := hid (KQ.out.trans hk1)
  have HM1 := hid (HM.out.set18 x')
  clear hk1 hh1 hc1 hz1 g18 hq0 hq1 hq2
  have hc := cells_of HS.out
  have g16 := HM1.out.f16
  have g17 := HM1.out.f17
  have hd : decide (p.t < p.b) = true := decide_eq_true (by have := HLT.out; omega)
  go_wp2_with fail
  go_region_held3 (fun w' => ∀ i, w'.cell? ⟨P, i, none⟩ = (c.setIfInBounds 18 (.int .i64 x'))[i]?) (first | exact hc) (first | (fail))
  clear hc hd
  go_wp2_with fail
  refine (d173 P ty _ l { p with x := x' } true _ ((Kept.refl [] _).drew.get HS.out (by simp)) HM1.out).mono ?_
  rintro e w2 ⟨rfl, hk2, c2, h2, hm2, hp2⟩
  have HK2 := hid hk2
  have HP2 := hid (And.intro h2 (And.intro hm2 hp2))
  clear hk2 h2 hm2 hp2
  go_wp2_with fail
  go_end0
  exact ⟨rfl, (((HK.out.of_nil).setCell (.inl (by simp)) _).drew).trans HK2.out, _, HP2.out.1, HP2.out.2.1, ((Past.refl c).set 18 _ (by omega)).trans HP2.out.2.2⟩
end Go.Proofs.Ytlbhckndejldcaa
