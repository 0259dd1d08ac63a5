/- Step of a pop, a steal, a push, stage by stage. -/
import Derived.Test.YtlbhckndejldcaaPush
namespace Go.Proofs.Ytlbhckndejldcaa
open Go.RowKit
attribute [local go_sem ↓] Go.wp_at_zero Go.wp_at_succ
set_option linter.unusedVariables false
set_option maxHeartbeats 2000000 in
set_option maxRecDepth 100000 in
theorem p70_0 (P B D : Nat) (ty : TypeId) (c : Array Value) (l : Lay) (p : Pt) (m : List Int) (v : Int) (hv : ld m (bot l p.w) = v) (w : World) (h : DBlk w P ty c) (hm : DC c l p) (hf : Fit l p.w) (hb : BankAt w B D m) (hPB : P ≠ B ∧ P ≠ D) (hat : p.at_ = 0) (hdn : p.done = false) (h0 : -1000000 ≤ v) (h1 : v ≤ 1000000) :
    Calls Try.prog 27 #[.pointer (some ⟨P, 0, none⟩), .pointer (some ⟨B, 0, none⟩)] w fun e w' => e = .returned (.bool false) ∧ Kept [P, D] w w' ∧ DPost w' P ty c l { p with at_ := 1, b := v - 1 } ∧ BankAt w' B D (m) := by
  have H := hid h
  have HM := hid hm
  have HF := hid hf
  have HB := hid hb
  have HPB := hid hPB
  have HAT := hid hat
  have HDN := hid hdn
  have HV := hid hv
  have HI := hid (And.intro h0 h1)
  clear hv
  have G := hid (d132 P ty c l p w h hm hdn (by omega) (by omega))
  have hix : ∀ W : World, (Instr.index 138 (.agg #[.func (.func 66) #[] #[], .func (.func 67) #[] #[], .func (.func 68) #[] #[], .func (.func 69) #[] #[], .func (.func 70) #[] #[], .func (.func 71) #[] #[]]) (.int .i64 0)).run Try.prog W = .ok (.func (.func 66) #[] #[]) W := fun _ => by kernel_rfl
  clear h hm hf hb hPB hat hdn h0 h1
  go_enter Try.func27, Try.ntmps27
  go_wp2_with fail
  refine G.out.mono ?_
  rw [HAT.out]
  rintro e w1 ⟨rfl, hk, c1, hh1, hm1, hp1⟩
  have HA := hid hh1
  have HM1 := hid hm1
  have HP1 := hid hp1
  have HK := hid hk
  have HBA := hid (HB.out.keep hk (by simpa using Ne.symm HPB.out.1) (by simpa using Ne.symm HPB.out.2))
  clear hh1 hm1 hp1 hk
  go_wp2_with fail
  refine (d138 P B D ty c1 l { p with at_ := 0 + 1 } m _ HA.out HM1.out HF.out HBA.out HPB.out (by have := HI.out; have := HV.out; show -1000000 ≤ ld m (bot l p.w); omega) (by have := HI.out; have := HV.out; show ld m (bot l p.w) ≤ 1000000; omega)).mono ?_
  rw [show ld m (bot l ({ p with at_ := 0 + 1 } : Pt).w) = v from HV.out]
  rintro e w2 ⟨rfl, hk, c2, h2, hm2, hp2⟩
  have HK2 : Hid (Kept [P, D] w w2) := hid ((HK.out.mono (by simp)).trans (hk.mono (by simp)))
  have HM2 := hid hm2
  have HP2 := hid hp2
  have H2 := hid h2
  have HB2 := hid (HBA.out.keep hk (by simpa using Ne.symm HPB.out.1) (by simpa using Ne.symm HPB.out.2))
  clear hk h2 hm2 hp2 
  have g19 := HM2.out.f19
  simp only [HDN.out] at g19
  have hc := cells_of H2.out
  clear hix
  go_wp2_with fail
  go_ret
  exact ⟨rfl, HK2.out, ⟨_, H2.out, HM2.out, HP1.out.trans HP2.out⟩, HB2.out⟩
set_option maxHeartbeats 2000000 in
set_option maxRecDepth 100000 in
theorem p70_1 (P B D : Nat) (ty : TypeId) (c : Array Value) (l : Lay) (p : Pt) (m : List Int) (w : World) (h : DBlk w P ty c) (hm : DC c l p) (hf : Fit l p.w) (hb : BankAt w B D m) (hPB : P ≠ B ∧ P ≠ D) (hat : p.at_ = 1) (hdn : p.done = false) :
    Calls Try.prog 27 #[.pointer (some ⟨P, 0, none⟩), .pointer (some ⟨B, 0, none⟩)] w fun e w' => e = .returned (.bool false) ∧ Kept [P, D] w w' ∧ DPost w' P ty c l { p with at_ := 2 } ∧ BankAt w' B D (st m (bot l p.w) p.b) := by
  have H := hid h
  have HM := hid hm
  have HF := hid hf
  have HB := hid hb
  have HPB := hid hPB
  have HAT := hid hat
  have HDN := hid hdn
  have G := hid (d132 P ty c l p w h hm hdn (by omega) (by omega))
  have hix : ∀ W : World, (Instr.index 138 (.agg #[.func (.func 66) #[] #[], .func (.func 67) #[] #[], .func (.func 68) #[] #[], .func (.func 69) #[] #[], .func (.func 70) #[] #[], .func (.func 71) #[] #[]]) (.int .i64 1)).run Try.prog W = .ok (.func (.func 67) #[] #[]) W := fun _ => by kernel_rfl
  clear h hm hf hb hPB hat hdn 
  go_enter Try.func27, Try.ntmps27
  go_wp2_with fail
  refine G.out.mono ?_
  rw [HAT.out]
  rintro e w1 ⟨rfl, hk, c1, hh1, hm1, hp1⟩
  have HA := hid hh1
  have HM1 := hid hm1
  have HP1 := hid hp1
  have HK := hid hk
  have HBA := hid (HB.out.keep hk (by simpa using Ne.symm HPB.out.1) (by simpa using Ne.symm HPB.out.2))
  clear hh1 hm1 hp1 hk
  go_wp2_with fail
  refine (d139 P B D ty c1 l { p with at_ := 1 + 1 } m _ HA.out HM1.out HF.out HBA.out HPB.out).mono ?_
  rintro e w2 ⟨rfl, hk, hh2, hb2⟩
  have HK2 : Hid (Kept [P, D] w w2) := hid ((HK.out.mono (by simp)).trans (hk.mono (by simp)))
  have HM2 := HM1
  have H2 := hid hh2
  have HB2 := hid hb2
  clear hk hh2 hb2
  have g19 := HM2.out.f19
  simp only [HDN.out] at g19
  have hc := cells_of H2.out
  clear hix
  go_wp2_with fail
  go_ret
  exact ⟨rfl, HK2.out, ⟨_, H2.out, HM2.out, HP1.out⟩, HB2.out⟩
set_option maxHeartbeats 2000000 in
set_option maxRecDepth 100000 in
theorem p70_2 (P B D : Nat) (ty : TypeId) (c : Array Value) (l : Lay) (p : Pt) (m : List Int) (v : Int) (hv : ld m (l.top p.w) = v) (w : World) (h : DBlk w P ty c) (hm : DC c l p) (hf : Fit l p.w) (hb : BankAt w B D m) (hPB : P ≠ B ∧ P ≠ D) (hat : p.at_ = 2) (hdn : p.done = false) :
    Calls Try.prog 27 #[.pointer (some ⟨P, 0, none⟩), .pointer (some ⟨B, 0, none⟩)] w fun e w' => e = .returned (.bool false) ∧ Kept [P, D] w w' ∧ DPost w' P ty c l { p with at_ := 3, t := v } ∧ BankAt w' B D (m) := by
  have H := hid h
  have HM := hid hm
  have HF := hid hf
  have HB := hid hb
  have HPB := hid hPB
  have HAT := hid hat
  have HDN := hid hdn
  have HV := hid hv
  clear hv
  have G := hid (d132 P ty c l p w h hm hdn (by omega) (by omega))
  have hix : ∀ W : World, (Instr.index 138 (.agg #[.func (.func 66) #[] #[], .func (.func 67) #[] #[], .func (.func 68) #[] #[], .func (.func 69) #[] #[], .func (.func 70) #[] #[], .func (.func 71) #[] #[]]) (.int .i64 2)).run Try.prog W = .ok (.func (.func 68) #[] #[]) W := fun _ => by kernel_rfl
  clear h hm hf hb hPB hat hdn 
  go_enter Try.func27, Try.ntmps27
  go_wp2_with fail
  refine G.out.mono ?_
  rw [HAT.out]
  rintro e w1 ⟨rfl, hk, c1, hh1, hm1, hp1⟩
  have HA := hid hh1
  have HM1 := hid hm1
  have HP1 := hid hp1
  have HK := hid hk
  have HBA := hid (HB.out.keep hk (by simpa using Ne.symm HPB.out.1) (by simpa using Ne.symm HPB.out.2))
  clear hh1 hm1 hp1 hk
  go_wp2_with fail
  refine (d140 P B D ty c1 l { p with at_ := 2 + 1 } m _ HA.out HM1.out HF.out HBA.out HPB.out).mono ?_
  rw [show ld m (l.top ({ p with at_ := 2 + 1 } : Pt).w) = v from HV.out]
  rintro e w2 ⟨rfl, hk, c2, h2, hm2, hp2⟩
  have HK2 : Hid (Kept [P, D] w w2) := hid ((HK.out.mono (by simp)).trans (hk.mono (by simp)))
  have HM2 := hid hm2
  have HP2 := hid hp2
  have H2 := hid h2
  have HB2 := hid (HBA.out.keep hk (by simpa using Ne.symm HPB.out.1) (by simpa using Ne.symm HPB.out.2))
  clear hk h2 hm2 hp2 
  have g19 := HM2.out.f19
  simp only [HDN.out] at g19
  have hc := cells_of H2.out
  clear hix
  go_wp2_with fail
  go_ret
  exact ⟨rfl, HK2.out, ⟨_, H2.out, HM2.out, HP1.out.trans HP2.out⟩, HB2.out⟩
set_option maxHeartbeats 2000000 in
set_option maxRecDepth 100000 in
theorem p70_3back (P B D : Nat) (ty : TypeId) (c : Array Value) (l : Lay) (p : Pt) (m : List Int) (w : World) (h : DBlk w P ty c) (hm : DC c l p) (hf : Fit l p.w) (hb : BankAt w B D m) (hPB : P ≠ B ∧ P ≠ D) (hat : p.at_ = 3) (hdn : p.done = false) (hlt : p.b < p.t) (h0 : -1000000 ≤ p.b) (h1 : p.b ≤ 1000000) :
    Calls Try.prog 27 #[.pointer (some ⟨P, 0, none⟩), .pointer (some ⟨B, 0, none⟩)] w fun e w' => e = .returned (.bool true) ∧ Kept [P, D] w w' ∧ DPost w' P ty c l { p with at_ := 4, done := true } ∧ BankAt w' B D (st m (bot l p.w) (p.b + 1)) := by
  have H := hid h
  have HM := hid hm
  have HF := hid hf
  have HB := hid hb
  have HPB := hid hPB
  have HAT := hid hat
  have HDN := hid hdn
  have HI := hid (And.intro hlt (And.intro h0 h1))
  have G := hid (d132 P ty c l p w h hm hdn (by omega) (by omega))
  have hix : ∀ W : World, (Instr.index 138 (.agg #[.func (.func 66) #[] #[], .func (.func 67) #[] #[], .func (.func 68) #[] #[], .func (.func 69) #[] #[], .func (.func 70) #[] #[], .func (.func 71) #[] #[]]) (.int .i64 3)).run Try.prog W = .ok (.func (.func 69) #[] #[]) W := fun _ => by kernel_rfl
  clear h hm hf hb hPB hat hdn hlt h0 h1
  go_enter Try.func27, Try.ntmps27
  go_wp2_with fail
  refine G.out.mono ?_
  rw [HAT.out]
  rintro e w1 ⟨rfl, hk, c1, hh1, hm1, hp1⟩
  have HA := hid hh1
  have HM1 := hid hm1
  have HP1 := hid hp1
  have HK := hid hk
  have HBA := hid (HB.out.keep hk (by simpa using Ne.symm HPB.out.1) (by simpa using Ne.symm HPB.out.2))
  clear hh1 hm1 hp1 hk
  go_wp2_with fail
  refine (d141_back P B D ty c1 l { p with at_ := 3 + 1 } m _ HA.out HM1.out HF.out HBA.out HPB.out HI.out.1 HI.out.2.1 HI.out.2.2).mono ?_
  rintro e w2 ⟨rfl, hk, ⟨c2, h2, hm2, hp2⟩, hb2⟩
  have HK2 : Hid (Kept [P, D] w w2) := hid ((HK.out.mono (by simp)).trans (hk))
  have HM2 := hid hm2
  have HP2 := hid hp2
  have H2 := hid h2
  have HB2 := hid (hb2)
  clear hk h2 hm2 hp2 hb2
  have g19 := HM2.out.f19
  have hc := cells_of H2.out
  clear hix
  go_wp2_with fail
  go_ret
  exact ⟨rfl, HK2.out, ⟨_, H2.out, HM2.out, HP1.out.trans HP2.out⟩, HB2.out⟩
set_option maxHeartbeats 2000000 in
set_option maxRecDepth 100000 in
theorem p70_3one (P B D : Nat) (ty : TypeId) (c : Array Value) (l : Lay) (p : Pt) (m : List Int) (v : Int) (hv : ld m (l.slot p.w p.b) = v) (w : World) (h : DBlk w P ty c) (hm : DC c l p) (hf : Fit l p.w) (hb : BankAt w B D m) (hPB : P ≠ B ∧ P ≠ D) (hat : p.at_ = 3) (hdn : p.done = false) (hle : p.t ≤ p.b) (hlt : p.b ≤ p.t) (h0 : 0 ≤ p.b) (h1 : p.b ≤ 1000000) :
    Calls Try.prog 27 #[.pointer (some ⟨P, 0, none⟩), .pointer (some ⟨B, 0, none⟩)] w fun e w' => e = .returned (.bool false) ∧ Kept [P, D] w w' ∧ DPost w' P ty c l { p with at_ := 4, x := v } ∧ BankAt w' B D (m) := by
  have H := hid h
  have HM := hid hm
  have HF := hid hf
  have HB := hid hb
  have HPB := hid hPB
  have HAT := hid hat
  have HDN := hid hdn
  have HV := hid hv
  clear hv
  have HI := hid (And.intro hle (And.intro hlt (And.intro h0 h1)))
  have G := hid (d132 P ty c l p w h hm hdn (by omega) (by omega))
  have hix : ∀ W : World, (Instr.index 138 (.agg #[.func (.func 66) #[] #[], .func (.func 67) #[] #[], .func (.func 68) #[] #[], .func (.func 69) #[] #[], .func (.func 70) #[] #[], .func (.func 71) #[] #[]]) (.int .i64 3)).run Try.prog W = .ok (.func (.func 69) #[] #[]) W := fun _ => by kernel_rfl
  clear h hm hf hb hPB hat hdn hle hlt h0 h1
  go_enter Try.func27, Try.ntmps27
  go_wp2_with fail
  refine G.out.mono ?_
  rw [HAT.out]
  rintro e w1 ⟨rfl, hk, c1, hh1, hm1, hp1⟩
  have HA := hid hh1
  have HM1 := hid hm1
  have HP1 := hid hp1
  have HK := hid hk
  have HBA := hid (HB.out.keep hk (by simpa using Ne.symm HPB.out.1) (by simpa using Ne.symm HPB.out.2))
  clear hh1 hm1 hp1 hk
  go_wp2_with fail
  refine (d141_one P B D ty c1 l { p with at_ := 3 + 1 } m _ HA.out HM1.out HF.out HBA.out HPB.out (Int.not_lt.2 HI.out.1) (Int.not_lt.2 HI.out.2.1) HI.out.2.2.1 HI.out.2.2.2).mono ?_
  rw [show ld m (l.slot ({ p with at_ := 3 + 1 } : Pt).w ({ p with at_ := 3 + 1 } : Pt).b) = v from HV.out]
  rintro e w2 ⟨rfl, hk, c2, h2, hm2, hp2⟩
  have HK2 : Hid (Kept [P, D] w w2) := hid ((HK.out.mono (by simp)).trans (hk.mono (by simp)))
  have HM2 := hid hm2
  have HP2 := hid hp2
  have H2 := hid h2
  have HB2 := hid (HBA.out.keep hk (by simpa using Ne.symm HPB.out.1) (by simpa using Ne.symm HPB.out.2))
  clear hk h2 hm2 hp2 
  have g19 := HM2.out.f19
  simp only [HDN.out] at g19
  have hc := cells_of H2.out
  clear hix
  go_wp2_with fail
  go_ret
  exact ⟨rfl, HK2.out, ⟨_, H2.out, HM2.out, HP1.out.trans HP2.out⟩, HB2.out⟩
set_option maxHeartbeats 2000000 in
set_option maxRecDepth 100000 in
theorem p70_3more (P B D : Nat) (ty : TypeId) (c : Array Value) (l : Lay) (p : Pt) (m : List Int) (v : Int) (hv : ld m (l.slot p.w p.b) = v) (w : World) (h : DBlk w P ty c) (hm : DC c l p) (hf : Fit l p.w) (hb : BankAt w B D m) (hPB : P ≠ B ∧ P ≠ D) (hat : p.at_ = 3) (hdn : p.done = false) (hle : p.t ≤ p.b) (hlt : p.t < p.b) (h0 : 0 ≤ p.b) (h1 : p.b ≤ 1000000) :
    Calls Try.prog 27 #[.pointer (some ⟨P, 0, none⟩), .pointer (some ⟨B, 0, none⟩)] w fun e w' => e = .returned (.bool true) ∧ Kept [P, D] w w' ∧ DPost w' P ty c l { p with at_ := 4, x := v, done := true, got := true } ∧ BankAt w' B D (m) := by
  have H := hid h
  have HM := hid hm
  have HF := hid hf
  have HB := hid hb
  have HPB := hid hPB
  have HAT := hid hat
  have HDN := hid hdn
  have HV := hid hv
  clear hv
  have HI := hid (And.intro hle (And.intro hlt (And.intro h0 h1)))
  have G := hid (d132 P ty c l p w h hm hdn (by omega) (by omega))
  have hix : ∀ W : World, (Instr.index 138 (.agg #[.func (.func 66) #[] #[], .func (.func 67) #[] #[], .func (.func 68) #[] #[], .func (.func 69) #[] #[], .func (.func 70) #[] #[], .func (.func 71) #[] #[]]) (.int .i64 3)).run Try.prog W = .ok (.func (.func 69) #[] #[]) W := fun _ => by kernel_rfl
  clear h hm hf hb hPB hat hdn hle hlt h0 h1
  go_enter Try.func27, Try.ntmps27
  go_wp2_with fail
  refine G.out.mono ?_
  rw [HAT.out]
  rintro e w1 ⟨rfl, hk, c1, hh1, hm1, hp1⟩
  have HA := hid hh1
  have HM1 := hid hm1
  have HP1 := hid hp1
  have HK := hid hk
  have HBA := hid (HB.out.keep hk (by simpa using Ne.symm HPB.out.1) (by simpa using Ne.symm HPB.out.2))
  clear hh1 hm1 hp1 hk
  go_wp2_with fail
  refine (d141_more P B D ty c1 l { p with at_ := 3 + 1 } m _ HA.out HM1.out HF.out HBA.out HPB.out (Int.not_lt.2 HI.out.1) HI.out.2.1 HI.out.2.2.1 HI.out.2.2.2).mono ?_
  rw [show ld m (l.slot ({ p with at_ := 3 + 1 } : Pt).w ({ p with at_ := 3 + 1 } : Pt).b) = v from HV.out]
  rintro e w2 ⟨rfl, hk, c2, h2, hm2, hp2⟩
  have HK2 : Hid (Kept [P, D] w w2) := hid ((HK.out.mono (by simp)).trans (hk.mono (by simp)))
  have HM2 := hid hm2
  have HP2 := hid hp2
  have H2 := hid h2
  have HB2 := hid (HBA.out.keep hk (by simpa using Ne.symm HPB.out.1) (by simpa using Ne.symm HPB.out.2))
  clear hk h2 hm2 hp2 
  have g19 := HM2.out.f19
  have hc := cells_of H2.out
  clear hix
  go_wp2_with fail
  go_ret
  exact ⟨rfl, HK2.out, ⟨_, H2.out, HM2.out, HP1.out.trans HP2.out⟩, HB2.out⟩
set_option maxHeartbeats 2000000 in
set_option maxRecDepth 100000 in
theorem p70_4 (P B D : Nat) (ty : TypeId) (c : Array Value) (l : Lay) (p : Pt) (m : List Int) (r : Bool) (hr : hits m (l.top p.w) p.t = r) (w : World) (h : DBlk w P ty c) (hm : DC c l p) (hf : Fit l p.w) (hb : BankAt w B D m) (hPB : P ≠ B ∧ P ≠ D) (hat : p.at_ = 4) (hdn : p.done = false) (h0 : -1000000 ≤ p.t) (h1 : p.t ≤ 1000000) :
    Calls Try.prog 27 #[.pointer (some ⟨P, 0, none⟩), .pointer (some ⟨B, 0, none⟩)] w fun e w' => e = .returned (.bool false) ∧ Kept [P, D] w w' ∧ DPost w' P ty c l { p with at_ := 5, got := r } ∧ BankAt w' B D (casB m (l.top p.w) p.t r) := by
  have H := hid h
  have HM := hid hm
  have HF := hid hf
  have HB := hid hb
  have HPB := hid hPB
  have HAT := hid hat
  have HDN := hid hdn
  have HR := hid hr
  have HI := hid (And.intro h0 h1)
  clear hr
  have G := hid (d132 P ty c l p w h hm hdn (by omega) (by omega))
  have hix : ∀ W : World, (Instr.index 138 (.agg #[.func (.func 66) #[] #[], .func (.func 67) #[] #[], .func (.func 68) #[] #[], .func (.func 69) #[] #[], .func (.func 70) #[] #[], .func (.func 71) #[] #[]]) (.int .i64 4)).run Try.prog W = .ok (.func (.func 70) #[] #[]) W := fun _ => by kernel_rfl
  clear h hm hf hb hPB hat hdn h0 h1
  go_enter Try.func27, Try.ntmps27
  go_wp2_with fail
  refine G.out.mono ?_
  rw [HAT.out]
  rintro e w1 ⟨rfl, hk, c1, hh1, hm1, hp1⟩
  have HA := hid hh1
  have HM1 := hid hm1
  have HP1 := hid hp1
  have HK := hid hk
  have HBA := hid (HB.out.keep hk (by simpa using Ne.symm HPB.out.1) (by simpa using Ne.symm HPB.out.2))
  clear hh1 hm1 hp1 hk
  go_wp2_with fail
  refine (d142 P B D ty c1 l { p with at_ := 4 + 1 } m r HR.out _ HA.out HM1.out HF.out HBA.out HPB.out HI.out.1 HI.out.2).mono ?_
  rintro e w2 ⟨rfl, hk, ⟨c2, h2, hm2, hp2⟩, hb2⟩
  have HK2 : Hid (Kept [P, D] w w2) := hid ((HK.out.mono (by simp)).trans (hk))
  have HM2 := hid hm2
  have HP2 := hid hp2
  have H2 := hid h2
  have HB2 := hid (hb2)
  clear hk h2 hm2 hp2 hb2
  have g19 := HM2.out.f19
  simp only [HDN.out] at g19
  have hc := cells_of H2.out
  clear hix
  go_wp2_with fail
  go_ret
  exact ⟨rfl, HK2.out, ⟨_, H2.out, HM2.out, HP1.out.trans HP2.out⟩, HB2.out⟩
set_option maxHeartbeats 2000000 in
set_option maxRecDepth 100000 in
theorem p70_5 (P B D : Nat) (ty : TypeId) (c : Array Value) (l : Lay) (p : Pt) (m : List Int) (v : Int) (hv : v = p.b + 1) (w : World) (h : DBlk w P ty c) (hm : DC c l p) (hf : Fit l p.w) (hb : BankAt w B D m) (hPB : P ≠ B ∧ P ≠ D) (hat : p.at_ = 5) (hdn : p.done = false) (h0 : -1000000 ≤ p.b) (h1 : p.b ≤ 1000000) :
    Calls Try.prog 27 #[.pointer (some ⟨P, 0, none⟩), .pointer (some ⟨B, 0, none⟩)] w fun e w' => e = .returned (.bool true) ∧ Kept [P, D] w w' ∧ DPost w' P ty c l { p with at_ := 6, done := true } ∧ BankAt w' B D (st m (bot l p.w) v) := by
  have H := hid h
  have HM := hid hm
  have HF := hid hf
  have HB := hid hb
  have HPB := hid hPB
  have HAT := hid hat
  have HDN := hid hdn
  have HV := hid hv
  have HI := hid (And.intro h0 h1)
  clear hv
  have G := hid (d132 P ty c l p w h hm hdn (by omega) (by omega))
  have hix : ∀ W : World, (Instr.index 138 (.agg #[.func (.func 66) #[] #[], .func (.func 67) #[] #[], .func (.func 68) #[] #[], .func (.func 69) #[] #[], .func (.func 70) #[] #[], .func (.func 71) #[] #[]]) (.int .i64 5)).run Try.prog W = .ok (.func (.func 71) #[] #[]) W := fun _ => by kernel_rfl
  clear h hm hf hb hPB hat hdn h0 h1
  go_enter Try.func27, Try.ntmps27
  go_wp2_with fail
  refine G.out.mono ?_
  rw [HAT.out]
  rintro e w1 ⟨rfl, hk, c1, hh1, hm1, hp1⟩
  have HA := hid hh1
  have HM1 := hid hm1
  have HP1 := hid hp1
  have HK := hid hk
  have HBA := hid (HB.out.keep hk (by simpa using Ne.symm HPB.out.1) (by simpa using Ne.symm HPB.out.2))
  clear hh1 hm1 hp1 hk
  go_wp2_with fail
  refine (d143 P B D ty c1 l { p with at_ := 5 + 1 } m v HV.out _ HA.out HM1.out HF.out HBA.out HPB.out HI.out.1 HI.out.2).mono ?_
  rintro e w2 ⟨rfl, hk, ⟨c2, h2, hm2, hp2⟩, hb2⟩
  have HK2 : Hid (Kept [P, D] w w2) := hid ((HK.out.mono (by simp)).trans (hk))
  have HM2 := hid hm2
  have HP2 := hid hp2
  have H2 := hid h2
  have HB2 := hid (hb2)
  clear hk h2 hm2 hp2 hb2
  have g19 := HM2.out.f19
  have hc := cells_of H2.out
  clear hix
  go_wp2_with fail
  go_ret
  exact ⟨rfl, HK2.out, ⟨_, H2.out, HM2.out, HP1.out.trans HP2.out⟩, HB2.out⟩
set_option maxHeartbeats 2000000 in
set_option maxRecDepth 100000 in
theorem p67_0 (P B D : Nat) (ty : TypeId) (c : Array Value) (l : Lay) (p : Pt) (m : List Int) (v : Int) (hv : ld m (l.top p.w) = v) (w : World) (h : DBlk w P ty c) (hm : DC c l p) (hf : Fit l p.w) (hb : BankAt w B D m) (hPB : P ≠ B ∧ P ≠ D) (hat : p.at_ = 0) (hdn : p.done = false) :
    Calls Try.prog 24 #[.pointer (some ⟨P, 0, none⟩), .pointer (some ⟨B, 0, none⟩)] w fun e w' => e = .returned (.bool false) ∧ Kept [P, D] w w' ∧ DPost w' P ty c l { p with at_ := 1, t := v } ∧ BankAt w' B D (m) := by
  have H := hid h
  have HM := hid hm
  have HF := hid hf
  have HB := hid hb
  have HPB := hid hPB
  have HAT := hid hat
  have HDN := hid hdn
  have HV := hid hv
  clear hv
  have G := hid (d132 P ty c l p w h hm hdn (by omega) (by omega))
  have hix : ∀ W : World, (Instr.index 136 (.agg #[.func (.func 61) #[] #[], .func (.func 62) #[] #[], .func (.func 63) #[] #[], .func (.func 64) #[] #[]]) (.int .i64 0)).run Try.prog W = .ok (.func (.func 61) #[] #[]) W := fun _ => by kernel_rfl
  clear h hm hf hb hPB hat hdn 
  go_enter Try.func24, Try.ntmps24
  go_wp2_with fail
  refine G.out.mono ?_
  rw [HAT.out]
  rintro e w1 ⟨rfl, hk, c1, hh1, hm1, hp1⟩
  have HA := hid hh1
  have HM1 := hid hm1
  have HP1 := hid hp1
  have HK := hid hk
  have HBA := hid (HB.out.keep hk (by simpa using Ne.symm HPB.out.1) (by simpa using Ne.symm HPB.out.2))
  clear hh1 hm1 hp1 hk
  go_wp2_with fail
  refine (d133 P B D ty c1 l { p with at_ := 0 + 1 } m _ HA.out HM1.out HF.out HBA.out HPB.out).mono ?_
  rw [show ld m (l.top ({ p with at_ := 0 + 1 } : Pt).w) = v from HV.out]
  rintro e w2 ⟨rfl, hk, c2, h2, hm2, hp2⟩
  have HK2 : Hid (Kept [P, D] w w2) := hid ((HK.out.mono (by simp)).trans (hk.mono (by simp)))
  have HM2 := hid hm2
  have HP2 := hid hp2
  have H2 := hid h2
  have HB2 := hid (HBA.out.keep hk (by simpa using Ne.symm HPB.out.1) (by simpa using Ne.symm HPB.out.2))
  clear hk h2 hm2 hp2 
  have g19 := HM2.out.f19
  simp only [HDN.out] at g19
  have hc := cells_of H2.out
  clear hix
  go_wp2_with fail
  go_ret
  exact ⟨rfl, HK2.out, ⟨_, H2.out, HM2.out, HP1.out.trans HP2.out⟩, HB2.out⟩
set_option maxHeartbeats 2000000 in
set_option maxRecDepth 100000 in
theorem p67_1none (P B D : Nat) (ty : TypeId) (c : Array Value) (l : Lay) (p : Pt) (m : List Int) (v : Int) (hv : ld m (bot l p.w) = v) (w : World) (h : DBlk w P ty c) (hm : DC c l p) (hf : Fit l p.w) (hb : BankAt w B D m) (hPB : P ≠ B ∧ P ≠ D) (hat : p.at_ = 1) (hdn : p.done = false) (hlt : v ≤ p.t) :
    Calls Try.prog 24 #[.pointer (some ⟨P, 0, none⟩), .pointer (some ⟨B, 0, none⟩)] w fun e w' => e = .returned (.bool true) ∧ Kept [P, D] w w' ∧ DPost w' P ty c l { p with at_ := 2, b := v, done := true, got := false } ∧ BankAt w' B D (m) := by
  have H := hid h
  have HM := hid hm
  have HF := hid hf
  have HB := hid hb
  have HPB := hid hPB
  have HAT := hid hat
  have HDN := hid hdn
  have HV := hid hv
  clear hv
  have HI := hid hlt
  have G := hid (d132 P ty c l p w h hm hdn (by omega) (by omega))
  have hix : ∀ W : World, (Instr.index 136 (.agg #[.func (.func 61) #[] #[], .func (.func 62) #[] #[], .func (.func 63) #[] #[], .func (.func 64) #[] #[]]) (.int .i64 1)).run Try.prog W = .ok (.func (.func 62) #[] #[]) W := fun _ => by kernel_rfl
  clear h hm hf hb hPB hat hdn hlt
  go_enter Try.func24, Try.ntmps24
  go_wp2_with fail
  refine G.out.mono ?_
  rw [HAT.out]
  rintro e w1 ⟨rfl, hk, c1, hh1, hm1, hp1⟩
  have HA := hid hh1
  have HM1 := hid hm1
  have HP1 := hid hp1
  have HK := hid hk
  have HBA := hid (HB.out.keep hk (by simpa using Ne.symm HPB.out.1) (by simpa using Ne.symm HPB.out.2))
  clear hh1 hm1 hp1 hk
  go_wp2_with fail
  refine (d134_none P B D ty c1 l { p with at_ := 1 + 1 } m v HV.out _ HA.out HM1.out HF.out HBA.out HPB.out HI.out).mono ?_
  rintro e w2 ⟨rfl, hk, c2, h2, hm2, hp2⟩
  have HK2 : Hid (Kept [P, D] w w2) := hid ((HK.out.mono (by simp)).trans (hk.mono (by simp)))
  have HM2 := hid hm2
  have HP2 := hid hp2
  have H2 := hid h2
  have HB2 := hid (HBA.out.keep hk (by simpa using Ne.symm HPB.out.1) (by simpa using Ne.symm HPB.out.2))
  clear hk h2 hm2 hp2 
  have g19 := HM2.out.f19
  have hc := cells_of H2.out
  clear hix
  go_wp2_with fail
  go_ret
  exact ⟨rfl, HK2.out, ⟨_, H2.out, HM2.out, HP1.out.trans HP2.out⟩, HB2.out⟩
set_option maxHeartbeats 2000000 in
set_option maxRecDepth 100000 in
theorem p67_1more (P B D : Nat) (ty : TypeId) (c : Array Value) (l : Lay) (p : Pt) (m : List Int) (v : Int) (hv : ld m (bot l p.w) = v) (w : World) (h : DBlk w P ty c) (hm : DC c l p) (hf : Fit l p.w) (hb : BankAt w B D m) (hPB : P ≠ B ∧ P ≠ D) (hat : p.at_ = 1) (hdn : p.done = false) (hlt : p.t < v) :
    Calls Try.prog 24 #[.pointer (some ⟨P, 0, none⟩), .pointer (some ⟨B, 0, none⟩)] w fun e w' => e = .returned (.bool false) ∧ Kept [P, D] w w' ∧ DPost w' P ty c l { p with at_ := 2, b := v } ∧ BankAt w' B D (m) := by
  have H := hid h
  have HM := hid hm
  have HF := hid hf
  have HB := hid hb
  have HPB := hid hPB
  have HAT := hid hat
  have HDN := hid hdn
  have HV := hid hv
  clear hv
  have HI := hid hlt
  have G := hid (d132 P ty c l p w h hm hdn (by omega) (by omega))
  have hix : ∀ W : World, (Instr.index 136 (.agg #[.func (.func 61) #[] #[], .func (.func 62) #[] #[], .func (.func 63) #[] #[], .func (.func 64) #[] #[]]) (.int .i64 1)).run Try.prog W = .ok (.func (.func 62) #[] #[]) W := fun _ => by kernel_rfl
  clear h hm hf hb hPB hat hdn hlt
  go_enter Try.func24, Try.ntmps24
  go_wp2_with fail
  refine G.out.mono ?_
  rw [HAT.out]
  rintro e w1 ⟨rfl, hk, c1, hh1, hm1, hp1⟩
  have HA := hid hh1
  have HM1 := hid hm1
  have HP1 := hid hp1
  have HK := hid hk
  have HBA := hid (HB.out.keep hk (by simpa using Ne.symm HPB.out.1) (by simpa using Ne.symm HPB.out.2))
  clear hh1 hm1 hp1 hk
  go_wp2_with fail
  refine (d134_more P B D ty c1 l { p with at_ := 1 + 1 } m v HV.out _ HA.out HM1.out HF.out HBA.out HPB.out (Int.not_le.2 HI.out)).mono ?_
  rintro e w2 ⟨rfl, hk, c2, h2, hm2, hp2⟩
  have HK2 : Hid (Kept [P, D] w w2) := hid ((HK.out.mono (by simp)).trans (hk.mono (by simp)))
  have HM2 := hid hm2
  have HP2 := hid hp2
  have H2 := hid h2
  have HB2 := hid (HBA.out.keep hk (by simpa using Ne.symm HPB.out.1) (by simpa using Ne.symm HPB.out.2))
  clear hk h2 hm2 hp2 
  have g19 := HM2.out.f19
  simp only [HDN.out] at g19
  have hc := cells_of H2.out
  clear hix
  go_wp2_with fail
  go_ret
  exact ⟨rfl, HK2.out, ⟨_, H2.out, HM2.out, HP1.out.trans HP2.out⟩, HB2.out⟩
set_option maxHeartbeats 2000000 in
set_option maxRecDepth 100000 in
theorem p67_2 (P B D : Nat) (ty : TypeId) (c : Array Value) (l : Lay) (p : Pt) (m : List Int) (v : Int) (hv : ld m (l.slot p.w p.t) = v) (w : World) (h : DBlk w P ty c) (hm : DC c l p) (hf : Fit l p.w) (hb : BankAt w B D m) (hPB : P ≠ B ∧ P ≠ D) (hat : p.at_ = 2) (hdn : p.done = false) (h0 : 0 ≤ p.t) (h1 : p.t ≤ 1000000) :
    Calls Try.prog 24 #[.pointer (some ⟨P, 0, none⟩), .pointer (some ⟨B, 0, none⟩)] w fun e w' => e = .returned (.bool false) ∧ Kept [P, D] w w' ∧ DPost w' P ty c l { p with at_ := 3, x := v } ∧ BankAt w' B D (m) := by
  have H := hid h
  have HM := hid hm
  have HF := hid hf
  have HB := hid hb
  have HPB := hid hPB
  have HAT := hid hat
  have HDN := hid hdn
  have HV := hid hv
  clear hv
  have HI := hid (And.intro h0 h1)
  have G := hid (d132 P ty c l p w h hm hdn (by omega) (by omega))
  have hix : ∀ W : World, (Instr.index 136 (.agg #[.func (.func 61) #[] #[], .func (.func 62) #[] #[], .func (.func 63) #[] #[], .func (.func 64) #[] #[]]) (.int .i64 2)).run Try.prog W = .ok (.func (.func 63) #[] #[]) W := fun _ => by kernel_rfl
  clear h hm hf hb hPB hat hdn h0 h1
  go_enter Try.func24, Try.ntmps24
  go_wp2_with fail
  refine G.out.mono ?_
  rw [HAT.out]
  rintro e w1 ⟨rfl, hk, c1, hh1, hm1, hp1⟩
  have HA := hid hh1
  have HM1 := hid hm1
  have HP1 := hid hp1
  have HK := hid hk
  have HBA := hid (HB.out.keep hk (by simpa using Ne.symm HPB.out.1) (by simpa using Ne.symm HPB.out.2))
  clear hh1 hm1 hp1 hk
  go_wp2_with fail
  refine (d135 P B D ty c1 l { p with at_ := 2 + 1 } m _ HA.out HM1.out HF.out HBA.out HPB.out HI.out.1 HI.out.2).mono ?_
  rw [show ld m (l.slot ({ p with at_ := 2 + 1 } : Pt).w ({ p with at_ := 2 + 1 } : Pt).t) = v from HV.out]
  rintro e w2 ⟨rfl, hk, c2, h2, hm2, hp2⟩
  have HK2 : Hid (Kept [P, D] w w2) := hid ((HK.out.mono (by simp)).trans (hk.mono (by simp)))
  have HM2 := hid hm2
  have HP2 := hid hp2
  have H2 := hid h2
  have HB2 := hid (HBA.out.keep hk (by simpa using Ne.symm HPB.out.1) (by simpa using Ne.symm HPB.out.2))
  clear hk h2 hm2 hp2 
  have g19 := HM2.out.f19
  simp only [HDN.out] at g19
  have hc := cells_of H2.out
  clear hix
  go_wp2_with fail
  go_ret
  exact ⟨rfl, HK2.out, ⟨_, H2.out, HM2.out, HP1.out.trans HP2.out⟩, HB2.out⟩
set_option maxHeartbeats 2000000 in
set_option maxRecDepth 100000 in
theorem p67_3 (P B D : Nat) (ty : TypeId) (c : Array Value) (l : Lay) (p : Pt) (m : List Int) (r ls : Bool) (hr : hits m (l.top p.w) p.t = r) (hx : c[21]? = some (.bool ls)) (w : World) (h : DBlk w P ty c) (hm : DC c l p) (hf : Fit l p.w) (hb : BankAt w B D m) (hPB : P ≠ B ∧ P ≠ D) (hat : p.at_ = 3) (hdn : p.done = false) (h0 : -1000000 ≤ p.t) (h1 : p.t ≤ 1000000) :
    Calls Try.prog 24 #[.pointer (some ⟨P, 0, none⟩), .pointer (some ⟨B, 0, none⟩)] w fun e w' => e = .returned (.bool true) ∧ Kept [P, D] w w' ∧ (∃ c', DBlk w' P ty c' ∧ DC c' l { p with at_ := 4, done := true, got := r } ∧ c'[21]? = some (.bool (!r)) ∧ c'.size = c.size) ∧ BankAt w' B D (casB m (l.top p.w) p.t r) := by
  have H := hid h
  have HM := hid hm
  have HF := hid hf
  have HB := hid hb
  have HPB := hid hPB
  have HAT := hid hat
  have HDN := hid hdn
  have HR := hid hr
  have HX := hid hx
  have HI := hid (And.intro h0 h1)
  clear hr hx
  have G := hid (d132 P ty c l p w h hm hdn (by omega) (by omega))
  have hix : ∀ W : World, (Instr.index 136 (.agg #[.func (.func 61) #[] #[], .func (.func 62) #[] #[], .func (.func 63) #[] #[], .func (.func 64) #[] #[]]) (.int .i64 3)).run Try.prog W = .ok (.func (.func 64) #[] #[]) W := fun _ => by kernel_rfl
  clear h hm hf hb hPB hat hdn h0 h1
  go_enter Try.func24, Try.ntmps24
  go_wp2_with fail
  refine G.out.mono ?_
  rw [HAT.out]
  rintro e w1 ⟨rfl, hk, c1, hh1, hm1, hp1⟩
  have HA := hid hh1
  have HM1 := hid hm1
  have HP1 := hid hp1
  have HK := hid hk
  have HBA := hid (HB.out.keep hk (by simpa using Ne.symm HPB.out.1) (by simpa using Ne.symm HPB.out.2))
  clear hh1 hm1 hp1 hk
  go_wp2_with fail
  refine (d136 P B D ty c1 l { p with at_ := 3 + 1 } m r ls HR.out (by rw [HP1.out.2 21 (by omega)]; exact HX.out) _ HA.out HM1.out HF.out HBA.out HPB.out HI.out.1 HI.out.2).mono ?_
  rintro e w2 ⟨rfl, hk, ⟨c2, h2, hm2, hx2, hp2⟩, hb2⟩
  have HX2 := hid hx2
  clear hx2
  have HK2 : Hid (Kept [P, D] w w2) := hid ((HK.out.mono (by simp)).trans (hk))
  have HM2 := hid hm2
  have HP2 := hid hp2
  have H2 := hid h2
  have HB2 := hid (hb2)
  clear hk h2 hm2 hp2 hb2
  have g19 := HM2.out.f19
  have hc := cells_of H2.out
  clear hix
  go_wp2_with fail
  go_ret
  exact ⟨rfl, HK2.out, ⟨_, H2.out, HM2.out, HX2.out, HP2.out.trans HP1.out.1⟩, HB2.out⟩
set_option maxHeartbeats 2000000 in
set_option maxRecDepth 100000 in
theorem p159_0 (P B D : Nat) (ty : TypeId) (c : Array Value) (l : Lay) (p : Pt) (m : List Int) (v : Int) (hv : ld m (bot l p.w) = v) (w : World) (h : DBlk w P ty c) (hm : DC c l p) (hf : Fit l p.w) (hb : BankAt w B D m) (hPB : P ≠ B ∧ P ≠ D) (hat : p.at_ = 0) (hdn : p.done = false) :
    Calls Try.prog 72 #[.pointer (some ⟨P, 0, none⟩), .pointer (some ⟨B, 0, none⟩)] w fun e w' => e = .returned (.bool false) ∧ Kept [P, D] w w' ∧ DPost w' P ty c l { p with at_ := 1, b := v } ∧ BankAt w' B D (m) := by
  have H := hid h
  have HM := hid hm
  have HF := hid hf
  have HB := hid hb
  have HPB := hid hPB
  have HAT := hid hat
  have HDN := hid hdn
  have HV := hid hv
  clear hv
  have G := hid (d132 P ty c l p w h hm hdn (by omega) (by omega))
  have hix : ∀ W : World, (Instr.index 167 (.agg #[.func (.func 98) #[] #[], .func (.func 99) #[] #[], .func (.func 100) #[] #[], .func (.func 101) #[] #[]]) (.int .i64 0)).run Try.prog W = .ok (.func (.func 98) #[] #[]) W := fun _ => by kernel_rfl
  clear h hm hf hb hPB hat hdn 
  go_enter Try.func72, Try.ntmps72
  go_wp2_with fail
  refine G.out.mono ?_
  rw [HAT.out]
  rintro e w1 ⟨rfl, hk, c1, hh1, hm1, hp1⟩
  have HA := hid hh1
  have HM1 := hid hm1
  have HP1 := hid hp1
  have HK := hid hk
  have HBA := hid (HB.out.keep hk (by simpa using Ne.symm HPB.out.1) (by simpa using Ne.symm HPB.out.2))
  clear hh1 hm1 hp1 hk
  go_wp2_with fail
  refine (d180 P B D ty c1 l { p with at_ := 0 + 1 } m _ HA.out HM1.out HF.out HBA.out HPB.out).mono ?_
  rw [show ld m (bot l ({ p with at_ := 0 + 1 } : Pt).w) = v from HV.out]
  rintro e w2 ⟨rfl, hk, c2, h2, hm2, hp2⟩
  have HK2 : Hid (Kept [P, D] w w2) := hid ((HK.out.mono (by simp)).trans (hk.mono (by simp)))
  have HM2 := hid hm2
  have HP2 := hid hp2
  have H2 := hid h2
  have HB2 := hid (HBA.out.keep hk (by simpa using Ne.symm HPB.out.1) (by simpa using Ne.symm HPB.out.2))
  clear hk h2 hm2 hp2 
  have g19 := HM2.out.f19
  simp only [HDN.out] at g19
  have hc := cells_of H2.out
  clear hix
  go_wp2_with fail
  go_ret
  exact ⟨rfl, HK2.out, ⟨_, H2.out, HM2.out, HP1.out.trans HP2.out⟩, HB2.out⟩
set_option maxHeartbeats 2000000 in
set_option maxRecDepth 100000 in
theorem p159_1full (P B D : Nat) (ty : TypeId) (c : Array Value) (l : Lay) (p : Pt) (m : List Int) (v : Int) (hv : ld m (l.top p.w) = v) (w : World) (h : DBlk w P ty c) (hm : DC c l p) (hf : Fit l p.w) (hb : BankAt w B D m) (hPB : P ≠ B ∧ P ≠ D) (hat : p.at_ = 1) (hdn : p.done = false) (hlt : l.room ≤ p.b - v) (h0 : -1000000 ≤ v) (h1 : v ≤ 1000000) (h2 : -1000000 ≤ p.b) (h3 : p.b ≤ 1000000) :
    Calls Try.prog 72 #[.pointer (some ⟨P, 0, none⟩), .pointer (some ⟨B, 0, none⟩)] w fun e w' => e = .returned (.bool true) ∧ Kept [P, D] w w' ∧ DPost w' P ty c l { p with at_ := 2, t := v, done := true, got := false } ∧ BankAt w' B D (m) := by
  have H := hid h
  have HM := hid hm
  have HF := hid hf
  have HB := hid hb
  have HPB := hid hPB
  have HAT := hid hat
  have HDN := hid hdn
  have HV := hid hv
  clear hv
  have HI := hid (And.intro hlt (And.intro h0 (And.intro h1 (And.intro h2 h3))))
  have G := hid (d132 P ty c l p w h hm hdn (by omega) (by omega))
  have hix : ∀ W : World, (Instr.index 167 (.agg #[.func (.func 98) #[] #[], .func (.func 99) #[] #[], .func (.func 100) #[] #[], .func (.func 101) #[] #[]]) (.int .i64 1)).run Try.prog W = .ok (.func (.func 99) #[] #[]) W := fun _ => by kernel_rfl
  clear h hm hf hb hPB hat hdn hlt h0 h1 h2 h3
  go_enter Try.func72, Try.ntmps72
  go_wp2_with fail
  refine G.out.mono ?_
  rw [HAT.out]
  rintro e w1 ⟨rfl, hk, c1, hh1, hm1, hp1⟩
  have HA := hid hh1
  have HM1 := hid hm1
  have HP1 := hid hp1
  have HK := hid hk
  have HBA := hid (HB.out.keep hk (by simpa using Ne.symm HPB.out.1) (by simpa using Ne.symm HPB.out.2))
  clear hh1 hm1 hp1 hk
  go_wp2_with fail
  refine (d181_full P B D ty c1 l { p with at_ := 1 + 1 } m v HV.out _ HA.out HM1.out HF.out HBA.out HPB.out HI.out.1 HI.out.2.1 HI.out.2.2.1 HI.out.2.2.2.1 HI.out.2.2.2.2).mono ?_
  rintro e w2 ⟨rfl, hk, c2, h2, hm2, hp2⟩
  have HK2 : Hid (Kept [P, D] w w2) := hid ((HK.out.mono (by simp)).trans (hk.mono (by simp)))
  have HM2 := hid hm2
  have HP2 := hid hp2
  have H2 := hid h2
  have HB2 := hid (HBA.out.keep hk (by simpa using Ne.symm HPB.out.1) (by simpa using Ne.symm HPB.out.2))
  clear hk h2 hm2 hp2 
  have g19 := HM2.out.f19
  have hc := cells_of H2.out
  clear hix
  go_wp2_with fail
  go_ret
  exact ⟨rfl, HK2.out, ⟨_, H2.out, HM2.out, HP1.out.trans HP2.out⟩, HB2.out⟩
set_option maxHeartbeats 2000000 in
set_option maxRecDepth 100000 in
theorem p159_1more (P B D : Nat) (ty : TypeId) (c : Array Value) (l : Lay) (p : Pt) (m : List Int) (v : Int) (hv : ld m (l.top p.w) = v) (w : World) (h : DBlk w P ty c) (hm : DC c l p) (hf : Fit l p.w) (hb : BankAt w B D m) (hPB : P ≠ B ∧ P ≠ D) (hat : p.at_ = 1) (hdn : p.done = false) (hlt : p.b - v < l.room) (h0 : -1000000 ≤ v) (h1 : v ≤ 1000000) (h2 : -1000000 ≤ p.b) (h3 : p.b ≤ 1000000) :
    Calls Try.prog 72 #[.pointer (some ⟨P, 0, none⟩), .pointer (some ⟨B, 0, none⟩)] w fun e w' => e = .returned (.bool false) ∧ Kept [P, D] w w' ∧ DPost w' P ty c l { p with at_ := 2, t := v } ∧ BankAt w' B D (m) := by
  have H := hid h
  have HM := hid hm
  have HF := hid hf
  have HB := hid hb
  have HPB := hid hPB
  have HAT := hid hat
  have HDN := hid hdn
  have HV := hid hv
  clear hv
  have HI := hid (And.intro hlt (And.intro h0 (And.intro h1 (And.intro h2 h3))))
  have G := hid (d132 P ty c l p w h hm hdn (by omega) (by omega))
  have hix : ∀ W : World, (Instr.index 167 (.agg #[.func (.func 98) #[] #[], .func (.func 99) #[] #[], .func (.func 100) #[] #[], .func (.func 101) #[] #[]]) (.int .i64 1)).run Try.prog W = .ok (.func (.func 99) #[] #[]) W := fun _ => by kernel_rfl
  clear h hm hf hb hPB hat hdn hlt h0 h1 h2 h3
  go_enter Try.func72, Try.ntmps72
  go_wp2_with fail
  refine G.out.mono ?_
  rw [HAT.out]
  rintro e w1 ⟨rfl, hk, c1, hh1, hm1, hp1⟩
  have HA := hid hh1
  have HM1 := hid hm1
  have HP1 := hid hp1
  have HK := hid hk
  have HBA := hid (HB.out.keep hk (by simpa using Ne.symm HPB.out.1) (by simpa using Ne.symm HPB.out.2))
  clear hh1 hm1 hp1 hk
  go_wp2_with fail
  refine (d181_more P B D ty c1 l { p with at_ := 1 + 1 } m v HV.out _ HA.out HM1.out HF.out HBA.out HPB.out (Int.not_le.2 HI.out.1) HI.out.2.1 HI.out.2.2.1 HI.out.2.2.2.1 HI.out.2.2.2.2).mono ?_
  rintro e w2 ⟨rfl, hk, c2, h2, hm2, hp2⟩
  have HK2 : Hid (Kept [P, D] w w2) := hid ((HK.out.mono (by simp)).trans (hk.mono (by simp)))
  have HM2 := hid hm2
  have HP2 := hid hp2
  have H2 := hid h2
  have HB2 := hid (HBA.out.keep hk (by simpa using Ne.symm HPB.out.1) (by simpa using Ne.symm HPB.out.2))
  clear hk h2 hm2 hp2 
  have g19 := HM2.out.f19
  simp only [HDN.out] at g19
  have hc := cells_of H2.out
  clear hix
  go_wp2_with fail
  go_ret
  exact ⟨rfl, HK2.out, ⟨_, H2.out, HM2.out, HP1.out.trans HP2.out⟩, HB2.out⟩
set_option maxHeartbeats 2000000 in
set_option maxRecDepth 100000 in
theorem p159_2 (P B D : Nat) (ty : TypeId) (c : Array Value) (l : Lay) (p : Pt) (m : List Int) (v : Int) (hx : c[21]? = some (.int .i64 v)) (w : World) (h : DBlk w P ty c) (hm : DC c l p) (hf : Fit l p.w) (hb : BankAt w B D m) (hPB : P ≠ B ∧ P ≠ D) (hat : p.at_ = 2) (hdn : p.done = false) (h0 : 0 ≤ p.b) (h1 : p.b ≤ 1000000) :
    Calls Try.prog 72 #[.pointer (some ⟨P, 0, none⟩), .pointer (some ⟨B, 0, none⟩)] w fun e w' => e = .returned (.bool false) ∧ Kept [P, D] w w' ∧ DPost w' P ty c l { p with at_ := 3 } ∧ BankAt w' B D (st m (l.slot p.w p.b) v) := by
  have H := hid h
  have HM := hid hm
  have HF := hid hf
  have HB := hid hb
  have HPB := hid hPB
  have HAT := hid hat
  have HDN := hid hdn
  have HX := hid hx
  have HI := hid (And.intro h0 h1)
  clear hx
  have G := hid (d132 P ty c l p w h hm hdn (by omega) (by omega))
  have hix : ∀ W : World, (Instr.index 167 (.agg #[.func (.func 98) #[] #[], .func (.func 99) #[] #[], .func (.func 100) #[] #[], .func (.func 101) #[] #[]]) (.int .i64 2)).run Try.prog W = .ok (.func (.func 100) #[] #[]) W := fun _ => by kernel_rfl
  clear h hm hf hb hPB hat hdn h0 h1
  go_enter Try.func72, Try.ntmps72
  go_wp2_with fail
  refine G.out.mono ?_
  rw [HAT.out]
  rintro e w1 ⟨rfl, hk, c1, hh1, hm1, hp1⟩
  have HA := hid hh1
  have HM1 := hid hm1
  have HP1 := hid hp1
  have HK := hid hk
  have HBA := hid (HB.out.keep hk (by simpa using Ne.symm HPB.out.1) (by simpa using Ne.symm HPB.out.2))
  clear hh1 hm1 hp1 hk
  go_wp2_with fail
  refine (d182 P B D ty c1 l { p with at_ := 2 + 1 } m v (by rw [HP1.out.2 21 (by omega)]; exact HX.out) _ HA.out HM1.out HF.out HBA.out HPB.out HI.out.1 HI.out.2).mono ?_
  rintro e w2 ⟨rfl, hk, hh2, hb2⟩
  have HK2 : Hid (Kept [P, D] w w2) := hid ((HK.out.mono (by simp)).trans (hk.mono (by simp)))
  have HM2 := HM1
  have H2 := hid hh2
  have HB2 := hid hb2
  clear hk hh2 hb2
  have g19 := HM2.out.f19
  simp only [HDN.out] at g19
  have hc := cells_of H2.out
  clear hix
  go_wp2_with fail
  go_ret
  exact ⟨rfl, HK2.out, ⟨_, H2.out, HM2.out, HP1.out⟩, HB2.out⟩
set_option maxHeartbeats 2000000 in
set_option maxRecDepth 100000 in
theorem p159_3 (P B D : Nat) (ty : TypeId) (c : Array Value) (l : Lay) (p : Pt) (m : List Int) (v : Int) (hv : v = p.b + 1) (w : World) (h : DBlk w P ty c) (hm : DC c l p) (hf : Fit l p.w) (hb : BankAt w B D m) (hPB : P ≠ B ∧ P ≠ D) (hat : p.at_ = 3) (hdn : p.done = false) (h0 : -1000000 ≤ p.b) (h1 : p.b ≤ 1000000) :
    Calls Try.prog 72 #[.pointer (some ⟨P, 0, none⟩), .pointer (some ⟨B, 0, none⟩)] w fun e w' => e = .returned (.bool true) ∧ Kept [P, D] w w' ∧ DPost w' P ty c l { p with at_ := 4, done := true, got := true } ∧ BankAt w' B D (st m (bot l p.w) v) := by
  have H := hid h
  have HM := hid hm
  have HF := hid hf
  have HB := hid hb
  have HPB := hid hPB
  have HAT := hid hat
  have HDN := hid hdn
  have HV := hid hv
  have HI := hid (And.intro h0 h1)
  clear hv
  have G := hid (d132 P ty c l p w h hm hdn (by omega) (by omega))
  have hix : ∀ W : World, (Instr.index 167 (.agg #[.func (.func 98) #[] #[], .func (.func 99) #[] #[], .func (.func 100) #[] #[], .func (.func 101) #[] #[]]) (.int .i64 3)).run Try.prog W = .ok (.func (.func 101) #[] #[]) W := fun _ => by kernel_rfl
  clear h hm hf hb hPB hat hdn h0 h1
  go_enter Try.func72, Try.ntmps72
  go_wp2_with fail
  refine G.out.mono ?_
  rw [HAT.out]
  rintro e w1 ⟨rfl, hk, c1, hh1, hm1, hp1⟩
  have HA := hid hh1
  have HM1 := hid hm1
  have HP1 := hid hp1
  have HK := hid hk
  have HBA := hid (HB.out.keep hk (by simpa using Ne.symm HPB.out.1) (by simpa using Ne.symm HPB.out.2))
  clear hh1 hm1 hp1 hk
  go_wp2_with fail
  refine (d183 P B D ty c1 l { p with at_ := 3 + 1 } m v HV.out _ HA.out HM1.out HF.out HBA.out HPB.out HI.out.1 HI.out.2).mono ?_
  rintro e w2 ⟨rfl, hk, ⟨c2, h2, hm2, hp2⟩, hb2⟩
  have HK2 : Hid (Kept [P, D] w w2) := hid ((HK.out.mono (by simp)).trans (hk))
  have HM2 := hid hm2
  have HP2 := hid hp2
  have H2 := hid h2
  have HB2 := hid (hb2)
  clear hk h2 hm2 hp2 hb2
  have g19 := HM2.out.f19
  have hc := cells_of H2.out
  clear hix
  go_wp2_with fail
  go_ret
  exact ⟨rfl, HK2.out, ⟨_, H2.out, HM2.out, HP1.out.trans HP2.out⟩, HB2.out⟩
set_option maxHeartbeats 2000000 in
set_option maxRecDepth 100000 in
theorem p70_done (P B : Nat) (ty : TypeId) (c : Array Value) (l : Lay) (p : Pt) (w : World) (h : DBlk w P ty c) (hm : DC c l p) (hdn : p.done = true) :
    Calls Try.prog 27 #[.pointer (some ⟨P, 0, none⟩), .pointer (some ⟨B, 0, none⟩)] w fun e w' => e = .returned (.bool true) ∧ w = w' := by
  have G := hid (d132_done P ty c l p w h hm hdn)
  have hc := cells_of h
  have g19 := hm.f19
  rw [hdn] at g19
  clear h hm hdn
  go_enter Try.func27, Try.ntmps27
  go_wp2_with fail
  refine G.out.mono ?_
  rintro e w1 ⟨rfl, rfl⟩
  go_wp2_with fail
  go_ret
  exact ⟨rfl, rfl⟩
set_option maxHeartbeats 2000000 in
set_option maxRecDepth 100000 in
theorem p67_done (P B : Nat) (ty : TypeId) (c : Array Value) (l : Lay) (p : Pt) (w : World) (h : DBlk w P ty c) (hm : DC c l p) (hdn : p.done = true) :
    Calls Try.prog 24 #[.pointer (some ⟨P, 0, none⟩), .pointer (some ⟨B, 0, none⟩)] w fun e w' => e = .returned (.bool true) ∧ w = w' := by
  have G := hid (d132_done P ty c l p w h hm hdn)
  have hc := cells_of h
  have g19 := hm.f19
  rw [hdn] at g19
  clear h hm hdn
  go_enter Try.func24, Try.ntmps24
  go_wp2_with fail
  refine G.out.mono ?_
  rintro e w1 ⟨rfl, rfl⟩
  go_wp2_with fail
  go_ret
  exact ⟨rfl, rfl⟩
set_option maxHeartbeats 2000000 in
set_option maxRecDepth 100000 in
theorem p159_done (P B : Nat) (ty : TypeId) (c : Array Value) (l : Lay) (p : Pt) (w : World) (h : DBlk w P ty c) (hm : DC c l p) (hdn : p.done = true) :
    Calls Try.prog 72 #[.pointer (some ⟨P, 0, none⟩), .pointer (some ⟨B, 0, none⟩)] w fun e w' => e = .returned (.bool true) ∧ w = w' := by
  have G := hid (d132_done P ty c l p w h hm hdn)
  have hc := cells_of h
  have g19 := hm.f19
  rw [hdn] at g19
  clear h hm hdn
  go_enter Try.func72, Try.ntmps72
  go_wp2_with fail
  refine G.out.mono ?_
  rintro e w1 ⟨rfl, rfl⟩
  go_wp2_with fail
  go_ret
  exact ⟨rfl, rfl⟩
end Go.Proofs.Ytlbhckndejldcaa
