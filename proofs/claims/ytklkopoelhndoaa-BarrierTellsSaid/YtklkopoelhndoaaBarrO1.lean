/- A barrier machine's step, wherever it stands. -/
import Derived.Test.YtklkopoelhndoaaBarrO
namespace Go.Proofs.Ytklkopoelhndoaa
open Go.RowKit
set_option linter.unusedVariables false
@[reducible] def stgO (P o : Nat) : Array Value := #[.func (.func 76) #[.pointer (some ⟨P, o, none⟩)] #[], .func (.func 77) #[.pointer (some ⟨P, o, none⟩)] #[], .func (.func 78) #[.pointer (some ⟨P, o, none⟩)] #[], .func (.func 79) #[.pointer (some ⟨P, o, none⟩)] #[], .func (.func 80) #[.pointer (some ⟨P, o, none⟩)] #[]]
set_option maxHeartbeats 2000000 in
set_option maxRecDepth 100000 in
theorem o101_0 (P o B D : Nat) (c : Array Value) (l : Lay) (m : List Int) (own : Int) (last : Bool) (w : World) (h : BlkAt w P c) (hm : MC c o l 0 own last) (hb : BankAt w B D m) (hPB : P ≠ B ∧ P ≠ D) :
    Calls Try.prog 54 #[.pointer (some ⟨P, o, none⟩), .pointer (some ⟨B, 0, none⟩)] w fun e w' => e = .returned (.bool false) ∧ Kept [P, D] w w' ∧ MPost w w' P o c l 1 (lookOwn l m) last ∧ BankAt w' B D m := by
  have hc := cells_of h
  have HPB := hid hPB
  have ka : Kept [] w (w.alloc (.cells (stgO P o) 126)) := (Kept.refl _ _).alloc _
  have HA : Hid (BlkAt (w.alloc (.cells (stgO P o) 126)) P c) := hid (ka.get h (by simp))
  have HBA := hid (hb.keep ka (by simp) (by simp))
  have HK := hid ka
  have HM := hid hm
  have g14 := hm.f14
  have hc1 := cells_of HA.out
  have hcN := cells_of (new_alloc w (.cells (stgO P o) 126))
  clear h hb hPB ka hm
  have hmf : ∀ (fn : Fn) (first cap : Array Value) (w : World), (Instr.makeFunc fn first cap).run Try.prog w = .ok (.func fn first cap) w := fun _ _ _ _ => rfl
  go_enter Try.func54, Try.ntmps54
  go_wp2_with fail
  refine (o154 P o B D c l m 0 own last _ HA.out HM.out HBA.out HPB.out).mono ?_
  rintro e w2 ⟨rfl, hk, c2, ha, hm2, hbs⟩
  have HK2 : Hid (Kept [P, D] w w2) := hid ((HK.out.of_nil (M := [P, D])).trans (hk.mono (by simp)))
  have HB2 := hid (HBA.out.keep hk (by simpa using Ne.symm HPB.out.1) (by simpa using Ne.symm HPB.out.2))
  have HA2 := hid ha
  have HM2 := hid hm2
  have HBS := hid hbs
  clear hc hc1 hcN hk hm2 hbs g14 
  have hc := cells_of ha
  have hz := free_of ha
  have g14 := HM2.out.f14
  clear ha
  have hs : BlkAt (w2.setCell ⟨P, o + 14, none⟩ (.int .u8 1)) P (c2.setIfInBounds (o + 14) (.int .u8 1)) := set_of HA2.out (o + 14) (.int .u8 1)
  have HS := hid hs
  have HM3 := hid (HM2.out.set14 1)
  have hc1 := cells_of HS.out
  have g14b := HM3.out.f14
  clear hs
  go_wp2_with fail
  go_ret
  exact ⟨rfl, HK2.out.setCell (.inl (by simp)) _, ⟨_, HS.out, HM3.out, HBS.out.set 14 _ (by omega)⟩, HB2.out.keep (L := [P]) ((Kept.refl _ _).setCell (.inl (by simp)) _) (by simpa using Ne.symm HPB.out.1) (by simpa using Ne.symm HPB.out.2)⟩
set_option maxHeartbeats 2000000 in
set_option maxRecDepth 100000 in
theorem o101_1 (P o B D : Nat) (c : Array Value) (l : Lay) (m : List Int) (own : Int) (last : Bool) (r : Bool) (hr : (adds m l.count (-1) == 0) = r) (w : World) (h : BlkAt w P c) (hm : MC c o l 1 own last) (hb : BankAt w B D m) (hPB : P ≠ B ∧ P ≠ D) :
    Calls Try.prog 54 #[.pointer (some ⟨P, o, none⟩), .pointer (some ⟨B, 0, none⟩)] w fun e w' => e = .returned (.bool false) ∧ Kept [P, D] w w' ∧ MPost w w' P o c l (if r then 2 else 4) own r ∧ BankAt w' B D (st m l.count (wrap64 (ld m l.count + -1))) := by
  have hc := cells_of h
  have HPB := hid hPB
  have ka : Kept [] w (w.alloc (.cells (stgO P o) 126)) := (Kept.refl _ _).alloc _
  have HA : Hid (BlkAt (w.alloc (.cells (stgO P o) 126)) P c) := hid (ka.get h (by simp))
  have HBA := hid (hb.keep ka (by simp) (by simp))
  have HK := hid ka
  have HM := hid hm
  have g14 := hm.f14
  have hc1 := cells_of HA.out
  have hcN := cells_of (new_alloc w (.cells (stgO P o) 126))
  have HR := hid hr
  clear hr
  clear h hb hPB ka hm
  have hmf : ∀ (fn : Fn) (first cap : Array Value) (w : World), (Instr.makeFunc fn first cap).run Try.prog w = .ok (.func fn first cap) w := fun _ _ _ _ => rfl
  go_enter Try.func54, Try.ntmps54
  go_wp2_with fail
  refine (o155 P o B D c l m 1 own last r HR.out _ HA.out HM.out HBA.out HPB.out).mono ?_
  rintro e w2 ⟨rfl, hk, ⟨c2, ha, hm2, hbs⟩, hb⟩
  have HK2 : Hid (Kept [P, D] w w2) := hid ((HK.out.of_nil (M := [P, D])).trans (hk))
  have HB2 := hid (hb)
  have HA2 := hid ha
  have HM2 := hid hm2
  have HBS := hid hbs
  clear hc hc1 hcN hk hm2 hbs g14 hb
  have hc := cells_of ha
  have hz := free_of ha
  have g14 := HM2.out.f14
  clear ha
  clear HR
  cases r
  · have hs : BlkAt (w2.setCell ⟨P, o + 14, none⟩ (.int .u8 4)) P (c2.setIfInBounds (o + 14) (.int .u8 4)) := set_of HA2.out (o + 14) (.int .u8 4)
    have HS := hid hs
    have HM3 := hid (HM2.out.set14 4)
    have hc1 := cells_of HS.out
    have g14b := HM3.out.f14
    clear hs
    go_wp2_with fail
    go_ret
    exact ⟨rfl, HK2.out.setCell (.inl (by simp)) _, ⟨_, HS.out, HM3.out, HBS.out.set 14 _ (by omega)⟩, HB2.out.keep (L := [P]) ((Kept.refl _ _).setCell (.inl (by simp)) _) (by simpa using Ne.symm HPB.out.1) (by simpa using Ne.symm HPB.out.2)⟩
  · have hs : BlkAt (w2.setCell ⟨P, o + 14, none⟩ (.int .u8 2)) P (c2.setIfInBounds (o + 14) (.int .u8 2)) := set_of HA2.out (o + 14) (.int .u8 2)
    have HS := hid hs
    have HM3 := hid (HM2.out.set14 2)
    have hc1 := cells_of HS.out
    have g14b := HM3.out.f14
    clear hs
    go_wp2_with fail
    go_ret
    exact ⟨rfl, HK2.out.setCell (.inl (by simp)) _, ⟨_, HS.out, HM3.out, HBS.out.set 14 _ (by omega)⟩, HB2.out.keep (L := [P]) ((Kept.refl _ _).setCell (.inl (by simp)) _) (by simpa using Ne.symm HPB.out.1) (by simpa using Ne.symm HPB.out.2)⟩
set_option maxHeartbeats 2000000 in
set_option maxRecDepth 100000 in
theorem o101_2 (P o B D : Nat) (c : Array Value) (l : Lay) (m : List Int) (own : Int) (last : Bool) (w : World) (h : BlkAt w P c) (hm : MC c o l 2 own last) (hb : BankAt w B D m) (hPB : P ≠ B ∧ P ≠ D) :
    Calls Try.prog 54 #[.pointer (some ⟨P, o, none⟩), .pointer (some ⟨B, 0, none⟩)] w fun e w' => e = .returned (.bool false) ∧ Kept [P, D] w w' ∧ MPost w w' P o c l 3 own last ∧ BankAt w' B D (st m l.count l.workers) := by
  have hc := cells_of h
  have HPB := hid hPB
  have ka : Kept [] w (w.alloc (.cells (stgO P o) 126)) := (Kept.refl _ _).alloc _
  have HA : Hid (BlkAt (w.alloc (.cells (stgO P o) 126)) P c) := hid (ka.get h (by simp))
  have HBA := hid (hb.keep ka (by simp) (by simp))
  have HK := hid ka
  have HM := hid hm
  have g14 := hm.f14
  have hc1 := cells_of HA.out
  have hcN := cells_of (new_alloc w (.cells (stgO P o) 126))
  clear h hb hPB ka hm
  have hmf : ∀ (fn : Fn) (first cap : Array Value) (w : World), (Instr.makeFunc fn first cap).run Try.prog w = .ok (.func fn first cap) w := fun _ _ _ _ => rfl
  go_enter Try.func54, Try.ntmps54
  go_wp2_with fail
  refine (o156 P o B D c l m 2 own last _ HA.out HM.out HBA.out HPB.out.2).mono ?_
  rintro e w2 ⟨rfl, hk, hb⟩
  have HK2 : Hid (Kept [P, D] w w2) := hid ((HK.out.of_nil (M := [P, D])).trans (hk.mono (by simp)))
  have HB2 := hid (hb)
  obtain ⟨c2, hc2⟩ : ∃ c2, c = c2 := ⟨_, rfl⟩
  have ha : BlkAt w2 P c2 := by rw [← hc2]; exact hk.get HA.out (by simpa using HPB.out.2)
  have hm2 : MC c2 o l 2 own last := by rw [← hc2]; exact HM.out
  have hbs : Beside c c2 o := by rw [← hc2]; exact Beside.refl _ _
  clear hc2
  have HA2 := hid ha
  have HM2 := hid hm2
  have HBS := hid hbs
  clear hc hc1 hcN hk hm2 hbs g14 hb
  have hc := cells_of ha
  have hz := free_of ha
  have g14 := HM2.out.f14
  clear ha
  have hs : BlkAt (w2.setCell ⟨P, o + 14, none⟩ (.int .u8 3)) P (c2.setIfInBounds (o + 14) (.int .u8 3)) := set_of HA2.out (o + 14) (.int .u8 3)
  have HS := hid hs
  have HM3 := hid (HM2.out.set14 3)
  have hc1 := cells_of HS.out
  have g14b := HM3.out.f14
  clear hs
  go_wp2_with fail
  go_ret
  exact ⟨rfl, HK2.out.setCell (.inl (by simp)) _, ⟨_, HS.out, HM3.out, HBS.out.set 14 _ (by omega)⟩, HB2.out.keep (L := [P]) ((Kept.refl _ _).setCell (.inl (by simp)) _) (by simpa using Ne.symm HPB.out.1) (by simpa using Ne.symm HPB.out.2)⟩
set_option maxHeartbeats 2000000 in
set_option maxRecDepth 100000 in
theorem o101_3 (P o B D : Nat) (c : Array Value) (l : Lay) (m : List Int) (own : Int) (last : Bool) (w : World) (h : BlkAt w P c) (hm : MC c o l 3 own last) (hb : BankAt w B D m) (hPB : P ≠ B ∧ P ≠ D) :
    Calls Try.prog 54 #[.pointer (some ⟨P, o, none⟩), .pointer (some ⟨B, 0, none⟩)] w fun e w' => e = .returned (.bool true) ∧ Kept [P, D] w w' ∧ MPost w w' P o c l 5 own last ∧ BankAt w' B D (st m l.sense own) := by
  have hc := cells_of h
  have HPB := hid hPB
  have ka : Kept [] w (w.alloc (.cells (stgO P o) 126)) := (Kept.refl _ _).alloc _
  have HA : Hid (BlkAt (w.alloc (.cells (stgO P o) 126)) P c) := hid (ka.get h (by simp))
  have HBA := hid (hb.keep ka (by simp) (by simp))
  have HK := hid ka
  have HM := hid hm
  have g14 := hm.f14
  have hc1 := cells_of HA.out
  have hcN := cells_of (new_alloc w (.cells (stgO P o) 126))
  clear h hb hPB ka hm
  have hmf : ∀ (fn : Fn) (first cap : Array Value) (w : World), (Instr.makeFunc fn first cap).run Try.prog w = .ok (.func fn first cap) w := fun _ _ _ _ => rfl
  go_enter Try.func54, Try.ntmps54
  go_wp2_with fail
  refine (o157 P o B D c l m 3 own last _ HA.out HM.out HBA.out HPB.out.2).mono ?_
  rintro e w2 ⟨rfl, hk, hb⟩
  have HK2 : Hid (Kept [P, D] w w2) := hid ((HK.out.of_nil (M := [P, D])).trans (hk.mono (by simp)))
  have HB2 := hid (hb)
  obtain ⟨c2, hc2⟩ : ∃ c2, c = c2 := ⟨_, rfl⟩
  have ha : BlkAt w2 P c2 := by rw [← hc2]; exact hk.get HA.out (by simpa using HPB.out.2)
  have hm2 : MC c2 o l 3 own last := by rw [← hc2]; exact HM.out
  have hbs : Beside c c2 o := by rw [← hc2]; exact Beside.refl _ _
  clear hc2
  have HA2 := hid ha
  have HM2 := hid hm2
  have HBS := hid hbs
  clear hc hc1 hcN hk hm2 hbs g14 hb
  have hc := cells_of ha
  have hz := free_of ha
  have g14 := HM2.out.f14
  clear ha
  have hs : BlkAt (w2.setCell ⟨P, o + 14, none⟩ (.int .u8 5)) P (c2.setIfInBounds (o + 14) (.int .u8 5)) := set_of HA2.out (o + 14) (.int .u8 5)
  have HS := hid hs
  have HM3 := hid (HM2.out.set14 5)
  have hc1 := cells_of HS.out
  have g14b := HM3.out.f14
  clear hs
  go_wp2_with fail
  go_ret
  exact ⟨rfl, HK2.out.setCell (.inl (by simp)) _, ⟨_, HS.out, HM3.out, HBS.out.set 14 _ (by omega)⟩, HB2.out.keep (L := [P]) ((Kept.refl _ _).setCell (.inl (by simp)) _) (by simpa using Ne.symm HPB.out.1) (by simpa using Ne.symm HPB.out.2)⟩
set_option maxHeartbeats 2000000 in
set_option maxRecDepth 100000 in
theorem o101_4 (P o B D : Nat) (c : Array Value) (l : Lay) (m : List Int) (own : Int) (last : Bool) (r : Bool) (hr : (ld m l.sense == own) = r) (w : World) (h : BlkAt w P c) (hm : MC c o l 4 own last) (hb : BankAt w B D m) (hPB : P ≠ B ∧ P ≠ D) :
    Calls Try.prog 54 #[.pointer (some ⟨P, o, none⟩), .pointer (some ⟨B, 0, none⟩)] w fun e w' => e = .returned (.bool r) ∧ Kept [P, D] w w' ∧ MPost w w' P o c l (if r then 5 else 4) own last ∧ BankAt w' B D m := by
  have hc := cells_of h
  have HPB := hid hPB
  have ka : Kept [] w (w.alloc (.cells (stgO P o) 126)) := (Kept.refl _ _).alloc _
  have HA : Hid (BlkAt (w.alloc (.cells (stgO P o) 126)) P c) := hid (ka.get h (by simp))
  have HBA := hid (hb.keep ka (by simp) (by simp))
  have HK := hid ka
  have HM := hid hm
  have g14 := hm.f14
  have hc1 := cells_of HA.out
  have hcN := cells_of (new_alloc w (.cells (stgO P o) 126))
  have HR := hid hr
  clear hr
  clear h hb hPB ka hm
  have hmf : ∀ (fn : Fn) (first cap : Array Value) (w : World), (Instr.makeFunc fn first cap).run Try.prog w = .ok (.func fn first cap) w := fun _ _ _ _ => rfl
  go_enter Try.func54, Try.ntmps54
  go_wp2_with fail
  refine (o158 P o B D c l m 4 own last r HR.out _ HA.out HM.out HBA.out).mono ?_
  rintro e w2 ⟨rfl, hk⟩
  have HK2 : Hid (Kept [P, D] w w2) := hid ((HK.out.of_nil (M := [P, D])).trans (hk.of_nil))
  have HB2 := hid (HBA.out.keep hk (by simp) (by simp))
  obtain ⟨c2, hc2⟩ : ∃ c2, c = c2 := ⟨_, rfl⟩
  have ha : BlkAt w2 P c2 := by rw [← hc2]; exact hk.get HA.out (by simp)
  have hm2 : MC c2 o l 4 own last := by rw [← hc2]; exact HM.out
  have hbs : Beside c c2 o := by rw [← hc2]; exact Beside.refl _ _
  clear hc2
  have HA2 := hid ha
  have HM2 := hid hm2
  have HBS := hid hbs
  clear hc hc1 hcN hk hm2 hbs g14 
  have hc := cells_of ha
  have hz := free_of ha
  have g14 := HM2.out.f14
  clear ha
  clear HR
  cases r
  · have hs : BlkAt (w2.setCell ⟨P, o + 14, none⟩ (.int .u8 4)) P (c2.setIfInBounds (o + 14) (.int .u8 4)) := set_of HA2.out (o + 14) (.int .u8 4)
    have HS := hid hs
    have HM3 := hid (HM2.out.set14 4)
    have hc1 := cells_of HS.out
    have g14b := HM3.out.f14
    clear hs
    go_wp2_with fail
    go_ret
    exact ⟨rfl, HK2.out.setCell (.inl (by simp)) _, ⟨_, HS.out, HM3.out, HBS.out.set 14 _ (by omega)⟩, HB2.out.keep (L := [P]) ((Kept.refl _ _).setCell (.inl (by simp)) _) (by simpa using Ne.symm HPB.out.1) (by simpa using Ne.symm HPB.out.2)⟩
  · have hs : BlkAt (w2.setCell ⟨P, o + 14, none⟩ (.int .u8 5)) P (c2.setIfInBounds (o + 14) (.int .u8 5)) := set_of HA2.out (o + 14) (.int .u8 5)
    have HS := hid hs
    have HM3 := hid (HM2.out.set14 5)
    have hc1 := cells_of HS.out
    have g14b := HM3.out.f14
    clear hs
    go_wp2_with fail
    go_ret
    exact ⟨rfl, HK2.out.setCell (.inl (by simp)) _, ⟨_, HS.out, HM3.out, HBS.out.set 14 _ (by omega)⟩, HB2.out.keep (L := [P]) ((Kept.refl _ _).setCell (.inl (by simp)) _) (by simpa using Ne.symm HPB.out.1) (by simpa using Ne.symm HPB.out.2)⟩
end Go.Proofs.Ytklkopoelhndoaa
