/- The chapter's examples of layer 12 hold. -/
import Derived.Test.YtklkopoelhndoaaFlags3
import Derived.Test.YtklkopoelhndoaaCmp64
namespace Go.Proofs.Ytklkopoelhndoaa
open Go.RowKit
set_option linter.unusedVariables false
theorem plan432 : planOf 4 3 2 = ⟨4, 3, 2, 4, 0, 3, 7, 11, 15, 16, 17, 18, 19, 31⟩ := by simp [planOf, roomOf, rg]
@[reducible] def l432 : Lay := ⟨4, 3, 2, 4, 0, 3, 7, 11, 15, 16, 17, 18, 19, 31⟩
set_option maxHeartbeats 4000000 in
set_option maxRecDepth 100000 in
theorem awake12 (w : World) : Calls Try.prog 20 #[] w fun e w' => e = .returned (.bool true) ∧ Kept [] w w' := by
  go_enter Try.func20, Try.ntmps20
  go_wp2_with fail
  have G := c59 4 w (by omega) (by omega)
  rw [plan432] at G
  refine G.mono ?_
  clear G
  rintro e w1 ⟨B, D, rfl, hB, hD, hk1, hb1⟩
  rw [show ((⟨4, 3, 2, 4, 0, 3, 7, 11, 15, 16, 17, 18, 19, 31⟩ : Lay).size.toNat) = 31 from rfl] at hb1
  have HBD := hid (And.intro hB hD)
  have HB := hid hb1
  have HK := hid hk1
  clear hb1 hk1 hB hD
  go_wp2_with fail
  have kp : Kept [] w1 (w1.alloc (.cells l432.cells 25)) := (Kept.refl _ _).alloc _
  have HP := hid (new_alloc w1 (.cells l432.cells 25))
  have HBa := hid (HB.out.keep kp (by simp) (by simp))
  have HKa := hid (HK.out.trans kp)
  have hPD : w1.heap.size ≠ D := fun e => by have := HB.out.ltD; omega
  have HPD := hid hPD
  clear kp hPD
  refine (c62 l432 B D _ 2 _ HBa.out (by decide) (by decide) (by decide) (by decide)).mono ?_
  rw [show hits (List.replicate 31 0) (l432.flag + 2) 0 = true from by decide +kernel, show claimed (List.replicate 31 0) (l432.flag + 2) = [0, 0, 0, 0, 0, 0, 0, 0, 0, 0, 0, 0, 0, 1, 0, 0, 0, 0, 0, 0, 0, 0, 0, 0, 0, 0, 0, 0, 0, 0, 0] from by decide +kernel]
  rintro e w2 ⟨rfl, hk2, hb2⟩
  have hP2 := hk2.get HP.out (by simpa using HPD.out)
  have hcP := cells_of hP2
  have HP2 := hid hP2
  have HB2 := hid hb2
  have HK2 := hid (HKa.out.drop hk2 (fun x hx => .inr (by simp at hx; have := HBD.out; omega)))
  clear hP2 hb2 hk2
  go_wp2_with fail
  refine (c62 l432 B D _ 2 _ HB2.out (by decide) (by decide) (by decide) (by decide)).mono ?_
  rw [show hits [0, 0, 0, 0, 0, 0, 0, 0, 0, 0, 0, 0, 0, 1, 0, 0, 0, 0, 0, 0, 0, 0, 0, 0, 0, 0, 0, 0, 0, 0, 0] (l432.flag + 2) 0 = false from by decide +kernel,
    show claimed [0, 0, 0, 0, 0, 0, 0, 0, 0, 0, 0, 0, 0, 1, 0, 0, 0, 0, 0, 0, 0, 0, 0, 0, 0, 0, 0, 0, 0, 0, 0] (l432.flag + 2) = [0, 0, 0, 0, 0, 0, 0, 0, 0, 0, 0, 0, 0, 1, 0, 0, 0, 0, 0, 0, 0, 0, 0, 0, 0, 0, 0, 0, 0, 0, 0] from by decide +kernel]
  rintro e w3 ⟨rfl, hk3, hb3⟩
  have hP3 := hk3.get HP2.out (by simpa using HPD.out)
  have hcP := cells_of hP3
  have HP3 := hid hP3
  have HB3 := hid hb3
  have HK3 := hid (HK2.out.drop hk3 (fun x hx => .inr (by simp at hx; have := HBD.out; omega)))
  clear hP3 hb3 hk3
  go_wp2_with fail
  refine (c55 l432 B D _ 4 _ HB3.out (by decide) (by decide) rfl (by decide)).mono ?_
  rw [show heldUp l432.flag [0, 0, 0, 0, 0, 0, 0, 0, 0, 0, 0, 0, 0, 1, 0, 0, 0, 0, 0, 0, 0, 0, 0, 0, 0, 0, 0, 0, 0, 0, 0] 4 = [2] from by decide +kernel]
  rintro e w4 ⟨v, rfl, hk4, hs4, _⟩
  have hcP := cells_of (hk4.get HP3.out (by simp))
  have HP4 := hid (hk4.get HP3.out (by simp))
  have HB4 := hid (HB3.out.keep hk4 (by simp) (by simp))
  have HK4 := hid (HK3.out.trans hk4)
  have HS := hid hs4
  clear hs4 hk4
  go_wp2_with fail
  have hL : SliceIs (w4.alloc (.cells #[.int .i64 2] 3)) (.slice (some ⟨w4.heap.size, 0, none⟩) 1 1) [2] :=
    .inr ⟨w4.heap.size, 0, 1, rfl, by simp, fun i hi => by
      have : i = 0 := by simpa using hi
      subst this; simp⟩
  have HL := hid hL
  clear hL
  refine (c64 v _ [2] [2] _ (HS.out.keep0 ((Kept.refl _ _).alloc _)) HL.out (by decide)).mono ?_
  rw [show decide (([2] : List Int) = [2]) = true from rfl]
  rintro e w5 ⟨rfl, hk5⟩
  have k5 : Kept [] w4 w5 := ((Kept.refl [] w4).alloc _).trans hk5
  have hcP := cells_of (k5.get HP4.out (by simp))
  have HP5 := hid (k5.get HP4.out (by simp))
  have HB5 := hid (HB4.out.keep k5 (by simp) (by simp))
  have HK5 := hid (HK4.out.trans k5)
  clear hk5 k5
  go_wp2_with fail
  refine (c60 l432 2 _ (by decide) (by decide) (by decide) (by decide)).mono ?_
  rw [show l432.flag + 2 = 13 from rfl]
  rintro e w6 ⟨rfl, hk6⟩
  have HB6 := hid (HB5.out.keep hk6 (by simp) (by simp))
  have HP6 := hid (hk6.get HP5.out (by simp))
  have HK6 := hid (HK5.out.trans hk6)
  clear hk6
  go_wp2_with fail
  have kf : Kept [] w6 (w6.alloc (.cells (freeCells 13 false) 35)) := (Kept.refl _ _).alloc _
  have HF := hid (new_alloc w6 (.cells (freeCells 13 false) 35))
  have HB7 := hid (HB6.out.keep kf (by simp) (by simp))
  have HN7 : Hid (w6.heap.size ≠ B ∧ w6.heap.size ≠ D ∧ w1.heap.size ≠ w6.heap.size) := hid ⟨fun e => by have := HB6.out.ltB; omega, fun e => by have := HB6.out.ltD; omega, fun e => by have := lt_of_heap HP6.out; omega⟩
  have HP7 := hid (kf.get HP6.out (by simp))
  have HK7 := hid (HK6.out.trans kf)
  clear kf
  refine (c61 w6.heap.size B D _ 13 false _ HF.out HB7.out HN7.out.1 HN7.out.2.1).mono ?_
  rintro e w8 ⟨rfl, hs⟩
  have hcP := cells_of (hs.kept.get HP7.out (by simp; exact ⟨HN7.out.2.2, HPD.out⟩))
  have HS8 := hid hs
  clear hs
  go_wp2_with fail
  have hb8 : BankAt w8 B D (List.replicate 31 0) := HS8.out.bank
  refine (c62 l432 B D _ 2 _ hb8 (by decide) (by decide) (by decide) (by decide)).mono ?_
  rw [show hits (List.replicate 31 0) (l432.flag + 2) 0 = true from by decide +kernel]
  rintro e w9 ⟨rfl, hk9, hb9⟩
  have k8 : Kept [] w w8 := HK7.out.drop HS8.out.kept (fun x hx => .inr (by
    have h6 := HK6.out.size
    have := HBD.out
    rcases List.mem_cons.1 hx with h | h
    · omega
    · simp at h; omega))
  have k9 : Kept [] w w9 := k8.drop hk9 (fun x hx => .inr (by simp at hx; have := HBD.out; omega))
  have HK9 := hid k9
  clear hk9 hb9 k8 k9 hb8
  go_wp2_with fail
  go_ret
  exact ⟨rfl, HK9.out⟩
end Go.Proofs.Ytklkopoelhndoaa
