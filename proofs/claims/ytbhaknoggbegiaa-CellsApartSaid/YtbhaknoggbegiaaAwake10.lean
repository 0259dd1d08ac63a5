/- The chapter's examples of layer 10 hold. -/
import Derived.Test.YtbhaknoggbegiaaPlan2
import Derived.Test.YtbhaknoggbegiaaPlan4
import Derived.Test.YtbhaknoggbegiaaAll
namespace Go.Proofs.Ytbhaknoggbegiaa
open Go.RowKit
theorem plan342 : planOf 3 4 2 = ⟨3, 4, 2, 4, 0, 4, 7, 10, 13, 14, 15, 16, 17, 29⟩ := by simp [planOf, roomOf, rg]
def l342 : Lay := ⟨3, 4, 2, 4, 0, 4, 7, 10, 13, 14, 15, 16, 17, 29⟩
theorem fit342 : Fit l342 1 := ⟨by decide, by decide, ⟨2, by decide, by decide⟩, by decide, by decide⟩
theorem may342 : May 3 4 2 := by unfold May; omega
set_option maxHeartbeats 4000000 in
set_option maxRecDepth 100000 in
theorem awake10 (w : World) : Calls Try.prog 11 #[] w fun e w' => e = .returned (.bool true) ∧ Kept [] w w' := by
  go_enter Try.func11, Try.ntmps11
  go_wp2_with fail
  refine (c29_yes 3 4 2 _ may342).mono ?_
  rw [plan342]
  rintro e w1 ⟨rfl, hk1⟩
  go_wp2_with fail
  refine (new_ok 29 (by omega) _).mono ?_
  rintro e w2 ⟨B, D, rfl, hB, hD, hk2, hb2⟩
  have hP := hk2.get (new_alloc w1 _) (by simp)
  have hcP := cells_of hP
  have HP := hid hP
  have HB := hid hb2
  clear hP hb2
  simp only [World.size_alloc] at hB hD
  go_wp2_with fail
  refine (c33 l342 1 _ fit342).mono ?_
  rw [show l342.top 1 = 23 from rfl]
  rintro e w3 ⟨rfl, hk3⟩
  have hP := hk3.get HP.out (by simp)
  have hcP := cells_of hP
  have HP := hid hP
  have HB := hid (HB.out.keep hk3 (by simp) (by simp))
  clear hP
  go_wp2_with fail
  refine (c35 l342 1 _ fit342).mono ?_
  rw [show l342.top 1 + 1 = 24 from rfl]
  rintro e w4 ⟨rfl, hk4⟩
  have hP := hk4.get HP.out (by simp)
  have hcP := cells_of hP
  have HP := hid hP
  have HB := hid (HB.out.keep hk4 (by simp) (by simp))
  clear hP
  go_wp2_with fail
  refine (c37 l342 1 6 _ fit342 (by omega) (by omega)).mono ?_
  rw [show l342.slot 1 6 = 27 from rfl]
  rintro e w5 ⟨rfl, hk5⟩
  have HB := hid (HB.out.keep hk5 (by simp) (by simp))
  go_wp2_with fail
  refine (c43 B D _ 2 5 _ HB.out).mono ?_
  rw [show st (List.replicate 29 0) 2 5 = [0, 0, 5, 0, 0, 0, 0, 0, 0, 0, 0, 0, 0, 0, 0, 0, 0, 0, 0, 0, 0, 0, 0, 0, 0, 0, 0, 0, 0] from rfl]
  rintro e w6 ⟨rfl, hk6, hb6⟩
  have HB := hid hb6
  clear hb6
  go_wp2_with fail
  refine (c45 B D _ 2 (-7) _ HB.out).mono ?_
  rw [show adds [0, 0, 5, 0, 0, 0, 0, 0, 0, 0, 0, 0, 0, 0, 0, 0, 0, 0, 0, 0, 0, 0, 0, 0, 0, 0, 0, 0, 0] 2 (-7) = -2 from by decide +kernel,
    show st [0, 0, 5, 0, 0, 0, 0, 0, 0, 0, 0, 0, 0, 0, 0, 0, 0, 0, 0, 0, 0, 0, 0, 0, 0, 0, 0, 0, 0] 2 (wrap64 (ld [0, 0, 5, 0, 0, 0, 0, 0, 0, 0, 0, 0, 0, 0, 0, 0, 0, 0, 0, 0, 0, 0, 0, 0, 0, 0, 0, 0, 0] 2 + -7)) =
      [0, 0, -2, 0, 0, 0, 0, 0, 0, 0, 0, 0, 0, 0, 0, 0, 0, 0, 0, 0, 0, 0, 0, 0, 0, 0, 0, 0, 0] from by decide +kernel]
  rintro e w7 ⟨rfl, hk7, hb7⟩
  have HB := hid hb7
  clear hb7
  go_wp2_with fail
  refine (c47 B D _ 2 (-2) 9 _ HB.out).mono ?_
  rw [show hits [0, 0, -2, 0, 0, 0, 0, 0, 0, 0, 0, 0, 0, 0, 0, 0, 0, 0, 0, 0, 0, 0, 0, 0, 0, 0, 0, 0, 0] 2 (-2) = true from rfl, if_pos rfl,
    show st [0, 0, -2, 0, 0, 0, 0, 0, 0, 0, 0, 0, 0, 0, 0, 0, 0, 0, 0, 0, 0, 0, 0, 0, 0, 0, 0, 0, 0] 2 9 = [0, 0, 9, 0, 0, 0, 0, 0, 0, 0, 0, 0, 0, 0, 0, 0, 0, 0, 0, 0, 0, 0, 0, 0, 0, 0, 0, 0, 0] from rfl]
  rintro e w8 ⟨rfl, hk8, hb8⟩
  have HB := hid hb8
  clear hb8
  go_wp2_with fail
  refine (c47 B D _ 2 (-2) 1 _ HB.out).mono ?_
  rw [show hits [0, 0, 9, 0, 0, 0, 0, 0, 0, 0, 0, 0, 0, 0, 0, 0, 0, 0, 0, 0, 0, 0, 0, 0, 0, 0, 0, 0, 0] 2 (-2) = false from rfl, if_neg (by decide)]
  rintro e w9 ⟨rfl, hk9, hb9⟩
  have HB := hid hb9
  clear hb9
  go_wp2_with fail
  refine (c42 B D _ 2 _ HB.out).mono ?_
  rw [show ld [0, 0, 9, 0, 0, 0, 0, 0, 0, 0, 0, 0, 0, 0, 0, 0, 0, 0, 0, 0, 0, 0, 0, 0, 0, 0, 0, 0, 0] 2 = 9 from rfl]
  rintro e w10 ⟨rfl, rfl⟩
  go_wp2_with fail
  refine (c40 B D _ _ HB.out).mono ?_
  rintro e w10 ⟨rfl, rfl⟩
  go_wp2_with fail
  go_ret
  have k2 : Kept [] w w2 := (hk1.alloc _).trans hk2
  have k5 : Kept [] w w5 := ((k2.trans hk3).trans hk4).trans hk5
  have hs := hk1.size
  have kD : Kept [D] w5 w9 := ((hk6.trans hk7).trans hk8).trans hk9
  exact ⟨rfl, k5.drop kD (fun x hx => .inr (by simp at hx; omega))⟩
end Go.Proofs.Ytbhaknoggbegiaa
