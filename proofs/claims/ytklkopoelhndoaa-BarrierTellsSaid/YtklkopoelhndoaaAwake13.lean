/- The chapter's examples of layer 13 hold. -/
import Derived.Test.YtklkopoelhndoaaCount3
namespace Go.Proofs.Ytklkopoelhndoaa
open Go.RowKit
set_option linter.unusedVariables false
theorem c75b (B D : Nat) (p a q : Int) (r : Bool) (hq : wrap64 (p + -1) = q) (hr : (q == 0) = r) (w : World) (hb : BankAt w B D (bk p a)) :
    Calls Try.prog 25 #[l211.val, .pointer (some ⟨B, 0, none⟩)] w fun e w' => e = .returned (.bool r) ∧ Kept [D] w w' ∧ BankAt w' B D (bk q a) := by
  have := c75 l211 B D (bk p a) w hb
  rwa [mres0, mbank0, hq, hr] at this
theorem c76b (B D : Nat) (p a : Int) (r : Bool) (hr : (p == 0) = r) (w : World) (hb : BankAt w B D (bk p a)) :
    Calls Try.prog 27 #[l211.val, .pointer (some ⟨B, 0, none⟩)] w fun e w' => e = .returned (.bool r) ∧ Kept [D] w w' ∧ BankAt w' B D (bk p a) := by
  have := c76 l211 B D (bk p a) w hb
  rwa [mres2, mbank2, hr] at this
theorem c80b (B D : Nat) (p a : Int) (r : Bool) (hr : (a != 0) = r) (w : World) (hb : BankAt w B D (bk p a)) :
    Calls Try.prog 31 #[l211.val, .pointer (some ⟨B, 0, none⟩)] w fun e w' => e = .returned (.bool r) ∧ Kept [D] w w' ∧ BankAt w' B D (bk p a) := by
  have := c80 l211 B D (bk p a) w hb
  rwa [mres4, mbank4, hr] at this
theorem wr2 : wrap64 (0 + 2) = 2 := by unfold wrap64; omega
theorem wr1 : wrap64 (2 + -1) = 1 := by unfold wrap64; omega
theorem wr0 : wrap64 (1 + -1) = 0 := by unfold wrap64; omega
set_option maxHeartbeats 4000000 in
set_option maxRecDepth 100000 in
theorem awake13 (w : World) : Calls Try.prog 28 #[] w fun e w' => e = .returned (.bool true) ∧ Kept [] w w' := by
  go_enter Try.func28, Try.ntmps28
  go_wp2_with fail
  refine (c72 _).mono ?_
  rintro e w1 ⟨B, D, rfl, hB, hD, hk1, hb1⟩
  rw [show l211.size.toNat = 15 from rfl, ← bk_zero] at hb1
  have HBD := hid (And.intro hB hD)
  have HB := hid hb1
  have HK := hid hk1
  have HPD : Hid (w1.heap.size ≠ D) := hid (fun e => by have := HB.out.ltD; omega)
  clear hb1 hk1 hB hD
  go_wp2_with fail
  have kp : Kept [] w1 (w1.alloc (.cells l211.cells 25)) := (Kept.refl _ _).alloc _
  have HP := hid (new_alloc w1 (.cells l211.cells 25))
  have HB := hid (HB.out.keep kp (by simp) (by simp))
  have HK := hid (HK.out.trans kp)
  clear kp
  refine (c73 l211 2 _).mono ?_
  rintro e w2 ⟨fv, rfl, hk, hm⟩
  have HP := hid (hk.get HP.out (by simp))
  have HB := hid (HB.out.keep hk (by simp) (by simp))
  have HK := hid (HK.out.trans hk)
  obtain ⟨g, caps, rfl⟩ := hm.form
  have HM := hid hm
  clear hk hm
  go_wp2_with fail
  have ka : Kept [] w2 (w2.alloc (.cells (onceCells (.func g #[] caps) false false) 49)) := (Kept.refl _ _).alloc _
  have HN : Hid (w2.heap.size ≠ B ∧ w2.heap.size ≠ D ∧ w.heap.size ≤ w2.heap.size ∧ w1.heap.size ≠ w2.heap.size) := hid ⟨fun e => by have := HB.out.ltB; omega, fun e => by have := HB.out.ltD; omega, HK.out.size, fun e => by have := lt_of_heap HP.out; omega⟩
  have HO : Hid (OnceAt (w2.alloc (.cells (onceCells (.func g #[] caps) false false) 49)) w2.heap.size 49 (.func g #[] caps) false false) := hid (new_alloc w2 _)
  have HB := hid (HB.out.keep ka (by simp) (by simp))
  have HP := hid (ka.get HP.out (by simp))
  have HK := hid (HK.out.trans ka)
  have HM := hid (HM.out.keep ka)
  clear ka
  refine (c74 w2.heap.size B D 49 (.func g #[] caps) 0 2 l211 _ (bk 0 0) false _ HO.out HM.out HB.out ⟨HN.out.1, HN.out.2.1⟩).mono ?_
  rw [mbank0, wr2]
  rintro e w3 ⟨rfl, hk, _, hb⟩
  have HP := hid (hk.get HP.out (by simp; exact ⟨HN.out.2.2.2, HPD.out⟩))
  have HB := hid hb
  have HK := hid (HK.out.drop hk (fun x hx => .inr (by simp at hx; have := HN.out.2.2.1; have := HBD.out; omega)))
  clear hk hb
  have hcP := cells_of HP.out
  go_wp2_with fail
  clear hcP
  refine (c75b B D 2 0 1 false wr1 rfl _ HB.out).mono ?_
  rintro e w3 ⟨rfl, hk, hb⟩
  have HP := hid (hk.get HP.out (by simpa using HPD.out))
  have HB := hid hb
  have HK := hid (HK.out.drop hk (fun x hx => .inr (by simp at hx; have := HBD.out; omega)))
  clear hk hb
  have hcP := cells_of HP.out
  go_wp2_with fail
  clear hcP
  refine (c76b B D 1 0 false rfl _ HB.out).mono ?_
  rintro e w3 ⟨rfl, hk, hb⟩
  have HP := hid (hk.get HP.out (by simpa using HPD.out))
  have HB := hid hb
  have HK := hid (HK.out.drop hk (fun x hx => .inr (by simp at hx; have := HBD.out; omega)))
  clear hk hb
  have hcP := cells_of HP.out
  go_wp2_with fail
  clear hcP
  refine (c75b B D 1 0 0 true wr0 rfl _ HB.out).mono ?_
  rintro e w3 ⟨rfl, hk, hb⟩
  have HP := hid (hk.get HP.out (by simpa using HPD.out))
  have HB := hid hb
  have HK := hid (HK.out.drop hk (fun x hx => .inr (by simp at hx; have := HBD.out; omega)))
  clear hk hb
  have hcP := cells_of HP.out
  go_wp2_with fail
  clear hcP
  refine (c76b B D 0 0 true rfl _ HB.out).mono ?_
  rintro e w3 ⟨rfl, hk, hb⟩
  have HP := hid (hk.get HP.out (by simpa using HPD.out))
  have HB := hid hb
  have HK := hid (HK.out.drop hk (fun x hx => .inr (by simp at hx; have := HBD.out; omega)))
  clear hk hb
  have hcP := cells_of HP.out
  go_wp2_with fail
  clear hcP
  refine (c80b B D 0 0 false rfl _ HB.out).mono ?_
  rintro e w3 ⟨rfl, hk, hb⟩
  have HP := hid (hk.get HP.out (by simpa using HPD.out))
  have HB := hid hb
  have HK := hid (HK.out.drop hk (fun x hx => .inr (by simp at hx; have := HBD.out; omega)))
  clear hk hb
  have hcP := cells_of HP.out
  go_wp2_with fail
  clear hcP
  refine (c81 l211 _).mono ?_
  rintro e w4 ⟨fv, rfl, hk, hm⟩
  have HP := hid (hk.get HP.out (by simp))
  have HB := hid (HB.out.keep hk (by simp) (by simp))
  have HK := hid (HK.out.trans hk)
  obtain ⟨g2, caps2, rfl⟩ := hm.form
  have HM := hid hm
  clear hk hm
  go_wp2_with fail
  have ka : Kept [] w4 (w4.alloc (.cells (onceCells (.func g2 #[] caps2) false false) 60)) := (Kept.refl _ _).alloc _
  have HN : Hid (w4.heap.size ≠ B ∧ w4.heap.size ≠ D ∧ w.heap.size ≤ w4.heap.size ∧ w1.heap.size ≠ w4.heap.size) := hid ⟨fun e => by have := HB.out.ltB; omega, fun e => by have := HB.out.ltD; omega, HK.out.size, fun e => by have := lt_of_heap HP.out; omega⟩
  have HO : Hid (OnceAt (w4.alloc (.cells (onceCells (.func g2 #[] caps2) false false) 60)) w4.heap.size 60 (.func g2 #[] caps2) false false) := hid (new_alloc w4 _)
  have HB := hid (HB.out.keep ka (by simp) (by simp))
  have HP := hid (ka.get HP.out (by simp))
  have HK := hid (HK.out.trans ka)
  have HM := hid (HM.out.keep ka)
  clear ka
  refine (c82 w4.heap.size B D 60 (.func g2 #[] caps2) 3 0 l211 _ (bk 0 0) false _ HO.out HM.out HB.out ⟨HN.out.1, HN.out.2.1⟩).mono ?_
  rw [mbank3]
  rintro e w5 ⟨rfl, hk, _, hb⟩
  have HP := hid (hk.get HP.out (by simp; exact ⟨HN.out.2.2.2, HPD.out⟩))
  have HB := hid hb
  have HK := hid (HK.out.drop hk (fun x hx => .inr (by simp at hx; have := HN.out.2.2.1; have := HBD.out; omega)))
  clear hk hb
  have hcP := cells_of HP.out
  go_wp2_with fail
  clear hcP
  refine (c80b B D 0 1 true rfl _ HB.out).mono ?_
  rintro e w6 ⟨rfl, hk, hb⟩
  have HK := hid (HK.out.drop hk (fun x hx => .inr (by simp at hx; have := HBD.out; omega)))
  clear hk hb
  go_wp2_with fail
  go_ret
  exact ⟨rfl, HK.out⟩
end Go.Proofs.Ytklkopoelhndoaa
