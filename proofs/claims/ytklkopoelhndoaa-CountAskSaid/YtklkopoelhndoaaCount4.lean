/- A machine of a kind, stepped, twice if again: what it tells ahead, and behind. -/
import Derived.Test.YtklkopoelhndoaaCount3
namespace Go.Proofs.Ytklkopoelhndoaa
open Go.RowKit
set_option linter.unusedVariables false
set_option maxHeartbeats 2000000 in
set_option maxRecDepth 100000 in
theorem c79_0 (n : Int) (l : Lay) (B D : Nat) (m : List Int) (again : Bool) (w : World) (hb : BankAt w B D m) :
    Calls Try.prog 30 #[.int .i64 0, .int .i64 n, l.val, .pointer (some ⟨B, 0, none⟩), .bool again] w fun e w' => e = .returned (.tuple #[.bool false, .bool true, .bool false]) ∧ Kept [D] w w' ∧ BankAt w' B D (mbank 0 n l m) := by
  have HB := hid hb
  clear hb
  go_enter Try.func30, Try.ntmps30
  go_wp2_with fail
  refine (c73 l n _).mono ?_
  rintro e w1 ⟨fv, rfl, hk1, hm1⟩
  have HK1 := hid (((Kept.refl [] w).alloc (.cells l.cells 25)).trans hk1)
  have HM1 := hid hm1
  have HSZ : Hid (w.heap.size ≤ w1.heap.size) := hid HK1.out.size
  clear hk1 hm1
  obtain ⟨g, caps, rfl⟩ := HM1.out.form
  have ka : Kept [] w1 (w1.alloc (.cells (onceCells (.func g #[] caps) false false) 49)) := (Kept.refl _ _).alloc _
  have HB1 := hid ((HB.out.keep HK1.out (by simp) (by simp)).keep ka (by simp) (by simp))
  have HN : Hid (w1.heap.size ≠ B ∧ w1.heap.size ≠ D) := hid ⟨fun e => by have := (HB.out.keep HK1.out (by simp) (by simp)).ltB; omega, fun e => by have := (HB.out.keep HK1.out (by simp) (by simp)).ltD; omega⟩
  have HM2 := hid (HM1.out.keep ka)
  have HK2 := hid (HK1.out.trans ka)
  have HP : Hid (OnceAt (w1.alloc (.cells (onceCells (.func g #[] caps) false false) 49)) w1.heap.size 49 (.func g #[] caps) false false) := hid (new_alloc w1 _)
  clear ka HM1 HK1
  go_wp2_with fail
  refine (c74 w1.heap.size B D 49 (.func g #[] caps) 0 n l _ m false _ HP.out HM2.out HB1.out HN.out).mono ?_
  rintro e w2 ⟨rfl, hk2, ho2, hb2⟩
  have HK3 := hid ((HK2.out.of_nil (M := [D])).drop hk2 (in_pd HSZ.out))
  have HO2 := hid ho2
  have HB2 := hid hb2
  clear hk2 ho2 hb2
  cases again
  · go_wp2_with fail
    go_ret3
    exact ⟨rfl, HK3.out, HB2.out⟩
  · go_wp2_with fail
    refine (c74_done w1.heap.size B 49 (.func g #[] caps) _ _ HO2.out).mono ?_
    rintro e w3 ⟨rfl, rfl⟩
    go_wp2_with fail
    go_ret3
    exact ⟨rfl, HK3.out, HB2.out⟩
set_option maxHeartbeats 2000000 in
set_option maxRecDepth 100000 in
theorem c79_1 (n : Int) (l : Lay) (B D : Nat) (m : List Int) (again : Bool) (w : World) (hb : BankAt w B D m) :
    Calls Try.prog 30 #[.int .i64 1, .int .i64 n, l.val, .pointer (some ⟨B, 0, none⟩), .bool again] w fun e w' => e = .returned (.tuple #[.bool false, .bool true, .bool (mres 0 (-1) l m)]) ∧ Kept [D] w w' ∧ BankAt w' B D (mbank 0 (-1) l m) := by
  have HB := hid hb
  clear hb
  go_enter Try.func30, Try.ntmps30
  go_wp2_with fail
  refine (c83 l _).mono ?_
  rintro e w1 ⟨fv, rfl, hk1, hm1⟩
  have HK1 := hid (((Kept.refl [] w).alloc (.cells l.cells 25)).trans hk1)
  have HM1 := hid hm1
  have HSZ : Hid (w.heap.size ≤ w1.heap.size) := hid HK1.out.size
  clear hk1 hm1
  obtain ⟨g, caps, rfl⟩ := HM1.out.form
  have ka : Kept [] w1 (w1.alloc (.cells (onceCells (.func g #[] caps) false false) 64)) := (Kept.refl _ _).alloc _
  have HB1 := hid ((HB.out.keep HK1.out (by simp) (by simp)).keep ka (by simp) (by simp))
  have HN : Hid (w1.heap.size ≠ B ∧ w1.heap.size ≠ D) := hid ⟨fun e => by have := (HB.out.keep HK1.out (by simp) (by simp)).ltB; omega, fun e => by have := (HB.out.keep HK1.out (by simp) (by simp)).ltD; omega⟩
  have HM2 := hid (HM1.out.keep ka)
  have HK2 := hid (HK1.out.trans ka)
  have HP : Hid (OnceAt (w1.alloc (.cells (onceCells (.func g #[] caps) false false) 64)) w1.heap.size 64 (.func g #[] caps) false false) := hid (new_alloc w1 _)
  clear ka HM1 HK1
  go_wp2_with fail
  refine (c85 w1.heap.size 64 (.func g #[] caps) false false _ HP.out).mono ?_
  rintro e w2 ⟨rfl, rfl⟩
  go_wp2_with fail
  refine (c84 w1.heap.size B D 64 (.func g #[] caps) 0 (-1) l _ m false _ HP.out HM2.out HB1.out HN.out).mono ?_
  rintro e w2 ⟨rfl, hk2, ho2, hb2⟩
  have HK3 := hid ((HK2.out.of_nil (M := [D])).drop hk2 (in_pd HSZ.out))
  have HO2 := hid ho2
  have HB2 := hid hb2
  clear hk2 ho2 hb2
  cases again
  · go_wp2_with fail
    refine (c85 w1.heap.size 64 (.func g #[] caps) true _ _ HO2.out).mono ?_
    rintro e w3 ⟨rfl, rfl⟩
    go_wp2_with fail
    go_ret3
    exact ⟨rfl, HK3.out, HB2.out⟩
  · go_wp2_with fail
    refine (c84_done w1.heap.size B 64 (.func g #[] caps) _ _ HO2.out).mono ?_
    rintro e w3 ⟨rfl, rfl⟩
    go_wp2_with fail
    refine (c85 w1.heap.size 64 (.func g #[] caps) true _ _ HO2.out).mono ?_
    rintro e w3 ⟨rfl, rfl⟩
    go_wp2_with fail
    go_ret3
    exact ⟨rfl, HK3.out, HB2.out⟩
set_option maxHeartbeats 2000000 in
set_option maxRecDepth 100000 in
theorem c79_2 (n : Int) (l : Lay) (B D : Nat) (m : List Int) (again : Bool) (w : World) (hb : BankAt w B D m) :
    Calls Try.prog 30 #[.int .i64 2, .int .i64 n, l.val, .pointer (some ⟨B, 0, none⟩), .bool again] w fun e w' => e = .returned (.tuple #[.bool false, .bool true, .bool (mres 2 0 l m)]) ∧ Kept [D] w w' ∧ BankAt w' B D (mbank 2 0 l m) := by
  have HB := hid hb
  clear hb
  go_enter Try.func30, Try.ntmps30
  go_wp2_with fail
  refine (c146 l _).mono ?_
  rintro e w1 ⟨fv, rfl, hk1, hm1⟩
  have HK1 := hid (((Kept.refl [] w).alloc (.cells l.cells 25)).trans hk1)
  have HM1 := hid hm1
  have HSZ : Hid (w.heap.size ≤ w1.heap.size) := hid HK1.out.size
  clear hk1 hm1
  obtain ⟨g, caps, rfl⟩ := HM1.out.form
  have ka : Kept [] w1 (w1.alloc (.cells (onceCells (.func g #[] caps) false false) 113)) := (Kept.refl _ _).alloc _
  have HB1 := hid ((HB.out.keep HK1.out (by simp) (by simp)).keep ka (by simp) (by simp))
  have HN : Hid (w1.heap.size ≠ B ∧ w1.heap.size ≠ D) := hid ⟨fun e => by have := (HB.out.keep HK1.out (by simp) (by simp)).ltB; omega, fun e => by have := (HB.out.keep HK1.out (by simp) (by simp)).ltD; omega⟩
  have HM2 := hid (HM1.out.keep ka)
  have HK2 := hid (HK1.out.trans ka)
  have HP : Hid (OnceAt (w1.alloc (.cells (onceCells (.func g #[] caps) false false) 113)) w1.heap.size 113 (.func g #[] caps) false false) := hid (new_alloc w1 _)
  clear ka HM1 HK1
  go_wp2_with fail
  refine (c148 w1.heap.size 113 (.func g #[] caps) false false _ HP.out).mono ?_
  rintro e w2 ⟨rfl, rfl⟩
  go_wp2_with fail
  refine (c147 w1.heap.size B D 113 (.func g #[] caps) 2 0 l _ m false _ HP.out HM2.out HB1.out HN.out).mono ?_
  rintro e w2 ⟨rfl, hk2, ho2, hb2⟩
  have HK3 := hid ((HK2.out.of_nil (M := [D])).drop hk2 (in_pd HSZ.out))
  have HO2 := hid ho2
  have HB2 := hid hb2
  clear hk2 ho2 hb2
  cases again
  · go_wp2_with fail
    refine (c148 w1.heap.size 113 (.func g #[] caps) true _ _ HO2.out).mono ?_
    rintro e w3 ⟨rfl, rfl⟩
    go_wp2_with fail
    go_ret3
    exact ⟨rfl, HK3.out, HB2.out⟩
  · go_wp2_with fail
    refine (c147_done w1.heap.size B 113 (.func g #[] caps) _ _ HO2.out).mono ?_
    rintro e w3 ⟨rfl, rfl⟩
    go_wp2_with fail
    refine (c148 w1.heap.size 113 (.func g #[] caps) true _ _ HO2.out).mono ?_
    rintro e w3 ⟨rfl, rfl⟩
    go_wp2_with fail
    go_ret3
    exact ⟨rfl, HK3.out, HB2.out⟩
set_option maxHeartbeats 2000000 in
set_option maxRecDepth 100000 in
theorem c79_3 (n : Int) (l : Lay) (B D : Nat) (m : List Int) (again : Bool) (w : World) (hb : BankAt w B D m) :
    Calls Try.prog 30 #[.int .i64 3, .int .i64 n, l.val, .pointer (some ⟨B, 0, none⟩), .bool again] w fun e w' => e = .returned (.tuple #[.bool false, .bool true, .bool false]) ∧ Kept [D] w w' ∧ BankAt w' B D (mbank 3 0 l m) := by
  have HB := hid hb
  clear hb
  go_enter Try.func30, Try.ntmps30
  go_wp2_with fail
  refine (c81 l _).mono ?_
  rintro e w1 ⟨fv, rfl, hk1, hm1⟩
  have HK1 := hid (((Kept.refl [] w).alloc (.cells l.cells 25)).trans hk1)
  have HM1 := hid hm1
  have HSZ : Hid (w.heap.size ≤ w1.heap.size) := hid HK1.out.size
  clear hk1 hm1
  obtain ⟨g, caps, rfl⟩ := HM1.out.form
  have ka : Kept [] w1 (w1.alloc (.cells (onceCells (.func g #[] caps) false false) 60)) := (Kept.refl _ _).alloc _
  have HB1 := hid ((HB.out.keep HK1.out (by simp) (by simp)).keep ka (by simp) (by simp))
  have HN : Hid (w1.heap.size ≠ B ∧ w1.heap.size ≠ D) := hid ⟨fun e => by have := (HB.out.keep HK1.out (by simp) (by simp)).ltB; omega, fun e => by have := (HB.out.keep HK1.out (by simp) (by simp)).ltD; omega⟩
  have HM2 := hid (HM1.out.keep ka)
  have HK2 := hid (HK1.out.trans ka)
  have HP : Hid (OnceAt (w1.alloc (.cells (onceCells (.func g #[] caps) false false) 60)) w1.heap.size 60 (.func g #[] caps) false false) := hid (new_alloc w1 _)
  clear ka HM1 HK1
  go_wp2_with fail
  refine (c82 w1.heap.size B D 60 (.func g #[] caps) 3 0 l _ m false _ HP.out HM2.out HB1.out HN.out).mono ?_
  rintro e w2 ⟨rfl, hk2, ho2, hb2⟩
  have HK3 := hid ((HK2.out.of_nil (M := [D])).drop hk2 (in_pd HSZ.out))
  have HO2 := hid ho2
  have HB2 := hid hb2
  clear hk2 ho2 hb2
  cases again
  · go_wp2_with fail
    go_ret3
    exact ⟨rfl, HK3.out, HB2.out⟩
  · go_wp2_with fail
    refine (c82_done w1.heap.size B 60 (.func g #[] caps) _ _ HO2.out).mono ?_
    rintro e w3 ⟨rfl, rfl⟩
    go_wp2_with fail
    go_ret3
    exact ⟨rfl, HK3.out, HB2.out⟩
set_option maxHeartbeats 2000000 in
set_option maxRecDepth 100000 in
theorem c79_4 (n : Int) (l : Lay) (B D : Nat) (m : List Int) (again : Bool) (w : World) (hb : BankAt w B D m) :
    Calls Try.prog 30 #[.int .i64 4, .int .i64 n, l.val, .pointer (some ⟨B, 0, none⟩), .bool again] w fun e w' => e = .returned (.tuple #[.bool false, .bool true, .bool (mres 4 0 l m)]) ∧ Kept [D] w w' ∧ BankAt w' B D (mbank 4 0 l m) := by
  have HB := hid hb
  clear hb
  go_enter Try.func30, Try.ntmps30
  go_wp2_with fail
  refine (c149 l _).mono ?_
  rintro e w1 ⟨fv, rfl, hk1, hm1⟩
  have HK1 := hid (((Kept.refl [] w).alloc (.cells l.cells 25)).trans hk1)
  have HM1 := hid hm1
  have HSZ : Hid (w.heap.size ≤ w1.heap.size) := hid HK1.out.size
  clear hk1 hm1
  obtain ⟨g, caps, rfl⟩ := HM1.out.form
  have ka : Kept [] w1 (w1.alloc (.cells (onceCells (.func g #[] caps) false false) 115)) := (Kept.refl _ _).alloc _
  have HB1 := hid ((HB.out.keep HK1.out (by simp) (by simp)).keep ka (by simp) (by simp))
  have HN : Hid (w1.heap.size ≠ B ∧ w1.heap.size ≠ D) := hid ⟨fun e => by have := (HB.out.keep HK1.out (by simp) (by simp)).ltB; omega, fun e => by have := (HB.out.keep HK1.out (by simp) (by simp)).ltD; omega⟩
  have HM2 := hid (HM1.out.keep ka)
  have HK2 := hid (HK1.out.trans ka)
  have HP : Hid (OnceAt (w1.alloc (.cells (onceCells (.func g #[] caps) false false) 115)) w1.heap.size 115 (.func g #[] caps) false false) := hid (new_alloc w1 _)
  clear ka HM1 HK1
  go_wp2_with fail
  refine (c150 w1.heap.size 115 (.func g #[] caps) false false _ HP.out).mono ?_
  rintro e w2 ⟨rfl, rfl⟩
  go_wp2_with fail
  refine (c151 w1.heap.size B D 115 (.func g #[] caps) 4 0 l _ m false _ HP.out HM2.out HB1.out HN.out).mono ?_
  rintro e w2 ⟨rfl, hk2, ho2, hb2⟩
  have HK3 := hid ((HK2.out.of_nil (M := [D])).drop hk2 (in_pd HSZ.out))
  have HO2 := hid ho2
  have HB2 := hid hb2
  clear hk2 ho2 hb2
  cases again
  · go_wp2_with fail
    refine (c150 w1.heap.size 115 (.func g #[] caps) true _ _ HO2.out).mono ?_
    rintro e w3 ⟨rfl, rfl⟩
    go_wp2_with fail
    go_ret3
    exact ⟨rfl, HK3.out, HB2.out⟩
  · go_wp2_with fail
    refine (c151_done w1.heap.size B 115 (.func g #[] caps) _ _ HO2.out).mono ?_
    rintro e w3 ⟨rfl, rfl⟩
    go_wp2_with fail
    refine (c150 w1.heap.size 115 (.func g #[] caps) true _ _ HO2.out).mono ?_
    rintro e w3 ⟨rfl, rfl⟩
    go_wp2_with fail
    go_ret3
    exact ⟨rfl, HK3.out, HB2.out⟩
end Go.Proofs.Ytklkopoelhndoaa
