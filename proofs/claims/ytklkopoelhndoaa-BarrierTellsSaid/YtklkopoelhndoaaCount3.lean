/- Law 13's own words: its bank, what a machine tells. -/
import Derived.Test.YtklkopoelhndoaaCount2
namespace Go.Proofs.Ytklkopoelhndoaa
open Go.RowKit
set_option linter.unusedVariables false
theorem plan211 : planOf 2 1 1 = ⟨2, 1, 1, 2, 0, 1, 3, 5, 7, 8, 9, 10, 11, 15⟩ := by simp [planOf, roomOf, rg]
@[reducible] def l211 : Lay := ⟨2, 1, 1, 2, 0, 1, 3, 5, 7, 8, 9, 10, 11, 15⟩
/-- law 13's bank: what is pending, what is asked -/
def bk (p a : Int) : List Int := [0, 0, 0, 0, 0, 0, 0, p, a, 0, 0, 0, 0, 0, 0]
theorem bk_zero : bk 0 0 = List.replicate 15 0 := rfl
theorem bk_length (p a : Int) : (bk p a).length = 15 := rfl
theorem ld7 (p a : Int) : ld (bk p a) 7 = p := by simp [ld, bk]
theorem ld8 (p a : Int) : ld (bk p a) 8 = a := by simp [ld, bk]
theorem st7 (p a v : Int) : st (bk p a) 7 v = bk v a := by simp [st, bk]
theorem st8 (p a v : Int) : st (bk p a) 8 v = bk p v := by simp [st, bk]
theorem adds7 (p a v : Int) : adds (bk p a) 7 v = wrap64 (p + v) := by rw [adds, if_pos (by simp [bk]), ld7]
theorem mres0 (p a n : Int) : mres 0 n l211 (bk p a) = (wrap64 (p + n) == 0) := by show (adds (bk p a) 7 n == 0) = _; rw [adds7]
theorem mres2 (p a n : Int) : mres 2 n l211 (bk p a) = (p == 0) := by show (ld (bk p a) 7 == 0) = _; rw [ld7]
theorem mres4 (p a n : Int) : mres 4 n l211 (bk p a) = (a != 0) := by show (ld (bk p a) 8 != 0) = _; rw [ld8]
theorem mbank0 (p a n : Int) : mbank 0 n l211 (bk p a) = bk (wrap64 (p + n)) a := by show st (bk p a) 7 (wrap64 (ld (bk p a) 7 + n)) = _; rw [ld7, st7]
theorem mbank2 (p a n : Int) : mbank 2 n l211 (bk p a) = bk p a := rfl
theorem mbank3 (p a n : Int) : mbank 3 n l211 (bk p a) = bk p 1 := by show st (bk p a) 8 1 = _; rw [st8]
theorem mbank4 (p a n : Int) : mbank 4 n l211 (bk p a) = bk p a := rfl
set_option maxHeartbeats 1000000 in
set_option maxRecDepth 100000 in
theorem c72 (w : World) : Calls Try.prog 22 #[] w (BankPost l211 w) := by
  have hm : May 2 1 1 := ⟨by omega, by omega, by omega, by omega, by omega, by omega⟩
  obtain ⟨s0, s1⟩ := plan_size hm
  have G := hid (fun W => c29_yes 2 1 1 W hm)
  have GN := hid (fun W => new_int (planOf 2 1 1).size s0 s1 W)
  rw [plan211] at G GN
  show Calls Try.prog 22 #[] w (BankPost ⟨2, 1, 1, 2, 0, 1, 3, 5, 7, 8, 9, 10, 11, 15⟩ w)
  obtain ⟨l, hl⟩ : ∃ l : Lay, ⟨2, 1, 1, 2, 0, 1, 3, 5, 7, 8, 9, 10, 11, 15⟩ = l := ⟨_, rfl⟩
  rw [hl] at G GN ⊢
  clear hl hm s0 s1
  go_enter Try.func22, Try.ntmps22
  go_wp2_with fail
  refine (G.out _).mono ?_
  rintro e w1 ⟨rfl, hk1⟩
  have HK1 := hid hk1
  clear hk1
  go_wp2_with fail
  refine (GN.out _).mono ?_
  rintro e w2 ⟨B, D, rfl, hB, hD, hk2, hb2⟩
  have K0 : Kept [] w (w.alloc (.cells Lay.zero.cells 25)) := (Kept.refl _ _).alloc _
  have kx : Kept [] (w.alloc (.cells Lay.zero.cells 25)) w2 := (HK1.out.alloc _).trans hk2
  have h0 := kx.get (new_alloc w _) (by simp)
  have hs1 := HK1.out.size
  have hs2 := hk2.size
  simp only [World.size_alloc] at hs1 hs2 hB hD
  have hR := hk2.get (new_alloc w1 (.cells l.cells 25)) (by simp)
  have HK := hid (K0.trans kx)
  have HB := hid hb2
  have hc0 := cells_of h0
  have hz0 := free_of h0
  have hcR := cells_of hR
  have HB2 : Hid (w.heap.size ≤ B ∧ w.heap.size ≤ D ∧ B ≠ w.heap.size ∧ D ≠ w.heap.size) := hid ⟨by omega, by omega, by omega, by omega⟩
  have H0 := hid h0
  clear hk2 hb2 h0 hR K0 kx hB hD hs1 hs2
  go_wp2_with fail
  show bodyPost Try.prog Try.f22 (BankPost l w) Exit.ret _ (putLay w2 w.heap.size l)
  have hcL := cells_of (putLay_heap H0.out l)
  clear hc0 hz0 hcR
  have kp := putLay_kept w2 w.heap.size l
  refine bodyPost_ret (v := .tuple #[l.val, .pointer (some ⟨B, 0, none⟩), .bool true]) ?_ rfl ⟨B, D, rfl, HB2.out.1, HB2.out.2.1, HK.out.drop kp (by simp), HB.out.keep kp (by simpa using HB2.out.2.2.1) (by simpa using HB2.out.2.2.2)⟩
  simp [results, Try.results22, go_sem, hcL]
theorem in_pd {P D s : Nat} (h : s ≤ P) (x : Nat) (hx : x ∈ [P, D]) : x ∈ [D] ∨ s ≤ x := by
  rcases List.mem_cons.1 hx with h1 | h1
  · exact .inr (by omega)
  · exact .inl h1
set_option maxHeartbeats 2000000 in
set_option maxRecDepth 100000 in
theorem c75 (l : Lay) (B D : Nat) (m : List Int) (w : World) (hb : BankAt w B D m) :
    Calls Try.prog 25 #[l.val, .pointer (some ⟨B, 0, none⟩)] w fun e w' => e = .returned (.bool (mres 0 (-1) l m)) ∧ Kept [D] w w' ∧ BankAt w' B D (mbank 0 (-1) l m) := by
  have HB := hid hb
  clear hb
  go_enter Try.func25, Try.ntmps25
  go_wp2_with fail
  refine (c83 l _).mono ?_
  rintro e w1 ⟨fv, rfl, hk1, hm1⟩
  have HK1 := hid (((Kept.refl [] w).alloc (.cells l.cells 25)).trans hk1)
  have HM1 := hid hm1
  have HSZ : Hid (w.heap.size ≤ w1.heap.size) := hid HK1.out.size
  clear hk1 hm1
  obtain ⟨g, caps, rfl⟩ := HM1.out.form
  have ka : Kept [] w1 (w1.alloc (.cells (onceCells (.func g #[] caps) false false) 64)) := (Kept.refl _ _).alloc _
  have HB1 := hid ((HB.out.keep HK1.out (by simp) (by simp)).keep ka (by simp) (by simp))
  have HN : Hid (w1.heap.size ≠ B ∧ w1.heap.size ≠ D) := hid ⟨fun e => by have := (HB.out.keep HK1.out (by simp) (by simp)).ltB; omega, fun e => by have := (HB.out.keep HK1.out (by simp) (by simp)).ltD; omega⟩
  have HM2 := hid (HM1.out.keep ka)
  have HK2 := hid (HK1.out.trans ka)
  have HP : Hid (OnceAt (w1.alloc (.cells (onceCells (.func g #[] caps) false false) 64)) w1.heap.size 64 (.func g #[] caps) false false) := hid (new_alloc w1 _)
  clear ka HM1 HK1
  go_wp2_with fail
  refine (c84 w1.heap.size B D 64 (.func g #[] caps) 0 (-1) l _ m false _ HP.out HM2.out HB1.out HN.out).mono ?_
  rintro e w2 ⟨rfl, hk2, ho2, hb2⟩
  have HK3 := hid ((HK2.out.of_nil (M := [D])).drop hk2 (in_pd HSZ.out))
  have HO2 := hid ho2
  have HB2 := hid hb2
  clear hk2 ho2 hb2
  go_wp2_with fail
  refine (c85 w1.heap.size 64 (.func g #[] caps) true _ w2 HO2.out).mono ?_
  rintro e w3 ⟨rfl, rfl⟩
  go_wp2_with fail
  go_ret
  exact ⟨rfl, HK3.out, HB2.out⟩
set_option maxHeartbeats 2000000 in
set_option maxRecDepth 100000 in
theorem c76 (l : Lay) (B D : Nat) (m : List Int) (w : World) (hb : BankAt w B D m) :
    Calls Try.prog 27 #[l.val, .pointer (some ⟨B, 0, none⟩)] w fun e w' => e = .returned (.bool (mres 2 0 l m)) ∧ Kept [D] w w' ∧ BankAt w' B D (mbank 2 0 l m) := by
  have HB := hid hb
  clear hb
  go_enter Try.func27, Try.ntmps27
  go_wp2_with fail
  refine (c146 l _).mono ?_
  rintro e w1 ⟨fv, rfl, hk1, hm1⟩
  have HK1 := hid (((Kept.refl [] w).alloc (.cells l.cells 25)).trans hk1)
  have HM1 := hid hm1
  have HSZ : Hid (w.heap.size ≤ w1.heap.size) := hid HK1.out.size
  clear hk1 hm1
  obtain ⟨g, caps, rfl⟩ := HM1.out.form
  have ka : Kept [] w1 (w1.alloc (.cells (onceCells (.func g #[] caps) false false) 113)) := (Kept.refl _ _).alloc _
  have HB1 := hid ((HB.out.keep HK1.out (by simp) (by simp)).keep ka (by simp) (by simp))
  have HN : Hid (w1.heap.size ≠ B ∧ w1.heap.size ≠ D) := hid ⟨fun e => by have := (HB.out.keep HK1.out (by simp) (by simp)).ltB; omega, fun e => by have := (HB.out.keep HK1.out (by simp) (by simp)).ltD; omega⟩
  have HM2 := hid (HM1.out.keep ka)
  have HK2 := hid (HK1.out.trans ka)
  have HP : Hid (OnceAt (w1.alloc (.cells (onceCells (.func g #[] caps) false false) 113)) w1.heap.size 113 (.func g #[] caps) false false) := hid (new_alloc w1 _)
  clear ka HM1 HK1
  go_wp2_with fail
  refine (c147 w1.heap.size B D 113 (.func g #[] caps) 2 0 l _ m false _ HP.out HM2.out HB1.out HN.out).mono ?_
  rintro e w2 ⟨rfl, hk2, ho2, hb2⟩
  have HK3 := hid ((HK2.out.of_nil (M := [D])).drop hk2 (in_pd HSZ.out))
  have HO2 := hid ho2
  have HB2 := hid hb2
  clear hk2 ho2 hb2
  go_wp2_with fail
  refine (c148 w1.heap.size 113 (.func g #[] caps) true _ w2 HO2.out).mono ?_
  rintro e w3 ⟨rfl, rfl⟩
  go_wp2_with fail
  go_ret
  exact ⟨rfl, HK3.out, HB2.out⟩
set_option maxHeartbeats 2000000 in
set_option maxRecDepth 100000 in
theorem c80 (l : Lay) (B D : Nat) (m : List Int) (w : World) (hb : BankAt w B D m) :
    Calls Try.prog 31 #[l.val, .pointer (some ⟨B, 0, none⟩)] w fun e w' => e = .returned (.bool (mres 4 0 l m)) ∧ Kept [D] w w' ∧ BankAt w' B D (mbank 4 0 l m) := by
  have HB := hid hb
  clear hb
  go_enter Try.func31, Try.ntmps31
  go_wp2_with fail
  refine (c149 l _).mono ?_
  rintro e w1 ⟨fv, rfl, hk1, hm1⟩
  have HK1 := hid (((Kept.refl [] w).alloc (.cells l.cells 25)).trans hk1)
  have HM1 := hid hm1
  have HSZ : Hid (w.heap.size ≤ w1.heap.size) := hid HK1.out.size
  clear hk1 hm1
  obtain ⟨g, caps, rfl⟩ := HM1.out.form
  have ka : Kept [] w1 (w1.alloc (.cells (onceCells (.func g #[] caps) false false) 115)) := (Kept.refl _ _).alloc _
  have HB1 := hid ((HB.out.keep HK1.out (by simp) (by simp)).keep ka (by simp) (by simp))
  have HN : Hid (w1.heap.size ≠ B ∧ w1.heap.size ≠ D) := hid ⟨fun e => by have := (HB.out.keep HK1.out (by simp) (by simp)).ltB; omega, fun e => by have := (HB.out.keep HK1.out (by simp) (by simp)).ltD; omega⟩
  have HM2 := hid (HM1.out.keep ka)
  have HK2 := hid (HK1.out.trans ka)
  have HP : Hid (OnceAt (w1.alloc (.cells (onceCells (.func g #[] caps) false false) 115)) w1.heap.size 115 (.func g #[] caps) false false) := hid (new_alloc w1 _)
  clear ka HM1 HK1
  go_wp2_with fail
  refine (c151 w1.heap.size B D 115 (.func g #[] caps) 4 0 l _ m false _ HP.out HM2.out HB1.out HN.out).mono ?_
  rintro e w2 ⟨rfl, hk2, ho2, hb2⟩
  have HK3 := hid ((HK2.out.of_nil (M := [D])).drop hk2 (in_pd HSZ.out))
  have HO2 := hid ho2
  have HB2 := hid hb2
  clear hk2 ho2 hb2
  go_wp2_with fail
  refine (c150 w1.heap.size 115 (.func g #[] caps) true _ w2 HO2.out).mono ?_
  rintro e w3 ⟨rfl, rfl⟩
  go_wp2_with fail
  go_ret
  exact ⟨rfl, HK3.out, HB2.out⟩
end Go.Proofs.Ytklkopoelhndoaa
