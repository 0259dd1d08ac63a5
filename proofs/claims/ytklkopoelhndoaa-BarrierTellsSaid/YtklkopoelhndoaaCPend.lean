/- CountPending returns true, whatever comes in. -/
import Derived.Test.YtklkopoelhndoaaAwake13
import Derived.Test.YtklkopoelhndoaaInts
import Derived.Test.YtklkopoelhndoaaSlice
import Derived.Outline
namespace Go.Proofs.Ytklkopoelhndoaa
open Go.RowKit Go.ChangeShapes Go.WideShapes
set_option linter.unusedVariables false
theorem w64_id {x : Int} (h0 : -9223372036854775808 ≤ x) (h1 : x ≤ 9223372036854775807) : wrap64 x = x := by unfold wrap64; omega
theorem c42p (B D : Nat) (p a : Int) (w : World) (hb : BankAt w B D (bk p a)) :
    Calls Try.prog 26 #[.pointer (some ⟨B, 0, none⟩), .int .i64 7] w fun e w' => e = .returned (.int .i64 p) ∧ w = w' := by
  have := c42 B D (bk p a) 7 w hb
  rwa [ld7] at this
structure Inv13 (B D P : Nat) (w wr : World) (p a : Int) : Prop where
  bank : BankAt wr B D (bk p a)
  kept : Kept [] w wr
  plan : wr.heap[P]? = some (.cells l211.cells 25 (0, 0))
theorem Inv13.keep {B D P : Nat} {w wr w' : World} {p a : Int} (i : Inv13 B D P w wr p a) (k : Kept [] wr w') : Inv13 B D P w w' p a := ⟨i.bank.keep k (by simp) (by simp), i.kept.trans k, k.get i.plan (by simp)⟩
theorem Inv13.turn {B D P : Nat} {w wr w' : World} {p a p' a' : Int} (i : Inv13 B D P w wr p a) (k : Kept [D] wr w') (hD : w.heap.size ≤ D) (hP : P ≠ D) (hb : BankAt w' B D (bk p' a')) : Inv13 B D P w w' p' a' :=
  ⟨hb, i.kept.drop k (fun x hx => .inr (by simp at hx; omega)), k.get i.plan (by simpa using hP)⟩
set_option maxHeartbeats 4000000 in
set_option maxRecDepth 100000 in
theorem cpend_main (b off len cap : Nat) (f : Nat → Int) (w : World) (hlc : len ≤ cap) (hcm : cap ≤ maxLen) (hb : b < w.heap.size)
    (hf : ∀ k, k < len → (0 ≤ f k ∧ f k ≤ 255) ∧ w.cell? ⟨b, off + k, none⟩ = some (.int .u8 (f k))) :
    Calls Try.prog 5 #[.slice (some ⟨b, off, none⟩) len cap] w fun e w' => e = .returned (.bool true) ∧ Kept [] w w' := by
  unfold maxLen at hcm
  have HF := hid hf
  obtain ⟨L, hL, hLl, hL1⟩ : ∃ L : Nat, L = min len 200 ∧ L ≤ len ∧ L ≤ 200 := ⟨_, rfl, by omega, by omega⟩
  have hmin : ∀ (ats : Array TypeId) (ty : TypeId), Builtin.min_ ats ty #[.int .i64 (len : Int), .int .i64 200] = pure (.int .i64 (L : Int)) := min_at len 200 L hL
  clear hf hL
  go_enter Try.func5, Try.ntmps5
  go_wp2_with fail
  refine (c72 _).mono ?_
  rintro e w1 ⟨B, D, rfl, hB, hD, hk1, hb1⟩
  rw [show l211.size.toNat = 15 from rfl, ← bk_zero] at hb1
  have HBD := hid (And.intro hB hD)
  have HPD : Hid (w1.heap.size ≠ D) := hid (fun e => by have := hb1.ltD; omega)
  have HI0 : Hid (Inv13 B D w1.heap.size w (w1.alloc (.cells l211.cells 25)) 0 0) := hid ⟨hb1.keep ((Kept.refl [] w1).alloc _) (by simp) (by simp), hk1.trans ((Kept.refl [] w1).alloc _), new_alloc _ _⟩
  clear hb1 hk1 hB hD
  go_wp2_with fail
  clear hmin
  go_loopw [6, 24] (fun u s wr => ∃ (k : Nat) (q : Int), s = .int .i64 k ∧ u = .int .i64 q ∧ k ≤ L ∧ 0 ≤ q ∧ q ≤ 9 * k ∧ Inv13 B D w1.heap.size w wr q 0) (fun _ s _ => L - (intOf s).toNat)
  case atStart => exact ⟨0, 0, rfl, rfl, by omega, by omega, by omega, HI0.out⟩
  case round =>
    obtain ⟨k, q, rfl, rfl, hk, hq0, hq1, hinv⟩ := hrel
    have HI := hid hinv
    clear hinv HI0
    by_cases hlt : k < L
    · obtain ⟨ho, h0⟩ := HF.out k (by omega)
      have h0 := HI.out.kept.cellx hb (by simp) h0
      obtain ⟨x, hx⟩ : ∃ x, x = f k := ⟨_, rfl⟩
      rw [← hx] at h0 ho
      obtain ⟨x0, x1⟩ := ho
      clear hx
      have hcP := cells_of HI.out.plan
      by_cases hup : x % 2 = 0 ∨ q = 0
      · obtain ⟨y, hy⟩ : ∃ y, x / 2 % 9 = y := ⟨_, rfl⟩
        have y0 : 0 ≤ y := by omega
        have y1 : y ≤ 8 := by omega
        have hxb : (x % 2 == 0) = true ∨ ((x % 2 == 0) = false ∧ (q == 0) = true) := by
          by_cases h : x % 2 = 0
          · exact .inl (by simp [h])
          · exact .inr ⟨by simp [h], by simp; omega⟩
        clear hup
        have hpz : (q + (1 + y) == 0) = false := by simp; omega
        have hpl : ¬ q + (1 + y) < 0 := by omega
        rcases hxb with hxb | ⟨hxb, hqb⟩
        all_goals
          go_wp2_with fail
          refine (c73 l211 (1 + y) _).mono ?_
          rintro e w2 ⟨fv, rfl, hk, hm⟩
          have HI := hid (HI.out.keep hk)
          obtain ⟨g, caps, rfl⟩ := hm.form
          have HM := hid hm
          clear hk hm
          try clear hcP
          go_wp2_with fail
          have ka : Kept [] w2 (w2.alloc (.cells (onceCells (.func g #[] caps) false false) 49)) := (Kept.refl _ _).alloc _
          have HN : Hid (w2.heap.size ≠ B ∧ w2.heap.size ≠ D ∧ w.heap.size ≤ w2.heap.size ∧ w1.heap.size ≠ w2.heap.size) := hid ⟨fun e => by have := HI.out.bank.ltB; omega, fun e => by have := HI.out.bank.ltD; omega, HI.out.kept.size, fun e => by have := lt_of_heap HI.out.plan; omega⟩
          have HO : Hid (OnceAt (w2.alloc (.cells (onceCells (.func g #[] caps) false false) 49)) w2.heap.size 49 (.func g #[] caps) false false) := hid (new_alloc w2 _)
          have HI := hid (HI.out.keep ka)
          have HM := hid (HM.out.keep ka)
          clear ka
          refine (c74 w2.heap.size B D 49 (.func g #[] caps) 0 (1 + y) l211 _ (bk q 0) false _ HO.out HM.out HI.out.bank ⟨HN.out.1, HN.out.2.1⟩).mono ?_
          rw [mbank0, w64_id (show -9223372036854775808 ≤ q + (1 + y) by omega) (by omega)]
          rintro e w3 ⟨rfl, hk, ho, hb'⟩
          have HO := hid ho
          have HI : Hid (Inv13 B D w1.heap.size w w3 (q + (1 + y)) 0) := hid ⟨hb', HI.out.kept.drop hk (fun x hx => .inr (by simp at hx; have := HN.out.2.2.1; have := HBD.out; omega)), hk.get HI.out.plan (by simp; exact ⟨HN.out.2.2.2, HPD.out⟩)⟩
          clear hk hb' ho
          have hcP := cells_of HI.out.plan
          go_wp2_with fail
          refine (c42p B D (q + (1 + y)) 0 _ HI.out.bank).mono ?_
          rintro e w4 ⟨rfl, rfl⟩
          go_wp2_with fail
          clear hcP
          refine (c76b B D (q + (1 + y)) 0 false (by simp; omega) _ HI.out.bank).mono ?_
          rintro e w5 ⟨rfl, hk, hb'⟩
          have HI := hid (HI.out.turn hk HBD.out.2 HPD.out hb')
          clear hk hb'
          go_wp2_with fail
          go_roundw
          case rel => exact ⟨k + 1, (q + (1 + y)), by go_num, by go_num, by omega, by omega, by omega, HI.out⟩
          case measure => simp [intOf]; omega
      · have hxb : (x % 2 == 0) = false := by simp; omega
        have hqb : (q == 0) = false := by simp; omega
        have hq2 : 1 ≤ q := by omega
        have hq3 : 0 ≤ q - 1 := by omega
        clear hup
        by_cases hq : q = 1
        · obtain rfl : q = 1 := hq
          go_wp2_with fail
          refine (c75b B D 1 0 0 true wr0 rfl _ HI.out.bank).mono ?_
          rintro e w3 ⟨rfl, hk, hb'⟩
          have HI := hid (HI.out.turn hk HBD.out.2 HPD.out hb')
          clear hk hb'
          try clear hcP
          have hcP := cells_of HI.out.plan
          go_wp2_with fail
          refine (c42p B D 0 0 _ HI.out.bank).mono ?_
          rintro e w4 ⟨rfl, rfl⟩
          go_wp2_with fail
          clear hcP
          refine (c76b B D 0 0 true rfl _ HI.out.bank).mono ?_
          rintro e w5 ⟨rfl, hk, hb'⟩
          have HI := hid (HI.out.turn hk HBD.out.2 HPD.out hb')
          clear hk hb'
          go_wp2_with fail
          go_roundw
          case rel => exact ⟨k + 1, 0, by go_num, by go_num, by omega, by omega, by omega, HI.out⟩
          case measure => simp [intOf]; omega
        · have hqm : (q - 1 == 0) = false := by simp; omega
          go_wp2_with fail
          refine (c75b B D q 0 (q - 1) false (w64_id (by omega) (by omega)) hqm _ HI.out.bank).mono ?_
          rintro e w3 ⟨rfl, hk, hb'⟩
          have HI := hid (HI.out.turn hk HBD.out.2 HPD.out hb')
          clear hk hb'
          try clear hcP
          have hcP := cells_of HI.out.plan
          go_wp2_with fail
          refine (c42p B D (q - 1) 0 _ HI.out.bank).mono ?_
          rintro e w4 ⟨rfl, rfl⟩
          go_wp2_with fail
          clear hcP
          refine (c76b B D (q - 1) 0 false hqm _ HI.out.bank).mono ?_
          rintro e w5 ⟨rfl, hk, hb'⟩
          have HI := hid (HI.out.turn hk HBD.out.2 HPD.out hb')
          clear hk hb'
          go_wp2_with fail
          go_roundw
          case rel => exact ⟨k + 1, (q - 1), by go_num, by go_num, by omega, by omega, by omega, HI.out⟩
          case measure => simp [intOf]; omega
    · obtain rfl : k = L := by omega
      go_wp2_with fail
      refine (awake13 _).mono ?_
      rintro e w5 ⟨rfl, hk5⟩
      go_wp2_with fail
      go_ret
      exact ⟨rfl, HI.out.kept.trans hk5⟩
end Go.Proofs.Ytklkopoelhndoaa
