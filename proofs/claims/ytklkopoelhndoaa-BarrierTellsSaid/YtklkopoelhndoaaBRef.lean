/- The document's barrier: ready, and a machine's step, upon a row. -/
import Derived.Test.YtklkopoelhndoaaBarr3
import Derived.Test.YtklkopoelhndoaaRef
import Derived.Test.YtklkopoelhndoaaRowOps
import Derived.Deep.RegionHeld3
import Derived.Deep.DrawnRows
namespace Go.Proofs.Ytklkopoelhndoaa
open Go.RowKit
attribute [local go_sem ↓] Go.wp_at_zero Go.wp_at_succ
set_option linter.unusedVariables false
set_option maxHeartbeats 2000000 in
set_option maxRecDepth 100000 in
theorem c98 (l : Lay) (g c N : Nat) (m : List Int) (w : World) (hn : m.length = N) (hr : RowIn w g m) (hN : N ≤ 524288) :
    Calls Try.prog 51 #[l.val, .slice (some ⟨g, 0, none⟩) N c] w (PutPostN N (st (st m l.count l.workers) l.sense 0) w) := by
  have ka : Kept [] w (w.alloc (.cells l.cells 25)) := (Kept.refl _ _).alloc _
  have HR := hid (hr.keep ka (by simp))
  have HP := hid (new_alloc w (.cells l.cells 25))
  have HK := hid ka
  have HN := hid hn
  have HM := hid hN
  clear hr ka hn hN
  have hcP := cells_of HP.out
  go_enter Try.func51, Try.ntmps51
  go_wp2_with fail
  go_region_held3 (fun w' => ∀ i, w'.cell? ⟨w.heap.size, i, none⟩ = l.cells[i]?) (first | exact hcP | exact hcP1 | exact hcP2)
    (first
      | (go_at_call 70; (with_reducible refine (c44n g c N m l.count l.workers _ HN.out (HR.out.keep (Kept.refl [] _).drew (by simp)) HM.out).mono ?_); rintro e y1 ⟨g1, c1, rfl, hg1, hk1, hr1, hc1⟩; have hcP1 := cells_of (hk1.get ((Kept.refl [] _).drew.get HP.out (by simp)) (by simp)))
      | (go_at_call 70; refine (c44n g1 c1 N (st m l.count l.workers) l.sense 0 _ ((st_length _ _ _).trans HN.out) hr1 HM.out).mono ?_; rintro e y2 ⟨g2, c2, rfl, hg2, hk2, hr2, hc2⟩; have hcP2 := cells_of (hk2.get (hk1.get ((Kept.refl [] _).drew.get HP.out (by simp)) (by simp)) (by simp))))
  have hs : w.heap.size ≤ g2 := by
    have h1 : (w.alloc (.cells l.cells 25)).heap.size ≤ y1.heap.size := hk1.size
    simp at h1; omega
  have HQ := hid (And.intro hs (And.intro hk1 (And.intro hk2 (And.intro hr2 hc2))))
  clear hs hk1 hk2 hr1 hr2 hg1 hg2 hc1 hc2 hcP hcP1 hcP2
  go_wp2_with fail
  go_ret
  exact ⟨g2, c2, rfl, HQ.out.1, ((HK.out.trans (Kept.refl [] _).drew).trans HQ.out.2.1).trans HQ.out.2.2.1, HQ.out.2.2.2.1, HQ.out.2.2.2.2⟩
@[reducible] def refCells (at_ own : Int) (last done : Bool) : Array Value := #[.int .i64 at_, .int .i64 own, .bool last, .bool done]
def RPost (g N : Nat) (at_ own : Int) (last done : Bool) (c s : Int) (w : World) (e : Ending) (w' : World) : Prop :=
  ∃ g' c', e = .returned (.tuple #[.agg (refCells at_ own last done), .slice (some ⟨g', 0, none⟩) N c']) ∧ Kept [] w w' ∧ RowIn w' g' (bs N c s) ∧ (g' = g ∨ w.heap.size ≤ g')
theorem r41_10 (l : Lay) (g c N : Nat) (n p s : Int) (hl : L14 l N n) (w : World) (h : RowIn w g (bs N p s)) :
    Calls Try.prog 71 #[.slice (some ⟨g, 0, none⟩) N c, .int .i64 l.sense] w fun e w' => e = .returned (.int .i64 s) ∧ w = w' := by
  have := c41n g c N (bs N p s) l.sense w (bs_length _ _ _) h
  rwa [show ld (bs N p s) l.sense = s by rw [hl.sense]; exact gs_ld10 (by simp; exact hl.big) _ _] at this
theorem r41_9 (l : Lay) (g c N : Nat) (n p s : Int) (hl : L14 l N n) (w : World) (h : RowIn w g (bs N p s)) :
    Calls Try.prog 71 #[.slice (some ⟨g, 0, none⟩) N c, .int .i64 l.count] w fun e w' => e = .returned (.int .i64 p) ∧ w = w' := by
  have := c41n g c N (bs N p s) l.count w (bs_length _ _ _) h
  rwa [show ld (bs N p s) l.count = p by rw [hl.count]; exact gs_ld9 (by simp; exact hl.big) _ _] at this
theorem r44_9 (l : Lay) (g c N : Nat) (n p s v : Int) (hl : L14 l N n) (hN : N ≤ 524288) (w : World) (h : RowIn w g (bs N p s)) :
    Calls Try.prog 70 #[.slice (some ⟨g, 0, none⟩) N c, .int .i64 l.count, .int .i64 v] w (PutPostN N (bs N v s) w) := by
  have := c44n g c N (bs N p s) l.count v w (bs_length _ _ _) h hN
  rwa [show st (bs N p s) l.count v = bs N v s by rw [hl.count]; exact gs_st9 (by simp; exact hl.big) _ _ _] at this
theorem r44_10 (l : Lay) (g c N : Nat) (n p s v : Int) (hl : L14 l N n) (hN : N ≤ 524288) (w : World) (h : RowIn w g (bs N p s)) :
    Calls Try.prog 70 #[.slice (some ⟨g, 0, none⟩) N c, .int .i64 l.sense, .int .i64 v] w (PutPostN N (bs N p v) w) := by
  have := c44n g c N (bs N p s) l.sense v w (bs_length _ _ _) h hN
  rwa [show st (bs N p s) l.sense v = bs N p v by rw [hl.sense]; exact gs_st10 (by simp; exact hl.big) _ _ _] at this
theorem k3 (w : World) (a b c : Obj) : Kept [] w (((w.alloc a).alloc b).alloc c) := (((Kept.refl _ _).alloc _).alloc _).alloc _
theorem n1 (w : World) (a b c : Obj) : (((w.alloc a).alloc b).alloc c).heap[w.heap.size]? = some a := old_alloc (old_alloc (new_alloc _ _) _) _
theorem n2 (w : World) (a b c : Obj) : (((w.alloc a).alloc b).alloc c).heap[w.heap.size + 1]? = some b := by
  have := old_alloc (new_alloc (w.alloc a) b) c; rwa [show (w.alloc a).heap.size = w.heap.size + 1 by simp] at this
theorem n3 (w : World) (a b c : Obj) : (((w.alloc a).alloc b).alloc c).heap[w.heap.size + 1 + 1]? = some c := by
  have := new_alloc ((w.alloc a).alloc b) c; rwa [show ((w.alloc a).alloc b).heap.size = w.heap.size + 1 + 1 by simp] at this
/-- the record's four cells, stored into the result's variable -/
theorem put4 {w : World} {Z : Nat} (h : w.heap[Z]? = some (.cells (refCells 0 0 false false) 98 (0, 0))) (a o : Int) (l d : Bool) :
    ((((w.setCell ⟨Z, 0, none⟩ (.int .i64 a)).setCell ⟨Z, 1, none⟩ (.int .i64 o)).setCell ⟨Z, 2, none⟩ (.bool l)).setCell ⟨Z, 3, none⟩ (.bool d)).heap[Z]? = some (.cells (refCells a o l d) 98 (0, 0)) := by
  have := set_of (set_of (set_of (set_of h 0 (.int .i64 a)) 1 (.int .i64 o)) 2 (.bool l)) 3 (.bool d)
  simpa [refCells] using this
theorem nin1' {a b : Nat} (h : a ≠ b) : a ∉ [b] := by simp [h]
theorem kz4 (w : World) (Z : Nat) (a o : Int) (l d : Bool) : Kept [Z] w ((((w.setCell ⟨Z, 0, none⟩ (.int .i64 a)).setCell ⟨Z, 1, none⟩ (.int .i64 o)).setCell ⟨Z, 2, none⟩ (.bool l)).setCell ⟨Z, 3, none⟩ (.bool d)) := ((((Kept.refl _ w).setCell (.inl (by simp)) _).setCell (.inl (by simp)) _).setCell (.inl (by simp)) _).setCell (.inl (by simp)) _
theorem wrapP (p : Int) : IntKind.i64.wrap (p - 1) = wrap64 (p + -1) := by rw [IntKind.wrap_i64]; unfold wrap64; omega
set_option maxHeartbeats 2000000 in
set_option maxRecDepth 100000 in
theorem r100_0a (l : Lay) (g c N : Nat) (n p s : Int) (hs : (s == 0) = true) (hl : L14 l N n) (hN : N ≤ 524288) (w : World) (hr : RowIn w g (bs N p s)) :
    Calls Try.prog 53 #[.agg (refCells 0 0 false false), l.val, .slice (some ⟨g, 0, none⟩) N c] w (RPost g N 1 1 false false p s w) := by
  have HR := hid hr
  have HL := hid hl
  have HN := hid hN
  clear hr hl hN
  go_enter Try.func53, Try.ntmps53
  go_wp2_with fail
  refine (r41_10 l g c N n p s HL.out _ (HR.out.keep (k3 _ _ _ _) (by simp))).mono ?_
  rintro e w1 ⟨rfl, rfl⟩
  go_wp2_with fail
  refine bodyPost_ret (v := .tuple #[.agg (refCells 1 1 false false), .slice (some ⟨g, 0, none⟩) N c]) ?_ rfl ⟨g, c, rfl, k3 _ _ _ _, HR.out.keep (k3 _ _ _ _) (by simp), .inl rfl⟩
  simp [results, Try.results53, go_sem]
set_option maxHeartbeats 2000000 in
set_option maxRecDepth 100000 in
theorem r100_0b (l : Lay) (g c N : Nat) (n p s : Int) (hs : (s == 0) = false) (hl : L14 l N n) (hN : N ≤ 524288) (w : World) (hr : RowIn w g (bs N p s)) :
    Calls Try.prog 53 #[.agg (refCells 0 0 false false), l.val, .slice (some ⟨g, 0, none⟩) N c] w (RPost g N 1 0 false false p s w) := by
  have HR := hid hr
  have HL := hid hl
  have HN := hid hN
  clear hr hl hN
  go_enter Try.func53, Try.ntmps53
  go_wp2_with fail
  refine (r41_10 l g c N n p s HL.out _ (HR.out.keep (k3 _ _ _ _) (by simp))).mono ?_
  rintro e w1 ⟨rfl, rfl⟩
  go_wp2_with fail
  refine bodyPost_ret (v := .tuple #[.agg (refCells 1 0 false false), .slice (some ⟨g, 0, none⟩) N c]) ?_ rfl ⟨g, c, rfl, k3 _ _ _ _, HR.out.keep (k3 _ _ _ _) (by simp), .inl rfl⟩
  simp [results, Try.results53, go_sem]
set_option maxHeartbeats 2000000 in
set_option maxRecDepth 100000 in
theorem r100_5 (l : Lay) (g c N : Nat) (n p s at_ own : Int) (last : Bool) (hl : L14 l N n) (hN : N ≤ 524288) (w : World) (hr : RowIn w g (bs N p s)) :
    Calls Try.prog 53 #[.agg (refCells at_ own last true), l.val, .slice (some ⟨g, 0, none⟩) N c] w (RPost g N at_ own last true p s w) := by
  have HR := hid hr
  have HL := hid hl
  have HN := hid hN
  clear hr hl hN
  go_enter Try.func53, Try.ntmps53
  go_wp2_with fail
  refine bodyPost_ret (v := .tuple #[.agg (refCells at_ own last true), .slice (some ⟨g, 0, none⟩) N c]) ?_ rfl ⟨g, c, rfl, k3 _ _ _ _, HR.out.keep (k3 _ _ _ _) (by simp), .inl rfl⟩
  simp [results, Try.results53, go_sem]
set_option maxHeartbeats 2000000 in
set_option maxRecDepth 100000 in
theorem r100_2 (l : Lay) (g c N : Nat) (n p s own : Int) (hl : L14 l N n) (hN : N ≤ 524288) (w : World) (hr : RowIn w g (bs N p s)) :
    Calls Try.prog 53 #[.agg (refCells 2 own true false), l.val, .slice (some ⟨g, 0, none⟩) N c] w (RPost g N 3 own true false n s w) := by
  have HR := hid hr
  have HL := hid hl
  have HN := hid hN
  clear hr hl hN
  go_enter Try.func53, Try.ntmps53
  go_wp2_with fail
  rw [HL.out.workers]
  refine (r44_9 l g c N n p s n HL.out HN.out _ (HR.out.keep (k3 _ _ _ _) (by simp))).mono ?_
  rintro e w1 ⟨g1, c1, rfl, hg1, hk1, hr1, hc1⟩
  have hcR := cells_of (hk1.get (n1 w _ _ _) (by simp))
  have hzR := free_of (hk1.get (n1 w _ _ _) (by simp))
  have HZ := hid (hk1.get (n3 w _ _ _) (by simp))
  have hcZ := cells_of HZ.out
  have hzZ := free_of HZ.out
  have hs : w.heap.size ≤ g1 ∧ g1 ≠ w.heap.size ∧ g1 ≠ w.heap.size + 1 + 1 := by simp at hg1; omega
  have HQ := hid (And.intro hs (And.intro ((k3 w _ _ _).trans hk1) hr1))
  have HR0 := hid (hk1.get (n1 w _ _ _) (by simp))
  clear hs hg1 hk1 hr1 hc1
  go_wp2_with fail
  have hcZ2 := cells_of (put4 HZ.out 3 own true false)
  clear hcR hzR hcZ hzZ
  have kz : Kept [w.heap.size + 1 + 1] w1 _ := ((((Kept.refl _ w1).setCell (p := ⟨w.heap.size + 1 + 1, 0, none⟩) (.inl (by simp)) (.int .i64 3)).setCell (p := ⟨w.heap.size + 1 + 1, 1, none⟩) (.inl (by simp)) (.int .i64 own)).setCell (p := ⟨w.heap.size + 1 + 1, 2, none⟩) (.inl (by simp)) (.bool true)).setCell (p := ⟨w.heap.size + 1 + 1, 3, none⟩) (.inl (by simp)) (.bool false)
  refine bodyPost_ret (v := .tuple #[.agg (refCells 3 own true false), .slice (some ⟨g1, 0, none⟩) N c1]) ?_ rfl ⟨g1, c1, rfl, HQ.out.2.1.drop kz (fun x hx => .inr (by simp at hx; omega)), HQ.out.2.2.keep kz (by simpa using HQ.out.1.2.2), .inr HQ.out.1.1⟩
  simp [results, Try.results53, go_sem, hcZ2]
set_option maxHeartbeats 2000000 in
set_option maxRecDepth 100000 in
theorem r100_3 (l : Lay) (g c N : Nat) (n p s own : Int) (hl : L14 l N n) (hN : N ≤ 524288) (w : World) (hr : RowIn w g (bs N p s)) :
    Calls Try.prog 53 #[.agg (refCells 3 own true false), l.val, .slice (some ⟨g, 0, none⟩) N c] w (RPost g N 4 own true true p own w) := by
  have HR := hid hr
  have HL := hid hl
  have HN := hid hN
  clear hr hl hN
  go_enter Try.func53, Try.ntmps53
  go_wp2_with fail
  refine (r44_10 l g c N n p s own HL.out HN.out _ (HR.out.keep (k3 _ _ _ _) (by simp))).mono ?_
  rintro e w1 ⟨g1, c1, rfl, hg1, hk1, hr1, hc1⟩
  have hcR := cells_of (hk1.get (n1 w _ _ _) (by simp))
  have hzR := free_of (hk1.get (n1 w _ _ _) (by simp))
  have HZ := hid (hk1.get (n3 w _ _ _) (by simp))
  have hcZ := cells_of HZ.out
  have hzZ := free_of HZ.out
  have hs : w.heap.size ≤ g1 ∧ g1 ≠ w.heap.size ∧ g1 ≠ w.heap.size + 1 + 1 := by simp at hg1; omega
  have HQ := hid (And.intro hs (And.intro ((k3 w _ _ _).trans hk1) hr1))
  have HR0 := hid (hk1.get (n1 w _ _ _) (by simp))
  clear hs hg1 hk1 hr1 hc1
  have kr : Kept [w.heap.size] w1 (w1.setCell ⟨w.heap.size, 3, none⟩ (.bool true)) := (Kept.refl _ _).setCell (.inl (by simp)) _
  have HZ1 := hid (kr.get HZ.out (nin1' (by omega)))
  have HKR := hid kr
  clear kr
  have hcZ1 := cells_of HZ1.out
  have hzZ1 := free_of HZ1.out
  have hR1 := set_of HR0.out 3 (.bool true)
  have hcR1 := cells_of hR1
  clear hR1 hcZ hzZ
  go_wp2_with fail
  have hcZ2 := cells_of (put4 HZ1.out 4 own true true)
  clear hcR1 hcZ1 hzZ1 hcR hzR
  have kz := HKR.out.mono (M := [w.heap.size, w.heap.size + 1 + 1]) (by simp) |>.trans ((kz4 (w1.setCell ⟨w.heap.size, 3, none⟩ (.bool true)) (w.heap.size + 1 + 1) 4 own true true).mono (by simp))
  refine bodyPost_ret (v := .tuple #[.agg (refCells 4 own true true), .slice (some ⟨g1, 0, none⟩) N c1]) ?_ rfl ⟨g1, c1, rfl, HQ.out.2.1.drop kz (fun x hx => .inr (by simp at hx; omega)), HQ.out.2.2.keep kz (by simp; exact HQ.out.1.2), .inr HQ.out.1.1⟩
  simp [results, Try.results53, go_sem, hcZ2]
set_option maxHeartbeats 2000000 in
set_option maxRecDepth 100000 in
theorem r100_1 (l : Lay) (g c N : Nat) (n p s own p' : Int) (r : Bool) (hp : wrap64 (p + -1) = p') (hq : (p' == 0) = r) (hl : L14 l N n) (hN : N ≤ 524288) (w : World) (hr : RowIn w g (bs N p s)) :
    Calls Try.prog 53 #[.agg (refCells 1 own false false), l.val, .slice (some ⟨g, 0, none⟩) N c] w (RPost g N 2 own r false p' s w) := by
  have HR := hid hr
  have HL := hid hl
  have HN := hid hN
  clear hr hl hN
  have HPE := hid hp
  have HQE := hid hq
  clear hp hq
  have hcL : ∀ i, (((w.alloc (.cells #[.int .i64 2, .int .i64 own, .bool false, .bool false] 98)).alloc (.cells l.cells 25)).alloc (.cells #[.int .i64 0, .int .i64 0, .bool false, .bool false] 98)).cell? ⟨w.heap.size + 1, i, none⟩ = l.cells[i]? := cells_of (n2 w _ _ _)
  go_enter Try.func53, Try.ntmps53
  go_wp2_with fail
  go_region_held3 (fun w' => ∀ i, w'.cell? ⟨w.heap.size + 1, i, none⟩ = l.cells[i]?) (first | exact hcL | exact hcL1)
    (first
      | (go_at_call 71; refine (r41_9 l g c N n p s HL.out _ (HR.out.keep ((k3 _ _ _ _).trans (Kept.refl [] _).drew) (by simp))).mono ?_; rintro e y1 ⟨rfl, rfl⟩)
      | (go_at_call 70; refine (r44_9 l g c N n p s _ HL.out HN.out _ (HR.out.keep ((k3 _ _ _ _).trans (Kept.refl [] _).drew) (by simp))).mono ?_; rintro e y2 ⟨g1, c1, rfl, hg1, hk1, hr1, hc1⟩; have hcL1 := cells_of (hk1.get ((Kept.refl [] _).drew.get (n2 w _ _ _) (by simp)) (by simp))))
  rw [wrapP, HPE.out] at hr1
  have hR := hk1.get ((Kept.refl [] _).drew.get (n1 w _ _ _) (by simp)) (by simp)
  have hZ := hk1.get ((Kept.refl [] _).drew.get (n3 w _ _ _) (by simp)) (by simp)
  have hs : w.heap.size ≤ g1 ∧ g1 ≠ w.heap.size ∧ g1 ≠ w.heap.size + 1 + 1 := by
    have h1 : (((w.alloc (.cells #[.int .i64 2, .int .i64 own, .bool false, .bool false] 98)).alloc (.cells l.cells 25)).alloc (.cells #[.int .i64 0, .int .i64 0, .bool false, .bool false] 98)).heap.size ≤ g1 := hg1
    simp at h1; omega
  have HQ := hid (And.intro hs (And.intro (((k3 w _ _ _).trans (Kept.refl [] _).drew).trans hk1) hr1))
  have HZ := hid hZ
  have HR0 := hid hR
  have hcR := cells_of hR
  have hzR := free_of hR
  have hcZ := cells_of hZ
  have hzZ := free_of hZ
  have hkr : Kept [w.heap.size] y2 (y2.setCell ⟨w.heap.size, 2, none⟩ (.bool r)) := (Kept.refl _ _).setCell (.inl (by simp)) _
  have HKR := hid hkr
  have HZ1 := hid (hkr.get HZ.out (nin1' (by omega)))
  have hcZ1 := cells_of HZ1.out
  have hzZ1 := free_of HZ1.out
  have hcR1 := cells_of (set_of HR0.out 2 (.bool r))
  clear hs hg1 hk1 hr1 hc1 hR hZ hcL hkr
  have hq := HQE.out
  go_wp2_with fail
  refine (r41_9 l g1 c1 N n p' s HL.out _ HQ.out.2.2).mono ?_
  rintro e w2 ⟨rfl, rfl⟩
  cases r
  · go_wp2_with fail
    have hcZ2 := cells_of (put4 HZ1.out 2 own false false)
    clear hcR1 hcZ1 hzZ1 hcR hzR hcZ hzZ
    have kz := HKR.out.mono (M := [w.heap.size, w.heap.size + 1 + 1]) (by simp) |>.trans ((kz4 (y2.setCell ⟨w.heap.size, 2, none⟩ (.bool false)) (w.heap.size + 1 + 1) 2 own false false).mono (by simp))
    refine bodyPost_ret (v := .tuple #[.agg (refCells 2 own false false), .slice (some ⟨g1, 0, none⟩) N c1]) ?_ rfl ⟨g1, c1, rfl, HQ.out.2.1.drop kz (fun x hx => .inr (by simp at hx; omega)), HQ.out.2.2.keep kz (by simp; exact HQ.out.1.2), .inr HQ.out.1.1⟩
    simp [results, Try.results53, go_sem, hcZ2]
  · go_wp2_with fail
    have hcZ2 := cells_of (put4 HZ1.out 2 own true false)
    clear hcR1 hcZ1 hzZ1 hcR hzR hcZ hzZ
    have kz := HKR.out.mono (M := [w.heap.size, w.heap.size + 1 + 1]) (by simp) |>.trans ((kz4 (y2.setCell ⟨w.heap.size, 2, none⟩ (.bool true)) (w.heap.size + 1 + 1) 2 own true false).mono (by simp))
    refine bodyPost_ret (v := .tuple #[.agg (refCells 2 own true false), .slice (some ⟨g1, 0, none⟩) N c1]) ?_ rfl ⟨g1, c1, rfl, HQ.out.2.1.drop kz (fun x hx => .inr (by simp at hx; omega)), HQ.out.2.2.keep kz (by simp; exact HQ.out.1.2), .inr HQ.out.1.1⟩
    simp [results, Try.results53, go_sem, hcZ2]
set_option maxHeartbeats 2000000 in
set_option maxRecDepth 100000 in
theorem r100_4 (l : Lay) (g c N : Nat) (n p s own at_ at2 : Int) (r : Bool) (h2 : 2 ≤ at_) (h3 : at_ ≤ 100000) (ha : at2 = at_ + 1) (hq : (s == own) = r) (hl : L14 l N n) (hN : N ≤ 524288) (w : World) (hr : RowIn w g (bs N p s)) :
    Calls Try.prog 53 #[.agg (refCells at_ own false false), l.val, .slice (some ⟨g, 0, none⟩) N c] w (RPost g N at2 own false r p s w) := by
  subst ha
  have HR := hid hr
  have HL := hid hl
  have HQE := hid hq
  clear hr hl hN hq
  have hcL : ∀ i, (((w.alloc (.cells #[.int .i64 (at_ + 1), .int .i64 own, .bool false, .bool false] 98)).alloc (.cells l.cells 25)).alloc (.cells #[.int .i64 0, .int .i64 0, .bool false, .bool false] 98)).cell? ⟨w.heap.size + 1, i, none⟩ = l.cells[i]? := cells_of (n2 w _ _ _)
  have hcO : (((w.alloc (.cells #[.int .i64 (at_ + 1), .int .i64 own, .bool false, .bool false] 98)).alloc (.cells l.cells 25)).alloc (.cells #[.int .i64 0, .int .i64 0, .bool false, .bool false] 98)).cell? ⟨w.heap.size, 1, none⟩ = some (.int .i64 own) := by rw [cells_of (n1 w _ _ _)]; rfl
  have hb1 : (at_ + 1 == 1) = false := by simp; omega
  have hb2 : (at_ + 1 == 2) = false := by simp; omega
  go_enter Try.func53, Try.ntmps53
  go_wp2_with fail
  go_region_held3 (fun w' => (∀ i, w'.cell? ⟨w.heap.size + 1, i, none⟩ = l.cells[i]?) ∧ w'.cell? ⟨w.heap.size, 1, none⟩ = some (.int .i64 own)) (first | exact ⟨hcL, hcO⟩ | exact ⟨cells_of (t := 25) (n2 w _ _ _), cells_of (t := 98) (n1 w _ _ _) 1⟩)
    (first
      | (go_at_call 71; refine (r41_10 l g c N n p s HL.out _ (HR.out.keep ((k3 _ _ _ _).trans (Kept.refl [] _).drew) (by simp))).mono ?_; rintro e y1 ⟨rfl, rfl⟩))
  have hq := HQE.out
  cases r
  · go_wp2_with fail
    refine bodyPost_ret (v := .tuple #[.agg (refCells (at_ + 1) own false false), .slice (some ⟨g, 0, none⟩) N c]) ?_ rfl ⟨g, c, rfl, (k3 _ _ _ _).drew, HR.out.keep (k3 _ _ _ _).drew (by simp), .inl rfl⟩
    simp [results, Try.results53, go_sem]
  · go_wp2_with fail
    refine bodyPost_ret (v := .tuple #[.agg (refCells (at_ + 1) own false true), .slice (some ⟨g, 0, none⟩) N c]) ?_ rfl ⟨g, c, rfl, (k3 _ _ _ _).drew, HR.out.keep (k3 _ _ _ _).drew (by simp), .inl rfl⟩
    simp [results, Try.results53, go_sem]
end Go.Proofs.Ytklkopoelhndoaa
