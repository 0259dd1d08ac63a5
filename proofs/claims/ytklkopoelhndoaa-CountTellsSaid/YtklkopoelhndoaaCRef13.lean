/- The document's machines of layer 13, upon law 13's bank. -/
import Derived.Test.YtklkopoelhndoaaCount3
import Derived.Test.YtklkopoelhndoaaRef
import Derived.Deep.RegionHeld3
import Derived.Deep.DrawnRows
namespace Go.Proofs.Ytklkopoelhndoaa
open Go.RowKit
attribute [local go_sem ↓] Go.wp_at_zero Go.wp_at_succ
set_option linter.unusedVariables false
theorem wrapE (x : Int) : IntKind.i64.wrap x = wrap64 x := by rw [IntKind.wrap_i64]; unfold wrap64; omega
theorem wrapE1 (p : Int) : IntKind.i64.wrap (p - 1) = wrap64 (p + -1) := by rw [IntKind.wrap_i64]; unfold wrap64; omega
def RefPost (g : Nat) (p a : Int) (r : Bool) (w : World) (e : Ending) (w' : World) : Prop :=
  ∃ g' c', e = .returned (.tuple #[.slice (some ⟨g', 0, none⟩) 15 c', .bool r]) ∧ Kept [] w w' ∧ RowIn w' g' (bk p a) ∧ (g' = g ∨ w.heap.size ≤ g')
theorem c41b (g c : Nat) (p a i v : Int) (hv : ld (bk p a) i = v) (w : World) (h : RowIn w g (bk p a)) :
    Calls Try.prog 71 #[.slice (some ⟨g, 0, none⟩) 15 c, .int .i64 i] w fun e w' => e = .returned (.int .i64 v) ∧ w = w' := by
  have := c41n g c 15 (bk p a) i w rfl h
  rwa [hv] at this
theorem c44b (g c : Nat) (p a i v p' a' : Int) (hv : st (bk p a) i v = bk p' a') (w : World) (h : RowIn w g (bk p a)) :
    Calls Try.prog 70 #[.slice (some ⟨g, 0, none⟩) 15 c, .int .i64 i, .int .i64 v] w (PutPostN 15 (bk p' a') w) := by
  have := c44n g c 15 (bk p a) i v w rfl h (by omega)
  rwa [hv] at this
set_option maxHeartbeats 2000000 in
set_option maxRecDepth 100000 in
theorem c96_0 (g c : Nat) (p a n : Int) (w : World) (hr : RowIn w g (bk p a)) :
    Calls Try.prog 49 #[.int .i64 0, .int .i64 n, l211.val, .slice (some ⟨g, 0, none⟩) 15 c] w (RefPost g (wrap64 (p + n)) a false w) := by
  have ka : Kept [] w (w.alloc (.cells l211.cells 25)) := (Kept.refl _ _).alloc _
  have HR := hid (hr.keep ka (by simp))
  have HP := hid (new_alloc w (.cells l211.cells 25))
  have HK := hid ka
  clear hr ka
  have hcP := cells_of HP.out
  go_enter Try.func49, Try.ntmps49
  go_wp2_with fail
  go_region_held3 (fun w' => ∀ i, w'.cell? ⟨w.heap.size, i, none⟩ = l211.cells[i]?) (first | exact hcP | exact hcP1)
    (first
      | (go_at_call 71; refine (c41b g c p a 7 p (ld7 p a) _ (HR.out.keep (Kept.refl [] _).drew (by simp))).mono ?_; rintro e y1 ⟨rfl, rfl⟩)
      | (go_at_call 70; refine (c44b g c p a 7 _ _ a (st7 p a _) _ (HR.out.keep (Kept.refl [] _).drew (by simp))).mono ?_; rintro e y2 ⟨g', c', rfl, hg, hk, hrow, hc⟩; have hcP1 := cells_of (hk.get ((Kept.refl [] _).drew.get HP.out (by simp)) (by simp))))
  have HQ := hid (And.intro hg (And.intro hk hrow))
  clear hg hk hrow hc hcP hcP1
  try clear tok
  go_wp2_with fail
  go_ret2
  obtain ⟨hg, hk, hrow⟩ := HQ.out
  have e : IntKind.i64.wrap (p + n) = wrap64 (p + n) := wrapE _
  rw [e] at hrow
  have hs : w.heap.size ≤ g' := by have : (w.alloc (.cells l211.cells 25)).heap.size ≤ g' := hg; simp at this; omega
  exact ⟨g', c', rfl, (HK.out.trans (Kept.refl [] _).drew).trans hk, hrow, .inr hs⟩
set_option maxHeartbeats 2000000 in
set_option maxRecDepth 100000 in
theorem c96_1 (g c : Nat) (p a n q : Int) (hq : wrap64 (p + -1) = q) (w : World) (hr : RowIn w g (bk p a)) :
    Calls Try.prog 49 #[.int .i64 1, .int .i64 n, l211.val, .slice (some ⟨g, 0, none⟩) 15 c] w (RefPost g q a (q == 0) w) := by
  have HQ0 := hid hq
  clear hq
  have ka : Kept [] w (w.alloc (.cells l211.cells 25)) := (Kept.refl _ _).alloc _
  have HR := hid (hr.keep ka (by simp))
  have HP := hid (new_alloc w (.cells l211.cells 25))
  have HK := hid ka
  clear hr ka
  have hcP := cells_of HP.out
  go_enter Try.func49, Try.ntmps49
  go_wp2_with fail
  go_region_held3 (fun w' => ∀ i, w'.cell? ⟨w.heap.size, i, none⟩ = l211.cells[i]?) (first | exact hcP | exact hcP1)
    (first
      | (go_at_call 71; refine (c41b g c p a 7 p (ld7 p a) _ (HR.out.keep (Kept.refl [] _).drew (by simp))).mono ?_; rintro e y1 ⟨rfl, rfl⟩)
      | (go_at_call 70; refine (c44b g c p a 7 _ _ a (st7 p a _) _ (HR.out.keep (Kept.refl [] _).drew (by simp))).mono ?_; rintro e y2 ⟨g', c', rfl, hg, hk, hrow, hc⟩; have hcP1 := cells_of (hk.get ((Kept.refl [] _).drew.get HP.out (by simp)) (by simp))))
  have e : IntKind.i64.wrap (p - 1) = wrap64 (p + -1) := wrapE1 p
  rw [e, HQ0.out] at hrow
  have HQ := hid (And.intro hg (And.intro hk hrow))
  have HR2 := hid hrow
  have hcP1 := cells_of (hk.get ((Kept.refl [] _).drew.get HP.out (by simp)) (by simp))
  clear hg hk hrow hc hcP e
  go_wp2_with fail
  refine (c41b g' c' q a 7 q (ld7 q a) _ HR2.out).mono ?_
  rintro e w1 ⟨rfl, rfl⟩
  go_wp2_with fail
  go_ret2
  obtain ⟨hg, hk, hrow⟩ := HQ.out
  have hs : w.heap.size ≤ g' := by have : (w.alloc (.cells l211.cells 25)).heap.size ≤ g' := hg; simp at this; omega
  exact ⟨g', c', rfl, (HK.out.trans (Kept.refl [] _).drew).trans hk, hrow, .inr hs⟩
set_option maxHeartbeats 2000000 in
set_option maxRecDepth 100000 in
theorem c96_2 (g c : Nat) (p a n : Int) (w : World) (hr : RowIn w g (bk p a)) :
    Calls Try.prog 49 #[.int .i64 2, .int .i64 n, l211.val, .slice (some ⟨g, 0, none⟩) 15 c] w (RefPost g p a (p == 0) w) := by
  have ka : Kept [] w (w.alloc (.cells l211.cells 25)) := (Kept.refl _ _).alloc _
  have HR := hid (hr.keep ka (by simp))
  have HP := hid (new_alloc w (.cells l211.cells 25))
  have HK := hid ka
  clear hr ka
  have hcP := cells_of HP.out
  go_enter Try.func49, Try.ntmps49
  go_wp2_with fail
  refine (c41b g c p a 7 p (ld7 p a) _ HR.out).mono ?_
  rintro e w1 ⟨rfl, rfl⟩
  go_wp2_with fail
  go_ret2
  exact ⟨g, c, rfl, HK.out, HR.out, .inl rfl⟩
set_option maxHeartbeats 2000000 in
set_option maxRecDepth 100000 in
theorem c96_3 (g c : Nat) (p a n : Int) (w : World) (hr : RowIn w g (bk p a)) :
    Calls Try.prog 49 #[.int .i64 3, .int .i64 n, l211.val, .slice (some ⟨g, 0, none⟩) 15 c] w (RefPost g p 1 false w) := by
  have ka : Kept [] w (w.alloc (.cells l211.cells 25)) := (Kept.refl _ _).alloc _
  have HR := hid (hr.keep ka (by simp))
  have HP := hid (new_alloc w (.cells l211.cells 25))
  have HK := hid ka
  clear hr ka
  have hcP := cells_of HP.out
  go_enter Try.func49, Try.ntmps49
  go_wp2_with fail
  refine (c44b g c p a 8 1 p 1 (st8 p a 1) _ HR.out).mono ?_
  rintro e w1 ⟨g', c', rfl, hg, hk, hrow, hc⟩
  have H := hid (And.intro hg (And.intro hk (And.intro hrow hc)))
  clear hg hk hrow hc
  go_wp2_with fail
  go_ret2
  obtain ⟨hg, hk, hrow, hc⟩ := H.out
  exact ⟨g', c', rfl, HK.out.trans hk, hrow, .inr (by simp at hg; omega)⟩
set_option maxHeartbeats 2000000 in
set_option maxRecDepth 100000 in
theorem c96_4 (g c : Nat) (p a n : Int) (w : World) (hr : RowIn w g (bk p a)) :
    Calls Try.prog 49 #[.int .i64 4, .int .i64 n, l211.val, .slice (some ⟨g, 0, none⟩) 15 c] w (RefPost g p a (a != 0) w) := by
  have ka : Kept [] w (w.alloc (.cells l211.cells 25)) := (Kept.refl _ _).alloc _
  have HR := hid (hr.keep ka (by simp))
  have HP := hid (new_alloc w (.cells l211.cells 25))
  have HK := hid ka
  clear hr ka
  have hcP := cells_of HP.out
  go_enter Try.func49, Try.ntmps49
  go_wp2_with fail
  refine (c41b g c p a 8 a (ld8 p a) _ HR.out).mono ?_
  rintro e w1 ⟨rfl, rfl⟩
  go_wp2_with fail
  go_ret2
  exact ⟨g, c, rfl, HK.out, HR.out, .inl rfl⟩
end Go.Proofs.Ytklkopoelhndoaa
