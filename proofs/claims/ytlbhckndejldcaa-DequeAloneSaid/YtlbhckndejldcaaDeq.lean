/- Package deque: what the three machines share: a block whose first cells are a part. -/
import Derived.Test.YtlbhckndejldcaaLayPut
import Derived.Laws.EntriesVeiled
import Derived.Deep.RegionHeld3
import Derived.Deep.DrawnRows
import Derived.BigQuiet
namespace Go.Proofs.Ytlbhckndejldcaa
open Go.RowKit
attribute [local go_sem ↓] Go.wp_at_zero Go.wp_at_succ
set_option linter.unusedVariables false
/-- a part's own seven: whose deque, how far it is, what it read, whether it is done, and has something -/
structure Pt where
  (w at_ t b x : Int)
  (done got : Bool)
@[reducible] def ptCells (l : Lay) (m : Pt) : Array Value := #[.int .i64 l.verts, .int .i64 l.arcs, .int .i64 l.workers, .int .i64 l.room, .int .i64 l.res, .int .i64 l.ex, .int .i64 l.h, .int .i64 l.flag, .int .i64 l.pending, .int .i64 l.ask, .int .i64 l.count, .int .i64 l.sense, .int .i64 l.deques, .int .i64 l.size, .int .i64 m.w, .int .i64 m.at_, .int .i64 m.t, .int .i64 m.b, .int .i64 m.x, .bool m.done, .bool m.got]
/-- the first 21 of c are that part's -/
def DC (c : Array Value) (l : Lay) (m : Pt) : Prop := ∀ j, j < 21 → c[j]? = (ptCells l m)[j]?
def DBlk (w : World) (P : Nat) (ty : TypeId) (c : Array Value) : Prop := w.heap[P]? = some (.cells c ty (0, 0))
theorem DC.f0 {c : Array Value} {l : Lay} {m : Pt} (h : DC c l m) : c[0]? = some (.int .i64 l.verts) := h 0 (by omega)
theorem DC.f1 {c : Array Value} {l : Lay} {m : Pt} (h : DC c l m) : c[1]? = some (.int .i64 l.arcs) := h 1 (by omega)
theorem DC.f2 {c : Array Value} {l : Lay} {m : Pt} (h : DC c l m) : c[2]? = some (.int .i64 l.workers) := h 2 (by omega)
theorem DC.f3 {c : Array Value} {l : Lay} {m : Pt} (h : DC c l m) : c[3]? = some (.int .i64 l.room) := h 3 (by omega)
theorem DC.f4 {c : Array Value} {l : Lay} {m : Pt} (h : DC c l m) : c[4]? = some (.int .i64 l.res) := h 4 (by omega)
theorem DC.f5 {c : Array Value} {l : Lay} {m : Pt} (h : DC c l m) : c[5]? = some (.int .i64 l.ex) := h 5 (by omega)
theorem DC.f6 {c : Array Value} {l : Lay} {m : Pt} (h : DC c l m) : c[6]? = some (.int .i64 l.h) := h 6 (by omega)
theorem DC.f7 {c : Array Value} {l : Lay} {m : Pt} (h : DC c l m) : c[7]? = some (.int .i64 l.flag) := h 7 (by omega)
theorem DC.f8 {c : Array Value} {l : Lay} {m : Pt} (h : DC c l m) : c[8]? = some (.int .i64 l.pending) := h 8 (by omega)
theorem DC.f9 {c : Array Value} {l : Lay} {m : Pt} (h : DC c l m) : c[9]? = some (.int .i64 l.ask) := h 9 (by omega)
theorem DC.f10 {c : Array Value} {l : Lay} {m : Pt} (h : DC c l m) : c[10]? = some (.int .i64 l.count) := h 10 (by omega)
theorem DC.f11 {c : Array Value} {l : Lay} {m : Pt} (h : DC c l m) : c[11]? = some (.int .i64 l.sense) := h 11 (by omega)
theorem DC.f12 {c : Array Value} {l : Lay} {m : Pt} (h : DC c l m) : c[12]? = some (.int .i64 l.deques) := h 12 (by omega)
theorem DC.f13 {c : Array Value} {l : Lay} {m : Pt} (h : DC c l m) : c[13]? = some (.int .i64 l.size) := h 13 (by omega)
theorem DC.f14 {c : Array Value} {l : Lay} {m : Pt} (h : DC c l m) : c[14]? = some (.int .i64 m.w) := h 14 (by omega)
theorem DC.f15 {c : Array Value} {l : Lay} {m : Pt} (h : DC c l m) : c[15]? = some (.int .i64 m.at_) := h 15 (by omega)
theorem DC.f16 {c : Array Value} {l : Lay} {m : Pt} (h : DC c l m) : c[16]? = some (.int .i64 m.t) := h 16 (by omega)
theorem DC.f17 {c : Array Value} {l : Lay} {m : Pt} (h : DC c l m) : c[17]? = some (.int .i64 m.b) := h 17 (by omega)
theorem DC.f18 {c : Array Value} {l : Lay} {m : Pt} (h : DC c l m) : c[18]? = some (.int .i64 m.x) := h 18 (by omega)
theorem DC.f19 {c : Array Value} {l : Lay} {m : Pt} (h : DC c l m) : c[19]? = some (.bool m.done) := h 19 (by omega)
theorem DC.f20 {c : Array Value} {l : Lay} {m : Pt} (h : DC c l m) : c[20]? = some (.bool m.got) := h 20 (by omega)
theorem DC.lt {c : Array Value} {l : Lay} {m : Pt} (h : DC c l m) : 20 < c.size := (Array.getElem?_eq_some_iff.1 h.f20).1
theorem DC.set {c : Array Value} {l : Lay} {m m' : Pt} (h : DC c l m) (k : Nat) (v : Value) (hk : k < 21) (hv : (ptCells l m')[k]? = some v)
    (ho : ∀ j, j < 21 → j ≠ k → (ptCells l m)[j]? = (ptCells l m')[j]?) : DC (c.setIfInBounds k v) l m' := by
  intro j hj
  by_cases e : j = k
  · subst e
    rw [Array.getElem?_setIfInBounds_self_of_lt (by have := h.lt; omega), hv]
  · rw [Array.getElem?_setIfInBounds_ne (by omega), h j hj, ho j hj e]
theorem DC.set15 {c : Array Value} {l : Lay} {m : Pt} (h : DC c l m) (v : Int) : DC (c.setIfInBounds 15 (.int .i64 v)) l { m with at_ := v } :=
  h.set 15 _ (by omega) rfl (fun j hj hne => by
    match j, hj, hne with
    | 0, _, _ | 1, _, _ | 2, _, _ | 3, _, _ | 4, _, _ | 5, _, _ | 6, _, _ | 7, _, _ | 8, _, _ | 9, _, _ | 10, _, _ | 11, _, _ | 12, _, _ | 13, _, _ | 14, _, _ | 16, _, _ | 17, _, _ | 18, _, _ | 19, _, _ | 20, _, _ => rfl
    | 15, _, h => exact absurd rfl h
    | j + 21, hj, _ => omega)
theorem DC.set16 {c : Array Value} {l : Lay} {m : Pt} (h : DC c l m) (v : Int) : DC (c.setIfInBounds 16 (.int .i64 v)) l { m with t := v } :=
  h.set 16 _ (by omega) rfl (fun j hj hne => by
    match j, hj, hne with
    | 0, _, _ | 1, _, _ | 2, _, _ | 3, _, _ | 4, _, _ | 5, _, _ | 6, _, _ | 7, _, _ | 8, _, _ | 9, _, _ | 10, _, _ | 11, _, _ | 12, _, _ | 13, _, _ | 14, _, _ | 15, _, _ | 17, _, _ | 18, _, _ | 19, _, _ | 20, _, _ => rfl
    | 16, _, h => exact absurd rfl h
    | j + 21, hj, _ => omega)
theorem DC.set17 {c : Array Value} {l : Lay} {m : Pt} (h : DC c l m) (v : Int) : DC (c.setIfInBounds 17 (.int .i64 v)) l { m with b := v } :=
  h.set 17 _ (by omega) rfl (fun j hj hne => by
    match j, hj, hne with
    | 0, _, _ | 1, _, _ | 2, _, _ | 3, _, _ | 4, _, _ | 5, _, _ | 6, _, _ | 7, _, _ | 8, _, _ | 9, _, _ | 10, _, _ | 11, _, _ | 12, _, _ | 13, _, _ | 14, _, _ | 15, _, _ | 16, _, _ | 18, _, _ | 19, _, _ | 20, _, _ => rfl
    | 17, _, h => exact absurd rfl h
    | j + 21, hj, _ => omega)
theorem DC.set18 {c : Array Value} {l : Lay} {m : Pt} (h : DC c l m) (v : Int) : DC (c.setIfInBounds 18 (.int .i64 v)) l { m with x := v } :=
  h.set 18 _ (by omega) rfl (fun j hj hne => by
    match j, hj, hne with
    | 0, _, _ | 1, _, _ | 2, _, _ | 3, _, _ | 4, _, _ | 5, _, _ | 6, _, _ | 7, _, _ | 8, _, _ | 9, _, _ | 10, _, _ | 11, _, _ | 12, _, _ | 13, _, _ | 14, _, _ | 15, _, _ | 16, _, _ | 17, _, _ | 19, _, _ | 20, _, _ => rfl
    | 18, _, h => exact absurd rfl h
    | j + 21, hj, _ => omega)
theorem DC.set19 {c : Array Value} {l : Lay} {m : Pt} (h : DC c l m) (v : Bool) : DC (c.setIfInBounds 19 (.bool v)) l { m with done := v } :=
  h.set 19 _ (by omega) rfl (fun j hj hne => by
    match j, hj, hne with
    | 0, _, _ | 1, _, _ | 2, _, _ | 3, _, _ | 4, _, _ | 5, _, _ | 6, _, _ | 7, _, _ | 8, _, _ | 9, _, _ | 10, _, _ | 11, _, _ | 12, _, _ | 13, _, _ | 14, _, _ | 15, _, _ | 16, _, _ | 17, _, _ | 18, _, _ | 20, _, _ => rfl
    | 19, _, h => exact absurd rfl h
    | j + 21, hj, _ => omega)
theorem DC.set20 {c : Array Value} {l : Lay} {m : Pt} (h : DC c l m) (v : Bool) : DC (c.setIfInBounds 20 (.bool v)) l { m with got := v } :=
  h.set 20 _ (by omega) rfl (fun j hj hne => by
    match j, hj, hne with
    | 0, _, _ | 1, _, _ | 2, _, _ | 3, _, _ | 4, _, _ | 5, _, _ | 6, _, _ | 7, _, _ | 8, _, _ | 9, _, _ | 10, _, _ | 11, _, _ | 12, _, _ | 13, _, _ | 14, _, _ | 15, _, _ | 16, _, _ | 17, _, _ | 18, _, _ | 19, _, _ => rfl
    | 20, _, h => exact absurd rfl h
    | j + 21, hj, _ => omega)
/-- c' is c but for the part's cells -/
def Past (c c' : Array Value) : Prop := c'.size = c.size ∧ ∀ j, 21 ≤ j → c'[j]? = c[j]?
theorem Past.refl (c : Array Value) : Past c c := ⟨rfl, fun _ _ => rfl⟩
theorem Past.trans {a b c : Array Value} (h : Past a b) (k : Past b c) : Past a c := ⟨k.1.trans h.1, fun j hj => (k.2 j hj).trans (h.2 j hj)⟩
theorem Past.set {c c' : Array Value} (h : Past c c') (k : Nat) (v : Value) (hk : k < 21) : Past c (c'.setIfInBounds k v) :=
  ⟨by rw [Array.size_setIfInBounds]; exact h.1, fun j hj => by rw [Array.getElem?_setIfInBounds_ne (by omega)]; exact h.2 j hj⟩
/-- what a doing leaves of the part -/
def DPost (w' : World) (P : Nat) (ty : TypeId) (c : Array Value) (l : Lay) (m : Pt) : Prop := ∃ c', DBlk w' P ty c' ∧ DC c' l m ∧ Past c c'
set_option maxHeartbeats 1000000 in
set_option maxRecDepth 100000 in
theorem d132_done (P : Nat) (ty : TypeId) (c : Array Value) (l : Lay) (m : Pt) (w : World) (h : DBlk w P ty c) (hm : DC c l m) (hd : m.done = true) :
    Calls Try.prog 60 #[.pointer (some ⟨P, 0, none⟩)] w fun e w' => e = .returned (.int .i64 (-1)) ∧ w = w' := by
  have hc := cells_of h
  have g19 := hm.f19
  rw [hd] at g19
  clear h hm hd
  go_enter Try.func60, Try.ntmps60
  go_wp2_with fail
  go_ret
  exact ⟨rfl, rfl⟩
set_option maxHeartbeats 1000000 in
set_option maxRecDepth 100000 in
theorem d132 (P : Nat) (ty : TypeId) (c : Array Value) (l : Lay) (m : Pt) (w : World) (h : DBlk w P ty c) (hm : DC c l m) (hd : m.done = false) (h0 : 0 ≤ m.at_) (h1 : m.at_ ≤ 1000) :
    Calls Try.prog 60 #[.pointer (some ⟨P, 0, none⟩)] w fun e w' => e = .returned (.int .i64 m.at_) ∧ Kept [P] w w' ∧ DPost w' P ty c l { m with at_ := m.at_ + 1 } := by
  have hc := cells_of h
  have hz := free_of h
  have g19 := hm.f19
  rw [hd] at g19
  have g15 := hm.f15
  have hs : DBlk (w.setCell ⟨P, 15, none⟩ (.int .i64 (m.at_ + 1))) P ty (c.setIfInBounds 15 (.int .i64 (m.at_ + 1))) := set_of h 15 (.int .i64 (m.at_ + 1))
  have HS := hid hs
  have HM := hid (hm.set15 (m.at_ + 1))
  have hc1 := cells_of HS.out
  have g15b := HM.out.f15
  clear h hm hd hs
  go_enter Try.func60, Try.ntmps60
  go_wp2_with fail
  go_ret
  refine ⟨?_, (Kept.refl _ _).setCell (.inl (by simp)) _, _, HS.out, HM.out, (Past.refl c).set 15 _ (by omega)⟩
  first | rfl | (congr 2; omega)
set_option maxHeartbeats 1000000 in
set_option maxRecDepth 100000 in
theorem d175 (P : Nat) (ty : TypeId) (c : Array Value) (l : Lay) (m : Pt) (w : World) (h : DBlk w P ty c) (hm : DC c l m) (hf : Fit l m.w) :
    Calls Try.prog 96 #[.pointer (some ⟨P, 0, none⟩)] w fun e w' => e = .returned (.int .i64 (l.top m.w)) ∧ Kept [] w w' := by
  have hc : ∀ i, i < 21 → w.cell? ⟨P, i, none⟩ = (ptCells l m)[i]? := fun i hi => by rw [cells_of h, hm i hi]
  have HF := hid hf
  have HC := hid hc
  have H := hid h
  have HM := hid hm
  clear h hm hf hc
  have hc := cells_of H.out
  have g0 := HM.out.f0
  have g1 := HM.out.f1
  have g2 := HM.out.f2
  have g3 := HM.out.f3
  have g4 := HM.out.f4
  have g5 := HM.out.f5
  have g6 := HM.out.f6
  have g7 := HM.out.f7
  have g8 := HM.out.f8
  have g9 := HM.out.f9
  have g10 := HM.out.f10
  have g11 := HM.out.f11
  have g12 := HM.out.f12
  have g13 := HM.out.f13
  have g14 := HM.out.f14
  go_enter Try.func96, Try.ntmps96
  go_wp2_with fail
  go_region_held3 (fun w' => ∀ i, w'.cell? ⟨P, i, none⟩ = c[i]?) (first | exact hc | exact hc1)
    (first | (go_at_call 54; refine (c33 l m.w _ HF.out).mono ?_; rintro e y1 ⟨rfl, hk⟩; have hc1 := cells_of (hk.get ((Kept.refl [] _).drew.get H.out (by simp)) (by simp))))
  have HK := hid hk
  clear hk hc hc1
  go_wp2_with fail
  go_ret
  exact ⟨rfl, (Kept.refl [] w).drew.trans HK.out⟩
set_option maxHeartbeats 1000000 in
set_option maxRecDepth 100000 in
theorem d176 (P : Nat) (ty : TypeId) (c : Array Value) (l : Lay) (m : Pt) (w : World) (h : DBlk w P ty c) (hm : DC c l m) (hf : Fit l m.w) :
    Calls Try.prog 97 #[.pointer (some ⟨P, 0, none⟩)] w fun e w' => e = .returned (.int .i64 (l.top m.w + 1)) ∧ Kept [] w w' := by
  have hc : ∀ i, i < 21 → w.cell? ⟨P, i, none⟩ = (ptCells l m)[i]? := fun i hi => by rw [cells_of h, hm i hi]
  have HF := hid hf
  have HC := hid hc
  have H := hid h
  have HM := hid hm
  clear h hm hf hc
  have hc := cells_of H.out
  have g0 := HM.out.f0
  have g1 := HM.out.f1
  have g2 := HM.out.f2
  have g3 := HM.out.f3
  have g4 := HM.out.f4
  have g5 := HM.out.f5
  have g6 := HM.out.f6
  have g7 := HM.out.f7
  have g8 := HM.out.f8
  have g9 := HM.out.f9
  have g10 := HM.out.f10
  have g11 := HM.out.f11
  have g12 := HM.out.f12
  have g13 := HM.out.f13
  have g14 := HM.out.f14
  go_enter Try.func97, Try.ntmps97
  go_wp2_with fail
  go_region_held3 (fun w' => ∀ i, w'.cell? ⟨P, i, none⟩ = c[i]?) (first | exact hc | exact hc1)
    (first | (go_at_call 55; refine (c35 l m.w _ HF.out).mono ?_; rintro e y1 ⟨rfl, hk⟩; have hc1 := cells_of (hk.get ((Kept.refl [] _).drew.get H.out (by simp)) (by simp))))
  have HK := hid hk
  clear hk hc hc1
  go_wp2_with fail
  go_ret
  exact ⟨rfl, (Kept.refl [] w).drew.trans HK.out⟩
end Go.Proofs.Ytlbhckndejldcaa
