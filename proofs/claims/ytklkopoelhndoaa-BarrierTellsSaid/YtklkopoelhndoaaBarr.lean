/- Package barrier: a machine's six stages. -/
import Derived.Test.YtklkopoelhndoaaLayPut
import Derived.Laws.EntriesVeiled
import Derived.Deep.RegionHeld3
import Derived.Deep.DrawnRows
namespace Go.Proofs.Ytklkopoelhndoaa
open Go.RowKit
attribute [local go_sem ↓] Go.wp_at_zero Go.wp_at_succ
set_option linter.unusedVariables false
/-- a machine's seventeen cells: its plan, what is next, its own sense, whether it was the last one -/
@[reducible] def arrCells (l : Lay) (nx own : Int) (last : Bool) : Array Value := #[.int .i64 l.verts, .int .i64 l.arcs, .int .i64 l.workers, .int .i64 l.room, .int .i64 l.res, .int .i64 l.ex, .int .i64 l.h, .int .i64 l.flag,
  .int .i64 l.pending, .int .i64 l.ask, .int .i64 l.count, .int .i64 l.sense, .int .i64 l.deques, .int .i64 l.size, .int .u8 nx, .int .i64 own, .bool last]
def ArrAt (w : World) (P : Nat) (l : Lay) (nx own : Int) (last : Bool) : Prop := w.heap[P]? = some (.cells (arrCells l nx own last) 95 (0, 0))
def lookOwn (l : Lay) (m : List Int) : Int := if ld m l.sense = 0 then 1 else 0
set_option maxHeartbeats 1000000 in
set_option maxRecDepth 100000 in
theorem c154 (P B D : Nat) (l : Lay) (m : List Int) (nx own : Int) (last : Bool) (w : World) (h : ArrAt w P l nx own last) (hb : BankAt w B D m) (hPB : P ≠ B ∧ P ≠ D) :
    Calls Try.prog 76 #[.pointer (some ⟨P, 0, none⟩), .pointer (some ⟨B, 0, none⟩)] w fun e w' => e = .returned (.int .u8 1) ∧ Kept [P] w w' ∧ ArrAt w' P l nx (lookOwn l m) last := by
  have hc := cells_of h
  have hz := free_of h
  have H := hid h
  have hs : (w.setCell ⟨P, 15, none⟩ (.int .i64 1)).heap[P]? = some (.cells (arrCells l nx 1 last) 95 (0, 0)) := by
    have := set_of h 15 (.int .i64 1); simpa [arrCells] using this
  have HS := hid hs
  have ks : Kept [P] w (w.setCell ⟨P, 15, none⟩ (.int .i64 1)) := (Kept.refl _ _).setCell (.inl (by simp)) _
  have HB := hid (hb.keep ks (by simpa using Ne.symm hPB.1) (by simpa using Ne.symm hPB.2))
  have KS := hid ks
  clear h hb hPB hs ks
  have hc1 := cells_of HS.out
  have hz1 := free_of HS.out
  by_cases hz0 : ld m l.sense = 0
  · have hb0 : (ld m l.sense != 0) = false := by simp [hz0]
    have HZ := hid hz0
    clear hz0
    go_enter Try.func76, Try.ntmps76
    go_wp2_with fail
    refine (c42 B D m l.sense _ HB.out).mono ?_
    rintro e w1 ⟨rfl, rfl⟩
    go_wp2_with fail
    go_ret
    exact ⟨rfl, KS.out, by rw [lookOwn, if_pos HZ.out]; exact HS.out⟩
  · have hb0 : (ld m l.sense != 0) = true := by simp [hz0]
    have HZ := hid hz0
    clear hz0
    go_enter Try.func76, Try.ntmps76
    go_wp2_with fail
    refine (c42 B D m l.sense _ HB.out).mono ?_
    rintro e w1 ⟨rfl, rfl⟩
    go_wp2_with fail
    go_ret
    refine ⟨rfl, KS.out.setCell (.inl (by simp)) _, ?_⟩
    rw [lookOwn, if_neg HZ.out]
    have := set_of HS.out 15 (.int .i64 0); simpa [ArrAt, arrCells] using this
set_option maxHeartbeats 1000000 in
set_option maxRecDepth 100000 in
theorem c155 (P B D : Nat) (l : Lay) (m : List Int) (nx own : Int) (last r : Bool) (hr : (adds m l.count (-1) == 0) = r) (w : World) (h : ArrAt w P l nx own last) (hb : BankAt w B D m) (hPB : P ≠ B ∧ P ≠ D) :
    Calls Try.prog 77 #[.pointer (some ⟨P, 0, none⟩), .pointer (some ⟨B, 0, none⟩)] w fun e w' => e = .returned (.int .u8 (if r then 2 else 4)) ∧ Kept [P, D] w w' ∧ ArrAt w' P l nx own r ∧ BankAt w' B D (st m l.count (wrap64 (ld m l.count + -1))) := by
  have hc := cells_of h
  have H := hid h
  have HB := hid hb
  have HPB := hid hPB
  clear h hb hPB
  go_enter Try.func77, Try.ntmps77
  go_wp2_with fail
  refine (c45 B D m l.count (-1) _ HB.out).mono ?_
  rintro e w1 ⟨rfl, hk, hb⟩
  have h2 := hk.get H.out (by simpa using HPB.out.2)
  have H2 := hid h2
  have HK := hid hk
  have HB2 := hid hb
  clear hc hk hb
  have hc := cells_of h2
  have hz := free_of h2
  clear h2
  cases r
  all_goals
    go_wp2_with fail
    go_ret
    refine ⟨rfl, (HK.out.mono (by simp)).setCell (.inl (by simp)) _, ?_, HB2.out.keep (L := [P]) ((Kept.refl _ _).setCell (.inl (by simp)) _) (by simpa using Ne.symm HPB.out.1) (by simpa using Ne.symm HPB.out.2)⟩
    have := set_of H2.out 16 (.bool (adds m l.count (-1) == 0))
    simpa [ArrAt, arrCells, hr] using this
set_option maxHeartbeats 1000000 in
set_option maxRecDepth 100000 in
theorem c156 (P B D : Nat) (l : Lay) (m : List Int) (nx own : Int) (last : Bool) (w : World) (h : ArrAt w P l nx own last) (hb : BankAt w B D m) (hPD : P ≠ D) :
    Calls Try.prog 78 #[.pointer (some ⟨P, 0, none⟩), .pointer (some ⟨B, 0, none⟩)] w fun e w' => e = .returned (.int .u8 3) ∧ Kept [D] w w' ∧ BankAt w' B D (st m l.count l.workers) := by
  have hc := cells_of h
  have HB := hid hb
  have H := hid h
  have HPD := hid hPD
  clear h hb hPD
  go_enter Try.func78, Try.ntmps78
  go_wp2_with fail
  go_region_held3 (fun w' => ∀ i, w'.cell? ⟨P, i, none⟩ = (arrCells l nx own last)[i]?) (first | exact hc | exact hc1)
    (first | (go_at_call 48; refine (c43 B D m l.count l.workers _ (HB.out.keep (Kept.refl [] _).drew (by simp) (by simp))).mono ?_; rintro e y1 ⟨rfl, hk, hb⟩; have hc1 := cells_of (hk.get ((Kept.refl [] _).drew.get H.out (by simp)) (by simpa using HPD.out))))
  have HK := hid hk
  have HB2 := hid hb
  clear hk hb hc hc1
  go_wp2_with fail
  go_ret
  exact ⟨rfl, (Kept.refl [D] w).drew.trans HK.out, HB2.out⟩
set_option maxHeartbeats 1000000 in
set_option maxRecDepth 100000 in
theorem c157 (P B D : Nat) (l : Lay) (m : List Int) (nx own : Int) (last : Bool) (w : World) (h : ArrAt w P l nx own last) (hb : BankAt w B D m) (hPD : P ≠ D) :
    Calls Try.prog 79 #[.pointer (some ⟨P, 0, none⟩), .pointer (some ⟨B, 0, none⟩)] w fun e w' => e = .returned (.int .u8 5) ∧ Kept [D] w w' ∧ BankAt w' B D (st m l.sense own) := by
  have hc := cells_of h
  have HB := hid hb
  have H := hid h
  have HPD := hid hPD
  clear h hb hPD
  go_enter Try.func79, Try.ntmps79
  go_wp2_with fail
  go_region_held3 (fun w' => ∀ i, w'.cell? ⟨P, i, none⟩ = (arrCells l nx own last)[i]?) (first | exact hc | exact hc1)
    (first | (go_at_call 48; refine (c43 B D m l.sense own _ (HB.out.keep (Kept.refl [] _).drew (by simp) (by simp))).mono ?_; rintro e y1 ⟨rfl, hk, hb⟩; have hc1 := cells_of (hk.get ((Kept.refl [] _).drew.get H.out (by simp)) (by simpa using HPD.out))))
  have HK := hid hk
  have HB2 := hid hb
  clear hk hb hc hc1
  go_wp2_with fail
  go_ret
  exact ⟨rfl, (Kept.refl [D] w).drew.trans HK.out, HB2.out⟩
set_option maxHeartbeats 1000000 in
set_option maxRecDepth 100000 in
theorem c158 (P B D : Nat) (l : Lay) (m : List Int) (nx own : Int) (last r : Bool) (hr : (ld m l.sense == own) = r) (w : World) (h : ArrAt w P l nx own last) (hb : BankAt w B D m) :
    Calls Try.prog 80 #[.pointer (some ⟨P, 0, none⟩), .pointer (some ⟨B, 0, none⟩)] w fun e w' => e = .returned (.int .u8 (if r then 5 else 4)) ∧ Kept [] w w' := by
  have hc := cells_of h
  have HB := hid hb
  clear h hb
  have HR := hid hr
  clear hr
  go_enter Try.func80, Try.ntmps80
  go_wp2_with fail
  go_region_held3 (fun w' => ∀ i, w'.cell? ⟨P, i, none⟩ = (arrCells l nx own last)[i]?) (first | exact hc)
    (first | (go_at_call 26; refine (c42 B D m l.sense _ (HB.out.keep (Kept.refl [] _).drew (by simp) (by simp))).mono ?_; rintro e y1 ⟨rfl, rfl⟩))
  have hr := HR.out
  clear hc
  cases r
  all_goals
    go_wp2_with fail
    go_ret
    exact ⟨rfl, (Kept.refl [] w).drew⟩
end Go.Proofs.Ytklkopoelhndoaa
