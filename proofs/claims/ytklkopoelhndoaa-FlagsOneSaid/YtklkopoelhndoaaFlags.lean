/- Package flags: claims and freeings, each of one cell; who is held. -/
import Derived.Test.YtklkopoelhndoaaSlice
import Derived.Test.YtklkopoelhndoaaPlan4
namespace Go.Proofs.Ytklkopoelhndoaa
open Go.RowKit
set_option linter.unusedVariables false
/-! ### the machine of one step -/
set_option maxHeartbeats 400000 in
set_option maxRecDepth 100000 in
theorem c131 (P : Nat) (d : Bool) (w : World) (hc : w.cell? ⟨P, 1, none⟩ = some (.bool d)) (hz : w.frozen? ⟨P, 1, none⟩ = false) :
    Calls Try.prog 58 #[.pointer (some ⟨P, 0, none⟩)] w fun e w' => e = .returned (.bool (!d)) ∧ w.setCell ⟨P, 1, none⟩ (.bool true) = w' := by
  cases d
  all_goals
    go_enter Try.func58, Try.ntmps58
    go_wp2
    go_ret
    exact ⟨rfl, rfl⟩
/-- a claim's three cells -/
@[reducible] def claimCells (cell : Int) (d g : Bool) : Array Value := #[.int .i64 cell, .bool d, .bool g]
@[reducible] def freeCells (cell : Int) (d : Bool) : Array Value := #[.int .i64 cell, .bool d]
def ClaimAt (w : World) (P : Nat) (cell : Int) (d g : Bool) : Prop := w.heap[P]? = some (.cells (claimCells cell d g) 81 (0, 0))
def FreeAt (w : World) (P : Nat) (cell : Int) (d : Bool) : Prop := w.heap[P]? = some (.cells (freeCells cell d) 35 (0, 0))
set_option maxHeartbeats 400000 in
set_option maxRecDepth 100000 in
theorem c92 (P : Nat) (cell : Int) (d g : Bool) (w : World) (h : ClaimAt w P cell d g) : Calls Try.prog 43 #[.pointer (some ⟨P, 0, none⟩)] w fun e w' => e = .returned (.bool g) ∧ w = w' := by
  have hc := cells_of h
  have H := hid h
  clear h
  go_enter Try.func43, Try.ntmps43
  go_wp2
  go_ret
  exact ⟨rfl, rfl⟩
/-- a claim's step -/
structure StepPost (w w' : World) (P B D : Nat) (m : List Int) (cell : Int) (d g : Bool) : Prop where
  kept : Kept [P, D] w w'
  claim : ClaimAt w' P cell true (if d then g else hits m cell 0)
  bank : BankAt w' B D (if d then m else if hits m cell 0 = true then st m cell 1 else m)
set_option maxHeartbeats 1000000 in
set_option maxRecDepth 100000 in
theorem c93 (P B D : Nat) (m : List Int) (cell : Int) (d g : Bool) (w : World) (h : ClaimAt w P cell d g) (hb : BankAt w B D m) (hPB : P ≠ B) (hPD : P ≠ D) :
    Calls Try.prog 44 #[.pointer (some ⟨P, 0, none⟩), .pointer (some ⟨B, 0, none⟩)] w fun e w' => e = .returned (.bool true) ∧ StepPost w w' P B D m cell d g := by
  have hc := cells_of h
  have hz := free_of h
  have H := hid h
  have HB := hid hb
  have HPB := hid hPB
  have HPD := hid hPD
  have c1 : w.cell? ⟨P, 1, none⟩ = some (.bool d) := by rw [hc]; rfl
  have G := hid (c131 P d w c1 (hz 1))
  clear h hb hPB hPD c1
  have ks : Kept [P, D] w (w.setCell ⟨P, 1, none⟩ (.bool true)) := (Kept.refl _ _).setCell (.inl (by simp)) _
  have KS := hid ks
  clear ks
  have hP1 : (w.setCell ⟨P, 1, none⟩ (.bool true)).heap[P]? = some (.cells (claimCells cell true g) 81 (0, 0)) := by
    have := set_of H.out 1 (.bool true); simpa [claimCells] using this
  have HP1 := hid hP1
  have hcP1 := cells_of hP1
  have hzP1 := free_of hP1
  clear hP1 hc hz
  have HB1 : Hid (BankAt (w.setCell ⟨P, 1, none⟩ (.bool true)) B D m) := hid (HB.out.keep (L := [P]) ((Kept.refl _ _).setCell (.inl (by simp)) _) (by simpa using Ne.symm HPB.out) (by simpa using Ne.symm HPD.out))
  obtain ⟨w1, hw1⟩ : ∃ w1, w.setCell ⟨P, 1, none⟩ (.bool true) = w1 := ⟨_, rfl⟩
  rw [hw1] at KS HP1 hcP1 hzP1 HB1 G
  clear hw1
  cases d
  · go_enter Try.func44, Try.ntmps44
    go_wp2_with fail
    refine G.out.mono ?_
    rintro e w' ⟨rfl, rfl⟩
    go_wp2_with fail
    refine (c47 B D m cell 0 1 _ HB1.out).mono ?_
    rintro e w2 ⟨rfl, hk2, hb2⟩
    have hP2 := hk2.get HP1.out (by simpa using HPD.out)
    have HP2 := hid hP2
    have hcP2 := cells_of hP2
    have hzP2 := free_of hP2
    have HB2 := hid hb2
    have HK2 := hid hk2
    clear hP2 hb2 hk2 hcP1 hzP1
    go_wp2_with fail
    go_ret
    refine ⟨rfl, ?_, ?_, ?_⟩
    · exact (KS.out.trans (HK2.out.mono (by simp))).setCell (.inl (by simp)) _
    · have := set_of HP2.out 2 (.bool (hits m cell 0)); simpa [claimCells, ClaimAt] using this
    · exact HB2.out.keep (L := [P]) ((Kept.refl _ _).setCell (.inl (by simp)) _) (by simpa using Ne.symm HPB.out) (by simpa using Ne.symm HPD.out)
  · go_enter Try.func44, Try.ntmps44
    go_wp2_with fail
    refine G.out.mono ?_
    rintro e w' ⟨rfl, rfl⟩
    go_wp2_with fail
    go_ret
    exact ⟨rfl, KS.out, HP1.out, HB1.out⟩
structure FreePost (w w' : World) (P B D : Nat) (m : List Int) (cell : Int) (d : Bool) : Prop where
  kept : Kept [P, D] w w'
  free : FreeAt w' P cell true
  bank : BankAt w' B D (if d then m else st m cell 0)
set_option maxHeartbeats 1000000 in
set_option maxRecDepth 100000 in
theorem c61 (P B D : Nat) (m : List Int) (cell : Int) (d : Bool) (w : World) (h : FreeAt w P cell d) (hb : BankAt w B D m) (hPB : P ≠ B) (hPD : P ≠ D) :
    Calls Try.prog 17 #[.pointer (some ⟨P, 0, none⟩), .pointer (some ⟨B, 0, none⟩)] w fun e w' => e = .returned (.bool true) ∧ FreePost w w' P B D m cell d := by
  have hc := cells_of h
  have hz := free_of h
  have H := hid h
  have HB := hid hb
  have HPB := hid hPB
  have HPD := hid hPD
  have c1 : w.cell? ⟨P, 1, none⟩ = some (.bool d) := by rw [hc]; rfl
  have G := hid (c131 P d w c1 (hz 1))
  clear h hb hPB hPD c1
  have ks : Kept [P, D] w (w.setCell ⟨P, 1, none⟩ (.bool true)) := (Kept.refl _ _).setCell (.inl (by simp)) _
  have KS := hid ks
  clear ks
  have hP1 : (w.setCell ⟨P, 1, none⟩ (.bool true)).heap[P]? = some (.cells (freeCells cell true) 35 (0, 0)) := by
    have := set_of H.out 1 (.bool true); simpa [freeCells] using this
  have HP1 := hid hP1
  have hcP1 := cells_of hP1
  have hzP1 := free_of hP1
  clear hP1 hc hz
  have HB1 : Hid (BankAt (w.setCell ⟨P, 1, none⟩ (.bool true)) B D m) := hid (HB.out.keep (L := [P]) ((Kept.refl _ _).setCell (.inl (by simp)) _) (by simpa using Ne.symm HPB.out) (by simpa using Ne.symm HPD.out))
  obtain ⟨w1, hw1⟩ : ∃ w1, w.setCell ⟨P, 1, none⟩ (.bool true) = w1 := ⟨_, rfl⟩
  rw [hw1] at KS HP1 hcP1 hzP1 HB1 G
  clear hw1
  cases d
  · go_enter Try.func17, Try.ntmps17
    go_wp2_with fail
    refine G.out.mono ?_
    rintro e w' ⟨rfl, rfl⟩
    go_wp2_with fail
    refine (c43 B D m cell 0 _ HB1.out).mono ?_
    rintro e w2 ⟨rfl, hk2, hb2⟩
    have HP2 := hid (hk2.get HP1.out (by simpa using HPD.out))
    have HB2 := hid hb2
    have HK2 := hid hk2
    clear hb2 hk2 hcP1 hzP1
    go_wp2_with fail
    go_ret
    exact ⟨rfl, KS.out.trans (HK2.out.mono (by simp)), HP2.out, HB2.out⟩
  · go_enter Try.func17, Try.ntmps17
    go_wp2_with fail
    refine G.out.mono ?_
    rintro e w' ⟨rfl, rfl⟩
    go_wp2_with fail
    go_ret
    exact ⟨rfl, KS.out, HP1.out, HB1.out⟩
/-! ### new machines -/
set_option maxHeartbeats 400000 in
set_option maxRecDepth 100000 in
theorem c91 (l : Lay) (v : Int) (w : World) (h0 : 0 ≤ l.flag) (h1 : l.flag ≤ 100000) (h2 : 0 ≤ v) (h3 : v ≤ 5000) :
    Calls Try.prog 42 #[l.val, .int .i64 v] w fun e w' => e = .returned (.agg (claimCells (l.flag + v) false false)) ∧ Kept [] w w' := by
  go_enter Try.func42, Try.ntmps42
  go_wp2
  refine bodyPost_ret (v := .agg (claimCells (l.flag + v) false false)) ?_ rfl ⟨rfl, ?_⟩
  · simp [results, Try.results42, go_sem]
  · exact ((Kept.refl _ _).alloc _).alloc _
set_option maxHeartbeats 400000 in
set_option maxRecDepth 100000 in
theorem c60 (l : Lay) (v : Int) (w : World) (h0 : 0 ≤ l.flag) (h1 : l.flag ≤ 100000) (h2 : 0 ≤ v) (h3 : v ≤ 5000) :
    Calls Try.prog 16 #[l.val, .int .i64 v] w fun e w' => e = .returned (.agg (freeCells (l.flag + v) false)) ∧ Kept [] w w' := by
  go_enter Try.func16, Try.ntmps16
  go_wp2
  refine bodyPost_ret (v := .agg (freeCells (l.flag + v) false)) ?_ rfl ⟨rfl, ?_⟩
  · simp [results, Try.results16, go_sem]
  · exact ((Kept.refl _ _).alloc _).alloc _
end Go.Proofs.Ytklkopoelhndoaa
