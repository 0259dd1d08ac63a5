/- A barrier machine's step. -/
import Derived.Test.YtklkopoelhndoaaBarr
namespace Go.Proofs.Ytklkopoelhndoaa
open Go.RowKit
set_option linter.unusedVariables false
@[reducible] def stg (P : Nat) : Array Value := #[.func (.func 76) #[.pointer (some ⟨P, 0, none⟩)] #[], .func (.func 77) #[.pointer (some ⟨P, 0, none⟩)] #[], .func (.func 78) #[.pointer (some ⟨P, 0, none⟩)] #[], .func (.func 79) #[.pointer (some ⟨P, 0, none⟩)] #[], .func (.func 80) #[.pointer (some ⟨P, 0, none⟩)] #[]]
theorem set14 {w : World} {P : Nat} {l : Lay} {nx own : Int} {last : Bool} (h : ArrAt w P l nx own last) (v : Int) : ArrAt (w.setCell ⟨P, 14, none⟩ (.int .u8 v)) P l v own last := by
  have := set_of (t := 95) h 14 (.int .u8 v); simpa [ArrAt, arrCells] using this
set_option maxHeartbeats 2000000 in
set_option maxRecDepth 100000 in
theorem c101_0 (P B D : Nat) (l : Lay) (m : List Int) (own : Int) (last : Bool) (w : World) (h : ArrAt w P l 0 own last) (hb : BankAt w B D m) (hPB : P ≠ B ∧ P ≠ D) :
    Calls Try.prog 54 #[.pointer (some ⟨P, 0, none⟩), .pointer (some ⟨B, 0, none⟩)] w fun e w' => e = .returned (.bool false) ∧ Kept [P, D] w w' ∧ ArrAt w' P l 1 (lookOwn l m) last ∧ BankAt w' B D m := by
  have hc := cells_of h
  have HPB := hid hPB
  have ka : Kept [] w (w.alloc (.cells (stg P) 126)) := (Kept.refl _ _).alloc _
  have HA : Hid (ArrAt (w.alloc (.cells (stg P) 126)) P l 0 own last) := hid (ka.get h (by simp))
  have HBA := hid (hb.keep ka (by simp) (by simp))
  have HK := hid ka
  have hc1 := cells_of HA.out
  have hcN := cells_of (new_alloc w (.cells (stg P) 126))
  clear h hb hPB ka
  have hmf : ∀ (fn : Fn) (first cap : Array Value) (w : World), (Instr.makeFunc fn first cap).run Try.prog w = .ok (.func fn first cap) w := fun _ _ _ _ => rfl
  go_enter Try.func54, Try.ntmps54
  go_wp2_with fail
  refine (c154 P B D l m 0 own last _ HA.out HBA.out HPB.out).mono ?_
  rintro e w2 ⟨rfl, hk, ha⟩
  have HK2 : Hid (Kept [P, D] w w2) := hid ((HK.out.of_nil (M := [P, D])).trans (hk.mono (by simp)))
  have ha2 : ArrAt w2 P l 0 (lookOwn l m) last := ha
  have HB2 := hid (HBA.out.keep hk (by simpa using Ne.symm HPB.out.1) (by simpa using Ne.symm HPB.out.2))
  have HA2 := hid ha2
  clear hc hc1 hcN hk ha
  have hc := cells_of ha2
  have hz := free_of ha2
  clear ha2
  go_wp2_with fail
  go_ret
  exact ⟨rfl, HK2.out.setCell (.inl (by simp)) _, set14 HA2.out _, HB2.out.keep (L := [P]) ((Kept.refl _ _).setCell (.inl (by simp)) _) (by simpa using Ne.symm HPB.out.1) (by simpa using Ne.symm HPB.out.2)⟩
set_option maxHeartbeats 2000000 in
set_option maxRecDepth 100000 in
theorem c101_1 (P B D : Nat) (l : Lay) (m : List Int) (own : Int) (last : Bool) (r : Bool) (hr : (adds m l.count (-1) == 0) = r) (w : World) (h : ArrAt w P l 1 own last) (hb : BankAt w B D m) (hPB : P ≠ B ∧ P ≠ D) :
    Calls Try.prog 54 #[.pointer (some ⟨P, 0, none⟩), .pointer (some ⟨B, 0, none⟩)] w fun e w' => e = .returned (.bool false) ∧ Kept [P, D] w w' ∧ ArrAt w' P l (if r then 2 else 4) own r ∧ BankAt w' B D (st m l.count (wrap64 (ld m l.count + -1))) := by
  have hc := cells_of h
  have HPB := hid hPB
  have ka : Kept [] w (w.alloc (.cells (stg P) 126)) := (Kept.refl _ _).alloc _
  have HA : Hid (ArrAt (w.alloc (.cells (stg P) 126)) P l 1 own last) := hid (ka.get h (by simp))
  have HBA := hid (hb.keep ka (by simp) (by simp))
  have HK := hid ka
  have hc1 := cells_of HA.out
  have hcN := cells_of (new_alloc w (.cells (stg P) 126))
  have HR := hid hr
  clear hr
  clear h hb hPB ka
  have hmf : ∀ (fn : Fn) (first cap : Array Value) (w : World), (Instr.makeFunc fn first cap).run Try.prog w = .ok (.func fn first cap) w := fun _ _ _ _ => rfl
  go_enter Try.func54, Try.ntmps54
  go_wp2_with fail
  refine (c155 P B D l m 1 own last r HR.out _ HA.out HBA.out HPB.out).mono ?_
  rintro e w2 ⟨rfl, hk, ha, hb⟩
  have HK2 : Hid (Kept [P, D] w w2) := hid ((HK.out.of_nil (M := [P, D])).trans (hk))
  have ha2 : ArrAt w2 P l 1 own r := ha
  have HB2 := hid (hb)
  have HA2 := hid ha2
  clear hc hc1 hcN hk ha hb
  have hc := cells_of ha2
  have hz := free_of ha2
  clear ha2
  clear HR
  cases r
  all_goals
    go_wp2_with fail
    go_ret
    exact ⟨rfl, HK2.out.setCell (.inl (by simp)) _, set14 HA2.out _, HB2.out.keep (L := [P]) ((Kept.refl _ _).setCell (.inl (by simp)) _) (by simpa using Ne.symm HPB.out.1) (by simpa using Ne.symm HPB.out.2)⟩
set_option maxHeartbeats 2000000 in
set_option maxRecDepth 100000 in
theorem c101_2 (P B D : Nat) (l : Lay) (m : List Int) (own : Int) (last : Bool) (w : World) (h : ArrAt w P l 2 own last) (hb : BankAt w B D m) (hPB : P ≠ B ∧ P ≠ D) :
    Calls Try.prog 54 #[.pointer (some ⟨P, 0, none⟩), .pointer (some ⟨B, 0, none⟩)] w fun e w' => e = .returned (.bool false) ∧ Kept [P, D] w w' ∧ ArrAt w' P l 3 own last ∧ BankAt w' B D (st m l.count l.workers) := by
  have hc := cells_of h
  have HPB := hid hPB
  have ka : Kept [] w (w.alloc (.cells (stg P) 126)) := (Kept.refl _ _).alloc _
  have HA : Hid (ArrAt (w.alloc (.cells (stg P) 126)) P l 2 own last) := hid (ka.get h (by simp))
  have HBA := hid (hb.keep ka (by simp) (by simp))
  have HK := hid ka
  have hc1 := cells_of HA.out
  have hcN := cells_of (new_alloc w (.cells (stg P) 126))
  clear h hb hPB ka
  have hmf : ∀ (fn : Fn) (first cap : Array Value) (w : World), (Instr.makeFunc fn first cap).run Try.prog w = .ok (.func fn first cap) w := fun _ _ _ _ => rfl
  go_enter Try.func54, Try.ntmps54
  go_wp2_with fail
  refine (c156 P B D l m 2 own last _ HA.out HBA.out HPB.out.2).mono ?_
  rintro e w2 ⟨rfl, hk, hb⟩
  have HK2 : Hid (Kept [P, D] w w2) := hid ((HK.out.of_nil (M := [P, D])).trans (hk.mono (by simp)))
  have ha2 : ArrAt w2 P l 2 own last := hk.get HA.out (by simpa using HPB.out.2)
  have HB2 := hid (hb)
  have HA2 := hid ha2
  clear hc hc1 hcN hk hb
  have hc := cells_of ha2
  have hz := free_of ha2
  clear ha2
  go_wp2_with fail
  go_ret
  exact ⟨rfl, HK2.out.setCell (.inl (by simp)) _, set14 HA2.out _, HB2.out.keep (L := [P]) ((Kept.refl _ _).setCell (.inl (by simp)) _) (by simpa using Ne.symm HPB.out.1) (by simpa using Ne.symm HPB.out.2)⟩
set_option maxHeartbeats 2000000 in
set_option maxRecDepth 100000 in
theorem c101_3 (P B D : Nat) (l : Lay) (m : List Int) (own : Int) (last : Bool) (w : World) (h : ArrAt w P l 3 own last) (hb : BankAt w B D m) (hPB : P ≠ B ∧ P ≠ D) :
    Calls Try.prog 54 #[.pointer (some ⟨P, 0, none⟩), .pointer (some ⟨B, 0, none⟩)] w fun e w' => e = .returned (.bool true) ∧ Kept [P, D] w w' ∧ ArrAt w' P l 5 own last ∧ BankAt w' B D (st m l.sense own) := by
  have hc := cells_of h
  have HPB := hid hPB
  have ka : Kept [] w (w.alloc (.cells (stg P) 126)) := (Kept.refl _ _).alloc _
  have HA : Hid (ArrAt (w.alloc (.cells (stg P) 126)) P l 3 own last) := hid (ka.get h (by simp))
  have HBA := hid (hb.keep ka (by simp) (by simp))
  have HK := hid ka
  have hc1 := cells_of HA.out
  have hcN := cells_of (new_alloc w (.cells (stg P) 126))
  clear h hb hPB ka
  have hmf : ∀ (fn : Fn) (first cap : Array Value) (w : World), (Instr.makeFunc fn first cap).run Try.prog w = .ok (.func fn first cap) w := fun _ _ _ _ => rfl
  go_enter Try.func54, Try.ntmps54
  go_wp2_with fail
  refine (c157 P B D l m 3 own last _ HA.out HBA.out HPB.out.2).mono ?_
  rintro e w2 ⟨rfl, hk, hb⟩
  have HK2 : Hid (Kept [P, D] w w2) := hid ((HK.out.of_nil (M := [P, D])).trans (hk.mono (by simp)))
  have ha2 : ArrAt w2 P l 3 own last := hk.get HA.out (by simpa using HPB.out.2)
  have HB2 := hid (hb)
  have HA2 := hid ha2
  clear hc hc1 hcN hk hb
  have hc := cells_of ha2
  have hz := free_of ha2
  clear ha2
  go_wp2_with fail
  go_ret
  exact ⟨rfl, HK2.out.setCell (.inl (by simp)) _, set14 HA2.out _, HB2.out.keep (L := [P]) ((Kept.refl _ _).setCell (.inl (by simp)) _) (by simpa using Ne.symm HPB.out.1) (by simpa using Ne.symm HPB.out.2)⟩
set_option maxHeartbeats 2000000 in
set_option maxRecDepth 100000 in
theorem c101_4 (P B D : Nat) (l : Lay) (m : List Int) (own : Int) (last : Bool) (r : Bool) (hr : (ld m l.sense == own) = r) (w : World) (h : ArrAt w P l 4 own last) (hb : BankAt w B D m) (hPB : P ≠ B ∧ P ≠ D) :
    Calls Try.prog 54 #[.pointer (some ⟨P, 0, none⟩), .pointer (some ⟨B, 0, none⟩)] w fun e w' => e = .returned (.bool r) ∧ Kept [P, D] w w' ∧ ArrAt w' P l (if r then 5 else 4) own last ∧ BankAt w' B D m := by
  have hc := cells_of h
  have HPB := hid hPB
  have ka : Kept [] w (w.alloc (.cells (stg P) 126)) := (Kept.refl _ _).alloc _
  have HA : Hid (ArrAt (w.alloc (.cells (stg P) 126)) P l 4 own last) := hid (ka.get h (by simp))
  have HBA := hid (hb.keep ka (by simp) (by simp))
  have HK := hid ka
  have hc1 := cells_of HA.out
  have hcN := cells_of (new_alloc w (.cells (stg P) 126))
  have HR := hid hr
  clear hr
  clear h hb hPB ka
  have hmf : ∀ (fn : Fn) (first cap : Array Value) (w : World), (Instr.makeFunc fn first cap).run Try.prog w = .ok (.func fn first cap) w := fun _ _ _ _ => rfl
  go_enter Try.func54, Try.ntmps54
  go_wp2_with fail
  refine (c158 P B D l m 4 own last r HR.out _ HA.out HBA.out).mono ?_
  rintro e w2 ⟨rfl, hk⟩
  have HK2 : Hid (Kept [P, D] w w2) := hid ((HK.out.of_nil (M := [P, D])).trans (hk.of_nil))
  have ha2 : ArrAt w2 P l 4 own last := hk.get HA.out (by simp)
  have HB2 := hid (HBA.out.keep hk (by simp) (by simp))
  have HA2 := hid ha2
  clear hc hc1 hcN hk 
  have hc := cells_of ha2
  have hz := free_of ha2
  clear ha2
  clear HR
  cases r
  all_goals
    go_wp2_with fail
    go_ret
    exact ⟨rfl, HK2.out.setCell (.inl (by simp)) _, set14 HA2.out _, HB2.out.keep (L := [P]) ((Kept.refl _ _).setCell (.inl (by simp)) _) (by simpa using Ne.symm HPB.out.1) (by simpa using Ne.symm HPB.out.2)⟩
set_option maxHeartbeats 2000000 in
set_option maxRecDepth 100000 in
theorem c101_5 (P B : Nat) (l : Lay) (own : Int) (last : Bool) (w : World) (h : ArrAt w P l 5 own last) :
    Calls Try.prog 54 #[.pointer (some ⟨P, 0, none⟩), .pointer (some ⟨B, 0, none⟩)] w fun e w' => e = .returned (.bool true) ∧ w = w' := by
  have hc := cells_of h
  clear h
  go_enter Try.func54, Try.ntmps54
  go_wp2_with fail
  go_ret
  exact ⟨rfl, rfl⟩
set_option maxHeartbeats 1000000 in
set_option maxRecDepth 100000 in
theorem c102 (P : Nat) (l : Lay) (nx own : Int) (last : Bool) (w : World) (h : ArrAt w P l nx own last) :
    Calls Try.prog 55 #[.pointer (some ⟨P, 0, none⟩)] w fun e w' => e = .returned (.bool last) ∧ w = w' := by
  have hc := cells_of h
  clear h
  go_enter Try.func55, Try.ntmps55
  go_wp2_with fail
  go_ret
  exact ⟨rfl, rfl⟩
set_option maxHeartbeats 1000000 in
set_option maxRecDepth 100000 in
theorem c99 (l : Lay) (w : World) :
    Calls Try.prog 52 #[l.val] w fun e w' => e = .returned (.agg (arrCells l 0 0 false)) ∧ Kept [] w w' := by
  go_enter Try.func52, Try.ntmps52
  go_wp2_with fail
  refine bodyPost_ret (v := .agg (arrCells l 0 0 false)) ?_ rfl ⟨rfl, ?_⟩
  · simp [results, Try.results52, go_sem]
  · first | exact ((Kept.refl _ _).alloc _).alloc _ | skip

set_option maxHeartbeats 1000000 in
set_option maxRecDepth 100000 in
theorem c153 (l : Lay) (B D : Nat) (m : List Int) (w : World) (hb : BankAt w B D m) :
    Calls Try.prog 75 #[l.val, .pointer (some ⟨B, 0, none⟩)] w fun e w' => e = .returned (.tuple #[]) ∧ Kept [D] w w' ∧ BankAt w' B D (st (st m l.count l.workers) l.sense 0) := by
  have ka : Kept [] w (w.alloc (.cells l.cells 25)) := (Kept.refl _ _).alloc _
  have HB := hid (hb.keep ka (by simp) (by simp))
  have HP := hid (new_alloc w (.cells l.cells 25))
  have HD : Hid (w.heap.size ≠ D) := hid (fun e => by have := hb.ltD; omega)
  have HK := hid ka
  clear hb ka
  go_enter Try.func75, Try.ntmps75
  go_wp2_with fail
  refine (c43 B D m l.count l.workers _ HB.out).mono ?_
  rintro e w1 ⟨rfl, hk, hb⟩
  have hcP := cells_of (hk.get HP.out (by simpa using HD.out))
  have HK1 := hid ((HK.out.of_nil (M := [D])).trans hk)
  have HB1 := hid hb
  clear hk hb
  go_wp2_with fail
  refine (c43 B D _ l.sense 0 _ HB1.out).mono ?_
  rintro e w2 ⟨rfl, hk, hb⟩
  have HK2 := hid (HK1.out.trans hk)
  have HB2 := hid hb
  clear hk hb hcP
  go_wp2_with fail
  go_end0
  exact ⟨rfl, HK2.out, HB2.out⟩
end Go.Proofs.Ytklkopoelhndoaa
