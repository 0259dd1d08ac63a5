/- once.step for each of the four accesses. -/
import Derived.Test.YtklkopoelhndoaaCount
namespace Go.Proofs.Ytklkopoelhndoaa
open Go.RowKit
set_option linter.unusedVariables false
set_option maxHeartbeats 2000000 in
set_option maxRecDepth 100000 in
theorem c145_177 (P B D C E : Nat) (t : TypeId) (l : Lay) (m : List Int) (n : Int) (g : Bool) (w : World) (h : OnceAt w P t (.func (.func 83) #[] #[.pointer (some ⟨C, 0, none⟩), .pointer (some ⟨E, 0, none⟩)]) false g) (hb : BankAt w B D m) (hC : LayIn w C l) (hE : w.heap[E]? = some (.cells #[.int .i64 n] 2 (0, 0))) (hPB : P ≠ B ∧ P ≠ D) :
    Calls Try.prog 60 #[.pointer (some ⟨P, 0, none⟩), .pointer (some ⟨B, 0, none⟩)] w fun e w' => e = .returned (.bool true) ∧ Kept [P, D] w w' ∧ OnceAt w' P t (.func (.func 83) #[] #[.pointer (some ⟨C, 0, none⟩), .pointer (some ⟨E, 0, none⟩)]) true (adds m l.pending n == 0) ∧ BankAt w' B D (st m l.pending (wrap64 (ld m l.pending + n))) := by
  have hc := cells_of h
  have H := hid h
  have HB := hid hb
  have HPB := hid hPB
  have G := hid (c177 B D C E l m n w hb hC hE)
  clear h hb hPB
  have hne : ∀ (f : Fn) (a b : Array Value) (W : World), (binOp BinOp.neq 37 (.func f a b) .nilFunc).run Try.prog W = .ok (.bool true) W := fun _ _ _ _ => rfl
  go_enter Try.func60, Try.ntmps60
  go_wp2_with fail
  refine G.out.mono ?_
  rintro e w2 ⟨rfl, hk, hb2⟩
  have HKa : Hid (Kept [P, D] w w2) := hid (hk.mono (by simp))
  have HPa := hid (hk.get H.out (by simpa using HPB.out.2))
  have HBa : Hid (BankAt w2 B D (st m l.pending (wrap64 (ld m l.pending + n)))) := hid (hb2)
  clear hk hb2
  clear hc
  have hc := cells_of HPa.out
  have hz := free_of HPa.out
  go_wp2_with fail
  go_ret
  refine ⟨rfl, (HKa.out.setCell (.inl (by simp)) _).setCell (.inl (by simp)) _, ?_, ?_⟩
  · have := set_of (set_of HPa.out 1 (.bool true)) 2 (.bool (adds m l.pending n == 0)); simpa [OnceAt, onceCells] using this
  · exact (HBa.out.keep (L := [P]) ((Kept.refl _ _).setCell (.inl (by simp)) _) (by simpa using Ne.symm HPB.out.1) (by simpa using Ne.symm HPB.out.2)).keep (L := [P]) ((Kept.refl _ _).setCell (.inl (by simp)) _) (by simpa using Ne.symm HPB.out.1) (by simpa using Ne.symm HPB.out.2)
set_option maxHeartbeats 2000000 in
set_option maxRecDepth 100000 in
theorem c145_178 (P B D C : Nat) (t : TypeId) (l : Lay) (m : List Int) (g : Bool) (w : World) (h : OnceAt w P t (.func (.func 86) #[] #[.pointer (some ⟨C, 0, none⟩)]) false g) (hb : BankAt w B D m) (hC : LayIn w C l) (hPB : P ≠ B ∧ P ≠ D) :
    Calls Try.prog 60 #[.pointer (some ⟨P, 0, none⟩), .pointer (some ⟨B, 0, none⟩)] w fun e w' => e = .returned (.bool true) ∧ Kept [P, D] w w' ∧ OnceAt w' P t (.func (.func 86) #[] #[.pointer (some ⟨C, 0, none⟩)]) true (ld m l.pending == 0) ∧ BankAt w' B D (m) := by
  have hc := cells_of h
  have H := hid h
  have HB := hid hb
  have HPB := hid hPB
  have G := hid (c178 B D C l m w hb hC)
  clear h hb hPB
  have hne : ∀ (f : Fn) (a b : Array Value) (W : World), (binOp BinOp.neq 37 (.func f a b) .nilFunc).run Try.prog W = .ok (.bool true) W := fun _ _ _ _ => rfl
  go_enter Try.func60, Try.ntmps60
  go_wp2_with fail
  refine G.out.mono ?_
  rintro e w2 ⟨rfl, rfl⟩
  have HKa : Hid (Kept [P, D] w w) := hid (Kept.refl _ _)
  have HPa := hid (H.out)
  have HBa : Hid (BankAt w B D (m)) := hid (HB.out)
  clear hc
  have hc := cells_of HPa.out
  have hz := free_of HPa.out
  go_wp2_with fail
  go_ret
  refine ⟨rfl, (HKa.out.setCell (.inl (by simp)) _).setCell (.inl (by simp)) _, ?_, ?_⟩
  · have := set_of (set_of HPa.out 1 (.bool true)) 2 (.bool (ld m l.pending == 0)); simpa [OnceAt, onceCells] using this
  · exact (HBa.out.keep (L := [P]) ((Kept.refl _ _).setCell (.inl (by simp)) _) (by simpa using Ne.symm HPB.out.1) (by simpa using Ne.symm HPB.out.2)).keep (L := [P]) ((Kept.refl _ _).setCell (.inl (by simp)) _) (by simpa using Ne.symm HPB.out.1) (by simpa using Ne.symm HPB.out.2)
set_option maxHeartbeats 2000000 in
set_option maxRecDepth 100000 in
theorem c145_179 (P B D C : Nat) (t : TypeId) (l : Lay) (m : List Int) (g : Bool) (w : World) (h : OnceAt w P t (.func (.func 87) #[] #[.pointer (some ⟨C, 0, none⟩)]) false g) (hb : BankAt w B D m) (hC : LayIn w C l) (hPB : P ≠ B ∧ P ≠ D) :
    Calls Try.prog 60 #[.pointer (some ⟨P, 0, none⟩), .pointer (some ⟨B, 0, none⟩)] w fun e w' => e = .returned (.bool true) ∧ Kept [P, D] w w' ∧ OnceAt w' P t (.func (.func 87) #[] #[.pointer (some ⟨C, 0, none⟩)]) true (ld m l.ask != 0) ∧ BankAt w' B D (m) := by
  have hc := cells_of h
  have H := hid h
  have HB := hid hb
  have HPB := hid hPB
  have G := hid (c179 B D C l m w hb hC)
  clear h hb hPB
  have hne : ∀ (f : Fn) (a b : Array Value) (W : World), (binOp BinOp.neq 37 (.func f a b) .nilFunc).run Try.prog W = .ok (.bool true) W := fun _ _ _ _ => rfl
  go_enter Try.func60, Try.ntmps60
  go_wp2_with fail
  refine G.out.mono ?_
  rintro e w2 ⟨rfl, rfl⟩
  have HKa : Hid (Kept [P, D] w w) := hid (Kept.refl _ _)
  have HPa := hid (H.out)
  have HBa : Hid (BankAt w B D (m)) := hid (HB.out)
  clear hc
  have hc := cells_of HPa.out
  have hz := free_of HPa.out
  go_wp2_with fail
  go_ret
  refine ⟨rfl, (HKa.out.setCell (.inl (by simp)) _).setCell (.inl (by simp)) _, ?_, ?_⟩
  · have := set_of (set_of HPa.out 1 (.bool true)) 2 (.bool (ld m l.ask != 0)); simpa [OnceAt, onceCells] using this
  · exact (HBa.out.keep (L := [P]) ((Kept.refl _ _).setCell (.inl (by simp)) _) (by simpa using Ne.symm HPB.out.1) (by simpa using Ne.symm HPB.out.2)).keep (L := [P]) ((Kept.refl _ _).setCell (.inl (by simp)) _) (by simpa using Ne.symm HPB.out.1) (by simpa using Ne.symm HPB.out.2)
set_option maxHeartbeats 2000000 in
set_option maxRecDepth 100000 in
theorem c145_152 (P B D C : Nat) (t : TypeId) (l : Lay) (m : List Int) (g : Bool) (w : World) (h : OnceAt w P t (.func (.func 69) #[] #[.pointer (some ⟨C, 0, none⟩)]) false g) (hb : BankAt w B D m) (hC : LayIn w C l) (hPB : P ≠ B ∧ P ≠ D) :
    Calls Try.prog 60 #[.pointer (some ⟨P, 0, none⟩), .pointer (some ⟨B, 0, none⟩)] w fun e w' => e = .returned (.bool true) ∧ Kept [P, D] w w' ∧ OnceAt w' P t (.func (.func 69) #[] #[.pointer (some ⟨C, 0, none⟩)]) true (false) ∧ BankAt w' B D (st m l.ask 1) := by
  have hc := cells_of h
  have H := hid h
  have HB := hid hb
  have HPB := hid hPB
  have G := hid (c152 B D C l m w hb hC)
  clear h hb hPB
  have hne : ∀ (f : Fn) (a b : Array Value) (W : World), (binOp BinOp.neq 37 (.func f a b) .nilFunc).run Try.prog W = .ok (.bool true) W := fun _ _ _ _ => rfl
  go_enter Try.func60, Try.ntmps60
  go_wp2_with fail
  refine G.out.mono ?_
  rintro e w2 ⟨rfl, hk, hb2⟩
  have HKa : Hid (Kept [P, D] w w2) := hid (hk.mono (by simp))
  have HPa := hid (hk.get H.out (by simpa using HPB.out.2))
  have HBa : Hid (BankAt w2 B D (st m l.ask 1)) := hid (hb2)
  clear hk hb2
  clear hc
  have hc := cells_of HPa.out
  have hz := free_of HPa.out
  go_wp2_with fail
  go_ret
  refine ⟨rfl, (HKa.out.setCell (.inl (by simp)) _).setCell (.inl (by simp)) _, ?_, ?_⟩
  · have := set_of (set_of HPa.out 1 (.bool true)) 2 (.bool (false)); simpa [OnceAt, onceCells] using this
  · exact (HBa.out.keep (L := [P]) ((Kept.refl _ _).setCell (.inl (by simp)) _) (by simpa using Ne.symm HPB.out.1) (by simpa using Ne.symm HPB.out.2)).keep (L := [P]) ((Kept.refl _ _).setCell (.inl (by simp)) _) (by simpa using Ne.symm HPB.out.1) (by simpa using Ne.symm HPB.out.2)
set_option maxHeartbeats 2000000 in
set_option maxRecDepth 100000 in
theorem c145_done (P B : Nat) (t : TypeId) (fv : Value) (g : Bool) (w : World) (h : OnceAt w P t fv true g) :
    Calls Try.prog 60 #[.pointer (some ⟨P, 0, none⟩), .pointer (some ⟨B, 0, none⟩)] w fun e w' => e = .returned (.bool true) ∧ w = w' := by
  have hc := cells_of h
  clear h
  go_enter Try.func60, Try.ntmps60
  go_wp2_with fail
  go_ret
  exact ⟨rfl, rfl⟩
end Go.Proofs.Ytklkopoelhndoaa
