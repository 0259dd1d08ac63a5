/- Package count: machines of one step. -/
import Derived.Test.YtklkopoelhndoaaLayPut
namespace Go.Proofs.Ytklkopoelhndoaa
open Go.RowKit
set_option linter.unusedVariables false
/-- a machine's three cells: its access, whether it is done, what it tells -/
@[reducible] def onceCells (fv : Value) (d g : Bool) : Array Value := #[fv, .bool d, .bool g]
def OnceAt (w : World) (P : Nat) (t : TypeId) (fv : Value) (d g : Bool) : Prop := w.heap[P]? = some (.cells (onceCells fv d g) t (0, 0))
def LayIn (w : World) (C : Nat) (l : Lay) : Prop := w.heap[C]? = some (.cells l.cells 25 (0, 0))
set_option maxHeartbeats 1000000 in
set_option maxRecDepth 100000 in
theorem c177 (B D C E : Nat) (l : Lay) (m : List Int) (n : Int) (w : World) (hb : BankAt w B D m) (hC : LayIn w C l) (hE : w.heap[E]? = some (.cells #[.int .i64 n] 2 (0, 0))) :
    Calls Try.prog 83 #[.pointer (some ⟨B, 0, none⟩), .pointer (some ⟨C, 0, none⟩), .pointer (some ⟨E, 0, none⟩)] w fun e w' => e = .returned (.bool (adds m l.pending n == 0)) ∧ Kept [D] w w' ∧ BankAt w' B D (st m l.pending (wrap64 (ld m l.pending + n))) := by
  have hc := cells_of (t := 25) hC
  have hcE := cells_of hE
  have HB := hid hb
  clear hb hC hE
  go_enter Try.func83, Try.ntmps83
  go_wp2_with fail
  refine (c45 B D m l.pending n _ HB.out).mono ?_
  rintro e w1 ⟨rfl, hk, hb2⟩
  go_wp2_with fail
  go_ret
  exact ⟨rfl, hk, hb2⟩
set_option maxHeartbeats 1000000 in
set_option maxRecDepth 100000 in
theorem c178 (B D C : Nat) (l : Lay) (m : List Int) (w : World) (hb : BankAt w B D m) (hC : LayIn w C l) :
    Calls Try.prog 86 #[.pointer (some ⟨B, 0, none⟩), .pointer (some ⟨C, 0, none⟩)] w fun e w' => e = .returned (.bool (ld m l.pending == 0)) ∧ w = w' := by
  have hc := cells_of (t := 25) hC
  have HB := hid hb
  clear hb hC
  go_enter Try.func86, Try.ntmps86
  go_wp2_with fail
  refine (c42 B D m l.pending _ HB.out).mono ?_
  rintro e w1 ⟨rfl, rfl⟩
  go_wp2_with fail
  go_ret
  exact ⟨rfl, rfl⟩
set_option maxHeartbeats 1000000 in
set_option maxRecDepth 100000 in
theorem c179 (B D C : Nat) (l : Lay) (m : List Int) (w : World) (hb : BankAt w B D m) (hC : LayIn w C l) :
    Calls Try.prog 87 #[.pointer (some ⟨B, 0, none⟩), .pointer (some ⟨C, 0, none⟩)] w fun e w' => e = .returned (.bool (ld m l.ask != 0)) ∧ w = w' := by
  have hc := cells_of (t := 25) hC
  have HB := hid hb
  clear hb hC
  go_enter Try.func87, Try.ntmps87
  go_wp2_with fail
  refine (c42 B D m l.ask _ HB.out).mono ?_
  rintro e w1 ⟨rfl, rfl⟩
  go_wp2_with fail
  go_ret
  exact ⟨rfl, rfl⟩
set_option maxHeartbeats 1000000 in
set_option maxRecDepth 100000 in
theorem c152 (B D C : Nat) (l : Lay) (m : List Int) (w : World) (hb : BankAt w B D m) (hC : LayIn w C l) :
    Calls Try.prog 69 #[.pointer (some ⟨B, 0, none⟩), .pointer (some ⟨C, 0, none⟩)] w fun e w' => e = .returned (.bool false) ∧ Kept [D] w w' ∧ BankAt w' B D (st m l.ask 1) := by
  have hc := cells_of (t := 25) hC
  have HB := hid hb
  clear hb hC
  go_enter Try.func69, Try.ntmps69
  go_wp2_with fail
  refine (c43 B D m l.ask 1 _ HB.out).mono ?_
  rintro e w1 ⟨rfl, hk, hb2⟩
  go_wp2_with fail
  go_ret
  exact ⟨rfl, hk, hb2⟩
end Go.Proofs.Ytklkopoelhndoaa
