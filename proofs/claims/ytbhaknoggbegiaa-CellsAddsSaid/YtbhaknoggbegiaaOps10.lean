/- The accesses that came in: five cells each. -/
import Derived.Test.YtbhaknoggbegiaaRef
namespace Go.Proofs.Ytbhaknoggbegiaa
open Go.RowKit
/-- an access of layer 10's laws -/
structure Op10 where
  what : Int
  at_ : Int
  v : Int
  old : Int
  right : Bool
@[reducible] def Op10.cells (o : Op10) (r : Bool) : Array Value := #[.int .u8 o.what, .int .i64 o.at_, .int .i64 o.v, .int .i64 o.old, .bool r]
structure Op10.Ok (o : Op10) : Prop where
  w0 : 0 ≤ o.what
  w1 : o.what ≤ 255
  a0 : -9223372036854775808 ≤ o.at_
  a1 : o.at_ ≤ 9223372036854775807
  v0 : -9223372036854775808 ≤ o.v
  v1 : o.v ≤ 9223372036854775807
  o0 : -9223372036854775808 ≤ o.old
  o1 : o.old ≤ 9223372036854775807
/-- what a walk is told of a row of accesses -/
def Ops10 (w : World) (a : Option Addr) (len cap : Nat) (f : Nat → Op10) : Prop :=
  (a = none ∧ len = 0 ∧ cap = 0) ∨ (∃ x, a = some x ∧ len = 0 ∧ cap ≤ maxLen) ∨
  ∃ b off, a = some ⟨b, off, none⟩ ∧ 0 < len ∧ len ≤ cap ∧ cap ≤ maxLen ∧ b < w.heap.size ∧
    ∀ k, k < len → (f k).Ok ∧ w.cell? ⟨b, off + k * 5, none⟩ = some (.int .u8 (f k).what) ∧ w.cell? ⟨b, off + k * 5 + 1, none⟩ = some (.int .i64 (f k).at_) ∧
      w.cell? ⟨b, off + k * 5 + 2, none⟩ = some (.int .i64 (f k).v) ∧ w.cell? ⟨b, off + k * 5 + 3, none⟩ = some (.int .i64 (f k).old) ∧ w.cell? ⟨b, off + k * 5 + 4, none⟩ = some (.bool (f k).right)
/-- an old cell in a later world -/
theorem Kept.cell {L : List Nat} {w w' : World} (h : Kept L w w') {b i : Nat} {v : Value} (hb : b < w.heap.size) (hn : b ∉ L) (hc : w.cell? ⟨b, i, none⟩ = some v) : w'.cell? ⟨b, i, none⟩ = some v := by
  rw [World.cell?_of_block (w := w) (a := ⟨b, i, none⟩) (h.block b hb hn)]; exact hc
end Go.Proofs.Ytbhaknoggbegiaa
