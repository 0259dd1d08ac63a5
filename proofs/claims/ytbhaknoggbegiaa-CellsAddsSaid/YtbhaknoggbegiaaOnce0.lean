/- Small laws for the loops of layer 10's walks. -/
import Derived.Test.YtbhaknoggbegiaaAwake10
import Derived.Test.YtbhaknoggbegiaaOps10
import Derived.Test.YtbhaknoggbegiaaBase2
import Derived.Test.YtbhaknoggbegiaaPlain
import Derived.Deep.RegionHeld3
import Derived.Deep.DrawnRows
namespace Go.Proofs.Ytbhaknoggbegiaa
open Go.RowKit
attribute [local go_sem ↓] Go.wp_at_zero Go.wp_at_succ
set_option linter.unusedVariables false
theorem and255 (a : Int) (h0 : -9223372036854775808 ≤ a) (h1 : a ≤ 9223372036854775807) : bits .and .i64 a 255 = a % 256 := by
  show IntKind.i64.wrap ((BitVec.ofInt 64 a &&& BitVec.ofInt 64 255).toNat : Int) = _
  have e1 : (BitVec.ofInt 64 255).toNat = 2 ^ 8 - 1 := by decide
  have e2 : ((BitVec.ofInt 64 a).toNat : Int) = a % 18446744073709551616 := by
    rw [BitVec.toNat_ofInt]
    have : 0 ≤ a % (2 ^ 64 : Nat) := Int.emod_nonneg _ (by decide)
    omega
  rw [BitVec.toNat_and, e1, Nat.and_two_pow_sub_one_eq_mod, IntKind.wrap_i64]
  have e3 : (((BitVec.ofInt 64 a).toNat % 2 ^ 8 : Nat) : Int) = ((BitVec.ofInt 64 a).toNat : Int) % 256 := by omega
  rw [e3, e2]
  omega
theorem min_at (a b L : Nat) (h : L = min a b) (ats : Array TypeId) (ty : TypeId) : Builtin.min_ ats ty #[.int .i64 (a : Int), .int .i64 (b : Int)] = pure (.int .i64 (L : Int)) := by
  have e : (if (b : Int) < (a : Int) then (b : Int) else (a : Int)) = (L : Int) := by split <;> omega
  simp only [Builtin.min_, List.foldlM_cons, List.foldlM_nil, Builtin.min2, e]
  rfl
theorem st_row {w : World} {g n i : Nat} {m : List Int} {v : Int} (hn : m.length = n) (hi : i < n) (h : w.heap[g]? = some (.cells (i64s m) 2 (0, 0))) :
    (w.setCell ⟨g, i, none⟩ (.int .i64 v)).heap[g]? = some (.cells (i64s (st m (i : Int) v)) 2 (0, 0)) := by
  have e : st m (i : Int) v = m.set i v := by rw [st, if_pos ⟨by omega, by omega⟩, Int.toNat_natCast]
  rw [e, ← i64s_set]; exact set_of h _ _
theorem inB_yes {m : List Int} {n i : Nat} (hn : m.length = n) (hi : i < n) : inB m (i : Int) = true := decide_eq_true ⟨by omega, by omega⟩
theorem hits_yes {m : List Int} {i o : Int} (h : inB m i = true) (e : ld m i = o) : hits m i o = true := by
  have := of_decide_eq_true h
  exact decide_eq_true ⟨this.1, this.2, e⟩
theorem hits_no {m : List Int} {i o : Int} (h : inB m i = false ∨ ¬ ld m i = o) : hits m i o = false := by
  refine decide_eq_false (fun x => ?_)
  rcases h with h | h
  · exact of_decide_eq_false h ⟨x.1, x.2.1⟩
  · exact h x.2.2
/-- at each round's head: what the bank has, and the row of who has what, are one -/
structure OnceInv (n B D g : Nat) (w wr : World) (m : List Int) : Prop where
  len : m.length = n
  row : wr.heap[g]? = some (.cells (i64s m) 2 (0, 0))
  bank : BankAt wr B D m
  kept : Kept [] w wr
end Go.Proofs.Ytbhaknoggbegiaa
