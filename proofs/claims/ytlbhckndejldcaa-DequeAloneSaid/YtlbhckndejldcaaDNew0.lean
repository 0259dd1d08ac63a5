/- What the operations of a region 'x, y := New(l, ..), New(l, ..)' yield. -/
import Derived.Test.YtlbhckndejldcaaDAlone
import Derived.Test.YtlbhckndejldcaaDRow
import Derived.Test.YtlbhckndejldcaaOrd
import Derived.Deep.MidRow
namespace Go.Proofs.Ytlbhckndejldcaa
open Go.RowKit
set_option linter.unusedVariables false
@[reducible] def zero21 : Array Value := #[.int .i64 0, .int .i64 0, .int .i64 0, .int .i64 0, .int .i64 0, .int .i64 0, .int .i64 0, .int .i64 0, .int .i64 0, .int .i64 0, .int .i64 0, .int .i64 0, .int .i64 0, .int .i64 0, .int .i64 0, .int .i64 0, .int .i64 0, .int .i64 0, .int .i64 0, .bool false, .bool false]
@[reducible] def zeroSt : Array Value := #[.int .i64 0, .int .i64 0, .int .i64 0, .int .i64 0, .int .i64 0, .int .i64 0, .int .i64 0, .int .i64 0, .int .i64 0, .int .i64 0, .int .i64 0, .int .i64 0, .int .i64 0, .int .i64 0, .int .i64 0, .int .i64 0, .int .i64 0, .int .i64 0, .int .i64 0, .bool false, .bool false, .bool false]
@[reducible] def zeroPu : Array Value := #[.int .i64 0, .int .i64 0, .int .i64 0, .int .i64 0, .int .i64 0, .int .i64 0, .int .i64 0, .int .i64 0, .int .i64 0, .int .i64 0, .int .i64 0, .int .i64 0, .int .i64 0, .int .i64 0, .int .i64 0, .int .i64 0, .int .i64 0, .int .i64 0, .int .i64 0, .bool false, .bool false, .int .i64 0]
def R11 (v0 v1 v2 v3 : Value) (z4 z5 : Array Value) (t4 t5 : TypeId) (s : Nat) : Nat → Value → World → Prop
  | 0, x, _ => x = v0
  | 1, x, _ => x = v1
  | 2, x, _ => x = v2
  | 3, x, _ => x = v3
  | 4, x, w => ∃ X, x = .pointer (some ⟨X, 0, none⟩) ∧ s ≤ X ∧ w.heap[X]? = some (.cells z4 t4 (0, 0))
  | _, x, w => ∃ X, x = .pointer (some ⟨X, 0, none⟩) ∧ s ≤ X ∧ w.heap[X]? = some (.cells z5 t5 (0, 0))
theorem R11_keep (v0 v1 v2 v3 : Value) (z4 z5 : Array Value) (t4 t5 : TypeId) (s : Nat) : ∀ i x w w', R11 v0 v1 v2 v3 z4 z5 t4 t5 s i x w → Kept [] w w' → R11 v0 v1 v2 v3 z4 z5 t4 t5 s i x w'
  | 0, _, _, _, h, _ => h
  | 1, _, _, _, h, _ => h
  | 2, _, _, _, h, _ => h
  | 3, _, _, _, h, _ => h
  | 4, _, _, _, ⟨X, e, hs, hX⟩, k => ⟨X, e, hs, k.get hX (by simp)⟩
  | _ + 5, _, _, _, ⟨X, e, hs, hX⟩, k => ⟨X, e, hs, k.get hX (by simp)⟩
theorem R11_ge {v0 v1 v2 v3 : Value} {z4 z5 : Array Value} {t4 t5 : TypeId} {s : Nat} {x : Value} {w : World} : ∀ {i : Nat}, R11 v0 v1 v2 v3 z4 z5 t4 t5 s i x w → 4 ≤ i → ∃ X, x = .pointer (some ⟨X, 0, none⟩) ∧ X < w.heap.size
  | 0, _, h => by omega
  | 1, _, h => by omega
  | 2, _, h => by omega
  | 3, _, h => by omega
  | 4, ⟨X, e, hs, hX⟩, _ => ⟨X, e, lt_of_heap hX⟩
  | _ + 5, ⟨X, e, hs, hX⟩, _ => ⟨X, e, lt_of_heap hX⟩
def deps11 : Nat → List Nat
  | 1 => [0]
  | 3 => [2]
  | _ => []
/-- a store of a whole struct, among a region's operations -/
theorem wpOp_store_row {P : Program} {ops : Array Oper} {Q : Exit → Act → World → Prop} {i : Nat} {o : Oper} {K : Act → World → Prop} {a : Act} {w : World} (ho : ops[i]? = some o) (hg : Region.wanted o (yielded ops a.tmps) = true) (ty : TypeId) (x y : Operand) (hs : o.op = .store ty x y)
    (b : Nat) (cs c : Array Value) (t : TypeId) (hx : a.eval x = .pointer (some ⟨b, 0, none⟩)) (hy : a.eval y = .agg cs)
    (hb : w.heap[b]? = some (.cells c t (0, 0))) (hsz : c.size = cs.size) (hi : (P.info? ty).map (·.size) = some cs.size) (h1 : cs.all (·.oneCell') = true)
    (h : K (a.put o.dst undef) (w.setCells b 0 cs.toList)) : wpOp P ops Q i K a w := by
  refine wpOp_step ho (fun K' hK' => ?_)
  rw [if_pos hg]
  exact wp_store_mid ty x y hs b 0 cs hx hy (there_of hb hsz) hi h1 (hK' _ _ h)
end Go.Proofs.Ytlbhckndejldcaa
