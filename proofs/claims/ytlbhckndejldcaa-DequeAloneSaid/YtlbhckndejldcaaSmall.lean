/- Small laws on numbers, rows and builtins. -/
import Derived.Test.YtlbhckndejldcaaRef
import Derived.Test.YtlbhckndejldcaaBase2
namespace Go.Proofs.Ytlbhckndejldcaa
open Go.RowKit
set_option linter.unusedVariables false
set_option linter.unusedSimpArgs false
theorem and255 (a : Int) (h0 : -9223372036854775808 ≤ a) (h1 : a ≤ 9223372036854775807) : bits .and .i64 a 255 = a % 256 := by
  show IntKind.i64.wrap ((BitVec.ofInt 64 a &&& BitVec.ofInt 64 255).toNat : Int) = _
  have e1 : (BitVec.ofInt 64 255).toNat = 2 ^ 8 - 1 := by decide
  have e2 : ((BitVec.ofInt 64 a).toNat : Int) = a % 18446744073709551616 := by
    rw [BitVec.toNat_ofInt]
    have : 0 ≤ a % (2 ^ 64 : Nat) := Int.emod_nonneg _ (by decide)
    omega
  rw [BitVec.toNat_and, e1, Nat.and_two_pow_sub_one_eq_mod, IntKind.wrap_i64]
  have e3 : (((BitVec.ofInt 64 a).toNat % 2 ^ 8 : Nat) : Int) = ((BitVec.ofInt 64 a).toNat : Int) % 256 := by omega
  rw [e3, e2]
  omega
theorem min_at (a b L : Nat) (h : L = min a b) (ats : Array TypeId) (ty : TypeId) : Builtin.min_ ats ty #[.int .i64 (a : Int), .int .i64 (b : Int)] = pure (.int .i64 (L : Int)) := by
  have e : (if (b : Int) < (a : Int) then (b : Int) else (a : Int)) = (L : Int) := by split <;> omega
  simp only [Builtin.min_, List.foldlM_cons, List.foldlM_nil, Builtin.min2, e]
  rfl
theorem st_row {w : World} {g n i : Nat} {m : List Int} {v : Int} (hn : m.length = n) (hi : i < n) (h : w.heap[g]? = some (.cells (i64s m) 2 (0, 0))) :
    (w.setCell ⟨g, i, none⟩ (.int .i64 v)).heap[g]? = some (.cells (i64s (st m (i : Int) v)) 2 (0, 0)) := by
  have e : st m (i : Int) v = m.set i v := by rw [st, if_pos ⟨by omega, by omega⟩, Int.toNat_natCast]
  rw [e, ← i64s_set]; exact set_of h _ _
theorem inB_yes {m : List Int} {n i : Nat} (hn : m.length = n) (hi : i < n) : inB m (i : Int) = true := decide_eq_true ⟨by omega, by omega⟩
theorem hits_yes {m : List Int} {i o : Int} (h : inB m i = true) (e : ld m i = o) : hits m i o = true := by
  have := of_decide_eq_true h
  exact decide_eq_true ⟨this.1, this.2, e⟩
theorem hits_no {m : List Int} {i o : Int} (h : inB m i = false ∨ ¬ ld m i = o) : hits m i o = false := by
  refine decide_eq_false (fun x => ?_)
  rcases h with h | h
  · exact of_decide_eq_false h ⟨x.1, x.2.1⟩
  · exact h x.2.2
theorem w64_l (x y : Int) : wrap64 (wrap64 x + y) = wrap64 (x + y) := by unfold wrap64; omega
theorem w64_r (x y : Int) : wrap64 (x + wrap64 y) = wrap64 (x + y) := by unfold wrap64; omega
theorem w64_0 : wrap64 0 = 0 := by decide +kernel
theorem ld_st_same {m : List Int} {i v : Int} (h0 : 0 ≤ i) (h1 : i < m.length) : ld (st m i v) i = v := by
  have h' : i.toNat < m.length := by omega
  rw [ld, st_length, if_pos ⟨h0, h1⟩, st, if_pos ⟨h0, h1⟩]
  simp [h']
theorem ld_st_other {m : List Int} {i j v : Int} (h : i ≠ j) : ld (st m i v) j = ld m j := by
  unfold ld
  rw [st_length]
  split
  · rename_i hj
    unfold st
    split
    · rename_i hi
      have : i.toNat ≠ j.toNat := by omega
      simp [List.getElem?_set, this]
    · rfl
  · rfl
theorem ext_ld {m m' : List Int} (hl : m.length = m'.length) (h : ∀ i : Nat, i < m.length → ld m (i : Int) = ld m' (i : Int)) : m = m' := by
  apply List.ext_getElem hl
  intro i h1 h2
  have := h i h1
  rw [ld, if_pos ⟨by omega, by omega⟩, ld, if_pos ⟨by omega, by omega⟩] at this
  simpa [h1, h2] using this
end Go.Proofs.Ytlbhckndejldcaa
