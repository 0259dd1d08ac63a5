/- The plain law of CellsAdds: sums do not ask for an order, and what is taken off again leaves zeros. -/
import Derived.Test.YtbhaknoggbegiaaOps10
namespace Go.Proofs.Ytbhaknoggbegiaa
open Go.RowKit
set_option linter.unusedVariables false
set_option linter.unusedSimpArgs false
theorem w64_l (x y : Int) : wrap64 (wrap64 x + y) = wrap64 (x + y) := by unfold wrap64; omega
theorem w64_r (x y : Int) : wrap64 (x + wrap64 y) = wrap64 (x + y) := by unfold wrap64; omega
theorem w64_0 : wrap64 0 = 0 := by decide +kernel
theorem ld_st_same {m : List Int} {i v : Int} (h0 : 0 ≤ i) (h1 : i < m.length) : ld (st m i v) i = v := by
  have h' : i.toNat < m.length := by omega
  rw [ld, st_length, if_pos ⟨h0, h1⟩, st, if_pos ⟨h0, h1⟩]
  simp [h']
theorem ld_st_other {m : List Int} {i j v : Int} (h : i ≠ j) : ld (st m i v) j = ld m j := by
  unfold ld
  rw [st_length]
  split
  · rename_i hj
    unfold st
    split
    · rename_i hi
      have : i.toNat ≠ j.toNat := by omega
      simp [List.getElem?_set, this]
    · rfl
  · rfl
theorem ext_ld {m m' : List Int} (hl : m.length = m'.length) (h : ∀ i : Nat, i < m.length → ld m (i : Int) = ld m' (i : Int)) : m = m' := by
  apply List.ext_getElem hl
  intro i h1 h2
  have := h i h1
  rw [ld, if_pos ⟨by omega, by omega⟩, ld, if_pos ⟨by omega, by omega⟩] at this
  simpa [h1, h2] using this
/-- where an addition goes -/
def cellAt (n : Nat) (o : Op10) : Int := (o.at_ % 256) % (n : Int)
theorem cellAt_lt {n : Nat} (hn : 0 < n) (o : Op10) : 0 ≤ cellAt n o ∧ cellAt n o < n :=
  ⟨Int.emod_nonneg _ (by omega), Int.emod_lt_of_pos _ (by omega)⟩
/-- a bank behind the first k additions of v -/
def addUp (n : Nat) (f : Nat → Op10) (v : Nat → Int) (m : List Int) : Nat → List Int
  | 0 => m
  | k + 1 => st (addUp n f v m k) (cellAt n (f k)) (wrap64 (ld (addUp n f v m k) (cellAt n (f k)) + v k))
theorem addUp_length (n : Nat) (f : Nat → Op10) (v : Nat → Int) (m : List Int) (k : Nat) : (addUp n f v m k).length = m.length := by
  induction k with
  | zero => rfl
  | succ k ih => rw [addUp, st_length, ih]
/-- what comes to cell i by the first k -/
def sumAt (n : Nat) (f : Nat → Op10) (v : Nat → Int) (i : Int) : Nat → Int
  | 0 => 0
  | k + 1 => sumAt n f v i k + if cellAt n (f k) = i then v k else 0
theorem addUp_ld {n : Nat} (hn : 0 < n) (f : Nat → Op10) (v : Nat → Int) {m : List Int} (hm : m.length = n) (i : Int) (hw : wrap64 (ld m i) = ld m i) (k : Nat) : ld (addUp n f v m k) i = wrap64 (ld m i + sumAt n f v i k) := by
  induction k with
  | zero => simp [addUp, sumAt, hw]
  | succ k ih =>
    have hc := cellAt_lt hn (f k)
    rw [addUp, sumAt]
    by_cases h : cellAt n (f k) = i
    · rw [if_pos h]
      rw [h] at hc ⊢
      rw [ld_st_same hc.1 (by rw [addUp_length, hm]; exact hc.2), ih, w64_l, Int.add_assoc]
    · rw [if_neg h, ld_st_other h, ih, Int.add_zero]
theorem sumAt_congr (n : Nat) (f f' : Nat → Op10) (v v' : Nat → Int) (i : Int) (k : Nat) (h : ∀ j, j < k → f j = f' j ∧ v j = v' j) : sumAt n f v i k = sumAt n f' v' i k := by
  induction k with
  | zero => rfl
  | succ k ih =>
    rw [sumAt, sumAt, ih (fun j hj => h j (by omega)), (h k (by omega)).1, (h k (by omega)).2]
/-- the sum from the second on -/
theorem sumAt_shift (n : Nat) (f : Nat → Op10) (v : Nat → Int) (i : Int) (k : Nat) :
    sumAt n (fun j => f (j + 1)) (fun j => v (j + 1)) i k = sumAt n f v i (k + 1) - (if cellAt n (f 0) = i then v 0 else 0) := by
  induction k with
  | zero => simp [sumAt]
  | succ k ih =>
    rw [sumAt, ih]
    conv => rhs; rw [sumAt]
    omega
theorem sumAt_turn (n : Nat) (f : Nat → Op10) (i : Int) (L : Nat) (hL : 0 < L) : ∀ t : Nat,
    sumAt n (fun j => f ((j + t) % L)) (fun j => (f ((j + t) % L)).v) i L = sumAt n f (fun j => (f j).v) i L := by
  intro t
  induction t with
  | zero => exact sumAt_congr _ _ _ _ _ _ _ (fun j hj => by rw [Nat.add_zero, Nat.mod_eq_of_lt hj]; exact ⟨rfl, rfl⟩)
  | succ t ih =>
    have h := sumAt_shift n (fun j => f ((j + t) % L)) (fun j => (f ((j + t) % L)).v) i L
    have e : ∀ j, (j + 1 + t) % L = (j + (t + 1)) % L := fun j => by rw [show j + 1 + t = j + (t + 1) from by omega]
    have e2 : sumAt n (fun j => f ((j + 1 + t) % L)) (fun j => (f ((j + 1 + t) % L)).v) i L = sumAt n (fun j => f ((j + (t + 1)) % L)) (fun j => (f ((j + (t + 1)) % L)).v) i L :=
      sumAt_congr _ _ _ _ _ _ _ (fun j _ => by rw [e j]; exact ⟨rfl, rfl⟩)
    rw [← e2, h, sumAt, ih]
    have e3 : (L + t) % L = (0 + t) % L := by rw [Nat.zero_add, Nat.add_mod_left]
    rw [e3]
    omega
theorem zero_ld (n : Nat) (i : Int) : ld (List.replicate n 0) i = 0 := by
  unfold ld
  split
  · rename_i h
    rw [List.getD_eq_getElem?_getD, List.getElem?_replicate]
    split <;> rfl
  · rfl
/-- whatever the turn -/
theorem adds_turn {n : Nat} (hn : 0 < n) (f : Nat → Op10) (L : Nat) (t : Nat) (hL : 0 < L) :
    addUp n (fun j => f ((j + t) % L)) (fun j => (f ((j + t) % L)).v) (List.replicate n 0) L = addUp n f (fun j => (f j).v) (List.replicate n 0) L := by
  apply ext_ld
  · rw [addUp_length, addUp_length]
  · intro i _
    rw [addUp_ld hn _ _ (by simp) _ (by rw [zero_ld, w64_0]), addUp_ld hn _ _ (by simp) _ (by rw [zero_ld, w64_0]), sumAt_turn n f i L hL t]
theorem sumAt_neg (n : Nat) (f : Nat → Op10) (v : Nat → Int) (i : Int) (s : Int) (k : Nat) : wrap64 (s + sumAt n f (fun j => wrap64 (- v j)) i k) = wrap64 (s - sumAt n f v i k) := by
  induction k generalizing s with
  | zero => simp [sumAt]
  | succ k ih =>
    rw [sumAt, sumAt]
    have h := ih
    by_cases hc : cellAt n (f k) = i
    · rw [if_pos hc, if_pos hc]
      have e1 : s + (sumAt n f (fun j => wrap64 (- v j)) i k + wrap64 (- v k)) = (s + sumAt n f (fun j => wrap64 (- v j)) i k) + wrap64 (- v k) := by omega
      rw [e1, w64_r, ← w64_l, ih, w64_l]
      congr 1; omega
    · rw [if_neg hc, if_neg hc, Int.add_zero, Int.add_zero, ih]
theorem adds_off {n : Nat} (hn : 0 < n) (f : Nat → Op10) (L : Nat) :
    addUp n f (fun j => wrap64 (- (f j).v)) (addUp n f (fun j => (f j).v) (List.replicate n 0) L) L = List.replicate n 0 := by
  apply ext_ld
  · rw [addUp_length, addUp_length]
  · intro i _
    have h1 := addUp_ld hn f (fun j => (f j).v) (m := List.replicate n 0) (by simp) i (by rw [zero_ld, w64_0]) L
    rw [zero_ld, Int.zero_add] at h1
    rw [addUp_ld hn _ _ (by rw [addUp_length]; simp) _ (by rw [h1]; unfold wrap64; omega), h1, w64_l, sumAt_neg, zero_ld, Int.sub_self, w64_0]
end Go.Proofs.Ytbhaknoggbegiaa
