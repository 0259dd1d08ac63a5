/- Plain numbers: a deque's room, a plan's fourteen numbers. -/
import Derived.Test.YtlbhckndejldcaaBase
namespace Go.Proofs.Ytlbhckndejldcaa
open Go.RowKit
/-- doubled while below v, at most k times -/
def rg : Nat → Int → Int → Int
  | 0, n, _ => n
  | k + 1, n, v => if n < v then rg k (n * 2) v else n
/-- the least power of 2 that is not below v (v up to 4096) -/
def roomOf (v : Int) : Int := rg 12 1 v
def Pow (r : Int) : Prop := ∃ j : Nat, j ≤ 12 ∧ r = 2 ^ j
theorem rg_pow (v : Int) : ∀ (k j : Nat), ∃ i, i ≤ j + k ∧ rg k (2 ^ j) v = 2 ^ i := by
  intro k
  induction k with
  | zero => intro j; exact ⟨j, by omega, rfl⟩
  | succ k ih =>
    intro j
    unfold rg
    split
    · obtain ⟨i, hi, e⟩ := ih (j + 1)
      exact ⟨i, by omega, by rw [← e, Int.pow_succ]⟩
    · exact ⟨j, by omega, rfl⟩
theorem room_pow (v : Int) : Pow (roomOf v) := by
  obtain ⟨i, hi, e⟩ := rg_pow v 12 0
  exact ⟨i, by omega, e⟩
theorem Pow.bd {r : Int} (h : Pow r) : 1 ≤ r ∧ r ≤ 4096 := by
  obtain ⟨j, hj, rfl⟩ := h
  have h1 : (2 : Nat) ^ j ≤ 2 ^ 12 := Nat.pow_le_pow_right (by omega) hj
  have h2 : 0 < (2 : Nat) ^ j := Nat.two_pow_pos j
  have e : ((2 : Int) ^ j) = ((2 ^ j : Nat) : Int) := by simp
  rw [e]; omega
theorem rg_ge (v : Int) : ∀ (k : Nat) (n : Int), v ≤ n * 2 ^ k → v ≤ rg k n v := by
  intro k
  induction k with
  | zero => intro n h; simpa [rg] using h
  | succ k ih =>
    intro n h
    unfold rg
    split
    · refine ih _ ?_
      rw [Int.pow_succ] at h
      have e : n * 2 * 2 ^ k = n * (2 ^ k * 2) := by rw [Int.mul_assoc, Int.mul_comm 2]
      rw [e]; exact h
    · omega
theorem room_ge {v : Int} (hv : v ≤ 4096) : v ≤ roomOf v := rg_ge v 12 1 (by simpa using hv)
/-- a plan's numbers -/
def planOf (v a k : Int) : Lay :=
  { verts := v, arcs := a, workers := k, room := roomOf v, res := 0, ex := a, h := a + v, flag := a + 2 * v, pending := a + 3 * v, ask := a + 3 * v + 1, count := a + 3 * v + 2, sense := a + 3 * v + 3,
    deques := a + 3 * v + 4, size := a + 3 * v + 4 + k * (roomOf v + 2) }
def May (v a k : Int) : Prop := 0 ≤ v ∧ v ≤ 4096 ∧ 0 ≤ a ∧ a ≤ 32768 ∧ 1 ≤ k ∧ k ≤ 64
theorem mul_bd {k r : Int} (hk0 : 0 ≤ k) (hk : k ≤ 64) (hr0 : 0 ≤ r) (hr : r ≤ 4098) : 0 ≤ k * r ∧ k * r ≤ 262272 := by
  refine ⟨Int.mul_nonneg hk0 hr0, ?_⟩
  have h1 : k * r ≤ 64 * r := Int.mul_le_mul_of_nonneg_right hk hr0
  omega
theorem ofInt_i64 (a : Nat) (ha : a < 18446744073709551616) : (BitVec.ofInt 64 (a : Int)).toNat = a := by
  simp; omega
theorem i64_and_nat (a b : Nat) (ha : a < 9223372036854775808) (hb : b < 9223372036854775808) : bits .and .i64 (a : Int) (b : Int) = ((a &&& b : Nat) : Int) := by
  have hx : a &&& b < 2 ^ 63 := Nat.and_lt_two_pow _ (by omega)
  show IntKind.i64.wrap ((BitVec.ofInt 64 (a : Int) &&& BitVec.ofInt 64 (b : Int)).toNat : Int) = _
  rw [BitVec.toNat_and, ofInt_i64 a (by omega), ofInt_i64 b (by omega), IntKind.wrap_i64]
  omega
theorem and_pow (j : Nat) (a r : Int) (hj : j ≤ 12) (hr : r = 2 ^ j) (h0 : 0 ≤ a) (h1 : a ≤ 9223372036854775807) : bits .and .i64 a (r - 1) = a % r := by
  obtain ⟨n, rfl⟩ := Int.eq_ofNat_of_zero_le h0
  have hp : 0 < 2 ^ j := Nat.two_pow_pos j
  have hle : 2 ^ j ≤ 2 ^ 12 := Nat.pow_le_pow_right (by omega) hj
  have e : r - 1 = ((2 ^ j - 1 : Nat) : Int) := by rw [hr, Int.natCast_sub hp]; simp
  rw [e, i64_and_nat n (2 ^ j - 1) (by omega) (by omega), Nat.and_two_pow_sub_one_eq_mod, hr]
  simp
theorem and_room {a r : Int} (hp : Pow r) (h0 : 0 ≤ a) (h1 : a ≤ 9223372036854775807) : bits .and .i64 a (r - 1) = a % r := by
  obtain ⟨j, hj, h⟩ := hp
  exact and_pow j a r hj h h0 h1
end Go.Proofs.Ytlbhckndejldcaa
