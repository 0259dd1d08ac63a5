/- Plan, Top, Bottom, Slot of package cells, and the document's: what they answer. -/
import Derived.Test.YtlbhckndejldcaaBank
import Derived.Test.YtlbhckndejldcaaPlain
namespace Go.Proofs.Ytlbhckndejldcaa
open Go.RowKit
theorem rg_stop {k : Nat} {n v : Int} (h : ¬ n < v) : rg k n v = n := by
  cases k with
  | zero => rfl
  | succ k => rw [rg, if_neg h]
theorem rg_step {k : Nat} {n v : Int} (h : n < v) : rg (k + 1) n v = rg k (n * 2) v := by rw [rg, if_pos h]
/-- how far the doubling is: n is 2^j, and what is left leads to the room -/
def Doubled (v n : Int) (j : Nat) : Prop := j ≤ 12 ∧ n = 2 ^ j ∧ rg (12 - j) n v = roomOf v
theorem Doubled.start (v : Int) : Doubled v 1 0 := ⟨by omega, rfl, rfl⟩
theorem Doubled.bd {v n : Int} {j : Nat} (h : Doubled v n j) : 1 ≤ n ∧ n ≤ 4096 := Pow.bd ⟨j, h.1, h.2.1⟩
theorem Doubled.next {v n : Int} {j : Nat} (h : Doubled v n j) (hv : v ≤ 4096) (hn : n < v) : j < 12 ∧ Doubled v (n * 2) (j + 1) := by
  obtain ⟨h1, h2, h3⟩ := h
  have hj : j < 12 := by
    rcases Nat.lt_or_ge j 12 with h | h
    · exact h
    · exfalso
      have : j = 12 := by omega
      subst this
      have e : n = 4096 := by rw [h2]; rfl
      omega
  refine ⟨hj, by omega, by rw [h2, Int.pow_succ], ?_⟩
  rw [← h3, show 12 - j = (12 - (j + 1)) + 1 from by omega, rg_step hn]
theorem Doubled.stop {v n : Int} {j : Nat} (h : Doubled v n j) (hn : ¬ n < v) : n = roomOf v := by rw [← h.2.2, rg_stop hn]

set_option maxHeartbeats 400000 in
set_option maxRecDepth 100000 in
theorem c114 (v : Int) (w : World) (hv : v ≤ 4096) : Calls Try.prog 82 #[.int .i64 v] w fun e w' => e = .returned (.int .i64 (roomOf v)) ∧ w = w' := by
  go_enter Try.func82, Try.ntmps82
  go_wp2
  go_loop [3] (fun t => ∃ (n : Int) (j : Nat), t = .int .i64 n ∧ Doubled v n j ∧ 1 ≤ n ∧ n ≤ 4096) (fun t => 4096 - (intOf t).toNat)
  case atStart => exact ⟨1, 0, rfl, Doubled.start v, by omega, by omega⟩
  case round =>
    obtain ⟨n, j, rfl, hd, h1, h2⟩ := hrel
    have HD := hid hd
    by_cases hlt : n < v
    · obtain ⟨hj, hd'⟩ := hd.next hv hlt
      have HD' := hid hd'
      clear hd hd'
      go_wp2
      go_round
      case rel => exact ⟨n * 2, j + 1, rfl, HD'.out, HD'.out.bd.1, HD'.out.bd.2⟩
      case measure => simp [intOf]; omega
    · clear hd
      go_wp2
      go_ret
      exact ⟨by rw [HD.out.stop (by omega)]; rfl, rfl⟩

/-- a layout and a worker whose things may be reckoned without a wrap -/
structure Fit (l : Lay) (k : Int) : Prop where
  d0 : 0 ≤ l.deques
  d1 : l.deques ≤ 50000
  r : Pow l.room
  k0 : 0 ≤ k
  k1 : k ≤ 64
def Lay.top (l : Lay) (k : Int) : Int := l.deques + k * (l.room + 2)
def Lay.slot (l : Lay) (k a : Int) : Int := l.top k + 2 + a % l.room
theorem Fit.bd {l : Lay} {k : Int} (h : Fit l k) : 0 ≤ k * (l.room + 2) ∧ k * (l.room + 2) ≤ 262272 := mul_bd h.k0 h.k1 (by have := h.r.bd; omega) (by have := h.r.bd; omega)
theorem Fit.topbd {l : Lay} {k : Int} (h : Fit l k) : 0 ≤ l.top k ∧ l.top k ≤ 312272 := by have := h.bd; have := h.d0; have := h.d1; unfold Lay.top; omega

set_option maxHeartbeats 400000 in
set_option maxRecDepth 100000 in
theorem c33 (l : Lay) (k : Int) (w : World) (h : Fit l k) : Calls Try.prog 54 #[l.val, .int .i64 k] w fun e w' => e = .returned (.int .i64 (l.top k)) ∧ Kept [] w w' := by
  have hd0 := h.d0; have hd1 := h.d1; have hr := h.r.bd; obtain ⟨h1, h2⟩ := h.bd
  have H := hid h
  clear h
  go_enter Try.func54, Try.ntmps54
  go_wp2
  go_ret
  exact ⟨rfl, (Kept.refl _ _).alloc _⟩
set_option maxHeartbeats 400000 in
set_option maxRecDepth 100000 in
theorem c34 (l : Lay) (k : Int) (w : World) (h : Fit l k) : Calls Try.prog 78 #[l.val, .int .i64 k] w fun e w' => e = .returned (.int .i64 (l.top k)) ∧ Kept [] w w' := by
  have hd0 := h.d0; have hd1 := h.d1; have hr := h.r.bd; obtain ⟨h1, h2⟩ := h.bd
  have H := hid h
  clear h
  go_enter Try.func78, Try.ntmps78
  go_wp2
  go_ret
  exact ⟨rfl, (Kept.refl _ _).alloc _⟩
set_option maxHeartbeats 400000 in
set_option maxRecDepth 100000 in
theorem c35 (l : Lay) (k : Int) (w : World) (h : Fit l k) : Calls Try.prog 55 #[l.val, .int .i64 k] w fun e w' => e = .returned (.int .i64 (l.top k + 1)) ∧ Kept [] w w' := by
  obtain ⟨t0, t1⟩ := h.topbd
  have H := hid h
  clear h
  go_enter Try.func55, Try.ntmps55
  go_wp2_with (go_at_call 54; refine (c33 l k _ H.out).mono ?_; rintro e w1 ⟨rfl, hk⟩)
  go_ret
  exact ⟨rfl, ((Kept.refl _ _).alloc _).trans hk⟩
set_option maxHeartbeats 400000 in
set_option maxRecDepth 100000 in
theorem c36 (l : Lay) (k : Int) (w : World) (h : Fit l k) : Calls Try.prog 79 #[l.val, .int .i64 k] w fun e w' => e = .returned (.int .i64 (l.top k + 1)) ∧ Kept [] w w' := by
  obtain ⟨t0, t1⟩ := h.topbd
  have H := hid h
  clear h
  go_enter Try.func79, Try.ntmps79
  go_wp2_with (go_at_call 78; refine (c34 l k _ H.out).mono ?_; rintro e w1 ⟨rfl, hk⟩)
  go_ret
  exact ⟨rfl, ((Kept.refl _ _).alloc _).trans hk⟩
end Go.Proofs.Ytlbhckndejldcaa
