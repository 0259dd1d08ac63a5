/- What the functions of package cells do with a bank: contracts, each for every number and every bank. -/
import Derived.Test.YtlbhckndejldcaaChecked
import Derived.Test.YtlbhckndejldcaaBase
namespace Go.Proofs.Ytlbhckndejldcaa
open Go.RowKit

theorem run163 {a : Addr} {x : Int} {w : World} (hc : w.cell? a = some (.int .i64 x)) : (callFunc 90 #[.pointer (some a)]).run Try.prog w = .ok (.value (.int .i64 x)) w :=
  run_call_load Try.func90 (by kernel_rfl) (by kernel_rfl) (by kernel_rfl) .i64 (by kernel_rfl) hc
theorem run164 {a : Addr} {y : Int} {u : Value} {w : World} (hc : w.cell? a = some u) (hz : w.frozen? a = false) : (callFunc 107 #[.pointer (some a), .int .i64 y]).run Try.prog w = .ok (.value (.tuple #[])) (w.setCell a (.int .i64 y)) :=
  run_call_store Try.func107 (by kernel_rfl) (by kernel_rfl) (by kernel_rfl) (by kernel_rfl) hc hz
theorem run165 {a : Addr} {x y : Int} {w : World} (hc : w.cell? a = some (.int .i64 x)) (hz : w.frozen? a = false) : (callFunc 110 #[.pointer (some a), .int .i64 y]).run Try.prog w = .ok (.value (.int .i64 (wrap64 (x + y)))) (w.setCell a (.int .i64 (wrap64 (x + y)))) :=
  run_call_add Try.func110 (by kernel_rfl) (by kernel_rfl) (by kernel_rfl) .i64 (by kernel_rfl) hc hz (by simp [go_sem, wrap64, IntKind.wrap_i64])
theorem run166_hit {a : Addr} {x y : Int} {w : World} (hc : w.cell? a = some (.int .i64 x)) (hz : w.frozen? a = false) : (callFunc 111 #[.pointer (some a), .int .i64 x, .int .i64 y]).run Try.prog w = .ok (.value (.bool true)) (w.setCell a (.int .i64 y)) :=
  run_call_cas_hit Try.func111 (by kernel_rfl) (by kernel_rfl) (by kernel_rfl) .i64 (by kernel_rfl) hc hz
theorem run166_miss {a : Addr} {x o y : Int} {w : World} (hc : w.cell? a = some (.int .i64 x)) (hz : w.frozen? a = false) (hne : ¬ x = o) : (callFunc 111 #[.pointer (some a), .int .i64 o, .int .i64 y]).run Try.prog w = .ok (.value (.bool false)) w :=
  run_call_cas_miss Try.func111 (by kernel_rfl) (by kernel_rfl) (by kernel_rfl) .i64 (by kernel_rfl) hc hz hne

/-! ### sync/atomic.Int64's methods -/
set_option maxHeartbeats 400000 in
theorem c117 (D i : Nat) (x : Int) (w : World) (hc : w.cell? ⟨D, i, none⟩ = some (.int .i64 x)) : Calls Try.prog 57 #[.pointer (some ⟨D, i, none⟩)] w fun e w' => e = .returned (.int .i64 x) ∧ w = w' := by
  have h163 := run163 hc
  go_enter Try.func57, Try.ntmps57
  go_wp2
  go_ret
  exact ⟨rfl, rfl⟩
set_option maxHeartbeats 400000 in
theorem c118 (D i : Nat) (x : Value) (y : Int) (w : World) (hc : w.cell? ⟨D, i, none⟩ = some x) (hz : w.frozen? ⟨D, i, none⟩ = false) :
    Calls Try.prog 84 #[.pointer (some ⟨D, i, none⟩), .int .i64 y] w fun e w' => e = .returned (.tuple #[]) ∧ w.setCell ⟨D, i, none⟩ (.int .i64 y) = w' := by
  have h163 := run164 (y := y) hc hz
  go_enter Try.func84, Try.ntmps84
  go_wp2
  go_end0
  exact ⟨rfl, rfl⟩
set_option maxHeartbeats 400000 in
theorem c119 (D i : Nat) (x y : Int) (w : World) (hc : w.cell? ⟨D, i, none⟩ = some (.int .i64 x)) (hz : w.frozen? ⟨D, i, none⟩ = false) :
    Calls Try.prog 108 #[.pointer (some ⟨D, i, none⟩), .int .i64 y] w fun e w' => e = .returned (.int .i64 (wrap64 (x + y))) ∧ w.setCell ⟨D, i, none⟩ (.int .i64 (wrap64 (x + y))) = w' := by
  have h163 := run165 (y := y) hc hz
  go_enter Try.func108, Try.ntmps108
  go_wp2
  go_ret
  exact ⟨rfl, rfl⟩
set_option maxHeartbeats 400000 in
theorem c120_hit (D i : Nat) (x y : Int) (w : World) (hc : w.cell? ⟨D, i, none⟩ = some (.int .i64 x)) (hz : w.frozen? ⟨D, i, none⟩ = false) :
    Calls Try.prog 109 #[.pointer (some ⟨D, i, none⟩), .int .i64 x, .int .i64 y] w fun e w' => e = .returned (.bool true) ∧ w.setCell ⟨D, i, none⟩ (.int .i64 y) = w' := by
  have h163 := run166_hit (y := y) hc hz
  go_enter Try.func109, Try.ntmps109
  go_wp2
  go_ret
  exact ⟨rfl, rfl⟩
set_option maxHeartbeats 400000 in
theorem c120_miss (D i : Nat) (x o y : Int) (w : World) (hc : w.cell? ⟨D, i, none⟩ = some (.int .i64 x)) (hz : w.frozen? ⟨D, i, none⟩ = false) (hne : ¬ x = o) :
    Calls Try.prog 109 #[.pointer (some ⟨D, i, none⟩), .int .i64 o, .int .i64 y] w fun e w' => e = .returned (.bool false) ∧ w = w' := by
  have h163 := run166_miss (y := y) hc hz hne
  go_enter Try.func109, Try.ntmps109
  go_wp2
  go_ret
  exact ⟨rfl, rfl⟩

/-! ### (*Bank).at -/
set_option maxHeartbeats 400000 in
theorem at_in (B D n : Nat) (i : Int) (w : World) (hb : w.cell? ⟨B,0,none⟩ = some (.slice (some ⟨D,0,none⟩) n n)) (h0 : 0 ≤ i) (h1 : i < n) :
    Calls Try.prog 56 #[.pointer (some ⟨B,0,none⟩), .int .i64 i] w fun e w' => e = .returned (.pointer (some ⟨D, i.toNat, none⟩)) ∧ w = w' := by
  go_enter Try.func56, Try.ntmps56
  go_wp2
  go_ret
  exact ⟨rfl, rfl⟩
set_option maxHeartbeats 400000 in
theorem at_out (B D n : Nat) (i : Int) (w : World) (hb : w.cell? ⟨B,0,none⟩ = some (.slice (some ⟨D,0,none⟩) n n)) (h : i < 0 ∨ n ≤ i) :
    Calls Try.prog 56 #[.pointer (some ⟨B,0,none⟩), .int .i64 i] w fun e w' => e = .returned (.pointer none) ∧ w = w' := by
  by_cases h0 : i < 0
  · go_enter Try.func56, Try.ntmps56
    go_wp2
    go_ret
    exact ⟨rfl, rfl⟩
  · have h1 : (n : Int) ≤ i := by omega
    clear h
    go_enter Try.func56, Try.ntmps56
    go_wp2
    go_ret
    exact ⟨rfl, rfl⟩
set_option maxHeartbeats 400000 in
theorem at_none (B : Nat) (i : Int) (w : World) (hb : w.cell? ⟨B,0,none⟩ = some (.slice none 0 0)) :
    Calls Try.prog 56 #[.pointer (some ⟨B,0,none⟩), .int .i64 i] w fun e w' => e = .returned (.pointer none) ∧ w = w' := by
  by_cases h0 : i < 0
  · go_enter Try.func56, Try.ntmps56
    go_wp2
    go_ret
    exact ⟨rfl, rfl⟩
  · have h1 : 0 ≤ i := by omega
    go_enter Try.func56, Try.ntmps56
    go_wp2
    go_ret
    exact ⟨rfl, rfl⟩
set_option maxHeartbeats 400000 in
theorem at_nil (i : Int) (w : World) :
    Calls Try.prog 56 #[.pointer none, .int .i64 i] w fun e w' => e = .returned (.pointer none) ∧ w = w' := by
  go_enter Try.func56, Try.ntmps56
  go_wp2
  go_ret
  exact ⟨rfl, rfl⟩
/-- a bank that has no cell i: nil, or with another number of cells -/
def NoCell (w : World) (p : Option Addr) (i : Int) : Prop :=
  p = none ∨ ∃ B, p = some ⟨B, 0, none⟩ ∧ (w.cell? ⟨B, 0, none⟩ = some (.slice none 0 0) ∨ ∃ D n, w.cell? ⟨B, 0, none⟩ = some (.slice (some ⟨D, 0, none⟩) n n) ∧ (i < 0 ∨ n ≤ i))
theorem at_no (p : Option Addr) (i : Int) (w : World) (h : NoCell w p i) :
    Calls Try.prog 56 #[.pointer p, .int .i64 i] w fun e w' => e = .returned (.pointer none) ∧ w = w' := by
  rcases h with rfl | ⟨B, rfl, h | ⟨D, n, h, hi⟩⟩
  · exact at_nil i w
  · exact at_none B i w h
  · exact at_out B D n i w h hi

/-! ### Load, Store, Add, CAS: where there is no cell -/
set_option maxHeartbeats 400000 in
theorem load_no (p : Option Addr) (i : Int) (w : World) (h : NoCell w p i) :
    Calls Try.prog 16 #[.pointer p, .int .i64 i] w fun e w' => e = .returned (.int .i64 0) ∧ w = w' := by
  have H := hid (at_no p i w h); clear h
  go_enter Try.func16, Try.ntmps16
  go_wp2_with (go_at_call 56; refine H.out.mono ?_; rintro e w' ⟨rfl, rfl⟩)
  go_ret
  exact ⟨rfl, rfl⟩
set_option maxHeartbeats 400000 in
theorem store_no (p : Option Addr) (i v : Int) (w : World) (h : NoCell w p i) :
    Calls Try.prog 46 #[.pointer p, .int .i64 i, .int .i64 v] w fun e w' => e = .returned (.tuple #[]) ∧ w = w' := by
  have H := hid (at_no p i w h); clear h
  go_enter Try.func46, Try.ntmps46
  go_wp2_with (go_at_call 56; refine H.out.mono ?_; rintro e w' ⟨rfl, rfl⟩)
  go_end0
  exact ⟨rfl, rfl⟩
set_option maxHeartbeats 400000 in
theorem add_no (p : Option Addr) (i v : Int) (w : World) (h : NoCell w p i) :
    Calls Try.prog 89 #[.pointer p, .int .i64 i, .int .i64 v] w fun e w' => e = .returned (.int .i64 0) ∧ w = w' := by
  have H := hid (at_no p i w h); clear h
  go_enter Try.func89, Try.ntmps89
  go_wp2_with (go_at_call 56; refine H.out.mono ?_; rintro e w' ⟨rfl, rfl⟩)
  go_ret
  exact ⟨rfl, rfl⟩
set_option maxHeartbeats 400000 in
theorem cas_no (p : Option Addr) (i o v : Int) (w : World) (h : NoCell w p i) :
    Calls Try.prog 95 #[.pointer p, .int .i64 i, .int .i64 o, .int .i64 v] w fun e w' => e = .returned (.bool false) ∧ w = w' := by
  have H := hid (at_no p i w h); clear h
  go_enter Try.func95, Try.ntmps95
  go_wp2_with (go_at_call 56; refine H.out.mono ?_; rintro e w' ⟨rfl, rfl⟩)
  go_ret
  exact ⟨rfl, rfl⟩

/-! ### .. where there is one -/
set_option maxHeartbeats 400000 in
theorem load_in (B D n : Nat) (i x : Int) (w : World) (hb : w.cell? ⟨B,0,none⟩ = some (.slice (some ⟨D,0,none⟩) n n)) (h0 : 0 ≤ i) (h1 : i < n) (hc : w.cell? ⟨D, i.toNat, none⟩ = some (.int .i64 x)) :
    Calls Try.prog 16 #[.pointer (some ⟨B,0,none⟩), .int .i64 i] w fun e w' => e = .returned (.int .i64 x) ∧ w = w' := by
  have H := hid (at_in B D n i w hb h0 h1)
  have H2 := hid (c117 D i.toNat x w hc)
  clear hb h0 h1 hc
  go_enter Try.func16, Try.ntmps16
  go_wp2_with (first | (go_at_call 56; refine H.out.mono ?_; rintro e w' ⟨rfl, rfl⟩) | (go_at_call 57; refine H2.out.mono ?_; rintro e w' ⟨rfl, rfl⟩))
  go_ret
  exact ⟨rfl, rfl⟩
set_option maxHeartbeats 400000 in
theorem store_in (B D n : Nat) (i v : Int) (x : Value) (w : World) (hb : w.cell? ⟨B,0,none⟩ = some (.slice (some ⟨D,0,none⟩) n n)) (h0 : 0 ≤ i) (h1 : i < n) (hc : w.cell? ⟨D, i.toNat, none⟩ = some x)
    (hz : w.frozen? ⟨D, i.toNat, none⟩ = false) :
    Calls Try.prog 46 #[.pointer (some ⟨B,0,none⟩), .int .i64 i, .int .i64 v] w fun e w' => e = .returned (.tuple #[]) ∧ w.setCell ⟨D, i.toNat, none⟩ (.int .i64 v) = w' := by
  have H := hid (at_in B D n i w hb h0 h1)
  have H2 := hid (c118 D i.toNat x v w hc hz)
  clear hb h0 h1 hc hz
  go_enter Try.func46, Try.ntmps46
  go_wp2_with (first | (go_at_call 56; refine H.out.mono ?_; rintro e w' ⟨rfl, rfl⟩) | (go_at_call 84; refine H2.out.mono ?_; rintro e w' ⟨rfl, rfl⟩))
  go_end0
  exact ⟨rfl, rfl⟩
set_option maxHeartbeats 400000 in
theorem add_in (B D n : Nat) (i v x : Int) (w : World) (hb : w.cell? ⟨B,0,none⟩ = some (.slice (some ⟨D,0,none⟩) n n)) (h0 : 0 ≤ i) (h1 : i < n) (hc : w.cell? ⟨D, i.toNat, none⟩ = some (.int .i64 x))
    (hz : w.frozen? ⟨D, i.toNat, none⟩ = false) :
    Calls Try.prog 89 #[.pointer (some ⟨B,0,none⟩), .int .i64 i, .int .i64 v] w fun e w' => e = .returned (.int .i64 (wrap64 (x + v))) ∧ w.setCell ⟨D, i.toNat, none⟩ (.int .i64 (wrap64 (x + v))) = w' := by
  have H := hid (at_in B D n i w hb h0 h1)
  have H2 := hid (c119 D i.toNat x v w hc hz)
  clear hb h0 h1 hc hz
  go_enter Try.func89, Try.ntmps89
  go_wp2_with (first | (go_at_call 56; refine H.out.mono ?_; rintro e w' ⟨rfl, rfl⟩) | (go_at_call 108; refine H2.out.mono ?_; rintro e w' ⟨rfl, rfl⟩))
  go_ret
  exact ⟨rfl, rfl⟩
set_option maxHeartbeats 400000 in
theorem cas_hit (B D n : Nat) (i v x : Int) (w : World) (hb : w.cell? ⟨B,0,none⟩ = some (.slice (some ⟨D,0,none⟩) n n)) (h0 : 0 ≤ i) (h1 : i < n) (hc : w.cell? ⟨D, i.toNat, none⟩ = some (.int .i64 x))
    (hz : w.frozen? ⟨D, i.toNat, none⟩ = false) :
    Calls Try.prog 95 #[.pointer (some ⟨B,0,none⟩), .int .i64 i, .int .i64 x, .int .i64 v] w fun e w' => e = .returned (.bool true) ∧ w.setCell ⟨D, i.toNat, none⟩ (.int .i64 v) = w' := by
  have H := hid (at_in B D n i w hb h0 h1)
  have H2 := hid (c120_hit D i.toNat x v w hc hz)
  clear hb h0 h1 hc hz
  go_enter Try.func95, Try.ntmps95
  go_wp2_with (first | (go_at_call 56; refine H.out.mono ?_; rintro e w' ⟨rfl, rfl⟩) | (go_at_call 109; refine H2.out.mono ?_; rintro e w' ⟨rfl, rfl⟩))
  go_ret
  exact ⟨rfl, rfl⟩
set_option maxHeartbeats 400000 in
theorem cas_miss (B D n : Nat) (i o v x : Int) (w : World) (hb : w.cell? ⟨B,0,none⟩ = some (.slice (some ⟨D,0,none⟩) n n)) (h0 : 0 ≤ i) (h1 : i < n) (hc : w.cell? ⟨D, i.toNat, none⟩ = some (.int .i64 x))
    (hz : w.frozen? ⟨D, i.toNat, none⟩ = false) (hne : ¬ x = o) :
    Calls Try.prog 95 #[.pointer (some ⟨B,0,none⟩), .int .i64 i, .int .i64 o, .int .i64 v] w fun e w' => e = .returned (.bool false) ∧ w = w' := by
  have H := hid (at_in B D n i w hb h0 h1)
  have H2 := hid (c120_miss D i.toNat x o v w hc hz hne)
  clear hb h0 h1 hc hz hne
  go_enter Try.func95, Try.ntmps95
  go_wp2_with (first | (go_at_call 56; refine H.out.mono ?_; rintro e w' ⟨rfl, rfl⟩) | (go_at_call 109; refine H2.out.mono ?_; rintro e w' ⟨rfl, rfl⟩))
  go_ret
  exact ⟨rfl, rfl⟩
end Go.Proofs.Ytlbhckndejldcaa
