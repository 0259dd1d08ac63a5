/- acequialaw11.Same: whether two lists are the same. -/
import Derived.Test.YtlbhckndejldcaaSlice
namespace Go.Proofs.Ytlbhckndejldcaa
open Go.RowKit
set_option linter.unusedVariables false
set_option maxHeartbeats 1000000 in
set_option maxRecDepth 100000 in
theorem c94_len (a b : Option Addr) (n n' c c' : Nat) (hne : n ≠ n') (w : World) :
    Calls Try.prog 33 #[.slice a n c, .slice b n' c'] w fun e w' => e = .returned (.bool false) ∧ Kept [] w w' := by
  have h1 : ((n : Int) != (n' : Int)) = true := by rw [bne_iff_ne]; omega
  clear hne
  go_enter Try.func33, Try.ntmps33
  go_wp2
  go_ret
  exact ⟨rfl, Kept.refl _ _⟩
set_option maxHeartbeats 1000000 in
set_option maxRecDepth 100000 in
theorem c94_zero (a b : Option Addr) (c c' : Nat) (w : World) :
    Calls Try.prog 33 #[.slice a 0 c, .slice b 0 c'] w fun e w' => e = .returned (.bool true) ∧ Kept [] w w' := by
  go_enter Try.func33, Try.ntmps33
  go_wp2
  go_loopw [13] (fun s wr => s = .int .i64 0 ∧ Kept [] w wr) (fun _ _ => 0)
  case atStart => exact ⟨rfl, Kept.refl _ _⟩
  case round =>
    obtain ⟨rfl, hk⟩ := hrel
    have HK := hid hk
    clear hk
    go_wp2
    go_ret
    exact ⟨rfl, HK.out⟩
set_option maxHeartbeats 1000000 in
set_option maxRecDepth 100000 in
theorem c94_some (g off c g' off' c' : Nat) (xs ys : List Int) (hl : ys.length = xs.length) (hm : xs.length ≤ 9223372036854775807) (w : World) (hg : g < w.heap.size) (hg' : g' < w.heap.size)
    (hc : ∀ i, i < xs.length → w.cell? ⟨g, off + i, none⟩ = some (.int .i64 (xs.getD i 0))) (hc' : ∀ i, i < xs.length → w.cell? ⟨g', off' + i, none⟩ = some (.int .i64 (ys.getD i 0))) :
    Calls Try.prog 33 #[.slice (some ⟨g, off, none⟩) xs.length c, .slice (some ⟨g', off', none⟩) xs.length c'] w fun e w' => e = .returned (.bool (decide (xs = ys))) ∧ Kept [] w w' := by
  have HC := hid hc
  have HC' := hid hc'
  have HL := hid hl
  have h1 : ((xs.length : Int) != (xs.length : Int)) = false := by simp
  obtain ⟨n, hn⟩ : ∃ n, n = xs.length := ⟨_, rfl⟩
  rw [← hn] at hm h1 ⊢
  have HN := hid hn
  clear hc hc' hl hn
  go_enter Try.func33, Try.ntmps33
  go_wp2
  go_loopw [13] (fun s wr => ∃ i : Nat, i ≤ n ∧ s = .int .i64 i ∧ Kept [] w wr ∧ Hid (xs.take i = ys.take i)) (fun s _ => n - (intOf s).toNat)
  case atStart => exact ⟨0, by omega, rfl, Kept.refl _ _, hid (by simp)⟩
  case round =>
    obtain ⟨i, hi, rfl, hk, HT⟩ := hrel
    have HK := hid hk
    clear hk
    by_cases hlt : i < n
    · obtain ⟨x, hx⟩ : ∃ x, x = xs.getD i 0 := ⟨_, rfl⟩
      obtain ⟨y, hy⟩ : ∃ y, y = ys.getD i 0 := ⟨_, rfl⟩
      have HX := hid hx
      have HY := hid hy
      have e1 := HK.out.cellx hg (by simp) (HC.out i (by rw [← HN.out]; exact hlt))
      have e2 := HK.out.cellx hg' (by simp) (HC'.out i (by rw [← HN.out]; exact hlt))
      rw [← hx] at e1
      rw [← hy] at e2
      have hlt' : (i : Int) < (n : Int) := by omega
      clear hx hy
      by_cases hxy : x = y
      · have hb : (x != y) = false := by simp [hxy]
        have HXY := hid hxy
        clear hxy
        go_wp2_with fail
        refine wp_region_at (by as_aux_lemma => kernel_rfl) (by as_aux_lemma => kernel_rfl) (fun W hW => ?_)
        have kW : Kept [] w W := by rw [hW.out]; exact HK.out
        have e3 : ∀ x' : Later W, x'.w.cell? ⟨g, off + i, none⟩ = some (.int .i64 x) := fun x' => (kW.trans x'.k).cellx hg (by simp) (by rw [HX.out]; exact HC.out i (by rw [← HN.out]; exact hlt))
        have e4 : ∀ x' : Later W, x'.w.cell? ⟨g', off' + i, none⟩ = some (.int .i64 y) := fun x' => (kW.trans x'.k).cellx hg' (by simp) (by rw [HY.out]; exact HC'.out i (by rw [← HN.out]; exact hlt))
        have KW := hid kW
        clear kW
        repeat (go_big_quiet_step (fail))
        refine wpQuiet_nil ?_
        rintro _ ⟨⟨w8, hk8⟩, rfl⟩
        have K8 := hid (KW.out.trans hk8)
        clear hk8 e3 e4
        go_wp2
        go_roundw
        case rel => exact ⟨i + 1, by omega, by go_num, K8.out, hid (by rw [take_next xs i 0 (by rw [← HN.out]; exact hlt), take_next ys i 0 (by rw [HL.out, ← HN.out]; exact hlt), HT.out, ← HX.out, ← HY.out, HXY.out])⟩
        case measure => simp [intOf]; omega
      · have hb : (x != y) = true := by rw [bne_iff_ne]; exact hxy
        have HXY := hid hxy
        clear hxy
        go_wp2_with fail
        refine wp_region_at (by as_aux_lemma => kernel_rfl) (by as_aux_lemma => kernel_rfl) (fun W hW => ?_)
        have kW : Kept [] w W := by rw [hW.out]; exact HK.out
        have e3 : ∀ x' : Later W, x'.w.cell? ⟨g, off + i, none⟩ = some (.int .i64 x) := fun x' => (kW.trans x'.k).cellx hg (by simp) (by rw [HX.out]; exact HC.out i (by rw [← HN.out]; exact hlt))
        have e4 : ∀ x' : Later W, x'.w.cell? ⟨g', off' + i, none⟩ = some (.int .i64 y) := fun x' => (kW.trans x'.k).cellx hg' (by simp) (by rw [HY.out]; exact HC'.out i (by rw [← HN.out]; exact hlt))
        have KW := hid kW
        clear kW
        repeat (go_big_quiet_step (fail))
        refine wpQuiet_nil ?_
        rintro _ ⟨⟨w8, hk8⟩, rfl⟩
        have K8 := hid (KW.out.trans hk8)
        clear hk8 e3 e4
        go_wp2
        go_ret
        have hd : decide (xs = ys) = false := decide_eq_false (fun e => HXY.out (by rw [HX.out, HY.out, e]))
        exact ⟨by rw [hd]; rfl, K8.out⟩
    · obtain rfl : i = n := by omega
      go_wp2
      go_ret
      have he : xs = ys := by
        have := HT.out
        rwa [List.take_of_length_le (by rw [HN.out]; exact Nat.le_refl _), List.take_of_length_le (by rw [HL.out, HN.out]; exact Nat.le_refl _)] at this
      exact ⟨by rw [decide_eq_true he]; rfl, HK.out⟩
theorem c94 (va vb : Value) (xs ys : List Int) (w : World) (ha : SliceIs w va xs) (hb : SliceIs w vb ys) (hm : xs.length ≤ 9223372036854775807) :
    Calls Try.prog 33 #[va, vb] w fun e w' => e = .returned (.bool (decide (xs = ys))) ∧ Kept [] w w' := by
  by_cases hl : ys.length = xs.length
  · by_cases h0 : xs.length = 0
    · obtain ⟨a, c, rfl⟩ := ha.len
      obtain ⟨b, c', rfl⟩ := hb.len
      have e1 : xs = [] := List.eq_nil_of_length_eq_zero h0
      have e2 : ys = [] := List.eq_nil_of_length_eq_zero (hl.trans h0)
      rw [hl, h0, decide_eq_true (by rw [e1, e2])]
      exact c94_zero a b c c' w
    · rcases ha with ⟨_, rfl⟩ | ⟨g, off, c, rfl, hg, hc⟩
      · exact absurd rfl h0
      · rcases hb with ⟨_, rfl⟩ | ⟨g', off', c', rfl, hg', hc'⟩
        · exact absurd hl.symm h0
        · have := c94_some g off c g' off' c' xs ys hl hm w hg hg' hc (by rw [← hl]; exact hc')
          rwa [← hl] at this ⊢
  · obtain ⟨a, c, rfl⟩ := ha.len
    obtain ⟨b, c', rfl⟩ := hb.len
    have hd : decide (xs = ys) = false := decide_eq_false (fun e => hl (by rw [e]))
    rw [hd]
    exact c94_len a b _ _ c c' (fun e => hl e.symm) w
end Go.Proofs.Ytlbhckndejldcaa
