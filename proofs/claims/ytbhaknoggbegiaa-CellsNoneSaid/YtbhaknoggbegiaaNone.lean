/- The walk of CellsNone. -/
import Derived.Test.YtbhaknoggbegiaaAwake10
import Derived.Test.YtbhaknoggbegiaaRef
import Derived.OpenShut
import Derived.ProofKit
namespace Go.Proofs.Ytbhaknoggbegiaa
open Go.RowKit Go.ChangeShapes Go.WideShapes
set_option linter.unusedVariables false
set_option maxHeartbeats 400000 in
theorem c40_nil (w : World) : Calls Try.prog 20 #[.pointer none] w fun e w' => e = .returned (.int .i64 0) ∧ w = w' := by
  go_enter Try.func20, Try.ntmps20
  go_wp2
  go_ret
  exact ⟨rfl, rfl⟩
set_option maxHeartbeats 400000 in
theorem c40_none (B : Nat) (w : World) (hb : w.cell? ⟨B,0,none⟩ = some (.slice none 0 0)) : Calls Try.prog 20 #[.pointer (some ⟨B, 0, none⟩)] w fun e w' => e = .returned (.int .i64 0) ∧ w = w' := by
  go_enter Try.func20, Try.ntmps20
  go_wp2
  go_ret
  exact ⟨rfl, rfl⟩
set_option maxHeartbeats 1000000 in
set_option maxRecDepth 100000 in
theorem c48_zero (p : Option Addr) (w : World) (h : Calls Try.prog 20 #[.pointer p] w fun e w' => e = .returned (.int .i64 0) ∧ w = w') :
    Calls Try.prog 28 #[.pointer p] w fun e w' => e = .returned (.slice (some ⟨w.heap.size, 0, none⟩) 0 0) ∧ Kept [] w w' := by
  have hmk : ∀ W : World, (Instr.makeSlice 42 (.int .i64 0) (.int .i64 0)).run Try.prog W = .ok (.slice (some ⟨W.heap.size, 0, none⟩) 0 0) (W.alloc (.cells #[] 2)) := fun W => by kernel_rfl
  have H := hid h
  clear h
  go_enter Try.func28, Try.ntmps28
  go_wp2_with fail
  refine H.out.mono ?_
  rintro e w1 ⟨rfl, rfl⟩
  go_wp2_with fail
  go_loopw [10] (fun s wr => s = .int .i64 0 ∧ Kept [] w wr) (fun _ _ => 0)
  case atStart => exact ⟨rfl, (Kept.refl _ _).alloc _⟩
  case round =>
    obtain ⟨rfl, hk⟩ := hrel
    have HK := hid hk
    clear hk hmk
    go_wp2_with fail
    go_ret
    exact ⟨rfl, HK.out⟩
set_option maxHeartbeats 4000000 in
set_option maxRecDepth 100000 in
theorem none_main (i v w0 : Int) (hi0 : -9223372036854775808 ≤ i) (hi1 : i ≤ 9223372036854775807) (w : World) :
    Calls Try.prog 8 #[.int .i64 i, .int .i64 v, .int .i64 w0] w fun e w' => e = .returned (.bool true) ∧ Kept [] w w' := by
  go_enter Try.func8, Try.ntmps8
  go_wp2_with fail
  refine (new_ok 3 (by omega) _).mono ?_
  rintro e w1 ⟨B, D, rfl, hB, hD, hk1, hb1⟩
  have HB1 := hid hb1
  have HK1 := hid hk1
  have HBD := hid (And.intro hB hD)
  clear hb1 hk1 hB hD
  go_wp2_with fail
  obtain ⟨wx, hwx⟩ : ∃ wx, wx = (w1.alloc (.cells #[.slice none 0 0] 58)).alloc (.cells #[.pointer none, .pointer (some ⟨w1.heap.size, 0, none⟩), .pointer (some ⟨B, 0, none⟩)] 38) := ⟨_, rfl⟩
  have hE : wx.heap[w1.heap.size]? = some (.cells #[.slice none 0 0] 58) := by rw [hwx]; exact old_alloc (new_alloc w1 _) _
  have hS : wx.heap[w1.heap.size + 1]? = some (.cells #[.pointer none, .pointer (some ⟨w1.heap.size, 0, none⟩), .pointer (some ⟨B, 0, none⟩)] 38) := by
    rw [hwx]; have := new_alloc (w1.alloc (.cells #[.slice none 0 0] 58)) (.cells #[.pointer none, .pointer (some ⟨w1.heap.size, 0, none⟩), .pointer (some ⟨B, 0, none⟩)] 38); simpa using this
  have KX : Hid (Kept [] w1 wx) := hid (by rw [hwx]; exact ((Kept.refl _ _).alloc _).alloc _)
  have HE := hid hE
  have HS := hid hS
  have HWX := hid hwx
  clear hE hS hwx
  go_loopw [24] (fun s wr => ∃ k : Nat, s = .int .i64 k ∧ k ≤ 3 ∧ Kept [] wx wr) (fun s _ => 3 - (intOf s).toNat)
  case atStart => exact ⟨0, rfl, by omega, by rw [HWX.out]; exact Kept.refl _ _⟩
  case round =>
    obtain ⟨k, rfl, hk, hkk⟩ := hrel
    have HK := hid hkk
    clear hkk
    have hcS := cells_of (HK.out.get HS.out (by simp))
    have hE1 : wr.cell? ⟨w1.heap.size, 0, none⟩ = some (.slice none 0 0) := by rw [cells_of (HK.out.get HE.out (by simp))]; rfl
    have HEc := hid hE1
    clear hE1
    have HB := hid ((HB1.out.keep KX.out (by simp) (by simp)).keep HK.out (by simp) (by simp))
    have hcase : k = 0 ∨ k = 1 ∨ k = 2 ∨ k = 3 := by omega
    rcases hcase with rfl | rfl | rfl | rfl
    · as_aux_lemma =>
        have HNO : Hid (NoCell wr (none) (i)) := hid (.inl rfl)
        go_wp2_with fail
        refine (store_no (none) (i) v wr HNO.out).mono ?_
        rintro e w5 ⟨rfl, rfl⟩
        go_wp2_with fail
        refine (load_no (none) (i) wr HNO.out).mono ?_
        rintro e w5 ⟨rfl, rfl⟩
        go_wp2_with fail
        refine (add_no (none) (i) v wr HNO.out).mono ?_
        rintro e w5 ⟨rfl, rfl⟩
        go_wp2_with fail
        refine (cas_no (none) (i) 0 w0 wr HNO.out).mono ?_
        rintro e w5 ⟨rfl, rfl⟩
        go_wp2_with fail
        refine (load_no (none) (i) wr HNO.out).mono ?_
        rintro e w5 ⟨rfl, rfl⟩
        go_wp2_with fail
        refine (c40_nil wr).mono ?_
        rintro e w5 ⟨rfl, rfl⟩
        go_wp2_with fail
        refine (c48_zero (none) _ (c40_nil wr)).mono ?_
        rintro e w6 ⟨rfl, hk6⟩
        have HK6 := hid (HK.out.trans hk6)
        clear hk6
        go_wp2_with fail
        go_roundw
        case rel => exact ⟨1, by first | rfl | go_num, by omega, HK6.out⟩
        case measure => simp [intOf]
    · as_aux_lemma =>
        have HNO : Hid (NoCell wr (some ⟨w1.heap.size, 0, none⟩) (i)) := hid (.inr ⟨_, rfl, .inl HEc.out⟩)
        go_wp2_with fail
        refine (store_no (some ⟨w1.heap.size, 0, none⟩) (i) v wr HNO.out).mono ?_
        rintro e w5 ⟨rfl, rfl⟩
        go_wp2_with fail
        refine (load_no (some ⟨w1.heap.size, 0, none⟩) (i) wr HNO.out).mono ?_
        rintro e w5 ⟨rfl, rfl⟩
        go_wp2_with fail
        refine (add_no (some ⟨w1.heap.size, 0, none⟩) (i) v wr HNO.out).mono ?_
        rintro e w5 ⟨rfl, rfl⟩
        go_wp2_with fail
        refine (cas_no (some ⟨w1.heap.size, 0, none⟩) (i) 0 w0 wr HNO.out).mono ?_
        rintro e w5 ⟨rfl, rfl⟩
        go_wp2_with fail
        refine (load_no (some ⟨w1.heap.size, 0, none⟩) (i) wr HNO.out).mono ?_
        rintro e w5 ⟨rfl, rfl⟩
        go_wp2_with fail
        refine (c40_none w1.heap.size wr HEc.out).mono ?_
        rintro e w5 ⟨rfl, rfl⟩
        go_wp2_with fail
        refine (c48_zero (some ⟨w1.heap.size, 0, none⟩) _ (c40_none w1.heap.size wr HEc.out)).mono ?_
        rintro e w6 ⟨rfl, hk6⟩
        have HK6 := hid (HK.out.trans hk6)
        clear hk6
        go_wp2_with fail
        go_roundw
        case rel => exact ⟨2, by first | rfl | go_num, by omega, HK6.out⟩
        case measure => simp [intOf]
    · by_cases hin : 0 ≤ i ∧ i < 3
      · as_aux_lemma =>
          obtain ⟨h0, h3⟩ := hin
          have HNO : Hid (NoCell wr (some ⟨B, 0, none⟩) (i + 3)) := hid (HB.out.no (by simp; omega))
          go_wp2_with fail
          refine (store_no (some ⟨B, 0, none⟩) (i + 3) v wr HNO.out).mono ?_
          rintro e w5 ⟨rfl, rfl⟩
          go_wp2_with fail
          refine (load_no (some ⟨B, 0, none⟩) (i + 3) wr HNO.out).mono ?_
          rintro e w5 ⟨rfl, rfl⟩
          go_wp2_with fail
          refine (add_no (some ⟨B, 0, none⟩) (i + 3) v wr HNO.out).mono ?_
          rintro e w5 ⟨rfl, rfl⟩
          go_wp2_with fail
          refine (cas_no (some ⟨B, 0, none⟩) (i + 3) 0 w0 wr HNO.out).mono ?_
          rintro e w5 ⟨rfl, rfl⟩
          go_wp2_with fail
          refine (load_no (some ⟨B, 0, none⟩) (i + 3) wr HNO.out).mono ?_
          rintro e w5 ⟨rfl, rfl⟩
          go_wp2_with fail
          go_roundw
          case rel => exact ⟨3, by first | rfl | go_num, by omega, HK.out⟩
          case measure => simp [intOf]
      · as_aux_lemma =>
          by_cases h0 : 0 ≤ i
          all_goals
            have h3 : 0 ≤ i → 3 ≤ i := by omega
            have h3' : decide (i < 3) = decide (i < 0) := by
              by_cases h : 0 ≤ i
              · have := h3 h; rw [decide_eq_false (by omega), decide_eq_false (by omega)]
              · rw [decide_eq_true (by omega), decide_eq_true (by omega)]
            have HIN := hid hin
            clear hin
            have HNO : Hid (NoCell wr (some ⟨B, 0, none⟩) (i)) := hid (HB.out.no (by simpa using HIN.out))
            go_wp2_with fail
            refine (store_no (some ⟨B, 0, none⟩) (i) v wr HNO.out).mono ?_
            rintro e w5 ⟨rfl, rfl⟩
            go_wp2_with fail
            refine (load_no (some ⟨B, 0, none⟩) (i) wr HNO.out).mono ?_
            rintro e w5 ⟨rfl, rfl⟩
            go_wp2_with fail
            refine (add_no (some ⟨B, 0, none⟩) (i) v wr HNO.out).mono ?_
            rintro e w5 ⟨rfl, rfl⟩
            go_wp2_with fail
            refine (cas_no (some ⟨B, 0, none⟩) (i) 0 w0 wr HNO.out).mono ?_
            rintro e w5 ⟨rfl, rfl⟩
            go_wp2_with fail
            refine (load_no (some ⟨B, 0, none⟩) (i) wr HNO.out).mono ?_
            rintro e w5 ⟨rfl, rfl⟩
            go_wp2_with fail
            go_roundw
            case rel => exact ⟨3, by first | rfl | go_num, by omega, HK.out⟩
            case measure => simp [intOf]
    · clear hcS HEc HB
      go_wp2_with fail
      have HBx := hid ((HB1.out.keep KX.out (by simp) (by simp)).keep HK.out (by simp) (by simp))
      have HKx := hid ((HK1.out.trans KX.out).trans HK.out)
      refine (c43 B D _ 1 v _ HBx.out).mono ?_
      rw [show st (List.replicate 3 0) 1 v = [0, v, 0] from rfl]
      rintro e w5 ⟨rfl, hk5, hb5⟩
      have HB5 := hid hb5
      have HK5 := hid (HKx.out.drop hk5 (fun x hx => .inr (by simp at hx; have := HBD.out; omega)))
      clear hb5 hk5
      go_wp2_with fail
      refine (c48n B D 3 [0, v, 0] _ rfl HB5.out).mono ?_
      rintro e w6 ⟨O, rfl, hO, hk6, hr6⟩
      have HB6 := hid (HB5.out.keep hk6 (by simp) (by simp))
      have HK6 := hid (HK5.out.trans hk6)
      have hcO := hr6.cell 1 (by simp)
      have hzO := hr6.free 1
      have HO : Hid (w.heap.size ≤ O ∧ B ≠ O ∧ D ≠ O) := hid ⟨by have := HK5.out.size; omega, fun e => by have := HB5.out.ltB; omega, fun e => by have := HB5.out.ltD; omega⟩
      clear hk6 hr6 hO
      go_wp2_with fail
      have ks : ∀ x : Value, Kept [O] w6 (w6.setCell ⟨O, 1, none⟩ x) := fun x => (Kept.refl _ _).setCell (.inl (by simp)) _
      have HB7 : ∀ x : Value, BankAt (w6.setCell ⟨O, 1, none⟩ x) B D [0, v, 0] := fun x => HB6.out.keep (ks x) (by simpa using HO.out.2.1) (by simpa using HO.out.2.2)
      have HK7 : ∀ x : Value, Kept [] w (w6.setCell ⟨O, 1, none⟩ x) := fun x => HK6.out.drop (ks x) (fun y hy => .inr (by simp at hy; have := HO.out.1; omega))
      have G7 := hid HB7
      have GK := hid HK7
      clear HB7 HK7 ks hcO hzO
      refine (c42 B D [0, v, 0] 1 _ (G7.out _)).mono ?_
      rw [show ld [0, v, 0] 1 = v from rfl]
      rintro e w8 ⟨rfl, rfl⟩
      go_wp2_with fail
      refine (c42 B D [0, v, 0] 0 _ (G7.out _)).mono ?_
      rw [show ld [0, v, 0] 0 = 0 from rfl]
      rintro e w8 ⟨rfl, rfl⟩
      go_wp2_with fail
      refine (c42 B D [0, v, 0] 2 _ (G7.out _)).mono ?_
      rw [show ld [0, v, 0] 2 = 0 from rfl]
      rintro e w8 ⟨rfl, rfl⟩
      go_wp2_with fail
      refine (awake10 _).mono ?_
      rintro e w9 ⟨rfl, hk9⟩
      go_wp2_with fail
      go_ret
      exact ⟨rfl, (GK.out _).trans hk9⟩
theorem none_all {w : World} (a0 a1 a2 : Int) (w0 : (Lit.int .i64 a0).wf = true) (w1 : (Lit.int .i64 a1).wf = true) (w2 : (Lit.int .i64 a2).wf = true) :
    Calls Try.prog 8 #[.int .i64 a0, .int .i64 a1, .int .i64 a2] w fun e w' => e = .returned (.bool true) ∧ Below w.heap.size w w' := by
  have h := bounds_i64 w0
  exact (none_main a0 a1 a2 (by omega) (by omega) w).mono fun e w' ⟨h1, h2⟩ => ⟨h1, h2.below (Nat.le_refl _) (by simp)⟩
end Go.Proofs.Ytbhaknoggbegiaa
