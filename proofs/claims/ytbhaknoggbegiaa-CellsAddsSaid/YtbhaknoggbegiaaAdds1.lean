/- CellsAdds returns true, whatever comes in. -/
import Derived.Test.YtbhaknoggbegiaaAdds
import Derived.Test.YtbhaknoggbegiaaOpen10
namespace Go.Proofs.Ytbhaknoggbegiaa
open Go.RowKit Go.ChangeShapes Go.WideShapes
set_option linter.unusedVariables false
set_option maxHeartbeats 4000000 in
set_option maxRecDepth 100000 in
theorem adds_empty (x t : Int) (hx0 : 0 ≤ x) (hx1 : x ≤ 255) (ht0 : 0 ≤ t) (ht1 : t ≤ 255) (a : Option Addr) (cap : Nat) (w : World) (ha : a = none ∧ cap = 0 ∨ ∃ x, a = some x ∧ cap ≤ maxLen) :
    Calls Try.prog 6 #[.int .u8 x, .slice a 0 cap, .int .u8 t] w fun e w' => e = .returned (.bool true) ∧ Kept [] w w' := by
  obtain ⟨n, hn⟩ : ∃ n : Nat, 1 + x % 20 = (n : Int) := ⟨(1 + x % 20).toNat, by omega⟩
  have hn0 : 1 ≤ (n : Int) := by omega
  have hn1 : (n : Int) ≤ 20 := by omega
  rcases ha with ⟨rfl, rfl⟩ | ⟨y, rfl, hc⟩
  all_goals
    try unfold maxLen at hc
    go_enter Try.func6, Try.ntmps6
    go_wp2_with fail
    refine (new_ok n (by omega) _).mono ?_
    rintro e w1 ⟨B, D, rfl, hB, hD, hk1, hb1⟩
    have HB1 := hid hb1
    have HK1 := hid hk1
    clear hb1 hk1 hD hB
    go_wp2_with fail
    refine (new_ok n (by omega) _).mono ?_
    rintro e w2 ⟨B2, D2, rfl, hB, hD, hk2, hb2⟩
    have HB := hid (HB1.out.keep hk2 (by simp) (by simp))
    have HB2 := hid hb2
    have HK := hid (HK1.out.trans hk2)
    clear hb2 hk2 hD hB HB1 HK1
    go_wp2_with fail
    go_loopw [47] (fun s wr => s = .int .i64 0 ∧ Kept [] w2 wr) (fun _ _ => 0)
    case atStart => exact ⟨rfl, Kept.refl _ _⟩
    case round =>
      obtain ⟨rfl, hk⟩ := hrel
      have HK1 := hid hk
      clear hk
      go_wp2_with fail
      go_loopw [84] (fun s wr2 => ∃ i : Nat, s = .int .i64 i ∧ i ≤ n ∧ Kept [] w2 wr2) (fun s _ => n - (intOf s).toNat)
      case atStart => exact ⟨0, rfl, by omega, HK1.out⟩
      case round =>
        obtain ⟨i, rfl, hi, hk2⟩ := hrel
        have HK2 := hid hk2
        clear hk2
        by_cases hlt2 : i < n
        · go_wp2_with fail
          refine (c42 B D _ i _ (HB.out.keep HK2.out (by simp) (by simp))).mono ?_
          rintro e w5 ⟨rfl, rfl⟩
          go_wp2_with fail
          refine (c42 B2 D2 _ i _ (HB2.out.keep HK2.out (by simp) (by simp))).mono ?_
          rintro e w5 ⟨rfl, rfl⟩
          go_wp2_with fail
          go_roundw
          case rel => exact ⟨i + 1, by go_num, by omega, HK2.out⟩
          case measure => simp [intOf]; omega
        · obtain rfl : i = n := by omega
          go_wp2_with fail
          go_loopw [97] (fun s wr3 => s = .int .i64 0 ∧ Kept [] w2 wr3) (fun _ _ => 0)
          case atStart => exact ⟨rfl, HK2.out⟩
          case round =>
            obtain ⟨rfl, hk3⟩ := hrel
            have HK3 := hid hk3
            clear hk3
            go_wp2_with fail
            refine (c48n B D i (List.replicate i 0) _ (by simp) (HB.out.keep HK3.out (by simp) (by simp))).mono ?_
            rintro e w6 ⟨O2, rfl, hO2, hk6, hr6⟩
            have HR6 := hid hr6
            have HK6 := hid ((HK.out.trans HK3.out).trans hk6)
            clear hr6 hk6 hO2
            go_wp2_with fail
            go_loopw [115] (fun s wr4 => ∃ j : Nat, s = .int .i64 j ∧ j ≤ i ∧ Kept [] w6 wr4) (fun s _ => i - (intOf s).toNat)
            case atStart => exact ⟨0, rfl, by omega, Kept.refl _ _⟩
            case round =>
              obtain ⟨j, rfl, hj, hk7⟩ := hrel
              have HK7 := hid hk7
              clear hk7
              by_cases hlt4 : j < i
              · have hR := (HR6.out.keep HK7.out (by simp)).cell j (by simpa using hlt4)
                rw [zero_getD] at hR
                go_wp2_with fail
                go_roundw
                case rel => exact ⟨j + 1, by go_num, by omega, HK7.out⟩
                case measure => simp [intOf]; omega
              · obtain rfl : j = i := by omega
                go_wp2_with fail
                refine (awake10 _).mono ?_
                rintro e w9 ⟨rfl, hk9⟩
                go_wp2_with fail
                go_ret
                exact ⟨rfl, (HK6.out.trans HK7.out).trans hk9⟩
theorem adds_all {w : World} (a0 : Int) (a1 : Option Addr) (len cap : Nat) (f : Nat → Op10) (a2 : Int) (w0 : (Lit.int .u8 a0).wf = true) (w1 : Ops10 w a1 len cap f) (w2 : (Lit.int .u8 a2).wf = true) :
    Calls Try.prog 6 #[.int .u8 a0, .slice a1 len cap, .int .u8 a2] w fun e w' => e = .returned (.bool true) ∧ Below w.heap.size w w' := by
  suffices h : Calls Try.prog 6 #[.int .u8 a0, .slice a1 len cap, .int .u8 a2] w fun e w' => e = .returned (.bool true) ∧ Kept [] w w' from
    h.mono fun e w' ⟨h1, h2⟩ => ⟨h1, h2.below (Nat.le_refl _) (by simp)⟩
  have hb := bounds_u8 w0
  have hb2 := bounds_u8 w2
  rcases w1 with ⟨rfl, rfl, rfl⟩ | ⟨x, rfl, rfl, hc⟩ | ⟨b, off, rfl, h0, hl, hc, hb', hf⟩
  · exact adds_empty a0 a2 (by omega) (by omega) (by omega) (by omega) none 0 w (.inl ⟨rfl, rfl⟩)
  · exact adds_empty a0 a2 (by omega) (by omega) (by omega) (by omega) (some x) cap w (.inr ⟨x, rfl, hc⟩)
  · exact adds_main a0 a2 (by omega) (by omega) (by omega) (by omega) b off len cap f w h0 hl hc ⟨hb', hf⟩
end Go.Proofs.Ytbhaknoggbegiaa
