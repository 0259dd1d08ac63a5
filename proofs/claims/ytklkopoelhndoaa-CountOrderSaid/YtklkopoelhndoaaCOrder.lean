/- CountOrder returns true, whatever comes in. -/
import Derived.Test.YtklkopoelhndoaaCPend
namespace Go.Proofs.Ytklkopoelhndoaa
open Go.RowKit Go.ChangeShapes Go.WideShapes
set_option linter.unusedVariables false
set_option maxHeartbeats 4000000 in
set_option maxRecDepth 100000 in
theorem corder_main (x : Int) (hx0 : 0 ≤ x) (hx1 : x ≤ 255) (a : Option Addr) (len cap : Nat) (f : Nat → Bool) (w : World) (h : Bools w a len cap f) :
    Calls Try.prog 7 #[.int .u8 x, .slice a len cap] w fun e w' => e = .returned (.bool true) ∧ Kept [] w w' := by
  obtain ⟨hlc, hcm, _, hf⟩ := h
  unfold maxLen at hcm
  have HF := hid hf
  obtain ⟨n, hn⟩ : ∃ n : Nat, 1 + x % 60 = (n : Int) := ⟨(1 + x % 60).toNat, by omega⟩
  have hn0 : 1 ≤ (n : Int) := by omega
  have hn1 : (n : Int) ≤ 60 := by omega
  clear hf
  go_enter Try.func7, Try.ntmps7
  go_wp2_with fail
  refine (c72 _).mono ?_
  rintro e w1 ⟨B, D, rfl, hB, hD, hk1, hb1⟩
  rw [show l211.size.toNat = 15 from rfl, ← bk_zero] at hb1
  have HBD := hid (And.intro hB hD)
  have HPD : Hid (w1.heap.size ≠ D) := hid (fun e => by have := hb1.ltD; omega)
  have HI0 : Hid (Inv13 B D w1.heap.size w (w1.alloc (.cells l211.cells 25)) 0 0) := hid ⟨hb1.keep ((Kept.refl [] w1).alloc _) (by simp) (by simp), hk1.trans ((Kept.refl [] w1).alloc _), new_alloc _ _⟩
  clear hb1 hk1 hB hD
  go_wp2_with fail
  go_loopw [26] (fun s wr => ∃ k : Nat, s = .int .i64 k ∧ k ≤ n ∧ Inv13 B D w1.heap.size w wr k 0) (fun s _ => n - (intOf s).toNat)
  case atStart => exact ⟨0, rfl, by omega, HI0.out⟩
  case round =>
    obtain ⟨k, rfl, hk, hinv⟩ := hrel
    have HI := hid hinv
    clear hinv HI0
    by_cases hlt : k < n
    · have hcP := cells_of HI.out.plan
      go_wp2_with fail
      refine (c73 l211 1 _).mono ?_
      rintro e w2 ⟨fv, rfl, hk, hm⟩
      have HI := hid (HI.out.keep hk)
      obtain ⟨g, caps, rfl⟩ := hm.form
      have HM := hid hm
      clear hk hm
      try clear hcP
      go_wp2_with fail
      have ka : Kept [] w2 (w2.alloc (.cells (onceCells (.func g #[] caps) false false) 49)) := (Kept.refl _ _).alloc _
      have HN : Hid (w2.heap.size ≠ B ∧ w2.heap.size ≠ D ∧ w.heap.size ≤ w2.heap.size ∧ w1.heap.size ≠ w2.heap.size) := hid ⟨fun e => by have := HI.out.bank.ltB; omega, fun e => by have := HI.out.bank.ltD; omega, HI.out.kept.size, fun e => by have := lt_of_heap HI.out.plan; omega⟩
      have HO : Hid (OnceAt (w2.alloc (.cells (onceCells (.func g #[] caps) false false) 49)) w2.heap.size 49 (.func g #[] caps) false false) := hid (new_alloc w2 _)
      have HI := hid (HI.out.keep ka)
      have HM := hid (HM.out.keep ka)
      clear ka
      refine (c74 w2.heap.size B D 49 (.func g #[] caps) 0 1 l211 _ (bk k 0) false _ HO.out HM.out HI.out.bank ⟨HN.out.1, HN.out.2.1⟩).mono ?_
      rw [mbank0, w64_id (show -9223372036854775808 ≤ (k : Int) + 1 by omega) (by omega)]
      rintro e w3 ⟨rfl, hk, ho, hb'⟩
      have HO := hid ho
      have HI : Hid (Inv13 B D w1.heap.size w w3 ((k : Int) + 1) 0) := hid ⟨hb', HI.out.kept.drop hk (fun x hx => .inr (by simp at hx; have := HN.out.2.2.1; have := HBD.out; omega)), hk.get HI.out.plan (by simp; exact ⟨HN.out.2.2.2, HPD.out⟩)⟩
      clear hk hb' ho
      have hcP := cells_of HI.out.plan
      clear hcP
      go_wp2_with fail
      go_roundw
      case rel => exact ⟨k + 1, by go_num, by omega, HI.out⟩
      case measure => simp [intOf]; omega
    · obtain rfl : k = n := by omega
      clear hlt hk
      go_wp2_with fail
      go_loopw [10, 34] (fun t s wr2 => ∃ (i : Nat) (u : Int), t = .int .i64 u ∧ s = .int .i64 i ∧ i ≤ k ∧ (i < k → u = 0) ∧ (i = k → u = 1) ∧ Inv13 B D w1.heap.size w wr2 ((k : Int) - i) 0) (fun _ s _ => k - (intOf s).toNat)
      case atStart => exact ⟨0, 0, rfl, rfl, by omega, fun _ => rfl, fun h => by omega, by simpa using HI.out⟩
      case round =>
        obtain ⟨i, u, rfl, rfl, hi, hu0, hu1, hinv⟩ := hrel
        clear HI
        have HI := hid hinv
        have HU1 := hid hu1
        clear hinv hu1
        by_cases hlt : i < k
        · obtain rfl : u = 0 := hu0 hlt
          clear hu0 HU1
          have hcP := cells_of HI.out.plan
          obtain ⟨q, hq⟩ : ∃ q : Int, (k : Int) - i = q := ⟨_, rfl⟩
          have HQ := hid hq
          have hq1 : 1 ≤ q := by omega
          have hq60 : q ≤ 60 := by omega
          rw [hq] at HI
          clear hq
          go_wp2_with fail
          refine (c83 l211 _).mono ?_
          rintro e w2 ⟨fv, rfl, hk, hm⟩
          have HI := hid (HI.out.keep hk)
          obtain ⟨g, caps, rfl⟩ := hm.form
          have HM := hid hm
          clear hk hm
          try clear hcP
          go_wp2_with fail
          have ka : Kept [] w2 (w2.alloc (.cells (onceCells (.func g #[] caps) false false) 64)) := (Kept.refl _ _).alloc _
          have HN : Hid (w2.heap.size ≠ B ∧ w2.heap.size ≠ D ∧ w.heap.size ≤ w2.heap.size ∧ w1.heap.size ≠ w2.heap.size) := hid ⟨fun e => by have := HI.out.bank.ltB; omega, fun e => by have := HI.out.bank.ltD; omega, HI.out.kept.size, fun e => by have := lt_of_heap HI.out.plan; omega⟩
          have HO : Hid (OnceAt (w2.alloc (.cells (onceCells (.func g #[] caps) false false) 64)) w2.heap.size 64 (.func g #[] caps) false false) := hid (new_alloc w2 _)
          have HI := hid (HI.out.keep ka)
          have HM := hid (HM.out.keep ka)
          clear ka
          have HDL : Hid (D < w2.heap.size + 1) := hid (by have := HI.out.bank.ltD; simpa using this)
          have HC := hid (new_alloc2 w2 (.cells (onceCells (.func g #[] caps) false false) 64) (.cells (onceCells (.func g #[] caps) false false) 64))
          have ka : Kept [] (w2.alloc (.cells (onceCells (.func g #[] caps) false false) 64)) ((w2.alloc (.cells (onceCells (.func g #[] caps) false false) 64)).alloc (.cells (onceCells (.func g #[] caps) false false) 64)) := (Kept.refl _ _).alloc _
          have HO := hid (ka.get HO.out (by simp))
          have HI := hid (HI.out.keep ka)
          have HM := hid (HM.out.keep ka)
          clear ka
          have HN2 : Hid (w2.heap.size + 1 ≠ w2.heap.size ∧ w2.heap.size + 1 ≠ D) := hid ⟨by omega, fun e => by have := HDL.out; omega⟩
          go_wp2_with fail
          refine (c84 w2.heap.size B D 64 (.func g #[] caps) 0 (-1) l211 _ (bk q 0) false _ HO.out HM.out HI.out.bank ⟨HN.out.1, HN.out.2.1⟩).mono ?_
          rw [mbank0, mres0, w64_id (show -9223372036854775808 ≤ q + -1 by omega) (by omega)]
          rintro e w3 ⟨rfl, hk, ho, hb'⟩
          have HO := hid ho
          have HC := hid (hk.get HC.out (by simp; exact HN2.out.2))
          have HI : Hid (Inv13 B D w1.heap.size w w3 (q + -1) 0) := hid ⟨hb', HI.out.kept.drop hk (fun x hx => .inr (by simp at hx; have := HN.out.2.2.1; have := HBD.out; omega)), hk.get HI.out.plan (by simp; exact ⟨HN.out.2.2.2, HPD.out⟩)⟩
          clear hk hb' ho HM
          obtain ⟨r, hr⟩ : ∃ r, (q + -1 == 0) = r := ⟨_, rfl⟩
          have HR := hid hr
          rw [hr] at HO
          clear hr
          by_cases hag : i < len ∧ f i = true
          · obtain ⟨hil, hfi⟩ := hag
            obtain ⟨b, off, rfl, hb, hc⟩ := HF.out i hil
            have hc := HI.out.kept.cellx hb (by simp) hc
            rw [hfi] at hc
            clear hfi
            go_wp2_with fail
            refine (c84_done w2.heap.size B 64 (.func g #[] caps) r _ HO.out).mono ?_
            rintro e w4 ⟨rfl, rfl⟩
            clear hc
            go_wp2_with fail
            by_cases hlast : i + 1 = k
            · have hrt : r = true := by rw [← HR.out]; simp; have := HQ.out; omega
              subst hrt
              refine (c85 w2.heap.size 64 (.func g #[] caps) true true _ HO.out).mono ?_
              rintro e w5 ⟨rfl, rfl⟩
              go_wp2_with fail
              refine (c85 (w2.heap.size + 1) 64 (.func g #[] caps) false false _ HC.out).mono ?_
              rintro e w5 ⟨rfl, rfl⟩
              go_wp2_with fail
              refine (c85 w2.heap.size 64 (.func g #[] caps) true true _ HO.out).mono ?_
              rintro e w5 ⟨rfl, rfl⟩
              have hib : ((i : Int) == (k : Int) - 1) = true := by simp; omega
              go_wp2_with fail
              go_roundw
              case rel => exact ⟨i + 1, 1, by go_num, by go_num, by omega, fun h => by omega, fun _ => rfl, by have := HI.out; rwa [show q + -1 = (k : Int) - ((i + 1 : Nat) : Int) by have := HQ.out; omega] at this⟩
              case measure => simp [intOf]; omega
            · have hrt : r = false := by rw [← HR.out]; simp; have := HQ.out; omega
              subst hrt
              refine (c85 w2.heap.size 64 (.func g #[] caps) true false _ HO.out).mono ?_
              rintro e w5 ⟨rfl, rfl⟩
              go_wp2_with fail
              refine (c85 (w2.heap.size + 1) 64 (.func g #[] caps) false false _ HC.out).mono ?_
              rintro e w5 ⟨rfl, rfl⟩
              go_wp2_with fail
              refine (c85 w2.heap.size 64 (.func g #[] caps) true false _ HO.out).mono ?_
              rintro e w5 ⟨rfl, rfl⟩
              have hib : ((i : Int) == (k : Int) - 1) = false := by simp; omega
              go_wp2_with fail
              go_roundw
              case rel => exact ⟨i + 1, 0, by go_num, by go_num, by omega, fun _ => rfl, fun h => by omega, by have := HI.out; rwa [show q + -1 = (k : Int) - ((i + 1 : Nat) : Int) by have := HQ.out; omega] at this⟩
              case measure => simp [intOf]; omega
          · have hag2 : i < len → ∃ b off, a = some ⟨b, off, none⟩ ∧ w3.cell? ⟨b, off + i, none⟩ = some (.bool false) := fun hil => by
              obtain ⟨b, off, e, hb, hc⟩ := HF.out i hil
              have hc := HI.out.kept.cellx hb (by simp) hc
              have : f i = false := by simpa [hil] using hag
              rw [this] at hc
              exact ⟨b, off, e, hc⟩
            clear hag
            by_cases hil : i < len
            · obtain ⟨b, off, rfl, hc⟩ := hag2 hil
              go_wp2_with fail
              clear hc
              by_cases hlast : i + 1 = k
              · have hrt : r = true := by rw [← HR.out]; simp; have := HQ.out; omega
                subst hrt
                refine (c85 w2.heap.size 64 (.func g #[] caps) true true _ HO.out).mono ?_
                rintro e w5 ⟨rfl, rfl⟩
                go_wp2_with fail
                refine (c85 (w2.heap.size + 1) 64 (.func g #[] caps) false false _ HC.out).mono ?_
                rintro e w5 ⟨rfl, rfl⟩
                go_wp2_with fail
                refine (c85 w2.heap.size 64 (.func g #[] caps) true true _ HO.out).mono ?_
                rintro e w5 ⟨rfl, rfl⟩
                have hib : ((i : Int) == (k : Int) - 1) = true := by simp; omega
                go_wp2_with fail
                go_roundw
                case rel => exact ⟨i + 1, 1, by go_num, by go_num, by omega, fun h => by omega, fun _ => rfl, by have := HI.out; rwa [show q + -1 = (k : Int) - ((i + 1 : Nat) : Int) by have := HQ.out; omega] at this⟩
                case measure => simp [intOf]; omega
              · have hrt : r = false := by rw [← HR.out]; simp; have := HQ.out; omega
                subst hrt
                refine (c85 w2.heap.size 64 (.func g #[] caps) true false _ HO.out).mono ?_
                rintro e w5 ⟨rfl, rfl⟩
                go_wp2_with fail
                refine (c85 (w2.heap.size + 1) 64 (.func g #[] caps) false false _ HC.out).mono ?_
                rintro e w5 ⟨rfl, rfl⟩
                go_wp2_with fail
                refine (c85 w2.heap.size 64 (.func g #[] caps) true false _ HO.out).mono ?_
                rintro e w5 ⟨rfl, rfl⟩
                have hib : ((i : Int) == (k : Int) - 1) = false := by simp; omega
                go_wp2_with fail
                go_roundw
                case rel => exact ⟨i + 1, 0, by go_num, by go_num, by omega, fun _ => rfl, fun h => by omega, by have := HI.out; rwa [show q + -1 = (k : Int) - ((i + 1 : Nat) : Int) by have := HQ.out; omega] at this⟩
                case measure => simp [intOf]; omega
            · clear hag2
              go_wp2_with fail
              by_cases hlast : i + 1 = k
              · have hrt : r = true := by rw [← HR.out]; simp; have := HQ.out; omega
                subst hrt
                refine (c85 w2.heap.size 64 (.func g #[] caps) true true _ HO.out).mono ?_
                rintro e w5 ⟨rfl, rfl⟩
                go_wp2_with fail
                refine (c85 (w2.heap.size + 1) 64 (.func g #[] caps) false false _ HC.out).mono ?_
                rintro e w5 ⟨rfl, rfl⟩
                go_wp2_with fail
                refine (c85 w2.heap.size 64 (.func g #[] caps) true true _ HO.out).mono ?_
                rintro e w5 ⟨rfl, rfl⟩
                have hib : ((i : Int) == (k : Int) - 1) = true := by simp; omega
                go_wp2_with fail
                go_roundw
                case rel => exact ⟨i + 1, 1, by go_num, by go_num, by omega, fun h => by omega, fun _ => rfl, by have := HI.out; rwa [show q + -1 = (k : Int) - ((i + 1 : Nat) : Int) by have := HQ.out; omega] at this⟩
                case measure => simp [intOf]; omega
              · have hrt : r = false := by rw [← HR.out]; simp; have := HQ.out; omega
                subst hrt
                refine (c85 w2.heap.size 64 (.func g #[] caps) true false _ HO.out).mono ?_
                rintro e w5 ⟨rfl, rfl⟩
                go_wp2_with fail
                refine (c85 (w2.heap.size + 1) 64 (.func g #[] caps) false false _ HC.out).mono ?_
                rintro e w5 ⟨rfl, rfl⟩
                go_wp2_with fail
                refine (c85 w2.heap.size 64 (.func g #[] caps) true false _ HO.out).mono ?_
                rintro e w5 ⟨rfl, rfl⟩
                have hib : ((i : Int) == (k : Int) - 1) = false := by simp; omega
                go_wp2_with fail
                go_roundw
                case rel => exact ⟨i + 1, 0, by go_num, by go_num, by omega, fun _ => rfl, fun h => by omega, by have := HI.out; rwa [show q + -1 = (k : Int) - ((i + 1 : Nat) : Int) by have := HQ.out; omega] at this⟩
                case measure => simp [intOf]; omega
        · obtain rfl : i = k := by omega
          obtain rfl : u = 1 := HU1.out rfl
          clear hu0 HU1
          rw [show (i : Int) - i = 0 by omega] at HI
          have hcP := cells_of HI.out.plan
          go_wp2_with fail
          refine (c42p B D 0 0 _ HI.out.bank).mono ?_
          rintro e w4 ⟨rfl, rfl⟩
          go_wp2_with fail
          refine (awake13 _).mono ?_
          rintro e w5 ⟨rfl, hk5⟩
          go_wp2_with fail
          go_ret
          exact ⟨rfl, HI.out.kept.trans hk5⟩
end Go.Proofs.Ytklkopoelhndoaa
