/- FlagsElse returns true, whatever comes in. -/
import Derived.Test.YtklkopoelhndoaaFlags5
import Derived.Test.YtklkopoelhndoaaInts
import Derived.Test.YtklkopoelhndoaaAwake12
import Derived.BigQuiet
namespace Go.Proofs.Ytklkopoelhndoaa
open Go.RowKit Go.ChangeShapes Go.WideShapes
set_option linter.unusedVariables false
theorem openInts42 {H : Type} {enc : TypeId × Value → H} {W : World} {a : Option Addr} {len cap : Nat} {d : DataW H} {p : List MemPlace}
    (h : DataW.Trod enc Try.prog W 0 (fun _ => true) true 75 (.slice a len cap) d p) : ∃ f, Ints .i64 W a len cap f := openInts Try.underlying75 Try.underlying2 (by kernel_rfl) h
structure ElseInv (l : Lay) (n N B D P : Nat) (w wr : World) (m : List Int) : Prop where
  len : m.length = N
  down : Down l n m
  bank : BankAt wr B D m
  kept : Kept [] w wr
  plan : wr.heap[P]? = some (.cells l.cells 25 (0, 0))
theorem down_st {l : Lay} {n : Nat} {m : List Int} {i v : Int} (h : Down l n m) (hi : i < l.flag ∨ l.flag + n ≤ i) : Down l n (st m i v) := by
  intro j hj
  rw [ld_st_other (by omega)]
  exact h j hj
set_option maxHeartbeats 4000000 in
set_option maxRecDepth 100000 in
theorem felse_main (x y : Int) (hx0 : 0 ≤ x) (hx1 : x ≤ 255) (hy0 : 0 ≤ y) (hy1 : y ≤ 255) (a : Option Addr) (len cap : Nat) (f : Nat → Int) (w : World) (h : Ints .i64 w a len cap f) :
    Calls Try.prog 11 #[.int .u8 x, .int .u8 y, .slice a len cap] w fun e w' => e = .returned (.bool true) ∧ Kept [] w w' := by
  obtain ⟨hlc, hcm, _, hf⟩ := h
  unfold maxLen at hcm
  have HF := hid hf
  obtain ⟨n, hn⟩ : ∃ n : Nat, 1 + x % 30 = (n : Int) := ⟨(1 + x % 30).toNat, by omega⟩
  have hn0 : 1 ≤ (n : Int) := by omega
  have hn1 : (n : Int) ≤ 30 := by omega
  have hnz : ¬ (n : Int) = 0 := by omega
  have hnn : ¬ n = 0 := by omega
  have HL := hid (lay12 (n := n) (by omega) (by omega))
  have G := hid (c59 (n : Int) w (by omega) (by omega))
  obtain ⟨l, hl⟩ : ∃ l, planOf (n : Int) 3 2 = l := ⟨_, rfl⟩
  rw [hl] at HL G
  clear hl
  obtain ⟨v, hv⟩ : ∃ v : Int, y % (n : Int) = v := ⟨_, rfl⟩
  have hv0 : 0 ≤ v := by rw [← hv]; exact Int.emod_nonneg y hnz
  have hv1 : v < (n : Int) := by rw [← hv]; exact Int.emod_lt_of_pos y (by omega)
  have hv2 : y.tmod (n : Int) = v := by rw [Int.tmod_eq_emod_of_nonneg hy0]; exact hv
  have hf0 := HL.out.f0
  have hf1 := HL.out.f1
  clear hf
  go_enter Try.func11, Try.ntmps11
  go_wp2_with fail
  refine G.out.mono ?_
  clear G
  rintro e w1 ⟨B, D, rfl, hB, hD, hk1, hb1⟩
  have HDW := hid (And.intro hB hD)
  have HB1 := hid hb1
  have HK1 := hid hk1
  clear hb1 hk1 hD hB
  go_wp2_with fail
  obtain ⟨N, hN⟩ : ∃ N, l.size.toNat = N := ⟨_, rfl⟩
  have HNE : Hid ((N : Int) = l.size) := hid (by have := HL.out.s0; omega)
  have hne1 : l.size ≤ (N : Int) := by have := HNE.out; omega
  have hne2 : (N : Int) ≤ l.size := by have := HNE.out; omega
  have hN5 : N ≤ 524288 := by have := HL.out.s1; have := HNE.out; omega
  rw [hN] at HB1
  have k2 : Kept [] w1 (w1.alloc (.cells l.cells 25)) := (Kept.refl _ _).alloc _
  have HPD : Hid (w1.heap.size ≠ D) := hid (fun e => by have := HB1.out.ltD; omega)
  have HI0 : Hid (ElseInv l n N B D w1.heap.size w (w1.alloc (.cells l.cells 25)) (List.replicate N 0)) :=
    hid ⟨by simp, fun j _ => ld_zeros _ _, HB1.out.keep k2 (by simp) (by simp), HK1.out.trans k2, new_alloc _ _⟩
  clear k2 HB1 HK1 hN
  go_loopw [36] (fun s wr => ∃ (i : Nat) (m : List Int), s = .int .i64 i ∧ i ≤ N ∧ ElseInv l n N B D w1.heap.size w wr m) (fun s _ => N - (intOf s).toNat)
  case atStart => exact ⟨0, _, rfl, by omega, HI0.out⟩
  case round =>
    obtain ⟨i, m, rfl, hi, hinv⟩ := hrel
    have HI := hid hinv
    clear hinv HI0
    have hcP := cells_of HI.out.plan
    by_cases hlt : i < N
    · by_cases hlo : ((i : Int) < l.flag ∨ l.flag + (n : Int) ≤ (i : Int)) ∧ i < len
      · obtain ⟨hlo, hil⟩ := hlo
        have HLO := hid hlo
        obtain ⟨hwf, b, off, rfl, hb, hc⟩ := HF.out i hil
        have hc := HI.out.kept.cellx hb (by simp) hc
        obtain ⟨u, hu⟩ : ∃ u, u = f i := ⟨_, rfl⟩
        rw [← hu] at hc
        clear hu hwf
        rcases hlo with hlo | hlo
        all_goals
          as_aux_lemma =>
            go_wp2_with fail
            refine (c43 B D m i u _ HI.out.bank).mono ?_
            rintro e w2 ⟨rfl, hk2, hb2⟩
            have HI2 : Hid (ElseInv l n N B D w1.heap.size w w2 (st m i u)) := hid ⟨by rw [st_length]; exact HI.out.len, down_st HI.out.down HLO.out, hb2, HI.out.kept.drop hk2 (fun z hz => .inr (by simp at hz; have := HDW.out.2; omega)), hk2.get HI.out.plan (by simpa using HPD.out)⟩
            clear hk2 hb2
            go_wp2_with fail
            go_roundw
            case rel => exact ⟨i + 1, _, by go_num, by omega, HI2.out⟩
            case measure => simp [intOf]; omega
      · have hcase : (¬ (i : Int) < l.flag ∧ (i : Int) < l.flag + (n : Int)) ∨ ((i : Int) < l.flag ∧ ¬ i < len) ∨ (¬ (i : Int) < l.flag ∧ l.flag + (n : Int) ≤ i ∧ ¬ i < len) := by
          by_cases h1 : (i : Int) < l.flag
          · exact .inr (.inl ⟨h1, fun h => hlo ⟨.inl h1, h⟩⟩)
          · by_cases h2 : l.flag + (n : Int) ≤ i
            · exact .inr (.inr ⟨h1, h2, fun h => hlo ⟨.inr h2, h⟩⟩)
            · exact .inl ⟨h1, by omega⟩
        clear hlo
        rcases hcase with ⟨h1, h2⟩ | ⟨h1, h2⟩ | ⟨h1, h2, h3⟩
        all_goals
          as_aux_lemma =>
            go_wp2_with fail
            go_roundw
            case rel => exact ⟨i + 1, _, by go_num, by omega, HI.out⟩
            case measure => simp [intOf]; omega
    · obtain rfl : i = N := by omega
      clear hlt hi
      have HLEN := hid HI.out.len
      have HDN := hid HI.out.down
      have HB := hid HI.out.bank
      have HK := hid HI.out.kept
      have HP := hid HI.out.plan
      have HFN : Hid (l.flag + v < (m.length : Int)) := hid (by rw [HLEN.out]; have := HL.out.fs; have := HNE.out; omega)
      clear HI
      go_wp2_with fail
      refine (c48n B D i _ _ HLEN.out HB.out).mono ?_
      rintro e w2 ⟨O, rfl, hO, hk, hr⟩
      have HR := hid hr
      have HOD : Hid (O ≠ D) := hid (fun e => by have := HB.out.ltD; omega)
      have HB := hid (HB.out.keep hk (by simp) (by simp))
      have HP := hid (hk.get HP.out (by simp))
      have HK := hid (HK.out.trans hk)
      have hcP := cells_of HP.out
      clear hr hk hO
      go_wp2_with fail
      refine (c91 l v _ HL.out.f0 HL.out.f1 (by omega) (by omega)).mono ?_
      rintro e w3 ⟨rfl, hk⟩
      have HR := hid (HR.out.keep hk (by simp))
      have HB := hid (HB.out.keep hk (by simp) (by simp))
      have HP := hid (hk.get HP.out (by simp))
      have HK := hid (HK.out.trans hk)
      clear hk hcP
      obtain ⟨cell, hcell⟩ : ∃ c : Int, l.flag + v = c := ⟨_, rfl⟩
      have HCE := hid hcell
      have hh : hits m cell 0 = true := by
        refine hits_yes ?_ ?_
        · rw [← HCE.out]; exact decide_eq_true ⟨by omega, HFN.out⟩
        · have := HDN.out v.toNat (by omega)
          rw [← HCE.out]
          rwa [Int.toNat_of_nonneg hv0] at this
      have HH := hid hh
      have hz : ld m cell = 0 := by
        have := HDN.out v.toNat (by omega)
        rw [← HCE.out]
        rwa [Int.toNat_of_nonneg hv0] at this
      have HZ := hid hz
      have HCI : Hid (0 ≤ cell ∧ cell < (m.length : Int)) := hid (by rw [← HCE.out]; exact ⟨by omega, HFN.out⟩)
      clear hh hz
      rw [hcell]
      go_wp2_with fail
      have k1 : Kept [] w3 ((w3.alloc (.cells (claimCells cell false false) 81)).alloc (.cells (claimCells cell false false) 81)) := ((Kept.refl _ _).alloc _).alloc _
      have HN : Hid (w3.heap.size ≠ B ∧ w3.heap.size ≠ D ∧ w3.heap.size + 1 ≠ B ∧ w3.heap.size + 1 ≠ D ∧ w1.heap.size ≠ w3.heap.size ∧ w1.heap.size ≠ w3.heap.size + 1 ∧ O ≠ w3.heap.size ∧ O ≠ w3.heap.size + 1 ∧ w.heap.size ≤ w3.heap.size ∧ w.heap.size ≤ w3.heap.size + 1 ∧ w.heap.size ≤ D ∧ w1.heap.size ≠ D ∧ O ≠ D) :=
        hid ⟨fun e => by have := HB.out.ltB; omega, fun e => by have := HB.out.ltD; omega, fun e => by have := HB.out.ltB; omega, fun e => by have := HB.out.ltD; omega, fun e => by have := lt_of_heap HP.out; omega, fun e => by have := lt_of_heap HP.out; omega,
          fun e => by have := HR.out.lt; omega, fun e => by have := HR.out.lt; omega, HK.out.size, by have := HK.out.size; omega, HDW.out.2, HPD.out, HOD.out⟩
      have HC1 : Hid (ClaimAt ((w3.alloc (.cells (claimCells cell false false) 81)).alloc (.cells (claimCells cell false false) 81)) w3.heap.size cell false false) := hid (old_alloc (new_alloc _ _) _)
      have HC2 : Hid (ClaimAt ((w3.alloc (.cells (claimCells cell false false) 81)).alloc (.cells (claimCells cell false false) 81)) (w3.heap.size + 1) cell false false) := hid (new_alloc2 _ _ _)
      have HR := hid (HR.out.keep k1 (by simp))
      have HB := hid (HB.out.keep k1 (by simp) (by simp))
      have HP := hid (k1.get HP.out (by simp))
      have HK := hid (HK.out.trans k1)
      clear k1
      refine (c93_yes w3.heap.size B D m cell _ HC1.out HB.out HN.out.1 HN.out.2.1 HH.out).mono ?_
      rintro e w4 ⟨rfl, hk, hc1, hb⟩
      have HC1 := hid hc1
      have HC2 := hid (hk.get HC2.out (nin2 (by omega) HN.out.2.2.2.1))
      have HR := hid (HR.out.keep hk (nin2 HN.out.2.2.2.2.2.2.1 HN.out.2.2.2.2.2.2.2.2.2.2.2.2))
      have HB := hid hb
      have HP := hid (hk.get HP.out (nin2 HN.out.2.2.2.2.1 HN.out.2.2.2.2.2.2.2.2.2.2.2.1))
      have HK := hid (HK.out.drop hk (in2 HN.out.2.2.2.2.2.2.2.2.1 HN.out.2.2.2.2.2.2.2.2.2.2.1))
      clear hk hc1 hb
      go_wp2_with fail
      refine (c92 _ cell true true w4 HC1.out).mono ?_
      rintro e _ ⟨rfl, rfl⟩
      go_wp2_with fail
      refine (c92 _ cell false false w4 HC2.out).mono ?_
      rintro e _ ⟨rfl, rfl⟩
      go_wp2_with fail
      have hno : hits (st m cell 1) cell 0 = false := hits_no (.inr (by rw [ld_st_same HCI.out.1 HCI.out.2]; decide))
      have HNO := hid hno
      clear hno
      refine (c93_no (w3.heap.size + 1) B D (st m cell 1) cell w4 HC2.out HB.out HN.out.2.2.1 HN.out.2.2.2.1 HNO.out).mono ?_
      rintro e w5 ⟨rfl, hk, hc2, hb⟩
      have HC2 := hid hc2
      have HC1 := hid (hk.get HC1.out (nin2 (by omega) HN.out.2.1))
      have HR := hid (HR.out.keep hk (nin2 HN.out.2.2.2.2.2.2.2.1 HN.out.2.2.2.2.2.2.2.2.2.2.2.2))
      have HB := hid hb
      have hp := hk.get HP.out (nin2 HN.out.2.2.2.2.2.1 HN.out.2.2.2.2.2.2.2.2.2.2.2.1)
      have hcP := cells_of hp
      have HP := hid hp
      have HK := hid (HK.out.drop hk (in2 HN.out.2.2.2.2.2.2.2.2.2.1 HN.out.2.2.2.2.2.2.2.2.2.2.1))
      clear hk hc2 hb hp HNO
      go_wp2_with fail
      refine (c92 _ cell true false w5 HC2.out).mono ?_
      rintro e _ ⟨rfl, rfl⟩
      go_wp2_with fail
      try rw [hcell]
      refine (c43 B D (st m cell 1) cell 0 w5 HB.out).mono ?_
      rw [st_back HCI.out.1 HCI.out.2 HZ.out]
      rintro e w6 ⟨rfl, hk, hb⟩
      have HC1 := hid (hk.get HC1.out (nin1 HN.out.2.1))
      have HR := hid (HR.out.keep hk (nin1 HN.out.2.2.2.2.2.2.2.2.2.2.2.2))
      have HB := hid hb
      have HP := hid (hk.get HP.out (nin1 HN.out.2.2.2.2.2.2.2.2.2.2.2.1))
      have HK := hid (HK.out.drop hk (in1 HN.out.2.2.2.2.2.2.2.2.2.2.1))
      clear hk hb hcP
      go_wp2_with fail
      refine (c93_done w3.heap.size B D m cell true w6 HC1.out HB.out HN.out.1 HN.out.2.1).mono ?_
      rintro e w7 ⟨rfl, hk, hc1, hb⟩
      have HC1 := hid hc1
      have HR := hid (HR.out.keep hk (nin2 HN.out.2.2.2.2.2.2.1 HN.out.2.2.2.2.2.2.2.2.2.2.2.2))
      have HB := hid hb
      have hp := hk.get HP.out (nin2 HN.out.2.2.2.2.1 HN.out.2.2.2.2.2.2.2.2.2.2.2.1)
      have hcP := cells_of hp
      have HP := hid hp
      have HK := hid (HK.out.drop hk (in2 HN.out.2.2.2.2.2.2.2.2.1 HN.out.2.2.2.2.2.2.2.2.2.2.1))
      clear hk hc1 hb hp
      go_wp2_with fail
      refine (c92 _ cell true true w7 HC1.out).mono ?_
      rintro e _ ⟨rfl, rfl⟩
      go_wp2_with fail
      try rw [hcell]
      refine (c42 B D m cell w7 HB.out).mono ?_
      rw [HZ.out]
      rintro e _ ⟨rfl, rfl⟩
      go_wp2_with fail
      refine (c48n B D i _ _ HLEN.out HB.out).mono ?_
      rintro e w8 ⟨O2, rfl, hO, hk, hr⟩
      have HR2 := hid hr
      have HR := hid (HR.out.keep hk (by simp))
      have HB := hid (HB.out.keep hk (by simp) (by simp))
      have HP := hid (hk.get HP.out (by simp))
      have HK := hid (HK.out.trans hk)
      clear hr hk hO HC1 hcP
      go_wp2_with fail
      go_loopw [115] (fun s wr2 => ∃ j : Nat, j ≤ i ∧ s = .int .i64 j ∧ Kept [] w8 wr2) (fun s _ => i - (intOf s).toNat)
      case atStart => exact ⟨0, by omega, rfl, Kept.refl _ _⟩
      case round =>
        obtain ⟨j, hj, rfl, hk7⟩ := hrel
        have HK7 := hid hk7
        clear hk7
        by_cases hlt2 : j < i
        · go_wp2_with fail
          refine wp_region_at (by as_aux_lemma => kernel_rfl) (by as_aux_lemma => kernel_rfl) (fun W hW => ?_)
          have kW : Kept [] w8 W := by rw [hW.out]; exact HK7.out
          have hRa := later_row (HR.out.keep kW (by simp)) j (by rw [HLEN.out]; exact hlt2)
          have hRb := later_row (HR2.out.keep kW (by simp)) j (by rw [HLEN.out]; exact hlt2)
          have hd1 : decide (i ≤ j) = false := decide_eq_false (by omega)
          have KW := hid kW
          clear kW
          repeat (go_big_quiet_step (fail))
          refine wpQuiet_nil ?_
          rintro _ ⟨⟨w9, hk9⟩, rfl⟩
          have K9 := hid (KW.out.trans hk9)
          clear hk9 hRa hRb
          go_wp2
          go_roundw
          case rel => exact ⟨j + 1, by omega, by go_num, K9.out⟩
          case measure => simp [intOf]; omega
        · obtain rfl : j = i := by omega
          have hcP := cells_of (HK7.out.get HP.out (by simp))
          go_wp2_with fail
          refine (c55 l B D m n _ (HB.out.keep HK7.out (by simp) (by simp)) HL.out.f0 HL.out.f1 HL.out.verts (by omega)).mono ?_
          rw [HDN.out.held]
          rintro e w9 ⟨vs, rfl, hk9, hs, _⟩
          obtain ⟨a', c', rfl⟩ := hs.len
          have HK9 := hid ((HK.out.trans HK7.out).trans hk9)
          clear hk9 hs hcP
          go_wp2_with fail
          refine (awake12 _).mono ?_
          rintro e w10 ⟨rfl, hk10⟩
          go_wp2_with fail
          go_ret
          exact ⟨rfl, HK9.out.trans hk10⟩
set_option maxHeartbeats 400000 in
theorem felse_all {w : World} (a0 a1 : Int) (a2 : Option Addr) (len cap : Nat) (f : Nat → Int) (w0 : (Lit.int .u8 a0).wf = true) (w1 : (Lit.int .u8 a1).wf = true) (w2 : Ints .i64 w a2 len cap f) :
    Calls Try.prog 11 #[.int .u8 a0, .int .u8 a1, .slice a2 len cap] w fun e w' => e = .returned (.bool true) ∧ Below w.heap.size w w' := by
  have hb := bounds_u8 w0
  have hb1 := bounds_u8 w1
  refine (felse_main a0 a1 (by omega) (by omega) (by omega) (by omega) a2 len cap f w w2).mono fun e w' ⟨h1, h2⟩ => ⟨h1, h2.below (Nat.le_refl _) (by simp)⟩
end Go.Proofs.Ytklkopoelhndoaa
