/- The chapter's examples of layer 11. -/
import Derived.Test.YtlbhckndejldcaaDNew0
import Derived.Test.YtlbhckndejldcaaCmp94
import Derived.Deep.Cut
namespace Go.Proofs.Ytlbhckndejldcaa
open Go.RowKit
set_option linter.unusedVariables false
set_option maxHeartbeats 16000000 in
set_option maxRecDepth 100000 in
theorem awake11 (w : World) : Calls Try.prog 34 #[] w fun e w' => e = .returned (.bool true) ∧ Kept [] w w' := by
  obtain ⟨l, hl⟩ : ∃ l, planOf 4 0 1 = l := ⟨_, rfl⟩
  have HL := hid hl
  have hm0 : May 4 0 1 := ⟨by omega, by omega, by omega, by omega, by omega, by omega⟩
  have i0 : InB l 0 (List.replicate l.size.toNat 0) := by rw [← hl]; exact inb_plan hm0 (by omega) (by omega) (by simp)
  have hroom : l.room = 4 := by rw [← hl]; rfl
  obtain ⟨m1, r1, q1, _⟩ := pop_none (Dq.zero i0)
  have r2 := steal_none q1
  obtain ⟨m2, r3, q3, _⟩ := push_room q1 7 (by rw [hroom]; simp) (by simp)
  obtain ⟨m3, r4, q4, _⟩ := push_room q3 8 (by rw [hroom]; simp) (by simp)
  obtain ⟨m4, r5, q5, _⟩ := steal_some q4
  obtain ⟨m5, r6, q6, _⟩ := pop_one q5
  have R1 := hid r1
  have R2 := hid r2
  have R3 := hid r3
  have R4 := hid r4
  have R5 := hid r5
  have R6 := hid r6
  have Q4 := hid q4
  have Q6 := hid q6
  clear r1 r2 r3 r4 r5 r6 q1 q3 q4 q5 q6 i0 hroom
  have G := hid (d103 4 1 l hl hm0 w)
  clear hl hm0
  go_enter Try.func34, Try.ntmps34
  go_wp2_with fail
  refine G.out.mono ?_
  clear G
  rintro e w1 ⟨B, D, rfl, hB, hD, hk1, hb1⟩
  have HBD := hid (And.intro hB hD)
  have HB := hid hb1
  have HK := hid hk1
  clear hb1 hk1 hB hD
  go_upto_region 4 with fail
  obtain ⟨wp, hwp⟩ : ∃ wp, w1.alloc (.cells l.cells 31) = wp := ⟨_, rfl⟩
  have HWP := hid hwp
  rw [hwp]
  clear hwp
  have hpc : ∀ W, Kept [] wp W → ∀ i, W.cell? ⟨w1.heap.size, i, none⟩ = l.cells[i]? := fun W h => cells_of (h.get (by rw [← HWP.out]; exact new_alloc _ _) (by simp))
  have HPC := hid hpc
  clear hpc
  refine region_first (by kernel_rfl) 6 2 deps11 [23, 24, 25, 26, 4, 5] (by decide) rfl rfl (by kernel_rfl) rfl (R11 l.val (.agg (ptCells l (pt0 0))) l.val (.agg (stealCells l (pt0 0) false)) zero21 zeroSt 59 53 wp.heap.size) (fun i => decide (4 ≤ i)) (R11_keep _ _ _ _ _ _ _ _ _) ?step ?tail
  case step =>
    intro i d hd v W hkW hdep K hK
    have HKs := hid hK
    have hsz := hkW.size
    rcases i with _ | _ | _ | _ | _ | _ | i
    · have hc := HPC.out W hkW
      simp only [List.getElem?_cons_zero, List.getElem?_cons_succ, Option.some.injEq] at hd
      subst hd
      clear hK hdep hkW hsz
      refine wpOp_step rfl (fun K' hK' => ?_)
      have HK' := hid hK'
      clear hK'
      simp only [FrF, Act.put, List.setIfInBounds_toArray, List.set_cons_zero, List.set_cons_succ]
      go_simp
      exact HK'.out _ _ (HKs.out l.val W (Kept.refl _ _) rfl (by simp))
    · have e : v 0 = l.val := hdep 0 (by simp [deps11])
      simp only [List.getElem?_cons_zero, List.getElem?_cons_succ, Option.some.injEq] at hd
      subst hd
      clear hK hdep hkW hsz
      refine wpOp_step rfl (fun K' hK' => ?_)
      have HK' := hid hK'
      clear hK'
      simp only [FrF, Act.put, List.setIfInBounds_toArray, List.set_cons_zero, List.set_cons_succ]
      go_simp
      refine (d69 l 0 _).mono ?_
      rintro e w' ⟨rfl, hk⟩
      have fin := HKs.out (.agg (ptCells l (pt0 0))) w' hk rfl (by simp)
      simp only [FrF, Act.put, List.setIfInBounds_toArray, List.set_cons_zero, List.set_cons_succ, e] at fin
      exact HK'.out _ _ fin
    · have hc := HPC.out W hkW
      simp only [List.getElem?_cons_zero, List.getElem?_cons_succ, Option.some.injEq] at hd
      subst hd
      clear hK hdep hkW hsz
      refine wpOp_step rfl (fun K' hK' => ?_)
      have HK' := hid hK'
      clear hK'
      simp only [FrF, Act.put, List.setIfInBounds_toArray, List.set_cons_zero, List.set_cons_succ]
      go_simp
      exact HK'.out _ _ (HKs.out l.val W (Kept.refl _ _) rfl (by simp))
    · have e : v 2 = l.val := hdep 2 (by simp [deps11])
      simp only [List.getElem?_cons_zero, List.getElem?_cons_succ, Option.some.injEq] at hd
      subst hd
      clear hK hdep hkW hsz
      refine wpOp_step rfl (fun K' hK' => ?_)
      have HK' := hid hK'
      clear hK'
      simp only [FrF, Act.put, List.setIfInBounds_toArray, List.set_cons_zero, List.set_cons_succ]
      go_simp
      refine (d66 l 0 _).mono ?_
      rintro e w' ⟨rfl, hk⟩
      have fin := HKs.out (.agg (stealCells l (pt0 0) false)) w' hk rfl (by simp)
      simp only [FrF, Act.put, List.setIfInBounds_toArray, List.set_cons_zero, List.set_cons_succ, e] at fin
      exact HK'.out _ _ fin
    · simp only [List.getElem?_cons_zero, List.getElem?_cons_succ, Option.some.injEq] at hd
      subst hd
      have HSZ := hid hsz
      clear hK hdep hkW hsz
      refine wpOp_step rfl (fun K' hK' => ?_)
      have HK' := hid hK'
      clear hK'
      simp only [FrF, Act.put, List.setIfInBounds_toArray, List.set_cons_zero, List.set_cons_succ]
      go_simp
      refine HK'.out _ _ (HKs.out (.pointer (some ⟨W.heap.size, 0, none⟩)) _ ((Kept.refl _ _).alloc _) ⟨_, rfl, HSZ.out, new_alloc W _⟩ (fun _ j y hj hy => ?_))
      obtain ⟨X, rfl, hX⟩ := R11_ge hy (by simpa using hj)
      intro he
      simp at he <;> omega
    · simp only [List.getElem?_cons_zero, List.getElem?_cons_succ, Option.some.injEq] at hd
      subst hd
      have HSZ := hid hsz
      clear hK hdep hkW hsz
      refine wpOp_step rfl (fun K' hK' => ?_)
      have HK' := hid hK'
      clear hK'
      simp only [FrF, Act.put, List.setIfInBounds_toArray, List.set_cons_zero, List.set_cons_succ]
      go_simp
      refine HK'.out _ _ (HKs.out (.pointer (some ⟨W.heap.size, 0, none⟩)) _ ((Kept.refl _ _).alloc _) ⟨_, rfl, HSZ.out, new_alloc W _⟩ (fun _ j y hj hy => ?_))
      obtain ⟨X, rfl, hX⟩ := R11_ge hy (by simpa using hj)
      intro he
      simp at he <;> omega
    · simp at hd
  case tail =>
    intro v W hkW hr hdist
    have e0 : v 0 = l.val := hr 0 (by omega)
    have e1 : v 1 = .agg (ptCells l (pt0 0)) := hr 1 (by omega)
    have e2 : v 2 = l.val := hr 2 (by omega)
    have e3 : v 3 = .agg (stealCells l (pt0 0) false) := hr 3 (by omega)
    obtain ⟨X, e4, hXs, hX⟩ := hr 4 (by omega)
    obtain ⟨Y, e5, hYs, hY⟩ := hr 5 (by omega)
    have hXY : X ≠ Y := fun h => hdist 4 5 (by omega) (by omega) rfl rfl (by omega) (by rw [e4, e5, h])
    have HKW := hid hkW
    have HXS := hid (And.intro hXs (And.intro hYs hXY))
    clear hr hdist hkW hXs hYs
    simp only [FrF, Act.put, List.setIfInBounds_toArray, List.set_cons_zero, List.set_cons_succ, e0, e1, e2, e3, e4, e5]
    clear e0 e1 e2 e3 e4 e5
    refine wpAny_one (i := 6) (by kernel_rfl) ?_
    refine wpOp_store_row rfl (by kernel_rfl) 59 _ _ rfl X (ptCells l (pt0 0)) zero21 59 rfl rfl hX rfl info102 (all_oneCell_toArray (by simp [Value.oneCell'])) ?_
    have HX1 := hid (store_row (cs := (ptCells l (pt0 0))) hX rfl)
    have k1 := setCells_kept X ((ptCells l (pt0 0))).toList 0 W
    have hY1 := k1.get hY (by simpa using Ne.symm HXS.out.2.2)
    have HK1 := hid k1
    clear k1 hX hY
    generalize W.setCells X 0 ((ptCells l (pt0 0))).toList = W1 at HX1 HK1 hY1 ⊢
    refine wpAny_one (i := 7) (by kernel_rfl) ?_
    refine wpOp_store_row rfl (by kernel_rfl) 53 _ _ rfl Y (stealCells l (pt0 0) false) zeroSt 53 rfl rfl hY1 rfl info97 (all_oneCell_toArray (by simp [Value.oneCell'])) ?_
    have HY2 := hid (store_row (cs := (stealCells l (pt0 0) false)) hY1 rfl)
    have k2 := setCells_kept Y ((stealCells l (pt0 0) false)).toList 0 W1
    have HX2 := hid (k2.get HX1.out (by simpa using HXS.out.2.2))
    have HK2 := hid k2
    clear k2 hY1 HX1
    generalize W1.setCells Y 0 ((stealCells l (pt0 0) false)).toList = W2 at HX2 HY2 HK2 ⊢
    refine wpAny_none (by kernel_rfl) ?_
    have hwp : wp.heap.size = w1.heap.size + 1 := by rw [← HWP.out]; simp
    have hB := HB.out.ltB
    have hD := HB.out.ltD
    obtain ⟨P, hP⟩ : ∃ P, w1.heap.size = P := ⟨_, rfl⟩
    have kw : Kept [] w1 wp := by rw [← HWP.out]; exact (Kept.refl _ _).alloc _
    have ka : Kept [X, Y] w1 W2 := ((kw.trans HKW.out).of_nil.trans (HK1.out.mono (by simp))).trans (HK2.out.mono (by simp))
    have HP : Hid (W2.heap[P]? = some (.cells l.cells 31 (0, 0))) := hid (by
      have h0 : wp.heap[P]? = some (.cells l.cells 31 (0, 0)) := by rw [← HWP.out, ← hP]; exact new_alloc _ _
      exact HK2.out.get (HK1.out.get (HKW.out.get h0 (by simp)) (nin1 (by have := HXS.out; omega))) (nin1 (by have := HXS.out; omega)))
    have hXS := HXS.out
    rw [hP] at hwp hB hD ⊢
    have nXB : X ≠ B := by omega
    have nXD : X ≠ D := by omega
    have nYB : Y ≠ B := by omega
    have nYD : Y ≠ D := by omega
    have nXP : X ≠ P := by omega
    have nYP : Y ≠ P := by omega
    have nPD : P ≠ D := by omega
    have hwD := HBD.out.2
    have hwX : w.heap.size ≤ X := by have := HK.out.size; omega
    have hwY : w.heap.size ≤ Y := by have := HK.out.size; omega
    have HBK := hid (HB.out.keep ka (nin2 (Ne.symm nXB) (Ne.symm nYB)) (nin2 (Ne.symm nXD) (Ne.symm nYD)))
    have HKK := hid (HK.out.drop ka (fun x hx => .inr (by simp at hx; omega)))
    have HX : Hid (PopAt W2 X l (pt0 0)) := hid HX2.out
    have HY : Hid (StealAt W2 Y l (pt0 0) false) := hid HY2.out
    clear HB HX2 HY2 HK1 HK2 HKW ka hXS hwp kw HXS HK HPC HWP
    go_wp2_with fail
    refine (ends_pop X B D l (pt0 0) _ _ _ HX.out HBK.out ⟨nXB, nXD⟩ R1.out.1 R1.out.2).mono ?_
    rintro e w9 ⟨rfl, hk9, hx9, hb9⟩
    have HBK := hid hb9
    have HKK := hid (HKK.out.drop hk9 (fun x hx => .inr (by simp at hx; omega)))
    have HP := hid (hk9.get HP.out (nin2 (Ne.symm nXP) nPD))
    have HY : Hid (StealAt w9 Y l (pt0 0) false) := hid (hk9.get HY.out (nin2 (by omega) nYD))
    have HX := hid hx9
    clear hk9 hx9 hb9
    go_wp2_with fail
    refine (ends_steal Y B D l (pt0 0) false _ _ _ HY.out HBK.out ⟨nYB, nYD⟩ R2.out.1 R2.out.2).mono ?_
    rintro e w9 ⟨rfl, hk9, hx9, hb9⟩
    have HBK := hid hb9
    have HKK := hid (HKK.out.drop hk9 (fun x hx => .inr (by simp at hx; omega)))
    have HP := hid (hk9.get HP.out (nin2 (Ne.symm nYP) nPD))
    have HX : Hid (PopAt w9 X l _) := hid (hk9.get HX.out (nin2 (by omega) nXD))
    have HY := hid hx9
    clear hk9 hx9 hb9
    go_wp2_with fail
    refine (d71 X 59 _ l _ _ HX.out (DC.pop l _)).mono ?_
    rintro e w10 ⟨rfl, rfl⟩
    go_wp2_with fail
    refine (d68 Y 53 _ l _ _ HY.out (DC.steal l _ _)).mono ?_
    rintro e w10 ⟨rfl, rfl⟩
    go_upto_region 9 with fail
    have HPC : Hid (∀ W, Kept [] w9 W → ∀ i, W.cell? ⟨P, i, none⟩ = l.cells[i]?) := hid (fun W h => cells_of (h.get HP.out (by simp)))
    obtain ⟨wq, hwq⟩ : ∃ wq, w9 = wq := ⟨_, rfl⟩
    subst hwq
    refine region_first (by kernel_rfl) 6 2 deps11 [45, 46, 47, 48, 10, 11] (by decide) rfl rfl (by kernel_rfl) rfl (R11 l.val (.agg (pushCells l (pt0 0) 7)) l.val (.agg (pushCells l (pt0 0) 8)) zeroPu zeroPu 79 79 w9.heap.size) (fun i => decide (4 ≤ i)) (R11_keep _ _ _ _ _ _ _ _ _) ?step ?tail
    case step =>
      intro i d hd v W hkW hdep K hK
      have HKs := hid hK
      have hsz := hkW.size
      rcases i with _ | _ | _ | _ | _ | _ | i
      · have hc := HPC.out W hkW
        simp only [List.getElem?_cons_zero, List.getElem?_cons_succ, Option.some.injEq] at hd
        subst hd
        clear hK hdep hkW hsz
        refine wpOp_step rfl (fun K' hK' => ?_)
        have HK' := hid hK'
        clear hK'
        simp only [FrF, Act.put, List.setIfInBounds_toArray, List.set_cons_zero, List.set_cons_succ]
        go_simp
        exact HK'.out _ _ (HKs.out l.val W (Kept.refl _ _) rfl (by simp))
      · have e : v 0 = l.val := hdep 0 (by simp [deps11])
        simp only [List.getElem?_cons_zero, List.getElem?_cons_succ, Option.some.injEq] at hd
        subst hd
        clear hK hdep hkW hsz
        refine wpOp_step rfl (fun K' hK' => ?_)
        have HK' := hid hK'
        clear hK'
        simp only [FrF, Act.put, List.setIfInBounds_toArray, List.set_cons_zero, List.set_cons_succ]
        go_simp
        refine (d105 l 0 7 _).mono ?_
        rintro e w' ⟨rfl, hk⟩
        have fin := HKs.out (.agg (pushCells l (pt0 0) 7)) w' hk rfl (by simp)
        simp only [FrF, Act.put, List.setIfInBounds_toArray, List.set_cons_zero, List.set_cons_succ, e] at fin
        exact HK'.out _ _ fin
      · have hc := HPC.out W hkW
        simp only [List.getElem?_cons_zero, List.getElem?_cons_succ, Option.some.injEq] at hd
        subst hd
        clear hK hdep hkW hsz
        refine wpOp_step rfl (fun K' hK' => ?_)
        have HK' := hid hK'
        clear hK'
        simp only [FrF, Act.put, List.setIfInBounds_toArray, List.set_cons_zero, List.set_cons_succ]
        go_simp
        exact HK'.out _ _ (HKs.out l.val W (Kept.refl _ _) rfl (by simp))
      · have e : v 2 = l.val := hdep 2 (by simp [deps11])
        simp only [List.getElem?_cons_zero, List.getElem?_cons_succ, Option.some.injEq] at hd
        subst hd
        clear hK hdep hkW hsz
        refine wpOp_step rfl (fun K' hK' => ?_)
        have HK' := hid hK'
        clear hK'
        simp only [FrF, Act.put, List.setIfInBounds_toArray, List.set_cons_zero, List.set_cons_succ]
        go_simp
        refine (d105 l 0 8 _).mono ?_
        rintro e w' ⟨rfl, hk⟩
        have fin := HKs.out (.agg (pushCells l (pt0 0) 8)) w' hk rfl (by simp)
        simp only [FrF, Act.put, List.setIfInBounds_toArray, List.set_cons_zero, List.set_cons_succ, e] at fin
        exact HK'.out _ _ fin
      · simp only [List.getElem?_cons_zero, List.getElem?_cons_succ, Option.some.injEq] at hd
        subst hd
        have HSZ := hid hsz
        clear hK hdep hkW hsz
        refine wpOp_step rfl (fun K' hK' => ?_)
        have HK' := hid hK'
        clear hK'
        simp only [FrF, Act.put, List.setIfInBounds_toArray, List.set_cons_zero, List.set_cons_succ]
        go_simp
        refine HK'.out _ _ (HKs.out (.pointer (some ⟨W.heap.size, 0, none⟩)) _ ((Kept.refl _ _).alloc _) ⟨_, rfl, HSZ.out, new_alloc W _⟩ (fun _ j y hj hy => ?_))
        obtain ⟨X, rfl, hX⟩ := R11_ge hy (by simpa using hj)
        intro he
        simp at he <;> omega
      · simp only [List.getElem?_cons_zero, List.getElem?_cons_succ, Option.some.injEq] at hd
        subst hd
        have HSZ := hid hsz
        clear hK hdep hkW hsz
        refine wpOp_step rfl (fun K' hK' => ?_)
        have HK' := hid hK'
        clear hK'
        simp only [FrF, Act.put, List.setIfInBounds_toArray, List.set_cons_zero, List.set_cons_succ]
        go_simp
        refine HK'.out _ _ (HKs.out (.pointer (some ⟨W.heap.size, 0, none⟩)) _ ((Kept.refl _ _).alloc _) ⟨_, rfl, HSZ.out, new_alloc W _⟩ (fun _ j y hj hy => ?_))
        obtain ⟨X, rfl, hX⟩ := R11_ge hy (by simpa using hj)
        intro he
        simp at he <;> omega
      · simp at hd
    case tail =>
      intro v W hkW hr hdist
      have e0 : v 0 = l.val := hr 0 (by omega)
      have e1 : v 1 = .agg (pushCells l (pt0 0) 7) := hr 1 (by omega)
      have e2 : v 2 = l.val := hr 2 (by omega)
      have e3 : v 3 = .agg (pushCells l (pt0 0) 8) := hr 3 (by omega)
      obtain ⟨U, e4, hXs, hX⟩ := hr 4 (by omega)
      obtain ⟨V, e5, hYs, hY⟩ := hr 5 (by omega)
      have hUV : U ≠ V := fun h => hdist 4 5 (by omega) (by omega) rfl rfl (by omega) (by rw [e4, e5, h])
      have HKW := hid hkW
      have HXS := hid (And.intro hXs (And.intro hYs hUV))
      clear hr hdist hkW hXs hYs
      simp only [FrF, Act.put, List.setIfInBounds_toArray, List.set_cons_zero, List.set_cons_succ, e0, e1, e2, e3, e4, e5]
      clear e0 e1 e2 e3 e4 e5
      refine wpAny_one (i := 6) (by kernel_rfl) ?_
      refine wpOp_store_row rfl (by kernel_rfl) 79 _ _ rfl U (pushCells l (pt0 0) 7) zeroPu 79 rfl rfl hX rfl info171 (all_oneCell_toArray (by simp [Value.oneCell'])) ?_
      have HU1 := hid (store_row (cs := (pushCells l (pt0 0) 7)) hX rfl)
      have k1 := setCells_kept U ((pushCells l (pt0 0) 7)).toList 0 W
      have hV1 := k1.get hY (by simpa using Ne.symm HXS.out.2.2)
      have HK1 := hid k1
      clear k1 hX hY
      generalize W.setCells U 0 ((pushCells l (pt0 0) 7)).toList = W1 at HU1 HK1 hV1 ⊢
      refine wpAny_one (i := 7) (by kernel_rfl) ?_
      refine wpOp_store_row rfl (by kernel_rfl) 79 _ _ rfl V (pushCells l (pt0 0) 8) zeroPu 79 rfl rfl hV1 rfl info171 (all_oneCell_toArray (by simp [Value.oneCell'])) ?_
      have HV2 := hid (store_row (cs := (pushCells l (pt0 0) 8)) hV1 rfl)
      have k2 := setCells_kept V ((pushCells l (pt0 0) 8)).toList 0 W1
      have HU2 := hid (k2.get HU1.out (by simpa using HXS.out.2.2))
      have HK2 := hid k2
      clear k2 hV1 HU1
      generalize W1.setCells V 0 ((pushCells l (pt0 0) 8)).toList = W2 at HU2 HV2 HK2 ⊢
      refine wpAny_none (by kernel_rfl) ?_
      have hU := HXS.out
      have nUP : U ≠ P := by have := lt_of_heap HP.out; omega
      have nVP : V ≠ P := by have := lt_of_heap HP.out; omega
      have nUX : U ≠ X := by have := lt_of_heap HX.out; omega
      have nVX : V ≠ X := by have := lt_of_heap HX.out; omega
      have nUY : U ≠ Y := by have := lt_of_heap HY.out; omega
      have nVY : V ≠ Y := by have := lt_of_heap HY.out; omega
      have nUB : U ≠ B := by have := HBK.out.ltB; omega
      have nVB : V ≠ B := by have := HBK.out.ltB; omega
      have nUD : U ≠ D := by have := HBK.out.ltD; omega
      have nVD : V ≠ D := by have := HBK.out.ltD; omega
      have hwU : w.heap.size ≤ U := by have := HKK.out.size; omega
      have hwV : w.heap.size ≤ V := by have := HKK.out.size; omega
      have ka : Kept [U, V] w9 W2 := (HKW.out.of_nil.trans (HK1.out.mono (by simp))).trans (HK2.out.mono (by simp))
      have HBK := hid (HBK.out.keep ka (nin2 (Ne.symm nUB) (Ne.symm nVB)) (nin2 (Ne.symm nUD) (Ne.symm nVD)))
      have HKK := hid (HKK.out.drop ka (fun x hx => .inr (by simp at hx; omega)))
      have HP := hid (ka.get HP.out (nin2 (Ne.symm nUP) (Ne.symm nVP)))
      have HX : Hid (PopAt W2 X l _) := hid (ka.get HX.out (nin2 (Ne.symm nUX) (Ne.symm nVX)))
      have HY : Hid (StealAt W2 Y l _ _) := hid (ka.get HY.out (nin2 (Ne.symm nUY) (Ne.symm nVY)))
      have HU : Hid (PushAt W2 U l (pt0 0) 7) := hid HU2.out
      have HV : Hid (PushAt W2 V l (pt0 0) 8) := hid HV2.out
      clear hU ka HU2 HV2 HK1 HK2 HKW HXS HPC
      go_wp2_with fail
      refine (ends_push U B D l 7 (pt0 0) _ _ _ HU.out HBK.out ⟨nUB, nUD⟩ R3.out.1 R3.out.2).mono ?_
      rintro e w12 ⟨rfl, hk9, hx9, hb9⟩
      have HBK := hid hb9
      have HKK := hid (HKK.out.drop hk9 (fun x hx => .inr (by simp at hx; omega)))
      have HP := hid (hk9.get HP.out (nin2 (Ne.symm nUP) nPD))
      have HX : Hid (PopAt w12 X l _) := hid (hk9.get HX.out (nin2 (by omega) nXD))
      have HY : Hid (StealAt w12 Y l _ _) := hid (hk9.get HY.out (nin2 (by omega) nYD))
      have HV : Hid (PushAt w12 V l _ _) := hid (hk9.get HV.out (nin2 (by omega) nVD))
      have HU := hid hx9
      clear hk9 hx9 hb9
      go_wp2_with fail
      refine (ends_push V B D l 8 (pt0 0) _ _ _ HV.out HBK.out ⟨nVB, nVD⟩ R4.out.1 R4.out.2).mono ?_
      rintro e w12 ⟨rfl, hk9, hx9, hb9⟩
      have HBK := hid hb9
      have HKK := hid (HKK.out.drop hk9 (fun x hx => .inr (by simp at hx; omega)))
      have HP := hid (hk9.get HP.out (nin2 (Ne.symm nVP) nPD))
      have HX : Hid (PopAt w12 X l _) := hid (hk9.get HX.out (nin2 (by omega) nXD))
      have HY : Hid (StealAt w12 Y l _ _) := hid (hk9.get HY.out (nin2 (by omega) nYD))
      have HU : Hid (PushAt w12 U l _ _) := hid (hk9.get HU.out (nin2 (by omega) nUD))
      have HV := hid hx9
      clear hk9 hx9 hb9
      go_wp2_with fail
      refine (d109 U 79 _ l _ _ HU.out (DC.push l _ _)).mono ?_
      rintro e w13 ⟨rfl, rfl⟩
      go_wp2_with fail
      refine (d109 V 79 _ l _ _ HV.out (DC.push l _ _)).mono ?_
      rintro e w13 ⟨rfl, rfl⟩
      have hcP := cells_of HP.out
      go_wp2_with fail
      refine (d53 l 0 B D m3 _ Q4.out.inb.fit HBK.out (by rw [Q4.out.top]; omega) (by rw [Q4.out.top]; omega)).mono ?_
      rw [Q4.out.held]
      rintro e w13 ⟨v13, rfl, hk9, hs13, ho13⟩
      have HK9 := hid hk9
      have HS13 := hid (hs13.keep0 ((Kept.refl [] w13).alloc (.cells (i64s [7, 8]) 2)))
      have HN := hid (SliceIs.of_row (c := 2) (RowIn.of_i64s (new_alloc w13 (.cells (i64s [7, 8]) 2))))
      clear hk9 hs13 ho13 hcP
      go_wp2_with fail
      refine (c94 v13 _ [7, 8] [7, 8] _ HS13.out HN.out (by simp)).mono ?_
      rw [decide_eq_true rfl]
      rintro e w14 ⟨rfl, hk14⟩
      have k9 : Kept [] w12 w14 := HK9.out.trans (((Kept.refl [] w13).alloc _).trans hk14)
      have HBK := hid (HBK.out.keep k9 (by simp) (by simp))
      have HKK := hid (HKK.out.trans k9)
      have HP := hid (k9.get HP.out (by simp))
      have HX : Hid (PopAt w14 X l _) := hid (k9.get HX.out (by simp))
      have HY : Hid (StealAt w14 Y l _ _) := hid (k9.get HY.out (by simp))
      clear k9 hk14 HK9 HS13 HN HU HV
      go_upto_region 12 with fail
      have HPC : Hid (∀ W, Kept [] w14 W → ∀ i, W.cell? ⟨P, i, none⟩ = l.cells[i]?) := hid (fun W h => cells_of (h.get HP.out (by simp)))
      refine region_first (by kernel_rfl) 4 2 deps11 [81, 82, 83, 84] (by decide) rfl rfl (by kernel_rfl) rfl (R11 l.val (.agg (stealCells l (pt0 0) false)) l.val (.agg (ptCells l (pt0 0))) #[] #[] 0 0 0) (fun i => false) (R11_keep _ _ _ _ _ _ _ _ _) ?step ?tail
      case step =>
        intro i d hd v W hkW hdep K hK
        have HKs := hid hK
        have hsz := hkW.size
        rcases i with _ | _ | _ | _ | i
        · have hc := HPC.out W hkW
          simp only [List.getElem?_cons_zero, List.getElem?_cons_succ, Option.some.injEq] at hd
          subst hd
          clear hK hdep hkW hsz
          refine wpOp_step rfl (fun K' hK' => ?_)
          have HK' := hid hK'
          clear hK'
          simp only [FrF, Act.put, List.setIfInBounds_toArray, List.set_cons_zero, List.set_cons_succ]
          go_simp
          exact HK'.out _ _ (HKs.out l.val W (Kept.refl _ _) rfl (by simp))
        · have e : v 0 = l.val := hdep 0 (by simp [deps11])
          simp only [List.getElem?_cons_zero, List.getElem?_cons_succ, Option.some.injEq] at hd
          subst hd
          clear hK hdep hkW hsz
          refine wpOp_step rfl (fun K' hK' => ?_)
          have HK' := hid hK'
          clear hK'
          simp only [FrF, Act.put, List.setIfInBounds_toArray, List.set_cons_zero, List.set_cons_succ]
          go_simp
          refine (d66 l 0 _).mono ?_
          rintro e w' ⟨rfl, hk⟩
          have fin := HKs.out (.agg (stealCells l (pt0 0) false)) w' hk rfl (by simp)
          simp only [FrF, Act.put, List.setIfInBounds_toArray, List.set_cons_zero, List.set_cons_succ, e] at fin
          exact HK'.out _ _ fin
        · have hc := HPC.out W hkW
          simp only [List.getElem?_cons_zero, List.getElem?_cons_succ, Option.some.injEq] at hd
          subst hd
          clear hK hdep hkW hsz
          refine wpOp_step rfl (fun K' hK' => ?_)
          have HK' := hid hK'
          clear hK'
          simp only [FrF, Act.put, List.setIfInBounds_toArray, List.set_cons_zero, List.set_cons_succ]
          go_simp
          exact HK'.out _ _ (HKs.out l.val W (Kept.refl _ _) rfl (by simp))
        · have e : v 2 = l.val := hdep 2 (by simp [deps11])
          simp only [List.getElem?_cons_zero, List.getElem?_cons_succ, Option.some.injEq] at hd
          subst hd
          clear hK hdep hkW hsz
          refine wpOp_step rfl (fun K' hK' => ?_)
          have HK' := hid hK'
          clear hK'
          simp only [FrF, Act.put, List.setIfInBounds_toArray, List.set_cons_zero, List.set_cons_succ]
          go_simp
          refine (d69 l 0 _).mono ?_
          rintro e w' ⟨rfl, hk⟩
          have fin := HKs.out (.agg (ptCells l (pt0 0))) w' hk rfl (by simp)
          simp only [FrF, Act.put, List.setIfInBounds_toArray, List.set_cons_zero, List.set_cons_succ, e] at fin
          exact HK'.out _ _ fin
        · simp at hd
      case tail =>
        intro v W hkW hr hdist
        have e0 : v 0 = l.val := hr 0 (by omega)
        have e1 : v 1 = .agg (stealCells l (pt0 0) false) := hr 1 (by omega)
        have e2 : v 2 = l.val := hr 2 (by omega)
        have e3 : v 3 = .agg (ptCells l (pt0 0)) := hr 3 (by omega)
        have hY := hkW.get HY.out (by simp)
        have hX := hkW.get HX.out (by simp)
        have HKW := hid hkW
        clear hr hdist hkW
        simp only [FrF, Act.put, List.setIfInBounds_toArray, List.set_cons_zero, List.set_cons_succ, e0, e1, e2, e3]
        clear e0 e1 e2 e3
        refine wpAny_one (i := 4) (by kernel_rfl) ?_
        refine wpOp_store_row rfl (by kernel_rfl) 53 _ _ rfl Y (stealCells l (pt0 0) false) _ 53 rfl rfl hY rfl info97 (all_oneCell_toArray (by simp [Value.oneCell'])) ?_
        have HY1 := hid (store_row (cs := (stealCells l (pt0 0) false)) hY rfl)
        have k1 := setCells_kept Y ((stealCells l (pt0 0) false)).toList 0 W
        have hX1 := k1.get hX (nin1 hXY)
        have HK1 := hid k1
        clear k1 hX hY
        generalize W.setCells Y 0 ((stealCells l (pt0 0) false)).toList = W1 at HY1 HK1 hX1 ⊢
        refine wpAny_one (i := 5) (by kernel_rfl) ?_
        refine wpOp_store_row rfl (by kernel_rfl) 59 _ _ rfl X (ptCells l (pt0 0)) _ 59 rfl rfl hX1 rfl info102 (all_oneCell_toArray (by simp [Value.oneCell'])) ?_
        have HX2 := hid (store_row (cs := (ptCells l (pt0 0))) hX1 rfl)
        have k2 := setCells_kept X ((ptCells l (pt0 0))).toList 0 W1
        have HY2 := hid (k2.get HY1.out (nin1 (Ne.symm hXY)))
        have HK2 := hid k2
        clear k2 hX1 HY1
        generalize W1.setCells X 0 ((ptCells l (pt0 0))).toList = W2 at HX2 HY2 HK2 ⊢
        refine wpAny_none (by kernel_rfl) ?_
        have ka : Kept [X, Y] w14 W2 := (HKW.out.of_nil.trans (HK1.out.mono (by simp))).trans (HK2.out.mono (by simp))
        have HBK := hid (HBK.out.keep ka (nin2 (Ne.symm nXB) (Ne.symm nYB)) (nin2 (Ne.symm nXD) (Ne.symm nYD)))
        have HKK := hid (HKK.out.drop ka (fun x hx => .inr (by simp at hx; omega)))
        have HP := hid (ka.get HP.out (nin2 (Ne.symm nXP) (Ne.symm nYP)))
        have HX : Hid (PopAt W2 X l (pt0 0)) := hid HX2.out
        have HY : Hid (StealAt W2 Y l (pt0 0) false) := hid HY2.out
        clear ka HX2 HY2 HK1 HK2 HKW HPC
        go_wp2_with fail
        refine (ends_steal Y B D l (pt0 0) false _ _ _ HY.out HBK.out ⟨nYB, nYD⟩ R5.out.1 R5.out.2).mono ?_
        rintro e w12 ⟨rfl, hk9, hx9, hb9⟩
        have HBK := hid hb9
        have HKK := hid (HKK.out.drop hk9 (fun x hx => .inr (by simp at hx; omega)))
        have HP := hid (hk9.get HP.out (nin2 (Ne.symm nYP) nPD))
        have HX : Hid (PopAt w12 X l (pt0 0)) := hid (hk9.get HX.out (nin2 (by omega) nXD))
        have HY := hid hx9
        clear hk9 hx9 hb9
        go_wp2_with fail
        refine (ends_pop X B D l (pt0 0) _ _ _ HX.out HBK.out ⟨nXB, nXD⟩ R6.out.1 R6.out.2).mono ?_
        rintro e w12 ⟨rfl, hk9, hx9, hb9⟩
        have HBK := hid hb9
        have HKK := hid (HKK.out.drop hk9 (fun x hx => .inr (by simp at hx; omega)))
        have HP := hid (hk9.get HP.out (nin2 (Ne.symm nXP) nPD))
        have HY : Hid (StealAt w12 Y l _ _) := hid (hk9.get HY.out (nin2 (by omega) nYD))
        have HX := hid hx9
        clear hk9 hx9 hb9
        go_wp2_with fail
        refine (d68 Y 53 _ l _ _ HY.out (DC.steal l _ _)).mono ?_
        rintro e w10 ⟨rfl, rfl⟩
        go_wp2_with fail
        refine (d71 X 59 _ l _ _ HX.out (DC.pop l _)).mono ?_
        rintro e w10 ⟨rfl, rfl⟩
        have hcP := cells_of HP.out
        go_wp2_with fail
        refine (d53 l 0 B D m5 _ Q6.out.inb.fit HBK.out (by rw [Q6.out.top]; omega) (by rw [Q6.out.top]; omega)).mono ?_
        rw [Q6.out.held]
        rintro e w15 ⟨v15, rfl, hk15, hs15, ho15⟩
        obtain ⟨a15, c15, rfl⟩ := hs15.len
        have HK15 := hid hk15
        clear hs15 ho15 hk15 hcP
        go_wp2_with fail
        go_ret
        exact ⟨rfl, HKK.out.trans HK15.out⟩
end Go.Proofs.Ytlbhckndejldcaa
