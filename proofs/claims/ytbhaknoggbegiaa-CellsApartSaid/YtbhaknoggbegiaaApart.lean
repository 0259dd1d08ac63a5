/- CellsApart returns true, whatever comes in. -/
import Derived.Test.YtbhaknoggbegiaaApart0
namespace Go.Proofs.Ytbhaknoggbegiaa
open Go.RowKit Go.ChangeShapes Go.WideShapes Go.Maps
set_option linter.unusedVariables false
set_option maxHeartbeats 4000000 in
set_option maxRecDepth 100000 in
theorem apart_main (x y z : Int) (hx0 : 0 ≤ x) (hx1 : x ≤ 255) (hy0 : 0 ≤ y) (hy1 : y ≤ 255) (hz0 : 0 ≤ z) (hz1 : z ≤ 255) (w : World) :
    Calls Try.prog 4 #[.int .u8 x, .int .u8 y, .int .u8 z] w fun e w' => e = .returned (.bool true) ∧ Kept [] w w' := by
  obtain ⟨v, hv⟩ : ∃ v : Nat, x % 41 = (v : Int) := ⟨(x % 41).toNat, by omega⟩
  obtain ⟨a, ha⟩ : ∃ a : Nat, y % 91 = (a : Int) := ⟨(y % 91).toNat, by omega⟩
  obtain ⟨k, hk⟩ : ∃ k : Nat, 1 + z % 9 = (k : Int) := ⟨(1 + z % 9).toNat, by omega⟩
  have hv1 : (v : Int) ≤ 40 := by omega
  have ha1 : (a : Int) ≤ 90 := by omega
  have hk0 : 1 ≤ (k : Int) := by omega
  have hk1 : (k : Int) ≤ 9 := by omega
  obtain ⟨R, hla⟩ := la v a k (by omega) (by omega) (by omega) (by omega)
  have G := hid (c29_yes v a k w ⟨by omega, by omega, by omega, by omega, by omega, by omega⟩)
  obtain ⟨l, hl⟩ : ∃ l, planOf (v : Int) (a : Int) (k : Int) = l := ⟨_, rfl⟩
  rw [hl] at hla G
  clear hl
  have L := hid hla
  have hd1 : decide (l.room < (v : Int)) = false := decide_eq_false (by have := hla.room; have := hla.rv; omega)
  have hd2 : decide (l.room < 1) = false := decide_eq_false (by have := hla.room; have := hla.r; omega)
  have hd3 : decide ((524288 : Int) < l.size) = false := decide_eq_false (by have := hla.sb; omega)
  have hv0 : v ≤ 40 := by omega
  have ha0 : a ≤ 90 := by omega
  have hk2 : k ≤ 9 := by omega
  have hmm := @run_makeMap Try.prog
  clear hla
  go_enter Try.func4, Try.ntmps4
  go_wp2_with fail
  refine G.out.mono ?_
  clear G
  rintro e w1 ⟨rfl, hk9⟩
  have hcP := cells_of (new_alloc w1 (.cells l.cells 24))
  have HMM : Hid (w.heap.size ≤ w1.heap.size + 1 ∧ w1.heap.size ≠ w1.heap.size + 1) := hid ⟨by have := hk9.size; omega, by omega⟩
  have HI : Hid (ApInv l w1.heap.size (w1.heap.size + 1) w ((w1.alloc (.cells l.cells 24)).alloc (.map #[] 0)) 0 (pre 0) (.map [])) := hid (by
    refine ⟨?_, hk9.trans (((Kept.refl _ _).alloc _).alloc _), old_alloc (new_alloc _ _) _⟩
    have := MapP.made (w1.alloc (.cells l.cells 24))
    rwa [show (w1.alloc (.cells l.cells 24)).heap.size = w1.heap.size + 1 by simp] at this)
  clear hk9
  go_wp2_with fail
  clear hmm hcP hd1 hd2 hd3 hv ha hk
  go_loopw [59] (fun s wr => ∃ (i : Nat) (D : DataW Unit), s = .int .i64 i ∧ i ≤ a ∧ ApInv l w1.heap.size (w1.heap.size + 1) w wr i (pre i) D) (fun s _ => a - (intOf s).toNat)
  case atStart => exact ⟨0, _, rfl, by omega, HI.out⟩
  case round =>
    obtain ⟨i, D, rfl, hi, hinv⟩ := hrel
    clear HI
    have HI := hid hinv
    clear hinv
    by_cases hlt : i < a
    · as_aux_lemma =>
      obtain ⟨l4a, l4b⟩ := L.out.res
      have hcP := cells_of HI.out.plan
      have hlk := HI.out.map.look0 (x := (l.res + (i : Int))) (wf64 (by omega) (by omega)) (pre_no (by omega))
      go_wp2_with (at_mapUpdate; refine wpList_putP _ rfl (.tmp 62) (.tmp 66) (.tmp 68) rfl (w1.heap.size + 1) i (pre i) _ rfl HI.out.map (by unfold maxLen; omega) (l.res + (i : Int)) rfl rfl (wf64 (by omega) (by omega)) (pre_no (by omega)) ?_)
      intro w2 D2 hk2 hm2
      have HI := hid (HI.out.put hk2 hm2 HMM.out.1 HMM.out.2)
      clear hk2 hm2 hlk
      try clear hcP
      have hcP := cells_of HI.out.plan
      clear hcP
      go_wp2_with fail
      go_roundw
      case rel => exact ⟨i + 1, _, by go_num, by omega, HI.out.as rfl (by rw [pre_add (by omega) (by omega)]; rfl)⟩
      case measure => simp [intOf]; omega
    · as_aux_lemma =>
      obtain rfl : i = a := by omega
      clear hlt hi
      have HI := hid (HI.out.as (n' := i + 3 * 0) (p' := trip i v 0) (by omega) (trip_start _ _ (by omega) (by omega)))
      go_wp2_with fail
      go_loopw [71] (fun s wr => ∃ (j : Nat) (D : DataW Unit), s = .int .i64 j ∧ j ≤ v ∧ ApInv l w1.heap.size (w1.heap.size + 1) w wr (i + 3 * j) (trip i v j) D) (fun s _ => v - (intOf s).toNat)
      case atStart => exact ⟨0, _, rfl, by omega, HI.out⟩
      case round =>
        obtain ⟨j, D, rfl, hj, hinv⟩ := hrel
        clear HI
        have HI := hid hinv
        clear hinv
        by_cases hlt : j < v
        · as_aux_lemma =>
          obtain ⟨l5a, l5b⟩ := L.out.ex
          obtain ⟨l6a, l6b⟩ := L.out.h
          obtain ⟨l7a, l7b⟩ := L.out.flag
          have hcP := cells_of HI.out.plan
          have hlk := HI.out.map.look0 (x := (l.ex + (j : Int))) (wf64 (by omega) (by omega)) (trip_no1 (by omega) (by omega) (by omega) (by omega))
          go_wp2_with (at_mapUpdate; refine wpList_putP _ rfl (.tmp 74) (.tmp 78) (.tmp 80) rfl (w1.heap.size + 1) (i + 3 * j) (trip i v j) _ rfl HI.out.map (by unfold maxLen; omega) (l.ex + (j : Int)) rfl rfl (wf64 (by omega) (by omega)) (trip_no1 (by omega) (by omega) (by omega) (by omega)) ?_)
          intro w2 D2 hk2 hm2
          have HI := hid (HI.out.put hk2 hm2 HMM.out.1 HMM.out.2)
          clear hk2 hm2 hlk
          try clear hcP
          have hcP := cells_of HI.out.plan
          have hlk := HI.out.map.look0 (x := (l.h + (j : Int))) (wf64 (by omega) (by omega)) (trip_no2 (by omega) (by omega) (by omega) (by omega) (by omega))
          go_wp2_with (at_mapUpdate; refine wpList_putP _ rfl (.tmp 81) (.tmp 85) (.tmp 87) rfl (w1.heap.size + 1) (i + 3 * j + 1) (addP (trip i v j) (l.ex + (j : Int))) _ rfl HI.out.map (by unfold maxLen; omega) (l.h + (j : Int)) rfl rfl (wf64 (by omega) (by omega)) (trip_no2 (by omega) (by omega) (by omega) (by omega) (by omega)) ?_)
          intro w3 D2 hk2 hm2
          have HI := hid (HI.out.put hk2 hm2 HMM.out.1 HMM.out.2)
          clear hk2 hm2 hlk
          try clear hcP
          have hcP := cells_of HI.out.plan
          have hlk := HI.out.map.look0 (x := (l.flag + (j : Int))) (wf64 (by omega) (by omega)) (trip_no3 (by omega) (by omega) (by omega) (by omega) (by omega) (by omega))
          go_wp2_with (at_mapUpdate; refine wpList_putP _ rfl (.tmp 88) (.tmp 92) (.tmp 94) rfl (w1.heap.size + 1) (i + 3 * j + 1 + 1) (addP (addP (trip i v j) (l.ex + (j : Int))) (l.h + (j : Int))) _ rfl HI.out.map (by unfold maxLen; omega) (l.flag + (j : Int)) rfl rfl (wf64 (by omega) (by omega)) (trip_no3 (by omega) (by omega) (by omega) (by omega) (by omega) (by omega)) ?_)
          intro w4 D2 hk2 hm2
          have HI := hid (HI.out.put hk2 hm2 HMM.out.1 HMM.out.2)
          clear hk2 hm2 hlk
          try clear hcP
          have hcP := cells_of HI.out.plan
          clear hcP
          go_wp2_with fail
          go_roundw
          case rel => exact ⟨j + 1, _, by go_num, by omega, HI.out.as (by omega) (by rw [trip_step _ _ _ _ _ _ (by omega) (by omega) (by omega) (by omega) (by omega) (by omega)]; rfl)⟩
          case measure => simp [intOf]; omega
        · as_aux_lemma =>
          obtain rfl : j = v := by omega
          clear hlt hj
          have HI := hid (HI.out.as (n' := i + 3 * j + 0) (p' := pre ((i : Int) + 3 * j + (0 : Nat))) (by omega) (by rw [trip_end _ _ (by omega) (by omega)]; simp))
          have hcP := cells_of HI.out.plan
          obtain ⟨wo, rfl⟩ : ∃ wo : World, wo = wr := ⟨_, rfl⟩
          go_wp2_with fail
          have ka : Kept [] wo (wo.alloc (.cells #[.int .i64 l.pending, .int .i64 l.ask, .int .i64 l.count, .int .i64 l.sense] 3)) := (Kept.refl _ _).alloc _
          have HF := hid (new_alloc wo (.cells #[.int .i64 l.pending, .int .i64 l.ask, .int .i64 l.count, .int .i64 l.sense] 3))
          have HFM : Hid (wo.heap.size ≠ w1.heap.size + 1) := hid (fun e => by have := HI.out.map.is.lt; omega)
          have HI := hid (HI.out.keep ka)
          obtain ⟨F, hF⟩ : ∃ F, wo.heap.size = F := ⟨_, rfl⟩
          rw [hF] at HF HFM ⊢
          clear hF ka hcP
          go_loopw [106] (fun s wr => ∃ (q : Nat) (D : DataW Unit), s = .int .i64 q ∧ q ≤ 4 ∧ ApInv l w1.heap.size (w1.heap.size + 1) w wr (i + 3 * j + q) (pre ((i : Int) + 3 * j + q)) D ∧ wr.heap[F]? = some (.cells #[.int .i64 l.pending, .int .i64 l.ask, .int .i64 l.count, .int .i64 l.sense] 3 (0, 0))) (fun s _ => 4 - (intOf s).toNat)
          case atStart => exact ⟨0, _, rfl, by omega, HI.out, HF.out⟩
          case round =>
            obtain ⟨q, D, rfl, hq, hinv, hcell⟩ := hrel
            clear HI HF
            have HI := hid hinv
            have HF := hid hcell
            clear hinv hcell
            by_cases hlt : q < 4
            · have hcase : q = 0 ∨ q = 1 ∨ q = 2 ∨ q = 3 := by omega
              rcases hcase with rfl | rfl | rfl | rfl
              · as_aux_lemma =>
                obtain ⟨b1, b2⟩ := L.out.pending
                have hcP := cells_of HI.out.plan
                have hcF := cells_of HF.out
                have hlk := HI.out.map.look0 (x := l.pending) (wf64 (by omega) (by omega)) (pre_no (by omega))
                go_wp2_with (at_mapUpdate; refine wpList_putP _ rfl (.tmp 110) (.tmp 111) (.tmp 113) rfl (w1.heap.size + 1) (i + 3 * j + 0) (pre ((i : Int) + 3 * j + (0 : Nat))) _ rfl HI.out.map (by unfold maxLen; omega) l.pending rfl rfl (wf64 (by omega) (by omega)) (pre_no (by omega)) ?_)
                intro w2 D2 hk2 hm2
                have HF := hid (hk2.get HF.out (by simpa using HFM.out))
                have HI := hid (HI.out.put hk2 hm2 HMM.out.1 HMM.out.2)
                clear hk2 hm2 hlk
                try clear hcP
                have hcP := cells_of HI.out.plan
                clear hcP hcF
                go_wp2_with fail
                go_roundw
                case rel => exact ⟨0 + 1, _, rfl, by omega, HI.out.as rfl (by rw [pre_add (by omega) (by omega)]; congr 1), HF.out⟩
                case measure => simp [intOf]
              · as_aux_lemma =>
                obtain ⟨b1, b2⟩ := L.out.ask
                have hcP := cells_of HI.out.plan
                have hcF := cells_of HF.out
                have hlk := HI.out.map.look0 (x := l.ask) (wf64 (by omega) (by omega)) (pre_no (by omega))
                go_wp2_with (at_mapUpdate; refine wpList_putP _ rfl (.tmp 110) (.tmp 111) (.tmp 113) rfl (w1.heap.size + 1) (i + 3 * j + 1) (pre ((i : Int) + 3 * j + (1 : Nat))) _ rfl HI.out.map (by unfold maxLen; omega) l.ask rfl rfl (wf64 (by omega) (by omega)) (pre_no (by omega)) ?_)
                intro w2 D2 hk2 hm2
                have HF := hid (hk2.get HF.out (by simpa using HFM.out))
                have HI := hid (HI.out.put hk2 hm2 HMM.out.1 HMM.out.2)
                clear hk2 hm2 hlk
                try clear hcP
                have hcP := cells_of HI.out.plan
                clear hcP hcF
                go_wp2_with fail
                go_roundw
                case rel => exact ⟨1 + 1, _, rfl, by omega, HI.out.as rfl (by rw [pre_add (by omega) (by omega)]; congr 1), HF.out⟩
                case measure => simp [intOf]
              · as_aux_lemma =>
                obtain ⟨b1, b2⟩ := L.out.count
                have hcP := cells_of HI.out.plan
                have hcF := cells_of HF.out
                have hlk := HI.out.map.look0 (x := l.count) (wf64 (by omega) (by omega)) (pre_no (by omega))
                go_wp2_with (at_mapUpdate; refine wpList_putP _ rfl (.tmp 110) (.tmp 111) (.tmp 113) rfl (w1.heap.size + 1) (i + 3 * j + 2) (pre ((i : Int) + 3 * j + (2 : Nat))) _ rfl HI.out.map (by unfold maxLen; omega) l.count rfl rfl (wf64 (by omega) (by omega)) (pre_no (by omega)) ?_)
                intro w2 D2 hk2 hm2
                have HF := hid (hk2.get HF.out (by simpa using HFM.out))
                have HI := hid (HI.out.put hk2 hm2 HMM.out.1 HMM.out.2)
                clear hk2 hm2 hlk
                try clear hcP
                have hcP := cells_of HI.out.plan
                clear hcP hcF
                go_wp2_with fail
                go_roundw
                case rel => exact ⟨2 + 1, _, rfl, by omega, HI.out.as rfl (by rw [pre_add (by omega) (by omega)]; congr 1), HF.out⟩
                case measure => simp [intOf]
              · as_aux_lemma =>
                obtain ⟨b1, b2⟩ := L.out.sense
                have hcP := cells_of HI.out.plan
                have hcF := cells_of HF.out
                have hlk := HI.out.map.look0 (x := l.sense) (wf64 (by omega) (by omega)) (pre_no (by omega))
                go_wp2_with (at_mapUpdate; refine wpList_putP _ rfl (.tmp 110) (.tmp 111) (.tmp 113) rfl (w1.heap.size + 1) (i + 3 * j + 3) (pre ((i : Int) + 3 * j + (3 : Nat))) _ rfl HI.out.map (by unfold maxLen; omega) l.sense rfl rfl (wf64 (by omega) (by omega)) (pre_no (by omega)) ?_)
                intro w2 D2 hk2 hm2
                have HF := hid (hk2.get HF.out (by simpa using HFM.out))
                have HI := hid (HI.out.put hk2 hm2 HMM.out.1 HMM.out.2)
                clear hk2 hm2 hlk
                try clear hcP
                have hcP := cells_of HI.out.plan
                clear hcP hcF
                go_wp2_with fail
                go_roundw
                case rel => exact ⟨3 + 1, _, rfl, by omega, HI.out.as rfl (by rw [pre_add (by omega) (by omega)]; congr 1), HF.out⟩
                case measure => simp [intOf]
            · as_aux_lemma =>
              have hq5 : (4 : Int) ≤ (q : Int) := by omega
              have HI := hid (HI.out.as (n' := i + 3 * j + 4) (p' := pre (((i + 3 * j + 4 : Nat) : Int))) (by omega) (by congr 1; omega))
              clear hlt hq HF HFM
              have HT : Hid (l.top ((0 : Nat) : Int) = ((i + 3 * j + 4 : Nat) : Int)) := hid (by have := top_zero l; have := L.out.deques; simp only [Int.natCast_zero]; omega)
              obtain ⟨zq, hzq⟩ : ∃ zq : Int, (q : Int) = zq := ⟨_, rfl⟩
              rw [hzq] at hq5 ⊢
              clear hzq
              go_wp2_with fail
              go_loopw [116] (fun s wr => ∃ (kk t : Nat) (D : DataW Unit), s = .int .i64 kk ∧ kk ≤ k ∧ l.top (kk : Int) = (t : Int) ∧ ApInv l w1.heap.size (w1.heap.size + 1) w wr t (pre t) D) (fun s _ => k - (intOf s).toNat)
              case atStart => exact ⟨0, _, _, rfl, by omega, HT.out, HI.out⟩
              case round =>
                obtain ⟨kk, t, D, rfl, hkk, ht, hinv⟩ := hrel
                clear HI HT
                have HI := hid hinv
                have HT := hid ht
                clear hinv ht
                by_cases hlt : kk < k
                · as_aux_lemma =>
                  have FIT := hid (L.out.fit hv0 ha0 hlt hk2)
                  have htb : (t : Int) + (R + 2) ≤ 524288 := by have := top_le L.out hlt; have := L.out.sb; have := HT.out; omega
                  have hcP := cells_of HI.out.plan
                  go_wp2_with fail
                  refine (c33 l kk _ FIT.out).mono ?_
                  rw [HT.out]
                  rintro e w3 ⟨rfl, hk3⟩
                  have HI := hid (HI.out.keep hk3)
                  clear hk3 hcP
                  have hcP := cells_of HI.out.plan
                  have hlk := HI.out.map.look0 (x := (t : Int)) (wf64 (by omega) (by omega)) (pre_no (by omega))
                  go_wp2_with (at_mapUpdate; refine wpList_putP _ rfl (.tmp 119) (.tmp 122) (.tmp 124) rfl (w1.heap.size + 1) t (pre t) _ rfl HI.out.map (by unfold maxLen; omega) (t : Int) rfl rfl (wf64 (by omega) (by omega)) (pre_no (by omega)) ?_)
                  intro w4 D2 hk2 hm2
                  have HI := hid (HI.out.put hk2 hm2 HMM.out.1 HMM.out.2)
                  clear hk2 hm2 hlk
                  try clear hcP
                  have hcP := cells_of HI.out.plan
                  have HI := hid (HI.out.as (n' := t + 1) (p' := pre ((t : Int) + 1)) rfl (by rw [pre_add rfl (by omega)]))
                  go_wp2_with fail
                  refine (c35 l kk _ FIT.out).mono ?_
                  rw [show l.top (kk : Int) + 1 = ((t : Int) + 1) by rw [HT.out]]
                  rintro e w5 ⟨rfl, hk3⟩
                  have HI := hid (HI.out.keep hk3)
                  clear hk3 hcP
                  have hcP := cells_of HI.out.plan
                  have hlk := HI.out.map.look0 (x := ((t : Int) + 1)) (wf64 (by omega) (by omega)) (pre_no (by omega))
                  go_wp2_with (at_mapUpdate; refine wpList_putP _ rfl (.tmp 125) (.tmp 128) (.tmp 130) rfl (w1.heap.size + 1) (t + 1) (pre ((t : Int) + 1)) _ rfl HI.out.map (by unfold maxLen; omega) ((t : Int) + 1) rfl rfl (wf64 (by omega) (by omega)) (pre_no (by omega)) ?_)
                  intro w6 D2 hk2 hm2
                  have HI := hid (HI.out.put hk2 hm2 HMM.out.1 HMM.out.2)
                  clear hk2 hm2 hlk
                  try clear hcP
                  have hcP := cells_of HI.out.plan
                  have HI := hid (HI.out.as (n' := t + 2 + 0) (p' := pre ((t : Int) + 2 + ((0 : Nat) : Int))) rfl (by rw [pre_add rfl (by omega)]; first | rfl | (congr 1; omega)))
                  go_wp2_with fail
                  clear hcP
                  go_loopw [133] (fun s wr => ∃ (ii : Nat) (D : DataW Unit), s = .int .i64 ii ∧ ii ≤ R ∧ ApInv l w1.heap.size (w1.heap.size + 1) w wr (t + 2 + ii) (pre ((t : Int) + 2 + (ii : Int))) D) (fun s _ => R - (intOf s).toNat)
                  case atStart => exact ⟨0, _, rfl, by omega, HI.out⟩
                  case round =>
                    obtain ⟨ii, D, rfl, hii, hinv⟩ := hrel
                    clear HI
                    have HI := hid hinv
                    clear hinv
                    have hcP := cells_of HI.out.plan
                    by_cases hlt2 : ii < R
                    · as_aux_lemma =>
                      have S0 : Hid (∀ m : Int, l.slot kk ((ii : Int) + m * l.room) = ((t : Int) + 2 + (ii : Int))) := hid (fun m => by
                        rw [Lay.slot, HT.out, L.out.room, mod_room m hlt2 _ rfl])
                      have hb1 : (ii : Int) < l.room := by have := L.out.room; omega
                      have hb2 : l.room ≤ 4096 := by have := L.out.room; have := L.out.r.2; omega
                      have hb3 : 1 ≤ l.room := by have := L.out.room; have := L.out.r.1; omega
                      have HRR := hid hlt2
                      have HTB : Hid ((t : Int) + 2 + (ii : Int) ≤ 524288) := hid (by omega)
                      have htb2 := HTB.out
                      clear hlt2 hii htb
                      go_wp2_with fail
                      refine (c37 l kk (ii : Int) _ FIT.out (by omega) (by omega)).mono ?_
                      rw [show l.slot kk (ii : Int) = ((t : Int) + 2 + (ii : Int)) by have := S0.out 0; rwa [Int.zero_mul, Int.add_zero] at this]
                      rintro e w7 ⟨rfl, hk3⟩
                      have HI := hid (HI.out.keep hk3)
                      clear hk3 hcP
                      have hcP := cells_of HI.out.plan
                      have hlk := HI.out.map.look0 (x := ((t : Int) + 2 + (ii : Int))) (wf64 (by omega) (by omega)) (pre_no (by omega))
                      go_wp2_with (at_mapUpdate; refine wpList_putP _ rfl (.tmp 140) (.tmp 141) (.tmp 143) rfl (w1.heap.size + 1) (t + 2 + ii) (pre ((t : Int) + 2 + (ii : Int))) _ rfl HI.out.map (by unfold maxLen; omega) ((t : Int) + 2 + (ii : Int)) rfl rfl (wf64 (by omega) (by omega)) (pre_no (by omega)) ?_)
                      intro w8 D2 hk2 hm2
                      have HI := hid (HI.out.put hk2 hm2 HMM.out.1 HMM.out.2)
                      clear hk2 hm2 hlk
                      try clear hcP
                      have hcP := cells_of HI.out.plan
                      go_wp2_with fail
                      refine (c37 l kk ((ii : Int) + l.room) _ FIT.out (by omega) (by omega)).mono ?_
                      rw [show l.slot kk ((ii : Int) + l.room) = ((t : Int) + 2 + (ii : Int)) by have := S0.out 1; rwa [Int.one_mul] at this]
                      rintro e w9 ⟨rfl, hk3⟩
                      have HI := hid (HI.out.keep hk3)
                      clear hk3 hcP
                      have hcP := cells_of HI.out.plan
                      go_wp2_with fail
                      refine (c37 l kk ((ii : Int) + 7 * l.room) _ FIT.out (by omega) (by omega)).mono ?_
                      rw [S0.out 7]
                      rintro e w9 ⟨rfl, hk3⟩
                      have HI := hid (HI.out.keep hk3)
                      clear hk3 hcP
                      go_wp2_with fail
                      go_roundw
                      case rel => exact ⟨ii + 1, _, by go_num, by have := HRR.out; omega, HI.out.as rfl (by rw [pre_add rfl (by omega)]; first | rfl | (congr 1; omega))⟩
                      case measure => have := HRR.out; simp [intOf]; omega
                    · as_aux_lemma =>
                      obtain rfl : ii = R := by omega
                      have hb1 : l.room ≤ (ii : Int) := by have := L.out.room; omega
                      clear hlt2 hii htb
                      go_wp2_with fail
                      go_roundw
                      case rel => exact ⟨kk + 1, t + 2 + ii, _, by go_num, by omega, by have h1 := top_next l kk; have h2 := HT.out; have h3 := L.out.room; have e : ((kk + 1 : Nat) : Int) = (kk : Int) + 1 := rfl; rw [e]; omega, HI.out.as rfl (by first | rfl | (congr 1; omega))⟩
                      case measure => simp [intOf]; omega
                · as_aux_lemma =>
                  obtain rfl : kk = k := by omega
                  clear hlt hkk
                  have hsz : l.size = (t : Int) := by rw [L.out.size]; exact HT.out
                  have HSZ := hid hsz
                  clear hsz
                  have HOW := hid HI.out.map.is.own
                  obtain ⟨wo, rfl⟩ : ∃ wo : World, wo = wr := ⟨_, rfl⟩
                  go_wp2_with (first | (at_range; refine wpList_range_own _ rfl _ 34 rfl 3 3 law34 Try.underlying34 _ (w1.heap.size + 1) t _ rfl HOW.out ?_; intro w7 hrg7 hg7 hs7) | fail)
                  go_frame
                  have kg7 : Kept [] _ w7 := Kept.grown hg7
                  have KG7 := hid kg7
                  have HI7 := hid (HI.out.keep kg7)
                  have HMW := hid HI.out.kept.size
                  have HM1 : Hid (w1.heap.size < wo.heap.size ∧ w1.heap.size + 1 < wo.heap.size) := hid ⟨lt_of_heap HI.out.plan, HI.out.map.is.lt⟩
                  have HM0 := hid HI.out.map
                  clear kg7 hg7 HI
                  obtain ⟨RR, hR⟩ : ∃ RR, wo.heap.size = RR := ⟨_, rfl⟩
                  rw [hR] at hrg7 HMW HM1 ⊢
                  have HRG := hid hrg7
                  clear hrg7 hs7 hR
                  go_loopw [20] (fun _ wr => ∃ (left : Lit → Bool) (cnt : Nat) (D : DataW Unit), wr.ranges (Try.prog) 3 (plainElem (Try.prog) 3) (w1.heap.size + 1) RR t D left cnt ∧ Kept [RR] w7 wr ∧ MapP wo (w1.heap.size + 1) t (pre t) D) (fun _ wr => wr.rangeLeft (w1.heap.size + 1) RR)
                  case atStart => exact ⟨_, _, _, HRG.out, Kept.refl _ _, HM0.out⟩
                  case round =>
                    obtain ⟨left, cnt, D2, hrg, hk8, hm8⟩ := hrel
                    have HRG2 := hid hrg
                    have HK8 := hid hk8
                    have HM8 := hid hm8
                    clear hrg hk8 hm8 HRG
                    have HI8 := hid (HK8.out.get HI7.out.plan (by simp; have := HM1.out; omega))
                    go_wp2_with (first | (at_next; refine wpList_next_ranges_ii _ rfl _ rfl 3 3 .i64 .i64 law34 Try.underlying3 Try.underlying3 (w1.heap.size + 1) RR t _ _ _ rfl HRG2.out ?_ ?_) | fail)
                    · intro _ hl0
                      clear hl0
                      have hcP := cells_of HI8.out
                      have HOW2 := hid (HM8.out.is.own)
                      have KK : Hid (Kept [] w wr) := hid (HI7.out.kept.drop HK8.out (fun x hx => .inr (by simp at hx; have := HMW.out; omega)))
                      have hsz := HSZ.out
                      go_wp2_with (first | (at_len; refine wpList_len_own _ rfl _ 34 rfl 3 3 Try.underlying34 _ (w1.heap.size + 1) t _ rfl ((HM8.out.keep KG7.out (by simp)).keep HK8.out (by simp; have := HM1.out; omega)).is.own ?_; rw [HM8.out.size]) | fail)
                      refine (awake10 _).mono ?_
                      rintro e w5 ⟨rfl, hk5⟩
                      go_wp2_with fail
                      go_ret
                      exact ⟨rfl, KK.out.trans hk5⟩
                    · intro x2 c2 w9 cnt2 hwx hwc hlx hat hrg2 hlt3 hg9 hs9 hen
                      have hfx : pre t x2 = true := by
                        rw [← HM8.out.is.has_ x2 hwx]
                        exact has_true_of_atKey hat
                      have hc2 : c2 = 1 := by
                        have h1 := hat (.lit (.int .i64 0))
                        rw [HM8.out.is.at_ x2 hwx, hfx] at h1
                        simpa using h1.symm
                      have hxr : 0 ≤ x2 ∧ x2 < (t : Int) := of_decide_eq_true hfx
                      subst hc2
                      have hx1 : 0 ≤ x2 := hxr.1
                      have hx2 : ¬ l.size ≤ x2 := by rw [HSZ.out]; omega
                      have hx3 : x2 < l.size := by rw [HSZ.out]; exact hxr.2
                      have HRG3 := hid hrg2
                      have HK9 : Hid (Kept [RR] w7 w9) := hid (HK8.out.trans (by have := Kept.grown hg9; simpa using this))
                      have HLT := hid hlt3
                      have hcP := cells_of (HK9.out.get HI7.out.plan (by simp; have := HM1.out; omega))
                      clear hfx hxr hlx hrg2 hg9 hlt3 hat hwx hwc
                      go_wp2_with fail
                      go_roundw
                      case rel => exact ⟨_, cnt2, _, HRG3.out, HK9.out, HM8.out⟩
                      case measure => rw [HRG3.out.left_eq, HRG2.out.left_eq]; exact HLT.out
end Go.Proofs.Ytbhaknoggbegiaa
