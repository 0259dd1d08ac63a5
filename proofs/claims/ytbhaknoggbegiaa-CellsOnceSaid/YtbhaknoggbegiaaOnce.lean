/- The walk of CellsOnce. -/
import Derived.Test.YtbhaknoggbegiaaOnce0
namespace Go.Proofs.Ytbhaknoggbegiaa
open Go.RowKit
attribute [local go_sem ↓] Go.wp_at_zero Go.wp_at_succ
set_option linter.unusedVariables false
set_option maxHeartbeats 4000000 in
set_option maxRecDepth 100000 in
theorem once_main (x : Int) (hx0 : 0 ≤ x) (hx1 : x ≤ 255) (b off len cap : Nat) (f : Nat → Op10) (w : World) (hlc : len ≤ cap) (hcm : cap ≤ maxLen) (hb : b < w.heap.size)
    (hf : ∀ k, k < len → (f k).Ok ∧ w.cell? ⟨b, off + k * 5, none⟩ = some (.int .u8 (f k).what) ∧ w.cell? ⟨b, off + k * 5 + 1, none⟩ = some (.int .i64 (f k).at_) ∧
      w.cell? ⟨b, off + k * 5 + 2, none⟩ = some (.int .i64 (f k).v) ∧ w.cell? ⟨b, off + k * 5 + 3, none⟩ = some (.int .i64 (f k).old) ∧ w.cell? ⟨b, off + k * 5 + 4, none⟩ = some (.bool (f k).right)) :
    Calls Try.prog 7 #[.int .u8 x, .slice (some ⟨b, off, none⟩) len cap] w fun e w' => e = .returned (.bool true) ∧ Kept [] w w' := by
  unfold maxLen at hcm
  have HF := hid hf
  obtain ⟨n, hn⟩ : ∃ n : Nat, 1 + x % 20 = (n : Int) := ⟨(1 + x % 20).toNat, by omega⟩
  have hn0 : 1 ≤ (n : Int) := by omega
  have hn1 : (n : Int) ≤ 20 := by omega
  have hnz : ¬ (n : Int) = 0 := by omega
  obtain ⟨i0, hi, hz0, hz1, hz2⟩ := info_parts info2
  have hmk : ∀ W : World, (Instr.makeSlice 42 (.int .i64 n) (.int .i64 n)).run Try.prog W = .ok (.slice (some ⟨W.heap.size, 0, none⟩) n n) (W.alloc (.cells (i64s (List.replicate n 0)) 2)) := by
    intro W
    have := run_make (P := Try.prog) W 42 2 i0 (.int .i64 0) Try.underlying42 hi hz0 .i64 .i64 n n (by omega) (by omega) (by rw [hz2]; omega) (by omega)
    rwa [hz1, Int.toNat_natCast, Nat.mul_one, madeCells_zero1] at this
  obtain ⟨L, hL, hLl, hL1⟩ : ∃ L : Nat, L = min len 80 ∧ L ≤ len ∧ L ≤ 80 := ⟨_, rfl, by omega, by omega⟩
  have hmin : ∀ (ats : Array TypeId) (ty : TypeId), Builtin.min_ ats ty #[.int .i64 (len : Int), .int .i64 80] = pure (.int .i64 (L : Int)) := min_at len 80 L hL
  clear hi hz0 hz1 hz2 hf hL
  go_enter Try.func7, Try.ntmps7
  go_wp2_with fail
  refine (new_ok n (by omega) _).mono ?_
  rintro e w1 ⟨B, D, rfl, hB, hD, hk1, hb1⟩
  have HB1 := hid hb1
  have HK1 := hid hk1
  have HDW := hid hD
  clear hb1 hk1 hD hB
  go_wp2_with fail
  have hgD : w1.heap.size ≠ D := fun e => by have := HB1.out.ltD; omega
  have hgB : w1.heap.size ≠ B := fun e => by have := HB1.out.ltB; omega
  have HG : Hid (w.heap.size ≤ w1.heap.size) := hid HK1.out.size
  have HI0 : Hid (OnceInv n B D w1.heap.size w (w1.alloc (.cells (i64s (List.replicate n 0)) 2)) (List.replicate n 0)) :=
    hid ⟨by simp, new_alloc _ _, HB1.out.keep ((Kept.refl [] _).alloc _) (by simp) (by simp), HK1.out.alloc _⟩
  obtain ⟨g, hg⟩ : ∃ g, w1.heap.size = g := ⟨_, rfl⟩
  rw [hg] at hgD hgB HG HI0
  have HGD := hid hgD
  have HGB := hid hgB
  simp only [hg]
  clear hmk hmin hgD hgB HB1 HK1 hg
  go_loopw [34] (fun s wr => ∃ (k : Nat) (m : List Int), s = .int .i64 k ∧ k ≤ L ∧ OnceInv n B D g w wr m) (fun s _ => L - (intOf s).toNat)
  case atStart => exact ⟨0, _, rfl, by omega, HI0.out⟩
  case round =>
    obtain ⟨k, m, rfl, hk, hinv⟩ := hrel
    have HI := hid hinv
    clear hinv HI0
    by_cases hlt : k < L
    · obtain ⟨ho, h0, h1, h2, h3, h4⟩ := HF.out k (by omega)
      have h0 := HI.out.kept.cell hb (by simp) h0
      have h1 := HI.out.kept.cell hb (by simp) h1
      have h2 := HI.out.kept.cell hb (by simp) h2
      have h3 := HI.out.kept.cell hb (by simp) h3
      have h4 := HI.out.kept.cell hb (by simp) h4
      obtain ⟨o, ho'⟩ : ∃ o, o = f k := ⟨_, rfl⟩
      rw [← ho'] at ho h0 h1 h2 h3 h4
      obtain ⟨r, hr⟩ : ∃ r, r = o.right := ⟨_, rfl⟩
      rw [← hr] at h4
      clear ho' hr
      have q0 := ho.w0
      have q1 := ho.w1
      obtain ⟨q, hq⟩ : ∃ q : Int, bits .and .i64 o.at_ 255 = q := ⟨_, rfl⟩
      have hq0 : 0 ≤ q := by rw [← hq, and255 _ ho.a0 ho.a1]; omega
      have hq1 : q ≤ 255 := by rw [← hq, and255 _ ho.a0 ho.a1]; omega
      obtain ⟨i, hi⟩ : ∃ i : Nat, q % (n : Int) = (i : Int) := ⟨(q % (n : Int)).toNat, by have := Int.emod_nonneg q hnz; omega⟩
      have hin : (i : Int) < (n : Int) := by rw [← hi]; exact Int.emod_lt_of_pos q (by omega)
      have HO := hid ho
      clear ho
      have KO : Kept [] wr (wr.alloc (.cells (o.cells r) 45)) := (Kept.refl [] wr).alloc _
      have HB := hid (HI.out.bank.keep KO (by simp) (by simp))
      have HROW := hid (KO.get HI.out.row (by simp))
      have HK := hid (HI.out.kept.trans KO)
      have HLEN := hid HI.out.len
      have hiN : i < n := by omega
      clear KO
      by_cases e0 : o.what % 3 = 0
      · as_aux_lemma =>
          have e0' : (o.what % 3 == 0) = true := beq_iff_eq.2 e0
          clear e0
          go_wp2_with fail
          refine (c43 B D m (i : Int) 0 _ HB.out).mono ?_
          rintro e w2 ⟨rfl, hk2, hb2⟩
          have HROW := hid (hk2.get HROW.out (by simpa using HGD.out))
          have HB := hid hb2
          have HK := hid (HK.out.drop hk2 (fun x hx => .inr (by simp at hx; have := HDW.out; omega)))
          clear hb2 hk2

          have hcg := (RowIn.of_i64s HROW.out).ldcell (i : Int) (by omega) (by rw [HLEN.out]; exact_mod_cast hin)
          rw [Int.toNat_natCast] at hcg
          have hfg := free_of HROW.out i

          go_wp2_with fail
          clear hcg hfg

          have HROW2 := hid (st_row (v := 0) HLEN.out hiN HROW.out)
          have KS : Kept [g] w2 (w2.setCell ⟨g, i, none⟩ (.int .i64 0)) := (Kept.refl _ _).setCell (.inl (by simp)) _
          have HB2 := hid (HB.out.keep KS (by simpa using Ne.symm HGB.out) (by simpa using Ne.symm HGD.out))
          have HK2 := hid (HK.out.drop KS (fun x hx => .inr (by simp at hx; have := HG.out; omega)))
          have HLEN2 := hid ((st_length m (i : Int) 0).trans HLEN.out)
          clear KS HLEN HROW HB HK
          have HLEN := HLEN2
          have HROW := HROW2
          have HB := HB2
          have HK := HK2
          clear HLEN2 HROW2 HB2 HK2

          refine (c48n B D n _ _ HLEN.out HB.out).mono ?_
          rintro e w6 ⟨O2, rfl, hO2, hk6, hr6⟩
          have HR6 := hid hr6
          have HROW := hid (hk6.get HROW.out (by simp))
          have HB := hid (HB.out.keep hk6 (by simp) (by simp))
          have HK := hid (HK.out.trans hk6)
          clear hr6 hk6 hO2
          go_wp2_with fail
          go_loopw [78] (fun s wr2 => ∃ j : Nat, j ≤ n ∧ s = .int .i64 j ∧ Kept [] w6 wr2) (fun s _ => n - (intOf s).toNat)
          case atStart => exact ⟨0, by omega, rfl, Kept.refl _ _⟩
          case round =>
            obtain ⟨j, hj, rfl, hk7⟩ := hrel
            have HK7 := hid hk7
            clear hk7
            by_cases hlt2 : j < n
            · have hRa := (HR6.out.keep HK7.out (by simp)).cell j (by rw [HLEN.out]; exact hlt2)
              have hRb := (RowIn.of_i64s (HK7.out.get HROW.out (by simp))).cell j (by rw [HLEN.out]; exact hlt2)
              go_wp2_with fail
              go_roundw
              case rel => exact ⟨j + 1, by omega, by go_num, HK7.out⟩
              case measure => simp [intOf]; omega
            · obtain rfl : j = n := by omega
              go_wp2_with fail
              go_roundw
              case rel => exact ⟨k + 1, _, by go_num, by omega, ⟨HLEN.out, HK7.out.get HROW.out (by simp), HB.out.keep HK7.out (by simp) (by simp), HK.out.trans HK7.out⟩⟩
              case measure => simp [intOf]; omega
      have e0' : (o.what % 3 == 0) = false := beq_eq_false_iff_ne.2 e0
      clear e0

      have hcg := (RowIn.of_i64s HROW.out).ldcell (i : Int) (by omega) (by rw [HLEN.out]; exact_mod_cast hin)
      rw [Int.toNat_natCast] at hcg
      have hfg := free_of HROW.out i
      by_cases hz : ld m (i : Int) = 0
      · as_aux_lemma =>
          have HZ := hid hz
          have hz' : (ld m (i : Int) == 0) = true := beq_iff_eq.2 hz
          clear hz

          go_wp2_with fail
          go_region_held3 (fun w' => w'.cell? ⟨g, i, none⟩ = some (.int .i64 (ld m (i : Int)))) (first | exact hcg | exact hcg2 | simpa using hcg) (first | (go_at_call 27; refine (c47 B D m (i : Int) 0 ((k : Int) + 1) _ (HB.out.keep (Kept.refl [] _).drew (by simp) (by simp))).mono ?_; rw [hits_yes (inB_yes HLEN.out hiN) HZ.out, if_pos rfl]; rintro e w4 ⟨rfl, hk4, hb4⟩; have hcg2 := (RowIn.of_i64s (hk4.get HROW.out (by simpa using HGD.out))).ldcell (i : Int) (by omega) (by rw [HLEN.out]; exact_mod_cast hin); rw [Int.toNat_natCast] at hcg2))

          have hcg2' := hcg2
          have hfg2 := free_of (hk4.get HROW.out (by simpa using HGD.out)) i

          have HROW := hid (hk4.get HROW.out (by simpa using HGD.out))
          have HB := hid hb4
          have HK := hid (HK.out.drew.drop hk4 (fun x hx => .inr (by simp at hx; have := HDW.out; omega)))
          clear hb4 hk4

          go_wp2_with fail
          clear hcg hcg2 hcg2' hfg hfg2
          have HROW2 := hid (st_row (v := (k : Int) + 1) HLEN.out hiN HROW.out)
          have KS : Kept [g] w4 (w4.setCell ⟨g, i, none⟩ (.int .i64 ((k : Int) + 1))) := (Kept.refl _ _).setCell (.inl (by simp)) _
          have HB2 := hid (HB.out.keep KS (by simpa using Ne.symm HGB.out) (by simpa using Ne.symm HGD.out))
          have HK2 := hid (HK.out.drop KS (fun x hx => .inr (by simp at hx; have := HG.out; omega)))
          have HLEN2 := hid ((st_length m (i : Int) ((k : Int) + 1)).trans HLEN.out)
          clear KS HLEN HROW HB HK
          have HLEN := HLEN2
          have HROW := HROW2
          have HB := HB2
          have HK := HK2
          clear HLEN2 HROW2 HB2 HK2

          refine (c48n B D n _ _ HLEN.out HB.out).mono ?_
          rintro e w6 ⟨O2, rfl, hO2, hk6, hr6⟩
          have HR6 := hid hr6
          have HROW := hid (hk6.get HROW.out (by simp))
          have HB := hid (HB.out.keep hk6 (by simp) (by simp))
          have HK := hid (HK.out.trans hk6)
          clear hr6 hk6 hO2
          go_wp2_with fail
          go_loopw [78] (fun s wr2 => ∃ j : Nat, j ≤ n ∧ s = .int .i64 j ∧ Kept [] w6 wr2) (fun s _ => n - (intOf s).toNat)
          case atStart => exact ⟨0, by omega, rfl, Kept.refl _ _⟩
          case round =>
            obtain ⟨j, hj, rfl, hk7⟩ := hrel
            have HK7 := hid hk7
            clear hk7
            by_cases hlt2 : j < n
            · have hRa := (HR6.out.keep HK7.out (by simp)).cell j (by rw [HLEN.out]; exact hlt2)
              have hRb := (RowIn.of_i64s (HK7.out.get HROW.out (by simp))).cell j (by rw [HLEN.out]; exact hlt2)
              go_wp2_with fail
              go_roundw
              case rel => exact ⟨j + 1, by omega, by go_num, HK7.out⟩
              case measure => simp [intOf]; omega
            · obtain rfl : j = n := by omega
              go_wp2_with fail
              go_roundw
              case rel => exact ⟨k + 1, _, by go_num, by omega, ⟨HLEN.out, HK7.out.get HROW.out (by simp), HB.out.keep HK7.out (by simp) (by simp), HK.out.trans HK7.out⟩⟩
              case measure => simp [intOf]; omega
      · as_aux_lemma =>
          have HZ := hid hz
          have hz' : (ld m (i : Int) == 0) = false := beq_eq_false_iff_ne.2 hz
          clear hz

          go_wp2_with fail
          go_region_held3 (fun w' => w'.cell? ⟨g, i, none⟩ = some (.int .i64 (ld m (i : Int)))) (first | exact hcg | exact hcg2 | simpa using hcg) (first | (go_at_call 27; refine (c47 B D m (i : Int) 0 ((k : Int) + 1) _ (HB.out.keep (Kept.refl [] _).drew (by simp) (by simp))).mono ?_; rw [hits_no (.inr HZ.out), if_neg (by decide)]; rintro e w4 ⟨rfl, hk4, hb4⟩; have hcg2 := (RowIn.of_i64s (hk4.get HROW.out (by simpa using HGD.out))).ldcell (i : Int) (by omega) (by rw [HLEN.out]; exact_mod_cast hin); rw [Int.toNat_natCast] at hcg2))

          have HROW := hid (hk4.get HROW.out (by simpa using HGD.out))
          have HB := hid hb4
          have HK := hid (HK.out.drew.drop hk4 (fun x hx => .inr (by simp at hx; have := HDW.out; omega)))
          clear hb4 hk4

          go_wp2_with fail
          clear hcg hcg2 hfg

          refine (c48n B D n _ _ HLEN.out HB.out).mono ?_
          rintro e w6 ⟨O2, rfl, hO2, hk6, hr6⟩
          have HR6 := hid hr6
          have HROW := hid (hk6.get HROW.out (by simp))
          have HB := hid (HB.out.keep hk6 (by simp) (by simp))
          have HK := hid (HK.out.trans hk6)
          clear hr6 hk6 hO2
          go_wp2_with fail
          go_loopw [78] (fun s wr2 => ∃ j : Nat, j ≤ n ∧ s = .int .i64 j ∧ Kept [] w6 wr2) (fun s _ => n - (intOf s).toNat)
          case atStart => exact ⟨0, by omega, rfl, Kept.refl _ _⟩
          case round =>
            obtain ⟨j, hj, rfl, hk7⟩ := hrel
            have HK7 := hid hk7
            clear hk7
            by_cases hlt2 : j < n
            · have hRa := (HR6.out.keep HK7.out (by simp)).cell j (by rw [HLEN.out]; exact hlt2)
              have hRb := (RowIn.of_i64s (HK7.out.get HROW.out (by simp))).cell j (by rw [HLEN.out]; exact hlt2)
              go_wp2_with fail
              go_roundw
              case rel => exact ⟨j + 1, by omega, by go_num, HK7.out⟩
              case measure => simp [intOf]; omega
            · obtain rfl : j = n := by omega
              go_wp2_with fail
              go_roundw
              case rel => exact ⟨k + 1, _, by go_num, by omega, ⟨HLEN.out, HK7.out.get HROW.out (by simp), HB.out.keep HK7.out (by simp) (by simp), HK.out.trans HK7.out⟩⟩
              case measure => simp [intOf]; omega
    · obtain rfl : k = L := by omega
      go_wp2_with fail
      refine (awake10 _).mono ?_
      rintro e w5 ⟨rfl, hk5⟩
      go_wp2_with fail
      go_ret
      exact ⟨rfl, HI.out.kept.trans hk5⟩
end Go.Proofs.Ytbhaknoggbegiaa
