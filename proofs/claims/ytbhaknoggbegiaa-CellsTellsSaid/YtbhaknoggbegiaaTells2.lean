/- The walk of CellsTells: its loop. -/
import Derived.Test.YtbhaknoggbegiaaTells
import Derived.Test.YtbhaknoggbegiaaOnce0
import Derived.Deep.RegionHeld3
import Derived.Deep.DrawnRows
namespace Go.Proofs.Ytbhaknoggbegiaa
open Go.RowKit
attribute [local go_sem ↓] Go.wp_at_zero Go.wp_at_succ
set_option linter.unusedVariables false
theorem adds_ld (m : List Int) (i v : Int) : adds m i v = ld (st m i (wrap64 (ld m i + v))) i := by
  unfold adds
  by_cases h : 0 ≤ i ∧ i < m.length
  · have h' : i.toNat < m.length := by omega
    rw [if_pos h]
    conv => rhs; rw [ld, st_length, if_pos h, st, if_pos h]
    simp [h']
  · rw [if_neg h]
    conv => rhs; rw [ld, st_length, if_neg h]
/-- what holds at each round's head: the bank and the document's have the same numbers -/
structure TellsInv (n B D : Nat) (w wr : World) (g : Nat) (m : List Int) : Prop where
  len : m.length = n
  row : RowIn wr g m
  bank : BankAt wr B D m
  kept : Kept [] w wr
  ne : g ≠ D
set_option maxHeartbeats 4000000 in
set_option maxRecDepth 100000 in
theorem tells_main (n : Nat) (hn : n ≤ 40) (b off len cap : Nat) (f : Nat → Op10) (w : World) (hlc : len ≤ cap) (hcm : cap ≤ maxLen) (hb : b < w.heap.size)
    (hf : ∀ k, k < len → (f k).Ok ∧ w.cell? ⟨b, off + k * 5, none⟩ = some (.int .u8 (f k).what) ∧ w.cell? ⟨b, off + k * 5 + 1, none⟩ = some (.int .i64 (f k).at_) ∧
      w.cell? ⟨b, off + k * 5 + 2, none⟩ = some (.int .i64 (f k).v) ∧ w.cell? ⟨b, off + k * 5 + 3, none⟩ = some (.int .i64 (f k).old) ∧ w.cell? ⟨b, off + k * 5 + 4, none⟩ = some (.bool (f k).right)) :
    Calls Try.prog 5 #[.int .i64 n, .slice (some ⟨b, off, none⟩) len cap] w fun e w' => e = .returned (.bool true) ∧ Kept [] w w' := by
  unfold maxLen at hcm
  have h40 : ¬ (40 : Int) < (n : Int) := by omega
  have h2' : ¬ (524288 : Int) < (n : Int) := by omega
  have hne : ((n : Int) != (n : Int)) = false := by simp
  have HF := hid hf
  have HN : Hid (n ≤ 40) := hid hn
  obtain ⟨i0, hi, hz0, hz1, hz2⟩ := info_parts info2
  have hmk : ∀ W : World, (Instr.makeSlice 43 (.int .i64 n) (.int .i64 n)).run Try.prog W = .ok (.slice (some ⟨W.heap.size, 0, none⟩) n n) (W.alloc (.cells (i64s (List.replicate n 0)) 2)) := by
    intro W
    have := run_make (P := Try.prog) W 43 2 i0 (.int .i64 0) Try.underlying43 hi hz0 .i64 .i64 n n (by omega) (by omega) (by rw [hz2]; omega) (by omega)
    rwa [hz1, Int.toNat_natCast, Nat.mul_one, madeCells_zero1] at this
  clear hi hz0 hz1 hz2 hf hn
  obtain ⟨L, hL, hLl, hL1⟩ : ∃ L : Nat, L = min len 100 ∧ L ≤ len ∧ L ≤ 100 := ⟨_, rfl, by omega, by omega⟩
  have hmin : ∀ (ats : Array TypeId) (ty : TypeId), Builtin.min_ ats ty #[.int .i64 (len : Int), .int .i64 100] = pure (.int .i64 (L : Int)) := min_at len 100 L hL
  clear hL
  go_enter Try.func5, Try.ntmps5
  go_wp2_with fail
  refine (new_ok n (by have := HN.out; omega) _).mono ?_
  rintro e w1 ⟨B, D, rfl, hB, hD, hk1, hb1⟩
  have H40 := hid (c40 B D _ _ hb1)
  have HB1 := hid hb1
  clear hb1 
  go_wp2_with fail
  refine H40.out.mono ?_
  rw [List.length_replicate]
  rintro e w2 ⟨rfl, rfl⟩
  go_wp2_with fail
  have HM := hid hmin
  have k0 : Kept [] w (w1.alloc (.cells (i64s (List.replicate n 0)) 2)) := hk1.alloc _
  have HK0 := hid k0
  have hg0 : w1.heap.size ≠ D := fun e => by have := HB1.out.ltD; omega
  clear hmk hmin k0 hk1 H40
  go_loopw [7, 54] (fun s7 s54 wr => ∃ (k g c : Nat) (m : List Int), s7 = .slice (some ⟨g, 0, none⟩) n c ∧ s54 = .int .i64 k ∧ k ≤ L ∧ TellsInv n B D w wr g m) (fun _ s54 _ => L - (intOf s54).toNat)
  case atStart =>
    refine ⟨0, _, _, _, rfl, rfl, by omega, ⟨by simp, RowIn.of_i64s (new_alloc _ _), HB1.out.keep ((Kept.refl [] _).alloc _) (by simp) (by simp), HK0.out, hg0⟩⟩
  case round =>
    obtain ⟨k, g, c, m, rfl, rfl, hk, hinv⟩ := hrel
    have HI := hid hinv
    have HDW : Hid (w.heap.size ≤ D) := hid (by have := hD; omega)
    have HDW : Hid (w.heap.size ≤ D) := hid (by have := hD; omega)
    clear hinv HB1 HK0 hg0 hB hD
    by_cases hlt : k < L
    · obtain ⟨ho, h0, h1, h2, h3, h4⟩ := HF.out k (by omega)
      have hsz : b < w.heap.size := hb
      have h0 := HI.out.kept.cell hb (by simp) h0
      have h1 := HI.out.kept.cell hb (by simp) h1
      have h2 := HI.out.kept.cell hb (by simp) h2
      have h3 := HI.out.kept.cell hb (by simp) h3
      have h4 := HI.out.kept.cell hb (by simp) h4
      obtain ⟨o, ho'⟩ : ∃ o, o = f k := ⟨_, rfl⟩
      rw [← ho'] at ho h0 h1 h2 h3 h4
      obtain ⟨r, hr⟩ : ∃ r, r = o.right := ⟨_, rfl⟩
      rw [← hr] at h4
      clear ho' hr
      have q0 := ho.w0
      have q1 := ho.w1
      have HO := hid ho
      clear ho hsz
      go_wp2_with fail
      refine (c41n g c n m o.at_ _ HI.out.len (HI.out.row.keep ((Kept.refl [] wr).alloc _) (by simp))).mono ?_
      rintro e w2 ⟨rfl, rfl⟩
      clear h0 h1 h2 h3 h4
      have KO : Kept [] wr (wr.alloc (.cells (o.cells r) 45)) := (Kept.refl [] wr).alloc _
      have HO := hid (new_alloc wr (.cells (o.cells r) 45))
      have HB := hid (HI.out.bank.keep KO (by simp) (by simp))
      have HR := hid (HI.out.row.keep KO (by simp))
      have HOD : Hid (wr.heap.size ≠ D) := hid (fun e => by have := HI.out.bank.ltD; omega)
      have HK := hid (HI.out.kept.trans KO)
      have HLEN := hid HI.out.len
      have HNE := hid HI.out.ne
      have HM52 : Hid (n ≤ 524288) := hid (by have := HN.out; omega)
      clear KO
      by_cases e0 : o.what % 4 = 0
      · as_aux_lemma =>
          have e0' : (o.what % 4 == 0) = true := beq_iff_eq.2 e0
          clear e0
          go_wp2_with fail
          refine (c42 B D m o.at_ _ HB.out).mono ?_
          rintro e w2 ⟨rfl, rfl⟩
          go_wp2_with fail

          refine (c48n B D n _ _ HLEN.out HB.out).mono ?_
          rintro e w6 ⟨O2, rfl, hO2, hk6, hr6⟩
          have HR6 := hid hr6
          have HR := hid (HR.out.keep hk6 (by simp))
          have HB := hid (HB.out.keep hk6 (by simp) (by simp))
          have HK := hid (HK.out.trans hk6)
          clear hr6 hk6 hO2
          go_wp2_with fail
          go_loopw [14, 146] (fun _ s146 wr2 => ∃ i : Nat, i ≤ n ∧ s146 = .int .i64 i ∧ Kept [] w6 wr2) (fun _ s _ => n - (intOf s).toNat)
          case atStart => exact ⟨0, by omega, rfl, Kept.refl _ _⟩
          case round =>
            obtain ⟨i, hi, rfl, hk7⟩ := hrel
            have HK7 := hid hk7
            clear hk7
            by_cases hlt2 : i < n
            · go_wp2_with fail
              refine wp_region_at (by as_aux_lemma => kernel_rfl) (by as_aux_lemma => kernel_rfl) (fun W hW => ?_)
              have kW : Kept [] w6 W := by rw [hW.out]; exact HK7.out
              have hRa := later_row (HR6.out.keep kW (by simp)) i (by rw [HLEN.out]; exact hlt2)
              have hRb := later_row (HR.out.keep kW (by simp)) i (by rw [HLEN.out]; exact hlt2)
              have KW := hid kW
              clear kW
              repeat (go_big_quiet_step (fail))
              refine wpQuiet_nil ?_
              rintro _ ⟨⟨w8, hk8⟩, rfl⟩
              have K8 := hid (KW.out.trans hk8)
              clear hk8 hRa hRb
              go_wp2
              go_roundw
              case rel => exact ⟨i + 1, by omega, by go_num, K8.out⟩
              case measure => simp [intOf]; omega
            · obtain rfl : i = n := by omega
              go_wp2_with fail
              go_roundw
              case rel => exact ⟨k + 1, _, _, _, rfl, by go_num, by omega, ⟨HLEN.out, HR.out.keep HK7.out (by simp), HB.out.keep HK7.out (by simp) (by simp), HK.out.trans HK7.out, HNE.out⟩⟩
              case measure => simp [intOf]; omega
      by_cases e1 : o.what % 4 = 1
      · as_aux_lemma =>
          have e0' : (o.what % 4 == 0) = false := beq_eq_false_iff_ne.2 e0
          have e1' : (o.what % 4 == 1) = true := beq_iff_eq.2 e1
          clear e0 e1
          go_wp2_with fail
          refine (c43 B D m o.at_ o.v _ HB.out).mono ?_
          rintro e w2 ⟨rfl, hk2, hb2⟩
          have hO2 := hk2.get HO.out (by simpa using HOD.out)
          have hcO2 := cells_of hO2
          have HO := hid hO2
          have HR := hid (HR.out.keep hk2 (by simpa using HNE.out))
          have HB := hid hb2
          have HK := hid (HK.out.drop hk2 (fun x hx => .inr (by simp at hx; have := HDW.out; omega)))
          clear hb2 hO2 hk2
          go_wp2_with fail

          refine (c44n g c n m o.at_ o.v _ HLEN.out HR.out HM52.out).mono ?_
          rintro e w3 ⟨g2, c2, rfl, hg2, hk3, hr3, hc3⟩
          have HNE : Hid (g2 ≠ D) := hid (fun e => by have := HB.out.ltD; omega)
          have HLEN := hid ((st_length m o.at_ o.v).trans HLEN.out)
          have hO3 := hk3.get HO.out (by simp)
          have hcO3 := cells_of hO3
          have HO := hid hO3
          have HR := hid hr3
          have HB := hid (HB.out.keep hk3 (by simp) (by simp))
          have HK := hid (HK.out.trans hk3)
          clear hr3 hc3 hg2 hO3 hk3

          go_wp2_with fail

          refine (c48n B D n _ _ HLEN.out HB.out).mono ?_
          rintro e w6 ⟨O2, rfl, hO2, hk6, hr6⟩
          have HR6 := hid hr6
          have HR := hid (HR.out.keep hk6 (by simp))
          have HB := hid (HB.out.keep hk6 (by simp) (by simp))
          have HK := hid (HK.out.trans hk6)
          clear hr6 hk6 hO2
          go_wp2_with fail
          go_loopw [14, 146] (fun _ s146 wr2 => ∃ i : Nat, i ≤ n ∧ s146 = .int .i64 i ∧ Kept [] w6 wr2) (fun _ s _ => n - (intOf s).toNat)
          case atStart => exact ⟨0, by omega, rfl, Kept.refl _ _⟩
          case round =>
            obtain ⟨i, hi, rfl, hk7⟩ := hrel
            have HK7 := hid hk7
            clear hk7
            by_cases hlt2 : i < n
            · go_wp2_with fail
              refine wp_region_at (by as_aux_lemma => kernel_rfl) (by as_aux_lemma => kernel_rfl) (fun W hW => ?_)
              have kW : Kept [] w6 W := by rw [hW.out]; exact HK7.out
              have hRa := later_row (HR6.out.keep kW (by simp)) i (by rw [HLEN.out]; exact hlt2)
              have hRb := later_row (HR.out.keep kW (by simp)) i (by rw [HLEN.out]; exact hlt2)
              have KW := hid kW
              clear kW
              repeat (go_big_quiet_step (fail))
              refine wpQuiet_nil ?_
              rintro _ ⟨⟨w8, hk8⟩, rfl⟩
              have K8 := hid (KW.out.trans hk8)
              clear hk8 hRa hRb
              go_wp2
              go_roundw
              case rel => exact ⟨i + 1, by omega, by go_num, K8.out⟩
              case measure => simp [intOf]; omega
            · obtain rfl : i = n := by omega
              go_wp2_with fail
              go_roundw
              case rel => exact ⟨k + 1, _, _, _, rfl, by go_num, by omega, ⟨HLEN.out, HR.out.keep HK7.out (by simp), HB.out.keep HK7.out (by simp) (by simp), HK.out.trans HK7.out, HNE.out⟩⟩
              case measure => simp [intOf]; omega
      by_cases e2 : o.what % 4 = 2
      · as_aux_lemma =>
          have e0' : (o.what % 4 == 0) = false := beq_eq_false_iff_ne.2 e0
          have e1' : (o.what % 4 == 1) = false := beq_eq_false_iff_ne.2 e1
          have e2' : (o.what % 4 == 2) = true := beq_iff_eq.2 e2
          clear e0 e1 e2
          go_wp2_with fail

          refine (c44n g c n m o.at_ (wrap64 (ld m o.at_ + o.v)) _ HLEN.out HR.out HM52.out).mono ?_
          rintro e w3 ⟨g2, c2, rfl, hg2, hk3, hr3, hc3⟩
          have HNE : Hid (g2 ≠ D) := hid (fun e => by have := HB.out.ltD; omega)
          have HLEN := hid ((st_length m o.at_ (wrap64 (ld m o.at_ + o.v))).trans HLEN.out)
          have hO3 := hk3.get HO.out (by simp)
          have hcO3 := cells_of hO3
          have HO := hid hO3
          have HR := hid hr3
          have HB := hid (HB.out.keep hk3 (by simp) (by simp))
          have HK := hid (HK.out.trans hk3)
          clear hr3 hc3 hg2 hO3 hk3

          go_wp2_with fail
          have hadd := adds_ld m o.at_ o.v
          go_region_held3 (fun w' => ∀ i, w'.cell? ⟨wr.heap.size, i, none⟩ = (o.cells r)[i]?) (first | exact hcO3 | exact hcO4) (first | (go_at_call 25; refine (c45 B D m o.at_ o.v _ (HB.out.keep (Kept.refl [] _).drew (by simp) (by simp))).mono ?_; rintro e w4 ⟨rfl, hk4, hb4⟩; have hcO4 := cells_of (hk4.get HO.out (by simpa using HOD.out))) | (go_at_call 21; refine (c41n g2 c2 n _ o.at_ _ HLEN.out (HR.out.keep ((Kept.refl [D] w3).drew.trans hk4) (by simpa using HNE.out))).mono ?_; rintro e w5 ⟨rfl, rfl⟩))
          all_goals
            have HB := hid hb4
            have HR := hid (HR.out.keep ((Kept.refl [D] w3).drew.trans hk4) (by simpa using HNE.out))
            have HK := hid (HK.out.drop ((Kept.refl [D] w3).drew.trans hk4) (fun x hx => .inr (by simp at hx; have := HDW.out; omega)))
            clear hb4 hk4 hcO4 hcO3
            go_wp2_with fail
            clear hadd
            refine (c48n B D n _ _ HLEN.out HB.out).mono ?_
            rintro e w6 ⟨O2, rfl, hO2, hk6, hr6⟩
            have HR6 := hid hr6
            have HR := hid (HR.out.keep hk6 (by simp))
            have HB := hid (HB.out.keep hk6 (by simp) (by simp))
            have HK := hid (HK.out.trans hk6)
            clear hr6 hk6 hO2
            go_wp2_with fail
            go_loopw [14, 146] (fun _ s146 wr2 => ∃ i : Nat, i ≤ n ∧ s146 = .int .i64 i ∧ Kept [] w6 wr2) (fun _ s _ => n - (intOf s).toNat)
            case atStart => exact ⟨0, by omega, rfl, Kept.refl _ _⟩
            case round =>
              obtain ⟨i, hi, rfl, hk7⟩ := hrel
              have HK7 := hid hk7
              clear hk7
              by_cases hlt2 : i < n
              · go_wp2_with fail
                refine wp_region_at (by as_aux_lemma => kernel_rfl) (by as_aux_lemma => kernel_rfl) (fun W hW => ?_)
                have kW : Kept [] w6 W := by rw [hW.out]; exact HK7.out
                have hRa := later_row (HR6.out.keep kW (by simp)) i (by rw [HLEN.out]; exact hlt2)
                have hRb := later_row (HR.out.keep kW (by simp)) i (by rw [HLEN.out]; exact hlt2)
                have KW := hid kW
                clear kW
                repeat (go_big_quiet_step (fail))
                refine wpQuiet_nil ?_
                rintro _ ⟨⟨w8, hk8⟩, rfl⟩
                have K8 := hid (KW.out.trans hk8)
                clear hk8 hRa hRb
                go_wp2
                go_roundw
                case rel => exact ⟨i + 1, by omega, by go_num, K8.out⟩
                case measure => simp [intOf]; omega
              · obtain rfl : i = n := by omega
                go_wp2_with fail
                go_roundw
                case rel => exact ⟨k + 1, _, _, _, rfl, by go_num, by omega, ⟨HLEN.out, HR.out.keep HK7.out (by simp), HB.out.keep HK7.out (by simp) (by simp), HK.out.trans HK7.out, HNE.out⟩⟩
                case measure => simp [intOf]; omega
      have e0' : (o.what % 4 == 0) = false := beq_eq_false_iff_ne.2 e0
      have e1' : (o.what % 4 == 1) = false := beq_eq_false_iff_ne.2 e1
      have e2' : (o.what % 4 == 2) = false := beq_eq_false_iff_ne.2 e2
      clear e0 e1 e2
      cases r
      · cases hin : inB m o.at_
        · as_aux_lemma =>
            have HIN := hid hin
            clear hin
            go_wp2_with fail
            refine (c46n g c n m o.at_ _ HLEN.out).mono ?_
            rw [HIN.out]
            rintro e w2 ⟨rfl, rfl⟩
            go_wp2_with fail

            refine (c47 B D m o.at_ o.old o.v _ HB.out).mono ?_
            rw [hits_no (.inl HIN.out), if_neg (by decide)]
            rintro e w4 ⟨rfl, hk4, hb4⟩
            have HR := hid (HR.out.keep hk4 (by simpa using HNE.out))
            have HB := hid hb4
            have HK := hid (HK.out.drop hk4 (fun x hx => .inr (by simp at hx; have := HDW.out; omega)))
            clear hb4 hk4
            go_wp2_with fail

            refine (c48n B D n _ _ HLEN.out HB.out).mono ?_
            rintro e w6 ⟨O2, rfl, hO2, hk6, hr6⟩
            have HR6 := hid hr6
            have HR := hid (HR.out.keep hk6 (by simp))
            have HB := hid (HB.out.keep hk6 (by simp) (by simp))
            have HK := hid (HK.out.trans hk6)
            clear hr6 hk6 hO2
            go_wp2_with fail
            go_loopw [14, 146] (fun _ s146 wr2 => ∃ i : Nat, i ≤ n ∧ s146 = .int .i64 i ∧ Kept [] w6 wr2) (fun _ s _ => n - (intOf s).toNat)
            case atStart => exact ⟨0, by omega, rfl, Kept.refl _ _⟩
            case round =>
              obtain ⟨i, hi, rfl, hk7⟩ := hrel
              have HK7 := hid hk7
              clear hk7
              by_cases hlt2 : i < n
              · go_wp2_with fail
                refine wp_region_at (by as_aux_lemma => kernel_rfl) (by as_aux_lemma => kernel_rfl) (fun W hW => ?_)
                have kW : Kept [] w6 W := by rw [hW.out]; exact HK7.out
                have hRa := later_row (HR6.out.keep kW (by simp)) i (by rw [HLEN.out]; exact hlt2)
                have hRb := later_row (HR.out.keep kW (by simp)) i (by rw [HLEN.out]; exact hlt2)
                have KW := hid kW
                clear kW
                repeat (go_big_quiet_step (fail))
                refine wpQuiet_nil ?_
                rintro _ ⟨⟨w8, hk8⟩, rfl⟩
                have K8 := hid (KW.out.trans hk8)
                clear hk8 hRa hRb
                go_wp2
                go_roundw
                case rel => exact ⟨i + 1, by omega, by go_num, K8.out⟩
                case measure => simp [intOf]; omega
              · obtain rfl : i = n := by omega
                go_wp2_with fail
                go_roundw
                case rel => exact ⟨k + 1, _, _, _, rfl, by go_num, by omega, ⟨HLEN.out, HR.out.keep HK7.out (by simp), HB.out.keep HK7.out (by simp) (by simp), HK.out.trans HK7.out, HNE.out⟩⟩
                case measure => simp [intOf]; omega
        by_cases hold : ld m o.at_ = o.old
        · as_aux_lemma =>
            have HIN := hid hin
            have HOLD := hid hold
            have heq : (ld m o.at_ == o.old) = true := beq_iff_eq.2 hold
            clear hin hold
            go_wp2_with fail
            refine (c46n g c n m o.at_ _ HLEN.out).mono ?_
            rw [HIN.out]
            rintro e w2 ⟨rfl, rfl⟩
            go_wp2_with fail

            refine (c44n g c n m o.at_ o.v _ HLEN.out HR.out HM52.out).mono ?_
            rintro e w3 ⟨g2, c2, rfl, hg2, hk3, hr3, hc3⟩
            have HNE : Hid (g2 ≠ D) := hid (fun e => by have := HB.out.ltD; omega)
            have HLEN := hid ((st_length m o.at_ o.v).trans HLEN.out)
            have hO3 := hk3.get HO.out (by simp)
            have hcO3 := cells_of hO3
            have HO := hid hO3
            have HR := hid hr3
            have HB := hid (HB.out.keep hk3 (by simp) (by simp))
            have HK := hid (HK.out.trans hk3)
            clear hr3 hc3 hg2 hO3 hk3

            go_wp2_with fail

            refine (c47 B D m o.at_ o.old o.v _ HB.out).mono ?_
            rw [hits_yes HIN.out HOLD.out, if_pos rfl]
            rintro e w4 ⟨rfl, hk4, hb4⟩
            have HR := hid (HR.out.keep hk4 (by simpa using HNE.out))
            have HB := hid hb4
            have HK := hid (HK.out.drop hk4 (fun x hx => .inr (by simp at hx; have := HDW.out; omega)))
            clear hb4 hk4
            go_wp2_with fail

            refine (c48n B D n _ _ HLEN.out HB.out).mono ?_
            rintro e w6 ⟨O2, rfl, hO2, hk6, hr6⟩
            have HR6 := hid hr6
            have HR := hid (HR.out.keep hk6 (by simp))
            have HB := hid (HB.out.keep hk6 (by simp) (by simp))
            have HK := hid (HK.out.trans hk6)
            clear hr6 hk6 hO2
            go_wp2_with fail
            go_loopw [14, 146] (fun _ s146 wr2 => ∃ i : Nat, i ≤ n ∧ s146 = .int .i64 i ∧ Kept [] w6 wr2) (fun _ s _ => n - (intOf s).toNat)
            case atStart => exact ⟨0, by omega, rfl, Kept.refl _ _⟩
            case round =>
              obtain ⟨i, hi, rfl, hk7⟩ := hrel
              have HK7 := hid hk7
              clear hk7
              by_cases hlt2 : i < n
              · go_wp2_with fail
                refine wp_region_at (by as_aux_lemma => kernel_rfl) (by as_aux_lemma => kernel_rfl) (fun W hW => ?_)
                have kW : Kept [] w6 W := by rw [hW.out]; exact HK7.out
                have hRa := later_row (HR6.out.keep kW (by simp)) i (by rw [HLEN.out]; exact hlt2)
                have hRb := later_row (HR.out.keep kW (by simp)) i (by rw [HLEN.out]; exact hlt2)
                have KW := hid kW
                clear kW
                repeat (go_big_quiet_step (fail))
                refine wpQuiet_nil ?_
                rintro _ ⟨⟨w8, hk8⟩, rfl⟩
                have K8 := hid (KW.out.trans hk8)
                clear hk8 hRa hRb
                go_wp2
                go_roundw
                case rel => exact ⟨i + 1, by omega, by go_num, K8.out⟩
                case measure => simp [intOf]; omega
              · obtain rfl : i = n := by omega
                go_wp2_with fail
                go_roundw
                case rel => exact ⟨k + 1, _, _, _, rfl, by go_num, by omega, ⟨HLEN.out, HR.out.keep HK7.out (by simp), HB.out.keep HK7.out (by simp) (by simp), HK.out.trans HK7.out, HNE.out⟩⟩
                case measure => simp [intOf]; omega
        · as_aux_lemma =>
            have HIN := hid hin
            have HOLD := hid hold
            have heq : (ld m o.at_ == o.old) = false := beq_eq_false_iff_ne.2 hold
            clear hin hold
            go_wp2_with fail
            refine (c46n g c n m o.at_ _ HLEN.out).mono ?_
            rw [HIN.out]
            rintro e w2 ⟨rfl, rfl⟩
            go_wp2_with fail

            refine (c47 B D m o.at_ o.old o.v _ HB.out).mono ?_
            rw [hits_no (.inr HOLD.out), if_neg (by decide)]
            rintro e w4 ⟨rfl, hk4, hb4⟩
            have HR := hid (HR.out.keep hk4 (by simpa using HNE.out))
            have HB := hid hb4
            have HK := hid (HK.out.drop hk4 (fun x hx => .inr (by simp at hx; have := HDW.out; omega)))
            clear hb4 hk4
            go_wp2_with fail

            refine (c48n B D n _ _ HLEN.out HB.out).mono ?_
            rintro e w6 ⟨O2, rfl, hO2, hk6, hr6⟩
            have HR6 := hid hr6
            have HR := hid (HR.out.keep hk6 (by simp))
            have HB := hid (HB.out.keep hk6 (by simp) (by simp))
            have HK := hid (HK.out.trans hk6)
            clear hr6 hk6 hO2
            go_wp2_with fail
            go_loopw [14, 146] (fun _ s146 wr2 => ∃ i : Nat, i ≤ n ∧ s146 = .int .i64 i ∧ Kept [] w6 wr2) (fun _ s _ => n - (intOf s).toNat)
            case atStart => exact ⟨0, by omega, rfl, Kept.refl _ _⟩
            case round =>
              obtain ⟨i, hi, rfl, hk7⟩ := hrel
              have HK7 := hid hk7
              clear hk7
              by_cases hlt2 : i < n
              · go_wp2_with fail
                refine wp_region_at (by as_aux_lemma => kernel_rfl) (by as_aux_lemma => kernel_rfl) (fun W hW => ?_)
                have kW : Kept [] w6 W := by rw [hW.out]; exact HK7.out
                have hRa := later_row (HR6.out.keep kW (by simp)) i (by rw [HLEN.out]; exact hlt2)
                have hRb := later_row (HR.out.keep kW (by simp)) i (by rw [HLEN.out]; exact hlt2)
                have KW := hid kW
                clear kW
                repeat (go_big_quiet_step (fail))
                refine wpQuiet_nil ?_
                rintro _ ⟨⟨w8, hk8⟩, rfl⟩
                have K8 := hid (KW.out.trans hk8)
                clear hk8 hRa hRb
                go_wp2
                go_roundw
                case rel => exact ⟨i + 1, by omega, by go_num, K8.out⟩
                case measure => simp [intOf]; omega
              · obtain rfl : i = n := by omega
                go_wp2_with fail
                go_roundw
                case rel => exact ⟨k + 1, _, _, _, rfl, by go_num, by omega, ⟨HLEN.out, HR.out.keep HK7.out (by simp), HB.out.keep HK7.out (by simp) (by simp), HK.out.trans HK7.out, HNE.out⟩⟩
                case measure => simp [intOf]; omega
      · cases hin : inB m o.at_
        · as_aux_lemma =>
            have HIN := hid hin
            clear hin
            go_wp2_with fail
            refine (c46n g c n m o.at_ _ HLEN.out).mono ?_
            rw [HIN.out]
            rintro e w2 ⟨rfl, rfl⟩
            go_wp2_with fail

            refine (c47 B D m o.at_ (ld m o.at_) o.v _ HB.out).mono ?_
            rw [hits_no (.inl HIN.out), if_neg (by decide)]
            rintro e w4 ⟨rfl, hk4, hb4⟩
            have HR := hid (HR.out.keep hk4 (by simpa using HNE.out))
            have HB := hid hb4
            have HK := hid (HK.out.drop hk4 (fun x hx => .inr (by simp at hx; have := HDW.out; omega)))
            clear hb4 hk4
            go_wp2_with fail

            refine (c48n B D n _ _ HLEN.out HB.out).mono ?_
            rintro e w6 ⟨O2, rfl, hO2, hk6, hr6⟩
            have HR6 := hid hr6
            have HR := hid (HR.out.keep hk6 (by simp))
            have HB := hid (HB.out.keep hk6 (by simp) (by simp))
            have HK := hid (HK.out.trans hk6)
            clear hr6 hk6 hO2
            go_wp2_with fail
            go_loopw [14, 146] (fun _ s146 wr2 => ∃ i : Nat, i ≤ n ∧ s146 = .int .i64 i ∧ Kept [] w6 wr2) (fun _ s _ => n - (intOf s).toNat)
            case atStart => exact ⟨0, by omega, rfl, Kept.refl _ _⟩
            case round =>
              obtain ⟨i, hi, rfl, hk7⟩ := hrel
              have HK7 := hid hk7
              clear hk7
              by_cases hlt2 : i < n
              · go_wp2_with fail
                refine wp_region_at (by as_aux_lemma => kernel_rfl) (by as_aux_lemma => kernel_rfl) (fun W hW => ?_)
                have kW : Kept [] w6 W := by rw [hW.out]; exact HK7.out
                have hRa := later_row (HR6.out.keep kW (by simp)) i (by rw [HLEN.out]; exact hlt2)
                have hRb := later_row (HR.out.keep kW (by simp)) i (by rw [HLEN.out]; exact hlt2)
                have KW := hid kW
                clear kW
                repeat (go_big_quiet_step (fail))
                refine wpQuiet_nil ?_
                rintro _ ⟨⟨w8, hk8⟩, rfl⟩
                have K8 := hid (KW.out.trans hk8)
                clear hk8 hRa hRb
                go_wp2
                go_roundw
                case rel => exact ⟨i + 1, by omega, by go_num, K8.out⟩
                case measure => simp [intOf]; omega
              · obtain rfl : i = n := by omega
                go_wp2_with fail
                go_roundw
                case rel => exact ⟨k + 1, _, _, _, rfl, by go_num, by omega, ⟨HLEN.out, HR.out.keep HK7.out (by simp), HB.out.keep HK7.out (by simp) (by simp), HK.out.trans HK7.out, HNE.out⟩⟩
                case measure => simp [intOf]; omega
        · as_aux_lemma =>
            have HIN := hid hin
            clear hin
            go_wp2_with fail
            refine (c46n g c n m o.at_ _ HLEN.out).mono ?_
            rw [HIN.out]
            rintro e w2 ⟨rfl, rfl⟩
            go_wp2_with fail

            refine (c44n g c n m o.at_ o.v _ HLEN.out HR.out HM52.out).mono ?_
            rintro e w3 ⟨g2, c2, rfl, hg2, hk3, hr3, hc3⟩
            have HNE : Hid (g2 ≠ D) := hid (fun e => by have := HB.out.ltD; omega)
            have HLEN := hid ((st_length m o.at_ o.v).trans HLEN.out)
            have hO3 := hk3.get HO.out (by simp)
            have hcO3 := cells_of hO3
            have HO := hid hO3
            have HR := hid hr3
            have HB := hid (HB.out.keep hk3 (by simp) (by simp))
            have HK := hid (HK.out.trans hk3)
            clear hr3 hc3 hg2 hO3 hk3

            go_wp2_with fail

            refine (c47 B D m o.at_ (ld m o.at_) o.v _ HB.out).mono ?_
            rw [hits_yes HIN.out rfl, if_pos rfl]
            rintro e w4 ⟨rfl, hk4, hb4⟩
            have HR := hid (HR.out.keep hk4 (by simpa using HNE.out))
            have HB := hid hb4
            have HK := hid (HK.out.drop hk4 (fun x hx => .inr (by simp at hx; have := HDW.out; omega)))
            clear hb4 hk4
            go_wp2_with fail

            refine (c48n B D n _ _ HLEN.out HB.out).mono ?_
            rintro e w6 ⟨O2, rfl, hO2, hk6, hr6⟩
            have HR6 := hid hr6
            have HR := hid (HR.out.keep hk6 (by simp))
            have HB := hid (HB.out.keep hk6 (by simp) (by simp))
            have HK := hid (HK.out.trans hk6)
            clear hr6 hk6 hO2
            go_wp2_with fail
            go_loopw [14, 146] (fun _ s146 wr2 => ∃ i : Nat, i ≤ n ∧ s146 = .int .i64 i ∧ Kept [] w6 wr2) (fun _ s _ => n - (intOf s).toNat)
            case atStart => exact ⟨0, by omega, rfl, Kept.refl _ _⟩
            case round =>
              obtain ⟨i, hi, rfl, hk7⟩ := hrel
              have HK7 := hid hk7
              clear hk7
              by_cases hlt2 : i < n
              · go_wp2_with fail
                refine wp_region_at (by as_aux_lemma => kernel_rfl) (by as_aux_lemma => kernel_rfl) (fun W hW => ?_)
                have kW : Kept [] w6 W := by rw [hW.out]; exact HK7.out
                have hRa := later_row (HR6.out.keep kW (by simp)) i (by rw [HLEN.out]; exact hlt2)
                have hRb := later_row (HR.out.keep kW (by simp)) i (by rw [HLEN.out]; exact hlt2)
                have KW := hid kW
                clear kW
                repeat (go_big_quiet_step (fail))
                refine wpQuiet_nil ?_
                rintro _ ⟨⟨w8, hk8⟩, rfl⟩
                have K8 := hid (KW.out.trans hk8)
                clear hk8 hRa hRb
                go_wp2
                go_roundw
                case rel => exact ⟨i + 1, by omega, by go_num, K8.out⟩
                case measure => simp [intOf]; omega
              · obtain rfl : i = n := by omega
                go_wp2_with fail
                go_roundw
                case rel => exact ⟨k + 1, _, _, _, rfl, by go_num, by omega, ⟨HLEN.out, HR.out.keep HK7.out (by simp), HB.out.keep HK7.out (by simp) (by simp), HK.out.trans HK7.out, HNE.out⟩⟩
                case measure => simp [intOf]; omega
    · obtain rfl : k = L := by omega
      go_wp2_with fail
      refine (awake10 _).mono ?_
      rintro e w5 ⟨rfl, hk5⟩
      go_wp2_with fail
      go_ret
      exact ⟨rfl, HI.out.kept.trans hk5⟩
end Go.Proofs.Ytbhaknoggbegiaa
