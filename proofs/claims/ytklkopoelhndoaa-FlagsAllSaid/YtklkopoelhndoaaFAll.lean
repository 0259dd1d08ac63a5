/- FlagsAll returns true, whatever comes in. -/
import Derived.Test.YtklkopoelhndoaaFAll0
import Derived.Deep.RegionHeld3
import Derived.Deep.DrawnRows
import Derived.Deep.DeepCutAuto
namespace Go.Proofs.Ytklkopoelhndoaa
open Go.RowKit Go.ChangeShapes Go.WideShapes
attribute [local go_sem ↓] Go.wp_at_zero Go.wp_at_succ
set_option linter.unusedVariables false
structure AllInv (l : Lay) (n N B D P : Nat) (w wr : World) (m : List Int) (p : Nat → Bool) : Prop where
  len : m.length = N
  up : Up l n m p
  bank : BankAt wr B D m
  kept : Kept [] w wr
  plan : wr.heap[P]? = some (.cells l.cells 25 (0, 0))
set_option maxHeartbeats 4000000 in
set_option maxRecDepth 100000 in
theorem fall_main (x : Int) (hx0 : 0 ≤ x) (hx1 : x ≤ 255) (a : Option Addr) (len cap : Nat) (f : Nat → Int) (w : World) (h : Ints .u8 w a len cap f) :
    Calls Try.prog 4 #[.int .u8 x, .slice a len cap] w fun e w' => e = .returned (.bool true) ∧ Kept [] w w' := by
  obtain ⟨hlc, hcm, hnone, hf⟩ := h
  unfold maxLen at hcm
  have HF := hid hf
  have HNO := hid hnone
  obtain ⟨i0, hi, hz0, hz1, hz2⟩ := info_parts info3
  have HI3 := hid hi
  obtain ⟨n, hn⟩ : ∃ n : Nat, 1 + x % 30 = (n : Int) := ⟨(1 + x % 30).toNat, by omega⟩
  have hn0 : 1 ≤ (n : Int) := by omega
  have hn1 : (n : Int) ≤ 30 := by omega
  have HL := hid (lay12 (n := n) (by omega) (by omega))
  have G := hid (c59 (n : Int) w (by omega) (by omega))
  obtain ⟨l, hl⟩ : ∃ l, planOf (n : Int) 3 2 = l := ⟨_, rfl⟩
  rw [hl] at HL G
  clear hl
  have hf0 := HL.out.f0
  have hf1 := HL.out.f1
  obtain ⟨L, hL, hLl, hL1⟩ : ∃ L : Nat, L = min len 40 ∧ L ≤ len ∧ L ≤ 40 := ⟨_, rfl, by omega, by omega⟩
  have hmin : ∀ (ats : Array TypeId) (ty : TypeId), Builtin.min_ ats ty #[.int .i64 (len : Int), .int .i64 40] = pure (.int .i64 (L : Int)) := min_at len 40 L hL
  clear hf hnone hL
  go_enter Try.func4, Try.ntmps4
  go_wp2_with fail
  refine G.out.mono ?_
  clear G
  rintro e w1 ⟨B, D, rfl, hB, hD, hk1, hb1⟩
  have HDW := hid (And.intro hB hD)
  have HB1 := hid hb1
  have HK1 := hid hk1
  clear hb1 hk1 hD hB
  go_wp2_with fail
  obtain ⟨N, hN⟩ : ∃ N, l.size.toNat = N := ⟨_, rfl⟩
  have HNE : Hid ((N : Int) = l.size) := hid (by have := HL.out.s0; omega)
  have HFN : Hid (l.flag + n ≤ (N : Int)) := hid (by have := HL.out.fs; have := HNE.out; omega)
  rw [hN] at HB1
  have k2 : Kept [] w1 (w1.alloc (.cells l.cells 25)) := (Kept.refl _ _).alloc _
  have HPD : Hid (w1.heap.size ≠ D ∧ D < w1.heap.size + 1) := hid ⟨fun e => by have := HB1.out.ltD; omega, by have := HB1.out.ltD; omega⟩
  have HPB : Hid (B < w1.heap.size + 1) := hid (by have := HB1.out.ltB; omega)
  have HI0 : Hid (AllInv l n N B D w1.heap.size w (w1.alloc (.cells l.cells 25)) (List.replicate N 0) (fun j => decide (j < 0))) :=
    hid ⟨by simp, fun j _ => by simp [ld_zeros], HB1.out.keep k2 (by simp) (by simp), HK1.out.trans k2, new_alloc _ _⟩
  clear k2 HB1 HK1 hN
  go_loopw [9, 28] (fun v9 s wr => ∃ (k : Nat) (m : List Int), s = .int .i64 k ∧ k ≤ n ∧ AllInv l n N B D w1.heap.size w wr m (fun j => decide (j < k)) ∧ wr.ownsRow (w1.heap.size + 1) 3 1 v9 k (((List.range k).map (fun j : Nat => (j : Int))).map (Value.int .i64)) ∧ w1.heap.size + 1 ≤ wr.heap.size) (fun _ s _ => n - (intOf s).toNat)
  case atStart => exact ⟨0, _, rfl, by omega, HI0.out, World.ownsRow_nil _ _ _ _, by simp⟩
  case round =>
    obtain ⟨k, m, rfl, hk, hinv, hown, hsz⟩ := hrel
    have HI := hid hinv
    have HO := hid hown
    have HSZ := hid hsz
    clear hinv hown HI0 hsz
    have hcP := cells_of HI.out.plan
    by_cases hlt : k < n
    · as_aux_lemma =>
        have hh : hits m (l.flag + (k : Int)) 0 = true := by
          refine hits_yes (decide_eq_true ⟨by omega, ?_⟩) ?_
          · rw [HI.out.len]; have := HFN.out; omega
          · exact (HI.out.up k hlt).2 (by simp)
        have HH := hid hh
        clear hh
        clear hmin
        go_wp2_with fail
        refine (c62 l B D m k _ HI.out.bank HL.out.f0 HL.out.f1 (by omega) (by omega)).mono ?_
        rw [HH.out, claimed, if_pos HH.out]
        rintro e w2 ⟨rfl, hk2, hb2⟩
        have HI2 : Hid (AllInv l n N B D w1.heap.size w w2 (st m (l.flag + (k : Int)) 1) (fun j => decide (j < k + 1))) := hid ⟨by rw [st_length]; exact HI.out.len, by
          have := HI.out.up.st1 hlt HL.out.f0 (by rw [HI.out.len]; exact HFN.out)
          intro j hj
          have h2 := this j hj
          rw [h2]
          by_cases e : j = k
          · subst e; simp
          · simp [e]; omega, hb2, HI.out.kept.drop hk2 (in1 HDW.out.2), hk2.get HI.out.plan (nin1 HPD.out.1)⟩
        have HO2 := hid (ownsRow_keep HO.out hk2 (fun g hg => nin1 (by have := (HO.out.lt g hg).1; have := HPD.out.2; omega)))
        have HSZ2 : Hid (w1.heap.size + 1 ≤ w2.heap.size) := hid (by have := hk2.size; have := HSZ.out; omega)
        clear hk2 hb2 hcP
        go_wp2_with (at_builtin; refine wpList_append_own _ rfl (.tmp 36) (.tmp 38) 39 rfl (w1.heap.size + 1) 3 i0 (.int .i64 0) 1 8 Try.underlying39 hi hz0 hz1 hz2 rfl (by decide) _ _ _ rfl (HO2.out.alloc _) ⟨w2.heap.size, 0, none⟩ 1 1 [.int .i64 k] rfl rfl ?c1 ?c2 ?c3 ?c4 ?c5 ?_)
        case c1 =>
          intro j u hj
          match j, hj with
          | 0, hj => simp at hj; subst hj; simp [Addr.add]
        case c2 => intro u hu; simp at hu; subst hu; rfl
        case c3 => unfold maxLen; omega
        case c4 => omega
        case c5 => have := HSZ2.out; simp; omega
        intro v' w3 hown' hgrow _
        obtain ⟨Lg, kg, kl, kh⟩ := grown_low hgrow HO2.out.lt
        have ka : Kept [] w2 (w2.alloc (.cells #[.int .i64 (k : Int)] 3)) := (Kept.refl _ _).alloc _
        have hD1 : D < w1.heap.size + 1 := HPD.out.2
        have hB1 : B < w1.heap.size + 1 := HPB.out
        have hW1 : w.heap.size ≤ w1.heap.size := by have := HDW.out.2; omega
        have HI3 : Hid (AllInv l n N B D w1.heap.size w w3 (st m (l.flag + (k : Int)) 1) (fun j => decide (j < k + 1))) := hid ⟨HI2.out.len, HI2.out.up, (HI2.out.bank.keep ka (by simp) (by simp)).keep kg (kl _ hB1) (kl _ hD1),
          (HI2.out.kept.trans ka).drop kg (fun z hz => .inr (by have := kh z hz; omega)), kg.get (ka.get HI2.out.plan (by simp)) (kl _ (by omega))⟩
        have HO3 := hid hown'
        have HSZ3 : Hid (w1.heap.size + 1 ≤ w3.heap.size) := hid (by have := kg.size; have := ka.size; have := HSZ2.out; omega)
        clear kg kl kh ka hD1 hB1 hW1 hgrow hown' HO2 HI2 HSZ2
        go_wp2_with fail
        go_roundw
        case rel => exact ⟨k + 1, _, by go_num, by omega, HI3.out, by rw [List.range_succ, List.map_append, List.map_append]; simpa using HO3.out, HSZ3.out⟩
        case measure => simp [intOf]; omega
    · obtain rfl : k = n := by omega
      have hxs : upList (fun j => decide (j < k)) k = (List.range k).map (fun j : Nat => (j : Int)) := upList_range k _ (fun j hj => by simpa using hj)
      have hlen : (upList (fun j => decide (j < k)) k).length = k := by rw [hxs]; simp
      have HLF : Hid (LeftIs wr (w1.heap.size + 1) _ (upList (fun j => decide (j < k)) k)) := hid (LeftIs.of_owned (by rw [hlen, hxs]; exact HO.out) (by omega))
      clear hxs hlen hlt hk
      rcases a with _ | ad
      · obtain ⟨rfl, rfl⟩ := HNO.out rfl
        go_wp2_with fail
        go_loopw [47] (fun s wr => s = .int .i64 0 ∧ Kept [] w wr) (fun _ _ => 0)
        case atStart => exact ⟨rfl, HI.out.kept⟩
        case round =>
          obtain ⟨rfl, hk⟩ := hrel
          have HK := hid hk
          clear hk
          have hL0 : L = 0 := by omega
          subst hL0
          go_wp2_with fail
          refine (awake12 _).mono ?_
          rintro e w5 ⟨rfl, hk5⟩
          go_wp2_with fail
          go_ret
          exact ⟨rfl, HK.out.trans hk5⟩
      · go_wp2_with fail
        go_loopw [9, 47] (fun v9 s wr => ∃ (z : Nat) (m : List Int) (p : Nat → Bool), s = .int .i64 z ∧ z ≤ L ∧ AllInv l k N B D w1.heap.size w wr m p ∧ LeftIs wr (w1.heap.size + 1) v9 (upList p k)) (fun _ s _ => L - (intOf s).toNat)
        case atStart => exact ⟨0, _, _, rfl, by omega, HI.out, HLF.out⟩
        case round =>
          obtain ⟨z, m2, p, rfl, hz, hinv, hleft⟩ := hrel
          have HI2 := hid hinv
          clear HI HLF HO HSZ hinv hcP hmin
          by_cases hlt : z < L
          · obtain ⟨hwf, b, off, hab, hb, hc⟩ := HF.out z (by omega)
            cases hab
            have hc := HI2.out.kept.cellx hb (by simp) hc
            have hu := bounds_u8 hwf
            obtain ⟨u, hu'⟩ : ∃ u, u = f z := ⟨_, rfl⟩
            rw [← hu'] at hc hu
            obtain ⟨u0, u1⟩ := hu
            clear hu' hwf
            have hq30 := upList_len p k
            obtain ⟨xs, hxs⟩ : ∃ xs, upList p k = xs := ⟨_, rfl⟩
            have HXS := hid hxs
            rw [hxs] at hleft hq30
            clear hxs
            obtain ⟨g, c, rfl, hbg, hqc, hcm2, hsl⟩ := hleft
            unfold maxLen at hcm2
            have HLF : Hid (LeftIs wr (w1.heap.size + 1) (.slice (some ⟨g, 0, none⟩) xs.length c) xs) := hid ⟨g, c, rfl, hbg, hqc, by unfold maxLen; omega, hsl⟩
            clear hsl hbg
            obtain ⟨q, hq⟩ : ∃ q, xs.length = q := ⟨_, rfl⟩
            have HQ := hid hq
            rw [hq] at hq30 hqc HLF
            rw [hq]
            clear hq
            by_cases hq0 : q = 0
            · subst hq0
              go_wp2_with fail
              refine (awake12 _).mono ?_
              rintro e w5 ⟨rfl, hk5⟩
              go_wp2_with fail
              go_ret
              exact ⟨rfl, HI2.out.kept.trans hk5⟩
            · obtain ⟨i, hi'⟩ : ∃ i : Nat, u % (q : Int) = (i : Int) := ⟨(u % (q : Int)).toNat, by have := Int.emod_nonneg u (show (q : Int) ≠ 0 by omega); omega⟩
              have hi1 : i < q := by have := Int.emod_lt_of_pos u (show (0 : Int) < q by omega); omega
              have hi2 : u.tmod (q : Int) = (i : Int) := by rw [Int.tmod_eq_emod_of_nonneg u0]; exact hi'
              have hqz : ¬ (q : Int) = 0 := by omega
              have hi3 : (i : Int) < (q : Int) := by omega
              have hi4 : (0 : Int) ≤ (i : Int) := by omega
              obtain ⟨j, hj, hjk, hpj, hdrop⟩ := upList_drop p k i (by rw [HXS.out, HQ.out]; exact hi1)
              rw [HXS.out] at hj hdrop
              have hcg := HLF.out.cell i (by rw [HQ.out]; exact hi1)
              rw [hj] at hcg
              have HDR := hid hdrop
              have HPJ := hid hpj
              clear hdrop hpj hj
              have hcP := cells_of HI2.out.plan
              have HK2 := hid HI2.out.kept
              have hKS : ∀ W, Kept [] wr W → ((∀ i, W.cell? ⟨w1.heap.size, i, none⟩ = l.cells[i]?) ∧ W.cell? ⟨g, i, none⟩ = some (.int .i64 (j : Int))) := fun W hW =>
                ⟨cells_of (hW.get HI2.out.plan (by simp)), hW.cellx HLF.out.lt.1 (by simp) hcg⟩
              have HKS := hid hKS
              clear hKS
              go_upto_region 18 with (fail)
              go_cut [14] (fun s14 wc => ∃ Q, s14 = .pointer (some ⟨Q, 0, none⟩) ∧ Hid (FreeAt wc Q (l.flag + j) false) ∧ Hid (Kept [] wr wc) ∧ Hid (wr.heap.size ≤ Q ∧ Q < wc.heap.size))
              case first =>
                go_wp2_with fail
                go_region_held3 (fun w' => (∀ i, w'.cell? ⟨w1.heap.size, i, none⟩ = l.cells[i]?) ∧ w'.cell? ⟨g, i, none⟩ = some (.int .i64 (j : Int))) (first | exact HKS.out _ (Kept.refl _ _).drew | exact HKS.out _ ((Kept.refl _ _).alloc _).drew | exact HKS.out _ (Kept.refl _ _) | exact HKS.out _ ((Kept.refl _ _).alloc _) | exact HKS.out _ HK4.out | exact HKS.out _ (HK4.out.alloc _) | exact HKS.out _ (HK4.out.setCell (.inr (Nat.le_refl _)) _) | exact HKS.out _ ((HK4.out.setCell (.inr (Nat.le_refl _)) _).setCell (.inr (Nat.le_refl _)) _)) (first | (go_at_call 16; refine (c60 l j _ HL.out.f0 HL.out.f1 (by omega) (by omega)).mono ?_; rintro e w4 ⟨rfl, hk4⟩; have HK4 : Hid (Kept [] wr w4) := hid (by first | exact (Kept.refl _ _).drew.trans hk4 | exact ((Kept.refl _ _).alloc _).drew.trans hk4); have HK5 := hid hk4; try (have hcq := cells_of (hk4.get (new_alloc wr (.cells (freeCells 0 false) 35)) (by simp)); have hzq := free_of (hk4.get (new_alloc wr (.cells (freeCells 0 false) 35)) (by simp))); clear hk4))
                all_goals go_wp2_with fail
                all_goals go_meet
                · refine ⟨_, rfl, hid ?_, hid ?_, hid ?_⟩
                  · have := new_alloc w4 (.cells (freeCells (l.flag + (j : Int)) false) 35); exact this
                  · exact HK4.out.alloc _
                  · have := HK4.out.size; simp; omega
                · refine ⟨_, rfl, hid ?_, hid ?_, hid ?_⟩
                  · have := set_of (set_of (HK5.out.get (new_alloc wr (.cells (freeCells 0 false) 35)) (by simp)) 0 (.int .i64 (l.flag + (j : Int)))) 1 (.bool false); simpa [FreeAt, freeCells] using this
                  · exact (HK4.out.setCell (.inr (Nat.le_refl _)) _).setCell (.inr (Nat.le_refl _)) _
                  · have := HK4.out.size; have := HK5.out.size; simp at this ⊢; omega
              case rest =>
                obtain ⟨Q, rfl, HFR, HKC, HQ1⟩ := hcut
                clear hcP hcg HKS hc
                have HB := hid (HI2.out.bank.keep HKC.out (by simp) (by simp))
                have HP := hid (HKC.out.get HI2.out.plan (by simp))
                have HK := hid (HK2.out.trans HKC.out)
                have HQN : Hid (Q ≠ B ∧ Q ≠ D ∧ w1.heap.size ≠ Q ∧ w.heap.size ≤ Q ∧ w.heap.size ≤ D ∧ g ≠ Q ∧ g ≠ D ∧ w1.heap.size ≠ D) := hid ⟨fun e => by have := HI2.out.bank.ltB; have := HQ1.out; omega, fun e => by have := HI2.out.bank.ltD; have := HQ1.out; omega, fun e => by have := lt_of_heap HI2.out.plan; have := HQ1.out; omega,
                  by have := HK2.out.size; have := HQ1.out; omega, HDW.out.2, fun e => by have := HLF.out.lt; have := HQ1.out; omega, fun e => by have := HLF.out.lt; have := HPD.out; omega, HPD.out.1⟩
                have HLF := hid (HLF.out.keepn HKC.out (by simp))
                have HUP := hid HI2.out.up
                have HLEN := hid HI2.out.len
                clear HI2 HK2 HQ1
                go_wp2_with fail
                refine (c61 Q B D m2 (l.flag + j) false _ HFR.out HB.out HQN.out.1 HQN.out.2.1).mono ?_
                rintro e w5 ⟨rfl, hs⟩
                have HB : Hid (BankAt w5 B D (st m2 (l.flag + j) 0)) := hid (by simpa using hs.bank)
                have HP := hid (hs.kept.get HP.out (nin2 HQN.out.2.2.1 HQN.out.2.2.2.2.2.2.2))
                have HK := hid (HK.out.drop hs.kept (in2 HQN.out.2.2.2.1 HQN.out.2.2.2.2.1))
                have HLF := hid (HLF.out.keepn hs.kept (nin2 HQN.out.2.2.2.2.2.1 HQN.out.2.2.2.2.2.2.1))
                have HUP := hid (HUP.out.st0 hjk HL.out.f0 (by rw [HLEN.out]; exact HFN.out))
                have HLEN : Hid ((st m2 (l.flag + j) 0).length = N) := hid (by rw [st_length]; exact HLEN.out)
                have HU := hid HUP.out.held
                rw [HDR.out] at HU
                clear hs HFR HKC
                go_upto_region 20 with (fail)
                go_cut [9] (fun s9 wc => LeftIs wc (w1.heap.size + 1) s9 (xs.take i ++ xs.drop (i + 1)) ∧ Kept [] w5 wc)
                case first =>
                  have hi5 : (i : Int) ≤ (c : Int) := by omega
                  have hi7 : (q : Int) ≤ (c : Int) := by omega
                  have hi8 : i ≤ c := by omega
                  obtain ⟨i1, e1⟩ : ∃ i1 : Nat, i + 1 = i1 := ⟨_, rfl⟩
                  have hw : IntKind.i64.wrap ((i : Int) + 1) = (i1 : Int) := by rw [IntWalk.i64_in _ (by omega)]; omega
                  have hi6 : (i1 : Int) ≤ (q : Int) := by omega
                  have hi9 : i1 ≤ q := by omega
                  have HE1 := hid e1
                  have hlo : ((xs.take i).map (Value.int .i64)).length = i * 1 := by have := HQ.out; simp; omega
                  have hln : ((xs.drop i1).map (Value.int .i64)).length = (q - i1) * 1 := by have := HQ.out; simp; omega
                  have hi10 : (i : Int) ≤ (q : Int) := by omega
                  have hi11 : i ≤ q := by omega
                  have h1c : ∀ u, u ∈ (xs.drop i1).map (Value.int .i64) → u.oneCell' = true := by
                    intro u hu
                    obtain ⟨x, _, rfl⟩ := List.mem_map.1 hu
                    rfl
                  have H1C := hid h1c
                  have HLO := hid hlo
                  have HLN := hid hln
                  clear h1c hlo hln
                  by_cases hlast : i1 = q
                  · have hd : xs.drop i1 = [] := List.drop_eq_nil_of_le (by have := HQ.out; omega)
                    have HD := hid hd
                    clear hd
                    by_cases hce : c = q
                    ·   clear HE1
                        obtain ⟨e2⟩ : Nonempty (Hid (i + 1 = i1)) := ⟨hid e1⟩
                        clear e1
                        subst hlast hce
                        go_wp2_with fail
                        go_region_law (refine step_append_room rfl (.tmp 70) (.tmp 74) 39 rfl 3 i0 1 Try.underlying39 hi hz1 g 0 i i (by simp [Act.eval, Act.put]) ⟨g, 0, none⟩ 0 0 [] (by simp [Act.eval, Act.put]) rfl (fun j u hj => by simp at hj) (fun u hu => by simp at hu) (by omega) (fun j hj => by simp at hj) ?_)
                        rw [setCells_nil]
                        go_wp2_with fail
                        go_meet
                        rw [e2.out, HD.out, List.append_nil]
                        exact ⟨(HLF.out.cut (by have := HQ.out; omega)).keep (Kept.refl [] _).drew (by simp), (Kept.refl [] _).drew⟩
                    ·   clear HE1
                        obtain ⟨e2⟩ : Nonempty (Hid (i + 1 = i1)) := ⟨hid e1⟩
                        clear e1
                        subst hlast
                        go_wp2_with fail
                        go_region_law (refine step_append_room rfl (.tmp 70) (.tmp 74) 39 rfl 3 i0 1 Try.underlying39 hi hz1 g 0 i i (by simp [Act.eval, Act.put]) ⟨g, i1, none⟩ 0 (c - i1) [] (by simp [Act.eval, Act.put]) rfl (fun j u hj => by simp at hj) (fun u hu => by simp at hu) (by omega) (fun j hj => by simp at hj) ?_)
                        rw [setCells_nil]
                        go_wp2_with fail
                        go_meet
                        rw [e2.out, HD.out, List.append_nil]
                        exact ⟨(HLF.out.cut (by have := HQ.out; omega)).keep (Kept.refl [] _).drew (by simp), (Kept.refl [] _).drew⟩
                  ·   have hcne : ¬ c = i1 := by omega
                      go_wp2_with fail
                      go_region_law (refine step_append_grows rfl (.tmp 70) (.tmp 74) 39 rfl 3 i0 (.int .i64 0) 1 8 Try.underlying39 hi hz0 hz1 hz2 rfl (by decide) (some ⟨g, 0, none⟩) i i ((xs.take i).map (Value.int .i64)) (by simp [Act.eval, Act.put]) (fun h => by cases h) HLO.out (fun b hb => by cases hb; exact HLF.out.takes i) ⟨g, i1, none⟩ (q - i1) (c - i1) ((xs.drop i1).map (Value.int .i64)) (by simp [Act.eval, Act.put]) HLN.out (HLF.out.drops i1) H1C.out (by omega) (by unfold maxLen; omega) (by omega) ?_; intro v' w6 hown hgrow)
                      have HOW := hid hown
                      have kg : Kept [] w5 w6 := (Kept.refl [] _).drew.trans (Kept.grown hgrow)
                      have HKG := hid kg
                      clear hown hgrow kg
                      go_wp2_with fail
                      go_meet
                      refine ⟨?_, HKG.out⟩
                      rw [HE1.out]
                      have hl : (xs.take i ++ xs.drop i1).length = i + (q - i1) := by have := HQ.out; simp; omega
                      have ho : w6.ownsRow (w1.heap.size + 1) 3 1 v' (xs.take i ++ xs.drop i1).length ((xs.take i ++ xs.drop i1).map (Value.int .i64)) := by
                        rw [hl, List.map_append]
                        refine ⟨HOW.out.1, ?_⟩
                        rcases HOW.out.2 with h | ⟨g', cap', cur, rfl, hb', h⟩
                        · exact .inl h
                        · exact .inr ⟨g', cap', cur, rfl, by have := lt_of_heap HP.out; simp at hb'; omega, h⟩
                      exact LeftIs.of_owned ho (by omega)
                case rest =>
                  obtain ⟨hcl, hck⟩ := hcut
                  have HLF := hid hcl
                  have HB := hid (HB.out.keep hck (by simp) (by simp))
                  have HP := hid (hck.get HP.out (by simp))
                  have HK := hid (HK.out.trans hck)
                  have hcP := cells_of HP.out
                  clear hcl hck
                  go_wp2_with fail
                  refine (c55 l B D _ k _ HB.out HL.out.f0 HL.out.f1 HL.out.verts (by omega)).mono ?_
                  rw [HU.out]
                  rintro e w7 ⟨v1, rfl, hk7, hs7, _⟩
                  have HLF := hid (HLF.out.keep hk7 (by simp))
                  have HS := hid hs7
                  have HB := hid (HB.out.keep hk7 (by simp) (by simp))
                  have HP := hid (hk7.get HP.out (by simp))
                  have HK := hid (HK.out.trans hk7)
                  clear hk7 hs7 hcP
                  go_wp2_with fail
                  refine (c64 v1 _ _ _ _ HS.out (by obtain ⟨g', c', _, _, _, _, h⟩ := HLF.out; exact h) (by have := HQ.out; simp; omega)).mono ?_
                  rw [decide_eq_true rfl]
                  rintro e w8 ⟨rfl, hk8⟩
                  have HLF := hid (HLF.out.keep hk8 (by simp))
                  have HB := hid (HB.out.keep hk8 (by simp) (by simp))
                  have HP := hid (hk8.get HP.out (by simp))
                  have HK := hid (HK.out.trans hk8)
                  clear hk8
                  go_wp2_with fail
                  go_roundw
                  case rel => exact ⟨z + 1, _, _, by go_num, by omega, ⟨HLEN.out, HUP.out, HB.out, HK.out, HP.out⟩, by rw [HDR.out]; exact HLF.out⟩
                  case measure => simp [intOf]; omega
          · obtain rfl : z = L := by omega
            go_wp2_with fail
            refine (awake12 _).mono ?_
            rintro e w5 ⟨rfl, hk5⟩
            go_wp2_with fail
            go_ret
            exact ⟨rfl, HI2.out.kept.trans hk5⟩
set_option maxHeartbeats 400000 in
theorem fall_all {w : World} (a0 : Int) (a1 : Option Addr) (len cap : Nat) (f : Nat → Int) (w0 : (Lit.int .u8 a0).wf = true) (w1 : Ints .u8 w a1 len cap f) :
    Calls Try.prog 4 #[.int .u8 a0, .slice a1 len cap] w fun e w' => e = .returned (.bool true) ∧ Below w.heap.size w w' := by
  have hb := bounds_u8 w0
  exact (fall_main a0 (by omega) (by omega) a1 len cap f w w1).mono fun e w' ⟨h1, h2⟩ => ⟨h1, h2.below (Nat.le_refl _) (by simp)⟩
end Go.Proofs.Ytklkopoelhndoaa
