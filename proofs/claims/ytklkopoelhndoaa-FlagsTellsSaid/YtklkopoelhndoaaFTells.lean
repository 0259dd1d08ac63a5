/- The walk of FlagsTells. -/
import Derived.Test.YtklkopoelhndoaaOps12
import Derived.Test.YtklkopoelhndoaaAwake12
import Derived.Test.YtklkopoelhndoaaCmp94
import Derived.Deep.RegionHeld3
import Derived.Deep.DrawnRows
namespace Go.Proofs.Ytklkopoelhndoaa
open Go.RowKit Go.ChangeShapes Go.WideShapes
attribute [local go_sem ↓] Go.wp_at_zero Go.wp_at_succ
set_option linter.unusedVariables false
/-- what is known of a plan of law 12 -/
structure Lay12 (l : Lay) (n : Nat) : Prop where
  verts : l.verts = (n : Int)
  n0 : 1 ≤ n
  n1 : n ≤ 30
  f0 : 0 ≤ l.flag
  f1 : l.flag ≤ 100000
  s0 : 0 ≤ l.size
  s1 : l.size ≤ 524288
  fs : l.flag + n ≤ l.size
theorem lay12 {n : Nat} (h0 : 1 ≤ n) (h1 : n ≤ 30) : Lay12 (planOf n 3 2) n := by
  have hr := (room_pow (n : Int)).bd
  have hm : May (n : Int) 3 2 := ⟨by omega, by omega, by omega, by omega, by omega, by omega⟩
  obtain ⟨s0, s1⟩ := plan_size hm
  refine ⟨rfl, h0, h1, ?_, ?_, s0, s1, ?_⟩
  · show (0 : Int) ≤ 3 + 2 * n; omega
  · show (3 : Int) + 2 * n ≤ 100000; omega
  · show (3 : Int) + 2 * n + n ≤ 3 + 3 * n + 4 + 2 * (roomOf n + 2); omega
structure TellInv12 (l : Lay) (N B D P : Nat) (w wr : World) (g : Nat) (m : List Int) : Prop where
  len : m.length = N
  row : RowIn wr g m
  bank : BankAt wr B D m
  kept : Kept [] w wr
  plan : wr.heap[P]? = some (.cells l.cells 25 (0, 0))
  ne : g ≠ D
set_option maxHeartbeats 4000000 in
set_option maxRecDepth 100000 in
theorem ftells_main (x : Int) (hx0 : 0 ≤ x) (hx1 : x ≤ 255) (b off len cap : Nat) (f : Nat → Op12) (w : World) (hlc : len ≤ cap) (hcm : cap ≤ maxLen) (hb : b < w.heap.size)
    (hf : ∀ k, k < len → (0 ≤ (f k).v ∧ (f k).v ≤ 255) ∧ w.cell? ⟨b, off + k * 3, none⟩ = some (.int .u8 (f k).v) ∧ w.cell? ⟨b, off + k * 3 + 1, none⟩ = some (.bool (f k).free) ∧ w.cell? ⟨b, off + k * 3 + 2, none⟩ = some (.bool (f k).again)) :
    Calls Try.prog 10 #[.int .u8 x, .slice (some ⟨b, off, none⟩) len cap] w fun e w' => e = .returned (.bool true) ∧ Kept [] w w' := by
  unfold maxLen at hcm
  have HF := hid hf
  obtain ⟨n, hn⟩ : ∃ n : Nat, 1 + x % 30 = (n : Int) := ⟨(1 + x % 30).toNat, by omega⟩
  have hn0 : 1 ≤ (n : Int) := by omega
  have hn1 : (n : Int) ≤ 30 := by omega
  have hnz : ¬ (n : Int) = 0 := by omega
  have hnn : ¬ n = 0 := by omega
  have HL := hid (lay12 (n := n) (by omega) (by omega))
  have G := hid (c59 (n : Int) w (by omega) (by omega))
  obtain ⟨l, hl⟩ : ∃ l, planOf (n : Int) 3 2 = l := ⟨_, rfl⟩
  rw [hl] at HL G
  clear hl
  obtain ⟨i0, hi, hz0, hz1, hz2⟩ := info_parts info2
  have hmk : ∀ W : World, (Instr.makeSlice 76 (.int .i64 l.size) (.int .i64 l.size)).run Try.prog W = .ok (.slice (some ⟨W.heap.size, 0, none⟩) l.size.toNat l.size.toNat) (W.alloc (.cells (i64s (List.replicate l.size.toNat 0)) 2)) := by
    intro W
    have h0 := HL.out.s0
    have h1 := HL.out.s1
    have := run_make (P := Try.prog) W 76 2 i0 (.int .i64 0) Try.underlying76 hi hz0 .i64 .i64 l.size l.size h0 (by omega) (by rw [hz2]; omega) (by omega)
    rwa [hz1, Nat.mul_one, madeCells_zero1] at this
  clear hi hz0 hz1 hz2
  obtain ⟨L, hL, hLl, hL1⟩ : ∃ L : Nat, L = min len 120 ∧ L ≤ len ∧ L ≤ 120 := ⟨_, rfl, by omega, by omega⟩
  have hmin : ∀ (ats : Array TypeId) (ty : TypeId), Builtin.min_ ats ty #[.int .i64 (len : Int), .int .i64 120] = pure (.int .i64 (L : Int)) := min_at len 120 L hL
  clear hf hL
  go_enter Try.func10, Try.ntmps10
  go_wp2_with fail
  refine G.out.mono ?_
  clear G
  rintro e w1 ⟨B, D, rfl, hB, hD, hk1, hb1⟩
  have HDW := hid hD
  have HB1 := hid hb1
  have HK1 := hid hk1
  clear hb1 hk1 hD hB
  go_wp2_with fail
  obtain ⟨N, hN⟩ : ∃ N, l.size.toNat = N := ⟨_, rfl⟩
  have HNE : Hid ((N : Int) = l.size) := hid (by have := HL.out.s0; omega)
  have HN5 : Hid (N ≤ 524288) := hid (by have := HL.out.s1; have := HNE.out; omega)
  have HNb : Hid (N ≤ 9223372036854775807) := hid (by have := HN5.out; omega)
  rw [hN] at HB1
  simp only [hN]
  have k2 : Kept [] w1 ((w1.alloc (.cells l.cells 25)).alloc (.cells (i64s (List.replicate N 0)) 2)) := ((Kept.refl _ _).alloc _).alloc _
  have HPD : Hid (w1.heap.size ≠ D) := hid (fun e => by have := HB1.out.ltD; omega)
  have HI0 : Hid (TellInv12 l N B D w1.heap.size w ((w1.alloc (.cells l.cells 25)).alloc (.cells (i64s (List.replicate N 0)) 2)) (w1.heap.size + 1) (List.replicate N 0)) :=
    hid ⟨by simp, RowIn.of_i64s (by have := new_alloc (w1.alloc (.cells l.cells 25)) (.cells (i64s (List.replicate N 0)) 2); simpa using this), HB1.out.keep k2 (by simp) (by simp), HK1.out.trans k2, old_alloc (new_alloc _ _) _, fun e => by have := HB1.out.ltD; omega⟩
  clear hmk hmin k2 HB1 HK1 hN
  go_loopw [9, 37] (fun s9 s wr => ∃ (k g c : Nat) (m : List Int), s9 = .slice (some ⟨g, 0, none⟩) N c ∧ s = .int .i64 k ∧ k ≤ L ∧ TellInv12 l N B D w1.heap.size w wr g m) (fun _ s _ => L - (intOf s).toNat)
  case atStart => exact ⟨0, _, _, _, rfl, rfl, by omega, HI0.out⟩
  case round =>
    obtain ⟨k, g, c, m, rfl, rfl, hk, hinv⟩ := hrel
    have HI := hid hinv
    clear hinv HI0
    by_cases hlt : k < L
    · obtain ⟨ho, h0, h1, h2⟩ := HF.out k (by omega)
      have h0 := HI.out.kept.cellx hb (by simp) h0
      have h1 := HI.out.kept.cellx hb (by simp) h1
      have h2 := HI.out.kept.cellx hb (by simp) h2
      obtain ⟨q, hq⟩ : ∃ q, q = (f k).v := ⟨_, rfl⟩
      obtain ⟨fr, hfr⟩ : ∃ r, r = (f k).free := ⟨_, rfl⟩
      obtain ⟨ag, hag⟩ : ∃ r, r = (f k).again := ⟨_, rfl⟩
      rw [← hq] at h0 ho
      rw [← hfr] at h1
      rw [← hag] at h2
      obtain ⟨q0, q1⟩ := ho
      clear hq hfr hag
      obtain ⟨v, hv⟩ : ∃ v : Int, q % (n : Int) = v := ⟨_, rfl⟩
      have hv0 : 0 ≤ v := by rw [← hv]; exact Int.emod_nonneg q hnz
      have hv1 : v < (n : Int) := by rw [← hv]; exact Int.emod_lt_of_pos q (by omega)
      have hv2 : q.tmod (n : Int) = v := by rw [Int.tmod_eq_emod_of_nonneg q0]; exact hv
      have HFN : Hid (l.flag + v < (N : Int)) := hid (by have := HL.out.fs; have := HNE.out; omega)
      have ka : Kept [] wr (wr.alloc (.cells #[.int .u8 q, .bool fr, .bool ag] 31)) := (Kept.refl _ _).alloc _
      have HB := hid (HI.out.bank.keep ka (by simp) (by simp))
      have HR := hid (HI.out.row.keep ka (by simp))
      have HP := hid (ka.get HI.out.plan (by simp))
      have HK := hid (HI.out.kept.trans ka)
      have HLEN := hid HI.out.len
      have HNE := hid HI.out.ne
      have HO := hid (new_alloc wr (.cells #[.int .u8 q, .bool fr, .bool ag] 31))
      have HOD : Hid (wr.heap.size ≠ D) := hid (fun e => by have := HI.out.bank.ltD; omega)
      have hcP := cells_of HP.out
      clear ka
      cases fr
      · cases ag
        · as_aux_lemma =>
            go_wp2_with fail
            refine (c90 l g c N m v _ HLEN.out HR.out HN5.out HL.out.f0 HL.out.f1 (by omega) (by omega) HFN.out).mono ?_
            rintro e u1 ⟨g', c', rfl, hk1', hr1, hgg⟩
            have HNE : Hid (g' ≠ D) := hid (fun e => by have := HB.out.ltD; have := HNE.out; omega)
            clear hgg
            have HO := hid (hk1'.get HO.out (by simp))
            have HB := hid (HB.out.keep hk1' (by simp) (by simp))
            have HP := hid (hk1'.get HP.out (by simp))
            have HK := hid (HK.out.trans hk1')

            have HR := hid hr1
            clear hr1
            have hcP := cells_of HP.out
            clear hk1'
            go_wp2_with fail
            refine (c91 l v _ HL.out.f0 HL.out.f1 (by omega) (by omega)).mono ?_
            rintro e u2 ⟨rfl, hk1'⟩
            have HO := hid (hk1'.get HO.out (by simp))
            have HB := hid (HB.out.keep hk1' (by simp) (by simp))
            have HR := hid (HR.out.keep hk1' (by simp))
            have HP := hid (hk1'.get HP.out (by simp))
            have HK := hid (HK.out.trans hk1')

            clear hk1' hcP
            go_wp2_with fail
            have ka : Kept [] u2 (u2.alloc (.cells (claimCells (l.flag + v) false false) 81)) := (Kept.refl _ _).alloc _
            have HM := hid (new_alloc u2 (.cells (claimCells (l.flag + v) false false) 81))
            have HMN : Hid (u2.heap.size ≠ B ∧ u2.heap.size ≠ D ∧ g' ≠ u2.heap.size ∧ w1.heap.size ≠ u2.heap.size ∧ w.heap.size ≤ u2.heap.size ∧ wr.heap.size ≠ u2.heap.size) := hid ⟨fun e => by have := HB.out.ltB; omega, fun e => by have := HB.out.ltD; omega, fun e => by have := HR.out.lt; omega, fun e => by have := lt_of_heap HP.out; omega, HK.out.size, fun e => by have := lt_of_heap HO.out; omega⟩
            have HO := hid (ka.get HO.out (by simp))
            have HB := hid (HB.out.keep ka (by simp) (by simp))
            have HR := hid (HR.out.keep ka (by simp))
            have HP := hid (ka.get HP.out (by simp))
            have HK := hid (HK.out.trans ka)

            clear ka
            refine (c92 u2.heap.size (l.flag + v) false false _ HM.out).mono ?_
            rintro e u5 ⟨rfl, rfl⟩
            go_wp2_with fail

            refine (c93 u2.heap.size B D m (l.flag + v) false false _ HM.out HB.out HMN.out.1 HMN.out.2.1).mono ?_
            rintro e u3 ⟨rfl, hs⟩
            have HM := hid hs.claim
            have HB := hid hs.bank
            have HR := hid (HR.out.keep hs.kept (by simp; exact ⟨HMN.out.2.2.1, HNE.out⟩))
            have HP := hid (hs.kept.get HP.out (by simp; exact ⟨HMN.out.2.2.2.1, HPD.out⟩))
            have HK := hid (HK.out.drop hs.kept (fun x hx => .inr (by simp at hx; have := HMN.out.2.2.2.2.1; have := HDW.out; omega)))
            have HO := hid (hs.kept.get HO.out (by simp; exact ⟨HMN.out.2.2.2.2.2, HOD.out⟩))
            try clear hcO
            have hcO := cells_of HO.out
            clear hs
            go_wp2_with fail

            refine (c92 u2.heap.size (l.flag + v) true (hits m (l.flag + v) 0) _ HM.out).mono ?_
            rintro e u6 ⟨rfl, rfl⟩
            obtain ⟨m', hm'⟩ : ∃ m', m' = claimed m (l.flag + v) := ⟨_, rfl⟩
            have HLEN : Hid (m'.length = N) := hid (by rw [hm']; exact (claimed_length m (l.flag + v)).trans HLEN.out)
            have HR : Hid (RowIn u3 g' m') := hid (by rw [hm']; exact HR.out)
            have HB : Hid (BankAt u3 B D m') := hid (by rw [hm']; exact HB.out)
            clear hm'

            clear hcO
            have hcP := cells_of HP.out
            go_wp2_with fail
            go_region_held3 (fun w' => ∀ i, w'.cell? ⟨w1.heap.size, i, none⟩ = l.cells[i]?) (first | exact hcP | exact hcP1 | exact hcP2 | exact hcP3 | exact hcP4 | exact hcP5) (first | (go_at_call 46; refine (c48n B D N m' _ HLEN.out (HB.out.keep (Kept.refl [] _).drew (by simp) (by simp))).mono ?_; rintro e y1 ⟨O2, rfl, hO2, hk1', hr1⟩; have hcP1 := cells_of (hk1'.get HP.out (by simp))) | (go_at_call 45; refine (c94 _ _ m' m' y1 (SliceIs.of_rown HLEN.out hr1) (SliceIs.of_rown HLEN.out (HR.out.keep ((Kept.refl [] _).drew.trans hk1') (by simp))) (by rw [HLEN.out]; exact HNb.out)).mono ?_; rw [decide_eq_true rfl]; rintro e y2 ⟨rfl, hk2'⟩; have hcP2 := cells_of (hk2'.get (hk1'.get HP.out (by simp)) (by simp))) | (go_at_call 19; refine (c55 l B D m' n y2 ((HB.out.keep ((Kept.refl [] _).drew.trans hk1') (by simp) (by simp)).keep hk2' (by simp) (by simp)) HL.out.f0 HL.out.f1 HL.out.verts (by have := HL.out.n1; omega)).mono ?_; rintro e y3 ⟨v1, rfl, hk3', hs3, _⟩; have hcP3 := cells_of (hk3'.get (hk2'.get (hk1'.get HP.out (by simp)) (by simp)) (by simp))) | (go_at_call 47; refine (c95 l g' c' N m' n y3 HLEN.out (((HR.out.keep ((Kept.refl [] _).drew.trans hk1') (by simp)).keep hk2' (by simp)).keep hk3' (by simp)) HL.out.f0 HL.out.f1 HL.out.verts (by have := HL.out.n1; omega)).mono ?_; rintro e y4 ⟨v2, rfl, hk4', hs4, _⟩; have hcP4 := cells_of (hk4'.get (hk3'.get (hk2'.get (hk1'.get HP.out (by simp)) (by simp)) (by simp)) (by simp))) | (go_at_call 21; refine (c64 v1 v2 _ _ y4 (hs3.keep0 hk4') hs4 (by have := heldUp_le l.flag m' n; have := HL.out.n1; omega)).mono ?_; rw [decide_eq_true rfl]; rintro e y5 ⟨rfl, hk5'⟩; have hcP5 := cells_of (hk5'.get (hk4'.get (hk3'.get (hk2'.get (hk1'.get HP.out (by simp)) (by simp)) (by simp)) (by simp)) (by simp))))
            have kk := (((((Kept.refl [] _).drew.trans hk1').trans hk2').trans hk3').trans hk4').trans hk5'
            have HKK := hid kk
            clear kk hcP hcP1 hcP2 hcP3 hcP4 hcP5 hk1' hk2' hk3' hk4' hk5' hs3 hs4 hr1 hO2
            go_wp2_with fail
            go_roundw
            case rel => exact ⟨k + 1, g', c', m', rfl, by go_num, by omega, ⟨HLEN.out, HR.out.keep HKK.out (by simp), HB.out.keep HKK.out (by simp) (by simp), HK.out.trans HKK.out, HKK.out.get HP.out (by simp), HNE.out⟩⟩
            case measure => simp [intOf]; omega
        · as_aux_lemma =>
            go_wp2_with fail
            refine (c90 l g c N m v _ HLEN.out HR.out HN5.out HL.out.f0 HL.out.f1 (by omega) (by omega) HFN.out).mono ?_
            rintro e u1 ⟨g', c', rfl, hk1', hr1, hgg⟩
            have HNE : Hid (g' ≠ D) := hid (fun e => by have := HB.out.ltD; have := HNE.out; omega)
            clear hgg
            have HO := hid (hk1'.get HO.out (by simp))
            have HB := hid (HB.out.keep hk1' (by simp) (by simp))
            have HP := hid (hk1'.get HP.out (by simp))
            have HK := hid (HK.out.trans hk1')

            have HR := hid hr1
            clear hr1
            have hcP := cells_of HP.out
            clear hk1'
            go_wp2_with fail
            refine (c91 l v _ HL.out.f0 HL.out.f1 (by omega) (by omega)).mono ?_
            rintro e u2 ⟨rfl, hk1'⟩
            have HO := hid (hk1'.get HO.out (by simp))
            have HB := hid (HB.out.keep hk1' (by simp) (by simp))
            have HR := hid (HR.out.keep hk1' (by simp))
            have HP := hid (hk1'.get HP.out (by simp))
            have HK := hid (HK.out.trans hk1')

            clear hk1' hcP
            go_wp2_with fail
            have ka : Kept [] u2 (u2.alloc (.cells (claimCells (l.flag + v) false false) 81)) := (Kept.refl _ _).alloc _
            have HM := hid (new_alloc u2 (.cells (claimCells (l.flag + v) false false) 81))
            have HMN : Hid (u2.heap.size ≠ B ∧ u2.heap.size ≠ D ∧ g' ≠ u2.heap.size ∧ w1.heap.size ≠ u2.heap.size ∧ w.heap.size ≤ u2.heap.size ∧ wr.heap.size ≠ u2.heap.size) := hid ⟨fun e => by have := HB.out.ltB; omega, fun e => by have := HB.out.ltD; omega, fun e => by have := HR.out.lt; omega, fun e => by have := lt_of_heap HP.out; omega, HK.out.size, fun e => by have := lt_of_heap HO.out; omega⟩
            have HO := hid (ka.get HO.out (by simp))
            have HB := hid (HB.out.keep ka (by simp) (by simp))
            have HR := hid (HR.out.keep ka (by simp))
            have HP := hid (ka.get HP.out (by simp))
            have HK := hid (HK.out.trans ka)

            clear ka
            refine (c92 u2.heap.size (l.flag + v) false false _ HM.out).mono ?_
            rintro e u5 ⟨rfl, rfl⟩
            go_wp2_with fail

            refine (c93 u2.heap.size B D m (l.flag + v) false false _ HM.out HB.out HMN.out.1 HMN.out.2.1).mono ?_
            rintro e u3 ⟨rfl, hs⟩
            have HM := hid hs.claim
            have HB := hid hs.bank
            have HR := hid (HR.out.keep hs.kept (by simp; exact ⟨HMN.out.2.2.1, HNE.out⟩))
            have HP := hid (hs.kept.get HP.out (by simp; exact ⟨HMN.out.2.2.2.1, HPD.out⟩))
            have HK := hid (HK.out.drop hs.kept (fun x hx => .inr (by simp at hx; have := HMN.out.2.2.2.2.1; have := HDW.out; omega)))
            have HO := hid (hs.kept.get HO.out (by simp; exact ⟨HMN.out.2.2.2.2.2, HOD.out⟩))
            try clear hcO
            have hcO := cells_of HO.out
            clear hs
            go_wp2_with fail

            refine (c93 u2.heap.size B D (claimed m (l.flag + v)) (l.flag + v) true (hits m (l.flag + v) 0) _ HM.out HB.out HMN.out.1 HMN.out.2.1).mono ?_
            rintro e u4 ⟨rfl, hs⟩
            have HM := hid hs.claim
            have HB := hid hs.bank
            have HR := hid (HR.out.keep hs.kept (by simp; exact ⟨HMN.out.2.2.1, HNE.out⟩))
            have HP := hid (hs.kept.get HP.out (by simp; exact ⟨HMN.out.2.2.2.1, HPD.out⟩))
            have HK := hid (HK.out.drop hs.kept (fun x hx => .inr (by simp at hx; have := HMN.out.2.2.2.2.1; have := HDW.out; omega)))
            have HO := hid (hs.kept.get HO.out (by simp; exact ⟨HMN.out.2.2.2.2.2, HOD.out⟩))
            try clear hcO
            have hcO := cells_of HO.out
            clear hs
            go_wp2_with fail

            refine (c92 u2.heap.size (l.flag + v) true (hits m (l.flag + v) 0) _ HM.out).mono ?_
            rintro e u6 ⟨rfl, rfl⟩
            obtain ⟨m', hm'⟩ : ∃ m', m' = claimed m (l.flag + v) := ⟨_, rfl⟩
            have HLEN : Hid (m'.length = N) := hid (by rw [hm']; exact (claimed_length m (l.flag + v)).trans HLEN.out)
            have HR : Hid (RowIn u4 g' m') := hid (by rw [hm']; exact HR.out)
            have HB : Hid (BankAt u4 B D m') := hid (by rw [hm']; exact HB.out)
            clear hm'

            clear hcO
            have hcP := cells_of HP.out
            go_wp2_with fail
            go_region_held3 (fun w' => ∀ i, w'.cell? ⟨w1.heap.size, i, none⟩ = l.cells[i]?) (first | exact hcP | exact hcP1 | exact hcP2 | exact hcP3 | exact hcP4 | exact hcP5) (first | (go_at_call 46; refine (c48n B D N m' _ HLEN.out (HB.out.keep (Kept.refl [] _).drew (by simp) (by simp))).mono ?_; rintro e y1 ⟨O2, rfl, hO2, hk1', hr1⟩; have hcP1 := cells_of (hk1'.get HP.out (by simp))) | (go_at_call 45; refine (c94 _ _ m' m' y1 (SliceIs.of_rown HLEN.out hr1) (SliceIs.of_rown HLEN.out (HR.out.keep ((Kept.refl [] _).drew.trans hk1') (by simp))) (by rw [HLEN.out]; exact HNb.out)).mono ?_; rw [decide_eq_true rfl]; rintro e y2 ⟨rfl, hk2'⟩; have hcP2 := cells_of (hk2'.get (hk1'.get HP.out (by simp)) (by simp))) | (go_at_call 19; refine (c55 l B D m' n y2 ((HB.out.keep ((Kept.refl [] _).drew.trans hk1') (by simp) (by simp)).keep hk2' (by simp) (by simp)) HL.out.f0 HL.out.f1 HL.out.verts (by have := HL.out.n1; omega)).mono ?_; rintro e y3 ⟨v1, rfl, hk3', hs3, _⟩; have hcP3 := cells_of (hk3'.get (hk2'.get (hk1'.get HP.out (by simp)) (by simp)) (by simp))) | (go_at_call 47; refine (c95 l g' c' N m' n y3 HLEN.out (((HR.out.keep ((Kept.refl [] _).drew.trans hk1') (by simp)).keep hk2' (by simp)).keep hk3' (by simp)) HL.out.f0 HL.out.f1 HL.out.verts (by have := HL.out.n1; omega)).mono ?_; rintro e y4 ⟨v2, rfl, hk4', hs4, _⟩; have hcP4 := cells_of (hk4'.get (hk3'.get (hk2'.get (hk1'.get HP.out (by simp)) (by simp)) (by simp)) (by simp))) | (go_at_call 21; refine (c64 v1 v2 _ _ y4 (hs3.keep0 hk4') hs4 (by have := heldUp_le l.flag m' n; have := HL.out.n1; omega)).mono ?_; rw [decide_eq_true rfl]; rintro e y5 ⟨rfl, hk5'⟩; have hcP5 := cells_of (hk5'.get (hk4'.get (hk3'.get (hk2'.get (hk1'.get HP.out (by simp)) (by simp)) (by simp)) (by simp)) (by simp))))
            have kk := (((((Kept.refl [] _).drew.trans hk1').trans hk2').trans hk3').trans hk4').trans hk5'
            have HKK := hid kk
            clear kk hcP hcP1 hcP2 hcP3 hcP4 hcP5 hk1' hk2' hk3' hk4' hk5' hs3 hs4 hr1 hO2
            go_wp2_with fail
            go_roundw
            case rel => exact ⟨k + 1, g', c', m', rfl, by go_num, by omega, ⟨HLEN.out, HR.out.keep HKK.out (by simp), HB.out.keep HKK.out (by simp) (by simp), HK.out.trans HKK.out, HKK.out.get HP.out (by simp), HNE.out⟩⟩
            case measure => simp [intOf]; omega
      · cases ag
        · as_aux_lemma =>
            go_wp2_with fail
            refine (c89 l g c N m v _ HLEN.out HR.out HN5.out HL.out.f0 HL.out.f1 (by omega) (by omega)).mono ?_
            rintro e u1 ⟨g', c', rfl, hg, hk1', hr1, hc1⟩
            have HNE : Hid (g' ≠ D) := hid (fun e => by have := HB.out.ltD; omega)
            have HLEN := hid ((st_length m (l.flag + v) 0).trans HLEN.out)
            have HO := hid (hk1'.get HO.out (by simp))
            have HB := hid (HB.out.keep hk1' (by simp) (by simp))
            have HP := hid (hk1'.get HP.out (by simp))
            have HK := hid (HK.out.trans hk1')

            have HR := hid hr1
            clear hg hk1' hr1 hc1
            have hcP := cells_of HP.out
            go_wp2_with fail
            refine (c60 l v _ HL.out.f0 HL.out.f1 (by omega) (by omega)).mono ?_
            rintro e u2 ⟨rfl, hk1'⟩
            have HO := hid (hk1'.get HO.out (by simp))
            have HB := hid (HB.out.keep hk1' (by simp) (by simp))
            have HR := hid (HR.out.keep hk1' (by simp))
            have HP := hid (hk1'.get HP.out (by simp))
            have HK := hid (HK.out.trans hk1')

            clear hk1' hcP
            go_wp2_with fail
            have ka : Kept [] u2 (u2.alloc (.cells (freeCells (l.flag + v) false) 35)) := (Kept.refl _ _).alloc _
            have HM := hid (new_alloc u2 (.cells (freeCells (l.flag + v) false) 35))
            have HMN : Hid (u2.heap.size ≠ B ∧ u2.heap.size ≠ D ∧ g' ≠ u2.heap.size ∧ w1.heap.size ≠ u2.heap.size ∧ w.heap.size ≤ u2.heap.size ∧ wr.heap.size ≠ u2.heap.size) := hid ⟨fun e => by have := HB.out.ltB; omega, fun e => by have := HB.out.ltD; omega, fun e => by have := HR.out.lt; omega, fun e => by have := lt_of_heap HP.out; omega, HK.out.size, fun e => by have := lt_of_heap HO.out; omega⟩
            have HO := hid (ka.get HO.out (by simp))
            have HB := hid (HB.out.keep ka (by simp) (by simp))
            have HR := hid (HR.out.keep ka (by simp))
            have HP := hid (ka.get HP.out (by simp))
            have HK := hid (HK.out.trans ka)

            clear ka

            refine (c61 u2.heap.size B D m (l.flag + v) false _ HM.out HB.out HMN.out.1 HMN.out.2.1).mono ?_
            rintro e u3 ⟨rfl, hs⟩
            have HM := hid hs.free
            have HB := hid hs.bank
            have HR := hid (HR.out.keep hs.kept (by simp; exact ⟨HMN.out.2.2.1, HNE.out⟩))
            have HP := hid (hs.kept.get HP.out (by simp; exact ⟨HMN.out.2.2.2.1, HPD.out⟩))
            have HK := hid (HK.out.drop hs.kept (fun x hx => .inr (by simp at hx; have := HMN.out.2.2.2.2.1; have := HDW.out; omega)))
            have HO := hid (hs.kept.get HO.out (by simp; exact ⟨HMN.out.2.2.2.2.2, HOD.out⟩))
            try clear hcO
            have hcO := cells_of HO.out
            clear hs
            go_wp2_with fail
            obtain ⟨m', hm'⟩ : ∃ m', m' = st m (l.flag + v) 0 := ⟨_, rfl⟩
            have HLEN : Hid (m'.length = N) := hid (by rw [hm']; exact HLEN.out)
            have HR : Hid (RowIn u3 g' m') := hid (by rw [hm']; exact HR.out)
            have HB : Hid (BankAt u3 B D m') := hid (by rw [hm']; exact HB.out)
            clear hm'

            clear hcO
            have hcP := cells_of HP.out
            go_wp2_with fail
            go_region_held3 (fun w' => ∀ i, w'.cell? ⟨w1.heap.size, i, none⟩ = l.cells[i]?) (first | exact hcP | exact hcP1 | exact hcP2 | exact hcP3 | exact hcP4 | exact hcP5) (first | (go_at_call 46; refine (c48n B D N m' _ HLEN.out (HB.out.keep (Kept.refl [] _).drew (by simp) (by simp))).mono ?_; rintro e y1 ⟨O2, rfl, hO2, hk1', hr1⟩; have hcP1 := cells_of (hk1'.get HP.out (by simp))) | (go_at_call 45; refine (c94 _ _ m' m' y1 (SliceIs.of_rown HLEN.out hr1) (SliceIs.of_rown HLEN.out (HR.out.keep ((Kept.refl [] _).drew.trans hk1') (by simp))) (by rw [HLEN.out]; exact HNb.out)).mono ?_; rw [decide_eq_true rfl]; rintro e y2 ⟨rfl, hk2'⟩; have hcP2 := cells_of (hk2'.get (hk1'.get HP.out (by simp)) (by simp))) | (go_at_call 19; refine (c55 l B D m' n y2 ((HB.out.keep ((Kept.refl [] _).drew.trans hk1') (by simp) (by simp)).keep hk2' (by simp) (by simp)) HL.out.f0 HL.out.f1 HL.out.verts (by have := HL.out.n1; omega)).mono ?_; rintro e y3 ⟨v1, rfl, hk3', hs3, _⟩; have hcP3 := cells_of (hk3'.get (hk2'.get (hk1'.get HP.out (by simp)) (by simp)) (by simp))) | (go_at_call 47; refine (c95 l g' c' N m' n y3 HLEN.out (((HR.out.keep ((Kept.refl [] _).drew.trans hk1') (by simp)).keep hk2' (by simp)).keep hk3' (by simp)) HL.out.f0 HL.out.f1 HL.out.verts (by have := HL.out.n1; omega)).mono ?_; rintro e y4 ⟨v2, rfl, hk4', hs4, _⟩; have hcP4 := cells_of (hk4'.get (hk3'.get (hk2'.get (hk1'.get HP.out (by simp)) (by simp)) (by simp)) (by simp))) | (go_at_call 21; refine (c64 v1 v2 _ _ y4 (hs3.keep0 hk4') hs4 (by have := heldUp_le l.flag m' n; have := HL.out.n1; omega)).mono ?_; rw [decide_eq_true rfl]; rintro e y5 ⟨rfl, hk5'⟩; have hcP5 := cells_of (hk5'.get (hk4'.get (hk3'.get (hk2'.get (hk1'.get HP.out (by simp)) (by simp)) (by simp)) (by simp)) (by simp))))
            have kk := (((((Kept.refl [] _).drew.trans hk1').trans hk2').trans hk3').trans hk4').trans hk5'
            have HKK := hid kk
            clear kk hcP hcP1 hcP2 hcP3 hcP4 hcP5 hk1' hk2' hk3' hk4' hk5' hs3 hs4 hr1 hO2
            go_wp2_with fail
            go_roundw
            case rel => exact ⟨k + 1, g', c', m', rfl, by go_num, by omega, ⟨HLEN.out, HR.out.keep HKK.out (by simp), HB.out.keep HKK.out (by simp) (by simp), HK.out.trans HKK.out, HKK.out.get HP.out (by simp), HNE.out⟩⟩
            case measure => simp [intOf]; omega
        · as_aux_lemma =>
            go_wp2_with fail
            refine (c89 l g c N m v _ HLEN.out HR.out HN5.out HL.out.f0 HL.out.f1 (by omega) (by omega)).mono ?_
            rintro e u1 ⟨g', c', rfl, hg, hk1', hr1, hc1⟩
            have HNE : Hid (g' ≠ D) := hid (fun e => by have := HB.out.ltD; omega)
            have HLEN := hid ((st_length m (l.flag + v) 0).trans HLEN.out)
            have HO := hid (hk1'.get HO.out (by simp))
            have HB := hid (HB.out.keep hk1' (by simp) (by simp))
            have HP := hid (hk1'.get HP.out (by simp))
            have HK := hid (HK.out.trans hk1')

            have HR := hid hr1
            clear hg hk1' hr1 hc1
            have hcP := cells_of HP.out
            go_wp2_with fail
            refine (c60 l v _ HL.out.f0 HL.out.f1 (by omega) (by omega)).mono ?_
            rintro e u2 ⟨rfl, hk1'⟩
            have HO := hid (hk1'.get HO.out (by simp))
            have HB := hid (HB.out.keep hk1' (by simp) (by simp))
            have HR := hid (HR.out.keep hk1' (by simp))
            have HP := hid (hk1'.get HP.out (by simp))
            have HK := hid (HK.out.trans hk1')

            clear hk1' hcP
            go_wp2_with fail
            have ka : Kept [] u2 (u2.alloc (.cells (freeCells (l.flag + v) false) 35)) := (Kept.refl _ _).alloc _
            have HM := hid (new_alloc u2 (.cells (freeCells (l.flag + v) false) 35))
            have HMN : Hid (u2.heap.size ≠ B ∧ u2.heap.size ≠ D ∧ g' ≠ u2.heap.size ∧ w1.heap.size ≠ u2.heap.size ∧ w.heap.size ≤ u2.heap.size ∧ wr.heap.size ≠ u2.heap.size) := hid ⟨fun e => by have := HB.out.ltB; omega, fun e => by have := HB.out.ltD; omega, fun e => by have := HR.out.lt; omega, fun e => by have := lt_of_heap HP.out; omega, HK.out.size, fun e => by have := lt_of_heap HO.out; omega⟩
            have HO := hid (ka.get HO.out (by simp))
            have HB := hid (HB.out.keep ka (by simp) (by simp))
            have HR := hid (HR.out.keep ka (by simp))
            have HP := hid (ka.get HP.out (by simp))
            have HK := hid (HK.out.trans ka)

            clear ka

            refine (c61 u2.heap.size B D m (l.flag + v) false _ HM.out HB.out HMN.out.1 HMN.out.2.1).mono ?_
            rintro e u3 ⟨rfl, hs⟩
            have HM := hid hs.free
            have HB := hid hs.bank
            have HR := hid (HR.out.keep hs.kept (by simp; exact ⟨HMN.out.2.2.1, HNE.out⟩))
            have HP := hid (hs.kept.get HP.out (by simp; exact ⟨HMN.out.2.2.2.1, HPD.out⟩))
            have HK := hid (HK.out.drop hs.kept (fun x hx => .inr (by simp at hx; have := HMN.out.2.2.2.2.1; have := HDW.out; omega)))
            have HO := hid (hs.kept.get HO.out (by simp; exact ⟨HMN.out.2.2.2.2.2, HOD.out⟩))
            try clear hcO
            have hcO := cells_of HO.out
            clear hs
            go_wp2_with fail

            refine (c61 u2.heap.size B D (st m (l.flag + v) 0) (l.flag + v) true _ HM.out HB.out HMN.out.1 HMN.out.2.1).mono ?_
            rintro e u4 ⟨rfl, hs⟩
            have HM := hid hs.free
            have HB := hid hs.bank
            have HR := hid (HR.out.keep hs.kept (by simp; exact ⟨HMN.out.2.2.1, HNE.out⟩))
            have HP := hid (hs.kept.get HP.out (by simp; exact ⟨HMN.out.2.2.2.1, HPD.out⟩))
            have HK := hid (HK.out.drop hs.kept (fun x hx => .inr (by simp at hx; have := HMN.out.2.2.2.2.1; have := HDW.out; omega)))
            have HO := hid (hs.kept.get HO.out (by simp; exact ⟨HMN.out.2.2.2.2.2, HOD.out⟩))
            try clear hcO
            have hcO := cells_of HO.out
            clear hs
            go_wp2_with fail
            obtain ⟨m', hm'⟩ : ∃ m', m' = st m (l.flag + v) 0 := ⟨_, rfl⟩
            have HLEN : Hid (m'.length = N) := hid (by rw [hm']; exact HLEN.out)
            have HR : Hid (RowIn u4 g' m') := hid (by rw [hm']; exact HR.out)
            have HB : Hid (BankAt u4 B D m') := hid (by rw [hm']; exact HB.out)
            clear hm'

            clear hcO
            have hcP := cells_of HP.out
            go_wp2_with fail
            go_region_held3 (fun w' => ∀ i, w'.cell? ⟨w1.heap.size, i, none⟩ = l.cells[i]?) (first | exact hcP | exact hcP1 | exact hcP2 | exact hcP3 | exact hcP4 | exact hcP5) (first | (go_at_call 46; refine (c48n B D N m' _ HLEN.out (HB.out.keep (Kept.refl [] _).drew (by simp) (by simp))).mono ?_; rintro e y1 ⟨O2, rfl, hO2, hk1', hr1⟩; have hcP1 := cells_of (hk1'.get HP.out (by simp))) | (go_at_call 45; refine (c94 _ _ m' m' y1 (SliceIs.of_rown HLEN.out hr1) (SliceIs.of_rown HLEN.out (HR.out.keep ((Kept.refl [] _).drew.trans hk1') (by simp))) (by rw [HLEN.out]; exact HNb.out)).mono ?_; rw [decide_eq_true rfl]; rintro e y2 ⟨rfl, hk2'⟩; have hcP2 := cells_of (hk2'.get (hk1'.get HP.out (by simp)) (by simp))) | (go_at_call 19; refine (c55 l B D m' n y2 ((HB.out.keep ((Kept.refl [] _).drew.trans hk1') (by simp) (by simp)).keep hk2' (by simp) (by simp)) HL.out.f0 HL.out.f1 HL.out.verts (by have := HL.out.n1; omega)).mono ?_; rintro e y3 ⟨v1, rfl, hk3', hs3, _⟩; have hcP3 := cells_of (hk3'.get (hk2'.get (hk1'.get HP.out (by simp)) (by simp)) (by simp))) | (go_at_call 47; refine (c95 l g' c' N m' n y3 HLEN.out (((HR.out.keep ((Kept.refl [] _).drew.trans hk1') (by simp)).keep hk2' (by simp)).keep hk3' (by simp)) HL.out.f0 HL.out.f1 HL.out.verts (by have := HL.out.n1; omega)).mono ?_; rintro e y4 ⟨v2, rfl, hk4', hs4, _⟩; have hcP4 := cells_of (hk4'.get (hk3'.get (hk2'.get (hk1'.get HP.out (by simp)) (by simp)) (by simp)) (by simp))) | (go_at_call 21; refine (c64 v1 v2 _ _ y4 (hs3.keep0 hk4') hs4 (by have := heldUp_le l.flag m' n; have := HL.out.n1; omega)).mono ?_; rw [decide_eq_true rfl]; rintro e y5 ⟨rfl, hk5'⟩; have hcP5 := cells_of (hk5'.get (hk4'.get (hk3'.get (hk2'.get (hk1'.get HP.out (by simp)) (by simp)) (by simp)) (by simp)) (by simp))))
            have kk := (((((Kept.refl [] _).drew.trans hk1').trans hk2').trans hk3').trans hk4').trans hk5'
            have HKK := hid kk
            clear kk hcP hcP1 hcP2 hcP3 hcP4 hcP5 hk1' hk2' hk3' hk4' hk5' hs3 hs4 hr1 hO2
            go_wp2_with fail
            go_roundw
            case rel => exact ⟨k + 1, g', c', m', rfl, by go_num, by omega, ⟨HLEN.out, HR.out.keep HKK.out (by simp), HB.out.keep HKK.out (by simp) (by simp), HK.out.trans HKK.out, HKK.out.get HP.out (by simp), HNE.out⟩⟩
            case measure => simp [intOf]; omega
    · obtain rfl : k = L := by omega
      go_wp2_with fail
      refine (awake12 _).mono ?_
      rintro e w5 ⟨rfl, hk5⟩
      go_wp2_with fail
      go_ret
      exact ⟨rfl, HI.out.kept.trans hk5⟩
end Go.Proofs.Ytklkopoelhndoaa
