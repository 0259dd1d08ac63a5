/- The walk of CellsAdds. -/
import Derived.Test.YtbhaknoggbegiaaOnce0
import Derived.Test.YtbhaknoggbegiaaAddsPlain
import Derived.Deep.DeepCutAuto
namespace Go.Proofs.Ytbhaknoggbegiaa
open Go.RowKit
attribute [local go_sem ↓] Go.wp_at_zero Go.wp_at_succ
set_option linter.unusedVariables false
/-- a row of accesses in an older block -/
def Old10 (w : World) (b off len : Nat) (f : Nat → Op10) : Prop :=
  b < w.heap.size ∧ ∀ k, k < len → (f k).Ok ∧ w.cell? ⟨b, off + k * 5, none⟩ = some (.int .u8 (f k).what) ∧ w.cell? ⟨b, off + k * 5 + 1, none⟩ = some (.int .i64 (f k).at_) ∧
      w.cell? ⟨b, off + k * 5 + 2, none⟩ = some (.int .i64 (f k).v) ∧ w.cell? ⟨b, off + k * 5 + 3, none⟩ = some (.int .i64 (f k).old) ∧ w.cell? ⟨b, off + k * 5 + 4, none⟩ = some (.bool (f k).right)
theorem Old10.keep {w w' : World} {b off len : Nat} {f : Nat → Op10} (h : Old10 w b off len f) {L : List Nat} (k : Kept L w w') (hn : b ∉ L) : Old10 w' b off len f :=
  ⟨Nat.lt_of_lt_of_le h.1 k.size, fun i hi => by
    obtain ⟨h0, h1, h2, h3, h4, h5⟩ := h.2 i hi
    exact ⟨h0, k.cell h.1 hn h1, k.cell h.1 hn h2, k.cell h.1 hn h3, k.cell h.1 hn h4, k.cell h.1 hn h5⟩⟩
theorem zero_getD (n j : Nat) : (List.replicate n (0 : Int)).getD j 0 = 0 := by
  rw [List.getD_eq_getElem?_getD, List.getElem?_replicate]; split <;> rfl
/-- the two banks, behind k additions each -/
structure AddsInv (n B D B2 D2 : Nat) (w wr : World) (m m2 : List Int) : Prop where
  len : m.length = n
  len2 : m2.length = n
  bank : BankAt wr B D m
  bank2 : BankAt wr B2 D2 m2
  kept : Kept [] w wr
  n1 : B ≠ B2 ∧ B ≠ D2 ∧ D ≠ B2 ∧ D ≠ D2
  n2 : w.heap.size ≤ B ∧ w.heap.size ≤ D ∧ w.heap.size ≤ B2 ∧ w.heap.size ≤ D2
set_option maxHeartbeats 4000000 in
set_option maxRecDepth 100000 in
theorem adds_main (x t : Int) (hx0 : 0 ≤ x) (hx1 : x ≤ 255) (ht0 : 0 ≤ t) (ht1 : t ≤ 255) (b off len cap : Nat) (f : Nat → Op10) (w : World) (hlen : 0 < len) (hlc : len ≤ cap) (hcm : cap ≤ maxLen) (hf : Old10 w b off len f) :
    Calls Try.prog 6 #[.int .u8 x, .slice (some ⟨b, off, none⟩) len cap, .int .u8 t] w fun e w' => e = .returned (.bool true) ∧ Kept [] w w' := by
  unfold maxLen at hcm
  have HF := hid hf
  obtain ⟨n, hn⟩ : ∃ n : Nat, 1 + x % 20 = (n : Int) := ⟨(1 + x % 20).toNat, by omega⟩
  have hn0 : 1 ≤ (n : Int) := by omega
  have hn1 : (n : Int) ≤ 20 := by omega
  have hnz : ¬ (n : Int) = 0 := by omega
  obtain ⟨L, hL, hLl, hL1⟩ : ∃ L : Nat, L = min len 60 ∧ L ≤ len ∧ L ≤ 60 := ⟨_, rfl, by omega, by omega⟩
  have hL0 : 1 ≤ (L : Int) := by omega
  have hLz : ¬ (L : Int) = 0 := by omega
  have hLn : ¬ L = 0 := by omega
  have hnn : ¬ n = 0 := by omega
  have hmin : ∀ (ats : Array TypeId) (ty : TypeId), Builtin.min_ ats ty #[.int .i64 (len : Int), .int .i64 60] = pure (.int .i64 (L : Int)) := min_at len 60 L hL
  clear hf hL
  go_enter Try.func6, Try.ntmps6
  go_wp2_with fail
  refine (new_ok n (by omega) _).mono ?_
  rintro e w1 ⟨B, D, rfl, hB, hD, hk1, hb1⟩
  have HB1 := hid hb1
  have HK1 := hid hk1
  have HE1 : Hid (w.heap.size ≤ B ∧ w.heap.size ≤ D) := hid ⟨hB, hD⟩
  clear hb1 hk1 hD hB
  go_wp2_with fail
  refine (new_ok n (by omega) _).mono ?_
  rintro e w2 ⟨B2, D2, rfl, hB, hD, hk2, hb2⟩
  have HI0 : Hid (AddsInv n B D B2 D2 w w2 (List.replicate n 0) (List.replicate n 0)) := by
    have := HK1.out.size
    have := HB1.out.ltB
    have := HB1.out.ltD
    have := HE1.out
    exact hid ⟨by simp, by simp, HB1.out.keep hk2 (by simp) (by simp), hb2, HK1.out.trans hk2, ⟨by omega, by omega, by omega, by omega⟩, ⟨by omega, by omega, by omega, by omega⟩⟩
  clear hb2 hk2 hD hB HB1 HK1 HE1
  go_wp2_with fail
  clear hmin
  go_loopw [47] (fun s wr => ∃ (k : Nat), s = .int .i64 k ∧ k ≤ L ∧ AddsInv n B D B2 D2 w wr (addUp n f (fun j => (f j).v) (List.replicate n 0) k) (addUp n (fun j => f ((j + t.toNat) % L)) (fun j => (f ((j + t.toNat) % L)).v) (List.replicate n 0) k)) (fun s _ => L - (intOf s).toNat)
  case atStart => exact ⟨0, rfl, by omega, HI0.out⟩
  case round =>
    obtain ⟨k, rfl, hk, hinv⟩ := hrel
    obtain ⟨m, hm⟩ : ∃ m, m = addUp n f (fun j => (f j).v) (List.replicate n 0) k := ⟨_, rfl⟩
    obtain ⟨m2, hm2⟩ : ∃ m, m = addUp n (fun j => f ((j + t.toNat) % L)) (fun j => (f ((j + t.toNat) % L)).v) (List.replicate n 0) k := ⟨_, rfl⟩
    rw [← hm, ← hm2] at hinv
    have HI := hid hinv
    have HM := hid hm
    have HM2 := hid hm2
    clear hinv HI0 hm hm2
    by_cases hlt : k < L
    · have hO := (HF.out.keep HI.out.kept (by simp)).2
      obtain ⟨j, hj, hjL, hjN⟩ : ∃ j : Nat, ((k : Int) + t) % (L : Int) = (j : Int) ∧ j < L ∧ (k + t.toNat) % L = j := by
        refine ⟨(k + t.toNat) % L, ?_, Nat.mod_lt _ (by omega), rfl⟩
        rw [Int.natCast_emod, Int.natCast_add, Int.toNat_of_nonneg ht0]
      obtain ⟨ho, h0, h1, h2, h3, h4⟩ := hO k (by omega)
      obtain ⟨ho2, g0, g1, g2, g3, g4⟩ := hO j (by omega)
      obtain ⟨o, ho'⟩ : ∃ o, o = f k := ⟨_, rfl⟩
      rw [← ho'] at ho h0 h1 h2 h3 h4
      obtain ⟨r, hr⟩ : ∃ r, r = o.right := ⟨_, rfl⟩
      rw [← hr] at h4
      obtain ⟨p, hp'⟩ : ∃ p, p = f j := ⟨_, rfl⟩
      rw [← hp'] at ho2 g0 g1 g2 g3 g4
      obtain ⟨r2, hr2⟩ : ∃ r, r = p.right := ⟨_, rfl⟩
      rw [← hr2] at g4
      have HO' := hid ho'
      have HP' := hid hp'
      have HJN := hid hjN
      have HOK := hid ho
      have HOK2 := hid ho2
      have hj2 : ((k : Int) + t).tmod (L : Int) = (j : Int) := by rw [Int.tmod_eq_emod_of_nonneg (by omega)]; exact hj
      have ew : IntKind.i64.wrap ((k : Int) + t) = (k : Int) + t := IntWalk.i64_in _ (by omega)
      have et : IntKind.i64.wrap t = t := IntWalk.i64_in _ (by omega)
      have hkL : (k : Int) < (L : Int) := by omega
      have hjL' : (j : Int) < (L : Int) := by omega
      clear ho' hp' hr hr2 hjN ho ho2 hO
      go_upto_region 10 with (fail)
      go_cut [13, 14] (fun s13 s14 wc => ∃ P Q : Nat, s13 = .pointer (some ⟨P, 0, none⟩) ∧ s14 = .pointer (some ⟨Q, 0, none⟩) ∧ Hid (wc.heap[P]? = some (.cells (o.cells r) 45 (0, 0))) ∧ Hid (wc.heap[Q]? = some (.cells (p.cells r2) 45 (0, 0))) ∧ Hid (Kept [] wr wc) ∧ Hid (wr.heap.size ≤ P ∧ wr.heap.size ≤ Q))
      case first =>
        go_wp2_with fail
        go_region_held3 (fun w' => w'.cell? ⟨b, off + k * 5, none⟩ = some (.int .u8 o.what) ∧ w'.cell? ⟨b, off + k * 5 + 1, none⟩ = some (.int .i64 o.at_) ∧ w'.cell? ⟨b, off + k * 5 + 2, none⟩ = some (.int .i64 o.v) ∧ w'.cell? ⟨b, off + k * 5 + 3, none⟩ = some (.int .i64 o.old) ∧ w'.cell? ⟨b, off + k * 5 + 4, none⟩ = some (.bool r) ∧ w'.cell? ⟨b, off + j * 5, none⟩ = some (.int .u8 p.what) ∧ w'.cell? ⟨b, off + j * 5 + 1, none⟩ = some (.int .i64 p.at_) ∧ w'.cell? ⟨b, off + j * 5 + 2, none⟩ = some (.int .i64 p.v) ∧ w'.cell? ⟨b, off + j * 5 + 3, none⟩ = some (.int .i64 p.old) ∧ w'.cell? ⟨b, off + j * 5 + 4, none⟩ = some (.bool r2)) (go_keep) (fail)
        all_goals go_wp2_with fail
        all_goals go_meet
        all_goals exact ⟨_, _, rfl, rfl, hid (by simp only [heap_drew, heap_alloc_at, World.size_alloc]; repeat (first | rw [if_pos trivial] | rw [if_pos (by omega)] | rw [if_neg (by omega)])), hid (by simp only [heap_drew, heap_alloc_at, World.size_alloc]; repeat (first | rw [if_pos trivial] | rw [if_pos (by omega)] | rw [if_neg (by omega)])), hid (by (first | exact ((((Kept.refl _ _).alloc _).alloc _).drew) | exact (((Kept.refl _ _).alloc _).alloc _))), hid ⟨by omega, by omega⟩⟩
      case rest =>
        obtain ⟨P, Q, rfl, rfl, HP, HQ, HKc, HPQ⟩ := hcut
        clear h0 h1 h2 h3 h4 g0 g1 g2 g3 g4
        have hcP := cells_of HP.out
        have hcQ := cells_of HQ.out
        obtain ⟨q, hq⟩ : ∃ q : Int, bits .and .i64 o.at_ 255 = q := ⟨_, rfl⟩
        have hq0 : 0 ≤ q := by rw [← hq, and255 _ HOK.out.a0 HOK.out.a1]; omega
        have hq1 : q ≤ 255 := by rw [← hq, and255 _ HOK.out.a0 HOK.out.a1]; omega
        obtain ⟨u, hu⟩ : ∃ u : Int, q % (n : Int) = u := ⟨_, rfl⟩
        have HU : Hid (u = cellAt n o) := hid (by rw [← hu, ← hq, and255 _ HOK.out.a0 HOK.out.a1]; rfl)
        have hu2 : q.tmod (n : Int) = u := by rw [Int.tmod_eq_emod_of_nonneg hq0]; exact hu
        obtain ⟨q', hq'⟩ : ∃ q : Int, bits .and .i64 p.at_ 255 = q := ⟨_, rfl⟩
        have hq0' : 0 ≤ q' := by rw [← hq', and255 _ HOK2.out.a0 HOK2.out.a1]; omega
        have hq1' : q' ≤ 255 := by rw [← hq', and255 _ HOK2.out.a0 HOK2.out.a1]; omega
        obtain ⟨u', hu'⟩ : ∃ u : Int, q' % (n : Int) = u := ⟨_, rfl⟩
        have HU' : Hid (u' = cellAt n p) := hid (by rw [← hu', ← hq', and255 _ HOK2.out.a0 HOK2.out.a1]; rfl)
        have hu2' : q'.tmod (n : Int) = u' := by rw [Int.tmod_eq_emod_of_nonneg hq0']; exact hu'
        have HB := hid (HI.out.bank.keep HKc.out (by simp) (by simp))
        have HB2 := hid (HI.out.bank2.keep HKc.out (by simp) (by simp))
        have HPD : Hid (P ≠ D ∧ Q ≠ D ∧ Q ≠ D2 ∧ B2 ≠ D ∧ D2 ≠ D ∧ B ≠ D2 ∧ D ≠ D2) := hid (by
          have := HPQ.out; have := HI.out.bank.ltD; have := HI.out.bank2.ltD; have := HI.out.n1
          exact ⟨by omega, by omega, by omega, by omega, by omega, by omega, by omega⟩)
        go_wp2_with fail
        go_region_held3 (fun w' => ∀ i, w'.cell? ⟨P, i, none⟩ = (o.cells r)[i]?) (first | exact hcP | exact hcP2) (first | (go_at_call 25; refine (c45 B D m u o.v _ (HB.out.keep (Kept.refl [] _).drew (by simp) (by simp))).mono ?_; rintro e w4 ⟨rfl, hk4, hb4⟩; have hcP2 := cells_of (hk4.get HP.out (by simpa using HPD.out.1))))
        have k4 : Kept [D] wc w4 := (Kept.refl [D] wc).drew.trans hk4
        have hcQ := cells_of (k4.get HQ.out (by simpa using HPD.out.2.1))
        have HQ4 := hid (k4.get HQ.out (by simpa using HPD.out.2.1))
        have HBa := hid hb4
        have HBb := hid (HB2.out.keep k4 (by simpa using HPD.out.2.2.2.1) (by simpa using HPD.out.2.2.2.2.1))
        have HKa := hid ((HI.out.kept.trans HKc.out).drop k4 (fun x hx => .inr (by simp at hx; have := HI.out.n2; omega)))
        clear hcP hcP2 hk4 hb4 k4
        go_wp2_with fail
        go_region_held3 (fun w' => ∀ i, w'.cell? ⟨Q, i, none⟩ = (p.cells r2)[i]?) (first | exact hcQ | exact hcQ2) (first | (go_at_call 25; refine (c45 B2 D2 m2 u' p.v _ (HBb.out.keep (Kept.refl [] _).drew (by simp) (by simp))).mono ?_; rintro e w5 ⟨rfl, hk5, hb5⟩; have hcQ2 := cells_of (hk5.get HQ4.out (by simpa using HPD.out.2.2.1))))
        have k5 : Kept [D2] w4 w5 := (Kept.refl [D2] w4).drew.trans hk5
        have HBc := hid (HBa.out.keep k5 (by simpa using HPD.out.2.2.2.2.2.1) (by simpa using HPD.out.2.2.2.2.2.2))
        have HBd := hid hb5
        have HKb := hid (HKa.out.drop k5 (fun x hx => .inr (by simp at hx; have := HI.out.n2; omega)))
        clear hcQ hcQ2 hk5 hb5 k5
        go_wp2_with fail
        go_roundw
        case rel =>
          have e1 : addUp n f (fun j => (f j).v) (List.replicate n 0) (k + 1) = st m u (wrap64 (ld m u + o.v)) := by rw [addUp, ← HM.out, ← HO'.out, ← HU.out]
          have e2 : addUp n (fun j => f ((j + t.toNat) % L)) (fun j => (f ((j + t.toNat) % L)).v) (List.replicate n 0) (k + 1) = st m2 u' (wrap64 (ld m2 u' + p.v)) := by rw [addUp, ← HM2.out, HJN.out, ← HP'.out, ← HU'.out]
          refine ⟨k + 1, by go_num, by omega, ?_⟩
          rw [e1, e2]
          exact ⟨(st_length _ _ _).trans HI.out.len, (st_length _ _ _).trans HI.out.len2, HBc.out, HBd.out, HKb.out, HI.out.n1, HI.out.n2⟩
        case measure => simp [intOf]; omega
    · obtain rfl : k = L := by omega
      have HE : Hid (m2 = m) := hid (by rw [HM.out, HM2.out]; exact adds_turn (by omega) f k t.toNat (by omega))
      have HB := hid HI.out.bank
      have HB2 : Hid (BankAt wr B2 D2 m) := hid (by rw [← HE.out]; exact HI.out.bank2)
      have HLEN := hid HI.out.len
      have HK := hid HI.out.kept
      have HN2 := hid HI.out.n2
      clear HE HM2 HI
      obtain ⟨wx, hwx⟩ : ∃ wx, wx = wr := ⟨_, rfl⟩
      rw [← hwx] at HB HB2 HK
      have HWX := hid hwx
      clear hwx
      go_wp2_with fail
      go_loopw [84] (fun s wr2 => ∃ i : Nat, s = .int .i64 i ∧ i ≤ n ∧ Kept [] wx wr2) (fun s _ => n - (intOf s).toNat)
      case atStart => exact ⟨0, rfl, by omega, by rw [HWX.out]; exact Kept.refl _ _⟩
      case round =>
        obtain ⟨i, rfl, hi, hk2⟩ := hrel
        have HK2 := hid hk2
        clear hk2
        by_cases hlt2 : i < n
        · go_wp2_with fail
          refine (c42 B D m i _ (HB.out.keep HK2.out (by simp) (by simp))).mono ?_
          rintro e w5 ⟨rfl, rfl⟩
          go_wp2_with fail
          refine (c42 B2 D2 m i _ (HB2.out.keep HK2.out (by simp) (by simp))).mono ?_
          rintro e w5 ⟨rfl, rfl⟩
          go_wp2_with fail
          go_roundw
          case rel => exact ⟨i + 1, by go_num, by omega, HK2.out⟩
          case measure => simp [intOf]; omega
        · obtain rfl : i = n := by omega
          have HB3 := hid (HB.out.keep HK2.out (by simp) (by simp))
          have HK3 := hid (HK.out.trans HK2.out)
          clear HB HB2 HK HK2 HWX
          go_wp2_with fail
          go_loopw [97] (fun s wr3 => ∃ c : Nat, s = .int .i64 c ∧ c ≤ k ∧ BankAt wr3 B D (addUp i f (fun j => wrap64 (- (f j).v)) m c) ∧ Kept [] w wr3) (fun s _ => k - (intOf s).toNat)
          case atStart => exact ⟨0, rfl, by omega, HB3.out, HK3.out⟩
          case round =>
            obtain ⟨c, rfl, hc, hb3, hk3⟩ := hrel
            have HK4 := hid hk3
            obtain ⟨m3, hm3⟩ : ∃ m3, m3 = addUp i f (fun j => wrap64 (- (f j).v)) m c := ⟨_, rfl⟩
            rw [← hm3] at hb3
            have HM3 := hid hm3
            have HB4 := hid hb3
            clear hm3 hb3 hk3
            by_cases hlt3 : c < k
            · have hO := (HF.out.keep HK4.out (by simp)).2
              obtain ⟨ho, h0, h1, h2, h3, h4⟩ := hO c (by omega)
              obtain ⟨o, ho'⟩ : ∃ o, o = f c := ⟨_, rfl⟩
              rw [← ho'] at ho h0 h1 h2 h3 h4
              obtain ⟨r, hr⟩ : ∃ r, r = o.right := ⟨_, rfl⟩
              rw [← hr] at h4
              have HO' := hid ho'
              have HOK := hid ho
              obtain ⟨q, hq⟩ : ∃ q : Int, bits .and .i64 o.at_ 255 = q := ⟨_, rfl⟩
              have hq0 : 0 ≤ q := by rw [← hq, and255 _ HOK.out.a0 HOK.out.a1]; omega
              have hq1 : q ≤ 255 := by rw [← hq, and255 _ HOK.out.a0 HOK.out.a1]; omega
              obtain ⟨u, hu⟩ : ∃ u : Int, q % (i : Int) = u := ⟨_, rfl⟩
              have HU : Hid (u = cellAt i o) := hid (by rw [← hu, ← hq, and255 _ HOK.out.a0 HOK.out.a1]; rfl)
              have hu2 : q.tmod (i : Int) = u := by rw [Int.tmod_eq_emod_of_nonneg hq0]; exact hu
              have eneg : IntKind.i64.wrap (- o.v) = wrap64 (- o.v) := IntWalk.i64_left _
              have hckL : (c : Int) < (k : Int) := by omega
              clear ho' hr ho hO
              go_wp2_with fail
              clear h0 h1 h2 h3 h4
              obtain ⟨wy, hwy⟩ : ∃ wy, wy = wr.alloc (.cells (o.cells r) 45) := ⟨_, rfl⟩
              have hP := new_alloc wr (.cells (o.cells r) 45)
              have HP := hid hP
              have hcP := cells_of hP
              have HPD : Hid (wr.heap.size ≠ D) := hid (fun e => by have := HB4.out.ltD; omega)
              clear hP hwy
              go_region_held3 (fun w' => ∀ i, w'.cell? ⟨wr.heap.size, i, none⟩ = (o.cells r)[i]?) (first | exact hcP | exact hcP2) (first | (go_at_call 25; refine (c45 B D m3 u (wrap64 (- o.v)) _ (HB4.out.keep ((Kept.refl [] wr).alloc _).drew (by simp) (by simp))).mono ?_; rintro e w4 ⟨rfl, hk4, hb4⟩; have hcP2 := cells_of (hk4.get HP.out (by simpa using HPD.out))))
              have k4 : Kept [D] wr w4 := ((Kept.refl [D] wr).alloc _).drew.trans hk4
              have HB5 := hid hb4
              have HK5 := hid (HK4.out.drop k4 (fun x hx => .inr (by simp at hx; have := HN2.out; omega)))
              clear hcP hcP2 hk4 hb4 k4
              go_wp2_with fail
              go_roundw
              case rel =>
                have e1 : addUp i f (fun j => wrap64 (- (f j).v)) m (c + 1) = st m3 u (wrap64 (ld m3 u + wrap64 (- o.v))) := by rw [addUp, ← HM3.out, ← HO'.out, ← HU.out]
                refine ⟨c + 1, by go_num, by omega, ?_, HK5.out⟩
                rw [e1]; exact HB5.out
              case measure => simp [intOf]; omega
            · obtain rfl : c = k := by omega
              have HZ : Hid (m3 = List.replicate i 0) := hid (by rw [HM3.out, HM.out]; exact adds_off (by omega) f c)
              have HB6 : Hid (BankAt wr B D (List.replicate i 0)) := hid (by rw [← HZ.out]; exact HB4.out)
              clear HB4 HB3 HK3
              go_wp2_with fail
              refine (c48n B D i (List.replicate i 0) _ (by simp) HB6.out).mono ?_
              rintro e w6 ⟨O2, rfl, hO2, hk6, hr6⟩
              have HR6 := hid hr6
              have HK6 := hid (HK4.out.trans hk6)
              clear hr6 hk6 hO2
              go_wp2_with fail
              go_loopw [115] (fun s wr4 => ∃ j : Nat, s = .int .i64 j ∧ j ≤ i ∧ Kept [] w6 wr4) (fun s _ => i - (intOf s).toNat)
              case atStart => exact ⟨0, rfl, by omega, Kept.refl _ _⟩
              case round =>
                obtain ⟨j, rfl, hj, hk7⟩ := hrel
                have HK7 := hid hk7
                clear hk7
                by_cases hlt4 : j < i
                · have hR := (HR6.out.keep HK7.out (by simp)).cell j (by simpa using hlt4)
                  rw [zero_getD] at hR
                  go_wp2_with fail
                  go_roundw
                  case rel => exact ⟨j + 1, by go_num, by omega, HK7.out⟩
                  case measure => simp [intOf]; omega
                · obtain rfl : j = i := by omega
                  go_wp2_with fail
                  refine (awake10 _).mono ?_
                  rintro e w9 ⟨rfl, hk9⟩
                  go_wp2_with fail
                  go_ret
                  exact ⟨rfl, (HK6.out.trans HK7.out).trans hk9⟩
end Go.Proofs.Ytbhaknoggbegiaa
