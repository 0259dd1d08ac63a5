/- DequeAlone returns true, whatever comes in. -/
import Derived.Test.YtlbhckndejldcaaAwake11
import Derived.Test.YtlbhckndejldcaaRowSl
import Derived.Test.YtlbhckndejldcaaDTell2
import Derived.Test.YtlbhckndejldcaaOps11
import Derived.Test.YtlbhckndejldcaaInts
namespace Go.Proofs.Ytlbhckndejldcaa
open Go.RowKit Go.ChangeShapes Go.WideShapes
set_option linter.unusedVariables false
structure AI (l : Lay) (B D P base : Nat) (w wr : World) (v : Value) (row m : List Int) (t : Int) (k : Nat) : Prop where
  bank : BankAt wr B D m
  kept : Kept [] w wr
  plan : wr.heap[P]? = some (.cells l.cells 31 (0, 0))
  own : RowSl wr base v row
  dq1 : Dq l 1 m t row
  dq0 : Dq l 0 m 0 []
  bd : t + row.length ≤ k
  lt : B < base ∧ D < base ∧ P < base ∧ base ≤ wr.heap.size ∧ P ≠ D ∧ P ≠ B ∧ w.heap.size ≤ D
theorem AI.keep {l : Lay} {B D P base : Nat} {w wr w' : World} {v : Value} {row m : List Int} {t : Int} {k : Nat} (i : AI l B D P base w wr v row m t k) (h : Kept [] wr w') : AI l B D P base w w' v row m t k :=
  ⟨i.bank.keep h (by simp) (by simp), i.kept.trans h, h.get i.plan (by simp), i.own.keep0 h, i.dq1, i.dq0, i.bd, by have := i.lt; have := h.size; omega⟩
theorem AI.turn {l : Lay} {B D P base X : Nat} {w wr w' : World} {v : Value} {row m m' row' : List Int} {t t' : Int} {k : Nat} (i : AI l B D P base w wr v row m t k) (h : Kept [X, D] wr w') (hX : wr.heap.size ≤ X ∨ (base ≤ X ∧ RowSl w' base v row))
    (hb : BankAt w' B D m') : Kept [] w w' ∧ w'.heap[P]? = some (.cells l.cells 31 (0, 0)) ∧ RowSl w' base v row := by
  have hl := i.lt
  refine ⟨i.kept.drop h (fun x hx => .inr (by simp at hx; rcases hX with hX | hX <;> omega)), h.get i.plan (nin2 (by rcases hX with hX | hX <;> omega) (by omega)), ?_⟩
  rcases hX with hX | hX
  · exact i.own.keep h (fun g h1 h2 => nin2 (by omega) (by omega))
  · exact hX.2
set_option maxHeartbeats 16000000 in
set_option maxRecDepth 100000 in
theorem dalone_main (y : Int) (hy0 : 0 ≤ y) (hy1 : y ≤ 255) (a : Option Addr) (len cap : Nat) (f : Nat → Op11) (w : World) (h : Ops11 w a len cap f) :
    Calls Try.prog 6 #[.int .u8 y, .slice a len cap] w fun e w' => e = .returned (.bool true) ∧ Kept [] w w' := by
  obtain ⟨hlc, hcm, _, hf⟩ := h
  unfold maxLen at hcm
  have HF := hid hf
  clear hf
  obtain ⟨L, hL, hLl, hL1⟩ : ∃ L : Nat, L = min len 150 ∧ L ≤ len ∧ L ≤ 150 := ⟨_, rfl, by omega, by omega⟩
  have hmin : ∀ (ats : Array TypeId) (ty : TypeId), Builtin.min_ ats ty #[.int .i64 (len : Int), .int .i64 150] = pure (.int .i64 (L : Int)) := min_at len 150 L hL
  have HMN := hid hmin
  clear hmin hL
  obtain ⟨n, hn⟩ : ∃ n : Int, 1 + y % 16 = n := ⟨_, rfl⟩
  have HN := hid hn
  obtain ⟨l, hl⟩ : ∃ l, planOf n 0 2 = l := ⟨_, rfl⟩
  have hmay : May n 0 2 := ⟨by omega, by omega, by omega, by omega, by omega, by omega⟩
  have G := hid (d103 n 2 l hl hmay w)
  have Q1 : Hid (Dq l 1 (List.replicate l.size.toNat 0) 0 []) := hid (Dq.zero (by rw [← hl]; exact inb_plan hmay (by omega) (by omega) (by simp)))
  have Q0 : Hid (Dq l 0 (List.replicate l.size.toNat 0) 0 []) := hid (Dq.zero (by rw [← hl]; exact inb_plan hmay (by omega) (by omega) (by simp)))
  clear hl hmay hn
  go_enter Try.func6, Try.ntmps6
  go_upto_region 1 with fail
  go_wp2_with fail
  rw [HN.out]
  refine G.out.mono ?_
  clear G
  rintro e w1 ⟨B, D, rfl, hB, hD, hk1, hb1⟩
  have HBD := hid (And.intro hB hD)
  have HB := hid hb1
  have HK := hid hk1
  clear hb1 hk1 hB hD
  have hmin := HMN.out
  go_upto_region 4 with fail
  have HP := hid (new_alloc w1 (.cells l.cells 31))
  have HI0 : Hid (AI l B D w1.heap.size (w1.heap.size + 1) w (w1.alloc (.cells l.cells 31)) (.slice none 0 0) [] (List.replicate l.size.toNat 0) 0 0) := hid (by
    have h1 := HBD.out
    have h2 := HB.out.ltB
    have h3 := HB.out.ltD
    exact ⟨HB.out.keep ((Kept.refl [] w1).alloc _) (by simp) (by simp), HK.out.alloc _, HP.out, RowSl.nil _ _, Q1.out, Q0.out, by simp, by simp; omega⟩)
  clear HP HB HK Q1 Q0 HBD
  obtain ⟨P, hP⟩ : ∃ P, w1.heap.size = P := ⟨_, rfl⟩
  obtain ⟨base, hbase⟩ : ∃ base, P + 1 = base := ⟨_, rfl⟩
  generalize w1.alloc (.cells l.cells 31) = w2 at HI0 ⊢
  rw [hP, hbase] at HI0
  rw [hP]
  clear hP hbase
  go_wp2_with fail
  clear hmin
  go_loopw [8, 35] (fun s8 s wr => ∃ (k : Nat) (row m : List Int) (t : Int), k ≤ L ∧ s = .int .i64 k ∧ AI l B D P base w wr s8 row m t k) (fun _ s _ => L - (intOf s).toNat)
  case atStart => exact ⟨0, [], _, 0, by omega, rfl, HI0.out⟩
  case round =>
    obtain ⟨k, row, m, t, hk, rfl, hinv⟩ := hrel
    have HI := hid hinv
    clear hinv HI0
    by_cases hlt : k < L
    · obtain ⟨⟨hw0, hw1⟩, ⟨hq0, hq1⟩, b, off, rfl, hb, h0, h1, h2⟩ := HF.out k (by omega)
      have h0 := HI.out.kept.cellx hb (by simp) h0
      have h1 := HI.out.kept.cellx hb (by simp) h1
      have h2 := HI.out.kept.cellx hb (by simp) h2
      obtain ⟨who, hwho⟩ : ∃ r, r = (f k).who := ⟨_, rfl⟩
      obtain ⟨q, hq⟩ : ∃ r, r = (f k).what := ⟨_, rfl⟩
      obtain ⟨x, hx⟩ : ∃ r, r = (f k).v := ⟨_, rfl⟩
      rw [← hwho] at h0
      rw [← hq] at h1 hq0 hq1
      rw [← hx] at h2
      clear hwho hq hx hw0 hw1
      obtain ⟨a8, c8, hv8⟩ := HI.out.own.is.len
      subst hv8
      go_upto_region 8 with fail
      have HOLO : Hid (base ≤ wr.heap.size) := hid HI.out.lt.2.2.2.1
      have hlen : row.length ≤ 100000 := by have := HI.out.dq1.room; have := HI.out.dq1.inb.fit.r.bd; omega
      have HO := hid (new_alloc wr (.cells #[.int .u8 who, .int .u8 q, .int .i64 x] 71))
      have HI := hid (HI.out.keep ((Kept.refl [] wr).alloc (.cells #[.int .u8 who, .int .u8 q, .int .i64 x] 71)))
      obtain ⟨O, hO⟩ : ∃ O, wr.heap.size = O := ⟨_, rfl⟩
      clear h0 h1 h2
      generalize wr.alloc (.cells #[.int .u8 who, .int .u8 q, .int .i64 x] 71) = w3 at HI HO ⊢
      rw [hO] at HO HOLO ⊢
      clear hO
      have hcase : q % 4 = 0 ∨ q % 4 = 1 ∨ q % 4 = 2 ∨ q % 4 = 3 := by omega
      rcases hcase with hq | hq | hq | hq
      · as_aux_lemma =>

          have hcP := cells_of HI.out.plan
          have hcO := cells_of HO.out
          go_wp2_with fail
          refine (d105 l 1 x _).mono ?_
          rintro e w5 ⟨rfl, hk5⟩
          have HI := hid (HI.out.keep hk5)
          have HO := hid (hk5.get HO.out (by simp))
          have HOL := hid (show base ≤ w5.heap.size from Nat.le_trans HI.out.lt.2.2.2.1 (Nat.le_refl _))
          have HOX0 := hid (lt_of_heap HO.out)
          have HOWN := hid HI.out.own
          have HST := hid (store_new w5 zeroPu (pushCells l (pt0 1) x) 79 rfl)
          have HC : Hid ((pushCells l (pt0 1) x).all (·.oneCell') = true) := hid (all_oneCell_toArray (by simp [Value.oneCell']))
          clear hk5 hcP hcO
          go_upto_region 21 with (refine wpList_store_mid rfl 79 (.tmp 11) (.tmp 80) rfl w5.heap.size 0 (pushCells l (pt0 1) x) rfl rfl (there_of (new_alloc w5 (.cells zeroPu 79)) rfl) info171 HC.out ?_; generalize (w5.alloc (.cells zeroPu 79)).setCells w5.heap.size 0 (pushCells l (pt0 1) x).toList = w6 at HST ⊢)
          have HXL : Hid (base ≤ w5.heap.size) := HOL
          have HK56 := hid HST.out.1
          have HI := hid (HI.out.keep HST.out.1)
          have HO := hid (HST.out.1.get HO.out (by simp))
          have HX : Hid (PushAt w6 w5.heap.size l (pt0 1) x) := hid HST.out.2.1
          have HG5 : Hid (∀ g, base ≤ g → g < w5.heap.size → g ≠ w5.heap.size) := hid (fun g _ h => by omega)
          have HOX : Hid (O ≠ w5.heap.size ∧ P < w5.heap.size ∧ D < w5.heap.size ∧ B < w5.heap.size) := hid (by have := HOX0.out; have := HI.out.lt; have := HOL.out; omega)
          obtain ⟨X, hX⟩ : ∃ X, w5.heap.size = X := ⟨_, rfl⟩
          have HOL2 := hid HOX0.out
          clear HST HC HOL HOX0
          rw [hX] at HX HXL HOX ⊢
          have HX5 := hid hX
          clear hX
          have HLT := hid HI.out.lt
          have hp3 : w6.cell? ⟨P, 3, none⟩ = some (.int .i64 l.room) := cells_of HI.out.plan 3
          have nXP : X ≠ P := by have := HOX.out; omega
          have nXD : X ≠ D := by have := HOX.out; omega
          have nXB : X ≠ B := by have := HOX.out; omega
          have nXO : O ≠ X := HOX.out.1
          have nPD : P ≠ D := HLT.out.2.2.2.2.1
          by_cases hroom : (row.length : Int) < l.room
          · as_aux_lemma =>
            obtain ⟨m', run, dq', ap⟩ := push_room HI.out.dq1 x hroom (by have := HI.out.bd; omega)
            have G := hid (alone_push X B D l x (pt0 1) m _ w6.drew (show PushAt w6.drew X l (pt0 1) x from HX.out) (HI.out.bank.keep (Kept.refl [] _).drew (by simp) (by simp)) ⟨nXB, nXD⟩ run.1 run.2 (by simp))
            have D1 := hid dq'
            have D0 := hid (HI.out.dq0.apart ap (.inl (by omega)))
            clear run dq' ap
            go_region_held3 (fun w' => w'.cell? ⟨P, 3, none⟩ = some (.int .i64 l.room)) (first | exact hp3 | exact hp4)
              (first
                | (go_at_call 35; refine G.out.mono ?_; rintro e y1 ⟨rfl, hk, hx, hb⟩; have hp4 : y1.cell? ⟨P, 3, none⟩ = some (.int .i64 l.room) := cells_of (hk.get ((Kept.refl [] _).drew.get HI.out.plan (by simp)) (nin2 (Ne.symm nXP) nPD)) 3)
                | (go_at_call 36; refine (d109_at X l _ x _ true hx rfl).mono ?_; rintro e y2 ⟨rfl, rfl⟩))
            have k6 : Kept [X, D] w6 y1 := (Kept.refl [] _).drew.of_nil.trans hk
            have HKW : Hid (Kept [] w y1) := hid (HI.out.kept.drop k6 (fun z hz => .inr (by simp at hz; have := HLT.out; have := HXL.out; omega)))
            have HR : Hid (RowSl y1 base _ row) := hid (HOWN.out.keep (HK56.out.of_nil.trans k6) (fun g h1 h2 => nin2 (by have := HX5.out; omega) (by have := HLT.out; omega)))
            have HP := hid (k6.get HI.out.plan (nin2 (Ne.symm nXP) nPD))
            have HO := hid (k6.get HO.out (nin2 nXO (by have := HOLO.out; have := HLT.out; omega)))
            have HB := hid hb
            have HX := hid hx
            have HSZ : Hid (base ≤ y1.heap.size) := hid (by have := k6.size; have := HLT.out; omega)
            have HBD0 := hid HI.out.bd
            clear k6 hk hb hx hp3 hp4 HI HK56 HOWN
            have hcO := cells_of HO.out
            go_wp2_with fail
            refine (d109_at X l _ x _ true HX.out rfl).mono ?_
            rintro e y2 ⟨rfl, rfl⟩
            go_upto_region 35 with (at_builtin; go_must (refine wpList_append_row _ rfl (.tmp 95) (.tmp 98) rfl base _ row x y1.heap.size 0 1 rfl rfl (HR.out.keep0 ((Kept.refl [] _).alloc _)) (by have := HSZ.out; simp; omega) (by rw [cells_of (new_alloc _ _)]; rfl) hlen ?_); intro v9 w9 hr9 hk9; have HR := hid hr9; have HK9 := hid hk9; clear hr9 hk9)
            have HB := hid (HK9.out.bank (HB.out.keep ((Kept.refl [] y1).alloc (.cells #[.int .i64 x] 2)) (by simp) (by simp)) HLT.out.1 HLT.out.2.1)
            have HP := hid (HK9.out.get (((Kept.refl [] y1).alloc (.cells #[.int .i64 x] 2)).get HP.out (by simp)) HLT.out.2.2.1)
            have HKW := hid (HK9.out.drop (HKW.out.trans ((Kept.refl [] y1).alloc (.cells #[.int .i64 x] 2))) (by have := HLT.out; omega))
            have HSZ : Hid (base ≤ w9.heap.size) := hid (by have := HSZ.out; have := HK9.out.size; simp at this; omega)
            have HBD : Hid (t + ((row ++ [x]).length : Int) ≤ ((k + 1 : Nat) : Int)) := hid (by have := HBD0.out; simp; omega)
            clear HK9 HX HO hcO HX5 HG5

            have hcP := cells_of HP.out
            go_wp2_with fail
            refine (d53 l 1 B D m' _ D1.out.inb.fit HB.out (by rw [D1.out.top]; exact D1.out.t0) (by rw [D1.out.top]; have := D1.out.big; omega)).mono ?_
            rw [D1.out.held]
            rintro e z1 ⟨vh, rfl, hk1, hs1, ho1⟩
            have HS1 := hid hs1
            have HR := hid (HR.out.keep0 hk1)
            have HP := hid (hk1.get HP.out (by simp))
            have HB := hid (HB.out.keep hk1 (by simp) (by simp))
            have HKW := hid (HKW.out.trans hk1)
            have HSZ := hid (Nat.le_trans HSZ.out hk1.size)
            clear hk1 hs1 ho1 hcP
            go_wp2_with fail
            refine (c94 vh _ (row ++ [x]) (row ++ [x]) _ HS1.out HR.out.is (by have := D1.out.room; have := D1.out.inb.fit.r.bd; omega)).mono ?_
            rw [decide_eq_true rfl]
            rintro e z2 ⟨rfl, hk1⟩
            have HR := hid (HR.out.keep0 hk1)
            have HP := hid (hk1.get HP.out (by simp))
            have HB := hid (HB.out.keep hk1 (by simp) (by simp))
            have HKW := hid (HKW.out.trans hk1)
            have HSZ := hid (Nat.le_trans HSZ.out hk1.size)
            clear hk1 HS1
            have hcP := cells_of HP.out
            go_wp2_with fail
            refine (d53 l 0 B D m' _ D0.out.inb.fit HB.out (by rw [D0.out.top]; exact D0.out.t0) (by rw [D0.out.top]; have := D0.out.big; omega)).mono ?_
            rw [D0.out.held]
            rintro e z3 ⟨vg, rfl, hk1, hs1, ho1⟩
            obtain ⟨a9, c9, rfl⟩ := hs1.len
            have HR := hid (HR.out.keep0 hk1)
            have HP := hid (hk1.get HP.out (by simp))
            have HB := hid (HB.out.keep hk1 (by simp) (by simp))
            have HKW := hid (HKW.out.trans hk1)
            have HSZ := hid (Nat.le_trans HSZ.out hk1.size)
            clear hk1 hs1 ho1 hcP
            go_wp2_with fail
            go_roundw
            case rel => exact ⟨k + 1, (row ++ [x]), m', t, by omega, by go_num, ⟨HB.out, HKW.out, HP.out, HR.out, D1.out, D0.out, HBD.out, by have := HLT.out; have := HSZ.out; omega⟩⟩
            case measure => simp [intOf]; omega
          · as_aux_lemma =>
            have hfull : l.room ≤ (row.length : Int) := by omega
            clear hroom
            have run := push_full HI.out.dq1 x hfull
            have G := hid (alone_push X B D l x (pt0 1) m _ w6.drew (show PushAt w6.drew X l (pt0 1) x from HX.out) (HI.out.bank.keep (Kept.refl [] _).drew (by simp) (by simp)) ⟨nXB, nXD⟩ run.1 run.2 (by simp))
            have D1 := hid HI.out.dq1
            have D0 := hid HI.out.dq0
            clear run
            go_region_held3 (fun w' => w'.cell? ⟨P, 3, none⟩ = some (.int .i64 l.room)) (first | exact hp3 | exact hp4)
              (first
                | (go_at_call 35; refine G.out.mono ?_; rintro e y1 ⟨rfl, hk, hx, hb⟩; have hp4 : y1.cell? ⟨P, 3, none⟩ = some (.int .i64 l.room) := cells_of (hk.get ((Kept.refl [] _).drew.get HI.out.plan (by simp)) (nin2 (Ne.symm nXP) nPD)) 3)
                | (go_at_call 36; refine (d109_at X l _ x _ false hx rfl).mono ?_; rintro e y2 ⟨rfl, rfl⟩))
            have k6 : Kept [X, D] w6 y1 := (Kept.refl [] _).drew.of_nil.trans hk
            have HKW : Hid (Kept [] w y1) := hid (HI.out.kept.drop k6 (fun z hz => .inr (by simp at hz; have := HLT.out; have := HXL.out; omega)))
            have HR : Hid (RowSl y1 base _ row) := hid (HOWN.out.keep (HK56.out.of_nil.trans k6) (fun g h1 h2 => nin2 (by have := HX5.out; omega) (by have := HLT.out; omega)))
            have HP := hid (k6.get HI.out.plan (nin2 (Ne.symm nXP) nPD))
            have HB := hid hb
            have HX := hid hx
            have HSZ : Hid (base ≤ y1.heap.size) := hid (by have := k6.size; have := HLT.out; omega)
            have HBD : Hid (t + (row.length : Int) ≤ ((k + 1 : Nat) : Int)) := hid (by have := HI.out.bd; omega)
            clear k6 hk hb hx hp3 hp4 HI HK56 HOWN HX5 HG5 HO
            go_wp2_with fail
            refine (d109_at X l _ x _ false HX.out rfl).mono ?_
            rintro e y2 ⟨rfl, rfl⟩
            clear HX

            have hcP := cells_of HP.out
            go_wp2_with fail
            refine (d53 l 1 B D m _ D1.out.inb.fit HB.out (by rw [D1.out.top]; exact D1.out.t0) (by rw [D1.out.top]; have := D1.out.big; omega)).mono ?_
            rw [D1.out.held]
            rintro e z1 ⟨vh, rfl, hk1, hs1, ho1⟩
            have HS1 := hid hs1
            have HR := hid (HR.out.keep0 hk1)
            have HP := hid (hk1.get HP.out (by simp))
            have HB := hid (HB.out.keep hk1 (by simp) (by simp))
            have HKW := hid (HKW.out.trans hk1)
            have HSZ := hid (Nat.le_trans HSZ.out hk1.size)
            clear hk1 hs1 ho1 hcP
            go_wp2_with fail
            refine (c94 vh _ row row _ HS1.out HR.out.is (by have := D1.out.room; have := D1.out.inb.fit.r.bd; omega)).mono ?_
            rw [decide_eq_true rfl]
            rintro e z2 ⟨rfl, hk1⟩
            have HR := hid (HR.out.keep0 hk1)
            have HP := hid (hk1.get HP.out (by simp))
            have HB := hid (HB.out.keep hk1 (by simp) (by simp))
            have HKW := hid (HKW.out.trans hk1)
            have HSZ := hid (Nat.le_trans HSZ.out hk1.size)
            clear hk1 HS1
            have hcP := cells_of HP.out
            go_wp2_with fail
            refine (d53 l 0 B D m _ D0.out.inb.fit HB.out (by rw [D0.out.top]; exact D0.out.t0) (by rw [D0.out.top]; have := D0.out.big; omega)).mono ?_
            rw [D0.out.held]
            rintro e z3 ⟨vg, rfl, hk1, hs1, ho1⟩
            obtain ⟨a9, c9, rfl⟩ := hs1.len
            have HR := hid (HR.out.keep0 hk1)
            have HP := hid (hk1.get HP.out (by simp))
            have HB := hid (HB.out.keep hk1 (by simp) (by simp))
            have HKW := hid (HKW.out.trans hk1)
            have HSZ := hid (Nat.le_trans HSZ.out hk1.size)
            clear hk1 hs1 ho1 hcP
            go_wp2_with fail
            go_roundw
            case rel => exact ⟨k + 1, row, m, t, by omega, by go_num, ⟨HB.out, HKW.out, HP.out, HR.out, D1.out, D0.out, HBD.out, by have := HLT.out; have := HSZ.out; omega⟩⟩
            case measure => simp [intOf]; omega
      · as_aux_lemma =>

          have hcP := cells_of HI.out.plan
          have hcO := cells_of HO.out
          go_wp2_with fail
          refine (d105 l 1 x _).mono ?_
          rintro e w5 ⟨rfl, hk5⟩
          have HI := hid (HI.out.keep hk5)
          have HO := hid (hk5.get HO.out (by simp))
          have HOL := hid (show base ≤ w5.heap.size from Nat.le_trans HI.out.lt.2.2.2.1 (Nat.le_refl _))
          have HOX0 := hid (lt_of_heap HO.out)
          have HOWN := hid HI.out.own
          have HST := hid (store_new w5 zeroPu (pushCells l (pt0 1) x) 79 rfl)
          have HC : Hid ((pushCells l (pt0 1) x).all (·.oneCell') = true) := hid (all_oneCell_toArray (by simp [Value.oneCell']))
          clear hk5 hcP hcO
          go_upto_region 21 with (refine wpList_store_mid rfl 79 (.tmp 11) (.tmp 80) rfl w5.heap.size 0 (pushCells l (pt0 1) x) rfl rfl (there_of (new_alloc w5 (.cells zeroPu 79)) rfl) info171 HC.out ?_; generalize (w5.alloc (.cells zeroPu 79)).setCells w5.heap.size 0 (pushCells l (pt0 1) x).toList = w6 at HST ⊢)
          have HXL : Hid (base ≤ w5.heap.size) := HOL
          have HK56 := hid HST.out.1
          have HI := hid (HI.out.keep HST.out.1)
          have HO := hid (HST.out.1.get HO.out (by simp))
          have HX : Hid (PushAt w6 w5.heap.size l (pt0 1) x) := hid HST.out.2.1
          have HG5 : Hid (∀ g, base ≤ g → g < w5.heap.size → g ≠ w5.heap.size) := hid (fun g _ h => by omega)
          have HOX : Hid (O ≠ w5.heap.size ∧ P < w5.heap.size ∧ D < w5.heap.size ∧ B < w5.heap.size) := hid (by have := HOX0.out; have := HI.out.lt; have := HOL.out; omega)
          obtain ⟨X, hX⟩ : ∃ X, w5.heap.size = X := ⟨_, rfl⟩
          have HOL2 := hid HOX0.out
          clear HST HC HOL HOX0
          rw [hX] at HX HXL HOX ⊢
          have HX5 := hid hX
          clear hX
          have HLT := hid HI.out.lt
          have hp3 : w6.cell? ⟨P, 3, none⟩ = some (.int .i64 l.room) := cells_of HI.out.plan 3
          have nXP : X ≠ P := by have := HOX.out; omega
          have nXD : X ≠ D := by have := HOX.out; omega
          have nXB : X ≠ B := by have := HOX.out; omega
          have nXO : O ≠ X := HOX.out.1
          have nPD : P ≠ D := HLT.out.2.2.2.2.1
          by_cases hroom : (row.length : Int) < l.room
          · as_aux_lemma =>
            obtain ⟨m', run, dq', ap⟩ := push_room HI.out.dq1 x hroom (by have := HI.out.bd; omega)
            have G := hid (alone_push X B D l x (pt0 1) m _ w6.drew (show PushAt w6.drew X l (pt0 1) x from HX.out) (HI.out.bank.keep (Kept.refl [] _).drew (by simp) (by simp)) ⟨nXB, nXD⟩ run.1 run.2 (by simp))
            have D1 := hid dq'
            have D0 := hid (HI.out.dq0.apart ap (.inl (by omega)))
            clear run dq' ap
            go_region_held3 (fun w' => w'.cell? ⟨P, 3, none⟩ = some (.int .i64 l.room)) (first | exact hp3 | exact hp4)
              (first
                | (go_at_call 35; refine G.out.mono ?_; rintro e y1 ⟨rfl, hk, hx, hb⟩; have hp4 : y1.cell? ⟨P, 3, none⟩ = some (.int .i64 l.room) := cells_of (hk.get ((Kept.refl [] _).drew.get HI.out.plan (by simp)) (nin2 (Ne.symm nXP) nPD)) 3)
                | (go_at_call 36; refine (d109_at X l _ x _ true hx rfl).mono ?_; rintro e y2 ⟨rfl, rfl⟩))
            have k6 : Kept [X, D] w6 y1 := (Kept.refl [] _).drew.of_nil.trans hk
            have HKW : Hid (Kept [] w y1) := hid (HI.out.kept.drop k6 (fun z hz => .inr (by simp at hz; have := HLT.out; have := HXL.out; omega)))
            have HR : Hid (RowSl y1 base _ row) := hid (HOWN.out.keep (HK56.out.of_nil.trans k6) (fun g h1 h2 => nin2 (by have := HX5.out; omega) (by have := HLT.out; omega)))
            have HP := hid (k6.get HI.out.plan (nin2 (Ne.symm nXP) nPD))
            have HO := hid (k6.get HO.out (nin2 nXO (by have := HOLO.out; have := HLT.out; omega)))
            have HB := hid hb
            have HX := hid hx
            have HSZ : Hid (base ≤ y1.heap.size) := hid (by have := k6.size; have := HLT.out; omega)
            have HBD0 := hid HI.out.bd
            clear k6 hk hb hx hp3 hp4 HI HK56 HOWN
            have hcO := cells_of HO.out
            go_wp2_with fail
            refine (d109_at X l _ x _ true HX.out rfl).mono ?_
            rintro e y2 ⟨rfl, rfl⟩
            go_upto_region 35 with (at_builtin; go_must (refine wpList_append_row _ rfl (.tmp 95) (.tmp 98) rfl base _ row x y1.heap.size 0 1 rfl rfl (HR.out.keep0 ((Kept.refl [] _).alloc _)) (by have := HSZ.out; simp; omega) (by rw [cells_of (new_alloc _ _)]; rfl) hlen ?_); intro v9 w9 hr9 hk9; have HR := hid hr9; have HK9 := hid hk9; clear hr9 hk9)
            have HB := hid (HK9.out.bank (HB.out.keep ((Kept.refl [] y1).alloc (.cells #[.int .i64 x] 2)) (by simp) (by simp)) HLT.out.1 HLT.out.2.1)
            have HP := hid (HK9.out.get (((Kept.refl [] y1).alloc (.cells #[.int .i64 x] 2)).get HP.out (by simp)) HLT.out.2.2.1)
            have HKW := hid (HK9.out.drop (HKW.out.trans ((Kept.refl [] y1).alloc (.cells #[.int .i64 x] 2))) (by have := HLT.out; omega))
            have HSZ : Hid (base ≤ w9.heap.size) := hid (by have := HSZ.out; have := HK9.out.size; simp at this; omega)
            have HBD : Hid (t + ((row ++ [x]).length : Int) ≤ ((k + 1 : Nat) : Int)) := hid (by have := HBD0.out; simp; omega)
            clear HK9 HX HO hcO HX5 HG5

            have hcP := cells_of HP.out
            go_wp2_with fail
            refine (d53 l 1 B D m' _ D1.out.inb.fit HB.out (by rw [D1.out.top]; exact D1.out.t0) (by rw [D1.out.top]; have := D1.out.big; omega)).mono ?_
            rw [D1.out.held]
            rintro e z1 ⟨vh, rfl, hk1, hs1, ho1⟩
            have HS1 := hid hs1
            have HR := hid (HR.out.keep0 hk1)
            have HP := hid (hk1.get HP.out (by simp))
            have HB := hid (HB.out.keep hk1 (by simp) (by simp))
            have HKW := hid (HKW.out.trans hk1)
            have HSZ := hid (Nat.le_trans HSZ.out hk1.size)
            clear hk1 hs1 ho1 hcP
            go_wp2_with fail
            refine (c94 vh _ (row ++ [x]) (row ++ [x]) _ HS1.out HR.out.is (by have := D1.out.room; have := D1.out.inb.fit.r.bd; omega)).mono ?_
            rw [decide_eq_true rfl]
            rintro e z2 ⟨rfl, hk1⟩
            have HR := hid (HR.out.keep0 hk1)
            have HP := hid (hk1.get HP.out (by simp))
            have HB := hid (HB.out.keep hk1 (by simp) (by simp))
            have HKW := hid (HKW.out.trans hk1)
            have HSZ := hid (Nat.le_trans HSZ.out hk1.size)
            clear hk1 HS1
            have hcP := cells_of HP.out
            go_wp2_with fail
            refine (d53 l 0 B D m' _ D0.out.inb.fit HB.out (by rw [D0.out.top]; exact D0.out.t0) (by rw [D0.out.top]; have := D0.out.big; omega)).mono ?_
            rw [D0.out.held]
            rintro e z3 ⟨vg, rfl, hk1, hs1, ho1⟩
            obtain ⟨a9, c9, rfl⟩ := hs1.len
            have HR := hid (HR.out.keep0 hk1)
            have HP := hid (hk1.get HP.out (by simp))
            have HB := hid (HB.out.keep hk1 (by simp) (by simp))
            have HKW := hid (HKW.out.trans hk1)
            have HSZ := hid (Nat.le_trans HSZ.out hk1.size)
            clear hk1 hs1 ho1 hcP
            go_wp2_with fail
            go_roundw
            case rel => exact ⟨k + 1, (row ++ [x]), m', t, by omega, by go_num, ⟨HB.out, HKW.out, HP.out, HR.out, D1.out, D0.out, HBD.out, by have := HLT.out; have := HSZ.out; omega⟩⟩
            case measure => simp [intOf]; omega
          · as_aux_lemma =>
            have hfull : l.room ≤ (row.length : Int) := by omega
            clear hroom
            have run := push_full HI.out.dq1 x hfull
            have G := hid (alone_push X B D l x (pt0 1) m _ w6.drew (show PushAt w6.drew X l (pt0 1) x from HX.out) (HI.out.bank.keep (Kept.refl [] _).drew (by simp) (by simp)) ⟨nXB, nXD⟩ run.1 run.2 (by simp))
            have D1 := hid HI.out.dq1
            have D0 := hid HI.out.dq0
            clear run
            go_region_held3 (fun w' => w'.cell? ⟨P, 3, none⟩ = some (.int .i64 l.room)) (first | exact hp3 | exact hp4)
              (first
                | (go_at_call 35; refine G.out.mono ?_; rintro e y1 ⟨rfl, hk, hx, hb⟩; have hp4 : y1.cell? ⟨P, 3, none⟩ = some (.int .i64 l.room) := cells_of (hk.get ((Kept.refl [] _).drew.get HI.out.plan (by simp)) (nin2 (Ne.symm nXP) nPD)) 3)
                | (go_at_call 36; refine (d109_at X l _ x _ false hx rfl).mono ?_; rintro e y2 ⟨rfl, rfl⟩))
            have k6 : Kept [X, D] w6 y1 := (Kept.refl [] _).drew.of_nil.trans hk
            have HKW : Hid (Kept [] w y1) := hid (HI.out.kept.drop k6 (fun z hz => .inr (by simp at hz; have := HLT.out; have := HXL.out; omega)))
            have HR : Hid (RowSl y1 base _ row) := hid (HOWN.out.keep (HK56.out.of_nil.trans k6) (fun g h1 h2 => nin2 (by have := HX5.out; omega) (by have := HLT.out; omega)))
            have HP := hid (k6.get HI.out.plan (nin2 (Ne.symm nXP) nPD))
            have HB := hid hb
            have HX := hid hx
            have HSZ : Hid (base ≤ y1.heap.size) := hid (by have := k6.size; have := HLT.out; omega)
            have HBD : Hid (t + (row.length : Int) ≤ ((k + 1 : Nat) : Int)) := hid (by have := HI.out.bd; omega)
            clear k6 hk hb hx hp3 hp4 HI HK56 HOWN HX5 HG5 HO
            go_wp2_with fail
            refine (d109_at X l _ x _ false HX.out rfl).mono ?_
            rintro e y2 ⟨rfl, rfl⟩
            clear HX

            have hcP := cells_of HP.out
            go_wp2_with fail
            refine (d53 l 1 B D m _ D1.out.inb.fit HB.out (by rw [D1.out.top]; exact D1.out.t0) (by rw [D1.out.top]; have := D1.out.big; omega)).mono ?_
            rw [D1.out.held]
            rintro e z1 ⟨vh, rfl, hk1, hs1, ho1⟩
            have HS1 := hid hs1
            have HR := hid (HR.out.keep0 hk1)
            have HP := hid (hk1.get HP.out (by simp))
            have HB := hid (HB.out.keep hk1 (by simp) (by simp))
            have HKW := hid (HKW.out.trans hk1)
            have HSZ := hid (Nat.le_trans HSZ.out hk1.size)
            clear hk1 hs1 ho1 hcP
            go_wp2_with fail
            refine (c94 vh _ row row _ HS1.out HR.out.is (by have := D1.out.room; have := D1.out.inb.fit.r.bd; omega)).mono ?_
            rw [decide_eq_true rfl]
            rintro e z2 ⟨rfl, hk1⟩
            have HR := hid (HR.out.keep0 hk1)
            have HP := hid (hk1.get HP.out (by simp))
            have HB := hid (HB.out.keep hk1 (by simp) (by simp))
            have HKW := hid (HKW.out.trans hk1)
            have HSZ := hid (Nat.le_trans HSZ.out hk1.size)
            clear hk1 HS1
            have hcP := cells_of HP.out
            go_wp2_with fail
            refine (d53 l 0 B D m _ D0.out.inb.fit HB.out (by rw [D0.out.top]; exact D0.out.t0) (by rw [D0.out.top]; have := D0.out.big; omega)).mono ?_
            rw [D0.out.held]
            rintro e z3 ⟨vg, rfl, hk1, hs1, ho1⟩
            obtain ⟨a9, c9, rfl⟩ := hs1.len
            have HR := hid (HR.out.keep0 hk1)
            have HP := hid (hk1.get HP.out (by simp))
            have HB := hid (HB.out.keep hk1 (by simp) (by simp))
            have HKW := hid (HKW.out.trans hk1)
            have HSZ := hid (Nat.le_trans HSZ.out hk1.size)
            clear hk1 hs1 ho1 hcP
            go_wp2_with fail
            go_roundw
            case rel => exact ⟨k + 1, row, m, t, by omega, by go_num, ⟨HB.out, HKW.out, HP.out, HR.out, D1.out, D0.out, HBD.out, by have := HLT.out; have := HSZ.out; omega⟩⟩
            case measure => simp [intOf]; omega
      · as_aux_lemma =>

          have hcP := cells_of HI.out.plan
          have hcO := cells_of HO.out
          go_wp2_with fail
          refine (d69 l 1 _).mono ?_
          rintro e w5 ⟨rfl, hk5⟩
          have HI := hid (HI.out.keep hk5)
          have HX0 : Hid (P < w5.heap.size ∧ D < w5.heap.size ∧ B < w5.heap.size ∧ base ≤ w5.heap.size) := hid (by have := HI.out.lt; omega)
          have HOWN := hid HI.out.own
          have HST := hid (store_new w5 zero21 (ptCells l (pt0 1)) 59 rfl)
          have HC : Hid ((ptCells l (pt0 1)).all (·.oneCell') = true) := hid (all_oneCell_toArray (by simp [Value.oneCell']))
          clear hk5 hcP hcO HO HOLO
          go_upto_region 27 with (refine wpList_store_mid rfl 59 (.tmp 12) (.tmp 103) rfl w5.heap.size 0 (ptCells l (pt0 1)) rfl rfl (there_of (new_alloc w5 (.cells zero21 59)) rfl) info102 HC.out ?_; generalize (w5.alloc (.cells zero21 59)).setCells w5.heap.size 0 (ptCells l (pt0 1)).toList = w6 at HST ⊢)
          have HK56 := hid HST.out.1
          have HI := hid (HI.out.keep HST.out.1)
          have HX : Hid (PopAt w6 w5.heap.size l (pt0 1)) := hid HST.out.2.1
          obtain ⟨X, hX⟩ : ∃ X, w5.heap.size = X := ⟨_, rfl⟩
          clear HST HC
          rw [hX] at HX HX0 ⊢
          have HX5 := hid hX
          clear hX
          have HLT := hid HI.out.lt
          have nXP : X ≠ P := by have := HX0.out; omega
          have nXD : X ≠ D := by have := HX0.out; omega
          have nXB : X ≠ B := by have := HX0.out; omega
          have nPD : P ≠ D := HLT.out.2.2.2.2.1
          have HBK := hid HI.out.bank
          by_cases hz0 : row.length = 0
          · as_aux_lemma =>
            have hz0 : row = [] := List.eq_nil_of_length_eq_zero hz0
            subst hz0
            obtain ⟨m', run, dq', ap⟩ := pop_none HI.out.dq1
            have D1 := hid dq'
            have D0 := hid (HI.out.dq0.apart ap (.inl (by omega)))
            have G := hid (alone_pop X B D l (pt0 1) m _ _ HX.out HBK.out ⟨nXB, nXD⟩ run.1 run.2 (by simp))
            clear run dq' ap
            go_wp2_with fail
            refine G.out.mono ?_
            clear G
            rintro e y1 ⟨rfl, k6, hx, hb⟩
            have HKW : Hid (Kept [] w y1) := hid (HI.out.kept.drop k6 (fun z hz => .inr (by simp at hz; have := HLT.out; have := HX0.out; omega)))
            have HR : Hid (RowSl y1 base _ _) := hid (HOWN.out.keep (HK56.out.of_nil.trans k6) (fun g h1 h2 => nin2 (by have := HX5.out; omega) (by have := HLT.out; omega)))
            have HP := hid (k6.get HI.out.plan (nin2 (Ne.symm nXP) nPD))
            have HB := hid hb
            have HX := hid hx
            have HSZ : Hid (base ≤ y1.heap.size) := hid (by have := k6.size; have := HLT.out; omega)
            have HBD : Hid (t + (([] : List Int).length : Int) ≤ ((k + 1 : Nat) : Int)) := hid (by have := HI.out.bd; simp at *; omega)
            clear k6 hx hb HI HK56 HOWN HX5 HBK
            go_wp2_with fail
            refine (d71_at X l _ _ 0 false HX.out rfl rfl).mono ?_
            rintro e y2 ⟨rfl, rfl⟩

            have hcP := cells_of HP.out
            go_wp2_with fail
            refine (d53 l 1 B D m' _ D1.out.inb.fit HB.out (by rw [D1.out.top]; exact D1.out.t0) (by rw [D1.out.top]; have := D1.out.big; omega)).mono ?_
            rw [D1.out.held]
            rintro e z1 ⟨vh, rfl, hk1, hs1, ho1⟩
            have HS1 := hid hs1
            have HR := hid (HR.out.keep0 hk1)
            have HP := hid (hk1.get HP.out (by simp))
            have HB := hid (HB.out.keep hk1 (by simp) (by simp))
            have HKW := hid (HKW.out.trans hk1)
            have HSZ := hid (Nat.le_trans HSZ.out hk1.size)
            clear hk1 hs1 ho1 hcP
            go_wp2_with fail
            refine (c94 vh _ ([] : List Int) ([] : List Int) _ HS1.out HR.out.is (by have := D1.out.room; have := D1.out.inb.fit.r.bd; omega)).mono ?_
            rw [decide_eq_true rfl]
            rintro e z2 ⟨rfl, hk1⟩
            have HR := hid (HR.out.keep0 hk1)
            have HP := hid (hk1.get HP.out (by simp))
            have HB := hid (HB.out.keep hk1 (by simp) (by simp))
            have HKW := hid (HKW.out.trans hk1)
            have HSZ := hid (Nat.le_trans HSZ.out hk1.size)
            clear hk1 HS1
            have hcP := cells_of HP.out
            go_wp2_with fail
            refine (d53 l 0 B D m' _ D0.out.inb.fit HB.out (by rw [D0.out.top]; exact D0.out.t0) (by rw [D0.out.top]; have := D0.out.big; omega)).mono ?_
            rw [D0.out.held]
            rintro e z3 ⟨vg, rfl, hk1, hs1, ho1⟩
            obtain ⟨a9, c9, rfl⟩ := hs1.len
            have HR := hid (HR.out.keep0 hk1)
            have HP := hid (hk1.get HP.out (by simp))
            have HB := hid (HB.out.keep hk1 (by simp) (by simp))
            have HKW := hid (HKW.out.trans hk1)
            have HSZ := hid (Nat.le_trans HSZ.out hk1.size)
            clear hk1 hs1 ho1 hcP
            go_wp2_with fail
            go_roundw
            case rel => exact ⟨k + 1, ([] : List Int), m', t, by omega, by go_num, ⟨HB.out, HKW.out, HP.out, HR.out, D1.out, D0.out, HBD.out, by have := HLT.out; have := HSZ.out; omega⟩⟩
            case measure => simp [intOf]; omega
          · as_aux_lemma =>
            obtain ⟨r, z, hrz⟩ := row_last (row := row) (by omega)
            subst hrz
            obtain ⟨g, o8, cc, cs, hv, c1, c2, c3, c4, c5, c6⟩ : ∃ (g o8 cc : Nat) (cs : Array Value), a8 = some ⟨g, o8, none⟩ ∧ w5.heap[g]? = some (.cells cs 2 (0, 0)) ∧ (r ++ [z]).length ≤ cc ∧ o8 + cc ≤ cs.size ∧ base ≤ g ∧ cc ≤ maxLen ∧ (cc = c8 ∧ ∀ i, i < (r ++ [z]).length → cs[o8 + i]? = some (.int .i64 ((r ++ [z]).getD i 0))) := by
              rcases HOWN.out with ⟨h1, h2⟩ | ⟨g, o8, cc, cs, h1, h2, h3, h4, h5, h6, h7⟩
              · simp at h2
              · injection h1 with e1 e2 e3
                exact ⟨g, o8, cc, cs, e1, h2, h3, h4, h5, h6, e3.symm, h7⟩
            obtain ⟨rfl, c6⟩ := c6
            subst hv
            obtain ⟨N, hN⟩ : ∃ N, r.length = N := ⟨_, rfl⟩
            have hlN : (r ++ [z]).length = N + 1 := by simp [hN]
            obtain ⟨n0, p0, m', t', hn0, run, hz1, hz2, dq', ap, hbd⟩ := pop_some HI.out.dq1
            have D1 := hid dq'
            have D0 := hid (HI.out.dq0.apart ap (.inl (by omega)))
            have HBD : Hid (t' + (r.length : Int) ≤ ((k + 1 : Nat) : Int)) := hid (by have := HI.out.bd; simp at this; omega)
            have HLN := hid hlN
            have HC1 := hid c1
            have HC26 := hid (And.intro c2 (And.intro c3 (And.intro c4 (And.intro c5 c6))))
            have HNN := hid hN
            have G := hid (alone_pop X B D l (pt0 1) m _ _ HX.out HBK.out ⟨nXB, nXD⟩ run.1 run.2 hn0)
            have HZ := hid (And.intro hz1 hz2)
            clear run dq' ap hbd hz1 hz2 c1 c2 c3 c4 c5 c6 hlN hN hz0 hlen
            go_wp2_with fail
            refine G.out.mono ?_
            clear G
            rintro e y1 ⟨rfl, k6, hx, hb⟩
            have k5 : Kept [X, D] w5 y1 := HK56.out.of_nil.trans k6
            have HKW : Hid (Kept [] w y1) := hid (HI.out.kept.drop k6 (fun z hz => .inr (by simp at hz; have := HLT.out; have := HX0.out; omega)))
            have HGG := hid (k5.get HC1.out (nin2 (by have := lt_of_heap HC1.out; have := HX5.out; omega) (by have := HC26.out; have := HLT.out; omega)))
            have HP := hid (k6.get HI.out.plan (nin2 (Ne.symm nXP) nPD))
            have HB := hid hb
            have HX := hid hx
            have HSZ : Hid (base ≤ y1.heap.size) := hid (by have := k6.size; have := HLT.out; omega)
            clear k6 k5 hx hb HI HK56 HOWN HX5 HBK HC1
            go_wp2_with fail
            refine (d71_at X l _ _ z true HX.out HZ.out.1 HZ.out.2).mono ?_
            rintro e y2 ⟨rfl, rfl⟩
            rw [HNN.out]
            have hcl : y1.cell? ⟨g, o8 + N, none⟩ = some (.int .i64 z) := by
              rw [cells_of HGG.out, HC26.out.2.2.2.2 N (by have := HLN.out; omega), ← HNN.out]; simp
            have hcap : N + 1 ≤ cc := by have := HC26.out.1; have := HLN.out; omega
            have hNb : N ≤ 100000 := by have := D1.out.room; have := D1.out.inb.fit.r.bd; have := HNN.out; omega
            have HR : Hid (RowSl y1 base (.slice (some ⟨g, o8, none⟩) N cc) r) := hid (by rw [← HNN.out]; exact RowSl.init HGG.out HC26.out.1 HC26.out.2.1 HC26.out.2.2.1 HC26.out.2.2.2.1 HC26.out.2.2.2.2)
            have hcc : (cc : Int) ≤ 9223372036854775807 := by have := HC26.out.2.2.2.1; unfold maxLen at this; omega
            clear HX HZ HGG HC26
            go_upto_region 35 with fail
            clear hcl hcap hcc

            have hcP := cells_of HP.out
            go_wp2_with fail
            refine (d53 l 1 B D m' _ D1.out.inb.fit HB.out (by rw [D1.out.top]; exact D1.out.t0) (by rw [D1.out.top]; have := D1.out.big; omega)).mono ?_
            rw [D1.out.held]
            rintro e z1 ⟨vh, rfl, hk1, hs1, ho1⟩
            have HS1 := hid hs1
            have HR := hid (HR.out.keep0 hk1)
            have HP := hid (hk1.get HP.out (by simp))
            have HB := hid (HB.out.keep hk1 (by simp) (by simp))
            have HKW := hid (HKW.out.trans hk1)
            have HSZ := hid (Nat.le_trans HSZ.out hk1.size)
            clear hk1 hs1 ho1 hcP
            go_wp2_with fail
            refine (c94 vh _ r r _ HS1.out HR.out.is (by have := D1.out.room; have := D1.out.inb.fit.r.bd; omega)).mono ?_
            rw [decide_eq_true rfl]
            rintro e z2 ⟨rfl, hk1⟩
            have HR := hid (HR.out.keep0 hk1)
            have HP := hid (hk1.get HP.out (by simp))
            have HB := hid (HB.out.keep hk1 (by simp) (by simp))
            have HKW := hid (HKW.out.trans hk1)
            have HSZ := hid (Nat.le_trans HSZ.out hk1.size)
            clear hk1 HS1
            have hcP := cells_of HP.out
            go_wp2_with fail
            refine (d53 l 0 B D m' _ D0.out.inb.fit HB.out (by rw [D0.out.top]; exact D0.out.t0) (by rw [D0.out.top]; have := D0.out.big; omega)).mono ?_
            rw [D0.out.held]
            rintro e z3 ⟨vg, rfl, hk1, hs1, ho1⟩
            obtain ⟨a9, c9, rfl⟩ := hs1.len
            have HR := hid (HR.out.keep0 hk1)
            have HP := hid (hk1.get HP.out (by simp))
            have HB := hid (HB.out.keep hk1 (by simp) (by simp))
            have HKW := hid (HKW.out.trans hk1)
            have HSZ := hid (Nat.le_trans HSZ.out hk1.size)
            clear hk1 hs1 ho1 hcP
            go_wp2_with fail
            go_roundw
            case rel => exact ⟨k + 1, r, m', t', by omega, by go_num, ⟨HB.out, HKW.out, HP.out, HR.out, D1.out, D0.out, HBD.out, by have := HLT.out; have := HSZ.out; omega⟩⟩
            case measure => simp [intOf]; omega
      · as_aux_lemma =>

          have hcP := cells_of HI.out.plan
          have hcO := cells_of HO.out
          go_wp2_with fail
          refine (d66 l 1 _).mono ?_
          rintro e w5 ⟨rfl, hk5⟩
          have HI := hid (HI.out.keep hk5)
          have HX0 : Hid (P < w5.heap.size ∧ D < w5.heap.size ∧ B < w5.heap.size ∧ base ≤ w5.heap.size) := hid (by have := HI.out.lt; omega)
          have HOWN := hid HI.out.own
          have HST := hid (store_new w5 zeroSt (stealCells l (pt0 1) false) 53 rfl)
          have HC : Hid ((stealCells l (pt0 1) false).all (·.oneCell') = true) := hid (all_oneCell_toArray (by simp [Value.oneCell']))
          clear hk5 hcP hcO HO HOLO
          go_upto_region 10 with (refine wpList_store_mid rfl 53 (.tmp 15) (.tmp 43) rfl w5.heap.size 0 (stealCells l (pt0 1) false) rfl rfl (there_of (new_alloc w5 (.cells zeroSt 53)) rfl) info97 HC.out ?_; generalize (w5.alloc (.cells zeroSt 53)).setCells w5.heap.size 0 (stealCells l (pt0 1) false).toList = w6 at HST ⊢)
          have HK56 := hid HST.out.1
          have HI := hid (HI.out.keep HST.out.1)
          have HX : Hid (StealAt w6 w5.heap.size l (pt0 1) false) := hid HST.out.2.1
          obtain ⟨X, hX⟩ : ∃ X, w5.heap.size = X := ⟨_, rfl⟩
          clear HST HC
          rw [hX] at HX HX0 ⊢
          have HX5 := hid hX
          clear hX
          have HLT := hid HI.out.lt
          have nXP : X ≠ P := by have := HX0.out; omega
          have nXD : X ≠ D := by have := HX0.out; omega
          have nXB : X ≠ B := by have := HX0.out; omega
          have nPD : P ≠ D := HLT.out.2.2.2.2.1
          have HBK := hid HI.out.bank
          by_cases hz0 : row.length = 0
          · as_aux_lemma =>
            have hz0 : row = [] := List.eq_nil_of_length_eq_zero hz0
            subst hz0
            have run := steal_none HI.out.dq1
            have D1 := hid HI.out.dq1
            have D0 := hid HI.out.dq0
            have G := hid (alone_steal X B D l (pt0 1) false m _ _ HX.out HBK.out ⟨nXB, nXD⟩ run.1 run.2 (by simp))
            clear run
            go_wp2_with fail
            refine G.out.mono ?_
            clear G
            rintro e y1 ⟨rfl, k6, hx, hb⟩
            have HKW : Hid (Kept [] w y1) := hid (HI.out.kept.drop k6 (fun z hz => .inr (by simp at hz; have := HLT.out; have := HX0.out; omega)))
            have HR : Hid (RowSl y1 base _ _) := hid (HOWN.out.keep (HK56.out.of_nil.trans k6) (fun g h1 h2 => nin2 (by have := HX5.out; omega) (by have := HLT.out; omega)))
            have HP := hid (k6.get HI.out.plan (nin2 (Ne.symm nXP) nPD))
            have HB := hid hb
            have HX := hid hx
            have HSZ : Hid (base ≤ y1.heap.size) := hid (by have := k6.size; have := HLT.out; omega)
            have HBD : Hid (t + (([] : List Int).length : Int) ≤ ((k + 1 : Nat) : Int)) := hid (by have := HI.out.bd; simp at *; omega)
            clear k6 hx hb HI HK56 HOWN HX5 HBK
            go_wp2_with fail
            refine (d68_at X l _ _ _ 0 false HX.out rfl rfl).mono ?_
            rintro e y2 ⟨rfl, rfl⟩
            go_wp2_with fail
            refine (d110_at X l _ _ _ HX.out).mono ?_
            rintro e y3 ⟨rfl, rfl⟩

            have hcP := cells_of HP.out
            go_wp2_with fail
            refine (d53 l 1 B D m _ D1.out.inb.fit HB.out (by rw [D1.out.top]; exact D1.out.t0) (by rw [D1.out.top]; have := D1.out.big; omega)).mono ?_
            rw [D1.out.held]
            rintro e z1 ⟨vh, rfl, hk1, hs1, ho1⟩
            have HS1 := hid hs1
            have HR := hid (HR.out.keep0 hk1)
            have HP := hid (hk1.get HP.out (by simp))
            have HB := hid (HB.out.keep hk1 (by simp) (by simp))
            have HKW := hid (HKW.out.trans hk1)
            have HSZ := hid (Nat.le_trans HSZ.out hk1.size)
            clear hk1 hs1 ho1 hcP
            go_wp2_with fail
            refine (c94 vh _ ([] : List Int) ([] : List Int) _ HS1.out HR.out.is (by have := D1.out.room; have := D1.out.inb.fit.r.bd; omega)).mono ?_
            rw [decide_eq_true rfl]
            rintro e z2 ⟨rfl, hk1⟩
            have HR := hid (HR.out.keep0 hk1)
            have HP := hid (hk1.get HP.out (by simp))
            have HB := hid (HB.out.keep hk1 (by simp) (by simp))
            have HKW := hid (HKW.out.trans hk1)
            have HSZ := hid (Nat.le_trans HSZ.out hk1.size)
            clear hk1 HS1
            have hcP := cells_of HP.out
            go_wp2_with fail
            refine (d53 l 0 B D m _ D0.out.inb.fit HB.out (by rw [D0.out.top]; exact D0.out.t0) (by rw [D0.out.top]; have := D0.out.big; omega)).mono ?_
            rw [D0.out.held]
            rintro e z3 ⟨vg, rfl, hk1, hs1, ho1⟩
            obtain ⟨a9, c9, rfl⟩ := hs1.len
            have HR := hid (HR.out.keep0 hk1)
            have HP := hid (hk1.get HP.out (by simp))
            have HB := hid (HB.out.keep hk1 (by simp) (by simp))
            have HKW := hid (HKW.out.trans hk1)
            have HSZ := hid (Nat.le_trans HSZ.out hk1.size)
            clear hk1 hs1 ho1 hcP
            go_wp2_with fail
            go_roundw
            case rel => exact ⟨k + 1, ([] : List Int), m, t, by omega, by go_num, ⟨HB.out, HKW.out, HP.out, HR.out, D1.out, D0.out, HBD.out, by have := HLT.out; have := HSZ.out; omega⟩⟩
            case measure => simp [intOf]; omega
          · as_aux_lemma =>
            obtain ⟨z, r, hrz⟩ : ∃ z r, row = z :: r := by
              cases row with
              | nil => exact absurd rfl hz0
              | cons z r => exact ⟨z, r, rfl⟩
            subst hrz
            obtain ⟨g, o8, cc, cs, hv, c1, c2, c3, c4, c5, c6⟩ : ∃ (g o8 cc : Nat) (cs : Array Value), a8 = some ⟨g, o8, none⟩ ∧ w5.heap[g]? = some (.cells cs 2 (0, 0)) ∧ (z :: r).length ≤ cc ∧ o8 + cc ≤ cs.size ∧ base ≤ g ∧ cc ≤ maxLen ∧ (cc = c8 ∧ ∀ i, i < (z :: r).length → cs[o8 + i]? = some (.int .i64 ((z :: r).getD i 0))) := by
              rcases HOWN.out with ⟨h1, h2⟩ | ⟨g, o8, cc, cs, h1, h2, h3, h4, h5, h6, h7⟩
              · simp at h2
              · injection h1 with e1 e2 e3
                exact ⟨g, o8, cc, cs, e1, h2, h3, h4, h5, h6, e3.symm, h7⟩
            obtain ⟨rfl, c6⟩ := c6
            subst hv
            obtain ⟨N, hN⟩ : ∃ N, r.length = N := ⟨_, rfl⟩
            obtain ⟨m', run, dq', ap⟩ := steal_some HI.out.dq1
            have D1 := hid dq'
            have D0 := hid (HI.out.dq0.apart ap (.inl (by omega)))
            have HBD : Hid (t + 1 + (r.length : Int) ≤ ((k + 1 : Nat) : Int)) := hid (by have := HI.out.bd; simp at this; omega)
            have HC1 := hid c1
            have HC26 := hid (And.intro c2 (And.intro c3 (And.intro c4 (And.intro c5 c6))))
            have HNN := hid hN
            have G := hid (alone_steal X B D l (pt0 1) false m _ _ HX.out HBK.out ⟨nXB, nXD⟩ run.1 run.2 (by simp))
            clear run dq' ap c1 c2 c3 c4 c5 c6 hN hz0 hlen
            go_wp2_with fail
            refine G.out.mono ?_
            clear G
            rintro e y1 ⟨rfl, k6, hx, hb⟩
            have k5 : Kept [X, D] w5 y1 := HK56.out.of_nil.trans k6
            have HKW : Hid (Kept [] w y1) := hid (HI.out.kept.drop k6 (fun z hz => .inr (by simp at hz; have := HLT.out; have := HX0.out; omega)))
            have HGG := hid (k5.get HC1.out (nin2 (by have := lt_of_heap HC1.out; have := HX5.out; omega) (by have := HC26.out; have := HLT.out; omega)))
            have HP := hid (k6.get HI.out.plan (nin2 (Ne.symm nXP) nPD))
            have HB := hid hb
            have HX := hid hx
            have HSZ : Hid (base ≤ y1.heap.size) := hid (by have := k6.size; have := HLT.out; omega)
            clear k6 k5 hx hb HI HK56 HOWN HX5 HBK HC1
            go_wp2_with fail
            refine (d68_at X l _ _ _ z true HX.out rfl rfl).mono ?_
            rintro e y2 ⟨rfl, rfl⟩
            rw [HNN.out]
            have hcl : y1.cell? ⟨g, o8, none⟩ = some (.int .i64 z) := by
              have := HC26.out.2.2.2.2 0 (by simp)
              rw [Nat.add_zero] at this
              rw [cells_of HGG.out, this]; simp
            have hcap : N + 1 ≤ cc := by have := HC26.out.1; have := HNN.out; simp at *; omega
            have hNb : N ≤ 100000 := by have := D1.out.room; have := D1.out.inb.fit.r.bd; have := HNN.out; omega
            have hcc : (cc : Int) ≤ 9223372036854775807 := by have := HC26.out.2.2.2.1; unfold maxLen at this; omega
            go_wp2_with fail
            refine (d110_at X l _ _ _ HX.out).mono ?_
            rintro e y3 ⟨rfl, rfl⟩
            clear HX
            by_cases hc1 : cc = 1
            · as_aux_lemma =>
              obtain rfl : N = 0 := by omega
              subst hc1
              have HR : Hid (RowSl y1 base (.slice (some ⟨g, o8, none⟩) 0 0) r) := hid (by
                obtain rfl : r = [] := List.eq_nil_of_length_eq_zero HNN.out
                exact .inr ⟨g, o8, 0, cs, rfl, HGG.out, by simp, by have := HC26.out.2.1; omega, HC26.out.2.2.1, by unfold maxLen; omega, fun i hi => by simp at hi⟩)
              clear HGG HC26
              go_upto_region 35 with fail
              clear hcl hcap hcc

              have hcP := cells_of HP.out
              go_wp2_with fail
              refine (d53 l 1 B D m' _ D1.out.inb.fit HB.out (by rw [D1.out.top]; exact D1.out.t0) (by rw [D1.out.top]; have := D1.out.big; omega)).mono ?_
              rw [D1.out.held]
              rintro e z1 ⟨vh, rfl, hk1, hs1, ho1⟩
              have HS1 := hid hs1
              have HR := hid (HR.out.keep0 hk1)
              have HP := hid (hk1.get HP.out (by simp))
              have HB := hid (HB.out.keep hk1 (by simp) (by simp))
              have HKW := hid (HKW.out.trans hk1)
              have HSZ := hid (Nat.le_trans HSZ.out hk1.size)
              clear hk1 hs1 ho1 hcP
              go_wp2_with fail
              refine (c94 vh _ r r _ HS1.out HR.out.is (by have := D1.out.room; have := D1.out.inb.fit.r.bd; omega)).mono ?_
              rw [decide_eq_true rfl]
              rintro e z2 ⟨rfl, hk1⟩
              have HR := hid (HR.out.keep0 hk1)
              have HP := hid (hk1.get HP.out (by simp))
              have HB := hid (HB.out.keep hk1 (by simp) (by simp))
              have HKW := hid (HKW.out.trans hk1)
              have HSZ := hid (Nat.le_trans HSZ.out hk1.size)
              clear hk1 HS1
              have hcP := cells_of HP.out
              go_wp2_with fail
              refine (d53 l 0 B D m' _ D0.out.inb.fit HB.out (by rw [D0.out.top]; exact D0.out.t0) (by rw [D0.out.top]; have := D0.out.big; omega)).mono ?_
              rw [D0.out.held]
              rintro e z3 ⟨vg, rfl, hk1, hs1, ho1⟩
              obtain ⟨a9, c9, rfl⟩ := hs1.len
              have HR := hid (HR.out.keep0 hk1)
              have HP := hid (hk1.get HP.out (by simp))
              have HB := hid (HB.out.keep hk1 (by simp) (by simp))
              have HKW := hid (HKW.out.trans hk1)
              have HSZ := hid (Nat.le_trans HSZ.out hk1.size)
              clear hk1 hs1 ho1 hcP
              go_wp2_with fail
              go_roundw
              case rel => exact ⟨k + 1, r, m', t + 1, by omega, by go_num, ⟨HB.out, HKW.out, HP.out, HR.out, D1.out, D0.out, HBD.out, by have := HLT.out; have := HSZ.out; omega⟩⟩
              case measure => simp [intOf]; omega

            · as_aux_lemma =>
              have hc2 : 1 < cc := by omega
              have hcI : (1 : Int) < (cc : Int) := by omega
              clear hc1
              have HR : Hid (RowSl y1 base (.slice (some ⟨g, o8 + 1, none⟩) N (cc - 1)) r) := hid (by rw [← HNN.out]; exact RowSl.tail HGG.out HC26.out.1 HC26.out.2.1 HC26.out.2.2.1 HC26.out.2.2.2.1 HC26.out.2.2.2.2)
              clear HGG HC26
              go_upto_region 35 with fail
              clear hcl hcap hcc

              have hcP := cells_of HP.out
              go_wp2_with fail
              refine (d53 l 1 B D m' _ D1.out.inb.fit HB.out (by rw [D1.out.top]; exact D1.out.t0) (by rw [D1.out.top]; have := D1.out.big; omega)).mono ?_
              rw [D1.out.held]
              rintro e z1 ⟨vh, rfl, hk1, hs1, ho1⟩
              have HS1 := hid hs1
              have HR := hid (HR.out.keep0 hk1)
              have HP := hid (hk1.get HP.out (by simp))
              have HB := hid (HB.out.keep hk1 (by simp) (by simp))
              have HKW := hid (HKW.out.trans hk1)
              have HSZ := hid (Nat.le_trans HSZ.out hk1.size)
              clear hk1 hs1 ho1 hcP
              go_wp2_with fail
              refine (c94 vh _ r r _ HS1.out HR.out.is (by have := D1.out.room; have := D1.out.inb.fit.r.bd; omega)).mono ?_
              rw [decide_eq_true rfl]
              rintro e z2 ⟨rfl, hk1⟩
              have HR := hid (HR.out.keep0 hk1)
              have HP := hid (hk1.get HP.out (by simp))
              have HB := hid (HB.out.keep hk1 (by simp) (by simp))
              have HKW := hid (HKW.out.trans hk1)
              have HSZ := hid (Nat.le_trans HSZ.out hk1.size)
              clear hk1 HS1
              have hcP := cells_of HP.out
              go_wp2_with fail
              refine (d53 l 0 B D m' _ D0.out.inb.fit HB.out (by rw [D0.out.top]; exact D0.out.t0) (by rw [D0.out.top]; have := D0.out.big; omega)).mono ?_
              rw [D0.out.held]
              rintro e z3 ⟨vg, rfl, hk1, hs1, ho1⟩
              obtain ⟨a9, c9, rfl⟩ := hs1.len
              have HR := hid (HR.out.keep0 hk1)
              have HP := hid (hk1.get HP.out (by simp))
              have HB := hid (HB.out.keep hk1 (by simp) (by simp))
              have HKW := hid (HKW.out.trans hk1)
              have HSZ := hid (Nat.le_trans HSZ.out hk1.size)
              clear hk1 hs1 ho1 hcP
              go_wp2_with fail
              go_roundw
              case rel => exact ⟨k + 1, r, m', t + 1, by omega, by go_num, ⟨HB.out, HKW.out, HP.out, HR.out, D1.out, D0.out, HBD.out, by have := HLT.out; have := HSZ.out; omega⟩⟩
              case measure => simp [intOf]; omega
    · have hkL : L ≤ k := by omega
      go_wp2_with fail
      refine (awake11 _).mono ?_
      rintro e w5 ⟨rfl, hk5⟩
      go_wp2_with fail
      go_ret
      exact ⟨rfl, HI.out.kept.trans hk5⟩
end Go.Proofs.Ytlbhckndejldcaa
