/- BarrierElse returns true, whatever comes in. -/
import Derived.Test.YtklkopoelhndoaaAwake14
import Derived.Test.YtklkopoelhndoaaInts
import Derived.Test.YtklkopoelhndoaaSlice
import Derived.Test.YtklkopoelhndoaaBase2
import Derived.Test.YtklkopoelhndoaaRowOps
import Derived.Deep.Cut
import Derived.BigQuiet
namespace Go.Proofs.Ytklkopoelhndoaa
open Go.RowKit Go.ChangeShapes Go.WideShapes
set_option linter.unusedVariables false
theorem openI42 {H : Type} {enc : TypeId × Value → H} {W : World} {a : Option Addr} {len cap : Nat} {d : DataW H} {p : List MemPlace}
    (h : DataW.Trod enc Try.prog W 0 (fun _ => true) true 75 (.slice a len cap) d p) : ∃ f, Ints .i64 W a len cap f := openInts Try.underlying75 Try.underlying2 (by kernel_rfl) h
theorem new_alloc2 (w : World) (a o : Obj) : ((w.alloc a).alloc o).heap[w.heap.size + 1]? = some o := by have := new_alloc (w.alloc a) o; have e : (w.alloc a).heap.size = w.heap.size + 1 := (by simp); rwa [e] at this
theorem info149 : (Try.prog.info? 95).map (·.size) = some 17 := by kernel_rfl
structure EInv (l : Lay) (m : List Int) (B D P : Nat) (w wr : World) (s : Int) : Prop where
  bank : BankAt wr B D (gs m 1 s)
  kept : Kept [] w wr
  plan : wr.heap[P]? = some (.cells l.cells 25 (0, 0))
theorem EInv.keep {l : Lay} {m : List Int} {B D P : Nat} {w wr w' : World} {s : Int} (i : EInv l m B D P w wr s) (k : Kept [] wr w') : EInv l m B D P w w' s := ⟨i.bank.keep k (by simp) (by simp), i.kept.trans k, k.get i.plan (by simp)⟩
/-- one machine under way -/
structure OneArr (l : Lay) (m : List Int) (B D P X O : Nat) (w wr : World) (xn xo : Int) (xl : Bool) (c s : Int) (r : List Int) : Prop where
  ax : ArrAt wr X l xn xo xl
  ac : ArrAt wr (X + 1) l 0 0 false
  bank : BankAt wr B D (gs m c s)
  kept : Kept [] w wr
  plan : wr.heap[P]? = some (.cells l.cells 25 (0, 0))
  row : RowIn wr O r
structure OneNe (B D P X O : Nat) (w : World) : Prop where
  xb : X ≠ B ∧ X ≠ D
  c : X + 1 ≠ D
  p : P ≠ X ∧ P ≠ D
  o : O ≠ X ∧ O ≠ D
  s : w.heap.size ≤ X ∧ w.heap.size ≤ D
theorem OneArr.stepX {l : Lay} {m : List Int} {B D P X O : Nat} {w wr w' : World} {xn xo xn' xo' : Int} {xl xl' : Bool} {c s c' s' : Int} {r : List Int} (i : OneArr l m B D P X O w wr xn xo xl c s r) (ne : OneNe B D P X O w)
    (k : Kept [X, D] wr w') (a : ArrAt w' X l xn' xo' xl') (b : BankAt w' B D (gs m c' s')) : OneArr l m B D P X O w w' xn' xo' xl' c' s' r :=
  ⟨a, k.get i.ac (by simp; exact ne.c), b, i.kept.drop k (fun x hx => .inr (by simp at hx; have := ne.s; omega)), k.get i.plan (by simp; exact ne.p), i.row.keep k (by simp; exact ne.o)⟩
set_option maxHeartbeats 4000000 in
set_option maxRecDepth 100000 in
theorem belse_main (y : Int) (hy0 : 0 ≤ y) (hy1 : y ≤ 255) (a : Option Addr) (len cap : Nat) (f : Nat → Int) (w : World) (h : Ints .i64 w a len cap f) :
    Calls Try.prog 14 #[.slice a len cap, .int .u8 y] w fun e w' => e = .returned (.bool true) ∧ Kept [] w w' := by
  obtain ⟨hlc, hcm, _, hf⟩ := h
  unfold maxLen at hcm
  have HF := hid hf
  have G := hid (c97 1 (by omega) (by omega) w)
  have HL := hid (l14 1 (by omega))
  have HZ : Hid ((11 + (1 : Int) * 4).toNat = 15) := hid rfl
  rw [HZ.out] at HL
  obtain ⟨l, hl⟩ : ∃ l, l21 1 = l := ⟨_, rfl⟩
  rw [hl] at G HL
  clear hl hf
  have hs1 : l.size ≤ 15 := by have := HL.out.size; omega
  have hs2 : 15 ≤ l.size := by have := HL.out.size; omega
  have hc1 : l.count ≤ 9 := by have := HL.out.count; omega
  have hc2 : 9 ≤ l.count := by have := HL.out.count; omega
  have hn1 : l.sense ≤ 10 := by have := HL.out.sense; omega
  have hn2 : 10 ≤ l.sense := by have := HL.out.sense; omega
  obtain ⟨n, hn⟩ : ∃ n : Nat, 1 + y % 20 = (n : Int) := ⟨(1 + y % 20).toNat, by omega⟩
  have hn0 : 1 ≤ (n : Int) := by omega
  have hn3 : (n : Int) ≤ 20 := by omega
  go_enter Try.func14, Try.ntmps14
  go_wp2_with fail
  refine G.out.mono ?_
  clear G
  rintro e w1 ⟨B, D, rfl, hB, hD, hk1, hb1⟩
  rw [rdy14 HL.out] at hb1
  have HBD := hid (And.intro hB hD)
  have HPD : Hid (w1.heap.size ≠ D ∧ D < w1.heap.size ∧ B < w1.heap.size) := hid ⟨fun e => by have := hb1.ltD; omega, hb1.ltD, hb1.ltB⟩
  have HI0 : Hid (EInv l (List.replicate 15 0) B D w1.heap.size w (w1.alloc (.cells l.cells 25)) 0) := hid ⟨hb1.keep ((Kept.refl [] w1).alloc _) (by simp) (by simp), hk1.trans ((Kept.refl [] w1).alloc _), new_alloc _ _⟩
  clear hb1 hk1 hB hD
  have hcP := cells_of HI0.out.plan
  go_wp2_with fail
  clear hcP
  go_loopw [25] (fun s wr => ∃ (i : Nat) (m : List Int), s = .int .i64 i ∧ i ≤ 15 ∧ m.length = 15 ∧ EInv l m B D w1.heap.size w wr 0) (fun s _ => 15 - (intOf s).toNat)
  case atStart => exact ⟨0, _, rfl, by omega, by simp, HI0.out⟩
  case round =>
    obtain ⟨i, m, rfl, hi, hm, hinv⟩ := hrel
    have HI := hid hinv
    have HM := hid hm
    clear hinv HI0 hm
    have hcP := cells_of HI.out.plan
    by_cases hlt : i < 15
    · have hil : (i : Int) < l.size := by omega
      by_cases hlo : ((i : Int) ≠ l.count ∧ (i : Int) ≠ l.sense) ∧ i < len
      · as_aux_lemma =>
          obtain ⟨⟨hlo, hlo2⟩, hlen⟩ := hlo
          have hb1 : ((i : Int) != l.count) = true := by rw [bne_iff_ne]; exact hlo
          have hb2 : ((i : Int) != l.sense) = true := by rw [bne_iff_ne]; exact hlo2
          have HLO : Hid ((i : Int) ≠ 9 ∧ (i : Int) ≠ 10) := hid ⟨by rw [← HL.out.count]; exact hlo, by rw [← HL.out.sense]; exact hlo2⟩
          clear hlo hlo2
          obtain ⟨hwf, b, off, rfl, hb, hc⟩ := HF.out i hlen
          have hc := HI.out.kept.cellx hb (by simp) hc
          obtain ⟨u, hu⟩ : ∃ u, u = f i := ⟨_, rfl⟩
          rw [← hu] at hc
          clear hu hwf
          go_wp2_with fail
          refine (c43 B D (gs m 1 0) i u _ HI.out.bank).mono ?_
          rw [gs_other 1 0 HLO.out.1 HLO.out.2]
          rintro e w2 ⟨rfl, hk, hb2⟩
          have HI2 : Hid (EInv l (st m i u) B D w1.heap.size w w2 0) := hid ⟨hb2, HI.out.kept.drop hk (fun x hx => .inr (by simp at hx; have := HBD.out; omega)), hk.get HI.out.plan (by simpa using HPD.out.1)⟩
          clear hk hb2
          go_wp2_with fail
          go_roundw
          case rel => exact ⟨i + 1, _, by go_num, by omega, by rw [st_length]; exact HM.out, HI2.out⟩
          case measure => simp [intOf]; omega
      · as_aux_lemma =>
          by_cases hlen : i < len
          · by_cases h9 : (i : Int) = l.count
            · have hb1 : ((i : Int) != l.count) = false := by simp [h9]
              clear hlo h9
              go_wp2_with fail
              go_roundw
              case rel => exact ⟨i + 1, _, by go_num, by omega, HM.out, HI.out⟩
              case measure => simp [intOf]; omega
            · have hb1 : ((i : Int) != l.count) = true := by rw [bne_iff_ne]; exact h9
              have h10 : (i : Int) = l.sense := by
                by_cases h : (i : Int) = l.sense
                · exact h
                · exact absurd ⟨⟨h9, h⟩, hlen⟩ hlo
              have hb2 : ((i : Int) != l.sense) = false := by simp [h10]
              clear hlo h9 h10
              go_wp2_with fail
              go_roundw
              case rel => exact ⟨i + 1, _, by go_num, by omega, HM.out, HI.out⟩
              case measure => simp [intOf]; omega
          · clear hlo
            go_wp2_with fail
            go_roundw
            case rel => exact ⟨i + 1, _, by go_num, by omega, HM.out, HI.out⟩
            case measure => simp [intOf]; omega
    · have hi5 : (15 : Int) ≤ (i : Int) := by omega
      have hi6 : l.size ≤ (i : Int) := by omega
      clear hlt hi
      go_wp2_with fail
      refine (c48n B D 15 _ _ (by rw [gs_length]; exact HM.out) HI.out.bank).mono ?_
      rintro e w2 ⟨O, rfl, hO, hk, hr⟩
      have HOD : Hid (O ≠ D ∧ O < w2.heap.size) := hid ⟨fun e => by have := HI.out.bank.ltD; omega, hr.lt⟩
      have HI := hid (HI.out.keep hk)
      have HR := hid hr
      clear hO hk hr hcP
      go_wp2_with fail
      obtain ⟨z, hz⟩ : ∃ z : Int, (i : Int) = z := ⟨_, rfl⟩
      try rw [hz]
      clear hz hi5 hi6
      go_loopw [58] (fun s wr => ∃ t : Nat, s = .int .i64 t ∧ t ≤ n ∧ EInv l m B D w1.heap.size w wr ((t : Int) % 2) ∧ RowIn wr O (gs m 1 0)) (fun s _ => n - (intOf s).toNat)
      case atStart => exact ⟨0, rfl, by omega, HI.out, HR.out⟩
      case round =>
        obtain ⟨t, rfl, ht, hinv, hrow⟩ := hrel
        clear HI HR
        have HI := hid hinv
        have HR := hid hrow
        clear hinv hrow
        by_cases hlt : t < n
        · as_aux_lemma =>
            obtain ⟨s0, hs0⟩ : ∃ s0 : Int, (t : Int) % 2 = s0 := ⟨_, rfl⟩
            have HS0 := hid hs0
            have hs00 : 0 ≤ s0 := by omega
            have hs01 : s0 ≤ 1 := by omega
            rw [hs0] at HI
            clear hs0
            have hcP := cells_of HI.out.plan
            go_wp2_with fail
            refine (c99 l _).mono ?_
            rintro e w3 ⟨rfl, hk⟩
            as_aux_lemma =>
              have HI := hid (HI.out.keep hk)
              have HR := hid (HR.out.keep hk (by simp))
              have HSA : Hid (w.heap.size ≤ w3.heap.size ∧ B < w3.heap.size ∧ D < w3.heap.size ∧ w1.heap.size < w3.heap.size ∧ O < w3.heap.size) := hid ⟨HI.out.kept.size, HI.out.bank.ltB, HI.out.bank.ltD, lt_of_heap HI.out.plan, HR.out.lt⟩
              clear hk hcP
              go_upto_region 15 with fail
              have k4 : Kept [] w3 (w3.alloc (.cells (arrCells l 0 0 false) 95)) := (Kept.refl _ _).alloc _
              have h4 := new_alloc w3 (.cells (arrCells l 0 0 false) 95)
              have s4 : (w3.alloc (.cells (arrCells l 0 0 false) 95)).heap.size = w3.heap.size + 1 := by simp
              have HI := hid (HI.out.keep k4)
              have HR := hid (HR.out.keep k4 (by simp))
              have HS3 : Hid (w.heap.size ≤ w3.heap.size ∧ B < w3.heap.size ∧ D < w3.heap.size ∧ w1.heap.size < w3.heap.size ∧ O < w3.heap.size) := hid HSA.out
              have H4 := hid (And.intro h4 s4)
              clear k4 h4 s4
              obtain ⟨X, hX⟩ : ∃ X, w3.heap.size = X := ⟨_, rfl⟩
              generalize w3.alloc (.cells (arrCells l 0 0 false) 95) = w4 at HI HR H4 ⊢
              rw [hX] at HS3 H4 ⊢
              clear HSA hX
              as_aux_lemma =>
                go_wp2_with (refine wpList_load_row rfl 95 (.tmp 11) rfl X rfl 95 (arrCells l 0 0 false) (0, 0) _ H4.out.1 Try.underlying95 rfl info149 ?_)
                have ka : Kept [] w4 (w4.alloc (.cells (arrCells l 0 0 false) 95)) := (Kept.refl _ _).alloc _
                have NE : Hid (OneNe B D w1.heap.size X O w) := hid ⟨⟨by have := HS3.out; omega, by have := HS3.out; omega⟩, by have := HS3.out; omega, ⟨by have := HS3.out; omega, HPD.out.1⟩, ⟨by have := HS3.out; omega, HOD.out.1⟩, ⟨HS3.out.1, HBD.out.2⟩⟩
                have HA : Hid (OneArr l m B D w1.heap.size X O w (w4.alloc (.cells (arrCells l 0 0 false) 95)) 0 0 false 1 s0 (gs m 1 0)) :=
                  hid ⟨ka.get H4.out.1 (by simp), by have := new_alloc w4 (.cells (arrCells l 0 0 false) 95); rw [H4.out.2] at this; exact this, HI.out.bank.keep ka (by simp) (by simp), HI.out.kept.trans ka, ka.get HI.out.plan (by simp), HR.out.keep ka (by simp)⟩
                clear ka
                rw [H4.out.2]
                clear HS3 H4
                clear HI HR
                as_aux_lemma =>
                  go_loopw [64] (fun s wr2 => ∃ (j : Nat) (nx own c s' : Int) (la : Bool), s = .int .i64 j ∧ j ≤ 4 ∧ ((j = 0 ∧ nx = 0 ∧ own = 0 ∧ la = false ∧ c = 1 ∧ s' = s0) ∨ (j = 1 ∧ nx = 1 ∧ own = 1 - s0 ∧ la = false ∧ c = 1 ∧ s' = s0) ∨ (j = 2 ∧ nx = 2 ∧ own = 1 - s0 ∧ la = true ∧ c = 0 ∧ s' = s0) ∨ (j = 3 ∧ nx = 3 ∧ own = 1 - s0 ∧ la = true ∧ c = 1 ∧ s' = s0) ∨ (j = 4 ∧ nx = 5 ∧ own = 1 - s0 ∧ la = true ∧ c = 1 ∧ s' = 1 - s0)) ∧ OneArr l m B D w1.heap.size X O w wr2 nx own la c s' (gs m 1 0)) (fun s _ => 4 - (intOf s).toNat)
                  case atStart => exact ⟨0, 0, 0, 1, s0, false, rfl, by omega, .inl ⟨rfl, rfl, rfl, rfl, rfl, rfl⟩, HA.out⟩
                  case round =>
                    obtain ⟨j, nx, own, c, s', la, rfl, hj, hst, hinv⟩ := hrel
                    clear HA
                    have HA := hid hinv
                    clear hinv
                    rcases hst with ⟨rfl, rfl, rfl, rfl, rfl, rfl⟩ | ⟨rfl, rfl, rfl, rfl, rfl, rfl⟩ | ⟨rfl, rfl, rfl, rfl, rfl, rfl⟩ | ⟨rfl, rfl, rfl, rfl, rfl, rfl⟩ | ⟨rfl, rfl, rfl, rfl, rfl, rfl⟩
                    · as_aux_lemma =>
                        go_wp2_with fail
                        refine (g101_0 m X B D 15 l 1 1 s' 0 (1 - s') false HL.out HM.out (by split <;> omega) _ HA.out.ax HA.out.bank NE.out.xb).mono ?_
                        rintro e w4 ⟨rfl, hk, ha, hb⟩
                        have HA := hid (HA.out.stepX NE.out hk ha hb)
                        clear hk ha hb
                        go_wp2_with fail
                        go_roundw
                        case rel => exact ⟨1, 1, 1 - s', 1, s', false, rfl, by omega, .inr (.inl ⟨rfl, rfl, rfl, rfl, rfl, rfl⟩), HA.out⟩
                        case measure => simp [intOf]
                    · as_aux_lemma =>
                        go_wp2_with fail
                        refine (g101_1 m X B D 15 l 1 1 0 s' (1 - s') false true HL.out HM.out (cm1 1 0 (by omega) (by omega) rfl) rfl _ HA.out.ax HA.out.bank NE.out.xb).mono ?_
                        rintro e w4 ⟨rfl, hk, ha, hb⟩
                        have HA := hid (HA.out.stepX NE.out hk ha hb)
                        clear hk ha hb
                        go_wp2_with fail
                        go_roundw
                        case rel => exact ⟨2, 2, 1 - s', 0, s', true, rfl, by omega, .inr (.inr (.inl ⟨rfl, rfl, rfl, rfl, rfl, rfl⟩)), HA.out⟩
                        case measure => simp [intOf]
                    · as_aux_lemma =>
                        go_wp2_with fail
                        refine (g101_2 m X B D 15 l 1 0 s' (1 - s') true HL.out HM.out _ HA.out.ax HA.out.bank NE.out.xb).mono ?_
                        rintro e w4 ⟨rfl, hk, ha, hb⟩
                        have HA := hid (HA.out.stepX NE.out hk ha hb)
                        clear hk ha hb
                        go_wp2_with fail
                        go_roundw
                        case rel => exact ⟨3, 3, 1 - s', 1, s', true, rfl, by omega, .inr (.inr (.inr (.inl ⟨rfl, rfl, rfl, rfl, rfl, rfl⟩))), HA.out⟩
                        case measure => simp [intOf]
                    · as_aux_lemma =>
                        go_wp2_with fail
                        refine (g101_3 m X B D 15 l 1 1 s' (1 - s') true HL.out HM.out _ HA.out.ax HA.out.bank NE.out.xb).mono ?_
                        rintro e w4 ⟨rfl, hk, ha, hb⟩
                        have HA := hid (HA.out.stepX NE.out hk ha hb)
                        clear hk ha hb
                        go_wp2_with fail
                        go_roundw
                        case rel => exact ⟨4, 5, 1 - s', 1, 1 - s', true, rfl, by omega, .inr (.inr (.inr (.inr ⟨rfl, rfl, rfl, rfl, rfl, rfl⟩))), HA.out⟩
                        case measure => simp [intOf]
                    · as_aux_lemma =>
                        go_wp2_with fail
                        as_aux_lemma =>
                          refine (c102 X l 5 (1 - s0) true _ HA.out.ax).mono ?_
                          rintro e w4 ⟨rfl, rfl⟩
                          go_wp2_with fail
                          refine (c102 (X + 1) l 0 0 false _ HA.out.ac).mono ?_
                          rintro e w4 ⟨rfl, rfl⟩
                          go_wp2_with fail
                          refine (c101_5 X B l (1 - s0) true _ HA.out.ax).mono ?_
                          rintro e w4 ⟨rfl, rfl⟩
                          have hcP := cells_of HA.out.plan
                          go_wp2_with fail
                          refine (g42_9 m B D 15 l 1 1 (1 - s0) HL.out HM.out _ HA.out.bank).mono ?_
                          rintro e w4 ⟨rfl, rfl⟩
                          go_wp2_with fail
                          refine (g42_10 m B D 15 l 1 1 (1 - s0) HL.out HM.out _ HA.out.bank).mono ?_
                          rintro e w4 ⟨rfl, rfl⟩
                          have hts : (t : Int) % 2 = s0 := HS0.out
                          go_wp2_with fail
                          go_roundw
                          case rel => exact ⟨t + 1, by go_num, by omega, by have := HA.out.bank; rw [show (((t + 1 : Nat) : Int)) % 2 = 1 - s0 by omega]; exact ⟨this, HA.out.kept, HA.out.plan⟩, HA.out.row⟩
                          case measure => simp [intOf]; omega
        · as_aux_lemma =>
            have HI2 := hid HI.out
            obtain ⟨s0, hs0⟩ : ∃ s0 : Int, (t : Int) % 2 = s0 := ⟨_, rfl⟩
            rw [hs0] at HI
            clear hs0 HI2
            go_wp2_with fail
            refine (c48n B D 15 _ _ (by rw [gs_length]; exact HM.out) HI.out.bank).mono ?_
            rintro e w3 ⟨O2, rfl, hO, hk, hr⟩
            have HI := hid (HI.out.keep hk)
            have HR := hid (HR.out.keep hk (by simp))
            have HR2 := hid hr
            clear hO hk hr
            go_wp2_with fail
            go_loopw [105] (fun s wr2 => ∃ j : Nat, j ≤ 15 ∧ s = .int .i64 j ∧ Kept [] w3 wr2) (fun s _ => 15 - (intOf s).toNat)
            case atStart => exact ⟨0, by omega, rfl, Kept.refl _ _⟩
            case round =>
              obtain ⟨j, hj, rfl, hk7⟩ := hrel
              have HK7 := hid hk7
              clear hk7
              by_cases hlt2 : j < 15
              · as_aux_lemma =>
                  go_wp2_with fail
                  refine wp_region_at (by as_aux_lemma => kernel_rfl) (by as_aux_lemma => kernel_rfl) (fun W hW => ?_)
                  have kW : Kept [] w3 W := by rw [hW.out]; exact HK7.out
                  have hRa := later_row (HR.out.keep kW (by simp)) j (by rw [gs_length, HM.out]; exact hlt2)
                  have hRb := later_row (HR2.out.keep kW (by simp)) j (by rw [gs_length, HM.out]; exact hlt2)
                  have hcP := later_cells (kW.get HI.out.plan (by simp))
                  have KW := hid kW
                  have hd1 : decide ((15 : Int) ≤ (j : Int)) = false := decide_eq_false (by omega)
                  have hd2 : ((15 : Int) ≤ (j : Int)) = False := eq_false (by omega)
                  have hj15 : (j : Int) < 15 := by omega
                  by_cases hjs : (j : Int) = l.sense
                  · have hjb : ((j : Int) != l.sense) = false := by simp [hjs]
                    clear hjs kW
                    repeat (go_big_quiet_step (fail))
                    refine wpQuiet_nil ?_
                    rintro _ ⟨⟨w9, hk9⟩, rfl⟩
                    have K9 := hid (KW.out.trans hk9)
                    clear hk9 hRa hRb hcP
                    go_wp2
                    go_roundw
                    case rel => exact ⟨j + 1, by omega, by go_num, K9.out⟩
                    case measure => simp [intOf]; omega
                  · have hjb : ((j : Int) != l.sense) = true := by rw [bne_iff_ne]; exact hjs
                    have heq : (gs m 1 s0).getD j 0 = (gs m 1 0).getD j 0 := by
                      have h10 : (10 : Int) ≠ (j : Int) := by rw [← HL.out.sense]; exact Ne.symm hjs
                      have e1 : ∀ s', ld (gs m 1 s') (j : Int) = ld (st m 9 1) (j : Int) := fun s' => by rw [gs, ld_st_other h10]
                      have e2 : ∀ s', ld (gs m 1 s') (j : Int) = (gs m 1 s').getD j 0 := fun s' => by
                        rw [ld, if_pos ⟨by omega, by rw [gs_length, HM.out]; omega⟩, Int.toNat_natCast]
                      rw [← e2, ← e2, e1, e1]
                    rw [heq] at hRb
                    clear hjs kW heq
                    repeat (go_big_quiet_step (fail))
                    refine wpQuiet_nil ?_
                    rintro _ ⟨⟨w9, hk9⟩, rfl⟩
                    have K9 := hid (KW.out.trans hk9)
                    clear hk9 hRa hRb hcP
                    go_wp2
                    go_roundw
                    case rel => exact ⟨j + 1, by omega, by go_num, K9.out⟩
                    case measure => simp [intOf]; omega
              · as_aux_lemma =>
                  have hj9 : (15 : Int) ≤ (j : Int) := by omega
                  go_wp2_with fail
                  refine (awake14 _).mono ?_
                  rintro e w5 ⟨rfl, hk5⟩
                  go_wp2_with fail
                  go_ret
                  exact ⟨rfl, (HI.out.kept.trans HK7.out).trans hk5⟩
theorem belse_all {w : World} (a0 : Option Addr) (len cap : Nat) (f : Nat → Int) (a1 : Int) (w0 : Ints .i64 w a0 len cap f) (w1 : (Lit.int .u8 a1).wf = true) :
    Calls Try.prog 14 #[.slice a0 len cap, .int .u8 a1] w fun e w' => e = .returned (.bool true) ∧ Below w.heap.size w w' := by
  have hb := bounds_u8 w1
  exact (belse_main a1 (by omega) (by omega) a0 len cap f w w0).mono fun e w' ⟨h1, h2⟩ => ⟨h1, h2.below (Nat.le_refl _) (by simp)⟩
end Go.Proofs.Ytklkopoelhndoaa
