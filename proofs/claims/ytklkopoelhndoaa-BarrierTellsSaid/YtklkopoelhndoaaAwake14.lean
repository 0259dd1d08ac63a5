/- The chapter's examples of layer 14: two machines just made. -/
import Derived.Test.YtklkopoelhndoaaBarr3
import Derived.Test.YtklkopoelhndoaaOrd
namespace Go.Proofs.Ytklkopoelhndoaa
open Go.RowKit
set_option linter.unusedVariables false
@[reducible] def zeroArr : Array Value := #[.int .i64 0, .int .i64 0, .int .i64 0, .int .i64 0, .int .i64 0, .int .i64 0, .int .i64 0, .int .i64 0, .int .i64 0, .int .i64 0, .int .i64 0, .int .i64 0, .int .i64 0, .int .i64 0, .int .u8 0, .int .i64 0, .bool false]
@[reducible] def putArr (w : World) (P : Nat) (l : Lay) : World := (((((((((((((((((w.setCell ⟨P, 0, none⟩ (.int .i64 l.verts)).setCell ⟨P, 1, none⟩ (.int .i64 l.arcs)).setCell ⟨P, 2, none⟩ (.int .i64 l.workers)).setCell ⟨P, 3, none⟩ (.int .i64 l.room)).setCell ⟨P, 4, none⟩ (.int .i64 l.res)).setCell ⟨P, 5, none⟩ (.int .i64 l.ex)).setCell ⟨P, 6, none⟩ (.int .i64 l.h)).setCell ⟨P, 7, none⟩ (.int .i64 l.flag)).setCell ⟨P, 8, none⟩ (.int .i64 l.pending)).setCell ⟨P, 9, none⟩ (.int .i64 l.ask)).setCell ⟨P, 10, none⟩ (.int .i64 l.count)).setCell ⟨P, 11, none⟩ (.int .i64 l.sense)).setCell ⟨P, 12, none⟩ (.int .i64 l.deques)).setCell ⟨P, 13, none⟩ (.int .i64 l.size)).setCell ⟨P, 14, none⟩ (.int .u8 0)).setCell ⟨P, 15, none⟩ (.int .i64 0)).setCell ⟨P, 16, none⟩ (.bool false))
theorem putArr_heap {w : World} {P : Nat} (h : w.heap[P]? = some (.cells zeroArr 95 (0, 0))) (l : Lay) : ArrAt (putArr w P l) P l 0 0 false := by
  have := (set_of (set_of (set_of (set_of (set_of (set_of (set_of (set_of (set_of (set_of (set_of (set_of (set_of (set_of (set_of (set_of (set_of h 0 (.int .i64 l.verts)) 1 (.int .i64 l.arcs)) 2 (.int .i64 l.workers)) 3 (.int .i64 l.room)) 4 (.int .i64 l.res)) 5 (.int .i64 l.ex)) 6 (.int .i64 l.h)) 7 (.int .i64 l.flag)) 8 (.int .i64 l.pending)) 9 (.int .i64 l.ask)) 10 (.int .i64 l.count)) 11 (.int .i64 l.sense)) 12 (.int .i64 l.deques)) 13 (.int .i64 l.size)) 14 (.int .u8 0)) 15 (.int .i64 0)) 16 (.bool false))
  simpa [zeroArr, ArrAt, arrCells] using this
theorem putArr_kept (w : World) (P : Nat) (l : Lay) : Kept [P] w (putArr w P l) := (((((((((((((((((Kept.refl _ _).setCell (.inl (by simp)) _).setCell (.inl (by simp)) _).setCell (.inl (by simp)) _).setCell (.inl (by simp)) _).setCell (.inl (by simp)) _).setCell (.inl (by simp)) _).setCell (.inl (by simp)) _).setCell (.inl (by simp)) _).setCell (.inl (by simp)) _).setCell (.inl (by simp)) _).setCell (.inl (by simp)) _).setCell (.inl (by simp)) _).setCell (.inl (by simp)) _).setCell (.inl (by simp)) _).setCell (.inl (by simp)) _).setCell (.inl (by simp)) _).setCell (.inl (by simp)) _
theorem keepP {w1 w' : World} {c : Array Value} {t : TypeId} (h : Kept [] (w1.alloc (.cells c t)) w') : ∀ i, w'.cell? ⟨w1.heap.size, i, none⟩ = c[i]? := cells_of (h.get (new_alloc w1 _) (by simp))
/-- what each of the six yields: the plan, a machine, the plan, a machine, a new block, a new block -/
def R14 (l : Lay) (s : Nat) : Nat → Value → World → Prop
  | 0, x, _ => x = l.val
  | 1, x, _ => x = .agg (arrCells l 0 0 false)
  | 2, x, _ => x = l.val
  | 3, x, _ => x = .agg (arrCells l 0 0 false)
  | _, x, w => ∃ X, x = .pointer (some ⟨X, 0, none⟩) ∧ s ≤ X ∧ w.heap[X]? = some (.cells zeroArr 95 (0, 0))
theorem R14_keep (l : Lay) (s : Nat) : ∀ i x w w', R14 l s i x w → Kept [] w w' → R14 l s i x w'
  | 0, _, _, _, h, _ => h
  | 1, _, _, _, h, _ => h
  | 2, _, _, _, h, _ => h
  | 3, _, _, _, h, _ => h
  | _ + 4, _, _, _, ⟨X, e, hs, hX⟩, k => ⟨X, e, hs, k.get hX (by simp)⟩
theorem R14_ge {l : Lay} {s : Nat} {x : Value} {w : World} : ∀ {i : Nat}, R14 l s i x w → 4 ≤ i → ∃ X, x = .pointer (some ⟨X, 0, none⟩) ∧ s ≤ X ∧ w.heap[X]? = some (.cells zeroArr 95 (0, 0))
  | 0, _, h => by omega
  | 1, _, h => by omega
  | 2, _, h => by omega
  | 3, _, h => by omega
  | _ + 4, h, _ => h
def deps14 : Nat → List Nat
  | 1 => [0]
  | 3 => [1, 2]
  | _ => []
/-- two machines, a bank, a plan -/
structure TwoInv (l : Lay) (N B D P X Y : Nat) (w wr : World) (xn xo : Int) (xl : Bool) (yn yo : Int) (yl : Bool) (c s : Int) : Prop where
  ax : ArrAt wr X l xn xo xl
  ay : ArrAt wr Y l yn yo yl
  bank : BankAt wr B D (bs N c s)
  kept : Kept [] w wr
  plan : wr.heap[P]? = some (.cells l.cells 25 (0, 0))
structure TwoNe (B D P X Y : Nat) (w : World) : Prop where
  xb : X ≠ B ∧ X ≠ D
  yb : Y ≠ B ∧ Y ≠ D
  xy : X ≠ Y
  p : P ≠ X ∧ P ≠ Y ∧ P ≠ D
  s : w.heap.size ≤ X ∧ w.heap.size ≤ Y ∧ w.heap.size ≤ D
theorem TwoInv.stepX {l : Lay} {N B D P X Y : Nat} {w wr w' : World} {xn xo xn' xo' : Int} {xl xl' : Bool} {yn yo : Int} {yl : Bool} {c s c' s' : Int} (i : TwoInv l N B D P X Y w wr xn xo xl yn yo yl c s) (ne : TwoNe B D P X Y w)
    (k : Kept [X, D] wr w') (a : ArrAt w' X l xn' xo' xl') (b : BankAt w' B D (bs N c' s')) : TwoInv l N B D P X Y w w' xn' xo' xl' yn yo yl c' s' :=
  ⟨a, k.get i.ay (by simp; exact ⟨Ne.symm ne.xy, ne.yb.2⟩), b, i.kept.drop k (fun x hx => .inr (by simp at hx; have := ne.s; omega)), k.get i.plan (by simp; exact ⟨ne.p.1, ne.p.2.2⟩)⟩
theorem TwoInv.stepY {l : Lay} {N B D P X Y : Nat} {w wr w' : World} {xn xo yn' yo' : Int} {xl yl' : Bool} {yn yo : Int} {yl : Bool} {c s c' s' : Int} (i : TwoInv l N B D P X Y w wr xn xo xl yn yo yl c s) (ne : TwoNe B D P X Y w)
    (k : Kept [Y, D] wr w') (a : ArrAt w' Y l yn' yo' yl') (b : BankAt w' B D (bs N c' s')) : TwoInv l N B D P X Y w w' xn xo xl yn' yo' yl' c' s' :=
  ⟨k.get i.ax (by simp; exact ⟨ne.xy, ne.xb.2⟩), a, b, i.kept.drop k (fun x hx => .inr (by simp at hx; have := ne.s; omega)), k.get i.plan (by simp; exact ⟨ne.p.2.1, ne.p.2.2⟩)⟩
theorem cm1 (c c' : Int) (h0 : -1000 ≤ c) (h1 : c ≤ 1000) (h : c' = c - 1) : wrap64 (c + -1) = c' := by unfold wrap64; omega
set_option maxHeartbeats 4000000 in
set_option maxRecDepth 100000 in
theorem awake14 (w : World) : Calls Try.prog 39 #[] w fun e w' => e = .returned (.bool true) ∧ Kept [] w w' := by
  have G := hid (c97 2 (by omega) (by omega) w)
  obtain ⟨l, hl⟩ : ∃ l, l21 2 = l := ⟨_, rfl⟩
  have HL := hid hl
  rw [hl] at G
  clear hl
  go_enter Try.func39, Try.ntmps39
  go_wp2_with fail
  refine G.out.mono ?_
  clear G
  rintro e w1 ⟨B, D, rfl, hB, hD, hk1, hb1⟩
  have HBD := hid (And.intro hB hD)
  have HB := hid hb1
  have HK := hid hk1
  clear hb1 hk1 hB hD
  go_wp2_with fail
  obtain ⟨wp, hwp⟩ : ∃ wp, w1.alloc (.cells l.cells 25) = wp := ⟨_, rfl⟩
  have HWP := hid hwp
  rw [hwp]
  clear hwp
  have hpc : ∀ W, Kept [] wp W → ∀ i, W.cell? ⟨w1.heap.size, i, none⟩ = l.cells[i]? := fun W h => keepP (w1 := w1) (t := 25) (by rw [HWP.out]; exact h)
  have HPC := hid hpc
  clear hpc
  refine region_first (by kernel_rfl) 6 2 deps14 [14, 15, 16, 17, 4, 5] (by decide) rfl rfl (by kernel_rfl) rfl (R14 l wp.heap.size) (fun i => decide (4 ≤ i)) (R14_keep l _) ?step ?tail
  case step =>
    intro i d hd v W hkW hdep K hK
    have HKs := hid hK
    have hsz := hkW.size
    rcases i with _ | _ | _ | _ | _ | _ | i
    · have hc := HPC.out W hkW
      simp only [List.getElem?_cons_zero, List.getElem?_cons_succ, Option.some.injEq] at hd
      subst hd
      clear hK hdep hkW hsz
      refine wpOp_step rfl (fun K' hK' => ?_)
      have HK' := hid hK'
      clear hK'
      simp only [FrF, Act.put, List.setIfInBounds_toArray, List.set_cons_zero, List.set_cons_succ]
      go_simp
      exact HK'.out _ _ (HKs.out l.val W (Kept.refl _ _) rfl (by simp))
    · have e : v 0 = l.val := hdep 0 (by simp [deps14])
      simp only [List.getElem?_cons_zero, List.getElem?_cons_succ, Option.some.injEq] at hd
      subst hd
      clear hK hdep hkW hsz
      refine wpOp_step rfl (fun K' hK' => ?_)
      have HK' := hid hK'
      clear hK'
      simp only [FrF, Act.put, List.setIfInBounds_toArray, List.set_cons_zero, List.set_cons_succ]
      go_simp
      refine (c99 l _).mono ?_
      rintro e w' ⟨rfl, hk⟩
      have fin := HKs.out (.agg (arrCells l 0 0 false)) w' hk rfl (by simp)
      simp only [FrF, Act.put, List.setIfInBounds_toArray, List.set_cons_zero, List.set_cons_succ, e] at fin
      exact HK'.out _ _ fin
    · have hc := HPC.out W hkW
      simp only [List.getElem?_cons_zero, List.getElem?_cons_succ, Option.some.injEq] at hd
      subst hd
      clear hK hdep hkW hsz
      refine wpOp_step rfl (fun K' hK' => ?_)
      have HK' := hid hK'
      clear hK'
      simp only [FrF, Act.put, List.setIfInBounds_toArray, List.set_cons_zero, List.set_cons_succ]
      go_simp
      exact HK'.out _ _ (HKs.out l.val W (Kept.refl _ _) rfl (by simp))
    · have e : v 2 = l.val := hdep 2 (by simp [deps14])
      simp only [List.getElem?_cons_zero, List.getElem?_cons_succ, Option.some.injEq] at hd
      subst hd
      clear hK hdep hkW hsz
      refine wpOp_step rfl (fun K' hK' => ?_)
      have HK' := hid hK'
      clear hK'
      simp only [FrF, Act.put, List.setIfInBounds_toArray, List.set_cons_zero, List.set_cons_succ]
      go_simp
      refine (c99 l _).mono ?_
      rintro e w' ⟨rfl, hk⟩
      have fin := HKs.out (.agg (arrCells l 0 0 false)) w' hk rfl (by simp)
      simp only [FrF, Act.put, List.setIfInBounds_toArray, List.set_cons_zero, List.set_cons_succ, e] at fin
      exact HK'.out _ _ fin
    · simp only [List.getElem?_cons_zero, List.getElem?_cons_succ, Option.some.injEq] at hd
      subst hd
      have HSZ := hid hsz
      clear hK hdep hkW hsz
      refine wpOp_step rfl (fun K' hK' => ?_)
      have HK' := hid hK'
      clear hK'
      simp only [FrF, Act.put, List.setIfInBounds_toArray, List.set_cons_zero, List.set_cons_succ]
      go_simp
      refine HK'.out _ _ (HKs.out (.pointer (some ⟨W.heap.size, 0, none⟩)) _ ((Kept.refl _ _).alloc _) ⟨_, rfl, HSZ.out, new_alloc W _⟩ (fun _ j y hj hy => ?_))
      obtain ⟨X, rfl, _, hX⟩ := R14_ge hy (by simpa using hj)
      intro he
      have := lt_of_heap hX
      simp at he <;> omega
    · simp only [List.getElem?_cons_zero, List.getElem?_cons_succ, Option.some.injEq] at hd
      subst hd
      have HSZ := hid hsz
      clear hK hdep hkW hsz
      refine wpOp_step rfl (fun K' hK' => ?_)
      have HK' := hid hK'
      clear hK'
      simp only [FrF, Act.put, List.setIfInBounds_toArray, List.set_cons_zero, List.set_cons_succ]
      go_simp
      refine HK'.out _ _ (HKs.out (.pointer (some ⟨W.heap.size, 0, none⟩)) _ ((Kept.refl _ _).alloc _) ⟨_, rfl, HSZ.out, new_alloc W _⟩ (fun _ j y hj hy => ?_))
      obtain ⟨X, rfl, _, hX⟩ := R14_ge hy (by simpa using hj)
      intro he
      have := lt_of_heap hX
      simp at he <;> omega
    · simp at hd
  case tail =>
    intro v W hkW hr hdist
    have e0 : v 0 = l.val := hr 0 (by omega)
    have e1 : v 1 = .agg (arrCells l 0 0 false) := hr 1 (by omega)
    have e2 : v 2 = l.val := hr 2 (by omega)
    have e3 : v 3 = .agg (arrCells l 0 0 false) := hr 3 (by omega)
    obtain ⟨X, e4, hXs, hX⟩ := R14_ge (hr 4 (by omega)) (by omega)
    obtain ⟨Y, e5, hYs, hY⟩ := R14_ge (hr 5 (by omega)) (by omega)
    have hXY : X ≠ Y := fun h => hdist 4 5 (by omega) (by omega) rfl rfl (by omega) (by rw [e4, e5, h])
    have HT : Hid (Kept [] wp W ∧ wp.heap.size ≤ X ∧ wp.heap.size ≤ Y) := hid ⟨hkW, hXs, hYs⟩
    have HX := hid hX
    have HY := hid hY
    have hcX := cells_of hX
    have hzX := free_of hX
    have hcY := cells_of hY
    have hzY := free_of hY
    clear hr hdist hkW hXs hYs hX hY
    simp only [FrF, Act.put, List.setIfInBounds_toArray, List.set_cons_zero, List.set_cons_succ, e0, e1, e2, e3, e4, e5]
    clear e0 e1 e2 e3 e4 e5
    refine wpAny_one (i := 6) (by kernel_rfl) ?_
    refine wpOp_step rfl (fun K' hK' => ?_)
    have HK' := hid hK'
    clear hK'
    go_simp
    refine HK'.out _ _ ?_
    clear HK' K'
    change wpAny Try.prog .any _ _ _ _ _ (putArr W X l)
    have HW1 := hid (putArr_kept W X l)
    have HX1 := hid (putArr_heap HX.out l)
    have HY1 := hid (HW1.out.get HY.out (by simpa using Ne.symm hXY))
    clear hcX hzX hcY hzY
    obtain ⟨W1, hW1⟩ : ∃ W1, putArr W X l = W1 := ⟨_, rfl⟩
    rw [hW1] at HW1 HX1 HY1
    have hcX := cells_of HX1.out
    have hzX := free_of HX1.out
    have hcY := cells_of HY1.out
    have hzY := free_of HY1.out
    rw [hW1]
    refine wpAny_one (i := 7) (by kernel_rfl) ?_
    refine wpOp_step rfl (fun K' hK' => ?_)
    have HK' := hid hK'
    clear hK'
    go_simp
    refine HK'.out _ _ ?_
    clear HK' K'
    change wpAny Try.prog .any _ _ _ _ _ (putArr W1 Y l)
    have HW2 := hid (putArr_kept W1 Y l)
    have HY2 := hid (putArr_heap HY1.out l)
    have HX2 := hid (HW2.out.get HX1.out (by simpa using hXY))
    clear hcX hzX hcY hzY
    obtain ⟨W2, hW2⟩ : ∃ W2, putArr W1 Y l = W2 := ⟨_, rfl⟩
    rw [hW2] at HW2 HY2 HX2 ⊢
    clear hW2 hW1
    refine wpAny_none (by kernel_rfl) ?_
    have hpk : Kept [] w1 wp := by rw [← HWP.out]; exact (Kept.refl _ _).alloc _
    have hps : wp.heap.size = w1.heap.size + 1 := by rw [← HWP.out]; simp
    have hpp : wp.heap[w1.heap.size]? = some (.cells l.cells 25 (0, 0)) := by rw [← HWP.out]; exact new_alloc _ _
    have NE : Hid (TwoNe B D w1.heap.size X Y w) := hid (by
      have hb1 := HB.out.ltB
      have hd1 := HB.out.ltD
      have h1 := HT.out.2
      have h2 := HK.out.size
      have h3 := HBD.out
      exact ⟨⟨by omega, by omega⟩, ⟨by omega, by omega⟩, hXY, ⟨by omega, by omega, by omega⟩, ⟨by omega, by omega, h3.2⟩⟩)
    have L : Hid (L14 l 19 2) := hid (by rw [← HL.out]; exact l14 2 (by omega))
    have kk : Kept [X, Y] wp W2 := ((HT.out.1.of_nil).trans (HW1.out.mono (by simp))).trans (HW2.out.mono (by simp))
    have HI : Hid (TwoInv l 19 B D w1.heap.size X Y w W2 0 0 false 0 0 false 2 0) := hid (by
      refine ⟨HX2.out, HY2.out, ?_, ?_, kk.get hpp (by simp; exact ⟨NE.out.p.1, NE.out.p.2.1⟩)⟩
      · have := HB.out
        rw [rdy14 L.out] at this
        exact (this.keep hpk (by simp) (by simp)).keep kk (by simp; exact ⟨Ne.symm NE.out.xb.1, Ne.symm NE.out.yb.1⟩) (by simp; exact ⟨Ne.symm NE.out.xb.2, Ne.symm NE.out.yb.2⟩)
      · exact (HK.out.trans hpk).drop kk (fun x hx => .inr (by simp at hx; have := NE.out.s; omega)))
    clear kk hpp hps hpk HX2 HY2 HW2 HW1 HX1 HY1 HX HY HT HPC HWP HB HK HBD HL hXY
    go_wp2_with fail
    go_loopw [18] (fun s wr => ∃ (i : Nat) (nx own c : Int), s = .int .i64 i ∧ i ≤ 5 ∧ ((i = 0 ∧ nx = 0 ∧ own = 0 ∧ c = 2) ∨ (i = 1 ∧ nx = 1 ∧ own = 1 ∧ c = 2) ∨ (2 ≤ i ∧ nx = 4 ∧ own = 1 ∧ c = 1)) ∧ TwoInv l 19 B D w1.heap.size X Y w wr nx own false 0 0 false c 0) (fun s _ => 5 - (intOf s).toNat)
    case atStart => exact ⟨0, 0, 0, 2, rfl, by omega, .inl ⟨rfl, rfl, rfl, rfl⟩, HI.out⟩
    case round =>
      obtain ⟨i, nx, own, c, rfl, hi, hst, hinv⟩ := hrel
      clear HI
      have HI := hid hinv
      clear hinv
      by_cases hlt : i < 5
      · rcases hst with ⟨rfl, rfl, rfl, rfl⟩ | ⟨rfl, rfl, rfl, rfl⟩ | ⟨h2, rfl, rfl, rfl⟩
        · go_wp2_with fail
          refine (b101_0 X B D 19 l 2 2 0 0 1 false L.out rfl _ HI.out.ax HI.out.bank NE.out.xb).mono ?_
          rintro e w3 ⟨rfl, hk, ha, hb⟩
          have HI := hid (HI.out.stepX NE.out hk ha hb)
          clear hk ha hb
          go_wp2_with fail
          go_roundw
          case rel => exact ⟨1, 1, 1, 2, rfl, by omega, .inr (.inl ⟨rfl, rfl, rfl, rfl⟩), HI.out⟩
          case measure => simp [intOf]
        · go_wp2_with fail
          refine (b101_1 X B D 19 l 2 2 1 0 1 false false L.out (cm1 2 1 (by omega) (by omega) rfl) rfl _ HI.out.ax HI.out.bank NE.out.xb).mono ?_
          rintro e w3 ⟨rfl, hk, ha, hb⟩
          have HI := hid (HI.out.stepX NE.out hk ha hb)
          clear hk ha hb
          go_wp2_with fail
          go_roundw
          case rel => exact ⟨2, 4, 1, 1, rfl, by omega, .inr (.inr ⟨by omega, rfl, rfl, rfl⟩), HI.out⟩
          case measure => simp [intOf]
        · go_wp2_with fail
          refine (b101_4 X B D 19 l 2 1 0 1 false false L.out rfl _ HI.out.ax HI.out.bank NE.out.xb).mono ?_
          rintro e w3 ⟨rfl, hk, ha, hb⟩
          have HI := hid (HI.out.stepX NE.out hk ha hb)
          clear hk ha hb
          go_wp2_with fail
          go_roundw
          case rel => exact ⟨i + 1, 4, 1, 1, by go_num, by omega, .inr (.inr ⟨by omega, rfl, rfl, rfl⟩), HI.out⟩
          case measure => simp [intOf]; omega
      · have hi5 : (5 : Int) ≤ (i : Int) := by omega
        obtain ⟨rfl, rfl, rfl⟩ : nx = 4 ∧ own = 1 ∧ c = 1 := by omega
        clear hst hlt hi
        obtain ⟨z, hz⟩ : ∃ z : Int, (i : Int) = z := ⟨_, rfl⟩
        rw [hz] at hi5 ⊢
        clear hz
        go_wp2_with fail
        go_loopw [23] (fun s wr2 => ∃ (i : Nat) (nx own c s' : Int) (la : Bool), s = .int .i64 i ∧ i ≤ 4 ∧ ((i = 0 ∧ nx = 0 ∧ own = 0 ∧ la = false ∧ c = 1 ∧ s' = 0) ∨ (i = 1 ∧ nx = 1 ∧ own = 1 ∧ la = false ∧ c = 1 ∧ s' = 0) ∨ (i = 2 ∧ nx = 2 ∧ own = 1 ∧ la = true ∧ c = 0 ∧ s' = 0) ∨ (i = 3 ∧ nx = 3 ∧ own = 1 ∧ la = true ∧ c = 2 ∧ s' = 0) ∨ (i = 4 ∧ nx = 5 ∧ own = 1 ∧ la = true ∧ c = 2 ∧ s' = 1)) ∧ TwoInv l 19 B D w1.heap.size X Y w wr2 4 1 false nx own la c s') (fun s _ => 4 - (intOf s).toNat)
        case atStart => exact ⟨0, 0, 0, 1, 0, false, rfl, by omega, .inl ⟨rfl, rfl, rfl, rfl, rfl, rfl⟩, HI.out⟩
        case round =>
          obtain ⟨i, nx, own, c, s', la, rfl, hi, hst, hinv⟩ := hrel
          clear HI
          have HI := hid hinv
          clear hinv
          rcases hst with ⟨rfl, rfl, rfl, rfl, rfl, rfl⟩ | ⟨rfl, rfl, rfl, rfl, rfl, rfl⟩ | ⟨rfl, rfl, rfl, rfl, rfl, rfl⟩ | ⟨rfl, rfl, rfl, rfl, rfl, rfl⟩ | ⟨rfl, rfl, rfl, rfl, rfl, rfl⟩
          · go_wp2_with fail
            refine (b101_0 Y B D 19 l 2 1 0 0 1 false L.out rfl _ HI.out.ay HI.out.bank NE.out.yb).mono ?_
            rintro e w3 ⟨rfl, hk, ha, hb⟩
            have HI := hid (HI.out.stepY NE.out hk ha hb)
            clear hk ha hb
            go_wp2_with fail
            go_roundw
            case rel => exact ⟨1, 1, 1, 1, 0, false, rfl, by omega, .inr (.inl ⟨rfl, rfl, rfl, rfl, rfl, rfl⟩), HI.out⟩
            case measure => simp [intOf]
          · go_wp2_with fail
            refine (b101_1 Y B D 19 l 2 1 0 0 1 false true L.out (cm1 1 0 (by omega) (by omega) rfl) rfl _ HI.out.ay HI.out.bank NE.out.yb).mono ?_
            rintro e w3 ⟨rfl, hk, ha, hb⟩
            have HI := hid (HI.out.stepY NE.out hk ha hb)
            clear hk ha hb
            go_wp2_with fail
            go_roundw
            case rel => exact ⟨2, 2, 1, 0, 0, true, rfl, by omega, .inr (.inr (.inl ⟨rfl, rfl, rfl, rfl, rfl, rfl⟩)), HI.out⟩
            case measure => simp [intOf]
          · go_wp2_with fail
            refine (b101_2 Y B D 19 l 2 0 0 1 true L.out _ HI.out.ay HI.out.bank NE.out.yb).mono ?_
            rintro e w3 ⟨rfl, hk, ha, hb⟩
            have HI := hid (HI.out.stepY NE.out hk ha hb)
            clear hk ha hb
            go_wp2_with fail
            go_roundw
            case rel => exact ⟨3, 3, 1, 2, 0, true, rfl, by omega, .inr (.inr (.inr (.inl ⟨rfl, rfl, rfl, rfl, rfl, rfl⟩))), HI.out⟩
            case measure => simp [intOf]
          · go_wp2_with fail
            refine (b101_3 Y B D 19 l 2 2 0 1 true L.out _ HI.out.ay HI.out.bank NE.out.yb).mono ?_
            rintro e w3 ⟨rfl, hk, ha, hb⟩
            have HI := hid (HI.out.stepY NE.out hk ha hb)
            clear hk ha hb
            go_wp2_with fail
            go_roundw
            case rel => exact ⟨4, 5, 1, 2, 1, true, rfl, by omega, .inr (.inr (.inr (.inr ⟨rfl, rfl, rfl, rfl, rfl, rfl⟩))), HI.out⟩
            case measure => simp [intOf]
          · go_wp2_with fail
            refine (c102 Y l 5 1 true _ HI.out.ay).mono ?_
            rintro e w3 ⟨rfl, rfl⟩
            go_wp2_with fail
            refine (c102 X l 4 1 false _ HI.out.ax).mono ?_
            rintro e w3 ⟨rfl, rfl⟩
            go_wp2_with fail
            refine (b101_4 X B D 19 l 2 2 1 1 false true L.out rfl _ HI.out.ax HI.out.bank NE.out.xb).mono ?_
            rintro e w3 ⟨rfl, hk, ha, hb⟩
            have HI := hid (HI.out.stepX NE.out hk ha hb)
            clear hk ha hb
            have hcP := cells_of HI.out.plan
            go_wp2_with fail
            refine (b42_9 B D 19 l 2 2 1 L.out _ HI.out.bank).mono ?_
            rintro e w4 ⟨rfl, rfl⟩
            go_wp2_with fail
            refine (b42_10 B D 19 l 2 2 1 L.out _ HI.out.bank).mono ?_
            rintro e w4 ⟨rfl, rfl⟩
            go_wp2_with fail
            go_ret
            exact ⟨rfl, HI.out.kept⟩
end Go.Proofs.Ytklkopoelhndoaa
