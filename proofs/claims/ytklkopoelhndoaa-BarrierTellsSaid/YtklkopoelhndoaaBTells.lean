/- BarrierTells returns true, whatever comes in. -/
import Derived.Test.YtklkopoelhndoaaBMod
import Derived.Test.YtklkopoelhndoaaAwake14
import Derived.Test.YtklkopoelhndoaaCmp94
import Derived.Test.YtklkopoelhndoaaRowMid
import Derived.Test.YtklkopoelhndoaaInts
import Derived.Test.YtklkopoelhndoaaBElse
import Derived.Test.YtklkopoelhndoaaCPend
import Derived.Deep.Cut
import Derived.BigQuiet
namespace Go.Proofs.Ytklkopoelhndoaa
open Go.RowKit Go.ChangeShapes Go.WideShapes
set_option linter.unusedVariables false
theorem info149' : (Try.prog.info? 95).map (fun i => (i.zero, i.size, i.bytes)) = some (some (.agg zeroArr), 17, 136) := by kernel_rfl
theorem info152 : (Try.prog.info? 98).map (·.size) = some 4 := by kernel_rfl
theorem info152' : (Try.prog.info? 98).map (fun i => (i.zero, i.size, i.bytes)) = some (some (.agg (refCells 0 0 false false)), 4, 24) := by kernel_rfl
/-- nine machines made, the first k of them begun -/
structure TB0 (l : Lay) (N B D P g Lb S : Nat) (n : Int) (w wr : World) (k : Nat) : Prop where
  bank : BankAt wr B D (bs N n 0)
  kept : Kept [] w wr
  plan : wr.heap[P]? = some (.cells l.cells 25 (0, 0))
  row : RowIn wr g (bs N n 0)
  same : wr.heap[S]? = some (.cells (madeCells (Value.agg (refCells 0 0 false false)).cells 36) 98 (0, 0))
  list : ∃ c, BlkAt wr Lb c ∧ c.size = 153 ∧ ∀ i, i < k → MC c (i * 17) l 0 0 false
structure TBN (B D P g Lb S : Nat) (w : World) : Prop where
  lb : Lb ≠ B ∧ Lb ≠ D ∧ Lb ≠ P ∧ Lb ≠ g ∧ Lb ≠ S
  s : S ≠ B ∧ S ≠ D ∧ S ≠ P ∧ S ≠ g
  g : g ≠ B ∧ g ≠ D ∧ g ≠ P
  p : P ≠ B ∧ P ≠ D
  b : w.heap.size ≤ B ∧ w.heap.size ≤ D ∧ w.heap.size ≤ Lb ∧ w.heap.size ≤ S
/-- a whole machine stored into the midst of a block of machines -/
theorem arr_store {w : World} {b o : Nat} {c : Array Value} (h : BlkAt w b c) (ho : o + 17 ≤ c.size) (l : Lay) (nx own : Int) (last : Bool) :
    ∃ c', BlkAt (w.setCells b o (arrCells l nx own last).toList) b c' ∧ c'.size = c.size ∧ MC c' o l nx own last ∧ Beside c c' o := by
  obtain ⟨c', h1, h2, h3, h4⟩ := store_mid b 95 (arrCells l nx own last).toList o w c h ho
  exact ⟨c', h1, h2, fun j hj => by rw [h3 j hj]; simp, h2, h4⟩
theorem MC.beside {c c' : Array Value} {o o' : Nat} {l : Lay} {nx own : Int} {last : Bool} (h : MC c o l nx own last) (k : Beside c c' o') (hd : o + 17 ≤ o' ∨ o' + 17 ≤ o) : MC c' o l nx own last :=
  fun j hj => by rw [k.2 (o + j) (by omega)]; exact h j hj
theorem TB0.next {l : Lay} {N B D P g Lb S : Nat} {n : Int} {w wr w' : World} {k : Nat} (i : TB0 l N B D P g Lb S n w wr k) (ne : TBN B D P g Lb S w) (hk : k < 9) (h : Kept [] wr w') :
    TB0 l N B D P g Lb S n w (w'.setCells Lb (k * 17) (arrCells l 0 0 false).toList) (k + 1) := by
  obtain ⟨c, h1, h2, h3⟩ := i.list
  obtain ⟨c', g1, g2, g3, g4⟩ := arr_store (o := k * 17) (show BlkAt w' Lb c from h.get h1 (by simp)) (by omega) l 0 0 false
  have ks := setCells_kept Lb (arrCells l 0 0 false).toList (k * 17) w'
  have e := ne.lb
  refine ⟨(i.bank.keep h (by simp) (by simp)).keep ks (by simpa using Ne.symm e.1) (by simpa using Ne.symm e.2.1), (i.kept.trans h).drop ks (fun x hx => .inr (by simp at hx; have := ne.b; omega)), ks.get (h.get i.plan (by simp)) (by simpa using Ne.symm e.2.2.1),
    (i.row.keep h (by simp)).keep ks (by simpa using Ne.symm e.2.2.2.1), ks.get (h.get i.same (by simp)) (by simpa using Ne.symm e.2.2.2.2), c', g1, by omega, fun j hj => ?_⟩
  by_cases ej : j = k
  · subst ej; exact g3
  · exact (h3 j (by omega)).beside g4 (by omega)
theorem put4m {w : World} {S q : Nat} {c : Array Value} (h : w.heap[S]? = some (.cells c 98 (0, 0))) (hq : q * 4 + 4 ≤ c.size) (a o : Int) (l d : Bool) :
    ∃ c', ((((w.setCell ⟨S, q * 4, none⟩ (.int .i64 a)).setCell ⟨S, q * 4 + 1, none⟩ (.int .i64 o)).setCell ⟨S, q * 4 + 2, none⟩ (.bool l)).setCell ⟨S, q * 4 + 3, none⟩ (.bool d)).heap[S]? = some (.cells c' 98 (0, 0)) ∧ c'.size = c.size ∧
      (∀ j, j < 4 → c'[q * 4 + j]? = (refCells a o l d)[j]?) ∧ (∀ j, (j < q * 4 ∨ q * 4 + 4 ≤ j) → c'[j]? = c[j]?) := by
  obtain ⟨c', h1, h2, h3, h4⟩ := store_mid S 98 (refCells a o l d).toList (q * 4) w c h hq
  exact ⟨c', h1, h2, fun j hj => by rw [h3 j hj]; simp, h4⟩
theorem put4k (w : World) (S q : Nat) (a o : Int) (l d : Bool) : Kept [S] w ((((w.setCell ⟨S, q * 4, none⟩ (.int .i64 a)).setCell ⟨S, q * 4 + 1, none⟩ (.int .i64 o)).setCell ⟨S, q * 4 + 2, none⟩ (.bool l)).setCell ⟨S, q * 4 + 3, none⟩ (.bool d)) :=
  setCells_kept S (refCells a o l d).toList (q * 4) w
/-- all under way -/
structure TB (l : Lay) (N B D P Lb S : Nat) (n : Int) (w wr : World) (k g : Nat) (p s : Int) (A : Nat → Am) (T : Nat → Int) : Prop where
  bank : BankAt wr B D (bs N p s)
  kept : Kept [] w wr
  plan : wr.heap[P]? = some (.cells l.cells 25 (0, 0))
  row : RowIn wr g (bs N p s)
  same : ∃ c : Array Value, wr.heap[S]? = some (.cells c 98 (0, 0)) ∧ c.size = 36 ∧ ∀ i, i < 9 → ∀ j, j < 4 → c[i * 4 + j]? = (refCells (T i) (A i).own (A i).last false)[j]?
  list : ∃ c, BlkAt wr Lb c ∧ c.size = 153 ∧ ∀ i, i < 9 → MC c (i * 17) l (A i).nx (A i).own (A i).last
  rel : ∀ i, i < 9 → RefRel (A i) (T i) ∧ T i ≤ k
  ne : TBN B D P g Lb S w
theorem TB.mk' {l : Lay} {N B D P Lb S : Nat} {n : Int} {w w9 : World} {k g : Nat} {p s : Int} {A : Nat → Am} {T : Nat → Int} {cS cS' cL cL' : Array Value} (q : Nat) (a : Am) (t : Int)
    (hs : ∀ i, i < 9 → ∀ j, j < 4 → cS[i * 4 + j]? = (refCells (T i) (A i).own (A i).last false)[j]?) (hl : ∀ i, i < 9 → MC cL (i * 17) l (A i).nx (A i).own (A i).last)
    (hrel : ∀ i, i < 9 → RefRel (A i) (T i) ∧ T i ≤ k) (hr : RefRel a t) (ht : t ≤ k + 1)
    (bank : BankAt w9 B D (bs N p s)) (kept : Kept [] w w9) (plan : w9.heap[P]? = some (.cells l.cells 25 (0, 0))) (row : RowIn w9 g (bs N p s)) (ne : TBN B D P g Lb S w)
    (s1 : w9.heap[S]? = some (.cells cS' 98 (0, 0))) (s2 : cS'.size = 36) (s3 : ∀ j, j < 4 → cS'[q * 4 + j]? = (refCells t a.own a.last false)[j]?) (s4 : ∀ j, (j < q * 4 ∨ q * 4 + 4 ≤ j) → cS'[j]? = cS[j]?)
    (l1 : BlkAt w9 Lb cL') (l2 : cL'.size = 153) (l3 : MC cL' (q * 17) l a.nx a.own a.last) (l4 : Beside cL cL' (q * 17)) :
    TB l N B D P Lb S n w w9 (k + 1) g p s (fun i => if i = q then a else A i) (fun i => if i = q then t else T i) := by
  refine ⟨bank, kept, plan, row, ⟨cS', s1, s2, fun i hi j hj => ?_⟩, ⟨cL', l1, l2, fun i hi => ?_⟩, fun i hi => ?_, ne⟩
  · by_cases e : i = q
    · subst e; simp only [if_pos]; exact s3 j hj
    · simp only [if_neg e]; rw [s4 _ (by omega)]; exact hs i hi j hj
  · by_cases e : i = q
    · subst e; simp only [if_pos]; exact l3
    · simp only [if_neg e]; exact (hl i hi).beside l4 (by omega)
  · by_cases e : i = q
    · subst e; simp only [if_pos]; exact ⟨hr, by omega⟩
    · simp only [if_neg e]; have := hrel i hi; exact ⟨this.1, by omega⟩
theorem TBN.g' {B D P g g' Lb S : Nat} {w wr : World} (h : TBN B D P g Lb S w) (hg : g' = g ∨ wr.heap.size ≤ g') (hB : B < wr.heap.size) (hD : D < wr.heap.size) (hP : P < wr.heap.size) (hL : Lb < wr.heap.size) (hS : S < wr.heap.size) : TBN B D P g' Lb S w := by
  have h1 := h.lb
  have h2 := h.s
  have h3 := h.g
  exact ⟨⟨h1.1, h1.2.1, h1.2.2.1, by omega, h1.2.2.2.2⟩, ⟨h2.1, h2.2.1, h2.2.2.1, by omega⟩, ⟨by omega, by omega, by omega⟩, h.p, h.b⟩
theorem TB.ng {l : Lay} {N B D P Lb S : Nat} {n : Int} {w wr : World} {k g g' : Nat} {p s : Int} {A : Nat → Am} {T : Nat → Int} (i : TB l N B D P Lb S n w wr k g p s A T) (hg : g' = g ∨ wr.heap.size ≤ g') : TBN B D P g' Lb S w := by
  obtain ⟨c, h1, _⟩ := i.same
  obtain ⟨c', h2, _⟩ := i.list
  exact i.ne.g' hg i.bank.ltB i.bank.ltD (lt_of_heap i.plan) (lt_of_heap h2) (lt_of_heap h1)
theorem madeCells_get (z : Array Value) (n j : Nat) (h : j < n) : (madeCells z n)[j]? = some z[j % z.size]! := by simp [madeCells, h]
theorem TB0.all {l : Lay} {N B D P g Lb S : Nat} {n : Int} {w wr : World} (i : TB0 l N B D P g Lb S n w wr 9) (ne : TBN B D P g Lb S w) : TB l N B D P Lb S n w wr 0 g n 0 (fun _ => ⟨0, 0, false⟩) (fun _ => 0) := by
  refine ⟨i.bank, i.kept, i.plan, i.row, ⟨_, i.same, by simp [madeCells], fun j hj q hq => ?_⟩, i.list, fun j hj => ⟨.inl ⟨rfl, rfl, rfl, rfl⟩, by omega⟩, ne⟩
  show (madeCells (refCells 0 0 false false) 36)[j * 4 + q]? = _
  rw [madeCells_get _ _ _ (by omega), show (refCells 0 0 false false).size = 4 from rfl, show (j * 4 + q) % 4 = q by omega]
  match q, hq with
  | 0, _ | 1, _ | 2, _ | 3, _ => rfl
  | q + 4, hq => omega
set_option maxHeartbeats 16000000 in
set_option maxRecDepth 100000 in
theorem btells_main (y : Int) (hy0 : 0 ≤ y) (hy1 : y ≤ 255) (a : Option Addr) (len cap : Nat) (f : Nat → Int) (w : World) (h : Ints .u8 w a len cap f) :
    Calls Try.prog 13 #[.int .u8 y, .slice a len cap] w fun e w' => e = .returned (.bool true) ∧ Kept [] w w' := by
  obtain ⟨hlc, hcm, ha, hf⟩ := h
  unfold maxLen at hcm
  have HF := hid hf
  obtain ⟨i0, hi, hz0, hz1, hz2⟩ := info_parts info149'
  have hmk1 : ∀ W : World, (Instr.makeSlice 71 (.int .i64 9) (.int .i64 9)).run Try.prog W = .ok (.slice (some ⟨W.heap.size, 0, none⟩) 9 9) (W.alloc (.cells (madeCells (Value.agg zeroArr).cells 153) 95)) := by
    intro W
    have := run_make (P := Try.prog) W 71 95 i0 (.agg zeroArr) Try.underlying71 hi hz0 .i64 .i64 9 9 (by omega) (by omega) (by rw [hz2]; omega) (by omega)
    rwa [hz1] at this
  clear hi hz0 hz1 hz2
  obtain ⟨i0, hi, hz0, hz1, hz2⟩ := info_parts info152'
  have hmk2 : ∀ W : World, (Instr.makeSlice 92 (.int .i64 9) (.int .i64 9)).run Try.prog W = .ok (.slice (some ⟨W.heap.size, 0, none⟩) 9 9) (W.alloc (.cells (madeCells (Value.agg (refCells 0 0 false false)).cells 36) 98)) := by
    intro W
    have := run_make (P := Try.prog) W 92 98 i0 (.agg (refCells 0 0 false false)) Try.underlying92 hi hz0 .i64 .i64 9 9 (by omega) (by omega) (by rw [hz2]; omega) (by omega)
    rwa [hz1] at this
  clear hi hz0 hz1 hz2
  obtain ⟨L, hL, hLl, hL1⟩ : ∃ L : Nat, L = min len 200 ∧ L ≤ len ∧ L ≤ 200 := ⟨_, rfl, by omega, by omega⟩
  have hmin : ∀ (ats : Array TypeId) (ty : TypeId), Builtin.min_ ats ty #[.int .i64 (len : Int), .int .i64 200] = pure (.int .i64 (L : Int)) := min_at len 200 L hL
  obtain ⟨i0, hi, hz0, hz1, hz2⟩ := info_parts info2
  have HMK : Hid (∀ (N : Nat), N ≤ 1000 → ∀ W : World, (Instr.makeSlice 76 (.int .i64 (N : Int)) (.int .i64 (N : Int))).run Try.prog W = .ok (.slice (some ⟨W.heap.size, 0, none⟩) N N) (W.alloc (.cells (i64s (List.replicate N 0)) 2))) := by
    refine hid (fun N hN W => ?_)
    have := run_make (P := Try.prog) W 76 2 i0 (.int .i64 0) Try.underlying76 hi hz0 .i64 .i64 N N (by omega) (by omega) (by rw [hz2]; omega) (by omega)
    rwa [hz1, Int.toNat_natCast, Nat.mul_one, madeCells_zero1] at this
  clear hi hz0 hz1 hz2
  have HMN := hid hmin
  have HM1 := hid hmk1
  have HM2 := hid hmk2
  clear hf hL hmin hmk1 hmk2
  obtain ⟨n, hn⟩ : ∃ n : Int, 1 + y % 8 = n := ⟨_, rfl⟩
  have hn0 : 1 ≤ n := by omega
  have hn1 : n ≤ 8 := by omega
  have G := hid (c97 n (by omega) (by omega) w)
  obtain ⟨N, hN⟩ : ∃ N : Nat, (11 + n * 4).toNat = N := ⟨_, rfl⟩
  have HL := hid (l14 n (by omega))
  rw [hN] at HL
  have hN1 : 11 ≤ N := by omega
  have hN2 : N ≤ 100 := by omega
  obtain ⟨l, hl⟩ : ∃ l, l21 n = l := ⟨_, rfl⟩
  rw [hl] at G HL
  have HN := hid hn
  clear hl hN hn
  go_enter Try.func13, Try.ntmps13
  go_upto_region 2 with fail
  rw [HN.out]
  go_wp2_with fail
  refine G.out.mono ?_
  clear G
  rintro e w1 ⟨B, D, rfl, hB, hD, hk1, hb1⟩
  rw [rdy14 HL.out] at hb1
  have HBD := hid (And.intro hB hD)
  go_upto_region 5 with fail
  have HS1 : Hid (w1.heap.size ≠ B ∧ w1.heap.size ≠ D) := hid ⟨fun e => by have := hb1.ltB; omega, fun e => by have := hb1.ltD; omega⟩
  have HPl := hid (new_alloc w1 (.cells l.cells 25))
  have HK1 := hid (hk1.trans ((Kept.refl [] w1).alloc (.cells l.cells 25)))
  have HB1 := hid (hb1.keep ((Kept.refl [] w1).alloc (.cells l.cells 25)) (by simp) (by simp))
  have HSZ : Hid ((w1.alloc (.cells l.cells 25)).heap.size = w1.heap.size + 1) := hid (by simp)
  have HLT : Hid (B < w1.heap.size ∧ D < w1.heap.size) := hid ⟨hb1.ltB, hb1.ltD⟩
  clear hk1 hb1 hB hD
  generalize w1.alloc (.cells l.cells 25) = w2 at HPl HK1 HB1 HSZ ⊢
  obtain ⟨P, hP⟩ : ∃ P, w1.heap.size = P := ⟨_, rfl⟩
  rw [hP] at HS1 HPl HSZ HLT ⊢
  clear hP
  have hcP := cells_of HPl.out
  have hmk := HMK.out N (by omega)
  rw [← HL.out.size] at hmk
  go_region_held3 (fun w' => ∀ i, w'.cell? ⟨P, i, none⟩ = l.cells[i]?) (first | exact hcP | exact hcP1 | exact cells_of (old_alloc (old_alloc HPl.out _) _) | exact cells_of (old_alloc HPl.out _))
    (first | (go_at_call 51; refine (c98 l _ N N (List.replicate N 0) _ (by simp) ((RowIn.of_i64s (new_alloc w2 _)).keep (Kept.refl [] _).drew (by simp)) (by omega)).mono ?_; rintro e y1 ⟨g, c1, rfl, hg, hk, hr, hcc⟩; have hcP1 := cells_of (hk.get (old_alloc HPl.out _) (by simp))))
  have hsg : P + 2 ≤ g := by
    have h1 : (w2.alloc (.cells (i64s (List.replicate N 0)) 2)).heap.size ≤ g := hg
    have := HSZ.out
    simp at h1; omega
  have e0 : st (st (List.replicate N 0) l.count l.workers) l.sense 0 = bs N n 0 := by rw [HL.out.count, HL.out.sense, HL.out.workers]; rfl
  rw [e0] at hr
  have hk9 : Kept [] w2 y1 := (((Kept.refl [] w2).alloc _).drew).trans hk
  have HK2 := hid (HK1.out.trans hk9)
  have HB2 := hid (HB1.out.keep hk9 (by simp) (by simp))
  have HP2 := hid (hk9.get HPl.out (by simp))
  have HR2 := hid hr
  have HG := hid hsg
  clear hsg hk9 hr hk hg hcc hcP hcP1 hmk e0 HK1 HB1 HPl HSZ
  have hmk1 := HM1.out
  have hmk2 := HM2.out
  go_upto_region 8 with fail
  clear hmk1 hmk2
  have HN4 : Hid (TBN B D P g y1.heap.size (y1.heap.size + 1) w) := hid (by
    have h1 := HBD.out
    have h2 := HS1.out
    have h3 := HLT.out
    have h4 := HG.out
    have h5 := HR2.out.lt
    exact ⟨⟨by omega, by omega, by omega, by omega, by omega⟩, ⟨by omega, by omega, by omega, by omega⟩, ⟨by omega, by omega, by omega⟩, h2, h1.1, h1.2, by omega, by omega⟩)
  have HT0 : Hid (TB0 l N B D P g y1.heap.size (y1.heap.size + 1) n w ((y1.alloc (.cells (madeCells zeroArr 153) 95)).alloc (.cells (madeCells (refCells 0 0 false false) 36) 98)) 0) := hid (by
    have k2 : Kept [] y1 ((y1.alloc (.cells (madeCells zeroArr 153) 95)).alloc (.cells (madeCells (refCells 0 0 false false) 36) 98)) := ((Kept.refl _ _).alloc _).alloc _
    exact ⟨HB2.out.keep k2 (by simp) (by simp), HK2.out.trans k2, k2.get HP2.out (by simp), HR2.out.keep k2 (by simp), new_alloc2 _ _ _, _, old_alloc (new_alloc _ _) _, by simp [madeCells], fun i hi => by omega⟩)
  rename (∀ i : Nat, y1.cell? _ = _) => hHeld
  clear hHeld HK2 HB2 HP2 HR2 HG HBD HS1 HLT
  generalize (y1.alloc (.cells (madeCells zeroArr 153) 95)).alloc (.cells (madeCells (refCells 0 0 false false) 36) 98) = w4 at HT0 ⊢
  generalize y1.heap.size = Lb at HT0 HN4 ⊢
  obtain ⟨S, hS⟩ : ∃ S, Lb + 1 = S := ⟨_, rfl⟩
  rw [hS] at HT0 HN4 ⊢
  clear hS
  go_wp2_with fail
  go_loopw [37] (fun s wr => ∃ k : Nat, k ≤ 9 ∧ s = .int .i64 k ∧ TB0 l N B D P g Lb S n w wr k) (fun s _ => 9 - (intOf s).toNat)
  case atStart => exact ⟨0, by omega, rfl, HT0.out⟩
  case round =>
    obtain ⟨k, hk, rfl, hinv⟩ := hrel
    clear HT0
    have HT := hid hinv
    clear hinv
    by_cases hlt : k < 9
    · have hcP := cells_of HT.out.plan
      go_wp2_with fail
      refine (c99 l _).mono ?_
      rintro e w5 ⟨rfl, hk5⟩
      have HK5 := hid hk5
      clear hk5 hcP
      have HTH : Hid (w5.there Lb (k * 17) (arrCells l 0 0 false).size) := hid (by
        obtain ⟨c, h1, h2, h3⟩ := HT.out.list
        exact there_mid (HK5.out.get h1 (by simp)) (by rw [h2]; show k * 17 + 17 ≤ 153; omega))
      have HOC : Hid ((arrCells l 0 0 false).all (·.oneCell') = true) := hid (all_oneCell_toArray (by simp [Value.oneCell']))
      go_upto_region 12 with (refine wpList_store_mid rfl 95 (.tmp 44) (.tmp 43) rfl Lb (k * 17) (arrCells l 0 0 false) rfl rfl HTH.out info149 HOC.out ?_; have HT2 := hid (HT.out.next HN4.out hlt HK5.out); clear HTH HOC HT HK5; generalize w5.setCells Lb (k * 17) (arrCells l 0 0 false).toList = w6 at HT2 ⊢)
      go_wp2_with fail
      go_roundw
      case rel => exact ⟨k + 1, by omega, by go_num, HT2.out⟩
      case measure => simp [intOf]; omega
    · have HT1 := hid (TB0.all (by have e : k = 9 := by omega
                                   have := HT.out; rwa [e] at this) HN4.out)
      obtain ⟨z, hz⟩ : ∃ z : Int, (k : Int) = z := ⟨_, rfl⟩
      have hz9 : 9 ≤ z := by omega
      rw [hz]
      clear hz hlt hk
      have hmin := HMN.out
      clear HT HN4
      go_wp2_with fail
      clear hmin
      go_loopw [9, 52] (fun s9 s wr => ∃ (k g c : Nat) (p t : Int) (A : Nat → Am) (T : Nat → Int), k ≤ L ∧ s9 = .slice (some ⟨g, 0, none⟩) N c ∧ s = .int .i64 k ∧ TB l N B D P Lb S n w wr k g p t A T) (fun _ s _ => L - (intOf s).toNat)
      case atStart => exact ⟨0, _, _, _, _, _, _, by omega, rfl, rfl, HT1.out⟩
      case round =>
        obtain ⟨k, g, c, p, t, A, T, hk, rfl, rfl, hinv⟩ := hrel
        clear HT1
        have HT := hid hinv
        clear hinv
        by_cases hlt : k < L
        · obtain ⟨hwf, b, off, rfl, hb, hc⟩ := HF.out k (by omega)
          have hc := HT.out.kept.cellx hb (by simp) hc
          obtain ⟨u, hu⟩ : ∃ u, u = f k := ⟨_, rfl⟩
          rw [← hu] at hc hwf
          have hub := bounds_u8 hwf
          have hu0 : 0 ≤ u := by omega
          have hu1 : u ≤ 255 := by omega
          clear hu hub hwf
          obtain ⟨q, hq⟩ : ∃ q : Nat, u % 9 = (q : Int) := ⟨(u % 9).toNat, by omega⟩
          have hq9 : (q : Int) < 9 := by omega
          have hq0 : (0 : Int) ≤ (q : Int) := by omega
          have HQ := hid hq
          clear hq
          go_upto_region 17 with fail
          rw [HQ.out]
          clear hc
          obtain ⟨cS, hS, hSz, hSc⟩ := HT.out.same
          have HS := hid hS
          have HSz := hid hSz
          have HSc := hid hSc
          clear hS hSz hSc
          have g0 : cS[q * 4]? = some (.int .i64 (T q)) := HSc.out q (by omega) 0 (by omega)
          have g1 : cS[q * 4 + 1]? = some (.int .i64 (A q).own) := HSc.out q (by omega) 1 (by omega)
          have g2 : cS[q * 4 + 2]? = some (.bool (A q).last) := HSc.out q (by omega) 2 (by omega)
          have g3 : cS[q * 4 + 3]? = some (.bool false) := HSc.out q (by omega) 3 (by omega)
          have hcS := cells_of HS.out
          have hcP := cells_of HT.out.plan
          obtain ⟨R, hR⟩ : ∃ R, arrS n (A q) p t = R := ⟨_, rfl⟩
          have HR := hid hR
          clear hR
          go_region_with (first | (go_at_call 53; refine (r100_any l g c N n p t (T q) (A q) R HR.out (HT.out.rel q (by omega)).1 (by have := (HT.out.rel q (by omega)).2; omega) HL.out (by omega) _ (HT.out.row.keep (Kept.refl [] _).drew (by simp))).mono ?_; rintro e y1 ⟨g', c', rfl, hk1, hr1, hg1⟩; have hS1 := hk1.get ((Kept.refl [] _).drew.get HS.out (by simp)) (by simp); have hcS1 := cells_of hS1; have hzS1 := free_of hS1))
          all_goals
            have HF1 : Hid (Kept [] wr y1 ∧ RowIn y1 g' (bs N R.2.1 R.2.2) ∧ (g' = g ∨ wr.heap.size ≤ g')) := hid ⟨(((Kept.refl [] wr).drew).trans hk1), hr1, hg1⟩
            have HP4 := hid (put4m (q := q) hS1 (by have := HSz.out; omega) (T q + 1) R.1.own R.1.last (R.1.nx == 5))
            have HK4 := hid (put4k y1 S q (T q + 1) R.1.own R.1.last (R.1.nx == 5))
            clear hS1 hcS1 hzS1 hk1 hr1 hg1 g0 g1 g2 g3 hcS hcP
            generalize ((((y1.setCell ⟨S, q * 4, none⟩ (.int .i64 (T q + 1))).setCell ⟨S, q * 4 + 1, none⟩ (.int .i64 R.1.own)).setCell ⟨S, q * 4 + 2, none⟩ (.bool R.1.last)).setCell ⟨S, q * 4 + 3, none⟩ (.bool (R.1.nx == 5))) = w6 at HP4 HK4 ⊢
            obtain ⟨dn, hdn⟩ : ∃ dn : Bool, (R.1.nx == 5) = dn := ⟨_, rfl⟩
            obtain ⟨la, hla⟩ : ∃ la : Bool, R.1.last = la := ⟨_, rfl⟩
            have HDN := hid hdn
            have HLA := hid hla
            rw [hdn, hla] at HP4 ⊢
            clear hdn hla
            go_upto_region 18 with fail
            obtain ⟨cS', hS', hSz', hSq, hSo⟩ := HP4.out
            have HS' := hid hS'
            have HX := hid (And.intro hSz' (And.intro hSq hSo))
            have g2 : cS'[q * 4 + 2]? = some (.bool la) := hSq 2 (by omega)
            have g3 : cS'[q * 4 + 3]? = some (.bool dn) := hSq 3 (by omega)
            have hcS := cells_of hS'
            clear hS' hSz' hSq hSo HP4 HS
            have HNE := hid (HT.out.ng HF1.out.2.2)
            obtain ⟨cL, hL, hLz, hLm⟩ := HT.out.list
            have HK6 : Hid (Kept [S] wr w6) := hid (HF1.out.1.of_nil.trans HK4.out)
            have HLb : Hid (BlkAt w6 Lb cL) := hid (HK6.out.get hL (by simpa using HT.out.ne.lb.2.2.2.2))
            have HLz := hid (And.intro hLz hLm)
            have HB6 : Hid (BankAt w6 B D (bs N p t)) := hid (HT.out.bank.keep HK6.out (by simpa using Ne.symm HT.out.ne.s.1) (by simpa using Ne.symm HT.out.ne.s.2.1))
            clear hL hLz hLm
            have G := hid (o101_any Lb (q * 17) B D N cL l n p t (A q) R HR.out HL.out (HT.out.rel q (by omega)).1.le.1 (HT.out.rel q (by omega)).1.le.2 w6.drew (show BlkAt w6.drew Lb cL from HLb.out) (HLz.out.2 q (by omega)) (HB6.out.keep (Kept.refl [] _).drew (by simp) (by simp)) ⟨HT.out.ne.lb.1, HT.out.ne.lb.2.1⟩)
            rw [HDN.out, HLA.out] at G
            have hdd : (dn != dn) = false := by cases dn <;> rfl
            have hll : (la != la) = false := by cases la <;> rfl
            go_region_held3 (fun w' => w'.cell? ⟨S, q * 4 + 2, none⟩ = some (.bool la) ∧ w'.cell? ⟨S, q * 4 + 3, none⟩ = some (.bool dn)) (first | exact ⟨(hcS _).trans g2, (hcS _).trans g3⟩ | exact ⟨(hcS1 _).trans g2, (hcS1 _).trans g3⟩)
              (first
                | (go_at_call 54; refine G.out.mono ?_; rintro e y2 ⟨rfl, hk2, ⟨cL', hL', hM', hBe⟩, hb2⟩; have hcS1 := cells_of (hk2.get ((Kept.refl [] _).drew.get HS'.out (by simp)) (by simp; exact ⟨Ne.symm HT.out.ne.lb.2.2.2.2, HT.out.ne.s.2.1⟩)))
                | (go_at_call 55; refine (o102 Lb (q * 17) cL' l R.1.nx R.1.own la _ hL' hM').mono ?_; rintro e y3 ⟨rfl, rfl⟩)
                | (go_at_call 46; refine (c48n B D N (bs N R.2.1 R.2.2) _ (bs_length _ _ _) hb2).mono ?_; rintro e y4 ⟨O, rfl, hO, hk4, hr4⟩; have hcS1 := cells_of (hk4.get (hk2.get ((Kept.refl [] _).drew.get HS'.out (by simp)) (by simp; exact ⟨Ne.symm HT.out.ne.lb.2.2.2.2, HT.out.ne.s.2.1⟩)) (by simp)))
                | (go_at_call 45; refine (c94 _ _ (bs N R.2.1 R.2.2) (bs N R.2.1 R.2.2) _ (SliceIs.of_rown (bs_length _ _ _) hr4) (SliceIs.of_rown (bs_length _ _ _) ((((HF1.out.2.1.keep HK4.out (by simpa using Ne.symm HNE.out.s.2.2.2)).keep (Kept.refl [] _).drew (by simp)).keep hk2 (by simp; exact ⟨Ne.symm HNE.out.lb.2.2.2.1, HNE.out.g.2.1⟩)).keep hk4 (by simp))) (by rw [bs_length]; omega)).mono ?_; rw [decide_eq_true rfl]; rintro e y5 ⟨rfl, hk5⟩; have hcS1 := cells_of (hk5.get (hk4.get (hk2.get ((Kept.refl [] _).drew.get HS'.out (by simp)) (by simp; exact ⟨Ne.symm HT.out.ne.lb.2.2.2.2, HT.out.ne.s.2.1⟩)) (by simp)) (by simp))))
            have hS5 := hk5.get (hk4.get (hk2.get ((Kept.refl [] _).drew.get HS'.out (by simp)) (by simp; exact ⟨Ne.symm HT.out.ne.lb.2.2.2.2, HT.out.ne.s.2.1⟩)) (by simp)) (by simp)
            have hK : Kept [S, Lb, D] wr y5 := (((HK6.out.mono (by simp)).trans (Kept.refl [] _).drew.of_nil).trans (hk2.mono (by simp))).trans (hk4.trans hk5).of_nil
            have HS5 := hid hS5
            have HB5 := hid ((hb2.keep hk4 (by simp) (by simp)).keep hk5 (by simp) (by simp))
            have HR5 := hid ((((((HF1.out.2.1.keep HK4.out (by simpa using Ne.symm HNE.out.s.2.2.2)).keep (Kept.refl [] _).drew (by simp)).keep hk2 (by simp; exact ⟨Ne.symm HNE.out.lb.2.2.2.1, HNE.out.g.2.1⟩)).keep hk4 (by simp))).keep hk5 (by simp))
            have HL5 : Hid (BlkAt y5 Lb cL') := hid (hk5.get (hk4.get hL' (by simp)) (by simp))
            have HM5 := hid hM'
            have HE5 := hid hBe
            have HK5 : Hid (Kept [] w y5) := hid (HT.out.kept.drop hK (fun x hx => .inr (by simp at hx; have := HT.out.ne.b; omega)))
            have HP5 := hid (hK.get HT.out.plan (by simp; exact ⟨Ne.symm HT.out.ne.s.2.2.1, Ne.symm HT.out.ne.lb.2.2.1, HT.out.ne.p.2⟩))
            have HRL := hid HT.out.rel
            clear hS5 hK hk5 hk4 hk2 hb2 hL' hM' hBe hO hr4 hcS1 hcS hdd hll HT HF1 HK4 HK6 HLb HB6 HS'
            have hcS := cells_of HS5.out
            cases dn
            · go_wp2_with fail
              go_roundw
              case rel =>
                refine ⟨k + 1, g', c', _, _, _, _, by omega, rfl, by go_num, TB.mk' q R.1 (T q + 1) HSc.out HLz.out.2 HRL.out ((HRL.out q (by omega)).1.step HR.out HDN.out) (by have := (HRL.out q (by omega)).2; omega) HB5.out HK5.out HP5.out HR5.out HNE.out HS5.out (by have := HX.out.1; have := HSz.out; omega) ?_ HX.out.2.2 HL5.out ?_ ?_ HE5.out⟩
                · have := HX.out.2.1
                  rw [HLA.out]; exact this
                · have := HE5.out.1; have := HLz.out.1; omega
                · rw [HLA.out]; exact HM5.out
              case measure => simp [intOf]; omega
            · have hcP := cells_of HP5.out
              go_wp2_with fail
              refine (c99 l _).mono ?_
              rintro e y6 ⟨rfl, hk6⟩
              have hLB := hk6.get HL5.out (by simp)
              have hcz : cL'.size = 153 := by have := HE5.out.1; have := HLz.out.1; omega
              have hsz : cS'.size = 36 := by have := HX.out.1; have := HSz.out; omega
              have HTH : Hid (y6.there Lb (q * 17) (arrCells l 0 0 false).size) := hid (there_mid hLB (by rw [hcz]; show q * 17 + 17 ≤ 153; omega))
              have HOC : Hid ((arrCells l 0 0 false).all (·.oneCell') = true) := hid (all_oneCell_toArray (by simp [Value.oneCell']))
              have HST := hid (arr_store (o := q * 17) hLB (by rw [hcz]; omega) l 0 0 false)
              have HKT := hid (setCells_kept Lb (arrCells l 0 0 false).toList (q * 17) y6)
              have HOR : Hid ((refCells 0 0 false false).all (·.oneCell') = true) := hid (all_oneCell_toArray (by simp [Value.oneCell']))
              have HK6 := hid hk6
              have HCZ := hid (And.intro hcz hsz)
              have hS6 : ∀ W : World, Kept [Lb] y6 W → W.heap[S]? = some (.cells cS' 98 (0, 0)) := fun W kW => kW.get (hk6.get HS5.out (by simp)) (by simpa using Ne.symm HNE.out.lb.2.2.2.2)
              have HS6 := hid hS6
              clear hLB hcz hsz hk6 hcS hcP hS6
              have q0 : cS'[q * 4]? = some (.int .i64 (T q + 1)) := HX.out.2.1 0 (by omega)
              have q1 : cS'[q * 4 + 1]? = some (.int .i64 R.1.own) := HX.out.2.1 1 (by omega)
              go_upto_region 22 with (refine wpList_store_mid rfl 95 (.tmp 114) (.tmp 112) rfl Lb (q * 17) (arrCells l 0 0 false) rfl rfl HTH.out info149 HOC.out ?_; have HS7 := hid (HS6.out _ HKT.out); clear HS6 HTH HOC HOR; generalize y6.setCells Lb (q * 17) (arrCells l 0 0 false).toList = y7 at HST HKT HS7 ⊢; have hcS7 := cells_of HS7.out; have hzS7 := free_of HS7.out)
              have HSS := hid (put4m (q := q) HS7.out (by rw [HCZ.out.2]; omega) 0 0 false false)
              have HKS := hid (put4k y7 S q 0 0 false false)
              clear hcS7 hzS7
              generalize ((((y7.setCell ⟨S, q * 4, none⟩ (.int .i64 0)).setCell ⟨S, q * 4 + 1, none⟩ (.int .i64 0)).setCell ⟨S, q * 4 + 2, none⟩ (.bool false)).setCell ⟨S, q * 4 + 3, none⟩ (.bool false)) = y8 at HSS HKS ⊢
              have HB8 := hid (((HB5.out.keep HK6.out (by simp) (by simp)).keep HKT.out (by simpa using Ne.symm HNE.out.lb.1) (by simpa using Ne.symm HNE.out.lb.2.1)).keep HKS.out (by simpa using Ne.symm HNE.out.s.1) (by simpa using Ne.symm HNE.out.s.2.1))
              have HR8 := hid (((HR5.out.keep HK6.out (by simp)).keep HKT.out (by simpa using Ne.symm HNE.out.lb.2.2.2.1)).keep HKS.out (by simpa using Ne.symm HNE.out.s.2.2.2))
              have HK8 : Hid (Kept [] w y8) := hid ((HK5.out.trans HK6.out).drop ((HKT.out.mono (M := [Lb, S]) (by simp)).trans (HKS.out.mono (by simp))) (fun x hx => .inr (by simp at hx; have := HNE.out.b; omega)))
              have HP8 := hid (HKS.out.get (HKT.out.get (HK6.out.get HP5.out (by simp)) (by simpa using Ne.symm HNE.out.lb.2.2.1)) (by simpa using Ne.symm HNE.out.s.2.2.1))
              obtain ⟨cL2, hL2, hL3, hL4, hL5⟩ := HST.out
              have HL8 : Hid (BlkAt y8 Lb cL2) := hid (HKS.out.get hL2 (by simpa using HNE.out.lb.2.2.2.2))
              have HL9 := hid (And.intro hL3 (And.intro hL4 hL5))
              obtain ⟨cS2, hS2, hS3, hS4, hS5⟩ := HSS.out
              have HS8 := hid hS2
              have HS9 := hid (And.intro hS3 (And.intro hS4 hS5))
              clear hL2 hL3 hL4 hL5 hS2 hS3 hS4 hS5 HST HSS
              clear g2 g3 q0 q1
              go_wp2_with fail
              go_roundw
              case rel =>
                refine ⟨k + 1, g', c', _, _, _, _, by omega, rfl, by go_num, TB.mk' (cS' := cS2) (cL' := cL2) q ⟨0, 0, false⟩ 0 HSc.out HLz.out.2 HRL.out (.inl ⟨rfl, rfl, rfl, rfl⟩) (by omega) HB8.out HK8.out HP8.out HR8.out HNE.out HS8.out (by have := HS9.out.1; have := HCZ.out.2; omega) HS9.out.2.1 (fun j hj => by rw [HS9.out.2.2 j hj, HX.out.2.2 j hj]) HL8.out (by have := HL9.out.1; have := HCZ.out.1; omega) HL9.out.2.1 ⟨by rw [HL9.out.1, HE5.out.1], fun j hj => by rw [HL9.out.2.2.2 j hj, HE5.out.2 j hj]⟩⟩
              case measure => simp [intOf]; omega
        · have hkL : L ≤ k := by omega
          go_wp2_with fail
          refine (awake14 _).mono ?_
          rintro e w5 ⟨rfl, hk5⟩
          go_wp2_with fail
          go_ret
          exact ⟨rfl, HT.out.kept.trans hk5⟩
end Go.Proofs.Ytklkopoelhndoaa
