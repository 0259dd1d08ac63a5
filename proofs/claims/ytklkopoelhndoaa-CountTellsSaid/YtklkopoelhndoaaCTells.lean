/- CountTells returns true, whatever comes in: the walk. -/
import Derived.Test.YtklkopoelhndoaaCPend
import Derived.Test.YtklkopoelhndoaaCount4
import Derived.Test.YtklkopoelhndoaaCRef13
import Derived.Test.YtklkopoelhndoaaCmp94
import Derived.Test.YtklkopoelhndoaaOps13
namespace Go.Proofs.Ytklkopoelhndoaa
open Go.RowKit Go.ChangeShapes Go.WideShapes
set_option linter.unusedVariables false
structure TInv13 (B D P : Nat) (w wr : World) (g : Nat) (p a : Int) : Prop where
  inv : Inv13 B D P w wr p a
  row : RowIn wr g (bk p a)
  ne : g ≠ D
set_option maxHeartbeats 4000000 in
set_option maxRecDepth 100000 in
theorem ctells_main (b off len cap : Nat) (f : Nat → Op13) (w : World) (hlc : len ≤ cap) (hcm : cap ≤ maxLen) (hb : b < w.heap.size)
    (hf : ∀ k, k < len → (0 ≤ (f k).kind ∧ (f k).kind ≤ 255) ∧ w.cell? ⟨b, off + k * 3, none⟩ = some (.int .u8 (f k).kind) ∧ w.cell? ⟨b, off + k * 3 + 1, none⟩ = some (.int .i64 (f k).n) ∧ w.cell? ⟨b, off + k * 3 + 2, none⟩ = some (.bool (f k).again)) :
    Calls Try.prog 12 #[.slice (some ⟨b, off, none⟩) len cap] w fun e w' => e = .returned (.bool true) ∧ Kept [] w w' := by
  unfold maxLen at hcm
  have HF := hid hf
  obtain ⟨i0, hi, hz0, hz1, hz2⟩ := info_parts info2
  have hmk : ∀ W : World, (Instr.makeSlice 76 (.int .i64 15) (.int .i64 15)).run Try.prog W = .ok (.slice (some ⟨W.heap.size, 0, none⟩) 15 15) (W.alloc (.cells (i64s (bk 0 0)) 2)) := by
    intro W
    have := run_make (P := Try.prog) W 76 2 i0 (.int .i64 0) Try.underlying76 hi hz0 .i64 .i64 15 15 (by omega) (by omega) (by rw [hz2]; omega) (by omega)
    rwa [hz1, show (15 : Int).toNat * 1 = 15 from rfl, madeCells_zero1, ← bk_zero] at this
  clear hi hz0 hz1 hz2
  obtain ⟨L, hL, hLl, hL1⟩ : ∃ L : Nat, L = min len 150 ∧ L ≤ len ∧ L ≤ 150 := ⟨_, rfl, by omega, by omega⟩
  have hmin : ∀ (ats : Array TypeId) (ty : TypeId), Builtin.min_ ats ty #[.int .i64 (len : Int), .int .i64 150] = pure (.int .i64 (L : Int)) := min_at len 150 L hL
  clear hf hL
  go_enter Try.func12, Try.ntmps12
  go_wp2_with fail
  refine (c72 _).mono ?_
  rintro e w1 ⟨B, D, rfl, hB, hD, hk1, hb1⟩
  rw [show l211.size.toNat = 15 from rfl, ← bk_zero] at hb1
  have HBD := hid (And.intro hB hD)
  have HPD : Hid (w1.heap.size ≠ D) := hid (fun e => by have := hb1.ltD; omega)
  have HG0 : Hid (w1.heap.size + 1 ≠ D) := hid (fun e => by have := hb1.ltD; omega)
  have k2 : Kept [] w1 ((w1.alloc (.cells l211.cells 25)).alloc (.cells (i64s (bk 0 0)) 2)) := ((Kept.refl _ _).alloc _).alloc _
  have HI0 : Hid (TInv13 B D w1.heap.size w ((w1.alloc (.cells l211.cells 25)).alloc (.cells (i64s (bk 0 0)) 2)) (w1.heap.size + 1) 0 0) :=
    hid ⟨⟨hb1.keep k2 (by simp) (by simp), hk1.trans k2, old_alloc (new_alloc _ _) _⟩, RowIn.of_i64s (new_alloc2 _ _ _), HG0.out⟩
  clear hb1 hk1 hB hD k2
  go_wp2_with fail
  clear hmk hmin
  go_loopw [6, 29] (fun s6 s wr => ∃ (k g c : Nat) (p a : Int), s6 = .slice (some ⟨g, 0, none⟩) 15 c ∧ s = .int .i64 k ∧ k ≤ L ∧ TInv13 B D w1.heap.size w wr g p a) (fun _ s _ => L - (intOf s).toNat)
  case atStart => exact ⟨0, _, _, 0, 0, rfl, rfl, by omega, HI0.out⟩
  case round =>
    obtain ⟨k, g, c, p, a, rfl, rfl, hk, hinv⟩ := hrel
    have HT := hid hinv
    clear hinv HI0
    by_cases hlt : k < L
    · obtain ⟨ho, h0, h1, h2⟩ := HF.out k (by omega)
      have h0 := HT.out.inv.kept.cellx hb (by simp) h0
      have h1 := HT.out.inv.kept.cellx hb (by simp) h1
      have h2 := HT.out.inv.kept.cellx hb (by simp) h2
      obtain ⟨q, hq⟩ : ∃ q, q = (f k).kind := ⟨_, rfl⟩
      obtain ⟨n, hn⟩ : ∃ r, r = (f k).n := ⟨_, rfl⟩
      obtain ⟨ag, hag⟩ : ∃ r, r = (f k).again := ⟨_, rfl⟩
      rw [← hq] at h0 ho
      rw [← hn] at h1
      rw [← hag] at h2
      obtain ⟨q0, q1⟩ := ho
      clear hq hn hag
      have ka : Kept [] wr (wr.alloc (.cells #[.int .u8 q, .int .i64 n, .bool ag] 56)) := (Kept.refl _ _).alloc _
      have HO := hid (new_alloc wr (.cells #[.int .u8 q, .int .i64 n, .bool ag] 56))
      have HI := hid (HT.out.inv.keep ka)
      have HR := hid (HT.out.row.keep ka (by simp))
      have HGD := hid HT.out.ne
      have HOD : Hid (wr.heap.size ≠ D) := hid (fun e => by have := HT.out.inv.bank.ltD; omega)
      have hcP := cells_of HI.out.plan
      have HDL : Hid (D < wr.heap.size) := hid HT.out.inv.bank.ltD
      clear ka HT
      have hcase : q % 5 = 0 ∨ q % 5 = 1 ∨ q % 5 = 2 ∨ q % 5 = 3 ∨ q % 5 = 4 := by omega
      rcases hcase with hq | hq | hq | hq | hq
      · as_aux_lemma =>
          go_wp2_with fail
          refine (c96_0 g c p a n _ HR.out).mono ?_
          rintro e w2 ⟨g', c', rfl, hk', hrow, hgg⟩
          have HI := hid (HI.out.keep hk')
          have HR := hid hrow
          have HO := hid (hk'.get HO.out (by simp))
          have HGD : Hid (g' ≠ D) := hid (fun e => by have := HI.out.bank.ltD; have := HGD.out; have h3 := HOD.out; have h4 := HDL.out; simp at hgg; omega)
          clear hk' hrow hgg
          clear hcP
          have hcP := cells_of HI.out.plan
          have hcO := cells_of HO.out
          go_wp2_with fail
          refine (c79_0 n l211 B D (bk p a) ag _ HI.out.bank).mono ?_
          rw [mbank0]
          rintro e w3 ⟨rfl, hk', hb'⟩
          have HR := hid (HR.out.keep hk' (by simp; exact HGD.out))
          have HI := hid (HI.out.turn hk' HBD.out.2 HPD.out hb')
          clear hk' hb' hcP hcO
          go_wp2_with fail
          refine (c48n B D 15 (bk (wrap64 (p + n)) a) _ rfl HI.out.bank).mono ?_
          rintro e w4 ⟨O, rfl, hO, hk', hr⟩
          have HR := hid (HR.out.keep hk' (by simp))
          have HI := hid (HI.out.keep hk')
          have HRO := hid hr
          clear hO hk' hr
          go_wp2_with fail
          refine (c94 _ _ (bk (wrap64 (p + n)) a) (bk (wrap64 (p + n)) a) _ (SliceIs.of_rown rfl HRO.out) (SliceIs.of_rown rfl HR.out) (by simp [bk])).mono ?_
          rw [decide_eq_true rfl]
          rintro e w5 ⟨rfl, hk'⟩
          have HR := hid (HR.out.keep hk' (by simp))
          have HI := hid (HI.out.keep hk')
          clear hk'
          go_wp2_with fail
          go_roundw
          case rel => exact ⟨k + 1, g', c', _, _, rfl, by go_num, by omega, ⟨HI.out, HR.out, HGD.out⟩⟩
          case measure => simp [intOf]; omega
      · as_aux_lemma =>
          go_wp2_with fail
          refine (c96_1 g c p a n (wrap64 (p + -1)) rfl _ HR.out).mono ?_
          rintro e w2 ⟨g', c', rfl, hk', hrow, hgg⟩
          have HI := hid (HI.out.keep hk')
          have HR := hid hrow
          have HO := hid (hk'.get HO.out (by simp))
          have HGD : Hid (g' ≠ D) := hid (fun e => by have := HI.out.bank.ltD; have := HGD.out; have h3 := HOD.out; have h4 := HDL.out; simp at hgg; omega)
          clear hk' hrow hgg
          clear hcP
          have hcP := cells_of HI.out.plan
          have hcO := cells_of HO.out
          go_wp2_with fail
          refine (c79_1 n l211 B D (bk p a) ag _ HI.out.bank).mono ?_
          rw [mres0, mbank0]
          rintro e w3 ⟨rfl, hk', hb'⟩
          have HR := hid (HR.out.keep hk' (by simp; exact HGD.out))
          have HI := hid (HI.out.turn hk' HBD.out.2 HPD.out hb')
          clear hk' hb' hcP hcO
          go_wp2_with fail
          refine (c48n B D 15 (bk (wrap64 (p + -1)) a) _ rfl HI.out.bank).mono ?_
          rintro e w4 ⟨O, rfl, hO, hk', hr⟩
          have HR := hid (HR.out.keep hk' (by simp))
          have HI := hid (HI.out.keep hk')
          have HRO := hid hr
          clear hO hk' hr
          go_wp2_with fail
          refine (c94 _ _ (bk (wrap64 (p + -1)) a) (bk (wrap64 (p + -1)) a) _ (SliceIs.of_rown rfl HRO.out) (SliceIs.of_rown rfl HR.out) (by simp [bk])).mono ?_
          rw [decide_eq_true rfl]
          rintro e w5 ⟨rfl, hk'⟩
          have HR := hid (HR.out.keep hk' (by simp))
          have HI := hid (HI.out.keep hk')
          clear hk'
          go_wp2_with fail
          go_roundw
          case rel => exact ⟨k + 1, g', c', _, _, rfl, by go_num, by omega, ⟨HI.out, HR.out, HGD.out⟩⟩
          case measure => simp [intOf]; omega
      · as_aux_lemma =>
          go_wp2_with fail
          refine (c96_2 g c p a n _ HR.out).mono ?_
          rintro e w2 ⟨g', c', rfl, hk', hrow, hgg⟩
          have HI := hid (HI.out.keep hk')
          have HR := hid hrow
          have HO := hid (hk'.get HO.out (by simp))
          have HGD : Hid (g' ≠ D) := hid (fun e => by have := HI.out.bank.ltD; have := HGD.out; have h3 := HOD.out; have h4 := HDL.out; simp at hgg; omega)
          clear hk' hrow hgg
          clear hcP
          have hcP := cells_of HI.out.plan
          have hcO := cells_of HO.out
          go_wp2_with fail
          refine (c79_2 n l211 B D (bk p a) ag _ HI.out.bank).mono ?_
          rw [mres2, mbank2]
          rintro e w3 ⟨rfl, hk', hb'⟩
          have HR := hid (HR.out.keep hk' (by simp; exact HGD.out))
          have HI := hid (HI.out.turn hk' HBD.out.2 HPD.out hb')
          clear hk' hb' hcP hcO
          go_wp2_with fail
          refine (c48n B D 15 (bk p a) _ rfl HI.out.bank).mono ?_
          rintro e w4 ⟨O, rfl, hO, hk', hr⟩
          have HR := hid (HR.out.keep hk' (by simp))
          have HI := hid (HI.out.keep hk')
          have HRO := hid hr
          clear hO hk' hr
          go_wp2_with fail
          refine (c94 _ _ (bk p a) (bk p a) _ (SliceIs.of_rown rfl HRO.out) (SliceIs.of_rown rfl HR.out) (by simp [bk])).mono ?_
          rw [decide_eq_true rfl]
          rintro e w5 ⟨rfl, hk'⟩
          have HR := hid (HR.out.keep hk' (by simp))
          have HI := hid (HI.out.keep hk')
          clear hk'
          go_wp2_with fail
          go_roundw
          case rel => exact ⟨k + 1, g', c', _, _, rfl, by go_num, by omega, ⟨HI.out, HR.out, HGD.out⟩⟩
          case measure => simp [intOf]; omega
      · as_aux_lemma =>
          go_wp2_with fail
          refine (c96_3 g c p a n _ HR.out).mono ?_
          rintro e w2 ⟨g', c', rfl, hk', hrow, hgg⟩
          have HI := hid (HI.out.keep hk')
          have HR := hid hrow
          have HO := hid (hk'.get HO.out (by simp))
          have HGD : Hid (g' ≠ D) := hid (fun e => by have := HI.out.bank.ltD; have := HGD.out; have h3 := HOD.out; have h4 := HDL.out; simp at hgg; omega)
          clear hk' hrow hgg
          clear hcP
          have hcP := cells_of HI.out.plan
          have hcO := cells_of HO.out
          go_wp2_with fail
          refine (c79_3 n l211 B D (bk p a) ag _ HI.out.bank).mono ?_
          rw [mbank3]
          rintro e w3 ⟨rfl, hk', hb'⟩
          have HR := hid (HR.out.keep hk' (by simp; exact HGD.out))
          have HI := hid (HI.out.turn hk' HBD.out.2 HPD.out hb')
          clear hk' hb' hcP hcO
          go_wp2_with fail
          refine (c48n B D 15 (bk p 1) _ rfl HI.out.bank).mono ?_
          rintro e w4 ⟨O, rfl, hO, hk', hr⟩
          have HR := hid (HR.out.keep hk' (by simp))
          have HI := hid (HI.out.keep hk')
          have HRO := hid hr
          clear hO hk' hr
          go_wp2_with fail
          refine (c94 _ _ (bk p 1) (bk p 1) _ (SliceIs.of_rown rfl HRO.out) (SliceIs.of_rown rfl HR.out) (by simp [bk])).mono ?_
          rw [decide_eq_true rfl]
          rintro e w5 ⟨rfl, hk'⟩
          have HR := hid (HR.out.keep hk' (by simp))
          have HI := hid (HI.out.keep hk')
          clear hk'
          go_wp2_with fail
          go_roundw
          case rel => exact ⟨k + 1, g', c', _, _, rfl, by go_num, by omega, ⟨HI.out, HR.out, HGD.out⟩⟩
          case measure => simp [intOf]; omega
      · as_aux_lemma =>
          go_wp2_with fail
          refine (c96_4 g c p a n _ HR.out).mono ?_
          rintro e w2 ⟨g', c', rfl, hk', hrow, hgg⟩
          have HI := hid (HI.out.keep hk')
          have HR := hid hrow
          have HO := hid (hk'.get HO.out (by simp))
          have HGD : Hid (g' ≠ D) := hid (fun e => by have := HI.out.bank.ltD; have := HGD.out; have h3 := HOD.out; have h4 := HDL.out; simp at hgg; omega)
          clear hk' hrow hgg
          clear hcP
          have hcP := cells_of HI.out.plan
          have hcO := cells_of HO.out
          go_wp2_with fail
          refine (c79_4 n l211 B D (bk p a) ag _ HI.out.bank).mono ?_
          rw [mres4, mbank4]
          rintro e w3 ⟨rfl, hk', hb'⟩
          have HR := hid (HR.out.keep hk' (by simp; exact HGD.out))
          have HI := hid (HI.out.turn hk' HBD.out.2 HPD.out hb')
          clear hk' hb' hcP hcO
          go_wp2_with fail
          refine (c48n B D 15 (bk p a) _ rfl HI.out.bank).mono ?_
          rintro e w4 ⟨O, rfl, hO, hk', hr⟩
          have HR := hid (HR.out.keep hk' (by simp))
          have HI := hid (HI.out.keep hk')
          have HRO := hid hr
          clear hO hk' hr
          go_wp2_with fail
          refine (c94 _ _ (bk p a) (bk p a) _ (SliceIs.of_rown rfl HRO.out) (SliceIs.of_rown rfl HR.out) (by simp [bk])).mono ?_
          rw [decide_eq_true rfl]
          rintro e w5 ⟨rfl, hk'⟩
          have HR := hid (HR.out.keep hk' (by simp))
          have HI := hid (HI.out.keep hk')
          clear hk'
          go_wp2_with fail
          go_roundw
          case rel => exact ⟨k + 1, g', c', _, _, rfl, by go_num, by omega, ⟨HI.out, HR.out, HGD.out⟩⟩
          case measure => simp [intOf]; omega
    · obtain rfl : k = L := by omega
      go_wp2_with fail
      refine (awake13 _).mono ?_
      rintro e w5 ⟨rfl, hk5⟩
      go_wp2_with fail
      go_ret
      exact ⟨rfl, HT.out.inv.kept.trans hk5⟩
end Go.Proofs.Ytklkopoelhndoaa
