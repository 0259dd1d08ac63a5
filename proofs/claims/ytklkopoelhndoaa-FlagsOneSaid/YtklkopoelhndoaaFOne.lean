/- FlagsOne returns true, whatever comes in. -/
import Derived.Test.YtklkopoelhndoaaFAll0
import Derived.Test.YtklkopoelhndoaaOps12
import Derived.Test.YtklkopoelhndoaaMaps
import Derived.Test.YtklkopoelhndoaaAwake12
import Derived.Deep.DeepCutAuto
namespace Go.Proofs.Ytklkopoelhndoaa
open Go.RowKit Go.ChangeShapes Go.WideShapes Go.Maps
set_option linter.unusedVariables false
def UpM (f : Int → Int) : Nat → Bool := fun v => decide (f (v : Int) ≠ 0)
structure OneInv (l : Lay) (n N B D P M : Nat) (w wr : World) (m : List Int) (e : Nat) (f : Int → Int) (h : Int → Bool) (Dd : DataW Unit) : Prop where
  len : m.length = N
  up : Up l n m (UpM f)
  bank : BankAt wr B D m
  kept : Kept [] w wr
  plan : wr.heap[P]? = some (.cells l.cells 25 (0, 0))
  map : MapIs wr M e f h Dd
  out : ∀ y, f y ≠ 0 → 0 ≤ y ∧ y < (n : Int)
  pos : ∀ y, 0 ≤ f y ∧ f y ≤ 20
  hh : ∀ y, f y ≠ 0 → h y = true
theorem OneInv.keep {l : Lay} {n N B D P M : Nat} {w wr w' : World} {m : List Int} {e : Nat} {f : Int → Int} {h : Int → Bool} {Dd : DataW Unit} (i : OneInv l n N B D P M w wr m e f h Dd) (k : Kept [] wr w') : OneInv l n N B D P M w w' m e f h Dd :=
  ⟨i.len, i.up, i.bank.keep k (by simp) (by simp), i.kept.trans k, k.get i.plan (by simp), i.map.keep k (by simp), i.out, i.pos, i.hh⟩
theorem upList_cnt (p : Nat → Bool) (n : Nat) : (upList p n).length = cntL p n := by
  induction n with
  | zero => rfl
  | succ k ih => rw [upList, cntL]; split <;> simp [ih]
theorem OneInv.turn {l : Lay} {n N B D P M : Nat} {w wr w' : World} {m m' : List Int} {e e' : Nat} {f f' : Int → Int} {h h' : Int → Bool} {Dd Dd' : DataW Unit} {L : List Nat} (i : OneInv l n N B D P M w wr m e f h Dd)
    (hl : m'.length = N) (hu : Up l n m' (UpM f')) (hb : BankAt w' B D m') (hk : Kept L wr w') (hL : ∀ x, x ∈ L → x ∈ ([] : List Nat) ∨ w.heap.size ≤ x) (hP : P ∉ L) (hm : MapIs w' M e' f' h' Dd')
    (ho : ∀ y, f' y ≠ 0 → 0 ≤ y ∧ y < (n : Int)) (hp : ∀ y, 0 ≤ f' y ∧ f' y ≤ 20) (hh : ∀ y, f' y ≠ 0 → h' y = true) : OneInv l n N B D P M w w' m' e' f' h' Dd' :=
  ⟨hl, hu, hb, i.kept.drop hk hL, hk.get i.plan hP, hm, ho, hp, hh⟩
theorem UpM.off {l : Lay} {n : Nat} {m : List Int} {f : Int → Int} {v : Nat} (h : Up l n m (fun x => if x = v then false else UpM f x)) : Up l n m (UpM (fun y => if y = (v : Int) then 0 else f y)) := by
  have e : UpM (fun y => if y = (v : Int) then 0 else f y) = (fun x => if x = v then false else UpM f x) := by
    funext x
    unfold UpM
    by_cases c : x = v
    · subst c; simp
    · have c' : ¬ (x : Int) = (v : Int) := by omega
      simp [c, c']
  rw [e]; exact h
theorem UpM.on {l : Lay} {n : Nat} {m : List Int} {f : Int → Int} {v : Nat} {u : Int} (hu : u ≠ 0) (h : Up l n m (fun x => if x = v then true else UpM f x)) : Up l n m (UpM (fun y => if y = (v : Int) then u else f y)) := by
  have e : UpM (fun y => if y = (v : Int) then u else f y) = (fun x => if x = v then true else UpM f x) := by
    funext x
    unfold UpM
    by_cases c : x = v
    · subst c; simp [hu]
    · have c' : ¬ (x : Int) = (v : Int) := by omega
      simp [c, c']
  rw [e]; exact h
set_option maxHeartbeats 4000000 in
set_option maxRecDepth 100000 in
theorem fone_main (x y : Int) (hx0 : 0 ≤ x) (hx1 : x ≤ 255) (hy0 : 0 ≤ y) (hy1 : y ≤ 255) (b off len cap : Nat) (f : Nat → Op12) (w : World) (hlc : len ≤ cap) (hcm : cap ≤ maxLen) (hb : b < w.heap.size)
    (hf : ∀ k, k < len → (0 ≤ (f k).v ∧ (f k).v ≤ 255) ∧ w.cell? ⟨b, off + k * 3, none⟩ = some (.int .u8 (f k).v) ∧ w.cell? ⟨b, off + k * 3 + 1, none⟩ = some (.bool (f k).free) ∧ w.cell? ⟨b, off + k * 3 + 2, none⟩ = some (.bool (f k).again))
    (a2 : Option Addr) (len2 cap2 : Nat) (g2 : Nat → Int) (h2 : Ints .u8 w a2 len2 cap2 g2) :
    Calls Try.prog 3 #[.int .u8 x, .int .u8 y, .slice (some ⟨b, off, none⟩) len cap, .slice a2 len2 cap2] w fun e w' => e = .returned (.bool true) ∧ Kept [] w w' := by
  unfold maxLen at hcm
  obtain ⟨hlc2, hcm2, _, hg2⟩ := h2
  unfold maxLen at hcm2
  have HF := hid hf
  have HG := hid hg2
  obtain ⟨n, hn⟩ : ∃ n : Nat, 1 + x % 30 = (n : Int) := ⟨(1 + x % 30).toNat, by omega⟩
  have hn0 : 1 ≤ (n : Int) := by omega
  have hn1 : (n : Int) ≤ 30 := by omega
  have hnz : ¬ (n : Int) = 0 := by omega
  have hnn : ¬ n = 0 := by omega
  obtain ⟨q, hq⟩ : ∃ q : Int, 2 + y % 8 = q := ⟨_, rfl⟩
  have hq0 : 2 ≤ q := by omega
  have hq1 : q ≤ 9 := by omega
  have hqz : ¬ q = 0 := by omega
  have HL := hid (lay12 (n := n) (by omega) (by omega))
  have G := hid (c59 (n : Int) w (by omega) (by omega))
  obtain ⟨l, hl⟩ : ∃ l, planOf (n : Int) 3 2 = l := ⟨_, rfl⟩
  rw [hl] at HL G
  clear hl
  obtain ⟨L, hL, hLl, hL1⟩ : ∃ L : Nat, L = min len 200 ∧ L ≤ len ∧ L ≤ 200 := ⟨_, rfl, by omega, by omega⟩
  have hmin : ∀ (ats : Array TypeId) (ty : TypeId), Builtin.min_ ats ty #[.int .i64 (len : Int), .int .i64 200] = pure (.int .i64 (L : Int)) := min_at len 200 L hL
  have hmm := @run_makeMap Try.prog
  clear hf hL hg2
  go_enter Try.func3, Try.ntmps3
  go_wp2_with fail
  refine G.out.mono ?_
  clear G
  rintro e w1 ⟨B, D, rfl, hB, hD, hk1, hb1⟩
  have HDW := hid (And.intro hB hD)
  have HB1 := hid hb1
  have HK1 := hid hk1
  clear hb1 hk1 hD hB
  go_wp2_with fail
  obtain ⟨N, hN⟩ : ∃ N, l.size.toNat = N := ⟨_, rfl⟩
  have HNE : Hid ((N : Int) = l.size) := hid (by have := HL.out.s0; omega)
  have HFN : Hid (l.flag + n ≤ (N : Int)) := hid (by have := HL.out.fs; have := HNE.out; omega)
  rw [hN] at HB1
  have k2 : Kept [] w1 ((w1.alloc (.cells l.cells 25)).alloc (.map #[] 0)) := ((Kept.refl _ _).alloc _).alloc _
  have HPD : Hid (w1.heap.size ≠ D ∧ w1.heap.size + 1 ≠ D ∧ w1.heap.size + 1 ≠ B ∧ w1.heap.size ≠ w1.heap.size + 1 ∧ w.heap.size ≤ D ∧ w.heap.size ≤ w1.heap.size + 1) := hid ⟨fun e => by have := HB1.out.ltD; omega, fun e => by have := HB1.out.ltD; omega, fun e => by have := HB1.out.ltB; omega, by omega, HDW.out.2, by have := HK1.out.size; omega⟩
  have hmap : MapIs ((w1.alloc (.cells l.cells 25)).alloc (.map #[] 0)) (w1.heap.size + 1) 0 (fun _ => 0) (fun _ => false) (.map []) := by
    have := MapIs.made (w1.alloc (.cells l.cells 25))
    have e : (w1.alloc (.cells l.cells 25)).heap.size = w1.heap.size + 1 := (by simp)
    rwa [e] at this
  have HI0 : Hid (OneInv l n N B D w1.heap.size (w1.heap.size + 1) w ((w1.alloc (.cells l.cells 25)).alloc (.map #[] 0)) (List.replicate N 0) 0 (fun _ => 0) (fun _ => false) (.map [])) :=
    hid ⟨by simp, fun j _ => by simp [ld_zeros, UpM], HB1.out.keep k2 (by simp) (by simp), HK1.out.trans k2, old_alloc (new_alloc _ _) _, hmap, fun y h => absurd rfl h, fun y => ⟨by decide, by decide⟩, fun y h => absurd rfl h⟩
  clear k2 hmap HB1 HK1 hN hmin hmm
  go_loopw [50] (fun s wr => ∃ (k e : Nat) (m : List Int) (φ : Int → Int) (ψ : Int → Bool) (Dd : DataW Unit), s = .int .i64 k ∧ k ≤ L ∧ e ≤ k ∧ OneInv l n N B D w1.heap.size (w1.heap.size + 1) w wr m e φ ψ Dd) (fun s _ => L - (intOf s).toNat)
  case atStart => exact ⟨0, 0, _, _, _, _, rfl, by omega, by omega, HI0.out⟩
  case round =>
    obtain ⟨k, e, m, φ, ψ, Dd, rfl, hk, he, hinv⟩ := hrel
    have HI := hid hinv
    clear hinv HI0
    by_cases hlt : k < L
    · obtain ⟨ho, h0, h1, h2⟩ := HF.out k (by omega)
      have h0 := HI.out.kept.cellx hb (by simp) h0
      have h1 := HI.out.kept.cellx hb (by simp) h1
      have h2 := HI.out.kept.cellx hb (by simp) h2
      obtain ⟨t, ht⟩ : ∃ q, q = (f k).v := ⟨_, rfl⟩
      obtain ⟨fr, hfr⟩ : ∃ r, r = (f k).free := ⟨_, rfl⟩
      obtain ⟨ag, hag⟩ : ∃ r, r = (f k).again := ⟨_, rfl⟩
      rw [← ht] at h0 ho
      rw [← hfr] at h1
      rw [← hag] at h2
      obtain ⟨t0, t1⟩ := ho
      clear ht hfr hag
      obtain ⟨v, hv⟩ : ∃ v : Nat, t % (n : Int) = (v : Int) := ⟨(t % (n : Int)).toNat, by have := Int.emod_nonneg t hnz; omega⟩
      have hv1 : v < n := by have := Int.emod_lt_of_pos t (show (0 : Int) < n by omega); omega
      have hv2 : t.tmod (n : Int) = (v : Int) := by rw [Int.tmod_eq_emod_of_nonneg t0]; exact hv
      have ka : Kept [] wr (wr.alloc (.cells #[.int .u8 t, .bool fr, .bool ag] 31)) := (Kept.refl _ _).alloc _
      have HO := hid (new_alloc wr (.cells #[.int .u8 t, .bool fr, .bool ag] 31))
      have HI := hid (HI.out.keep ka)
      clear ka
      go_upto_if 63 with (fail)
      go_cut [18] (fun s18 wc => (∃ u : Int, s18 = .int .i64 u ∧ 0 ≤ u ∧ u ≤ 8) ∧ wc = wr.alloc (.cells #[.int .u8 t, .bool fr, .bool ag] 31))
      case first =>
        by_cases hwho : k < len2
        · obtain ⟨hwf, b2, off2, hab, hb2, hc2⟩ := HG.out k hwho
          subst hab
          have hc2 := (HI.out.kept).cellx hb2 (by simp) hc2
          have hu := bounds_u8 hwf
          obtain ⟨z, hz⟩ : ∃ z, z = g2 k := ⟨_, rfl⟩
          rw [← hz] at hc2 hu
          obtain ⟨z0, z1⟩ := hu
          clear hz hwf
          obtain ⟨u, hu⟩ : ∃ u : Int, z % q = u := ⟨_, rfl⟩
          have u0 : 0 ≤ u := by rw [← hu]; exact Int.emod_nonneg z hqz
          have u1 : u < q := by rw [← hu]; exact Int.emod_lt_of_pos z (by omega)
          have u2 : z.tmod q = u := by rw [Int.tmod_eq_emod_of_nonneg z0]; exact hu
          go_wp2_with fail
          go_meet
          exact ⟨⟨u, rfl, u0, by omega⟩, rfl⟩
        · go_wp2_with fail
          go_meet
          exact ⟨⟨0, rfl, by omega, by omega⟩, rfl⟩
      case rest =>
        obtain ⟨⟨u, rfl, u0, u1⟩, rfl⟩ := hcut
        clear h0 h1 h2
        have hcO := cells_of HO.out
        have hcP := cells_of HI.out.plan
        have hwv : (Lit.int .i64 (v : Int)).wf = true := wf64 (by omega) (by omega)
        have HWV := hid hwv
        have hwu : (Lit.int .i64 (u + 1)).wf = true := wf64 (by omega) (by omega)
        have HWU := hid hwu
        clear hwv hwu
        obtain ⟨wa, hwa⟩ : ∃ wa, wr.alloc (.cells #[.int .u8 t, .bool fr, .bool ag] 31) = wa := ⟨_, rfl⟩
        rw [hwa] at HI HO hcO hcP
        rw [hwa]
        clear hwa
        go_upto_if 72 with (fail)
        go_cut [20] (fun _ wc => ∃ (e' : Nat) (m' : List Int) (φ' : Int → Int) (ψ' : Int → Bool) (Dd' : DataW Unit), e' ≤ k + 1 ∧ OneInv l n N B D w1.heap.size (w1.heap.size + 1) w wc m' e' φ' ψ' Dd')
        case first =>
          cases fr
          · by_cases hz : φ v = 0
            · have hzb : (φ v == 0) = true := beq_iff_eq.2 hz
              have hh : hits m (l.flag + (v : Int)) 0 = true := hits_yes (decide_eq_true ⟨by have := HL.out.f0; omega, by rw [HI.out.len]; have := HFN.out; omega⟩) ((HI.out.up v hv1).2 (by simp [UpM, hz]))
              have HH := hid hh
              have HZ := hid hz
              clear hz hh
              go_wp2_with fail
              refine (c62 l B D m v _ HI.out.bank HL.out.f0 HL.out.f1 (by omega) (by omega)).mono ?_
              rw [HH.out, claimed, if_pos HH.out]
              rintro e2 w2 ⟨rfl, hk2, hb2⟩
              have HM2 := hid (HI.out.map.keep hk2 (nin1 HPD.out.2.1))
              have HB2 := hid hb2
              have HK2 := hid hk2
              have hlk := HM2.out.look HWV.out
              clear hk2 hb2 hcO hcP
              go_wp2_with (at_mapUpdate; refine wpList_put _ rfl _ _ _ rfl (w1.heap.size + 1) e φ ψ Dd rfl HM2.out (by unfold maxLen; omega) (v : Int) (u + 1) rfl rfl HWV.out HWU.out ?_)
              intro w3 D' hk3 hm3
              have HI3 : Hid (OneInv l n N B D w1.heap.size (w1.heap.size + 1) w w3 (st m (l.flag + (v : Int)) 1) (e + 1) _ _ D') := hid (HI.out.turn (L := [D, w1.heap.size + 1]) (by rw [st_length]; exact HI.out.len)
                (UpM.on (u := u + 1) (by omega) (HI.out.up.st1 hv1 HL.out.f0 (by rw [HI.out.len]; exact HFN.out))) (HB2.out.keep hk3 (nin1 (Ne.symm HPD.out.2.2.1)) (nin1 (Ne.symm HPD.out.2.1)))
                ((HK2.out.mono (by simp)).trans (hk3.mono (by simp))) (in2 HPD.out.2.2.2.2.1 HPD.out.2.2.2.2.2) (nin2 HPD.out.1 HPD.out.2.2.2.1) hm3
                (fun y hy => by by_cases c : y = (v : Int)
                                · omega
                                · rw [if_neg c] at hy; exact HI.out.out y hy)
                (fun y => by by_cases c : y = (v : Int)
                             · rw [if_pos c]; omega
                             · rw [if_neg c]; exact HI.out.pos y)
                (fun y hy => by by_cases c : y = (v : Int)
                                · simp [c]
                                · rw [if_neg c] at hy; simp only [c, decide_false, Bool.false_or]; exact HI.out.hh y hy))
              clear hk3 hm3
              go_wp2_with fail
              go_meet
              exact ⟨_, _, _, _, _, by omega, HI3.out⟩
            · have hzb : (φ v == 0) = false := by simpa using hz
              have hh : hits m (l.flag + (v : Int)) 0 = false := hits_no (.inr (fun h => by
                have := (HI.out.up v hv1).1 h
                simp [UpM] at this; exact hz this))
              have HH := hid hh
              clear hz hh
              go_wp2_with fail
              refine (c62 l B D m v _ HI.out.bank HL.out.f0 HL.out.f1 (by omega) (by omega)).mono ?_
              rw [HH.out, claimed, if_neg (by rw [HH.out]; decide)]
              rintro e2 w2 ⟨rfl, hk2, hb2⟩
              have hm2 := HI.out.map.keep hk2 (nin1 HPD.out.2.1)
              have hlk := hm2.look HWV.out
              have HI3 : Hid (OneInv l n N B D w1.heap.size (w1.heap.size + 1) w w2 m e _ _ _) := hid (HI.out.turn (L := [D]) HI.out.len HI.out.up hb2 hk2 (in1 HPD.out.2.2.2.2.1) (nin1 HPD.out.1) hm2 HI.out.out HI.out.pos HI.out.hh)
              clear hk2 hb2 hcO hcP hm2
              go_wp2_with fail
              go_meet
              exact ⟨_, _, _, _, _, by omega, HI3.out⟩
          · have hlk := HI.out.map.look HWV.out
            by_cases hz : φ v = u + 1
            · have hzb : (φ v != u + 1) = false := by simp [hz]
              clear hz
              go_wp2_with fail
              refine (c60 l v _ HL.out.f0 HL.out.f1 (by omega) (by omega)).mono ?_
              rintro e2 w2 ⟨rfl, hk2⟩
              have HI2 := hid (HI.out.keep hk2)
              have HK2 := hid hk2
              clear hk2 hlk hcO hcP
              go_wp2_with fail
              have ka : Kept [] w2 (w2.alloc (.cells (freeCells (l.flag + v) false) 35)) := (Kept.refl _ _).alloc _
              have HFR := hid (new_alloc w2 (.cells (freeCells (l.flag + v) false) 35))
              have HQN : Hid (w2.heap.size ≠ B ∧ w2.heap.size ≠ D ∧ w1.heap.size ≠ w2.heap.size ∧ w.heap.size ≤ w2.heap.size ∧ w1.heap.size + 1 ≠ w2.heap.size ∧ wa.heap.size ≤ w2.heap.size) := hid ⟨fun e => by have := HI2.out.bank.ltB; omega, fun e => by have := HI2.out.bank.ltD; omega, fun e => by have := lt_of_heap HI2.out.plan; omega, HI2.out.kept.size, fun e => by have := HI2.out.map.lt; omega, HK2.out.size⟩
              have HI3 := hid (HI2.out.keep ka)
              have HK3 := hid (HK2.out.trans ka)
              clear ka
              refine (c61 w2.heap.size B D m (l.flag + v) false _ HFR.out HI3.out.bank HQN.out.1 HQN.out.2.1).mono ?_
              rintro e3 w4 ⟨rfl, hs⟩
              have HB4 : Hid (BankAt w4 B D (st m (l.flag + v) 0)) := hid (by simpa using hs.bank)
              have HM4 := hid (HI3.out.map.keep hs.kept (nin2 HQN.out.2.2.2.2.1 HPD.out.2.1))
              have HK4 : Hid (Kept [D, w1.heap.size + 1] wa w4) := hid ((HK3.out.of_nil (M := [D, w1.heap.size + 1])).drop hs.kept (fun z hz => by
                rcases List.mem_cons.1 hz with h | h
                · exact .inr (by rw [h]; exact HQN.out.2.2.2.2.2)
                · exact .inl (by simp at h; simp [h])))
              clear hs HI2 HI3 HK2 HK3 HFR HQN
              go_wp2_with (at_mapUpdate; refine wpList_put _ rfl _ _ _ rfl (w1.heap.size + 1) e φ ψ Dd rfl HM4.out (by unfold maxLen; omega) (v : Int) 0 rfl rfl HWV.out (by decide) ?_)
              intro w5 D' hk5 hm5
              have HI5 : Hid (OneInv l n N B D w1.heap.size (w1.heap.size + 1) w w5 (st m (l.flag + (v : Int)) 0) (e + 1) _ _ D') := hid (HI.out.turn (L := [D, w1.heap.size + 1]) (by rw [st_length]; exact HI.out.len)
                (UpM.off (HI.out.up.st0 hv1 HL.out.f0 (by rw [HI.out.len]; exact HFN.out))) (HB4.out.keep hk5 (nin1 (Ne.symm HPD.out.2.2.1)) (nin1 (Ne.symm HPD.out.2.1)))
                (HK4.out.trans (hk5.mono (by simp))) (in2 HPD.out.2.2.2.2.1 HPD.out.2.2.2.2.2) (nin2 HPD.out.1 HPD.out.2.2.2.1) hm5
                (fun y hy => by by_cases c : y = (v : Int)
                                · omega
                                · rw [if_neg c] at hy; exact HI.out.out y hy)
                (fun y => by by_cases c : y = (v : Int)
                             · rw [if_pos c]; omega
                             · rw [if_neg c]; exact HI.out.pos y)
                (fun y hy => by by_cases c : y = (v : Int)
                                · simp [c]
                                · rw [if_neg c] at hy; simp only [c, decide_false, Bool.false_or]; exact HI.out.hh y hy))
              clear hk5 hm5
              go_wp2_with fail
              go_meet
              exact ⟨_, _, _, _, _, by omega, HI5.out⟩
            · have hzb : (φ v != u + 1) = true := by rw [bne_iff_ne]; exact hz
              clear hz
              go_wp2_with fail
              go_roundw
              case rel => exact ⟨k + 1, _, _, _, _, _, by go_num, by omega, by omega, HI.out⟩
              case measure => simp [intOf]; omega
        case rest =>
          obtain ⟨e', m', φ', ψ', Dd', he', hinv⟩ := hcut
          clear hcO HO
          clear HI
          have HI := hid hinv
          have hcP := cells_of HI.out.plan
          clear hinv
          go_wp2_with fail
          refine (c55 l B D m' n _ HI.out.bank HL.out.f0 HL.out.f1 HL.out.verts (by omega)).mono ?_
          rw [HI.out.up.held]
          rintro e2 w5 ⟨v1, rfl, hk5, hs5, _⟩
          have HI := hid (HI.out.keep hk5)
          have hq30 := upList_len (UpM φ') n
          obtain ⟨xs, hxs⟩ : ∃ xs, upList (UpM φ') n = xs := ⟨_, rfl⟩
          have HXS := hid hxs
          rw [hxs] at hs5 hq30
          clear hxs
          have HS := hid hs5
          obtain ⟨a', c', rfl⟩ := hs5.len
          obtain ⟨cl, hcl⟩ : ∃ cl, xs.length = cl := ⟨_, rfl⟩
          have HCL := hid hcl
          rw [hcl] at HS hq30
          rw [hcl]
          clear hcl hk5 hs5 hcP
          go_wp2_with fail
          go_loopw [106] (fun s wr => ∃ j : Nat, s = .int .i64 j ∧ j ≤ cl ∧ Kept [] w5 wr) (fun s _ => cl - (intOf s).toNat)
          case atStart => exact ⟨0, rfl, by omega, Kept.refl _ _⟩
          case round =>
            obtain ⟨j, rfl, hj, hk6⟩ := hrel
            have HK6 := hid hk6
            clear hk6
            by_cases hlt2 : j < cl
            · have hmem : xs.getD j 0 ∈ upList (UpM φ') n := by
                rw [HXS.out]
                have hj' : j < xs.length := by rw [HCL.out]; exact hlt2
                rw [List.getD_eq_getElem?_getD, List.getElem?_eq_getElem hj']
                exact List.getElem_mem hj'
              obtain ⟨v', hv', hvn, hvp⟩ := upList_mem _ _ _ hmem
              have hcell : ∃ g off, a' = some ⟨g, off, none⟩ ∧ wr.cell? ⟨g, off + j, none⟩ = some (.int .i64 (v' : Int)) := by
                rcases HS.out with ⟨h, hx⟩ | ⟨g, off, c2, h, hg, hc⟩
                · cases h; omega
                · cases h
                  refine ⟨g, off, rfl, ?_⟩
                  have := hc j (by rw [HCL.out]; exact hlt2)
                  rw [hv'] at this
                  exact HK6.out.cellx hg (by simp) this
              obtain ⟨g, off2, rfl, hcell⟩ := hcell
              have hlk := (HI.out.map.keep HK6.out (by simp)).look (x := (v' : Int)) (wf64 (by omega) (by omega))
              have hnz : (φ' v' == 0) = false := by simpa [UpM] using hvp
              clear hmem hv' hvp
              go_wp2_with fail
              go_roundw
              case rel => exact ⟨j + 1, by go_num, by omega, HK6.out⟩
              case measure => simp [intOf]; omega
            · obtain rfl : j = cl := by omega
              have HI := hid (HI.out.keep HK6.out)
              have HOW := hid HI.out.map.own
              go_wp2_with (first | (at_range; refine wpList_range_own _ rfl _ 29 rfl 3 3 law34 Try.underlying29 _ (w1.heap.size + 1) e' _ rfl HOW.out ?_; intro w7 hrg7 hg7 hs7) | fail)
              go_frame
              have kg7 : Kept [] _ w7 := Kept.grown hg7
              have HI7 := hid (HI.out.keep kg7)
              have HM0 := hid HI.out.map
              have HM0B := hid HI.out.plan
              have HMBL : Hid (B < wr.heap.size ∧ D < wr.heap.size) := hid ⟨HI.out.bank.ltB, HI.out.bank.ltD⟩
              have HMW := hid HI.out.kept.size
              clear kg7 hg7 HI
              obtain ⟨R, hR⟩ : ∃ R, wr.heap.size = R := ⟨_, rfl⟩
              rw [hR] at hrg7 ⊢
              have HRW : Hid (w.heap.size ≤ R ∧ R ≠ B ∧ R ≠ D ∧ w1.heap.size ≠ R ∧ w1.heap.size + 1 ≠ R) := hid (by
                have h1 := HOW.out.lt
                rw [hR] at h1
                have h2 := HK6.out.size
                have h4 := lt_of_heap HM0B.out
                have h5 := HMBL.out
                rw [hR] at h5 h4
                have h6 := HDW.out
                have h7 := HMW.out
                rw [hR] at h7
                exact ⟨by omega, by omega, by omega, by omega, by omega⟩)
              have HRG := hid hrg7
              clear hrg7 hs7 hR
              go_loopw [24] (fun s wr => ∃ (left : Lit → Bool) (cnt : Nat), s = .int .i64 (cntL (come φ' ψ' left) n : Nat) ∧ wr.ranges (Try.prog) 3 (plainElem (Try.prog) 3) (w1.heap.size + 1) R e' Dd' left cnt ∧ Kept [R] w7 wr) (fun _ wr => wr.rangeLeft (w1.heap.size + 1) R)
              case atStart => exact ⟨_, _, by rw [come_start HM0.out (by omega)]; rfl, HRG.out, Kept.refl _ _⟩
              case round =>
                obtain ⟨left, cnt, rfl, hrg, hk8⟩ := hrel
                have HRG2 := hid hrg
                have HK8 := hid hk8
                have hle := cntL_le (come φ' ψ' left) n
                clear hrg hk8 HRG
                go_wp2_with (first | (at_next; refine wpList_next_ranges_ii _ rfl _ rfl 3 3 .i64 .i64 law34 Try.underlying3 Try.underlying3 (w1.heap.size + 1) R e' _ _ _ rfl HRG2.out ?_ ?_) | fail)
                · intro _ hl0
                  have hcc : cntL (come φ' ψ' left) n = j := by
                    rw [come_end hl0 HI7.out.hh (fun y => (HI7.out.pos y).1)]
                    have := upList_cnt (UpM φ') n
                    rw [HXS.out, HCL.out] at this
                    exact this.symm
                  rw [hcc]
                  have HI8 : Hid (OneInv l n N B D w1.heap.size (w1.heap.size + 1) w wr m' e' φ' ψ' Dd') := hid (HI7.out.turn (L := [R]) HI7.out.len HI7.out.up (HI7.out.bank.keep HK8.out (nin1 (Ne.symm HRW.out.2.1)) (nin1 (Ne.symm HRW.out.2.2.1))) HK8.out (in1 HRW.out.1) (nin1 HRW.out.2.2.2.1) (HI7.out.map.keep HK8.out (nin1 HRW.out.2.2.2.2)) HI7.out.out HI7.out.pos HI7.out.hh)
                  clear hle hcc
                  go_wp2_with fail
                  go_roundw
                  case rel => exact ⟨k + 1, _, _, _, _, _, by go_num, by omega, by omega, HI8.out⟩
                  case measure => simp [intOf]; omega
                · intro x2 c2 w9 cnt2 hwx hwc hlx hat hrg2 hlt3 hg9 hs9 hen
                  have hfx : φ' x2 = c2 := by
                    have h1 := hat (.lit (.int .i64 0))
                    rw [HM0.out.at_ x2 hwx] at h1
                    cases h1; rfl
                  have hhx : ψ' x2 = true := by
                    rw [← HM0.out.has_ x2 hwx]
                    exact has_true_of_atKey hat
                  have HFX := hid hfx
                  have HHX := hid hhx
                  have HLX := hid hlx
                  have HRG3 := hid hrg2
                  have HK9 : Hid (Kept [R] w7 w9) := hid (HK8.out.trans (by have := Kept.grown hg9; simpa using this))
                  have HLT := hid hlt3
                  clear hfx hhx hlx hrg2 hg9 hlt3 hat hwx hwc
                  by_cases hpos : 0 < c2
                  · have HPS : Hid (0 ≤ x2 ∧ x2 < (n : Int)) := hid (HI7.out.out x2 (by rw [HFX.out]; omega))
                    have hst := come_step (f := φ') (h := ψ') (left := left) (n := n) (x := x2) HLX.out HHX.out (by rw [HFX.out]; exact hpos) HPS.out.1 HPS.out.2
                    have HST := hid hst
                    clear hst
                    go_wp2_with fail
                    go_roundw
                    case rel => exact ⟨_, cnt2, by rw [HST.out]; go_num, HRG3.out, HK9.out⟩
                    case measure => rw [HRG3.out.left_eq, HRG2.out.left_eq]; exact HLT.out
                  · have hst := come_skip (f := φ') (h := ψ') (left := left) (n := n) (x := x2) (by rw [HFX.out]; exact hpos)
                    have HST := hid hst
                    clear hst
                    go_wp2_with fail
                    go_roundw
                    case rel => exact ⟨_, cnt2, by rw [HST.out], HRG3.out, HK9.out⟩
                    case measure => rw [HRG3.out.left_eq, HRG2.out.left_eq]; exact HLT.out
    · obtain rfl : k = L := by omega
      go_wp2_with fail
      refine (awake12 _).mono ?_
      rintro e w5 ⟨rfl, hk5⟩
      go_wp2_with fail
      go_ret
      exact ⟨rfl, HI.out.kept.trans hk5⟩
set_option maxHeartbeats 4000000 in
set_option maxRecDepth 100000 in
theorem fone_empty (x y : Int) (hx0 : 0 ≤ x) (hx1 : x ≤ 255) (hy0 : 0 ≤ y) (hy1 : y ≤ 255) (a : Option Addr) (cap : Nat) (w : World) (ha : a = none ∧ cap = 0 ∨ ∃ x, a = some x ∧ cap ≤ maxLen)
    (a2 : Option Addr) (len2 cap2 : Nat) :
    Calls Try.prog 3 #[.int .u8 x, .int .u8 y, .slice a 0 cap, .slice a2 len2 cap2] w fun e w' => e = .returned (.bool true) ∧ Kept [] w w' := by
  obtain ⟨n, hn⟩ : ∃ n : Nat, 1 + x % 30 = (n : Int) := ⟨(1 + x % 30).toNat, by omega⟩
  have hn0 : 1 ≤ (n : Int) := by omega
  have hn1 : (n : Int) ≤ 30 := by omega
  obtain ⟨q, hq⟩ : ∃ q : Int, 2 + y % 8 = q := ⟨_, rfl⟩
  have HL := hid (lay12 (n := n) (by omega) (by omega))
  have G := hid (c59 (n : Int) w (by omega) (by omega))
  obtain ⟨l, hl⟩ : ∃ l, planOf (n : Int) 3 2 = l := ⟨_, rfl⟩
  rw [hl] at HL G
  clear hl
  have hmm := @run_makeMap Try.prog
  rcases ha with ⟨rfl, rfl⟩ | ⟨z, rfl, hc⟩
  all_goals
    try unfold maxLen at hc
    go_enter Try.func3, Try.ntmps3
    go_wp2_with fail
    refine G.out.mono ?_
    rintro e w1 ⟨B, D, rfl, hB, hD, hk1, hb1⟩
    have HK1 := hid ((hk1.alloc (.cells l.cells 25)).alloc (.map #[] 0))
    clear hb1 hk1 hD hB
    go_wp2_with fail
    clear hmm
    go_loopw [50] (fun s wr => s = .int .i64 0 ∧ Kept [] w wr) (fun _ _ => 0)
    case atStart => exact ⟨rfl, HK1.out⟩
    case round =>
      obtain ⟨rfl, hk⟩ := hrel
      have HK := hid hk
      clear hk
      go_wp2_with fail
      refine (awake12 _).mono ?_
      rintro e w5 ⟨rfl, hk5⟩
      go_wp2_with fail
      go_ret
      exact ⟨rfl, HK.out.trans hk5⟩
theorem fone_all {w : World} (a0 a1 : Int) (a2 : Option Addr) (len cap : Nat) (f : Nat → Op12) (a3 : Option Addr) (len3 cap3 : Nat) (g : Nat → Int) (w0 : (Lit.int .u8 a0).wf = true) (w1 : (Lit.int .u8 a1).wf = true) (w2 : Ops12 w a2 len cap f) (w3 : Ints .u8 w a3 len3 cap3 g) :
    Calls Try.prog 3 #[.int .u8 a0, .int .u8 a1, .slice a2 len cap, .slice a3 len3 cap3] w fun e w' => e = .returned (.bool true) ∧ Below w.heap.size w w' := by
  suffices h : Calls Try.prog 3 #[.int .u8 a0, .int .u8 a1, .slice a2 len cap, .slice a3 len3 cap3] w fun e w' => e = .returned (.bool true) ∧ Kept [] w w' from
    h.mono fun e w' ⟨h1, h2⟩ => ⟨h1, h2.below (Nat.le_refl _) (by simp)⟩
  have hb := bounds_u8 w0
  have hb1 := bounds_u8 w1
  rcases w2 with ⟨rfl, rfl, rfl⟩ | ⟨x, rfl, rfl, hc⟩ | ⟨b, off, rfl, _, hl, hc, hb', hf⟩
  · exact fone_empty a0 a1 (by omega) (by omega) (by omega) (by omega) none 0 w (.inl ⟨rfl, rfl⟩) a3 len3 cap3
  · exact fone_empty a0 a1 (by omega) (by omega) (by omega) (by omega) (some x) cap w (.inr ⟨x, rfl, hc⟩) a3 len3 cap3
  · exact fone_main a0 a1 (by omega) (by omega) (by omega) (by omega) b off len cap f w hl hc hb' hf a3 len3 cap3 g w3
end Go.Proofs.Ytklkopoelhndoaa
