/- CountAsk returns true, whatever comes in. -/
import Derived.Test.YtklkopoelhndoaaCAsk0
import Derived.Deep.RegionHeld3
import Derived.Deep.DrawnRows
namespace Go.Proofs.Ytklkopoelhndoaa
open Go.RowKit Go.ChangeShapes Go.WideShapes
attribute [local go_sem ↓] Go.wp_at_zero Go.wp_at_succ
set_option linter.unusedVariables false
structure AInv (B D P Bp Q : Nat) (w wr : World) (p a : Int) : Prop where
  inv : Inv13 B D P w wr p a
  ptr : wr.heap[Bp]? = some (.cells #[.pointer (some ⟨B, 0, none⟩)] 26 (0, 0))
  pend : wr.heap[Q]? = some (.cells #[.int .i64 p] 2 (0, 0))
theorem AInv.keep {B D P Bp Q : Nat} {w wr w' : World} {p a : Int} (i : AInv B D P Bp Q w wr p a) (k : Kept [] wr w') : AInv B D P Bp Q w w' p a := ⟨i.inv.keep k, k.get i.ptr (by simp), k.get i.pend (by simp)⟩
theorem AInv.turn {B D P Bp Q : Nat} {w wr w' : World} {p a a' : Int} (i : AInv B D P Bp Q w wr p a) (k : Kept [D] wr w') (hD : w.heap.size ≤ D) (hP : P ≠ D) (hBp : Bp ≠ D) (hQ : Q ≠ D) (hb : BankAt w' B D (bk p a')) : AInv B D P Bp Q w w' p a' :=
  ⟨i.inv.turn k hD hP hb, k.get i.ptr (by simpa using hBp), k.get i.pend (by simpa using hQ)⟩
theorem AInv.does {B D P Bp Q : Nat} {w wr w' : World} {p a p' a' : Int} (i : AInv B D P Bp Q w wr p a) (k : Kept [D, Q] wr w') (hD : w.heap.size ≤ D) (hQ : w.heap.size ≤ Q) (hP : P ≠ D ∧ P ≠ Q) (hBp : Bp ≠ D ∧ Bp ≠ Q) (hb : BankAt w' B D (bk p' a')) (hq : w'.heap[Q]? = some (.cells #[.int .i64 p'] 2 (0, 0))) : AInv B D P Bp Q w w' p' a' :=
  ⟨⟨hb, i.inv.kept.drop k (fun x hx => .inr (by simp at hx; omega)), k.get i.inv.plan (by simp; exact hP)⟩, k.get i.ptr (by simp; exact hBp), hq⟩
set_option maxHeartbeats 4000000 in
set_option maxRecDepth 100000 in
theorem cask_main (a0 : Option Addr) (len0 cap0 : Nat) (f0 : Nat → Op13) (a1 : Option Addr) (len1 cap1 : Nat) (f1 : Nat → Op13) (w : World) (h0 : OpsG w a0 len0 cap0 f0) (h1 : OpsG w a1 len1 cap1 f1) :
    Calls Try.prog 6 #[.slice a0 len0 cap0, .slice a1 len1 cap1] w fun e w' => e = .returned (.bool true) ∧ Kept [] w w' := by
  obtain ⟨hl0, hc0, hn0, hf0⟩ := h0
  obtain ⟨hl1, hc1, hn1, hf1⟩ := h1
  unfold maxLen at hc0 hc1
  have HF0 := hid hf0
  have HF1 := hid hf1
  obtain ⟨L, hL, hLl, hL1⟩ : ∃ L : Nat, L = min len0 60 ∧ L ≤ len0 ∧ L ≤ 60 := ⟨_, rfl, by omega, by omega⟩
  obtain ⟨M, hM, hMl, hM1⟩ : ∃ L : Nat, L = min len1 60 ∧ L ≤ len1 ∧ L ≤ 60 := ⟨_, rfl, by omega, by omega⟩
  have hmin : ∀ (ats : Array TypeId) (ty : TypeId), Builtin.min_ ats ty #[.int .i64 (len0 : Int), .int .i64 60] = pure (.int .i64 (L : Int)) := min_at len0 60 L hL
  have hmin2 : ∀ (ats : Array TypeId) (ty : TypeId), Builtin.min_ ats ty #[.int .i64 (len1 : Int), .int .i64 60] = pure (.int .i64 (M : Int)) := min_at len1 60 M hM
  have HM2 := hid hmin2
  clear hmin2
  have hcut0 := run_cut Try.underlying54 size116 a0 len0 cap0 L (by omega) hn0
  have HC1 := hid (run_cut Try.underlying54 size116 a1 len1 cap1 M (by omega) hn1)
  have hmf : ∀ (fn : Fn) (first cap : Array Value) (w : World), (Instr.makeFunc fn first cap).run Try.prog w = .ok (.func fn first cap) w := fun _ _ _ _ => rfl
  clear hf0 hf1 hL hM hn0 hn1
  go_enter Try.func6, Try.ntmps6
  go_wp2_with fail
  refine (c72 _).mono ?_
  rintro e w1 ⟨B, D, rfl, hB, hD, hk1, hb1⟩
  rw [show l211.size.toNat = 15 from rfl, ← bk_zero] at hb1
  have HBD := hid (And.intro hB hD)
  have HPD : Hid (w1.heap.size ≠ D ∧ w1.heap.size + 1 ≠ D ∧ w1.heap.size + 2 ≠ D ∧ w1.heap.size + 2 ≠ B ∧ w.heap.size ≤ w1.heap.size) := hid ⟨fun e => by have := hb1.ltD; omega, fun e => by have := hb1.ltD; omega, fun e => by have := hb1.ltD; omega, fun e => by have := hb1.ltB; omega, hk1.size⟩
  have HB1 := hid hb1
  have HK1 := hid hk1
  clear hb1 hk1 hB hD
  go_wp2_with fail
  have k3 : Kept [] w1 (((w1.alloc (.cells l211.cells 25)).alloc (.cells #[.pointer (some ⟨B, 0, none⟩)] 26)).alloc (.cells #[.int .i64 0] 2)) := (((Kept.refl _ _).alloc _).alloc _).alloc _
  have HI0 : Hid (AInv B D w1.heap.size (w1.heap.size + 1) (w1.heap.size + 1 + 1) w (((w1.alloc (.cells l211.cells 25)).alloc (.cells #[.pointer (some ⟨B, 0, none⟩)] 26)).alloc (.cells #[.int .i64 0] 2)) 0 0) :=
    hid ⟨⟨HB1.out.keep k3 (by simp) (by simp), HK1.out.trans k3, old_alloc (old_alloc (new_alloc _ _) _) _⟩, old_alloc (new_alloc2 _ _ _) _, by have := new_alloc2 (w1.alloc (.cells l211.cells 25)) (.cells #[.pointer (some ⟨B, 0, none⟩)] 26) (.cells #[.int .i64 0] 2); rwa [show (w1.alloc (.cells l211.cells 25)).heap.size + 1 = w1.heap.size + 1 + 1 by simp] at this⟩
  clear hmin hcut0 k3 HB1 HK1 hmf
  go_loopw [29] (fun s wr => ∃ (k : Nat) (p : Int), s = .int .i64 k ∧ k ≤ L ∧ AInv B D w1.heap.size (w1.heap.size + 1) (w1.heap.size + 1 + 1) w wr p 0) (fun s _ => L - (intOf s).toNat)
  case atStart => exact ⟨0, 0, rfl, by omega, HI0.out⟩
  case round =>
    obtain ⟨k, p, rfl, hk, hinv⟩ := hrel
    have HI := hid hinv
    clear hinv HI0
    by_cases hlt : k < L
    · obtain ⟨b, off, rfl, hb, ho, h0, h1, h2⟩ := HF0.out k (by omega)
      have h0 := HI.out.inv.kept.cellx hb (by simp) h0
      have h1 := HI.out.inv.kept.cellx hb (by simp) h1
      have h2 := HI.out.inv.kept.cellx hb (by simp) h2
      obtain ⟨q, hq⟩ : ∃ q, q = (f0 k).kind := ⟨_, rfl⟩
      obtain ⟨n, hn⟩ : ∃ r, r = (f0 k).n := ⟨_, rfl⟩
      obtain ⟨ag, hag⟩ : ∃ r, r = (f0 k).again := ⟨_, rfl⟩
      rw [← hq] at h0 ho
      rw [← hn] at h1
      rw [← hag] at h2
      obtain ⟨q0, q1⟩ := ho
      clear hq hn hag
      have ka : Kept [] wr (wr.alloc (.cells #[.int .u8 q, .int .i64 n, .bool ag] 56)) := (Kept.refl _ _).alloc _
      have HO := hid (new_alloc wr (.cells #[.int .u8 q, .int .i64 n, .bool ag] 56))
      have HI := hid (HI.out.keep ka)
      have hcB := cells_of HI.out.ptr
      have hcQ := cells_of HI.out.pend
      have hcP := cells_of HI.out.inv.plan
      clear ka
      have hcase : q % 3 = 0 ∨ q % 3 = 1 ∨ q % 3 = 2 := by omega
      rcases hcase with hq | hq | hq
      · as_aux_lemma =>
          go_wp2_with fail
          refine (c78_0 B D w1.heap.size (w1.heap.size + 1) (w1.heap.size + 1 + 1) p 0 q n ag _ HI.out.inv.bank HI.out.inv.plan HI.out.ptr HI.out.pend (by have := HPD.out.2.2.2.1; simpa using this) (by have := HPD.out.2.2.1; simpa using this)).mono ?_
          rintro e w2 ⟨rfl, hk', hb', hq'⟩
          have HI := hid (HI.out.does hk' HBD.out.2 (by have := HPD.out.2.2.2.2; omega) ⟨HPD.out.1, by omega⟩ ⟨HPD.out.2.1, by omega⟩ hb' hq')
          clear hk' hb' hq' hcP hcB hcQ
          have hcP := cells_of HI.out.inv.plan
          have hcB := cells_of HI.out.ptr
          have hcQ := cells_of HI.out.pend
          go_wp2_with fail
          go_region_held3 (fun w' => (∀ i, w'.cell? ⟨w1.heap.size, i, none⟩ = l211.cells[i]?) ∧ (∀ i, w'.cell? ⟨w1.heap.size + 1, i, none⟩ = #[Value.pointer (some ⟨B, 0, none⟩)][i]?) ∧ (∀ i, w'.cell? ⟨w1.heap.size + 1 + 1, i, none⟩ = #[Value.int .i64 (wrap64 (p + n))][i]?))
            (first | exact ⟨hcP, hcB, hcQ⟩ | exact ⟨hcP1, hcB1, hcQ1⟩)
            (first
              | (go_at_call 31; refine (c80b B D (wrap64 (p + n)) 0 false rfl _ (HI.out.inv.bank.keep (Kept.refl [] _).drew (by simp) (by simp))).mono ?_; rintro e y1 ⟨rfl, hk', hb'⟩; have hi1 := (HI.out.keep (Kept.refl [] _).drew).turn hk' HBD.out.2 HPD.out.1 HPD.out.2.1 HPD.out.2.2.1 hb'; have hcP1 := cells_of hi1.inv.plan; have hcB1 := cells_of hi1.ptr; have hcQ1 := cells_of hi1.pend)
              | (go_at_call 26; refine (c42p B D (wrap64 (p + n)) 0 _ hi1.inv.bank).mono ?_; rintro e y2 ⟨rfl, rfl⟩))
          have HI := hid hi1
          clear hi1 hcP hcB hcQ hcP1 hcB1 hcQ1 hk' hb'
          go_wp2_with fail
          go_roundw
          case rel => exact ⟨k + 1, _, by go_num, by omega, HI.out⟩
          case measure => simp [intOf]; omega
      · as_aux_lemma =>
          go_wp2_with fail
          refine (c78_1 B D w1.heap.size (w1.heap.size + 1) (w1.heap.size + 1 + 1) p 0 q n ag _ HI.out.inv.bank HI.out.inv.plan HI.out.ptr HI.out.pend (by have := HPD.out.2.2.2.1; simpa using this) (by have := HPD.out.2.2.1; simpa using this)).mono ?_
          rintro e w2 ⟨rfl, hk', hb', hq'⟩
          have HI := hid (HI.out.does hk' HBD.out.2 (by have := HPD.out.2.2.2.2; omega) ⟨HPD.out.1, by omega⟩ ⟨HPD.out.2.1, by omega⟩ hb' hq')
          clear hk' hb' hq' hcP hcB hcQ
          have hcP := cells_of HI.out.inv.plan
          have hcB := cells_of HI.out.ptr
          have hcQ := cells_of HI.out.pend
          go_wp2_with fail
          go_region_held3 (fun w' => (∀ i, w'.cell? ⟨w1.heap.size, i, none⟩ = l211.cells[i]?) ∧ (∀ i, w'.cell? ⟨w1.heap.size + 1, i, none⟩ = #[Value.pointer (some ⟨B, 0, none⟩)][i]?) ∧ (∀ i, w'.cell? ⟨w1.heap.size + 1 + 1, i, none⟩ = #[Value.int .i64 (wrap64 (p + -1))][i]?))
            (first | exact ⟨hcP, hcB, hcQ⟩ | exact ⟨hcP1, hcB1, hcQ1⟩)
            (first
              | (go_at_call 31; refine (c80b B D (wrap64 (p + -1)) 0 false rfl _ (HI.out.inv.bank.keep (Kept.refl [] _).drew (by simp) (by simp))).mono ?_; rintro e y1 ⟨rfl, hk', hb'⟩; have hi1 := (HI.out.keep (Kept.refl [] _).drew).turn hk' HBD.out.2 HPD.out.1 HPD.out.2.1 HPD.out.2.2.1 hb'; have hcP1 := cells_of hi1.inv.plan; have hcB1 := cells_of hi1.ptr; have hcQ1 := cells_of hi1.pend)
              | (go_at_call 26; refine (c42p B D (wrap64 (p + -1)) 0 _ hi1.inv.bank).mono ?_; rintro e y2 ⟨rfl, rfl⟩))
          have HI := hid hi1
          clear hi1 hcP hcB hcQ hcP1 hcB1 hcQ1 hk' hb'
          go_wp2_with fail
          go_roundw
          case rel => exact ⟨k + 1, _, by go_num, by omega, HI.out⟩
          case measure => simp [intOf]; omega
      · as_aux_lemma =>
          go_wp2_with fail
          refine (c78_2 B D w1.heap.size (w1.heap.size + 1) (w1.heap.size + 1 + 1) p 0 q n ag _ HI.out.inv.bank HI.out.inv.plan HI.out.ptr HI.out.pend (by have := HPD.out.2.2.2.1; simpa using this) (by have := HPD.out.2.2.1; simpa using this)).mono ?_
          rintro e w2 ⟨rfl, hk', hb', hq'⟩
          have HI := hid (HI.out.does hk' HBD.out.2 (by have := HPD.out.2.2.2.2; omega) ⟨HPD.out.1, by omega⟩ ⟨HPD.out.2.1, by omega⟩ hb' hq')
          clear hk' hb' hq' hcP hcB hcQ
          have hcP := cells_of HI.out.inv.plan
          have hcB := cells_of HI.out.ptr
          have hcQ := cells_of HI.out.pend
          go_wp2_with fail
          go_region_held3 (fun w' => (∀ i, w'.cell? ⟨w1.heap.size, i, none⟩ = l211.cells[i]?) ∧ (∀ i, w'.cell? ⟨w1.heap.size + 1, i, none⟩ = #[Value.pointer (some ⟨B, 0, none⟩)][i]?) ∧ (∀ i, w'.cell? ⟨w1.heap.size + 1 + 1, i, none⟩ = #[Value.int .i64 p][i]?))
            (first | exact ⟨hcP, hcB, hcQ⟩ | exact ⟨hcP1, hcB1, hcQ1⟩)
            (first
              | (go_at_call 31; refine (c80b B D p 0 false rfl _ (HI.out.inv.bank.keep (Kept.refl [] _).drew (by simp) (by simp))).mono ?_; rintro e y1 ⟨rfl, hk', hb'⟩; have hi1 := (HI.out.keep (Kept.refl [] _).drew).turn hk' HBD.out.2 HPD.out.1 HPD.out.2.1 HPD.out.2.2.1 hb'; have hcP1 := cells_of hi1.inv.plan; have hcB1 := cells_of hi1.ptr; have hcQ1 := cells_of hi1.pend)
              | (go_at_call 26; refine (c42p B D p 0 _ hi1.inv.bank).mono ?_; rintro e y2 ⟨rfl, rfl⟩))
          have HI := hid hi1
          clear hi1 hcP hcB hcQ hcP1 hcB1 hcQ1 hk' hb'
          go_wp2_with fail
          go_roundw
          case rel => exact ⟨k + 1, _, by go_num, by omega, HI.out⟩
          case measure => simp [intOf]; omega
    · obtain rfl : k = L := by omega
      clear hlt hk
      have hcP := cells_of HI.out.inv.plan
      go_wp2_with fail
      refine (c81 l211 _).mono ?_
      rintro e w2 ⟨fv, rfl, hk, hm⟩
      have HI := hid (HI.out.keep hk)
      obtain ⟨g, caps, rfl⟩ := hm.form
      have HM := hid hm
      clear hk hm hcP
      have ka : Kept [] w2 (w2.alloc (.cells (onceCells (.func g #[] caps) false false) 60)) := (Kept.refl _ _).alloc _
      have HN : Hid (w2.heap.size ≠ B ∧ w2.heap.size ≠ D ∧ w.heap.size ≤ w2.heap.size ∧ w1.heap.size ≠ w2.heap.size ∧ w1.heap.size + 1 ≠ w2.heap.size ∧ w1.heap.size + 1 + 1 ≠ w2.heap.size) := hid ⟨fun e => by have := HI.out.inv.bank.ltB; omega, fun e => by have := HI.out.inv.bank.ltD; omega, HI.out.inv.kept.size, fun e => by have := lt_of_heap HI.out.inv.plan; omega, fun e => by have := lt_of_heap HI.out.ptr; omega, fun e => by have := lt_of_heap HI.out.pend; omega⟩
      have HO : Hid (OnceAt (w2.alloc (.cells (onceCells (.func g #[] caps) false false) 60)) w2.heap.size 60 (.func g #[] caps) false false) := hid (new_alloc w2 _)
      have HI := hid (HI.out.keep ka)
      have HM := hid (HM.out.keep ka)
      clear ka
      have hcB := cells_of HI.out.ptr
      go_wp2_with fail
      refine (c82 w2.heap.size B D 60 (.func g #[] caps) 3 0 l211 _ (bk p 0) false _ HO.out HM.out HI.out.inv.bank ⟨HN.out.1, HN.out.2.1⟩).mono ?_
      rw [mbank3]
      rintro e w3 ⟨rfl, hk, ho, hb'⟩
      have HI : Hid (AInv B D w1.heap.size (w1.heap.size + 1) (w1.heap.size + 1 + 1) w w3 p 1) := hid ⟨⟨hb', HI.out.inv.kept.drop hk (fun x hx => .inr (by simp at hx; have := HN.out.2.2.1; have := HBD.out; omega)), hk.get HI.out.inv.plan (by simp; exact ⟨HN.out.2.2.2.1, HPD.out.1⟩)⟩, hk.get HI.out.ptr (by simp; exact ⟨HN.out.2.2.2.2.1, HPD.out.2.1⟩), hk.get HI.out.pend (by simp; exact ⟨HN.out.2.2.2.2.2, HPD.out.2.2.1⟩)⟩
      clear hk hb' ho hcB HM HO HN
      have hmin := HM2.out
      have hcut1 := HC1.out
      go_wp2_with fail
      clear hmin hcut1
      go_loopw [62] (fun s wr => ∃ (k : Nat) (p : Int), s = .int .i64 k ∧ k ≤ M ∧ AInv B D w1.heap.size (w1.heap.size + 1) (w1.heap.size + 1 + 1) w wr p 1) (fun s _ => M - (intOf s).toNat)
      case atStart => exact ⟨0, p, rfl, by omega, HI.out⟩
      case round =>
        obtain ⟨k, p, rfl, hk, hinv⟩ := hrel
        clear HI
        have HI := hid hinv
        clear hinv
        by_cases hlt : k < M
        · obtain ⟨b, off, rfl, hb, ho, h0, h1, h2⟩ := HF1.out k (by omega)
          have h0 := HI.out.inv.kept.cellx hb (by simp) h0
          have h1 := HI.out.inv.kept.cellx hb (by simp) h1
          have h2 := HI.out.inv.kept.cellx hb (by simp) h2
          obtain ⟨q, hq⟩ : ∃ q, q = (f1 k).kind := ⟨_, rfl⟩
          obtain ⟨n, hn⟩ : ∃ r, r = (f1 k).n := ⟨_, rfl⟩
          obtain ⟨ag, hag⟩ : ∃ r, r = (f1 k).again := ⟨_, rfl⟩
          rw [← hq] at h0 ho
          rw [← hn] at h1
          rw [← hag] at h2
          obtain ⟨q0, q1⟩ := ho
          clear hq hn hag
          have ka : Kept [] wr (wr.alloc (.cells #[.int .u8 q, .int .i64 n, .bool ag] 56)) := (Kept.refl _ _).alloc _
          have HO := hid (new_alloc wr (.cells #[.int .u8 q, .int .i64 n, .bool ag] 56))
          have HI := hid (HI.out.keep ka)
          have hcB := cells_of HI.out.ptr
          have hcQ := cells_of HI.out.pend
          have hcP := cells_of HI.out.inv.plan
          clear ka
          have hcase : q % 5 = 0 ∨ q % 5 = 1 ∨ q % 5 = 2 ∨ q % 5 = 3 ∨ q % 5 = 4 := by omega
          rcases hcase with hq | hq | hq | hq | hq
          · as_aux_lemma =>
              go_wp2_with fail
              refine (c78_0 B D w1.heap.size (w1.heap.size + 1) (w1.heap.size + 1 + 1) p 1 q n ag _ HI.out.inv.bank HI.out.inv.plan HI.out.ptr HI.out.pend (by have := HPD.out.2.2.2.1; simpa using this) (by have := HPD.out.2.2.1; simpa using this)).mono ?_
              rintro e w2 ⟨rfl, hk', hb', hq'⟩
              have HI := hid (HI.out.does hk' HBD.out.2 (by have := HPD.out.2.2.2.2; omega) ⟨HPD.out.1, by omega⟩ ⟨HPD.out.2.1, by omega⟩ hb' hq')
              clear hk' hb' hq' hcP hcB hcQ
              have hcP := cells_of HI.out.inv.plan
              have hcB := cells_of HI.out.ptr
              have hcQ := cells_of HI.out.pend
              go_wp2_with fail
              go_region_held3 (fun w' => (∀ i, w'.cell? ⟨w1.heap.size, i, none⟩ = l211.cells[i]?) ∧ (∀ i, w'.cell? ⟨w1.heap.size + 1, i, none⟩ = #[Value.pointer (some ⟨B, 0, none⟩)][i]?) ∧ (∀ i, w'.cell? ⟨w1.heap.size + 1 + 1, i, none⟩ = #[Value.int .i64 (wrap64 (p + n))][i]?))
                (first | exact ⟨hcP, hcB, hcQ⟩ | exact ⟨hcP1, hcB1, hcQ1⟩)
                (first
                  | (go_at_call 31; refine (c80b B D (wrap64 (p + n)) 1 true rfl _ (HI.out.inv.bank.keep (Kept.refl [] _).drew (by simp) (by simp))).mono ?_; rintro e y1 ⟨rfl, hk', hb'⟩; have hi1 := (HI.out.keep (Kept.refl [] _).drew).turn hk' HBD.out.2 HPD.out.1 HPD.out.2.1 HPD.out.2.2.1 hb'; have hcP1 := cells_of hi1.inv.plan; have hcB1 := cells_of hi1.ptr; have hcQ1 := cells_of hi1.pend)
                  | (go_at_call 26; refine (c42p B D (wrap64 (p + n)) 1 _ hi1.inv.bank).mono ?_; rintro e y2 ⟨rfl, rfl⟩))
              have HI := hid hi1
              clear hi1 hcP hcB hcQ hcP1 hcB1 hcQ1 hk' hb'
              go_wp2_with fail
              go_roundw
              case rel => exact ⟨k + 1, _, by go_num, by omega, HI.out⟩
              case measure => simp [intOf]; omega
          · as_aux_lemma =>
              go_wp2_with fail
              refine (c78_1 B D w1.heap.size (w1.heap.size + 1) (w1.heap.size + 1 + 1) p 1 q n ag _ HI.out.inv.bank HI.out.inv.plan HI.out.ptr HI.out.pend (by have := HPD.out.2.2.2.1; simpa using this) (by have := HPD.out.2.2.1; simpa using this)).mono ?_
              rintro e w2 ⟨rfl, hk', hb', hq'⟩
              have HI := hid (HI.out.does hk' HBD.out.2 (by have := HPD.out.2.2.2.2; omega) ⟨HPD.out.1, by omega⟩ ⟨HPD.out.2.1, by omega⟩ hb' hq')
              clear hk' hb' hq' hcP hcB hcQ
              have hcP := cells_of HI.out.inv.plan
              have hcB := cells_of HI.out.ptr
              have hcQ := cells_of HI.out.pend
              go_wp2_with fail
              go_region_held3 (fun w' => (∀ i, w'.cell? ⟨w1.heap.size, i, none⟩ = l211.cells[i]?) ∧ (∀ i, w'.cell? ⟨w1.heap.size + 1, i, none⟩ = #[Value.pointer (some ⟨B, 0, none⟩)][i]?) ∧ (∀ i, w'.cell? ⟨w1.heap.size + 1 + 1, i, none⟩ = #[Value.int .i64 (wrap64 (p + -1))][i]?))
                (first | exact ⟨hcP, hcB, hcQ⟩ | exact ⟨hcP1, hcB1, hcQ1⟩)
                (first
                  | (go_at_call 31; refine (c80b B D (wrap64 (p + -1)) 1 true rfl _ (HI.out.inv.bank.keep (Kept.refl [] _).drew (by simp) (by simp))).mono ?_; rintro e y1 ⟨rfl, hk', hb'⟩; have hi1 := (HI.out.keep (Kept.refl [] _).drew).turn hk' HBD.out.2 HPD.out.1 HPD.out.2.1 HPD.out.2.2.1 hb'; have hcP1 := cells_of hi1.inv.plan; have hcB1 := cells_of hi1.ptr; have hcQ1 := cells_of hi1.pend)
                  | (go_at_call 26; refine (c42p B D (wrap64 (p + -1)) 1 _ hi1.inv.bank).mono ?_; rintro e y2 ⟨rfl, rfl⟩))
              have HI := hid hi1
              clear hi1 hcP hcB hcQ hcP1 hcB1 hcQ1 hk' hb'
              go_wp2_with fail
              go_roundw
              case rel => exact ⟨k + 1, _, by go_num, by omega, HI.out⟩
              case measure => simp [intOf]; omega
          · as_aux_lemma =>
              go_wp2_with fail
              refine (c78_2 B D w1.heap.size (w1.heap.size + 1) (w1.heap.size + 1 + 1) p 1 q n ag _ HI.out.inv.bank HI.out.inv.plan HI.out.ptr HI.out.pend (by have := HPD.out.2.2.2.1; simpa using this) (by have := HPD.out.2.2.1; simpa using this)).mono ?_
              rintro e w2 ⟨rfl, hk', hb', hq'⟩
              have HI := hid (HI.out.does hk' HBD.out.2 (by have := HPD.out.2.2.2.2; omega) ⟨HPD.out.1, by omega⟩ ⟨HPD.out.2.1, by omega⟩ hb' hq')
              clear hk' hb' hq' hcP hcB hcQ
              have hcP := cells_of HI.out.inv.plan
              have hcB := cells_of HI.out.ptr
              have hcQ := cells_of HI.out.pend
              go_wp2_with fail
              go_region_held3 (fun w' => (∀ i, w'.cell? ⟨w1.heap.size, i, none⟩ = l211.cells[i]?) ∧ (∀ i, w'.cell? ⟨w1.heap.size + 1, i, none⟩ = #[Value.pointer (some ⟨B, 0, none⟩)][i]?) ∧ (∀ i, w'.cell? ⟨w1.heap.size + 1 + 1, i, none⟩ = #[Value.int .i64 p][i]?))
                (first | exact ⟨hcP, hcB, hcQ⟩ | exact ⟨hcP1, hcB1, hcQ1⟩)
                (first
                  | (go_at_call 31; refine (c80b B D p 1 true rfl _ (HI.out.inv.bank.keep (Kept.refl [] _).drew (by simp) (by simp))).mono ?_; rintro e y1 ⟨rfl, hk', hb'⟩; have hi1 := (HI.out.keep (Kept.refl [] _).drew).turn hk' HBD.out.2 HPD.out.1 HPD.out.2.1 HPD.out.2.2.1 hb'; have hcP1 := cells_of hi1.inv.plan; have hcB1 := cells_of hi1.ptr; have hcQ1 := cells_of hi1.pend)
                  | (go_at_call 26; refine (c42p B D p 1 _ hi1.inv.bank).mono ?_; rintro e y2 ⟨rfl, rfl⟩))
              have HI := hid hi1
              clear hi1 hcP hcB hcQ hcP1 hcB1 hcQ1 hk' hb'
              go_wp2_with fail
              go_roundw
              case rel => exact ⟨k + 1, _, by go_num, by omega, HI.out⟩
              case measure => simp [intOf]; omega
          · as_aux_lemma =>
              go_wp2_with fail
              refine (c78_3 B D w1.heap.size (w1.heap.size + 1) (w1.heap.size + 1 + 1) p 1 q n ag _ HI.out.inv.bank HI.out.inv.plan HI.out.ptr HI.out.pend (by have := HPD.out.2.2.2.1; simpa using this) (by have := HPD.out.2.2.1; simpa using this)).mono ?_
              rintro e w2 ⟨rfl, hk', hb', hq'⟩
              have HI := hid (HI.out.does hk' HBD.out.2 (by have := HPD.out.2.2.2.2; omega) ⟨HPD.out.1, by omega⟩ ⟨HPD.out.2.1, by omega⟩ hb' hq')
              clear hk' hb' hq' hcP hcB hcQ
              have hcP := cells_of HI.out.inv.plan
              have hcB := cells_of HI.out.ptr
              have hcQ := cells_of HI.out.pend
              go_wp2_with fail
              go_region_held3 (fun w' => (∀ i, w'.cell? ⟨w1.heap.size, i, none⟩ = l211.cells[i]?) ∧ (∀ i, w'.cell? ⟨w1.heap.size + 1, i, none⟩ = #[Value.pointer (some ⟨B, 0, none⟩)][i]?) ∧ (∀ i, w'.cell? ⟨w1.heap.size + 1 + 1, i, none⟩ = #[Value.int .i64 p][i]?))
                (first | exact ⟨hcP, hcB, hcQ⟩ | exact ⟨hcP1, hcB1, hcQ1⟩)
                (first
                  | (go_at_call 31; refine (c80b B D p 1 true rfl _ (HI.out.inv.bank.keep (Kept.refl [] _).drew (by simp) (by simp))).mono ?_; rintro e y1 ⟨rfl, hk', hb'⟩; have hi1 := (HI.out.keep (Kept.refl [] _).drew).turn hk' HBD.out.2 HPD.out.1 HPD.out.2.1 HPD.out.2.2.1 hb'; have hcP1 := cells_of hi1.inv.plan; have hcB1 := cells_of hi1.ptr; have hcQ1 := cells_of hi1.pend)
                  | (go_at_call 26; refine (c42p B D p 1 _ hi1.inv.bank).mono ?_; rintro e y2 ⟨rfl, rfl⟩))
              have HI := hid hi1
              clear hi1 hcP hcB hcQ hcP1 hcB1 hcQ1 hk' hb'
              go_wp2_with fail
              go_roundw
              case rel => exact ⟨k + 1, _, by go_num, by omega, HI.out⟩
              case measure => simp [intOf]; omega
          · as_aux_lemma =>
              go_wp2_with fail
              refine (c78_4 B D w1.heap.size (w1.heap.size + 1) (w1.heap.size + 1 + 1) p 1 q n ag _ HI.out.inv.bank HI.out.inv.plan HI.out.ptr HI.out.pend (by have := HPD.out.2.2.2.1; simpa using this) (by have := HPD.out.2.2.1; simpa using this)).mono ?_
              rintro e w2 ⟨rfl, hk', hb', hq'⟩
              have HI := hid (HI.out.does hk' HBD.out.2 (by have := HPD.out.2.2.2.2; omega) ⟨HPD.out.1, by omega⟩ ⟨HPD.out.2.1, by omega⟩ hb' hq')
              clear hk' hb' hq' hcP hcB hcQ
              have hcP := cells_of HI.out.inv.plan
              have hcB := cells_of HI.out.ptr
              have hcQ := cells_of HI.out.pend
              go_wp2_with fail
              go_region_held3 (fun w' => (∀ i, w'.cell? ⟨w1.heap.size, i, none⟩ = l211.cells[i]?) ∧ (∀ i, w'.cell? ⟨w1.heap.size + 1, i, none⟩ = #[Value.pointer (some ⟨B, 0, none⟩)][i]?) ∧ (∀ i, w'.cell? ⟨w1.heap.size + 1 + 1, i, none⟩ = #[Value.int .i64 p][i]?))
                (first | exact ⟨hcP, hcB, hcQ⟩ | exact ⟨hcP1, hcB1, hcQ1⟩)
                (first
                  | (go_at_call 31; refine (c80b B D p 1 true rfl _ (HI.out.inv.bank.keep (Kept.refl [] _).drew (by simp) (by simp))).mono ?_; rintro e y1 ⟨rfl, hk', hb'⟩; have hi1 := (HI.out.keep (Kept.refl [] _).drew).turn hk' HBD.out.2 HPD.out.1 HPD.out.2.1 HPD.out.2.2.1 hb'; have hcP1 := cells_of hi1.inv.plan; have hcB1 := cells_of hi1.ptr; have hcQ1 := cells_of hi1.pend)
                  | (go_at_call 26; refine (c42p B D p 1 _ hi1.inv.bank).mono ?_; rintro e y2 ⟨rfl, rfl⟩))
              have HI := hid hi1
              clear hi1 hcP hcB hcQ hcP1 hcB1 hcQ1 hk' hb'
              go_wp2_with fail
              go_roundw
              case rel => exact ⟨k + 1, _, by go_num, by omega, HI.out⟩
              case measure => simp [intOf]; omega
        · obtain rfl : k = M := by omega
          go_wp2_with fail
          refine (awake13 _).mono ?_
          rintro e w5 ⟨rfl, hk5⟩
          go_wp2_with fail
          go_ret
          exact ⟨rfl, HI.out.inv.kept.trans hk5⟩
end Go.Proofs.Ytklkopoelhndoaa
