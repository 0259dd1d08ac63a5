/- The law's own claims; who is held, by the program and by the document. -/
import Derived.Test.YtklkopoelhndoaaFlags2
namespace Go.Proofs.Ytklkopoelhndoaa
open Go.RowKit
set_option linter.unusedVariables false
def claimed (m : List Int) (i : Int) : List Int := if hits m i 0 = true then st m i 1 else m
theorem claimed_length (m : List Int) (i : Int) : (claimed m i).length = m.length := by unfold claimed; split <;> simp [st_length]
set_option maxHeartbeats 1000000 in
set_option maxRecDepth 100000 in
theorem c62 (l : Lay) (B D : Nat) (m : List Int) (v : Int) (w : World) (hb : BankAt w B D m) (h0 : 0 ≤ l.flag) (h1 : l.flag ≤ 100000) (h2 : 0 ≤ v) (h3 : v ≤ 5000) :
    Calls Try.prog 18 #[l.val, .pointer (some ⟨B, 0, none⟩), .int .i64 v] w fun e w' => e = .returned (.bool (hits m (l.flag + v) 0)) ∧ Kept [D] w w' ∧ BankAt w' B D (claimed m (l.flag + v)) := by
  have HB := hid hb
  have G := hid (fun W => c91 l v W h0 h1 h2 h3)
  clear hb
  go_enter Try.func18, Try.ntmps18
  go_wp2_with fail
  refine (G.out _).mono ?_
  rintro e w1 ⟨rfl, hk1⟩
  have HK1 := hid (((Kept.refl [] w).alloc (.cells l.cells 25)).trans hk1)
  clear hk1
  have hsz : w.heap.size ≤ w1.heap.size := HK1.out.size
  have HSZ := hid hsz
  clear hsz
  have HP0 := hid (new_alloc w1 (.cells (claimCells (l.flag + v) false false) 81))
  have HB1 := hid (HB.out.keep (HK1.out.alloc (.cells (claimCells (l.flag + v) false false) 81)) (by simp) (by simp))
  have HKa := hid (HK1.out.alloc (.cells (claimCells (l.flag + v) false false) 81))
  have HN : Hid (w1.heap.size ≠ B ∧ w1.heap.size ≠ D) := hid ⟨fun e => by have := (HB.out.keep HK1.out (by simp) (by simp)).ltB; omega, fun e => by have := (HB.out.keep HK1.out (by simp) (by simp)).ltD; omega⟩
  go_wp2_with fail
  refine (c93 w1.heap.size B D m (l.flag + v) false false _ HP0.out HB1.out HN.out.1 HN.out.2).mono ?_
  rintro e w2 ⟨rfl, hs⟩
  have HS := hid hs
  clear hs
  go_wp2_with fail
  refine (c92 w1.heap.size (l.flag + v) true (hits m (l.flag + v) 0) w2 HS.out.claim).mono ?_
  rintro e w3 ⟨rfl, rfl⟩
  go_wp2_with fail
  go_ret
  exact ⟨rfl, (HKa.out.of_nil (M := [D])).drop HS.out.kept (fun x hx => (List.mem_cons.1 hx).elim (fun h => .inr (by rw [h]; exact HSZ.out)) (fun h => .inl h)), HS.out.bank⟩
/-! ### who is held -/
def heldUp (fl : Int) (m : List Int) : Nat → List Int
  | 0 => []
  | k + 1 => if ld m (fl + k) = 0 then heldUp fl m k else heldUp fl m k ++ [(k : Int)]
theorem heldUp_le (fl : Int) (m : List Int) (k : Nat) : (heldUp fl m k).length ≤ k := by
  induction k with
  | zero => simp [heldUp]
  | succ k ih =>
    rw [heldUp]
    split
    · omega
    · simp; omega
theorem heldUp_yes {fl : Int} {m : List Int} {k : Nat} (h : ld m (fl + k) = 0) : heldUp fl m (k + 1) = heldUp fl m k := by rw [heldUp, if_pos h]
theorem heldUp_no {fl : Int} {m : List Int} {k : Nat} (h : ¬ ld m (fl + k) = 0) : heldUp fl m (k + 1) = heldUp fl m k ++ [(k : Int)] := by rw [heldUp, if_neg h]
theorem info3 : (Try.prog.info? 3).map (fun i => (i.zero, i.size, i.bytes)) = some (some (.int .i64 0), 1, 8) := by kernel_rfl
/-- a list of numbers in memory of the call's own -/
def ListPost (xs : List Int) (w : World) (e : Ending) (w' : World) : Prop :=
  ∃ v, e = .returned v ∧ Kept [] w w' ∧ SliceIs w' v xs ∧ (∀ g, v.ownBlock = some g → w.heap.size ≤ g)
theorem Kept.ofGrown {L : List Nat} {a w w' : World} {r : Option Nat} (h : Kept L a w) (hg : w.grownBy w' r) (hr : ∀ k, r = some k → a.heap.size ≤ k) : Kept L a w' :=
  h.drop (Kept.grown hg) (fun x hx => .inr (hr x (by cases r <;> simp_all)))
set_option maxHeartbeats 2000000 in
set_option maxRecDepth 100000 in
theorem c55 (l : Lay) (B D : Nat) (m : List Int) (V : Nat) (w : World) (hb : BankAt w B D m) (h0 : 0 ≤ l.flag) (h1 : l.flag ≤ 100000) (hV : l.verts = (V : Int)) (hV4 : V ≤ 4096) :
    Calls Try.prog 19 #[l.val, .pointer (some ⟨B, 0, none⟩)] w (ListPost (heldUp l.flag m V) w) := by
  obtain ⟨i0, hi, hz0, hz1, hz2⟩ := info_parts info3
  have HB := hid hb
  have HV := hid hV
  have hV1 : l.verts ≤ 4096 := by omega
  clear hb hV
  go_enter Try.func19, Try.ntmps19
  go_wp2_with fail
  go_loopw [5, 9] (fun v s wr => ∃ k : Nat, s = .int .i64 k ∧ (k : Int) ≤ l.verts ∧ wr.ownsRow (w.heap.size + 1) 3 1 v (heldUp l.flag m k).length ((heldUp l.flag m k).map (Value.int .i64)) ∧ Kept [] (w.alloc (.cells l.cells 25)) wr) (fun _ s _ => V - (intOf s).toNat)
  case atStart => exact ⟨0, rfl, by have := HV.out; omega, World.ownsRow_nil _ _ _ _, Kept.refl _ _⟩
  case round =>
    obtain ⟨k, rfl, hk, hown, hkk⟩ := hrel
    have HK := hid hkk
    have HO := hid hown
    have hcl := cells_of (hkk.get (new_alloc w _) (by simp))
    clear hkk hown
    by_cases hlt : (k : Int) < l.verts
    · have GB := hid (HB.out.keep (((Kept.refl [] w).alloc (.cells l.cells 25)).trans HK.out) (by simp) (by simp))
      by_cases hz : ld m (l.flag + (k : Int)) = 0
      · have HZ := hid hz
        have hzb : (ld m (l.flag + (k : Int)) != 0) = false := by simp [hz]
        clear hz
        go_wp2_with fail
        refine (c42 B D m (l.flag + k) _ GB.out).mono ?_
        rintro e w2 ⟨rfl, rfl⟩
        go_wp2_with fail
        go_roundw
        case rel =>
          refine ⟨k + 1, by go_num, by omega, ?_, HK.out⟩
          rw [heldUp_yes HZ.out]; exact HO.out
        case measure => have := HV.out; simp [intOf]; omega
      · have HZ := hid hz
        have hzb : (ld m (l.flag + (k : Int)) != 0) = true := by simp [hz]
        clear hz
        go_wp2_with fail
        refine (c42 B D m (l.flag + k) _ GB.out).mono ?_
        rintro e w2 ⟨rfl, rfl⟩
        go_wp2_with (at_builtin; refine wpList_append_own _ rfl (.tmp 19) (.tmp 21) 39 rfl (w.heap.size + 1) 3 i0 (.int .i64 0) 1 8 Try.underlying39 hi hz0 hz1 hz2 rfl (by decide) _ _ _ rfl (HO.out.alloc _) ⟨wr.heap.size, 0, none⟩ 1 1 [.int .i64 k] rfl rfl ?c1 ?c2 ?c3 ?c4 ?c5 ?_)
        case c1 =>
          intro j u hj
          match j, hj with
          | 0, hj => simp at hj; subst hj; simp [Addr.add]
        case c2 => intro u hu; simp at hu; subst hu; rfl
        case c3 => have := heldUp_le l.flag m k; have := HV.out; unfold maxLen; omega
        case c4 => have := heldUp_le l.flag m k; have := HV.out; omega
        case c5 => have := HK.out.size; simp at this ⊢; omega
        intro v' w1 hown' hgrow _
        have HO' := hid hown'
        have HG := hid hgrow
        have HLT := hid (HO.out.lt)
        clear hown' hgrow
        go_wp2_with fail
        go_roundw
        case rel =>
          refine ⟨k + 1, by go_num, by omega, ?_, (HK.out.alloc _).ofGrown HG.out (fun q hq => by have := HLT.out q hq; simp; omega)⟩
          rw [heldUp_no HZ.out]
          simpa using HO'.out
        case measure => have := HV.out; simp [intOf]; omega
    · have he : (k : Int) = l.verts := by omega
      have HE : Hid (k = V) := hid (by have := HV.out; omega)
      clear he
      go_wp2_with fail
      go_ret
      refine ⟨_, rfl, ((Kept.refl [] w).alloc _).trans HK.out, ?_, fun g hg => by have := (HO.out.lt g hg).1; omega⟩
      rw [← HE.out]
      exact SliceIs.of_owned HO.out
end Go.Proofs.Ytklkopoelhndoaa
