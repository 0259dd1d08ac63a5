/- The document's claims, freeings, and who is held. -/
import Derived.Test.YtklkopoelhndoaaFlags3
namespace Go.Proofs.Ytklkopoelhndoaa
open Go.RowKit
set_option linter.unusedVariables false
set_option maxHeartbeats 1000000 in
set_option maxRecDepth 100000 in
theorem c89 (l : Lay) (g c n : Nat) (m : List Int) (v : Int) (w : World) (hn : m.length = n) (hr : RowIn w g m) (hm : n ≤ 524288) (h0 : 0 ≤ l.flag) (h1 : l.flag ≤ 100000) (h2 : 0 ≤ v) (h3 : v ≤ 5000) :
    Calls Try.prog 40 #[l.val, .int .i64 v, .slice (some ⟨g, 0, none⟩) n c] w (PutPostN n (st m (l.flag + v) 0) w) := by
  have HN := hid hn
  have HR := hid (hr.keep ((Kept.refl [] w).alloc (.cells l.cells 25)) (by simp))
  have HM := hid hm
  clear hn hr hm
  go_enter Try.func40, Try.ntmps40
  go_wp2_with fail
  refine (c44n g c n m (l.flag + v) 0 _ HN.out HR.out HM.out).mono ?_
  rintro e w1 ⟨g', c', rfl, hg, hk, hrow, hc⟩
  have H := hid (And.intro hg (And.intro hk (And.intro hrow hc)))
  clear hg hk hrow hc
  go_wp2_with fail
  go_ret
  obtain ⟨hg, hk, hrow, hc⟩ := H.out
  exact ⟨g', c', rfl, by simp at hg; omega, ((Kept.refl [] w).alloc _).trans hk, hrow, hc⟩
def ClaimRef (g0 n : Nat) (m : List Int) (i : Int) (w : World) (e : Ending) (w' : World) : Prop :=
  ∃ g c, e = .returned (.tuple #[.slice (some ⟨g, 0, none⟩) n c, .bool (hits m i 0)]) ∧ Kept [] w w' ∧ RowIn w' g (claimed m i) ∧ (g = g0 ∨ w.heap.size ≤ g)
set_option maxHeartbeats 1000000 in
set_option maxRecDepth 100000 in
theorem c90 (l : Lay) (g c n : Nat) (m : List Int) (v : Int) (w : World) (hn : m.length = n) (hr : RowIn w g m) (hm : n ≤ 524288) (h0 : 0 ≤ l.flag) (h1 : l.flag ≤ 100000) (h2 : 0 ≤ v) (h3 : v ≤ 5000) (h4 : l.flag + v < n) :
    Calls Try.prog 41 #[l.val, .int .i64 v, .slice (some ⟨g, 0, none⟩) n c] w (ClaimRef g n m (l.flag + v) w) := by
  have HN := hid hn
  have HR := hid (hr.keep ((Kept.refl [] w).alloc (.cells l.cells 25)) (by simp))
  have HM := hid hm
  have hin : inB m (l.flag + v) = true := decide_eq_true ⟨by omega, by omega⟩
  have HIN := hid hin
  clear hn hr hm hin
  by_cases hz : ld m (l.flag + v) = 0
  · have HZ := hid hz
    have hzb : (ld m (l.flag + v) != 0) = false := by simp [hz]
    clear hz
    go_enter Try.func41, Try.ntmps41
    go_wp2_with fail
    refine (c41n g c n m (l.flag + v) _ HN.out HR.out).mono ?_
    rintro e w1 ⟨rfl, rfl⟩
    go_wp2_with fail
    refine (c44n g c n m (l.flag + v) 1 _ HN.out HR.out HM.out).mono ?_
    rintro e w1 ⟨g', c', rfl, hg, hk, hrow, hc⟩
    have H := hid (And.intro hg (And.intro hk (And.intro hrow hc)))
    clear hg hk hrow hc
    go_wp2_with fail
    go_ret2
    obtain ⟨hg, hk, hrow, hc⟩ := H.out
    have hh := hits_yes HIN.out HZ.out
    exact ⟨g', c', by rw [hh]; rfl, ((Kept.refl [] w).alloc _).trans hk, by rw [claimed, if_pos hh]; exact hrow, .inr (by simp at hg; omega)⟩
  · have HZ := hid hz
    have hzb : (ld m (l.flag + v) != 0) = true := by simp [hz]
    clear hz
    go_enter Try.func41, Try.ntmps41
    go_wp2_with fail
    refine (c41n g c n m (l.flag + v) _ HN.out HR.out).mono ?_
    rintro e w1 ⟨rfl, rfl⟩
    go_wp2_with fail
    go_ret2
    have hh := hits_no (m := m) (i := l.flag + v) (.inr HZ.out)
    exact ⟨g, c, by rw [hh]; rfl, (Kept.refl [] w).alloc _, by rw [claimed, if_neg (by rw [hh]; decide)]; exact HR.out, .inl rfl⟩
set_option maxHeartbeats 2000000 in
set_option maxRecDepth 100000 in
theorem c95 (l : Lay) (g c n : Nat) (m : List Int) (V : Nat) (w : World) (hn : m.length = n) (hr : RowIn w g m) (h0 : 0 ≤ l.flag) (h1 : l.flag ≤ 100000) (hV : l.verts = (V : Int)) (hV4 : V ≤ 4096) :
    Calls Try.prog 47 #[l.val, .slice (some ⟨g, 0, none⟩) n c] w (ListPost (heldUp l.flag m V) w) := by
  obtain ⟨i0, hi, hz0, hz1, hz2⟩ := info_parts info3
  have HN := hid hn
  have HB := hid hr
  have HV := hid hV
  have hV1 : l.verts ≤ 4096 := by omega
  clear hn hr hV
  go_enter Try.func47, Try.ntmps47
  go_wp2_with fail
  go_loopw [5, 6] (fun v s wr => ∃ k : Nat, s = .int .i64 k ∧ (k : Int) ≤ l.verts ∧ wr.ownsRow (w.heap.size + 1) 3 1 v (heldUp l.flag m k).length ((heldUp l.flag m k).map (Value.int .i64)) ∧ Kept [] (w.alloc (.cells l.cells 25)) wr) (fun _ s _ => V - (intOf s).toNat)
  case atStart => exact ⟨0, rfl, by have := HV.out; omega, World.ownsRow_nil _ _ _ _, Kept.refl _ _⟩
  case round =>
    obtain ⟨k, rfl, hk, hown, hkk⟩ := hrel
    have HK := hid hkk
    have HO := hid hown
    have hcl := cells_of (hkk.get (new_alloc w _) (by simp))
    clear hkk hown
    by_cases hlt : (k : Int) < l.verts
    · have GB := hid (HB.out.keep (((Kept.refl [] w).alloc (.cells l.cells 25)).trans HK.out) (by simp))
      by_cases hz : ld m (l.flag + (k : Int)) = 0
      · have HZ := hid hz
        have hzb : (ld m (l.flag + (k : Int)) != 0) = false := by simp [hz]
        clear hz
        go_wp2_with fail
        refine (c41n g c n m (l.flag + k) _ HN.out GB.out).mono ?_
        rintro e w2 ⟨rfl, rfl⟩
        go_wp2_with fail
        go_roundw
        case rel =>
          refine ⟨k + 1, by go_num, by omega, ?_, HK.out⟩
          rw [heldUp_yes HZ.out]; exact HO.out
        case measure => have := HV.out; simp [intOf]; omega
      · have HZ := hid hz
        have hzb : (ld m (l.flag + (k : Int)) != 0) = true := by simp [hz]
        clear hz
        go_wp2_with fail
        refine (c41n g c n m (l.flag + k) _ HN.out GB.out).mono ?_
        rintro e w2 ⟨rfl, rfl⟩
        go_wp2_with (at_builtin; refine wpList_append_own _ rfl (.tmp 20) (.tmp 22) 39 rfl (w.heap.size + 1) 3 i0 (.int .i64 0) 1 8 Try.underlying39 hi hz0 hz1 hz2 rfl (by decide) _ _ _ rfl (HO.out.alloc _) ⟨wr.heap.size, 0, none⟩ 1 1 [.int .i64 k] rfl rfl ?c1 ?c2 ?c3 ?c4 ?c5 ?_)
        case c1 =>
          intro j u hj
          match j, hj with
          | 0, hj => simp at hj; subst hj; simp [Addr.add]
        case c2 => intro u hu; simp at hu; subst hu; rfl
        case c3 => have := heldUp_le l.flag m k; have := HV.out; unfold maxLen; omega
        case c4 => have := heldUp_le l.flag m k; have := HV.out; omega
        case c5 => have := HK.out.size; simp at this ⊢; omega
        intro v' w1 hown' hgrow _
        have HO' := hid hown'
        have HG := hid hgrow
        have HLT := hid (HO.out.lt)
        clear hown' hgrow
        go_wp2_with fail
        go_roundw
        case rel =>
          refine ⟨k + 1, by go_num, by omega, ?_, (HK.out.alloc _).ofGrown HG.out (fun q hq => by have := HLT.out q hq; simp; omega)⟩
          rw [heldUp_no HZ.out]
          simpa using HO'.out
        case measure => have := HV.out; simp [intOf]; omega
    · have he : (k : Int) = l.verts := by omega
      have HE : Hid (k = V) := hid (by have := HV.out; omega)
      clear he
      go_wp2_with fail
      go_ret
      refine ⟨_, rfl, ((Kept.refl [] w).alloc _).trans HK.out, ?_, fun g hg => by have := (HO.out.lt g hg).1; omega⟩
      rw [← HE.out]
      exact SliceIs.of_owned HO.out
end Go.Proofs.Ytklkopoelhndoaa
