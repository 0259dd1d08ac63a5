/- alone: a machine by itself, a kind each. -/
import Derived.Test.YtlbhckndejldcaaDBank
namespace Go.Proofs.Ytlbhckndejldcaa
open Go.RowKit
set_option linter.unusedVariables false
set_option maxHeartbeats 1000000 in
set_option maxRecDepth 100000 in
theorem alone_pop (P B D : Nat) (l : Lay) (p : Pt) (m : List Int) (R : Int × Pt × List Int) (w : World) (h : PopAt w P l p) (hb : BankAt w B D m) (hPB : P ≠ B ∧ P ≠ D) (ok : popOKs l 9 p m) (hR : popE l 9 1 p m = R) (h0 : 0 < R.1) :
    Calls Try.prog 35 #[.iface 74 (.pointer (some ⟨P, 0, none⟩)), .pointer (some ⟨B, 0, none⟩)] w fun e w' => e = .returned (.bool true) ∧ Kept [P, D] w w' ∧ PopAt w' P l R.2.1 ∧ BankAt w' B D R.2.2 := by
  have G := hid (ends_pop P B D l p m R w h hb hPB ok hR)
  obtain ⟨a, b⟩ := R
  obtain ⟨r, hr⟩ : ∃ r, r = a := ⟨_, rfl⟩
  simp only [← hr] at G h0 ⊢
  clear hr hR h hb ok
  go_enter Try.func35, Try.ntmps35
  go_wp2_with fail
  refine G.out.mono ?_
  rintro e w1 ⟨rfl, hk⟩
  have HK := hid hk
  clear hk G
  go_wp2_with fail
  go_ret
  exact ⟨rfl, HK.out⟩
set_option maxHeartbeats 1000000 in
set_option maxRecDepth 100000 in
theorem alone_steal (P B D : Nat) (l : Lay) (p : Pt) (s : Bool) (m : List Int) (R : Int × Pt × Bool × List Int) (w : World) (h : StealAt w P l p s) (hb : BankAt w B D m) (hPB : P ≠ B ∧ P ≠ D) (ok : stealOKs l 9 p s m) (hR : stealE l 9 1 p s m = R) (h0 : 0 < R.1) :
    Calls Try.prog 35 #[.iface 75 (.pointer (some ⟨P, 0, none⟩)), .pointer (some ⟨B, 0, none⟩)] w fun e w' => e = .returned (.bool true) ∧ Kept [P, D] w w' ∧ StealAt w' P l R.2.1 R.2.2.1 ∧ BankAt w' B D R.2.2.2 := by
  have G := hid (ends_steal P B D l p s m R w h hb hPB ok hR)
  obtain ⟨a, b⟩ := R
  obtain ⟨r, hr⟩ : ∃ r, r = a := ⟨_, rfl⟩
  simp only [← hr] at G h0 ⊢
  clear hr hR h hb ok
  go_enter Try.func35, Try.ntmps35
  go_wp2_with fail
  refine G.out.mono ?_
  rintro e w1 ⟨rfl, hk⟩
  have HK := hid hk
  clear hk G
  go_wp2_with fail
  go_ret
  exact ⟨rfl, HK.out⟩
set_option maxHeartbeats 1000000 in
set_option maxRecDepth 100000 in
theorem alone_push (P B D : Nat) (l : Lay) (v : Int) (p : Pt) (m : List Int) (R : Int × Pt × List Int) (w : World) (h : PushAt w P l p v) (hb : BankAt w B D m) (hPB : P ≠ B ∧ P ≠ D) (ok : pushOKs l v 9 p m) (hR : pushE l v 9 1 p m = R) (h0 : 0 < R.1) :
    Calls Try.prog 35 #[.iface 73 (.pointer (some ⟨P, 0, none⟩)), .pointer (some ⟨B, 0, none⟩)] w fun e w' => e = .returned (.bool true) ∧ Kept [P, D] w w' ∧ PushAt w' P l R.2.1 v ∧ BankAt w' B D R.2.2 := by
  have G := hid (ends_push P B D l v p m R w h hb hPB ok hR)
  obtain ⟨a, b⟩ := R
  obtain ⟨r, hr⟩ : ∃ r, r = a := ⟨_, rfl⟩
  simp only [← hr] at G h0 ⊢
  clear hr hR h hb ok
  go_enter Try.func35, Try.ntmps35
  go_wp2_with fail
  refine G.out.mono ?_
  rintro e w1 ⟨rfl, hk⟩
  have HK := hid hk
  clear hk G
  go_wp2_with fail
  go_ret
  exact ⟨rfl, HK.out⟩
end Go.Proofs.Ytlbhckndejldcaa
